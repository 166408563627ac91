import Derived.Test.YtjlicbdnppodgaaA3
import Derived.Test.YtjlicbdnppodgaaWho
import Derived.BigQuiet
namespace Go.Proofs.Ytjlicbdnppodgaa
open Go.RowKit
/-! The law CutInside, walked. -/
theorem open_err {c : Cut} {piece : Int} (h : openE c piece ≠ 0) : ((checkS c).2 ≠ 0 ∧ openE c piece = (checkS c).2) ∨ ((checkS c).2 = 0 ∧ openE c piece = 2 ∧ (piece < 0 ∨ greatS c < piece)) := by
  unfold openE at h ⊢
  by_cases h1 : (checkS c).2 ≠ 0
  · rw [if_pos h1]; exact .inl ⟨h1, rfl⟩
  · rw [if_neg h1] at h ⊢
    right
    refine ⟨Classical.not_not.1 h1, ?_⟩
    by_cases h2 : inS piece 0 (greatS c) = true
    · rw [if_pos h2] at h; exact absurd rfl h
    · rw [if_neg h2]
      refine ⟨rfl, ?_⟩
      unfold inS at h2
      rw [decide_eq_true_eq] at h2
      omega
theorem At.kept {α : Type} {w w' : World} {B size : Nat} {cells : α → List Value} {A : Option Addr} {l : List α} (h : At w B size cells A l) (hb : Below B w w') : At w' B size cells A l := h.below hb
def isF (l : List Int) (j : Nat) : Bool := decide ((j : Int) ∈ l)
theorem isF_take {l : List Int} {t : Nat} (ht : t < l.length) (j : Nat) : isF (l.take (t + 1)) j = (isF (l.take t) j || decide ((j : Int) = l[t])) := by
  unfold isF
  rw [List.take_succ_eq_append_getElem ht, Bool.eq_iff_iff]
  simp only [decide_eq_true_eq, Bool.or_eq_true, List.mem_append, List.mem_singleton]
structure InCM (c : Cut) (g : Nat) (A : Option Addr) (l : List Int) (w V : World) (f : Nat → Bool) : Prop where
  x : Bx V w.heap.size (cutL c)
  e : BBlk V g 40 f
  b : Below w.heap.size w V
  a : At V g 1 icell A l
  hg : w.heap.size < g
theorem InCM.next {c : Cut} {g : Nat} {A : Option Addr} {l : List Int} {w V V' : World} {f : Nat → Bool} (h : InCM c g A l w V f) (hb : Below V.heap.size V V') : InCM c g A l w V' f := ⟨h.x.next hb, h.e.next hb, h.b.trans (hb.mono h.b.size), h.a.kept (hb.mono (Nat.le_of_lt h.e.lt)), h.hg⟩
theorem InCM.drewN {c : Cut} {g k : Nat} {A : Option Addr} {l : List Int} {w V : World} {f : Nat → Bool} (h : InCM c g A l w V f) : InCM c g A l w (V.drewN k) f := ⟨h.x.drewN, h.e.drewN, below_drewN h.b k, h.a, h.hg⟩
theorem InCM.set {c : Cut} {g m : Nat} {A : Option Addr} {l : List Int} {w V : World} {f f' : Nat → Bool} (h : InCM c g A l w V f) (hm : m < 40) (h1 : f' m = true) (h2 : ∀ j, j ≠ m → f' j = f j) : InCM c g A l w (V.setCell ⟨g, m, none⟩ (.bool true)) f' :=
  ⟨h.x.far (by have := h.hg; omega) _, h.e.set_ hm h1 h2, h.b.setCell (p := ⟨g, m, none⟩) (Nat.le_of_lt h.hg) _, fun k x hx => by
    obtain ⟨b, off, e, hb, hc⟩ := h.a k x hx
    exact ⟨b, off, e, hb, fun j u hu => (World.cell?_setCell_other _ _ _ _ (by intro e'; injection e' with e'; omega)).trans (hc j u hu)⟩, h.hg⟩
structure In1R (c : Cut) (g : Nat) (A : Option Addr) (l : List Int) (w : World) (f : Nat → Value) (V : World) (t : Nat) (la : Int) : Prop where
  ht : t ≤ l.length
  s88 : f 88 = .int .i64 (t : Int)
  s10 : f 10 = .int .i64 la
  hla : ∀ h : t < l.length, la < l[t]
  m : InCM c g A l w V (isF (l.take t))
structure In2R (c : Cut) (g : Nat) (A : Option Addr) (l : List Int) (w : World) (N : Nat) (f : Nat → Value) (V : World) (k : Nat) : Prop where
  hk : k ≤ N
  s13 : f 13 = .int .i64 (k : Int)
  m : InCM c g A l w V (isF l)
structure In3R (c : Cut) (g : Nat) (A : Option Addr) (l : List Int) (w : World) (A2 : Option Addr) (l2 : List Pt) (f : Nat → Value) (V : World) (t : Nat) : Prop where
  ht : t ≤ l2.length
  s124 : f 124 = .int .i64 (t : Int)
  m : InCM c g A l w V (isF l)
  a : At V V.heap.size 2 sideC A2 l2
structure In4R (c : Cut) (g : Nat) (A : Option Addr) (l : List Int) (w : World) (A3 : Option Addr) (l3 : List Int) (f : Nat → Value) (V : World) (t : Nat) : Prop where
  ht : t ≤ l3.length
  s173 : f 173 = .int .i64 (t : Int)
  m : InCM c g A l w V (isF l)
  a : At V V.heap.size 1 icell A3 l3
theorem falses40 : falses 40 = #[.bool false, .bool false, .bool false, .bool false, .bool false, .bool false, .bool false, .bool false, .bool false, .bool false, .bool false, .bool false, .bool false, .bool false, .bool false, .bool false, .bool false, .bool false, .bool false, .bool false, .bool false, .bool false, .bool false, .bool false, .bool false, .bool false, .bool false, .bool false, .bool false, .bool false, .bool false, .bool false, .bool false, .bool false, .bool false, .bool false, .bool false, .bool false, .bool false, .bool false] := by kernel_rfl
def inO : List (Option Nat) := [none, none, none, none, some 4, none, none, none, none, none, some 10, none, some 12, none, none, none, none, none, none, none, none, none, none, none, none, none, none, none, none, none, none, none, none, none, none, none, none, none, none, none, none, none, none, none, none, none, none, none, none, none, none, none, none, none, none, none, none, none, none, none, none, none, none, none, none, none, none, none, none, none, none, none, none, none, none, none, none, none, none, none, none, none, none, none, none, none, none, none, some 88, some 89, some 90, some 91, some 92, some 93, some 94, some 95, some 96, some 97, some 98, some 99, some 100, some 101, some 102, some 103, some 104, some 105, some 106, some 107, some 108, none, none, none, none, none, none, none, none, none, none, none, none, none, none, none, none, none, none, none, none, none, none, none, none, none, none, none, none, none, none, none, none, none, none, none, none, none, none, none, none, none, none, none, none, none, none, none, none, none, none, none, none, none, none, none, none, none, none, none, none, none, none, none, none, none, none, none, none, none, none, none, none, none, none, none, none, none, none, none, none, none, none, none]
def inK : List (Option Nat) := [none, none, none, none, some 4, none, none, none, none, none, none, none, none, some 13, some 14, some 15, none, some 17, some 18, some 19, none, some 21, none, none, none, none, none, none, none, none, none, none, none, none, none, none, none, none, none, none, none, none, none, none, none, none, none, none, none, none, none, none, none, none, none, none, none, none, none, none, none, none, none, none, none, none, none, none, none, none, none, none, none, none, none, none, none, none, none, none, none, none, none, none, none, none, none, none, none, none, none, none, none, none, none, none, none, none, none, none, none, none, none, none, none, none, none, none, none, some 109, some 110, some 111, some 112, some 113, some 114, some 115, some 116, some 117, some 118, some 119, some 120, some 121, some 122, some 123, some 124, some 125, some 126, some 127, some 128, some 129, some 130, some 131, some 132, some 133, some 134, some 135, some 136, some 137, some 138, some 139, some 140, some 141, some 142, some 143, some 144, some 145, some 146, some 147, some 148, some 149, some 150, some 151, some 152, some 153, some 154, some 155, some 156, some 157, some 158, some 159, some 160, some 161, some 162, some 163, some 164, some 165, some 166, some 167, some 168, some 169, some 170, some 171, some 172, some 173, some 174, some 175, some 176, some 177, some 178, some 179, some 180, some 181, some 182, some 183, some 184, some 185, some 186, some 187, some 188, some 189, some 190, none]
def inS3 : List (Option Nat) := [none, none, none, none, some 4, none, none, none, none, none, none, none, none, none, none, none, none, some 17, none, none, none, none, none, none, none, none, none, none, none, none, none, none, none, none, none, none, none, none, none, none, none, none, none, none, none, none, none, none, none, none, none, none, none, none, none, none, none, none, none, none, none, none, none, none, none, none, none, none, none, none, none, none, none, none, none, none, none, none, none, none, none, none, none, none, none, none, none, none, none, none, none, none, none, none, none, none, none, none, none, none, none, none, none, none, none, none, none, none, none, none, none, none, none, none, none, none, none, none, none, none, none, none, none, none, some 124, some 125, some 126, some 127, some 128, some 129, some 130, some 131, some 132, some 133, some 134, some 135, some 136, some 137, some 138, some 139, some 140, some 141, some 142, some 143, some 144, some 145, some 146, some 147, some 148, some 149, some 150, some 151, some 152, some 153, some 154, some 155, some 156, some 157, some 158, none, none, none, none, none, none, none, none, none, none, none, none, none, none, none, none, none, none, none, none, none, none, none, none, none, none, none, none, none, none, none, none, none]
def inI : List (Option Nat) := [none, none, none, none, some 4, none, none, none, none, none, none, none, none, none, none, none, none, none, none, none, none, some 21, none, none, none, none, none, none, none, none, none, none, none, none, none, none, none, none, none, none, none, none, none, none, none, none, none, none, none, none, none, none, none, none, none, none, none, none, none, none, none, none, none, none, none, none, none, none, none, none, none, none, none, none, none, none, none, none, none, none, none, none, none, none, none, none, none, none, none, none, none, none, none, none, none, none, none, none, none, none, none, none, none, none, none, none, none, none, none, none, none, none, none, none, none, none, none, none, none, none, none, none, none, none, none, none, none, none, none, none, none, none, none, none, none, none, none, none, none, none, none, none, none, none, none, none, none, none, none, none, none, none, none, none, none, none, none, none, none, none, none, none, none, none, none, none, none, none, none, none, none, none, none, some 173, some 174, some 175, some 176, some 177, some 178, some 179, some 180, some 181, some 182, some 183, some 184, some 185, some 186, some 187, some 188, some 189, some 190, none]
set_option maxRecDepth 100000 in
set_option maxHeartbeats 8000000 in
theorem CutInside_walk (c : Cut) (piece : Int) (w : World) (hc : CutAt w w.heap.size c) (hp : I64 piece) : Calls Try.prog 8 #[.agg #[.int .i64 c.wide, .int .i64 c.high, .slice c.A c.piece.length c.c], .int .i64 piece] w (Ret (.bool true) w) := by
  have hb := nxA w (.cells #[.int .i64 c.wide, .int .i64 c.high, .slice c.A c.piece.length c.c] 24)
  have HX := Lib.hid (Bx.new w #[.int .i64 c.wide, .int .i64 c.high, .slice c.A c.piece.length c.c] 24)
  have HC := Lib.hid (hc.next hb)
  have HCW := Lib.hid hc
  have HB := Lib.hid hb
  have HP := Lib.hid hp
  clear hc hb hp
  go_enter Try.func8, Try.ntmps8
  go_upto_region 1 with fail
  generalize (w.alloc (.cells #[.int .i64 c.wide, .int .i64 c.high, .slice c.A c.piece.length c.c] 24)) = V0 at *
  have c0 := HX.out.c 0 _ rfl
  have c1 := HX.out.c 1 _ rfl
  have c2 := HX.out.c 2 _ rfl
  go_wp2_with fail
  refine (Cut_any c V0 HC.out).mono ?_
  rintro e V1 ⟨rfl, hb⟩
  replace HX := Lib.hid (HX.out.next hb)
  replace HC := Lib.hid (HC.out.next hb)
  replace HB := Lib.hid (HB.out.trans (hb.mono HB.out.size))
  clear hb c0 c1 c2
  cases hcs : cutS c
  · clear hcs
    go_wp2_with fail
    refine (awake_any V1).mono ?_
    rintro e V2 ⟨rfl, hb⟩
    go_wp2_with fail
    go_ret
    exact ⟨rfl, HB.out.trans (hb.mono HB.out.size)⟩
  · have OK := Lib.hid ((okc_iff c).1 hcs)
    clear hcs
    have c0 := HX.out.c 0 _ rfl
    have c1 := HX.out.c 1 _ rfl
    have c2 := HX.out.c 2 _ rfl
    go_wp2_with fail
    refine (InsideP_any c piece V1 HP.out HC.out).mono ?_
    rintro e V2 ⟨A, k1, rfl, hs, hb⟩
    have HS := Lib.hid hs
    replace HX := Lib.hid (HX.out.next hb)
    replace HC := Lib.hid (HC.out.next hb)
    replace HB := Lib.hid (HB.out.trans (hb.mono HB.out.size))
    clear hs hb c0 c1 c2
    have c0 := HX.out.c 0 _ rfl
    have c1 := HX.out.c 1 _ rfl
    have c2 := HX.out.c 2 _ rfl
    go_wp2_with fail
    refine (CheckP_any c V2 HC.out).mono ?_
    rintro e V3 ⟨rfl, hb⟩
    replace HX := Lib.hid (HX.out.next hb)
    replace HC := Lib.hid (HC.out.next hb)
    replace HS := Lib.hid (HS.out.next hb)
    replace HB := Lib.hid (HB.out.trans (hb.mono HB.out.size))
    clear hb c0 c1 c2
    unfold checkV
    by_cases h0 : openE c piece = 0
    · have hG := openE_good h0
      have GC := Lib.hid (GoodC.of (c := c) (by rw [hG.ck]))
      have hg := great_bd OK.out
      have hpc := hG.pc
      have HL := Lib.hid (show insideL c piece = insTo c piece ((greatS c).toNat + 1) from by unfold insideL; rw [if_pos h0])
      have hck := hG.ck
      rw [hck, h0]
      dsimp only
      obtain ⟨l, hl⟩ : ∃ l, l = insideL c piece := ⟨_, rfl⟩
      have HLE := Lib.hid (show l = insTo c piece ((greatS c).toNat + 1) from by rw [hl, HL.out])
      have HLL := Lib.hid (show l.length ≤ 1000 from by rw [hl]; exact insideL_len c piece)
      rw [← hl] at HS ⊢
      have HLM := Lib.hid (fun (k : Int) => (show k ∈ l ↔ (0 ≤ k ∧ k < greatS c + 1) ∧ insB c piece k = true from by
        rw [HLE.out, insTo_mem]
        have : (((greatS c).toNat + 1 : Nat) : Int) = greatS c + 1 := by omega
        rw [this]))
      have HLA := Lib.hid (show l.Pairwise (· < ·) from by rw [HLE.out]; exact insTo_asc _ _ _)
      obtain ⟨N, hN⟩ : ∃ N : Nat, N = (greatS c).toNat + 1 := ⟨_, rfl⟩
      have hNI : greatS c + 1 = (N : Int) := by omega
      have HNI := Lib.hid hNI
      have hN40 : 1 ≤ N ∧ N ≤ 40 := by omega
      have hpN : 0 ≤ piece ∧ piece < (N : Int) := by omega
      rw [hNI]
      have hll := HLL.out
      clear hG hck hl h0 hN hNI hg hpc
      have hd1 : ¬ piece < 0 := by omega
      have hd2 : ¬ (N : Int) ≤ piece := by omega
      have hd3 : ¬ 40 < (N : Int) := by omega
      go_wp2_with fail
      have hb4 := nxA V3 (.cells (falses 40) 59)
      obtain ⟨g, hg0⟩ : ∃ g, g = V3.heap.size := ⟨_, rfl⟩
      obtain ⟨V4, hV4⟩ : ∃ V, V = V3.alloc (.cells (falses 40) 59) := ⟨_, rfl⟩
      have HM0 := Lib.hid (show InCM c g A l w V4 (isF (l.take 0)) from ⟨by rw [hV4]; exact HX.out.next hb4, by rw [hV4, hg0]; exact (BBlk.falses V3 40 _).congr (fun j _ => by simp [isF]), by rw [hV4]; exact HB.out.trans (hb4.mono HB.out.size), by rw [hV4, hg0]; exact HS.out.below hb4, by rw [hg0]; exact HX.out.lt⟩)
      rw [falses40] at hV4
      rw [← hV4, ← hg0]
      clear hV4 hg0 hb4 HX HB HS HC hd1 hd2 hd3
      refine wp_loopM inO (fun f V => ∃ t la, In1R c g A l w f V t la) (fun f _ => l.length - (intOf (f 88)).toNat) (by kernel_rfl) ⟨0, -1, by omega, slotF_at rfl, slotF_at rfl, fun h => by have := (HLM.out l[0]).1 (List.getElem_mem h); omega, HM0.out⟩ ?_
      clear HM0
      intro f Vi hrel
      obtain ⟨t, la, hr⟩ := hrel
      have ht := hr.ht
      have e88 := hr.s88
      have e10 := hr.s10
      simp only [inO, mixF, e88, e10]
      have HR := Lib.hid hr
      have HE88 := Lib.hid e88
      clear hr e88 e10
      by_cases htl : t < l.length
      · have htlI : (t : Int) < (l.length : Int) := by omega
        obtain ⟨q, hq⟩ : ∃ q, q = l[t] := ⟨_, rfl⟩
        have hx : l[t]? = some q := by rw [hq]; exact List.getElem?_eq_getElem htl
        obtain ⟨pb, off, eA, hpb, hcell⟩ := HR.out.m.a t q hx
        have z0 : Vi.cell? ⟨pb, off + t, none⟩ = some (.int .i64 q) := by have := hcell 0 _ rfl; rw [Nat.mul_one] at this; exact this
        have hqm := (HLM.out q).1 (by rw [hq]; exact List.getElem_mem htl)
        have hqn := HNI.out
        have hlast := HR.out.hla htl
        rw [← hq] at hlast
        have e3 : (q == piece) = false := by have := ((insB_iff c piece q).1 hqm.2).1; simp [this]
        obtain ⟨m, hm⟩ : ∃ m : Nat, (m : Int) = q := ⟨q.toNat, by omega⟩
        have hm40 : m < 40 := by omega
        have hd1 : ¬ q ≤ la := by omega
        have hd2 : ¬ (N : Int) ≤ q := by omega
        have hi1 : 0 ≤ q := by omega
        have hi2 : q < 40 := by omega
        have hi3 : q.toNat = m := by omega
        have y0 := HR.out.m.e.cell m hm40
        have y1 := HR.out.m.e.free m
        have hw1 : IntKind.i64.wrap ((t : Int) + 1) = (t : Int) + 1 := IntWalk.i64_in _ (by omega)
        have HM := Lib.hid (HR.out.m.set (m := m) (f' := isF (l.take (t + 1))) hm40 (by rw [isF_take htl, ← hq, hm]; simp) (fun j hj => by
          rw [isF_take htl, ← hq]
          have : ¬ (j : Int) = q := by omega
          simp [this]))
        have HNL := Lib.hid (fun (h : t + 1 < l.length) => (show q < l[t + 1] from by rw [hq]; exact List.pairwise_iff_getElem.1 HLA.out t (t + 1) htl h (by omega)))
        have HMU := Lib.hid (show l.length - (t + 1) < l.length - t from by omega)
        subst eA
        clear hx hq hcell hpb hqm hqn hlast hm
        go_wp2_with fail
        refine endM (by kernel_rfl) (by kernel_rfl) ⟨t + 1, q, ⟨by omega, slotF_at rfl, slotF_at rfl, fun h => HNL.out h, HM.out⟩⟩ ?_
        show l.length - (intOf (slotF _ 88)).toNat < l.length - (intOf (f 88)).toNat
        rw [slotF_at rfl, HE88.out]
        have := HMU.out
        simp [intOf]
        omega
      · have htlI : ¬ (t : Int) < (l.length : Int) := by omega
        have HM := Lib.hid (show InCM c g A l w Vi (isF l) from by have := HR.out.m; rw [List.take_of_length_le (by omega)] at this; exact this)
        clear HR HE88 ht
        go_wp2_with fail
        refine wp_loopM inK (fun f' V' => ∃ k, In2R c g A l w N f' V' k) (fun f' _ => N - (intOf (f' 13)).toNat) (by kernel_rfl) ⟨0, by omega, slotF_at rfl, HM.out⟩ ?_
        clear HM htl htlI
        intro f2 V5 hrel
        obtain ⟨k, hr⟩ := hrel
        have hk := hr.hk
        have e13 := hr.s13
        simp only [inK, mixF, e13]
        have HE13 := Lib.hid e13
        have HM := Lib.hid hr.m
        clear hr e13
        by_cases hkN : k < N
        · have hkI : (k : Int) < (N : Int) := by omega
          have hkg : 0 ≤ (k : Int) ∧ (k : Int) ≤ greatS c := by have := HNI.out; omega
          have HOP := Lib.hid (show openE c (k : Int) = 0 from by
            unfold openE
            rw [GC.out.check, if_neg (by simp), if_pos (by unfold inS; simp; omega)])
          have HMU := Lib.hid (show N - (k + 1) < N - k from by omega)
          have hw1 : IntKind.i64.wrap ((k : Int) + 1) = (k : Int) + 1 := IntWalk.i64_in _ (by omega)
          have HI := Lib.hid (show isF l k = insB c piece (k : Int) from by
            unfold isF
            rw [Bool.eq_iff_iff, decide_eq_true_eq, HLM.out]
            exact ⟨fun h => h.2, fun h => ⟨by omega, h⟩⟩)
          have HKG := Lib.hid hkg
          clear hkg
          have c0 := HM.out.x.c 0 _ rfl
          have c1 := HM.out.x.c 1 _ rfl
          have c2 := HM.out.x.c 2 _ rfl
          go_wp2_with fail
          refine (SidesP_any c (k : Int) V5 ⟨by omega, by omega⟩ (HCW.out.next HM.out.b)).mono ?_
          rintro e V6 ⟨A2, k2, rfl, hs, hb⟩
          rw [HOP.out]
          obtain ⟨l2, hl2⟩ : ∃ l2, l2 = sidesL c (k : Int) := ⟨_, rfl⟩
          rw [← hl2] at hs ⊢
          have HL2 := Lib.hid (show l2 = sidesS c (k : Int) from by rw [hl2]; unfold sidesL; rw [if_pos HOP.out])
          have hll2 : l2.length ≤ 1000 := by rw [hl2]; exact sidesL_len c k
          have HM6 := Lib.hid (HM.out.next hb)
          have HA2 := Lib.hid hs
          clear hb hs hl2 c0 c1 c2
          go_wp2_with fail
          refine wp_loopM inS3 (fun f' V' => ∃ t, In3R c g A l w A2 l2 f' V' t) (fun f' _ => l2.length - (intOf (f' 124)).toNat) (by kernel_rfl) ⟨0, by omega, slotF_at rfl, HM6.out, HA2.out⟩ ?_
          clear HM6 HA2 HM
          intro f3 V7 hrel
          obtain ⟨t2, hr⟩ := hrel
          have ht2 := hr.ht
          have e124 := hr.s124
          simp only [inS3, mixF, e124]
          have HE124 := Lib.hid e124
          have HM := Lib.hid hr.m
          have HA2 := Lib.hid hr.a
          clear hr e124
          by_cases htl : t2 < l2.length
          · have htlI : (t2 : Int) < (l2.length : Int) := by omega
            obtain ⟨q, hq⟩ : ∃ q, q = l2[t2] := ⟨_, rfl⟩
            have hx : l2[t2]? = some q := by rw [hq]; exact List.getElem?_eq_getElem htl
            obtain ⟨pb, off, eA, hpb, hcell⟩ := HA2.out t2 q hx
            have z0 : V7.cell? ⟨pb, off + t2 * 2, none⟩ = some (.int .i64 q.1) := hcell 0 _ rfl
            have z1 : V7.cell? ⟨pb, off + t2 * 2 + 1, none⟩ = some (.int .i64 q.2) := hcell 1 _ rfl
            have hqm : q ∈ sidesS c (k : Int) := by rw [← HL2.out, hq]; exact List.getElem_mem htl
            have hqf : (-1 ≤ q.1 ∧ q.1 < (N : Int)) ∧ q.1 ≠ (k : Int) := by
              have h1 := HL2.out
              subst h1
              have := side_at OK.out (k : Int) htl
              rw [← hq] at this
              have := HNI.out
              omega
            have hsd : (k : Int) ≠ piece → q.1 ≠ piece → insB c piece (k : Int) = (decide (0 ≤ q.1) && insB c piece q.1) := fun h1 h2 => ins_side OK.out HKG.out.1 h1 hqm h2
            rw [← HI.out] at hsd
            have hw2 : IntKind.i64.wrap ((t2 : Int) + 1) = (t2 : Int) + 1 := IntWalk.i64_in _ (by omega)
            have HMU2 := Lib.hid (show l2.length - (t2 + 1) < l2.length - t2 from by omega)
            have n16 := nxA V7 (.cells #[.int .i64 q.1, .int .i64 q.2] 54)
            have X16 := Lib.hid (Bx.new V7 #[.int .i64 q.1, .int .i64 q.2] 54)
            have HMI := Lib.hid (HM.out.next n16)
            have HAI := Lib.hid (HA2.out.next n16)
            have x0 := X16.out.c 0 _ rfl
            have y0 := HMI.out.e.cell k (by omega)
            have hi1 : (k : Int) < 40 := by omega
            have HIm := Lib.hid (fun (m : Nat) (hm : (m : Int) = q.1) => (show isF l m = insB c piece q.1 from by
              unfold isF
              rw [Bool.eq_iff_iff, decide_eq_true_eq, HLM.out, hm]
              have := HNI.out
              exact ⟨fun h => h.2, fun h => ⟨by omega, h⟩⟩))
            subst eA
            clear hx hq hcell n16 hpb hqm
            have hd1 : ¬ (k : Int) < 0 := by omega
            by_cases hkp : (k : Int) = piece
            · have e1 : ((k : Int) == piece) = true := by simp [hkp]
              have e1' : ((k : Int) != piece) = false := by simp [hkp]
              clear hsd hkp
              go_wp2_with (go_quiet (fail))
              refine endM (by kernel_rfl) (by kernel_rfl) ⟨t2 + 1, ⟨by omega, slotF_at rfl, HMI.out.drewN, HAI.out⟩⟩ ?_
              show l2.length - (intOf (slotF _ 124)).toNat < l2.length - (intOf (f3 124)).toNat
              rw [slotF_at rfl, HE124.out]
              have := HMU2.out
              simp [intOf]
              omega
            · have e1 : ((k : Int) == piece) = false := by simp [hkp]
              have e1' : ((k : Int) != piece) = true := by simp [hkp]
              by_cases hqp : q.1 = piece
              · have e2 : (q.1 == piece) = true := by simp [hqp]
                have e2' : (q.1 != piece) = false := by simp [hqp]
                clear hsd hkp hqp
                go_wp2_with (go_quiet (fail))
                refine endM (by kernel_rfl) (by kernel_rfl) ⟨t2 + 1, ⟨by omega, slotF_at rfl, HMI.out.drewN, HAI.out⟩⟩ ?_
                show l2.length - (intOf (slotF _ 124)).toNat < l2.length - (intOf (f3 124)).toNat
                rw [slotF_at rfl, HE124.out]
                have := HMU2.out
                simp [intOf]
                omega
              · have e2 : (q.1 == piece) = false := by simp [hqp]
                have e2' : (q.1 != piece) = true := by simp [hqp]
                have hs2 := hsd hkp hqp
                by_cases hq0 : 0 ≤ q.1
                · obtain ⟨m, hm⟩ : ∃ m : Nat, (m : Int) = q.1 := ⟨q.1.toNat, by omega⟩
                  have hs3 : isF l k = isF l m := by rw [hs2, HIm.out m hm, decide_eq_true hq0, Bool.true_and]
                  have hi2 : q.1 < 40 := by omega
                  have hi3 : q.1.toNat = m := by omega
                  have hi4 : q.1 < (N : Int) := by omega
                  have y2 := HMI.out.e.cell m (by omega)
                  rw [hs3] at y0
                  have hbb : (isF l m != isF l m) = false := by simp
                  have hd3 : ¬ q.1 < 0 := by omega
                  generalize isF l m = bm at y0 y2 hbb
                  clear hsd hkp hqp hs2 hs3 hm
                  go_wp2_with (go_quiet (fail))
                  refine endM (by kernel_rfl) (by kernel_rfl) ⟨t2 + 1, ⟨by omega, slotF_at rfl, HMI.out.drewN, HAI.out⟩⟩ ?_
                  show l2.length - (intOf (slotF _ 124)).toNat < l2.length - (intOf (f3 124)).toNat
                  rw [slotF_at rfl, HE124.out]
                  have := HMU2.out
                  simp [intOf]
                  omega
                · have hd4 : decide (0 ≤ q.1) = false := decide_eq_false hq0
                  rw [hd4, Bool.false_and] at hs2
                  rw [hs2] at y0
                  clear hsd hkp hqp hs2
                  go_wp2_with (go_quiet (fail))
                  refine endM (by kernel_rfl) (by kernel_rfl) ⟨t2 + 1, ⟨by omega, slotF_at rfl, HMI.out.drewN, HAI.out⟩⟩ ?_
                  show l2.length - (intOf (slotF _ 124)).toNat < l2.length - (intOf (f3 124)).toNat
                  rw [slotF_at rfl, HE124.out]
                  have := HMU2.out
                  simp [intOf]
                  omega
          · have htlI : ¬ (t2 : Int) < (l2.length : Int) := by omega
            clear htl ht2 HA2 HL2 HE124
            have y0 := HM.out.e.cell k (by omega)
            have hi1 : (k : Int) < 40 := by omega
            cases hbk : isF l k
            · rw [hbk] at y0
              clear hbk
              go_wp2_with fail
              refine endM (by kernel_rfl) (by kernel_rfl) ⟨k + 1, ⟨by omega, slotF_at rfl, HM.out⟩⟩ ?_
              show N - (intOf (slotF _ 13)).toNat < N - (intOf (f2 13)).toNat
              rw [slotF_at rfl, HE13.out]
              have := HMU.out
              simp [intOf]
              omega
            · rw [hbk] at y0
              rw [HI.out] at hbk
              have HBK := Lib.hid hbk
              clear hbk
              have c0 := HM.out.x.c 0 _ rfl
              have c1 := HM.out.x.c 1 _ rfl
              have c2 := HM.out.x.c 2 _ rfl
              go_wp2_with fail
              refine (InsideP_any c (k : Int) V7 ⟨by omega, by omega⟩ (HCW.out.next HM.out.b)).mono ?_
              rintro e V8 ⟨A3, k3, rfl, hs, hb⟩
              rw [HOP.out]
              obtain ⟨l3, hl3⟩ : ∃ l3, l3 = insideL c (k : Int) := ⟨_, rfl⟩
              rw [← hl3] at hs ⊢
              have HL3 := Lib.hid (show l3 = insTo c (k : Int) ((greatS c).toNat + 1) from by rw [hl3]; unfold insideL; rw [if_pos HOP.out])
              have hll3 : l3.length ≤ 1000 := by rw [hl3]; exact insideL_len c k
              have HM8 := Lib.hid (HM.out.next hb)
              have HA3 := Lib.hid hs
              clear hb hs hl3 c0 c1 c2 y0
              go_wp2_with fail
              refine wp_loopM inI (fun f' V' => ∃ t, In4R c g A l w A3 l3 f' V' t) (fun f' _ => l3.length - (intOf (f' 173)).toNat) (by kernel_rfl) ⟨0, by omega, slotF_at rfl, HM8.out, HA3.out⟩ ?_
              clear HM8 HA3 HM
              intro f4 V9 hrel
              obtain ⟨t3, hr⟩ := hrel
              have ht3 := hr.ht
              have e173 := hr.s173
              simp only [inI, mixF, e173]
              have HE173 := Lib.hid e173
              have HM := Lib.hid hr.m
              have HA3 := Lib.hid hr.a
              clear hr e173
              by_cases htl : t3 < l3.length
              · have htlJ : (t3 : Int) < (l3.length : Int) := by omega
                obtain ⟨q, hq⟩ : ∃ q, q = l3[t3] := ⟨_, rfl⟩
                have hx : l3[t3]? = some q := by rw [hq]; exact List.getElem?_eq_getElem htl
                obtain ⟨pb, off, eA, hpb, hcell⟩ := HA3.out t3 q hx
                have z0 : V9.cell? ⟨pb, off + t3, none⟩ = some (.int .i64 q) := by have := hcell 0 _ rfl; rw [Nat.mul_one] at this; exact this
                have hqm : q ∈ insTo c (k : Int) ((greatS c).toNat + 1) := by rw [← HL3.out, hq]; exact List.getElem_mem htl
                rw [insTo_mem] at hqm
                have hgn := HNI.out
                have hin : insB c piece q = true := ins_ins OK.out (fun k hk => (has_cell OK.out).2 (GC.out.cells k hk.1 hk.2)) (piece := piece) (k := (k : Int)) (by omega) HKG.out.1 HBK.out hqm.2
                obtain ⟨m, hm⟩ : ∃ m : Nat, (m : Int) = q := ⟨q.toNat, by omega⟩
                have hbm : isF l m = true := by
                  unfold isF
                  rw [decide_eq_true_eq, HLM.out, hm]
                  exact ⟨by omega, hin⟩
                have y2 := HM.out.e.cell m (by omega)
                rw [hbm] at y2
                have hd5 : ¬ q < 0 := by omega
                have hd6 : ¬ (N : Int) ≤ q := by omega
                have hd7 : 0 ≤ q := by omega
                have hi2 : q < 40 := by omega
                have hi3 : q.toNat = m := by omega
                have hw3 : IntKind.i64.wrap ((t3 : Int) + 1) = (t3 : Int) + 1 := IntWalk.i64_in _ (by omega)
                have HMU3 := Lib.hid (show l3.length - (t3 + 1) < l3.length - t3 from by omega)
                have HAE := Lib.hid HA3.out
                subst eA
                clear hx hq hcell hpb hqm hgn hin hm hbm
                go_wp2_with fail
                refine endM (by kernel_rfl) (by kernel_rfl) ⟨t3 + 1, ⟨by omega, slotF_at rfl, HM.out, HAE.out⟩⟩ ?_
                show l3.length - (intOf (slotF _ 173)).toNat < l3.length - (intOf (f4 173)).toNat
                rw [slotF_at rfl, HE173.out]
                have := HMU3.out
                simp [intOf]
                omega
              · have htlJ : ¬ (t3 : Int) < (l3.length : Int) := by omega
                clear htl ht3 HA3 HL3 HE173
                go_wp2_with fail
                refine endM (by kernel_rfl) (by kernel_rfl) ⟨k + 1, ⟨by omega, slotF_at rfl, HM.out⟩⟩ ?_
                show N - (intOf (slotF _ 13)).toNat < N - (intOf (f2 13)).toNat
                rw [slotF_at rfl, HE13.out]
                have := HMU.out
                simp [intOf]
                omega
        · have hkI : ¬ (k : Int) < (N : Int) := by omega
          go_wp2_with fail
          refine (awake_any V5).mono ?_
          rintro e V6 ⟨rfl, hb⟩
          go_wp2_with fail
          go_ret
          exact ⟨rfl, HM.out.b.trans (hb.mono HM.out.b.size)⟩
    · have hl : insideL c piece = [] := by unfold insideL; rw [if_neg h0]
      have hor := open_err h0
      rw [hl]
      have e0 : (openE c piece == 0) = false := by simp [h0]
      rcases hor with ⟨h1, h2⟩ | ⟨h1, h2, h3⟩
      · rw [h2]
        rw [h2] at e0
        have e1 : ((checkS c).2 == 0) = false := by simp [h1]
        have e2 : ((checkS c).2 == (checkS c).2) = true := by simp
        generalize (checkS c).1 = n0 at *
        generalize (checkS c).2 = ee at *
        clear hl h0 h2 h1
        go_wp2_with fail
        refine (awake_any V3).mono ?_
        rintro e V4 ⟨rfl, hb⟩
        go_wp2_with fail
        go_ret
        exact ⟨rfl, HB.out.trans (hb.mono HB.out.size)⟩
      · have hck := (GoodC.of h1).check
        rw [hck, h2]
        dsimp only
        clear e0 hl h0 h1 h2 hck
        have hg := great_bd OK.out
        by_cases h4 : piece < 0
        · clear h3
          go_wp2_with fail
          refine (awake_any V3).mono ?_
          rintro e V4 ⟨rfl, hb⟩
          go_wp2_with fail
          go_ret
          exact ⟨rfl, HB.out.trans (hb.mono HB.out.size)⟩
        · have h5 : greatS c + 1 ≤ piece := by omega
          clear h3
          go_wp2_with fail
          refine (awake_any V3).mono ?_
          rintro e V4 ⟨rfl, hb⟩
          go_wp2_with fail
          go_ret
          exact ⟨rfl, HB.out.trans (hb.mono HB.out.size)⟩
end Go.Proofs.Ytjlicbdnppodgaa
