import Derived.Test.YtjlicbdnppodgaaA3
import Derived.Test.YtjlicbdnppodgaaWho
import Derived.BigQuiet
import Derived.Test.YtjlicbdnppodgaaP11F
namespace Go.Proofs.Ytjlicbdnppodgaa
open Go.RowKit
/-! The law CutWhole, walked. -/
def isZ : Value → Bool
  | .int .i64 0 => true
  | _ => false
theorem isZ_eq {v : Value} (h : isZ v = true) : v = .int .i64 0 := by
  unfold isZ at h
  split at h
  · rfl
  · cases h
theorem all_zeros {cs : Array Value} {n : Nat} (h1 : cs.size = n) (h2 : cs.toList.all isZ = true) : cs = zeros n := by
  have h4 : (zeros n).toList = List.replicate n (.int .i64 0) := toList_madeCells_one _ _
  have h5 : cs.toList = List.replicate n (.int .i64 0) := by
    rw [List.eq_replicate_iff]
    exact ⟨by simpa using h1, fun b hb => isZ_eq (List.all_eq_true.1 h2 b hb)⟩
  rw [← Array.toList_inj, h5, h4]
set_option maxRecDepth 100000 in
theorem zeros51 : Try.zeroCells51 = zeros 1600 := all_zeros Try.zeroCells51_size (by kernel_rfl)
/-- Why a cut is none. -/
theorem check_err {c : Cut} (h : (checkS c).2 ≠ 0) : (((checkS c).2 = 1 ∧ cutS c = false) ∨ (((checkS c).2 = 4 ∨ (checkS c).2 = 6) ∧ cutS c = true)) ∧ 0 ≤ (checkS c).1 ∧ (checkS c).1 < 40 := by
  cases hc : cutS c
  · rw [check_bad hc]
    exact ⟨.inl ⟨rfl, rfl⟩, by decide, by decide⟩
  · have hg := great_bd ((okc_iff c).1 hc)
    unfold checkS at h ⊢
    rw [if_neg (by rw [hc]; simp)] at h ⊢
    split
    · rename_i k hk
      have := List.mem_range.1 (List.mem_of_find?_eq_some hk)
      exact ⟨.inr ⟨.inl rfl, rfl⟩, by show (0 : Int) ≤ (k : Int); omega, by show (k : Int) < 40; omega⟩
    · split
      · rename_i k hk
        have := List.mem_range.1 (List.mem_of_find?_eq_some hk)
        exact ⟨.inr ⟨.inr rfl, rfl⟩, by show (0 : Int) ≤ (k : Int); omega, by show (k : Int) < 40; omega⟩
      · rename_i x1 h1 x2 h2
        rw [h1] at h
        simp only at h
        rw [h2] at h
        exact absurd rfl h
/-! The table of edges. -/
def fF (c : Cut) (k : Nat) (P : Int → Int) (j : Nat) : Int := if j / 40 < k then othE c ((j / 40 : Nat) : Int) ((j % 40 : Nat) : Int) else if j / 40 = k then P ((j % 40 : Nat) : Int) else 0
def oneF (l : List Pt) (m : Int) : Int := sumL (fun p => if p.1 = m then p.2 else 0) l
theorem fF_start (c : Cut) (j : Nat) : fF c 0 (fun _ => 0) j = 0 := by
  unfold fF
  rw [if_neg (by omega)]
  split <;> rfl
theorem fF_next {c : Cut} {k : Nat} {P : Int → Int} (h : ∀ m : Nat, m < 40 → P (m : Int) = othE c (k : Int) (m : Int)) (j : Nat) : fF c (k + 1) (fun _ => 0) j = fF c k P j := by
  unfold fF
  by_cases h1 : j / 40 < k
  · rw [if_pos (by omega), if_pos h1]
  · by_cases h2 : j / 40 = k
    · rw [if_pos (by omega), if_neg h1, if_pos h2, h _ (Nat.mod_lt _ (by omega)), h2]
    · rw [if_neg (by omega), if_neg h1, if_neg h2]
      split <;> rfl
structure WhM (c : Cut) (g : Nat) (w V : World) (f : Nat → Int) : Prop where
  x : Bx V w.heap.size (cutL c)
  e : IBlk V g 1600 f
  b : Below w.heap.size w V
  g : w.heap.size ≤ g
theorem WhM.next {c : Cut} {g : Nat} {w V V' : World} {f : Nat → Int} (h : WhM c g w V f) (hb : Below V.heap.size V V') : WhM c g w V' f := ⟨h.x.next hb, h.e.next hb, h.b.trans (hb.mono h.b.size), h.g⟩
theorem WhM.drew {c : Cut} {g : Nat} {w V : World} {f : Nat → Int} (h : WhM c g w V f) : WhM c g w V.drew f := ⟨h.x.drew, h.e.drew, h.b.drew, h.g⟩
theorem at_far {α : Type} {cells : α → List Value} {size g o : Nat} {V : World} {A : Option Addr} {l : List α} {v : Value} (h : At V V.heap.size size cells A l) (hf : ∀ b off, A = some ⟨b, off, none⟩ → b ≠ g) : At (V.setCell ⟨g, o, none⟩ v).drew (V.setCell ⟨g, o, none⟩ v).drew.heap.size size cells A l := fun k x hx => by
  obtain ⟨b, off, e, hb, hc⟩ := h k x hx
  have hne := hf b off e
  refine ⟨b, off, e, ?_, fun j u hu => (World.cell?_setCell_other _ _ _ _ (by intro e'; injection e' with e'; exact hne e'.symm)).trans (hc j u hu)⟩
  show b < (V.setCell _ _).heap.size
  rw [World.size_setCell]
  exact hb
theorem WhM.drewN {c : Cut} {g k : Nat} {w V : World} {f : Nat → Int} (h : WhM c g w V f) : WhM c g w (V.drewN k) f := ⟨h.x.drewN, h.e.drewN, below_drewN h.b k, h.g⟩
structure WhR1 (c : Cut) (g : Nat) (w : World) (f : Nat → Value) (V : World) (k : Nat) : Prop where
  hk : k ≤ (greatS c).toNat + 1
  s9 : f 9 = .int .i64 (k : Int)
  s5 : f 5 = .int .i64 (sumTo (fun a : Nat => (cellsS c (a : Int) : Int)) k)
  s6 : f 6 = .int .i64 (sumTo (fun a : Nat => edgesR c (a : Int) (-1)) k)
  s7 : f 7 = .int .i64 (sumTo (fun a : Nat => sumTo (fun b : Nat => othE c (a : Int) (b : Int)) ((greatS c).toNat + 1)) k)
  m : WhM c g w V (fF c k (fun _ => 0))
structure WhR2 (c : Cut) (g : Nat) (w : World) (k : Nat) (A : Option Addr) (l : List Pt) (b0 c0 : Int) (f : Nat → Value) (V : World) (t : Nat) (la : Int) : Prop where
  ht : t ≤ l.length
  s94 : f 94 = .int .i64 (t : Int)
  s13 : f 13 = .int .i64 (sumL (fun p => p.2) (l.take t))
  s14 : f 14 = .int .i64 la
  hla : -2 ≤ la ∧ ∀ h : t < l.length, la < l[t].1
  s6 : f 6 = .int .i64 (b0 + oneF (l.take t) (-1))
  s7 : f 7 = .int .i64 (c0 + sumL (fun p => if p.1 = -1 then 0 else p.2) (l.take t))
  m : WhM c g w V (fF c k (oneF (l.take t)))
  at_ : At V V.heap.size 2 sideC A l
theorem sum_bd2 {f : Pt → Int} {l : List Pt} {B : Int} (h : ∀ p ∈ l, 0 ≤ f p ∧ f p ≤ B) : 0 ≤ sumL f l ∧ sumL f l ≤ B * l.length := by
  induction l with
  | nil => exact ⟨Int.le_refl _, by simp [sumL]⟩
  | cons p l ih =>
    have h1 := h p (List.mem_cons_self ..)
    have h2 := ih (fun q hq => h q (List.mem_cons_of_mem _ hq))
    have e : sumL f (p :: l) = f p + sumL f l := rfl
    rw [e, List.length_cons]
    push_cast
    rw [Int.mul_add, Int.mul_one]
    omega
def whO : List (Option Nat) := [none, none, some 2, none, none, some 5, some 6, some 7, none, some 9, some 10, some 11, some 12, some 13, some 14, none, some 16, none, none, none, none, none, none, none, none, none, none, none, none, none, none, none, none, none, none, none, none, none, none, none, none, none, none, none, none, none, none, none, none, none, none, none, none, none, none, none, none, none, none, none, none, none, none, none, none, none, none, none, none, none, none, some 71, some 72, some 73, some 74, some 75, some 76, some 77, some 78, some 79, some 80, some 81, some 82, some 83, some 84, some 85, some 86, some 87, some 88, some 89, some 90, some 91, some 92, some 93, some 94, some 95, some 96, some 97, some 98, some 99, some 100, some 101, some 102, some 103, some 104, some 105, some 106, some 107, some 108, some 109, some 110, some 111, some 112, some 113, some 114, some 115, some 116, some 117, some 118, some 119, some 120, some 121, some 122, some 123, some 124, some 125, some 126, some 127, some 128, some 129, some 130, some 131, some 132, some 133, some 134, some 135, some 136, some 137, some 138, some 139, some 140, some 141, some 142, some 143, some 144, some 145, some 146, some 147, some 148, some 149, some 150, some 151, some 152, none, none, none, none, none, none, none, none, none, none, none, none, none, none, none, none, none, none, none, none, none, none, none, none, none, none, none, none, none, none, none, none, none, none, none, none, none, none, none, none, none, none, none, none, none, none, none, none, none, none, none, none, none, none, none, none, none]
def whI : List (Option Nat) := [none, none, some 2, none, none, none, some 6, some 7, none, none, none, none, none, some 13, some 14, none, some 16, none, none, none, none, none, none, none, none, none, none, none, none, none, none, none, none, none, none, none, none, none, none, none, none, none, none, none, none, none, none, none, none, none, none, none, none, none, none, none, none, none, none, none, none, none, none, none, none, none, none, none, none, none, none, none, none, none, none, none, none, none, none, none, none, none, none, none, none, none, none, none, none, none, none, none, none, none, some 94, some 95, some 96, some 97, some 98, some 99, some 100, some 101, some 102, some 103, some 104, some 105, some 106, some 107, some 108, some 109, some 110, some 111, some 112, some 113, some 114, some 115, some 116, some 117, some 118, some 119, some 120, some 121, some 122, some 123, some 124, some 125, some 126, some 127, some 128, some 129, some 130, some 131, some 132, some 133, some 134, some 135, some 136, some 137, some 138, some 139, some 140, some 141, some 142, some 143, none, none, none, none, none, none, none, none, none, none, none, none, none, none, none, none, none, none, none, none, none, none, none, none, none, none, none, none, none, none, none, none, none, none, none, none, none, none, none, none, none, none, none, none, none, none, none, none, none, none, none, none, none, none, none, none, none, none, none, none, none, none, none, none, none, none]
def whA : List (Option Nat) := [none, none, some 2, none, none, none, none, none, none, none, none, none, none, none, none, none, none, some 17, some 18, none, none, none, none, none, none, none, none, none, none, none, none, none, none, none, none, none, none, none, none, none, none, none, none, none, none, none, none, none, none, none, none, none, none, none, none, none, none, none, none, none, none, none, none, none, none, none, none, none, none, none, none, none, none, none, none, none, none, none, none, none, none, none, none, none, none, none, none, none, none, none, none, none, none, none, none, none, none, none, none, none, none, none, none, none, none, none, none, none, none, none, none, none, none, none, none, none, none, none, none, none, none, none, none, none, none, none, none, none, none, none, none, none, none, none, none, none, none, none, none, none, none, none, none, none, none, none, none, none, none, none, none, none, none, some 153, some 154, some 155, some 156, some 157, some 158, some 159, some 160, some 161, some 162, some 163, some 164, some 165, some 166, some 167, some 168, some 169, some 170, some 171, some 172, some 173, none, none, none, none, none, none, none, none, none, none, none, none, none, none, none, none, none, none, none, none, none, none, none, none, none, none, none, none, none, none, none, none, none, none, none, none]
def whB : List (Option Nat) := [none, none, some 2, none, none, none, none, none, none, none, none, none, none, none, none, none, none, none, some 18, none, none, none, none, none, none, none, none, none, none, none, none, none, none, none, none, none, none, none, none, none, none, none, none, none, none, none, none, none, none, none, none, none, none, none, none, none, none, none, none, none, none, none, none, none, none, none, none, none, none, none, none, none, none, none, none, none, none, none, none, none, none, none, none, none, none, none, none, none, none, none, none, none, none, none, none, none, none, none, none, none, none, none, none, none, none, none, none, none, none, none, none, none, none, none, none, none, none, none, none, none, none, none, none, none, none, none, none, none, none, none, none, none, none, none, none, none, none, none, none, none, none, none, none, none, none, none, none, none, none, none, none, none, none, none, none, none, none, none, some 158, some 159, some 160, some 161, some 162, some 163, some 164, some 165, some 166, some 167, some 168, some 169, some 170, some 171, some 172, some 173, none, none, none, none, none, none, none, none, none, none, none, none, none, none, none, none, none, none, none, none, none, none, none, none, none, none, none, none, none, none, none, none, none, none, none, none]
set_option maxRecDepth 100000 in
set_option maxHeartbeats 8000000 in
theorem CutWhole_walk (c : Cut) (w : World) (hc : CutAt w w.heap.size c) : Calls Try.prog 6 #[.agg #[.int .i64 c.wide, .int .i64 c.high, .slice c.A c.piece.length c.c]] w (Ret (.bool true) w) := by
  have hb := nxA w (.cells #[.int .i64 c.wide, .int .i64 c.high, .slice c.A c.piece.length c.c] 24)
  have HX := Lib.hid (Bx.new w #[.int .i64 c.wide, .int .i64 c.high, .slice c.A c.piece.length c.c] 24)
  have HC := Lib.hid (hc.next hb)
  have HCW := Lib.hid hc
  have HB := Lib.hid hb
  clear hc hb
  go_enter Try.func6, Try.ntmps6
  go_upto_region 1 with fail
  generalize (w.alloc (.cells #[.int .i64 c.wide, .int .i64 c.high, .slice c.A c.piece.length c.c] 24)) = V0 at *
  have c0 := HX.out.c 0 _ rfl
  have c1 := HX.out.c 1 _ rfl
  have c2 := HX.out.c 2 _ rfl
  go_wp2_with fail
  refine (large_any c V0).mono ?_
  rintro e V1 ⟨rfl, hb⟩
  replace HX := Lib.hid (HX.out.next hb)
  replace HC := Lib.hid (HC.out.next hb)
  replace HB := Lib.hid (HB.out.trans (hb.mono HB.out.size))
  clear hb c0 c1 c2
  by_cases hl : 288 < (c.piece.length : Int)
  · have e1 : decide (288 < (c.piece.length : Int)) = true := decide_eq_true hl
    rw [e1]
    clear e1 hl
    go_wp2_with fail
    refine (awake_any V1).mono ?_
    rintro e V2 ⟨rfl, hb⟩
    go_wp2_with fail
    go_ret
    exact ⟨rfl, HB.out.trans (hb.mono HB.out.size)⟩
  · have e1 : decide (288 < (c.piece.length : Int)) = false := decide_eq_false hl
    rw [e1]
    clear e1 hl
    have c0 := HX.out.c 0 _ rfl
    have c1 := HX.out.c 1 _ rfl
    have c2 := HX.out.c 2 _ rfl
    go_wp2_with fail
    refine (CheckP_any c V1 HC.out).mono ?_
    rintro e V2 ⟨rfl, hb⟩
    replace HX := Lib.hid (HX.out.next hb)
    replace HC := Lib.hid (HC.out.next hb)
    replace HB := Lib.hid (HB.out.trans (hb.mono HB.out.size))
    clear hb c0 c1 c2
    unfold checkV
    have c0 := HX.out.c 0 _ rfl
    have c1 := HX.out.c 1 _ rfl
    have c2 := HX.out.c 2 _ rfl
    by_cases h0 : (checkS c).2 = 0
    · obtain ⟨a1, a2, a3, a4⟩ := check_ok h0
      have ok := (okc_iff c).1 a1
      have OK := Lib.hid ok
      have HCE := Lib.hid (show cutE c = 0 from h0)
      have HOP := Lib.hid (fun (k : Nat) (hk : k < (greatS c).toNat + 1) => (show openE c (k : Int) = 0 from by
        have := great_bd ok
        unfold openE
        rw [if_neg (by rw [h0]; simp), if_pos (by unfold inS; simp; omega)]))
      have HNZ := Lib.hid (fun (k : Nat) (hk : k < (greatS c).toNat + 1) => (show 0 < cellsS c (k : Int) from by
        by_cases h : k < (greatS c).toNat
        · exact Nat.pos_of_ne_zero (a3 k h)
        · have := great_bd ok
          rw [show (k : Int) = greatS c by omega]
          refine Nat.pos_of_ne_zero fun e => ?_
          have := (List.countP_eq_zero.1 e) _ (great_in ok)
          simp at this))
      have HCT := Lib.hid a1
      rw [a2]
      have hg := great_bd ok
      have hwd := ok.w
      have hhd := ok.h
      obtain ⟨N, hN⟩ : ∃ N : Nat, N = (greatS c).toNat + 1 := ⟨_, rfl⟩
      have hNI : greatS c + 1 = (N : Int) := by omega
      have hn1 : ¬ greatS c + 1 < 1 := by omega
      have hn2 : ¬ 40 < greatS c + 1 := by omega
      have HN := Lib.hid hN
      have HNI := Lib.hid hNI
      clear a1 a2 a3 a4 h0 ok hN hNI
      go_wp2_with fail
      refine (Cut_any c V2 HC.out).mono ?_
      rintro e V3 ⟨rfl, hb⟩
      rw [HCT.out]
      replace HX := Lib.hid (HX.out.next hb)
      replace HB := Lib.hid (HB.out.trans (hb.mono HB.out.size))
      clear hb c0 c1 c2 HC
      go_wp2_with fail
      have hb := nxA V3 (.cells Try.zeroCells51 51)
      obtain ⟨g, hg0⟩ : ∃ g, g = V3.heap.size := ⟨_, rfl⟩
      obtain ⟨V4, hV4⟩ : ∃ V, V = V3.alloc (.cells Try.zeroCells51 51) := ⟨_, rfl⟩
      have HM0 := Lib.hid (show WhM c g w V4 (fF c 0 (fun _ => 0)) from ⟨by rw [hV4]; exact HX.out.next hb, by rw [hV4, zeros51, hg0]; exact (IBlk.zeros V3 1600 _).congr (fun j => fF_start c j), by rw [hV4]; exact HB.out.trans (hb.mono HB.out.size), by rw [hg0]; exact HB.out.size⟩)
      have hgn : g ≠ w.heap.size := by have := HX.out.lt; omega
      rw [← hV4, ← hg0]
      clear hV4 hg0 hb HX HB
      have HGN := Lib.hid hgn
      clear hgn
      have HCL := Lib.hid (fun (k : Int) => (show (0 : Int) ≤ (cellsS c k : Int) ∧ (cellsS c k : Int) ≤ 1000 from by
        have h1 : cellsS c k ≤ c.piece.length := List.countP_le_length
        have h2 := OK.out.len
        have h3 := Int.mul_le_mul hwd.2 hhd.2 (by omega) (by omega)
        omega))
      refine wp_loopM whO (fun f V => ∃ k, WhR1 c g w f V k) (fun f _ => N - (intOf (f 9)).toNat) (by kernel_rfl) ⟨0, by omega, slotF_at rfl, slotF_at rfl, slotF_at rfl, slotF_at rfl, HM0.out⟩ ?_
      intro f V hrel
      obtain ⟨k, hr⟩ := hrel
      have hk := hr.hk
      have e9 := hr.s9
      have e5 := hr.s5
      have e6 := hr.s6
      have e7 := hr.s7
      simp only [whO, mixF, e9, e5, e6, e7]
      have HR := Lib.hid hr
      have HE9 := Lib.hid e9
      rw [← HN.out] at hk
      have hN40 : N ≤ 40 := by have := HNI.out; omega
      have bs1 := sumTo_bd (f := fun a : Nat => (cellsS c (a : Int) : Int)) (B := 1000) (fun a => HCL.out a) k
      have bs2 := sumTo_bd (f := fun a : Nat => edgesR c (a : Int) (-1)) (B := 1000) (fun a => ⟨edgesR_nn c _ _, edges_lt OK.out _ _⟩) k
      have bs3 := sumTo_bd (f := fun a : Nat => sumTo (fun b : Nat => othE c (a : Int) (b : Int)) ((greatS c).toNat + 1)) (B := 40000) (fun a => by
        have := sumTo_bd (f := fun b : Nat => othE c (a : Int) (b : Int)) (B := 1000) (fun b => ⟨oth_nn c _ _, oth_lt OK.out _ _⟩) ((greatS c).toNat + 1)
        have := HN.out
        omega) k
      have c0 := hr.m.x.c 0 _ rfl
      have c1 := hr.m.x.c 1 _ rfl
      have c2 := hr.m.x.c 2 _ rfl
      obtain ⟨cs, hcs⟩ : ∃ x, x = sumTo (fun a : Nat => (cellsS c (a : Int) : Int)) k := ⟨_, rfl⟩
      obtain ⟨bd, hbd⟩ : ∃ x, x = sumTo (fun a : Nat => edgesR c (a : Int) (-1)) k := ⟨_, rfl⟩
      obtain ⟨cm, hcm⟩ : ∃ x, x = sumTo (fun a : Nat => sumTo (fun b : Nat => othE c (a : Int) (b : Int)) ((greatS c).toNat + 1)) k := ⟨_, rfl⟩
      rw [← hcs] at bs1 ⊢
      rw [← hbd] at bs2 ⊢
      rw [← hcm] at bs3 ⊢
      have HCS := Lib.hid hcs
      have HBD := Lib.hid hbd
      have HCM := Lib.hid hcm
      clear hr e9 e5 e6 e7 hcs hbd hcm
      by_cases hkN : k < N
      · have hkI : (k : Int) < greatS c + 1 := by have := HNI.out; omega
        have hkg : k < (greatS c).toNat + 1 := by rw [← HN.out]; exact hkN
        have how := HNZ.out k hkg
        have hob := HCL.out (k : Int)
        have HOK := Lib.hid (HOP.out k hkg)
        have HMU := Lib.hid (show N - (k + 1) < N - k from by omega)
        obtain ⟨ow, hwe⟩ : ∃ ow : Int, ow = ((cellsS c (k : Int) : Nat) : Int) := ⟨_, rfl⟩
        have how2 : 1 ≤ ow := by omega
        rw [← hwe] at hob
        have HOW := Lib.hid hwe
        have hw1 : IntKind.i64.wrap (cs + ow) = cs + ow := IntWalk.i64_in _ (by omega)
        have hw2 : IntKind.i64.wrap ((k : Int) + 1) = (k : Int) + 1 := IntWalk.i64_in _ (by omega)
        have hw3 : IntKind.i64.wrap (4 * ow) = 4 * ow := IntWalk.i64_in _ (by omega)
        clear how hwe
        go_wp2_with fail
        refine (Cells_any c (k : Int) V (HCW.out.next HR.out.m.b)).mono ?_
        rintro e V5 ⟨rfl, hb⟩
        rw [← HOW.out]
        have HM5 := Lib.hid (HR.out.m.next hb)
        have e1 : (ow == 0) = false := by simp; omega
        clear hb c0 c1 c2
        have c0 := HM5.out.x.c 0 _ rfl
        have c1 := HM5.out.x.c 1 _ rfl
        have c2 := HM5.out.x.c 2 _ rfl
        go_wp2_with fail
        refine (SidesF_any c (k : Int) V5 ⟨by omega, by omega⟩ (HCW.out.next HM5.out.b)).mono ?_
        rintro e V6 ⟨A, cap, rfl, hat, hb, hfr⟩
        have HFR := Lib.hid (show ∀ b off, A = some ⟨b, off, none⟩ → b ≠ g from fun b off e => by have h1 := hfr b off e; have h2 := HM5.out.e.lt; omega)
        clear hfr
        rw [HOK.out]
        obtain ⟨l, hle⟩ : ∃ l, l = sidesL c (k : Int) := ⟨_, rfl⟩
        rw [← hle] at hat ⊢
        have HLE := Lib.hid (show l = sidesS c (k : Int) from by rw [hle]; unfold sidesL; rw [if_pos HOK.out])
        have HM6 := Lib.hid (HM5.out.next hb)
        have HAT := Lib.hid hat
        have HLL := Lib.hid (show l.length ≤ 1000 from by rw [hle]; exact sidesL_len c k)
        clear hb hat hle c0 c1 c2 e1
        have hll := HLL.out
        go_wp2_with fail
        refine wp_loopM whI (fun f V => ∃ t la, WhR2 c g w k A l bd cm f V t la) (fun f _ => l.length - (intOf (f 94)).toNat) (by kernel_rfl) ⟨0, -2, by omega, slotF_at rfl, slotF_at rfl, slotF_at rfl, ⟨by omega, fun h => by
          have hs := HLE.out
          subst hs
          have := (side_at OK.out (k : Int) h).1.1
          omega⟩, by rw [slotF_at rfl]; show _ = Value.int .i64 (bd + 0); rw [Int.add_zero], by rw [slotF_at rfl]; show _ = Value.int .i64 (cm + 0); rw [Int.add_zero], HM6.out, HAT.out⟩ ?_
        clear HM6 HAT
        intro f2 Vi hrel
        obtain ⟨t, la, hr2⟩ := hrel
        have ht := hr2.ht
        have e94 := hr2.s94
        have e13 := hr2.s13
        have e14 := hr2.s14
        have e6 := hr2.s6
        have e7 := hr2.s7
        simp only [whI, mixF, e94, e13, e14, e6, e7]
        have HR2 := Lib.hid hr2
        have HE94 := Lib.hid e94
        clear e94 e13 e14 e6 e7
        have hpos : ∀ p ∈ l.take t, 0 ≤ p.2 ∧ p.2 ≤ 1000 := fun p hp => by
          have hs := HLE.out
          subst hs
          obtain ⟨i, hi, rfl⟩ := List.getElem_of_mem (List.mem_of_mem_take hp)
          have := (side_at OK.out (k : Int) hi).2.2
          omega
        have tl : (l.take t).length ≤ 1000 := by rw [List.length_take]; omega
        have bt1 := sum_bd2 (f := fun p => p.2) (l := l.take t) (B := 1000) hpos
        have bt2 := sum_bd2 (f := fun p => if p.1 = -1 then p.2 else 0) (l := l.take t) (B := 1000) (fun p hp => by have := hpos p hp; split <;> omega)
        have bt3 := sum_bd2 (f := fun p => if p.1 = -1 then 0 else p.2) (l := l.take t) (B := 1000) (fun p hp => by have := hpos p hp; split <;> omega)
        obtain ⟨sa, hsa⟩ : ∃ x, x = sumL (fun p => p.2) (l.take t) := ⟨_, rfl⟩
        obtain ⟨sb, hsb⟩ : ∃ x, x = oneF (l.take t) (-1) := ⟨_, rfl⟩
        obtain ⟨sc, hsc⟩ : ∃ x, x = sumL (fun p => if p.1 = -1 then 0 else p.2) (l.take t) := ⟨_, rfl⟩
        rw [← hsa] at bt1 ⊢
        rw [← hsc] at bt3 ⊢
        rw [← hsb]
        change 0 ≤ oneF (l.take t) (-1) ∧ oneF (l.take t) (-1) ≤ _ at bt2
        rw [← hsb] at bt2
        have HSA := Lib.hid hsa
        have HSB := Lib.hid hsb
        have HSC := Lib.hid hsc
        clear hr2 hsa hsb hsc hpos
        by_cases htl : t < l.length
        · have htlI : (t : Int) < (l.length : Int) := by omega
          obtain ⟨q, hq⟩ : ∃ q, q = l[t] := ⟨_, rfl⟩
          have hx : l[t]? = some q := by rw [hq]; exact List.getElem?_eq_getElem htl
          obtain ⟨pb, off, eA, hpb, hcell⟩ := HR2.out.at_ t q hx
          have z0 : Vi.cell? ⟨pb, off + t * 2, none⟩ = some (.int .i64 q.1) := hcell 0 _ rfl
          have z1 : Vi.cell? ⟨pb, off + t * 2 + 1, none⟩ = some (.int .i64 q.2) := hcell 1 _ rfl
          have hqf : (-1 ≤ q.1 ∧ q.1 ≤ greatS c) ∧ q.1 ≠ (k : Int) ∧ (1 ≤ q.2 ∧ q.2 ≤ 1000) := by
            have hs := HLE.out
            subst hs
            rw [hq]
            exact side_at OK.out (k : Int) htl
          have hlast := HR2.out.hla.2 htl
          rw [← hq] at hlast
          have hla0 := HR2.out.hla.1
          have HQ := Lib.hid hq
          have HZ := Lib.hid (fun (h : 0 ≤ q.1) => (show oneF (l.take t) q.1 = 0 from by
            have hs := HLE.out
            subst hs
            have := sum_bd2 (f := fun p => if p.1 = q.1 then p.2 else 0) (l := (sidesS c (k : Int)).take t) (B := 0) (fun p hp => by
              obtain ⟨i, hi, rfl⟩ := List.getElem_of_mem hp
              rw [List.getElem_take]
              rw [List.length_take] at hi
              have := side_lt c (k : Int) (s := i) (t := t) (by omega) htl
              rw [← hq] at this
              rw [if_neg (by omega)]
              omega)
            unfold oneF
            omega))
          have hw4 : IntKind.i64.wrap (sa + q.2) = sa + q.2 := IntWalk.i64_in _ (by omega)
          have hw5 : IntKind.i64.wrap (bd + sb + q.2) = bd + sb + q.2 := IntWalk.i64_in _ (by omega)
          have hw6 : IntKind.i64.wrap (cm + sc + q.2) = cm + sc + q.2 := IntWalk.i64_in _ (by omega)
          have hw7 : IntKind.i64.wrap ((t : Int) + 1) = (t : Int) + 1 := IntWalk.i64_in _ (by omega)
          have n16 := nxA Vi (.cells #[.int .i64 q.1, .int .i64 q.2] 54)
          have X16 := Lib.hid (Bx.new Vi #[.int .i64 q.1, .int .i64 q.2] 54)
          have HMI := Lib.hid (HR2.out.m.next n16)
          have HATI := Lib.hid (HR2.out.at_.next n16)
          have HMUI := Lib.hid (show l.length - (t + 1) < l.length - t from by omega)
          have hd1 : ¬ q.1 ≤ la := by omega
          have hd2 : ¬ greatS c + 1 ≤ q.1 := by omega
          have e3 : (q.1 == (k : Int)) = false := by simp; exact hqf.2.1
          have hd4 : ¬ q.2 < 1 := by omega
          have x0 := X16.out.c 0 _ rfl
          have x1 := X16.out.c 1 _ rfl
          have HQB := Lib.hid (show -2 ≤ q.1 from by omega)
          have HGW := Lib.hid (show g ≠ w.heap.size from HGN.out)
          subst eA
          clear hx hq hcell n16 hpb
          by_cases hq1 : q.1 = -1
          · have e4 : (q.1 == -1) = true := by simp [hq1]
            have HF := Lib.hid (show WhM c g w (Vi.alloc (.cells #[.int .i64 q.1, .int .i64 q.2] 54)) (fF c k (oneF (l.take (t + 1)))) from by
              refine ⟨HMI.out.x, HMI.out.e.congr (fun j => ?_), HMI.out.b, HMI.out.g⟩
              unfold fF
              have h1 : oneF (l.take (t + 1)) ((j % 40 : Nat) : Int) = oneF (l.take t) ((j % 40 : Nat) : Int) := by
                unfold oneF
                rw [sumL_take _ htl, ← HQ.out, if_neg (by omega)]; omega
              rw [h1])
            have HS1 := Lib.hid (show sumL (fun p => p.2) (l.take (t + 1)) = sa + q.2 from by rw [sumL_take _ htl, ← HQ.out, HSA.out])
            have HS2 := Lib.hid (show oneF (l.take (t + 1)) (-1) = sb + q.2 from by
              unfold oneF at HSB ⊢
              rw [sumL_take _ htl, ← HQ.out, if_pos hq1, HSB.out])
            have HS3 := Lib.hid (show sumL (fun p => if p.1 = -1 then 0 else p.2) (l.take (t + 1)) = sc from by
              rw [sumL_take _ htl, ← HQ.out, if_pos hq1, HSC.out]; omega)
            have HNL := Lib.hid (fun (h : t + 1 < l.length) => (show q.1 < l[t + 1].1 from by
              have hs := HLE.out
              subst hs
              rw [HQ.out]
              exact side_lt c (k : Int) (by omega) h))
            clear hq1 hlast hqf
            go_wp2_with fail
            refine endM (by kernel_rfl) (by kernel_rfl) ⟨t + 1, q.1, ⟨by omega, slotF_at rfl, by rw [slotF_at rfl, HS1.out], slotF_at rfl, ⟨HQB.out, fun h => HNL.out h⟩, by rw [slotF_at rfl, HS2.out, Int.add_assoc], by rw [slotF_at rfl, HS3.out], HF.out, HATI.out⟩⟩ ?_
            show l.length - (intOf (slotF _ 94)).toNat < l.length - (intOf (f2 94)).toNat
            rw [slotF_at rfl, HE94.out]
            have := HMUI.out
            simp [intOf]
            omega
          · have e4 : (q.1 == -1) = false := by simp [hq1]
            obtain ⟨m, hm⟩ : ∃ m : Nat, (m : Int) = q.1 := ⟨q.1.toNat, by omega⟩
            have hm40 : m < 40 := by omega
            have HF := Lib.hid (show WhM c g w ((Vi.alloc (.cells #[.int .i64 q.1, .int .i64 q.2] 54)).setCell ⟨g, k * 40 + m, none⟩ (.int .i64 q.2)) (fF c k (oneF (l.take (t + 1)))) from by
              have hz := HZ.out (by omega)
              refine ⟨HMI.out.x.far (by have := HMI.out.g; have h2 := HGW.out; omega) _, HMI.out.e.set_ (by omega) ?_ (fun j hj => ?_), HMI.out.b.setCell (p := ⟨g, k * 40 + m, none⟩) HMI.out.g _, HMI.out.g⟩
              · unfold fF
                rw [if_neg (by omega), if_pos (by omega), show (k * 40 + m) % 40 = m by omega, hm]
                unfold oneF at hz ⊢
                rw [sumL_take _ htl, ← HQ.out, hz, if_pos rfl]; omega
              · unfold fF
                by_cases h1 : j / 40 < k
                · rw [if_pos h1, if_pos h1]
                · by_cases h2 : j / 40 = k
                  · rw [if_neg h1, if_pos h2, if_neg h1, if_pos h2]
                    unfold oneF
                    rw [sumL_take _ htl, ← HQ.out, if_neg (by omega)]; omega
                  · rw [if_neg h1, if_neg h2, if_neg h1, if_neg h2])
            have HS1 := Lib.hid (show sumL (fun p => p.2) (l.take (t + 1)) = sa + q.2 from by rw [sumL_take _ htl, ← HQ.out, HSA.out])
            have HS2 := Lib.hid (show oneF (l.take (t + 1)) (-1) = sb from by
              unfold oneF at HSB ⊢
              rw [sumL_take _ htl, ← HQ.out, if_neg hq1, HSB.out]; omega)
            have HS3 := Lib.hid (show sumL (fun p => if p.1 = -1 then 0 else p.2) (l.take (t + 1)) = sc + q.2 from by
              rw [sumL_take _ htl, ← HQ.out, if_neg hq1, HSC.out])
            have HNL := Lib.hid (fun (h : t + 1 < l.length) => (show q.1 < l[t + 1].1 from by
              have hs := HLE.out
              subst hs
              rw [HQ.out]
              exact side_lt c (k : Int) (by omega) h))
            have HMJ := Lib.hid hm
            have y0 := HMI.out.e.cell (k * 40 + m) (by omega)
            have y1 := HMI.out.e.free (k * 40 + m)
            have hi1 : (k : Int) < 40 := by omega
            have hi2 : 0 ≤ q.1 := by omega
            have hi3 : q.1 < 40 := by omega
            have hi4 : q.1.toNat = m := by omega
            have HNG := Lib.hid (show g ≠ Vi.heap.size from by have := HR2.out.m.e.lt; omega)
            clear hlast hqf hm
            go_wp2_with fail
            refine wp_region_noPanic ?_
            refine wp_region_held_drew (S := (fun V => V.cell? ⟨Vi.heap.size, 0, none⟩ = some (.int .i64 q.1) ∧ V.cell? ⟨Vi.heap.size, 1, none⟩ = some (.int .i64 q.2))) (by kernel_rfl) ?_ (fun hHeld => ?_)
            · (try dsimp only); exact ⟨x0, x1⟩
            refine htake (i := 0) (v := ?v1) rfl (by kernel_rfl) (by kernel_rfl) (by kernel_rfl) (fun _ _ _ h => h) (Or.inl ⟨by rfl, ?hy1⟩) (by assumption) ?_
            case hy1 => (intro w hSw; (try dsimp only at hSw); go_simp; try (with_reducible rfl))
            try simp only [Act.put, List.setIfInBounds_toArray, List.set_cons_zero, List.set_cons_succ]
            refine htake (i := 1) (v := ?v2) rfl (by kernel_rfl) (by kernel_rfl) (by kernel_rfl) (fun _ _ _ h => h) (Or.inl ⟨by rfl, ?hy2⟩) (by assumption) ?_
            case hy2 => (intro w hSw; (try dsimp only at hSw); go_simp; try (with_reducible rfl))
            try simp only [Act.put, List.setIfInBounds_toArray, List.set_cons_zero, List.set_cons_succ]
            refine htake (i := 2) (v := ?v3) rfl (by kernel_rfl) (by kernel_rfl) (by kernel_rfl) (fun _ _ _ h => h) (Or.inl ⟨by rfl, ?hy3⟩) (by assumption) ?_
            case hy3 => (intro w hSw; (try dsimp only at hSw); go_simp; try (with_reducible rfl))
            try simp only [Act.put, List.setIfInBounds_toArray, List.set_cons_zero, List.set_cons_succ]
            refine htake (i := 3) (v := ?v4) rfl (by kernel_rfl) (by kernel_rfl) (by kernel_rfl) (fun _ _ _ h => h) (Or.inl ⟨by rfl, ?hy4⟩) (by assumption) ?_
            case hy4 => (intro w hSw; (try dsimp only at hSw); go_simp; try (with_reducible rfl))
            try simp only [Act.put, List.setIfInBounds_toArray, List.set_cons_zero, List.set_cons_succ]
            refine htake (i := 4) (v := ?v5) rfl (by kernel_rfl) (by kernel_rfl) (by kernel_rfl) (fun _ _ _ h => h) (Or.inl ⟨by rfl, ?hy5⟩) (by assumption) ?_
            case hy5 => (intro w hSw; (try dsimp only at hSw); go_simp; try (with_reducible rfl))
            try simp only [Act.put, List.setIfInBounds_toArray, List.set_cons_zero, List.set_cons_succ]
            refine htake (i := 5) (v := ?v6) rfl (by kernel_rfl) (by kernel_rfl) (by kernel_rfl) (fun _ _ _ h => h) (Or.inl ⟨by rfl, ?hy6⟩) (by assumption) ?_
            case hy6 => (intro w hSw; (try dsimp only at hSw); go_simp; try (with_reducible rfl))
            try simp only [Act.put, List.setIfInBounds_toArray, List.set_cons_zero, List.set_cons_succ]
            refine htake (i := 6) (v := ?v7) rfl (by kernel_rfl) (by kernel_rfl) (by kernel_rfl) (fun _ _ _ h => h) (Or.inl ⟨by rfl, ?hy7⟩) (by assumption) ?_
            case hy7 => (intro w hSw; (try dsimp only at hSw); go_simp; try (with_reducible rfl))
            try simp only [Act.put, List.setIfInBounds_toArray, List.set_cons_zero, List.set_cons_succ]
            refine wpAnyH_ready (rs := [7]) (by kernel_rfl) (by simp) ?_
            refine hcons rfl (fun K hK => ?_) (AllReadyH.nil)
            go_simp
            refine hK.out _ _ ?_ (fun hHeld => ?_)
            · (try dsimp only); exact ⟨(World.cell?_setCell_other _ _ _ _ (by intro e; injection e with e; exact HNG.out e)).trans x0, (World.cell?_setCell_other _ _ _ _ (by intro e; injection e with e; exact HNG.out e)).trans x1⟩
            clear hK K
            try simp only [Act.put]
            refine wpAnyH_done (by kernel_rfl) ?_ _
            refine NoPanic.normal ?_
            iterate 9 (try clear hHeld)
            have x2 := ((X16.out.far (k := k * 40 + m) HNG.out (.int .i64 q.2)).c 1 _ rfl)
            clear x0 x1
            go_wp2_with fail
            refine endM (by kernel_rfl) (by kernel_rfl) ⟨t + 1, q.1, ⟨by omega, slotF_at rfl, by rw [slotF_at rfl, HS1.out], slotF_at rfl, ⟨HQB.out, fun h => HNL.out h⟩, by rw [slotF_at rfl, HS2.out], by rw [slotF_at rfl, HS3.out, Int.add_assoc], HF.out.drew, at_far HATI.out HFR.out⟩⟩ ?_
            show l.length - (intOf (slotF _ 94)).toNat < l.length - (intOf (f2 94)).toNat
            rw [slotF_at rfl, HE94.out]
            have := HMUI.out
            simp [intOf]
            omega
        · have htlI : ¬ (t : Int) < (l.length : Int) := by omega
          have hte : l.take t = l := List.take_of_length_le (by omega)
          have hkr : 0 ≤ (k : Int) ∧ (k : Int) ≤ greatS c := by omega
          obtain ⟨⟨mm, hmm⟩, hle4⟩ := oth_even OK.out hkr
          have hsS : sa = sumTo (fun i => othE c (k : Int) (numK i)) ((greatS c).toNat + 2) := by rw [HSA.out, hte, HLE.out, side_sum]
          have hsB : sb = edgesR c (k : Int) (-1) := by
            rw [HSB.out, hte, HLE.out]
            unfold oneF
            rw [side_one OK.out (k : Int) (m := -1) (by omega)]
            unfold othE
            rw [if_pos (by omega)]
          have hsC : sc = sumTo (fun b : Nat => othE c (k : Int) (b : Int)) ((greatS c).toNat + 1) := by rw [HSC.out, hte, HLE.out, side_com]
          rw [← hsS] at hmm hle4
          rw [← HOW.out] at hle4
          have hev : Int.tmod sa 2 = 0 := by rw [Int.tmod_eq_emod_of_nonneg (by omega), hmm]; exact Int.mul_emod_right _ _
          have hev2 : ¬ 4 * ow < sa := by omega
          have hev3 : IntKind.i64.wrap 0 = 0 := IntWalk.i64_in _ (by omega)
          have HF := Lib.hid (show WhM c g w Vi (fF c (k + 1) (fun _ => 0)) from ⟨HR2.out.m.x, HR2.out.m.e.congr (fun j => by
            refine (fF_next (P := oneF (l.take t)) (fun m hm => ?_) j)
            rw [hte, HLE.out]
            exact side_one OK.out (k : Int) (by omega)), HR2.out.m.b, HR2.out.m.g⟩)
          have HT1 := Lib.hid (show sumTo (fun a : Nat => (cellsS c (a : Int) : Int)) (k + 1) = cs + ow from by rw [HCS.out, HOW.out]; rfl)
          have HT2 := Lib.hid (show sumTo (fun a : Nat => edgesR c (a : Int) (-1)) (k + 1) = bd + sb from by rw [HBD.out, hsB]; rfl)
          have HT3 := Lib.hid (show sumTo (fun a : Nat => sumTo (fun b : Nat => othE c (a : Int) (b : Int)) ((greatS c).toNat + 1)) (k + 1) = cm + sc from by rw [HCM.out, hsC]; rfl)
          clear hte hkr hmm hle4 hsS hsB hsC
          go_wp2_with fail
          refine endM (by kernel_rfl) (by kernel_rfl) ⟨k + 1, ⟨by rw [← HN.out]; omega, slotF_at rfl, by rw [slotF_at rfl, HT1.out], by rw [slotF_at rfl, HT2.out], by rw [slotF_at rfl, HT3.out], HF.out⟩⟩ ?_
          show N - (intOf (slotF _ 9)).toNat < N - (intOf (f 9)).toNat
          rw [slotF_at rfl, HE9.out]
          have := HMU.out
          simp [intOf]
          omega
      · have hkI : ¬ (k : Int) < greatS c + 1 := by have := HNI.out; omega
        have hke : k = (greatS c).toNat + 1 := by have := HN.out; omega
        have HA1 := Lib.hid (show cs = c.wide * c.high from by rw [HCS.out, hke]; exact cells_all OK.out)
        have HA2 := Lib.hid (show bd = 2 * (c.wide + c.high) from by rw [HBD.out, hke]; exact border_all OK.out)
        have HA3 := Lib.hid (show cm = 2 * lenS c from by rw [HCM.out, hke]; exact common_all OK.out _)
        have HMF := Lib.hid (show ∀ a b : Nat, a < N → b < N → fF c k (fun _ => 0) (a * 40 + b) = othE c (a : Int) (b : Int) from fun a b ha hb => by
          unfold fF
          have := HN.out
          rw [if_pos (by omega), show (a * 40 + b) / 40 = a by omega, show (a * 40 + b) % 40 = b by omega])
        have HSY := Lib.hid (show ∀ a b : Nat, othE c (a : Int) (b : Int) = othE c (b : Int) (a : Int) from fun a b => by
          unfold othE
          by_cases h : a = b
          · subst h; rfl
          · rw [if_pos (by omega), if_pos (by omega)]
            exact edges_symm OK.out (by omega) (by omega))
        have HMW := Lib.hid HR.out.m
        clear hke
        go_wp2_with fail
        refine wp_loopM whA (fun f' V' => ∃ a : Nat, a ≤ N ∧ f' 17 = .int .i64 (a : Int) ∧ WhM c g w V' (fF c k (fun _ => 0))) (fun f' _ => N - (intOf (f' 17)).toNat) (by kernel_rfl) ⟨0, by omega, slotF_at rfl, HMW.out⟩ ?_
        intro fa Va hrel
        obtain ⟨a, ha, e17, hma⟩ := hrel
        simp only [whA, mixF, e17]
        have HE17 := Lib.hid e17
        have HMA := Lib.hid hma
        clear e17 hma
        by_cases haN : a < N
        · have haI : (a : Int) < greatS c + 1 := by have := HNI.out; omega
          have hw9 : IntKind.i64.wrap ((a : Int) + 1) = (a : Int) + 1 := IntWalk.i64_in _ (by omega)
          have HMUA := Lib.hid (show N - (a + 1) < N - a from by omega)
          clear c0 c1 c2
          go_wp2_with fail
          refine wp_loopM whB (fun f' V' => ∃ b : Nat, b ≤ N ∧ f' 18 = .int .i64 (b : Int) ∧ WhM c g w V' (fF c k (fun _ => 0))) (fun f' _ => N - (intOf (f' 18)).toNat) (by kernel_rfl) ⟨0, by omega, slotF_at rfl, HMA.out⟩ ?_
          intro fb Vb hrel
          obtain ⟨b, hb, e18, hmb⟩ := hrel
          simp only [whB, mixF, e18]
          have HE18 := Lib.hid e18
          have HMB := Lib.hid hmb
          clear e18 hmb
          by_cases hbN : b < N
          · have hbI : (b : Int) < greatS c + 1 := by have := HNI.out; omega
            have hw10 : IntKind.i64.wrap ((b : Int) + 1) = (b : Int) + 1 := IntWalk.i64_in _ (by omega)
            have HMUB := Lib.hid (show N - (b + 1) < N - b from by omega)
            have y0 := HMB.out.e.cell (a * 40 + b) (by omega)
            have y1 := HMB.out.e.cell (b * 40 + a) (by omega)
            rw [HMF.out a b haN hbN] at y0
            rw [HMF.out b a hbN haN, HSY.out b a] at y1
            have hi1 : (a : Int) < 40 := by omega
            have hi2 : (b : Int) < 40 := by omega
            generalize othE c (a : Int) (b : Int) = ev at *
            go_wp2_with (go_quiet (fail))
            refine endM (by kernel_rfl) (by kernel_rfl) ⟨b + 1, by omega, slotF_at rfl, ?_⟩ ?_
            · exact HMB.out.drewN
            · show N - (intOf (slotF _ 18)).toNat < N - (intOf (fb 18)).toNat
              rw [slotF_at rfl, HE18.out]
              have := HMUB.out
              simp [intOf]
              omega
          · have hbI : ¬ (b : Int) < greatS c + 1 := by have := HNI.out; omega
            go_wp2_with fail
            refine endM (by kernel_rfl) (by kernel_rfl) ⟨a + 1, by omega, slotF_at rfl, HMB.out⟩ ?_
            show N - (intOf (slotF _ 17)).toNat < N - (intOf (fa 17)).toNat
            rw [slotF_at rfl, HE17.out]
            have := HMUA.out
            simp [intOf]
            omega
        · have haI : ¬ (a : Int) < greatS c + 1 := by have := HNI.out; omega
          clear c0 c1 c2
          have c0 := HMA.out.x.c 0 _ rfl
          have c1 := HMA.out.x.c 1 _ rfl
          have c2 := HMA.out.x.c 2 _ rfl
          go_wp2_with fail
          refine (LinesP_any c Va (HCW.out.next HMA.out.b)).mono ?_
          rintro e V7 ⟨rfl, hb⟩
          have HM7 := Lib.hid (HMA.out.next hb)
          have HL := Lib.hid (show linesS c = (lenS c, overP c (bendP c), overP c (jointP c), overP c (startP c)) from by unfold linesS; rw [if_pos HCE.out])
          have hlb : 0 ≤ lenS c ∧ lenS c ≤ 1000000 := by have := HA3.out; omega
          have hab : 0 ≤ c.wide * c.high ∧ c.wide * c.high ≤ 1000 := by have := HA1.out; have := Int.mul_le_mul hwd.2 hhd.2 (by omega) (by omega); have := Int.mul_nonneg (show 0 ≤ c.wide by omega) (show 0 ≤ c.high by omega); omega
          unfold linesV
          rw [HL.out, HCE.out]
          clear hb c0 c1 c2
          dsimp only
          have HB1 := Lib.hid (show cm = 2 * lenS c from HA3.out)
          generalize lenS c = ln at *
          generalize overP c (bendP c) = u1 at *
          generalize overP c (jointP c) = u2 at *
          generalize overP c (startP c) = u3 at *
          have c0 := HM7.out.x.c 0 _ rfl
          have c1 := HM7.out.x.c 1 _ rfl
          have c2 := HM7.out.x.c 2 _ rfl
          have hwA : IntKind.i64.wrap (c.wide * c.high) = cs := by rw [HA1.out]; exact IntWalk.i64_in _ (by omega)
          have hwB : IntKind.i64.wrap (c.wide + c.high) = c.wide + c.high := IntWalk.i64_in _ (by omega)
          have hwC : IntKind.i64.wrap (2 * (c.wide + c.high)) = bd := by rw [HA2.out]; exact IntWalk.i64_in _ (by omega)
          have hwD : IntKind.i64.wrap (2 * ln) = cm := by rw [HB1.out]; exact IntWalk.i64_in _ (by omega)
          have hn := nxA V7 (.cells #[.int .i64 ln, .int .i64 u1, .int .i64 u2, .int .i64 u3] 39)
          have HB8 := Lib.hid (HM7.out.b.trans (hn.mono HM7.out.b.size))
          have HX8 := HM7.out.x.next hn
          have d0 := HX8.c 0 _ rfl
          have d1 := HX8.c 1 _ rfl
          clear HX8
          clear hn hlb hab
          go_wp2_with fail
          refine (awake_any _).mono ?_
          rintro e V8 ⟨rfl, hb⟩
          go_wp2_with fail
          go_ret
          exact ⟨rfl, HB8.out.trans (hb.mono HB8.out.size)⟩
    · obtain ⟨he, h1, h2⟩ := check_err h0
      generalize (checkS c).1 = n0 at *
      generalize (checkS c).2 = ee at *
      rcases he with ⟨rfl, hct⟩ | ⟨rfl | rfl, hct⟩
      · have HCT := Lib.hid hct
        clear hct h0
        go_wp2_with fail
        refine (Cut_any c V2 HC.out).mono ?_
        rintro e V3 ⟨rfl, hb⟩
        rw [HCT.out]
        replace HB := Lib.hid (HB.out.trans (hb.mono HB.out.size))
        clear hb c0 c1 c2
        go_wp2_with fail
        refine (awake_any V3).mono ?_
        rintro e V4 ⟨rfl, hb⟩
        go_wp2_with fail
        go_ret
        exact ⟨rfl, HB.out.trans (hb.mono HB.out.size)⟩
      · have HCT := Lib.hid hct
        clear hct h0
        go_wp2_with fail
        refine (Cut_any c V2 HC.out).mono ?_
        rintro e V3 ⟨rfl, hb⟩
        rw [HCT.out]
        replace HB := Lib.hid (HB.out.trans (hb.mono HB.out.size))
        clear hb c0 c1 c2
        go_wp2_with fail
        refine (awake_any V3).mono ?_
        rintro e V4 ⟨rfl, hb⟩
        go_wp2_with fail
        go_ret
        exact ⟨rfl, HB.out.trans (hb.mono HB.out.size)⟩
      · have HCT := Lib.hid hct
        clear hct h0
        go_wp2_with fail
        refine (Cut_any c V2 HC.out).mono ?_
        rintro e V3 ⟨rfl, hb⟩
        rw [HCT.out]
        replace HB := Lib.hid (HB.out.trans (hb.mono HB.out.size))
        clear hb c0 c1 c2
        go_wp2_with fail
        refine (awake_any V3).mono ?_
        rintro e V4 ⟨rfl, hb⟩
        go_wp2_with fail
        go_ret
        exact ⟨rfl, HB.out.trans (hb.mono HB.out.size)⟩
end Go.Proofs.Ytjlicbdnppodgaa
