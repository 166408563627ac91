import Derived.Test.YtonnemkecppmiaaGreatDoorR9
import Derived.Test.YtonnemkecppmiaaGreatDoorP15
import Derived.Test.YtonnemkecppmiaaGreatDoorFr
import Derived.Test.YtonnemkecppmiaaGreatDoorR1
namespace Go.Proofs.YtonnemkecppmiaaGreatDoor
section
open Go.RowKit
/-! The reference: bits. -/
set_option maxRecDepth 100000 in
set_option maxHeartbeats 1000000 in
theorem bits_any : ∀ (n : Nat), n < 2097152 → ∀ w, Calls Tryz.prog 91 #[.int .i64 (n : Int)] w (RetBs (grp n) w) := by
  intro n
  induction n using Nat.strongRecOn with
  | _ n ih =>
    intro h w
    by_cases h1 : n < 128
    · have hq : (n : Int) < 128 := by omega
      have hw : IntKind.u8.wrap (n : Int) = (n : Int) := IntWalk.u8_in _ (by omega)
      have hm : (n : Int) % 256 = (n : Int) := by omega
      have HB := Lib.hid (nxA w (.cells #[.int .u8 (n : Int)] 5))
      have HO := Lib.hid (own_new (w := w) (base := w.heap.size) (e := 5) #[.int .u8 (n : Int)] (n := 1) rfl (Nat.le_refl _) (by decide))
      have HG := Lib.hid (show Lib.byteCells (grp n) = [.int .u8 (n : Int)] by rw [grp_small h1]; show [Value.int .u8 ((UInt8.ofNat n).toNat : Int)] = _; rw [u8_of (by omega)])
      have HL := Lib.hid (show (grp n).length = 1 by rw [grp_small h1]; rfl)
      go_enter Tryz.func91, Tryz.ntmps91
      go_wp2_with fail
      go_ret
      refine ⟨_, rfl, ?_, HB.out⟩
      rw [HL.out, HG.out]
      exact HO.out
    · have hq : ¬ (n : Int) < 128 := by omega
      have HR := Lib.hid (fun W => (by have := ih (n / 128) (by omega) (by omega) W; rw [show ((n / 128 : Nat) : Int) = (n : Int) / 128 from rfl] at this; exact this : Calls Tryz.prog 91 #[.int .i64 ((n : Int) / 128)] W (RetBs (grp (n / 128)) W)))
      have HN := Lib.hid (nxA w (.cells #[.int .u8 ((n : Int) % 128 + 128)] 5))
      have HO := Lib.hid (own_new (w := w) (base := w.heap.size) (e := 5) #[.int .u8 ((n : Int) % 128 + 128)] (n := 1) rfl (Nat.le_refl _) (by decide))
      have HG := Lib.hid (show Lib.byteCells (grp n) = [.int .u8 ((n : Int) % 128 + 128)] ++ Lib.byteCells (grp (n / 128)) by
        rw [grp_big h1]
        show Value.int .u8 ((UInt8.ofNat (n % 128 + 128)).toNat : Int) :: Lib.byteCells (grp (n / 128)) = _
        rw [u8_of (by omega)]
        rfl)
      have HL := Lib.hid (show (grp n).length = 1 + (grp (n / 128)).length by rw [grp_big h1, List.length_cons]; omega)
      have HLN := Lib.hid (grp_len (show n / 128 < 2097152 by omega))
      generalize grp (n / 128) = t at *
      obtain ⟨i0, hi, hz0, hz1, hz2⟩ := info_parts byte_info
      clear ih
      go_enter Tryz.func91, Tryz.ntmps91
      go_wp2_with fail
      refine (HR.out _).mono ?_
      rintro e W ⟨v, rfl, ho, hb⟩
      obtain ⟨g, cap, e, -⟩ := ho.form (by have := HLN.out; omega)
      subst e
      have HO1 := Lib.hid (own_below HO.out hb)
      have HB1 := Lib.hid (HN.out.trans (hb.mono HN.out.size))
      have HS := Lib.hid (show ∀ (j : Nat) u, (Lib.byteCells t)[j]? = some u → W.cell? ((⟨g, 0, none⟩ : Addr).add j) = some u from fun j u hu => ho.cells (g := g) rfl j u hu)
      clear ho hb
      go_wp2_with (at_builtin; refine wpList_append_own _ rfl (.tmp 12) (.tmp 15) 37 rfl w.heap.size 5 i0 (.int .u8 0) 1 1 Tryz.underlying37 hi hz0 hz1 hz2 rfl (by decide) _ 1 _ rfl HO1.out ⟨g, 0, none⟩ t.length cap (Lib.byteCells t) rfl (by rw [Lib.byteCells_length, Nat.mul_one]) HS.out (Lib.byteCells_one t) (by have := HLN.out; unfold maxLen; omega) (by have := HLN.out; omega) HB1.out.size ?_; intro v2 W2 hown hgrow _)
      go_ret
      refine ⟨_, rfl, ?_, Below.grown HB1.out hgrow HB1.out.size (fun j hj => (HO1.out.lt j hj).1)⟩
      rw [HL.out, HG.out]
      exact hown
end
section
open Go.RowKit
/-! The reference: bytes. -/
def spE (e : Ed) : Nat → Sp
  | 0 => e.a
  | 1 => e.w
  | _ => e.d
def spsB (e : Ed) (m : Nat) : Tx := (List.range m).flatMap fun i => spB (spE e i)
theorem spsB_succ (e : Ed) (m : Nat) : spsB e (m + 1) = spsB e m ++ spB (spE e m) := by unfold spsB; rw [List.range_succ, List.flatMap_append]; simp
theorem spsB_three (e : Ed) : spsB e 3 = spB e.a ++ (spB e.w ++ spB e.d) := by
  show ([0, 1, 2] : List Nat).flatMap _ = _
  simp [spE]
theorem below_of_drew {W W' : World} (h : Below W.drew.heap.size W.drew W') : Below W.heap.size W W' := ⟨h.os, h.tape, h.output, h.size, h.block⟩
/-- A box whose block's type is said. -/
structure KB (W : World) (b : Nat) (t : TypeId) (vs : List Value) : Prop where
  bx : Bx W b vs
  kd : Kd W b t
theorem KB.new (w : World) (vs : Array Value) (t : TypeId) : KB (w.alloc (.cells vs t)) w.heap.size t vs.toList := ⟨Bx.new w vs t, Kd.new w vs t⟩
theorem KB.next {W W' : World} {b : Nat} {t : TypeId} {vs : List Value} (h : KB W b t vs) (hb : Below W.heap.size W W') : KB W' b t vs := ⟨h.bx.next hb, h.kd.next hb⟩
theorem KB.grown {W W' : World} {b base n : Nat} {t : TypeId} {vs xs : List Value} {v : Value} (h : KB W b t vs) (hown : W.ownsRow base 5 1 v n xs) (hg : W.grownBy W' v.ownBlock) (ht : t ≠ 5) : KB W' b t vs := by
  have hne : v.ownBlock ≠ some b := fun e => by
    obtain ⟨cs, fz, hk⟩ := h.kd
    rcases hown.2 with ⟨rfl, -⟩ | ⟨g, cap, cur, rfl, -, hh, -⟩
    · simp [Value.ownBlock] at e
    · simp [Value.ownBlock] at e
      subst e
      rw [hh] at hk
      injection hk with hk
      injection hk with _ e2 _
      exact ht e2.symm
  exact ⟨h.bx.grown hg hne, h.kd.grown hg hne⟩
theorem span_at {W : World} {e : Ed} {bs : Nat} (h : Bx W bs [.int .i64 e.a.lo, .int .i64 e.a.hi, .int .i64 e.w.lo, .int .i64 e.w.hi, .int .i64 e.d.lo, .int .i64 e.d.hi]) {m : Nat} (hm : m < 3) :
    W.cell? ⟨bs, m * 2, none⟩ = some (.int .i64 (spE e m).lo) ∧ W.cell? ⟨bs, m * 2 + 1, none⟩ = some (.int .i64 (spE e m).hi) := by
  match m, hm with
  | 0, _ => exact ⟨h.c 0 _ rfl, h.c 1 _ rfl⟩
  | 1, _ => exact ⟨h.c 2 _ rfl, h.c 3 _ rfl⟩
  | 2, _ => exact ⟨h.c 4 _ rfl, h.c 5 _ rfl⟩
theorem span_ok {e : Ed} (h : okEd e = true) (hk : e.kind ≠ 0) (m : Nat) : 0 ≤ (spE e m).lo ∧ (spE e m).lo ≤ (spE e m).hi ∧ (spE e m).hi ≤ 10000 := by
  rcases okEd_cases h with rfl | ⟨-, ha, hw, hd⟩
  · exact (hk rfl).elim
  · rw [okSp_iff] at ha hw hd
    unfold spE
    split <;> omega
theorem sps_len (e : Ed) {m : Nat} (hm : m ≤ 3) : (spsB e m).length ≤ (spsB e 3).length := by
  unfold spsB
  rw [show (3 : Nat) = m + (3 - m) by omega, List.range_add, List.flatMap_append, List.length_append]
  omega
def RBs (e : Ed) (t3 : Tx) (base bs : Nat) (w0 : World) (v i : Value) (w : World) : Prop := ∃ (m : Nat) (t : Tx), m ≤ 3 ∧ i = .int .i64 m ∧ Below w0.heap.size w0 w ∧ t = t3 ++ spsB e m ∧ w.ownsRow base 5 1 v t.length (Lib.byteCells t) ∧ KB w bs 146 [.int .i64 e.a.lo, .int .i64 e.a.hi, .int .i64 e.w.lo, .int .i64 e.w.hi, .int .i64 e.d.lo, .int .i64 e.d.hi]
set_option maxRecDepth 100000 in
set_option maxHeartbeats 8000000 in
theorem bytesR_any (A : Option Addr) (c : Nat) (l : List Pc) (w : World) (h : At w w.heap.size 28 Pc.cells A l) (hok : okPcs l = true) (hn : l.length ≤ 12) : Calls Tryz.prog 51 #[.slice A l.length c] w (RetBs (scanB l) w) := by
  have HL := Lib.hid h
  have HO := Lib.hid hok
  clear h hok
  obtain ⟨i0, hi, hz0, hz1, hz2⟩ := info_parts byte_info
  have HU := Lib.hid Tryz.underlying37
  have HG := Lib.hid (bits_any l.length (by omega) w)
  go_enter Tryz.func51, Tryz.ntmps51
  go_wp2_with fail
  refine HG.out.mono ?_
  rintro e V ⟨v, rfl, hown, hb⟩
  have HOWN := Lib.hid hown
  have HB := Lib.hid hb
  clear hown hb HG
  go_wp2_with fail
  go_loopw [3, 4] (fun v i wr => RBp l w v i wr) (fun _ i _ => l.length - (intOf i).toNat)
  case atStart => exact ⟨0, grp l.length, by omega, rfl, HB.out, by simp, HOWN.out⟩
  case round =>
    obtain ⟨k, t, hk, rfl, hb, ht, hown⟩ := hrel
    have HB := Lib.hid hb
    have HOWN := Lib.hid hown
    have HT := Lib.hid ht
    clear hb hown ht
    have hwk : IntKind.i64.wrap ((k : Int) + 1) = (k : Int) + 1 := IntWalk.i64_in _ (by omega)
    by_cases hlt : k < l.length
    · obtain ⟨q, off, hA, hbk, hcs⟩ := HL.out k l[k] (List.getElem?_eq_getElem hlt)
      have HTK := Lib.hid (pcB_take hlt)
      have HPT := Lib.hid (fun j (hj : j ≤ 4) => body_part HO.out hn hlt hj)
      have HPK := Lib.hid (show okPc l[k] = true from List.all_eq_true.1 HO.out _ (List.getElem_mem hlt))
      obtain ⟨p, hp⟩ : ∃ p, l[k] = p := ⟨_, rfl⟩
      rw [hp] at hcs HTK HPT HPK
      clear hp
      have HCS := Lib.hid (fun (W : World) (h : Below w.heap.size w W) => (fun j u hu => (h.cell (p := ⟨q, off + k * 28 + j, none⟩) hbk).trans (hcs j u hu) : ∀ j u, p.cells[j]? = some u → W.cell? ⟨q, off + k * 28 + j, none⟩ = some u))
      clear hcs
      go_wp2_with fail
      go_loopw [3, 5] (fun v jv wx => RBe l p k w v jv wx) (fun _ jv _ => 4 - (intOf jv).toNat)
      case atStart => exact ⟨0, t, by omega, rfl, HB.out, by rw [HT.out]; simp [edsB], HOWN.out⟩
      case round =>
        obtain ⟨j, t2, hj, rfl, hb, ht, hown⟩ := hrel
        have HB6 := Lib.hid hb
        have HO6 := Lib.hid hown
        have HT6 := Lib.hid ht
        clear hown ht HB HOWN
        have hwj : IntKind.i64.wrap ((j : Int) + 1) = (j : Int) + 1 := IntWalk.i64_in _ (by omega)
        by_cases hlj : j < 4
        · obtain ⟨q0, q1, q2, q3, q4, q5, q6⟩ := edge_at (HCS.out _ hb) hlj
          have HOE := Lib.hid (ok_pe HPK.out hlj)
          have HP2 := Lib.hid (HPT.out (j + 1) (by omega))
          have HSU := Lib.hid (edsB_succ p j)
          generalize pe p j = e at *
          subst hA
          have hA := nxA wr (.cells #[.int .i64 e.kind, .int .i64 e.a.lo, .int .i64 e.a.hi, .int .i64 e.w.lo, .int .i64 e.w.hi, .int .i64 e.d.lo, .int .i64 e.d.hi] 48)
          have HX7 := Lib.hid (KB.new wr #[.int .i64 e.kind, .int .i64 e.a.lo, .int .i64 e.a.hi, .int .i64 e.w.lo, .int .i64 e.w.hi, .int .i64 e.d.lo, .int .i64 e.d.hi] 48)
          have HB7 := Lib.hid (HB6.out.trans (hA.mono HB6.out.size))
          have HO7 := Lib.hid (own_below HO6.out hA)
          have HTT := Lib.hid (show grp l.length ++ ((l.take k).flatMap pcB ++ edsB p (j + 1)) = t2 ++ edB e by rw [HT6.out, HSU.out]; simp [List.append_assoc])
          rw [HTT.out] at HP2
          clear hA hb
          go_upto_region 9 with fail
          generalize (wr.alloc (.cells #[.int .i64 e.kind, .int .i64 e.a.lo, .int .i64 e.a.hi, .int .i64 e.w.lo, .int .i64 e.w.hi, .int .i64 e.d.lo, .int .i64 e.d.hi] 48)) = V7 at *
          obtain ⟨bb, hbb⟩ : ∃ bb, bb = wr.heap.size := ⟨_, rfl⟩
          rw [← hbb] at HX7 ⊢
          clear hbb q0 q1 q2 q3 q4 q5 q6 HO6 HT6
          have x0 := HX7.out.bx.c 0 _ rfl
          have hke : 0 ≤ e.kind ∧ e.kind ≤ 2 := by
            rcases okEd_cases HOE.out with rfl | ⟨h1, -⟩
            · decide
            · omega
          have hm : e.kind % 256 = e.kind := by omega
          have hw : IntKind.u8.wrap e.kind = e.kind := IntWalk.u8_in _ (by omega)
          have HKC := Lib.hid (show Lib.byteCells [UInt8.ofNat e.kind.toNat] = [.int .u8 e.kind] by
            show [Value.int .u8 ((UInt8.ofNat e.kind.toNat).toNat : Int)] = _
            rw [u8_of (by omega), Int.toNat_of_nonneg hke.1])
          have hlen : t2.length + 1 ≤ 916 := by
            have h1 := HP2.out
            have h2 := edB_one e
            rw [List.length_append] at h1
            omega
          have HNk := Lib.hid (nxA V7 (.cells #[.int .u8 e.kind] 5))
          have HXk := Lib.hid (Bx.new V7 #[.int .u8 e.kind] 5)
          have HO8 := Lib.hid (own_below HO7.out HNk.out)
          have HB8 := Lib.hid (HB7.out.trans (HNk.out.mono HB7.out.size))
          have HX8 := Lib.hid (HX7.out.next HNk.out)
          go_upto_region 10 with (at_builtin; refine wpList_append_own _ rfl (.tmp 29) (.tmp 33) 37 rfl w.heap.size 5 i0 (.int .u8 0) 1 1 HU.out hi hz0 hz1 hz2 rfl (by decide) _ t2.length _ rfl HO8.out ⟨V7.heap.size, 0, none⟩ 1 1 ([.int .u8 e.kind]) rfl (rfl) HXk.out.news (fun u hu => by simp at hu; subst hu; rfl) (by unfold maxLen; omega) (by omega) (HB8.out.size) ?_; intro v9 W9 hown hgrow _)
          have HB9 := Lib.hid (Below.grown HB8.out hgrow HB8.out.size (fun j hj => (HO8.out.lt j hj).1))
          have HO9 := Lib.hid (show W9.ownsRow w.heap.size 5 1 v9 (t2 ++ [UInt8.ofNat e.kind.toNat]).length (Lib.byteCells (t2 ++ [UInt8.ofNat e.kind.toNat])) by rw [Lib.byteCells_append, HKC.out, List.length_append]; exact hown)
          have HX9 := Lib.hid (HX8.out.grown HO8.out hgrow (by decide))
          clear hown hgrow HX8 HO8 HB8 HXk HNk HX7 HO7 HB7 x0 hm hw
          have x0 := HX9.out.bx.c 0 _ rfl
          have x1 := HX9.out.bx.c 1 _ rfl
          have x2 := HX9.out.bx.c 2 _ rfl
          have x3 := HX9.out.bx.c 3 _ rfl
          have x4 := HX9.out.bx.c 4 _ rfl
          have x5 := HX9.out.bx.c 5 _ rfl
          have x6 := HX9.out.bx.c 6 _ rfl
          by_cases hk0 : e.kind = 0
          · have hz : (e.kind == 0) = true := by simp [hk0]
            have HE0 := Lib.hid (show [UInt8.ofNat e.kind.toNat] = edB e by unfold edB; rw [if_pos hk0, hk0]; rfl)
            rw [HE0.out] at HO9
            clear hk0 HKC HE0
            (try go_simp)
            go_wp2_with fail
            (first | (refine ⟨?_, ?_⟩; (unfold RBe; exact ⟨j + 1, t2 ++ edB e, by omega, by go_num, HB9.out, HTT.out.symm, HO9.out⟩); (simp [intOf]; omega)) | (go_roundw; (case rel => (unfold RBe; exact ⟨j + 1, t2 ++ edB e, by omega, by go_num, HB9.out, HTT.out.symm, HO9.out⟩)); (case measure => (simp [intOf]; omega))) | (go_round; (case rel => (unfold RBe; exact ⟨j + 1, t2 ++ edB e, by omega, by go_num, HB9.out, HTT.out.symm, HO9.out⟩)); (case measure => (simp [intOf]; omega))))
          · have hz : (e.kind == 0) = false := by simpa using hk0
            have HSO := Lib.hid (span_ok HOE.out hk0)
            have HE3 := Lib.hid (show edB e = [UInt8.ofNat e.kind.toNat] ++ spsB e 3 by unfold edB; rw [if_neg hk0, spsB_three]; rfl)
            rw [HE3.out] at HP2 HTT
            clear hk0 HKC HE3
            generalize ht3 : t2 ++ [UInt8.ofNat e.kind.toNat] = t3 at HO9
            rw [show t2 ++ ([UInt8.ofNat e.kind.toNat] ++ spsB e 3) = t3 ++ spsB e 3 by rw [← List.append_assoc, ht3]] at HP2 HTT
            clear ht3
            (try go_simp)
            have HNs := Lib.hid (nxA W9 (.cells #[.int .i64 e.a.lo, .int .i64 e.a.hi, .int .i64 e.w.lo, .int .i64 e.w.hi, .int .i64 e.d.lo, .int .i64 e.d.hi] 146))
            have HXs := Lib.hid (KB.new W9 #[.int .i64 e.a.lo, .int .i64 e.a.hi, .int .i64 e.w.lo, .int .i64 e.w.hi, .int .i64 e.d.lo, .int .i64 e.d.hi] 146)
            have HB10 := Lib.hid (HB9.out.trans (HNs.out.mono HB9.out.size))
            have HO10 := Lib.hid (own_below HO9.out HNs.out)
            go_upto_region 12 with fail
            generalize (W9.alloc (.cells #[.int .i64 e.a.lo, .int .i64 e.a.hi, .int .i64 e.w.lo, .int .i64 e.w.hi, .int .i64 e.d.lo, .int .i64 e.d.hi] 146)) = V10 at *
            obtain ⟨bs, hbs⟩ : ∃ bs, bs = W9.heap.size := ⟨_, rfl⟩
            rw [← hbs] at HXs ⊢
            clear hbs HNs HB9 HO9 HX9 x0 x1 x2 x3 x4 x5 x6
            go_wp2_with fail
            go_loopw [3, 8] (fun v mv wy => RBs e t3 w.heap.size bs w v mv wy) (fun _ mv _ => 3 - (intOf mv).toNat)
            case atStart => exact ⟨0, t3, by omega, rfl, HB10.out, by simp [spsB], HO10.out, HXs.out⟩
            case round =>
              obtain ⟨m, t4, hm, rfl, hb, ht, hown, hx⟩ := hrel
              have HB11 := Lib.hid hb
              have HT11 := Lib.hid ht
              have HO11 := Lib.hid hown
              have HX11 := Lib.hid hx
              clear hb ht hown hx HB10 HO10 HXs
              have hwm : IntKind.i64.wrap ((m : Int) + 1) = (m : Int) + 1 := IntWalk.i64_in _ (by omega)
              by_cases hlm : m < 3
              · obtain ⟨y0, y1⟩ := span_at HX11.out.bx hlm
                obtain ⟨s1, s2, s3⟩ := HSO.out m
                have HSS := Lib.hid (spsB_succ e m)
                have hl4 : (t3 ++ spsB e (m + 1)).length ≤ 916 := by
                  have h1 := HP2.out
                  have h2 := sps_len e (show m + 1 ≤ 3 by omega)
                  rw [List.length_append] at h1 ⊢
                  omega
                rw [HSS.out, ← List.append_assoc, ← HT11.out] at hl4
                obtain ⟨s, hs⟩ : ∃ s, spE e m = s := ⟨_, rfl⟩
                rw [hs] at y0 y1 s1 s2 s3 hl4 HSS
                have HSM := Lib.hid hs
                clear hs
                have HBL := Lib.hid (fun W => (by have := bits_any s.lo.toNat (by omega) W; rw [Int.toNat_of_nonneg (by omega)] at this; exact this : Calls Tryz.prog 91 #[.int .i64 s.lo] W (RetBs (grp s.lo.toNat) W)))
                have HBH := Lib.hid (fun W => (by have := bits_any (s.hi - s.lo).toNat (by omega) W; rw [Int.toNat_of_nonneg (by omega)] at this; exact this : Calls Tryz.prog 91 #[.int .i64 (s.hi - s.lo)] W (RetBs (grp (s.hi - s.lo).toNat) W)))
                have HGL := Lib.hid (grp_len (show s.lo.toNat < 2097152 by omega))
                have HGH := Lib.hid (grp_len (show (s.hi - s.lo).toNat < 2097152 by omega))
                have HSB := Lib.hid (show spB s = grp s.lo.toNat ++ grp (s.hi - s.lo).toNat from rfl)
                generalize grp s.lo.toNat = g1 at *
                generalize grp (s.hi - s.lo).toNat = g2 at *
                rw [HSB.out, List.length_append, List.length_append] at hl4
                have hws : IntKind.i64.wrap (s.hi - s.lo) = s.hi - s.lo := IntWalk.i64_in _ (by omega)
                go_wp2_with fail
                refine (HBL.out _).mono ?_
                rintro x W12 ⟨v12, rfl, ho, hb⟩
                obtain ⟨ga, ca, e', -⟩ := ho.form (by have := HGL.out; omega)
                subst e'
                have HS12 := Lib.hid (show ∀ (j : Nat) u, (Lib.byteCells g1)[j]? = some u → W12.cell? ((⟨ga, 0, none⟩ : Addr).add j) = some u from fun j u hu => ho.cells (g := ga) rfl j u hu)
                have HB12 := Lib.hid (HB11.out.trans (hb.mono HB11.out.size))
                have HO12 := Lib.hid (own_below HO11.out hb)
                have HX12 := Lib.hid (HX11.out.next hb)
                clear ho hb y0 y1 HX11 HO11 HB11
                go_upto_region 16 with (at_builtin; refine wpList_append_own _ rfl (.tmp 49) (.tmp 54) 37 rfl w.heap.size 5 i0 (.int .u8 0) 1 1 HU.out hi hz0 hz1 hz2 rfl (by decide) _ t4.length _ rfl HO12.out ⟨ga, 0, none⟩ g1.length ca (Lib.byteCells g1) rfl (by rw [Lib.byteCells_length, Nat.mul_one]) HS12.out (Lib.byteCells_one g1) (by unfold maxLen; omega) (by omega) (HB12.out.size) ?_; intro v13 W13 hown hgrow _)
                have HB13 := Lib.hid (Below.grown HB12.out hgrow HB12.out.size (fun j hj => (HO12.out.lt j hj).1))
                have HO13 := Lib.hid (show W13.ownsRow w.heap.size 5 1 v13 (t4 ++ g1).length (Lib.byteCells (t4 ++ g1)) by rw [Lib.byteCells_append, List.length_append]; exact hown)
                have HX13 := Lib.hid (HX12.out.grown HO12.out hgrow (by decide))
                clear hown hgrow HX12 HO12 HB12 HS12
                (try go_simp)
                go_upto_region 16 with fail
                have hy13 := span_at HX13.out.bx hlm
                rw [HSM.out] at hy13
                have HY13 := Lib.hid hy13
                clear hy13
                refine wp_region_noPanic ?_
                refine wp_region_held_drew (S := (fun W' => W'.cell? ⟨bs, m * 2, none⟩ = some (.int .i64 s.lo) ∧ W'.cell? ⟨bs, m * 2 + 1, none⟩ = some (.int .i64 s.hi))) (by kernel_rfl) ?_ (fun hHeld => ?_)
                · (try dsimp only); exact HY13.out
                refine htake (i := 0) (v := ?v1) rfl (by kernel_rfl) (by kernel_rfl) (by kernel_rfl) (fun _ _ _ h => h) (Or.inl ⟨by rfl, ?hy1⟩) (by assumption) ?_
                case hy1 => (intro w hSw; (try dsimp only at hSw); go_simp; try (with_reducible rfl))
                try simp only [Act.put, List.setIfInBounds_toArray, List.set_cons_zero, List.set_cons_succ]
                refine htake (i := 1) (v := ?v2) rfl (by kernel_rfl) (by kernel_rfl) (by kernel_rfl) (fun _ _ _ h => h) (Or.inl ⟨by rfl, ?hy2⟩) (by assumption) ?_
                case hy2 => (intro w hSw; (try dsimp only at hSw); go_simp; try (with_reducible rfl))
                try simp only [Act.put, List.setIfInBounds_toArray, List.set_cons_zero, List.set_cons_succ]
                refine htake (i := 2) (v := ?v3) rfl (by kernel_rfl) (by kernel_rfl) (by kernel_rfl) (fun _ _ _ h => h) (Or.inl ⟨by rfl, ?hy3⟩) (by assumption) ?_
                case hy3 => (intro w hSw; (try dsimp only at hSw); go_simp; try (with_reducible rfl))
                try simp only [Act.put, List.setIfInBounds_toArray, List.set_cons_zero, List.set_cons_succ]
                refine htake (i := 3) (v := ?v4) rfl (by kernel_rfl) (by kernel_rfl) (by kernel_rfl) (fun _ _ _ h => h) (Or.inl ⟨by rfl, ?hy4⟩) (by assumption) ?_
                case hy4 => (intro w hSw; (try dsimp only at hSw); go_simp; try (with_reducible rfl))
                try simp only [Act.put, List.setIfInBounds_toArray, List.set_cons_zero, List.set_cons_succ]
                refine htake (i := 4) (v := ?v5) rfl (by kernel_rfl) (by kernel_rfl) (by kernel_rfl) (fun _ _ _ h => h) (Or.inl ⟨by rfl, ?hy5⟩) (by assumption) ?_
                case hy5 => (intro w hSw; (try dsimp only at hSw); go_simp; try (with_reducible rfl))
                try simp only [Act.put, List.setIfInBounds_toArray, List.set_cons_zero, List.set_cons_succ]
                refine htake (i := 5) (v := ?v6) rfl (by kernel_rfl) (by kernel_rfl) (by kernel_rfl) (fun _ _ _ h => h) (Or.inl ⟨by rfl, ?hy6⟩) (by assumption) ?_
                case hy6 => (intro w hSw; (try dsimp only at hSw); go_simp; try (with_reducible rfl))
                try simp only [Act.put, List.setIfInBounds_toArray, List.set_cons_zero, List.set_cons_succ]
                refine htake (i := 6) (v := ?v7) rfl (by kernel_rfl) (by kernel_rfl) (by kernel_rfl) (fun _ _ _ h => h) (Or.inl ⟨by rfl, ?hy7⟩) (by assumption) ?_
                case hy7 => (intro w hSw; (try dsimp only at hSw); go_simp; try (with_reducible rfl))
                try simp only [Act.put, List.setIfInBounds_toArray, List.set_cons_zero, List.set_cons_succ]
                refine htake (i := 7) (v := ?v8) rfl (by kernel_rfl) (by kernel_rfl) (by kernel_rfl) (fun _ _ _ h => h) (Or.inl ⟨by rfl, ?hy8⟩) (by assumption) ?_
                case hy8 => (intro w hSw; (try dsimp only at hSw); go_simp; try (with_reducible rfl))
                try simp only [Act.put, List.setIfInBounds_toArray, List.set_cons_zero, List.set_cons_succ]
                refine htake (i := 8) (v := ?v9) rfl (by kernel_rfl) (by kernel_rfl) (by kernel_rfl) (fun _ _ _ h => h) (Or.inl ⟨by rfl, ?hy9⟩) (by assumption) ?_
                case hy9 => (intro w hSw; (try dsimp only at hSw); go_simp; try (with_reducible rfl))
                try simp only [Act.put, List.setIfInBounds_toArray, List.set_cons_zero, List.set_cons_succ]
                refine htake (i := 9) (v := ?v10) rfl (by kernel_rfl) (by kernel_rfl) (by kernel_rfl) (fun _ _ _ h => h) (Or.inl ⟨by rfl, ?hy10⟩) (by assumption) ?_
                case hy10 => (intro w hSw; (try dsimp only at hSw); go_simp; try (with_reducible rfl))
                try simp only [Act.put, List.setIfInBounds_toArray, List.set_cons_zero, List.set_cons_succ]
                refine wpAnyH_ready (rs := [10]) (by kernel_rfl) (by simp) ?_
                refine hcons rfl (fun K hK => ?_) (AllReadyH.nil)
                go_simp
                refine (HBH.out _).mono ?_; rintro x W14 ⟨v14, rfl, ho, hb⟩; obtain ⟨gh, ch, e', -⟩ := ho.form (by have := HGH.out; omega); subst e'; have HS14 := Lib.hid (show ∀ (j : Nat) u, (Lib.byteCells g2)[j]? = some u → W14.cell? ((⟨gh, 0, none⟩ : Addr).add j) = some u from fun j u hu => ho.cells (g := gh) rfl j u hu); have HB14 := Lib.hid (HB13.out.trans (Below.mono (below_of_drew hb) HB13.out.size)); have HO14 := Lib.hid (own_below HO13.out (below_of_drew hb)); have HX14 := Lib.hid (HX13.out.next (below_of_drew hb)); have hy14 := span_at HX14.out.bx hlm; rw [HSM.out] at hy14; replace HY13 := Lib.hid hy14; clear ho hb hy14
                refine hK.out _ _ ?_ (fun hHeld => ?_)
                · (try dsimp only); exact HY13.out
                clear hK K
                try simp only [Act.put, List.setIfInBounds_toArray, List.set_cons_zero, List.set_cons_succ]
                refine wpAnyH_ready (rs := [11]) (by kernel_rfl) (by simp) ?_
                refine hcons rfl (fun K hK => ?_) (AllReadyH.nil)
                refine step_append_any rfl (.tmp 56) (.tmp 66) 37 rfl w.heap.size 5 i0 _ 1 1 HU.out hi hz0 hz1 hz2 rfl (by decide) v13 (t4 ++ g1).length _ rfl HO14.out ⟨gh, 0, none⟩ g2.length ch (Lib.byteCells g2) rfl (by rw [Lib.byteCells_length, Nat.mul_one]) HS14.out (Lib.byteCells_one g2) (by rw [List.length_append]; unfold maxLen; omega) (by rw [List.length_append]; omega) HB14.out.size ?_; intro v15 W15 hown hgrow; have HB15 := Lib.hid (Below.grown HB14.out hgrow HB14.out.size (fun j hj => (HO14.out.lt j hj).1)); have HO15 := Lib.hid (show W15.ownsRow w.heap.size 5 1 v15 ((t4 ++ g1) ++ g2).length (Lib.byteCells ((t4 ++ g1) ++ g2)) by rw [Lib.byteCells_append (t4 ++ g1), show ((t4 ++ g1) ++ g2).length = (t4 ++ g1).length + g2.length from List.length_append ..]; exact hown); have HX15 := Lib.hid (HX14.out.grown HO14.out hgrow (by decide)); have hy15 := span_at HX15.out.bx hlm; rw [HSM.out] at hy15; replace HY13 := Lib.hid hy15; clear hown hgrow hy15
                refine hK.out _ _ ?_ (fun hHeld => ?_)
                · (try dsimp only); exact HY13.out
                clear hK K
                try simp only [Act.put, List.setIfInBounds_toArray, List.set_cons_zero, List.set_cons_succ]
                refine htake (i := 12) (v := ?v11) rfl (by kernel_rfl) (by kernel_rfl) (by kernel_rfl) (fun _ _ _ h => h) (Or.inl ⟨by rfl, ?hy11⟩) (by assumption) ?_
                case hy11 => (intro w hSw; (try dsimp only at hSw); go_simp; try (with_reducible rfl))
                try simp only [Act.put, List.setIfInBounds_toArray, List.set_cons_zero, List.set_cons_succ]
                refine wpAnyH_done (by kernel_rfl) ?_ _
                refine NoPanic.normal ?_
                have HT15 := Lib.hid (show (t4 ++ g1) ++ g2 = t3 ++ spsB e (m + 1) by rw [HSS.out, HSB.out, HT11.out]; simp [List.append_assoc])
                go_wp2_with fail
                (first | (refine ⟨?_, ?_⟩; (unfold RBs; exact ⟨m + 1, (t4 ++ g1) ++ g2, by omega, by go_num, HB15.out, HT15.out, HO15.out, HX15.out⟩); (simp [intOf]; omega)) | (go_roundw; (case rel => (unfold RBs; exact ⟨m + 1, (t4 ++ g1) ++ g2, by omega, by go_num, HB15.out, HT15.out, HO15.out, HX15.out⟩)); (case measure => (simp [intOf]; omega))) | (go_round; (case rel => (unfold RBs; exact ⟨m + 1, (t4 ++ g1) ++ g2, by omega, by go_num, HB15.out, HT15.out, HO15.out, HX15.out⟩)); (case measure => (simp [intOf]; omega))))
              · obtain rfl : m = 3 := by omega
                have HT16 := Lib.hid (HTT.out.trans (show t3 ++ spsB e 3 = t4 from HT11.out.symm))
                go_wp2_with fail
                (first | (refine ⟨?_, ?_⟩; (unfold RBe; exact ⟨j + 1, t4, by omega, by go_num, HB11.out, HT16.out.symm, HO11.out⟩); (simp [intOf]; omega)) | (go_roundw; (case rel => (unfold RBe; exact ⟨j + 1, t4, by omega, by go_num, HB11.out, HT16.out.symm, HO11.out⟩)); (case measure => (simp [intOf]; omega))) | (go_round; (case rel => (unfold RBe; exact ⟨j + 1, t4, by omega, by go_num, HB11.out, HT16.out.symm, HO11.out⟩)); (case measure => (simp [intOf]; omega))))
        · obtain rfl : j = 4 := by omega
          rw [edsB_four, ← HTK.out] at HT6
          go_wp2_with fail
          (first | (refine ⟨?_, ?_⟩; (unfold RBp; exact ⟨k + 1, t2, by omega, by go_num, HB6.out, HT6.out, HO6.out⟩); (simp [intOf]; omega)) | (go_roundw; (case rel => (unfold RBp; exact ⟨k + 1, t2, by omega, by go_num, HB6.out, HT6.out, HO6.out⟩)); (case measure => (simp [intOf]; omega))) | (go_round; (case rel => (unfold RBp; exact ⟨k + 1, t2, by omega, by go_num, HB6.out, HT6.out, HO6.out⟩)); (case measure => (simp [intOf]; omega))))
    · obtain rfl : k = l.length := by omega
      rw [List.take_length] at HT
      have hbl : (bodyB l).length ≤ 915 ∧ 1 ≤ (bodyB l).length := by
        have h1 := (scanB_len HO.out hn)
        unfold scanB at h1
        rw [List.length_append] at h1
        have h2 : ([0 - sumB (bodyB l)] : Tx).length = 1 := rfl
        omega
      have HTB := Lib.hid (show t = bodyB l from HT.out)
      rw [← HTB.out] at hbl
      have HSC := Lib.hid (show scanB l = t ++ [0 - sumB t] by rw [HTB.out]; rfl)
      obtain ⟨g, cap, e, hge, hg⟩ := HOWN.out.form (by omega)
      subst e
      have HSU := Lib.hid (SumR_any (some ⟨g, 0, none⟩) cap t wr (bs_row HOWN.out hg) (by omega))
      obtain ⟨z, hz⟩ : ∃ z : UInt8, 0 - sumB t = z := ⟨_, rfl⟩
      rw [hz] at HSC
      generalize sumB t = S at *
      have hs1 : (0 - (S.toNat : Int)) % 256 = (z.toNat : Int) := by rw [← hz, ← u8_neg]; congr 1; omega
      have hs2 : (-(S.toNat : Int)) % 256 = (z.toNat : Int) := by rw [← hz, ← u8_neg]
      clear hz HTB
      have HNk := Lib.hid (nxA wr (.cells #[.int .u8 (z.toNat : Int)] 5))
      have HXk := Lib.hid (Bx.new wr #[.int .u8 (z.toNat : Int)] 5)
      have HO8 := Lib.hid (own_below HOWN.out HNk.out)
      have HB8 := Lib.hid (HB.out.trans (HNk.out.mono HB.out.size))
      go_wp2_with fail
      refine HSU.out.mono ?_
      rintro x W2 ⟨rfl, hw⟩
      have hw2 := hw.symm
      clear hw
      subst hw2
      unfold u8v
      go_wp2_with (at_builtin; refine wpList_append_own _ rfl (.tmp 68) (.tmp 72) 37 rfl w.heap.size 5 i0 (.int .u8 0) 1 1 HU.out hi hz0 hz1 hz2 rfl (by decide) _ t.length _ rfl HO8.out ⟨W2.heap.size, 0, none⟩ 1 1 ([.int .u8 (z.toNat : Int)]) rfl (rfl) HXk.out.news (fun u hu => by simp at hu; subst hu; rfl) (by unfold maxLen; omega) (by omega) (HB8.out.size) ?_; intro v9 W9 hown hgrow _)
      go_ret
      refine ⟨_, rfl, ?_, Below.grown HB8.out hgrow HB8.out.size (fun j hj => (HO8.out.lt j hj).1)⟩
      rw [HSC.out, Lib.byteCells_append, List.length_append]
      exact hown
end
end Go.Proofs.YtonnemkecppmiaaGreatDoor
