import Derived.Test.YtkcfpnpejaekjaaDoorP15
namespace Go.Proofs.YtkcfpnpejaekjaaDoor
open Go.RowKit
/-! The program: Lost. -/
def retLost (x : (Int × Int) × Int) : Value := .tuple #[.agg #[.int .i64 x.1.1, .int .i64 x.1.2], .int .i64 x.2]
theorem lostS_ck (t : Tl) (p : Int) : lostS t p = if ckE t (inS p 0 ((t.admits.length : Int) - 1)) = 0 then (if t.admits.getD p.toNat 0 ≠ -1 then ((t.admits.getD p.toNat 0, t.admits.getD p.toNat 0), 0) else
  (((lostL t p.toNat (t.n.toNat + 1)).1, (lostL t p.toNat (t.n.toNat + 1)).2.1), 0)) else ((0, 0), ckE t (inS p 0 ((t.admits.length : Int) - 1))) := by
  unfold lostS ckE
  cases okTale t <;> cases inS p 0 ((t.admits.length : Int) - 1) <;> cases fitB t <;> simp
theorem says_ok {t : Tl} (ok : OkT t) {p : Nat} {v : Int} (hv : 0 ≤ v ∧ v ≤ 16) : OkT (saysT t p v) := by
  refine ⟨ok.n1, ok.n2, ?_, ?_, ok.lo, ok.lk, ok.lent, fun x hx => ?_, ok.look, fun m hm => ?_⟩
  · show 1 ≤ (t.admits.set p v).length; rw [List.length_set]; exact ok.a1
  · show (t.admits.set p v).length ≤ 6; rw [List.length_set]; exact ok.a2
  · show x.p < ((t.admits.set p v).length : Int); rw [List.length_set]; exact ok.per x hx
  · rcases List.mem_or_eq_of_mem_set hm with h | h
    · exact ok.adm m h
    · omega
/-- The span that Lost has found so far. -/
def spanL (x : Int × Int × Bool) : Int × Int := if x.2.2 then (x.1, x.2.1) else (-1, 0)
theorem spanL_step (t : Tl) (p n : Nat) : spanL (lostL t p (n + 1)) = if fitB (saysT t p n) then (if (spanL (lostL t p n)).1 < 0 then (n : Int) else (spanL (lostL t p n)).1, (n : Int)) else spanL (lostL t p n) := by
  have hnn : ∀ m, (lostL t p m).2.2 = true → 0 ≤ (lostL t p m).1 := fun m => by
    induction m with
    | zero => intro h; cases h
    | succ m ih =>
      show (if fitB (saysT t p m) then (if (lostL t p m).2.2 then (lostL t p m).1 else (m : Int), (m : Int), true) else lostL t p m).2.2 = true → 0 ≤ (if fitB (saysT t p m) then (if (lostL t p m).2.2 then (lostL t p m).1 else (m : Int), (m : Int), true) else lostL t p m).1
      split
      · intro _
        show 0 ≤ if (lostL t p m).2.2 then (lostL t p m).1 else (m : Int)
        split
        · rename_i h; exact ih h
        · omega
      · exact ih
  have h1 := hnn n
  show spanL (if fitB (saysT t p n) then (if (lostL t p n).2.2 then (lostL t p n).1 else (n : Int), (n : Int), true) else lostL t p n) = _
  cases fitB (saysT t p n)
  · rfl
  · rw [if_pos rfl, if_pos rfl]
    unfold spanL
    cases h : (lostL t p n).2.2
    · simp
    · have := h1 h
      simp
      omega
theorem lost_found {t : Tl} (ok : OkT t) {p : Nat} (hp : p < t.admits.length) (hs : t.admits.getD p 0 = -1) (hf : fitB t = true) : (lostL t p (t.n.toNat + 1)).2.2 = true := by
  have ha : admA t.admits p = none := (adm_none (fun x hx => (ok.adm x hx).1)).2 (.inr hs)
  obtain ⟨m, hm, hfit⟩ := (Fit.some p ha).1 ((fitB_iff ok.lent (fun x hx => (ok.look x hx).1)).1 hf)
  have hmn := ok.n2
  have h2 : fitB (saysT t p m) = true := by
    rw [fitB_iff (t := saysT t p m) ok.lent (fun x hx => (ok.look x hx).1)]
    have e : admA (saysT t p m).admits = setA (admA t.admits) p m := by
      funext x
      show admA (t.admits.set p (m : Int)) x = _
      unfold setA
      by_cases e : x = p
      · subst e
        rw [if_pos rfl]
        unfold admA
        rw [List.getElem?_set_self hp]
        show (if 0 ≤ (m : Int) then some (m : Int).toNat else none) = some m
        rw [if_pos (by omega), Int.toNat_natCast]
      · rw [if_neg e]
        unfold admA
        rw [List.getElem?_set_ne (fun e2 => e e2.symm)]
    rw [e]; exact hfit
  have h3 : ∀ n, m < n → (lostL t p n).2.2 = true := fun n => by
    induction n with
    | zero => intro h; omega
    | succ n ih =>
      intro h
      show (if fitB (saysT t p n) then (if (lostL t p n).2.2 then (lostL t p n).1 else (n : Int), (n : Int), true) else lostL t p n).2.2 = true
      by_cases e : m = n
      · subst e; rw [h2]; rfl
      · split
        · rfl
        · exact ih (by omega)
  exact h3 _ (by omega)
structure LoI (m : Mt) (p ga b6 b9 : Nat) (g : Nat → Nat) (ca : Nat) (w : World) (k : Nat) (W : World) : Prop where
  x3 : Bx W (w.heap.size + 1) [.int .i64 p]
  x4 : Bx W (w.heap.size + 1 + 1) [.int .i64 0, .int .i64 0]
  x6 : Bx W b6 (bkA { m with A3 := some ⟨ga, 0, none⟩, c3 := ca } g).toList
  x9 : Bx W b9 [.int .i64 (spanL (lostL m.t p k)).1, .int .i64 (spanL (lostL m.t p k)).2]
  va : ∃ adm : List Int, adm.length = m.t.admits.length ∧ (∀ v, adm.set p v = m.t.admits.set p v) ∧ VBlk W ga m.t.admits.length (fun j => .int .i64 (adm.getD j 0))
  b : Below w.heap.size w W
set_option maxRecDepth 100000 in
set_option maxHeartbeats 4000000 in
theorem Lost_any (m : Mt) (p : Int) (w : World) (hr : TaleAt w w.heap.size m) : Calls Tryd.prog 20 #[.agg #[.int .i64 m.t.n, .slice m.A1 m.t.loans.length m.c1, .slice m.A2 m.t.looks.length m.c2, .slice m.A3 m.t.admits.length m.c3], .int .i64 p] w (Ret (retLost (lostS m.t p)) w) := by
  have hmf : ∀ (fn : Fn) (first cap : Array Value) (w : World), (Instr.makeFunc fn first cap).run Tryd.prog w = .ok (.func fn first cap) w := fun _ _ _ _ => rfl
  have n1 := nxA w (.cells #[.int .i64 m.t.n, .slice m.A1 m.t.loans.length m.c1, .slice m.A2 m.t.looks.length m.c2, .slice m.A3 m.t.admits.length m.c3] 26)
  have y1 := Bx.new w #[.int .i64 m.t.n, .slice m.A1 m.t.loans.length m.c1, .slice m.A2 m.t.looks.length m.c2, .slice m.A3 m.t.admits.length m.c3] 26
  have s1 : (w.alloc (.cells #[.int .i64 m.t.n, .slice m.A1 m.t.loans.length m.c1, .slice m.A2 m.t.looks.length m.c2, .slice m.A3 m.t.admits.length m.c3] 26)).heap.size = w.heap.size + 1 := by simp
  have HR := Lib.hid hr
  clear hr
  go_enter Tryd.func20, Tryd.ntmps20
  go_upto_region 1 with fail
  generalize w.alloc (.cells #[.int .i64 m.t.n, .slice m.A1 m.t.loans.length m.c1, .slice m.A2 m.t.looks.length m.c2, .slice m.A3 m.t.admits.length m.c3] 26) = V1 at *
  have n2 := nxA V1 (.cells #[.int .i64 p] 3)
  have y2 := Bx.new V1 #[.int .i64 p] 3
  have s2 : (V1.alloc (.cells #[.int .i64 p] 3)).heap.size = w.heap.size + 1 + 1 := by simp [s1]
  generalize V1.alloc (.cells #[.int .i64 p] 3) = V2 at *
  have n3 := nxA V2 (.cells #[.int .i64 0, .int .i64 0] 33)
  have y3 := Bx.new V2 #[.int .i64 0, .int .i64 0] 33
  generalize V2.alloc (.cells #[.int .i64 0, .int .i64 0] 33) = V at *
  rw [s1] at y2
  rw [s2] at y3
  have HB := Lib.hid (n1.trans ((n2.trans (n3.mono n2.size)).mono n1.size))
  have HX2 := Lib.hid ((y1.next n2).next n3)
  have HX3 := Lib.hid (y2.next n3)
  have HX4 := Lib.hid y3
  have HRV := Lib.hid (HR.out.next HB.out)
  clear n1 n2 n3 y1 y2 y3 s1 s2
  obtain ⟨v, hv⟩ : ∃ v, v = inS p 0 ((m.t.admits.length : Int) - 1) := ⟨_, rfl⟩
  have HV := Lib.hid hv
  have HW := Lib.hid (show lostS m.t p = _ from lostS_ck m.t p)
  rw [← hv] at HW
  have c0 := HX2.out.c 0 _ rfl
  have c1 := HX2.out.c 1 _ rfl
  have c2 := HX2.out.c 2 _ rfl
  have c3 := HX2.out.c 3 _ rfl
  have l2 := HX2.out.lt
  have HCALL := Lib.hid (checkL_any m v (w.heap.size + 1) w.heap.size V HRV.out (fun ok W hb => by rw [hv]; exact lostF_any m p _ _ W (HX3.out.next hb) (HX2.out.next hb) HR.out.l3))
  clear hv
  go_wp2_with fail
  refine HCALL.out.mono ?_
  rintro e W1 ⟨hb1, m', g', rfl, hck⟩
  have HB1 := Lib.hid (HB.out.trans (hb1.mono HB.out.size))
  have X2 := Lib.hid (HX2.out.next hb1)
  have X3 := Lib.hid (HX3.out.next hb1)
  have X4 := Lib.hid (HX4.out.next hb1)
  have HCK := Lib.hid hck
  have n6 := nxA W1 (.cells #[.int .i64 0, .slice none 0 0, .slice none 0 0, .slice none 0 0, .int .i64 0, .int .i64 0, .int .i64 0, .int .i64 0, .int .i64 0, .int .i64 0, .int .i64 0, .int .i64 0, .int .i64 0, .int .i64 0, .int .i64 0, .int .i64 0, .int .i64 0, .int .i64 0, .int .i64 0, .int .i64 0] 69)
  have y6 := Bx.new W1 #[.int .i64 0, .slice none 0 0, .slice none 0 0, .slice none 0 0, .int .i64 0, .int .i64 0, .int .i64 0, .int .i64 0, .int .i64 0, .int .i64 0, .int .i64 0, .int .i64 0, .int .i64 0, .int .i64 0, .int .i64 0, .int .i64 0, .int .i64 0, .int .i64 0, .int .i64 0, .int .i64 0] 69
  obtain ⟨L, hL⟩ : ∃ L, L = (bkA m' g').toList := ⟨_, rfl⟩
  have HL := Lib.hid hL
  have HL20 := Lib.hid (show L.length = 20 from by rw [hL]; rfl)
  have HLC := Lib.hid (show L.toArray.all (·.oneCell') = true from by rw [hL]; exact bk_one _ _)
  have HLA := Lib.hid (show bkA m' g' = L.toArray from by rw [hL, Array.toArray_toList])
  have HSA := Lib.hid (show (Tryd.prog.info? 69).map (·.size) = some L.toArray.size from by rw [show L.toArray.size = 20 from by simpa using HL20.out]; exact bk_size)
  have HTH := Lib.hid (show (W1.alloc (.cells #[.int .i64 0, .slice none 0 0, .slice none 0 0, .slice none 0 0, .int .i64 0, .int .i64 0, .int .i64 0, .int .i64 0, .int .i64 0, .int .i64 0, .int .i64 0, .int .i64 0, .int .i64 0, .int .i64 0, .int .i64 0, .int .i64 0, .int .i64 0, .int .i64 0, .int .i64 0, .int .i64 0] 69)).there W1.heap.size 0 L.toArray.size from by rw [show L.toArray.size = 20 from by simpa using HL20.out]; exact bk_there y6 rfl)
  have Z6 := Lib.hid (y6.setAll L (by rw [HL20.out]; rfl))
  have HBB := Lib.hid (show w.heap.size + 1 + 1 < W1.heap.size from X4.out.lt)
  have HB6 := Lib.hid (below_setCells (b := W1.heap.size) (by have := HB1.out.size; omega) L 0 (HB1.out.trans (n6.mono HB1.out.size)))
  have Z2 := Lib.hid ((X2.out.next n6).setOther (g := W1.heap.size) (by have := HBB.out; omega) L 0)
  have Z3 := Lib.hid ((X3.out.next n6).setOther (g := W1.heap.size) (by have := HBB.out; omega) L 0)
  have Z4 := Lib.hid ((X4.out.next n6).setOther (g := W1.heap.size) (by have := HBB.out; omega) L 0)
  rw [← wset_eq] at Z6 HB6 Z2 Z3 Z4
  rw [HLA.out]
  clear hL hb1 hck n6 y6 c0 c1 c2 c3 l2 hmf HCALL
  go_upto_region 2 with (refine wpList_store_mid rfl 69 (.tmp 6) (.tmp 15) rfl W1.heap.size 0 L.toArray rfl rfl HTH.out HSA.out HLC.out ?_)
  generalize (W1.alloc (.cells #[.int .i64 0, .slice none 0 0, .slice none 0 0, .slice none 0 0, .int .i64 0, .int .i64 0, .int .i64 0, .int .i64 0, .int .i64 0, .int .i64 0, .int .i64 0, .int .i64 0, .int .i64 0, .int .i64 0, .int .i64 0, .int .i64 0, .int .i64 0, .int .i64 0, .int .i64 0, .int .i64 0] 69)).setCells W1.heap.size 0 L = W6 at *
  obtain ⟨b6, hb6⟩ : ∃ b6, b6 = W1.heap.size := ⟨_, rfl⟩
  rw [← hb6] at Z6 HBB ⊢
  clear hb6
  have c0 := Z2.out.c 0 _ rfl
  have c3 := Z2.out.c 3 _ rfl
  have p0 := Z3.out.c 0 _ rfl
  have s0 := Z4.out.c 0 _ rfl
  have s1 := Z4.out.c 1 _ rfl
  have f0 := Z4.out.fr 0
  have f1 := Z4.out.fr 1
  have l4 := Z4.out.lt
  have l2 := Z2.out.lt
  by_cases h0 : ckE m.t v = 0
  · rw [h0]
    rw [if_pos h0] at HW
    obtain ⟨em, hg⟩ := HCK.out h0
    obtain rfl : m = m' := em.symm
    have HG := Lib.hid hg
    have HCZ := Lib.hid (ck_zero h0)
    have OK := Lib.hid (okT_of HCZ.out.1)
    have hip := inS_iff.1 (HV.out.symm.trans HCZ.out.2.1)
    obtain ⟨q, hq⟩ : ∃ q : Nat, p = q := ⟨p.toNat, by omega⟩
    subst hq
    rw [show ((q : Int)).toNat = q from by omega] at HW
    have hql : q < m.t.admits.length := by omega
    have HT6 := Lib.hid ((HR.out.below HB6.out).more HB6.out.size)
    obtain ⟨b, off, eA, hb, hcell⟩ := int_at HT6.out.ad hql
    have hxr := OK.out.adm (m.t.admits.getD q 0) (getD_mem hql)
    obtain ⟨x, hx⟩ : ∃ x, x = m.t.admits.getD q 0 := ⟨_, rfl⟩
    have HX := Lib.hid hx
    rw [← hx] at hcell hxr
    rw [← hx] at HW
    rw [eA] at c3
    have EA := Lib.hid eA
    clear h0 HCK hg hip em hx eA
    by_cases h1 : x = -1
    · have h1' : (x != -1) = false := by rw [h1]; rfl
      have HX1 := Lib.hid h1
      rw [if_neg (by rw [h1]; simp)] at HW
      have hadm := HT6.out.ad
      rw [EA.out] at hadm
      have h6 := OK.out.a2
      have hnb := OK.out.n2
      have hn1 := OK.out.n1
      obtain ⟨n, hn⟩ : ∃ n : Nat, m.t.n = n := ⟨m.t.n.toNat, by omega⟩
      have HN := Lib.hid hn
      have HNN := Lib.hid (show m.t.n.toNat = n by omega)
      rw [HNN.out] at HW
      have HFD := Lib.hid (lost_found OK.out hql (HX.out.symm.trans h1) HCZ.out.2.2)
      rw [HNN.out] at HFD
      have hn16 : n ≤ 16 := by omega
      rw [hn] at c0
      have HCL := Lib.hid (clone_any b off m.c3 m.t.admits W6 OK.out.a1 (by omega) hadm)
      clear h1 hn hnb hn1 s0 s1 f0 f1 hadm
      go_wp2_with fail
      refine HCL.out.mono ?_
      rintro e W7 ⟨ga, ca, rfl, hca, hga, hva, hb7⟩
      clear c0 c3 p0 hcell HCL
      have X6 := Lib.hid (Z6.out.next hb7)
      have hz6 := Z6.out.lt
      have hne : b6 ≠ ga := by omega
      have HNE := Lib.hid hne
      have HGA := Lib.hid (show w.heap.size + 1 + 1 < ga from by omega)
      have HCA := Lib.hid hca
      have hLc := HL.out
      have l63 : L[3]? = some (.slice m.A3 m.t.admits.length m.c3) := by rw [HL.out]; rfl
      have d3 := X6.out.c 3 _ l63
      have e3 := X6.out.fr 3
      have l6 := X6.out.lt
      have Y2 := Lib.hid ((Z2.out.next hb7).other (g := b6) (by have := HBB.out; omega) 3 (.slice (some ⟨ga, 0, none⟩) m.t.admits.length ca))
      have Y3 := Lib.hid ((Z3.out.next hb7).other (g := b6) (by have := HBB.out; omega) 3 (.slice (some ⟨ga, 0, none⟩) m.t.admits.length ca))
      have Y4 := Lib.hid ((Z4.out.next hb7).other (g := b6) (by have := HBB.out; omega) 3 (.slice (some ⟨ga, 0, none⟩) m.t.admits.length ca))
      have YV := Lib.hid (hva.other hne 3 (.slice (some ⟨ga, 0, none⟩) m.t.admits.length ca))
      have Y6 := Lib.hid (show Bx (W7.setCell ⟨b6, 3, none⟩ (.slice (some ⟨ga, 0, none⟩) m.t.admits.length ca)) b6 (bkA { m with A3 := some ⟨ga, 0, none⟩, c3 := ca } g').toList from by
        have h := X6.out.set (k := 3) (by rw [HL20.out]; decide) (.slice (some ⟨ga, 0, none⟩) m.t.admits.length ca)
        rw [HL.out] at h
        exact h)
      have YB := Lib.hid ((HB6.out.trans (hb7.mono HB6.out.size)).setCell (p := ⟨b6, 3, none⟩) (by show w.heap.size ≤ b6; have := HBB.out; omega) (.slice (some ⟨ga, 0, none⟩) m.t.admits.length ca))
      clear hb7 hva hLc l63 hz6 hne
      go_upto_region 8 with fail
      clear d3 e3 l6
      generalize W7.setCell ⟨b6, 3, none⟩ (.slice (some ⟨ga, 0, none⟩) m.t.admits.length ca) = W8 at *
      have n9 := nxA W8 (.cells #[.int .i64 (-1), .int .i64 0] 33)
      have y9 := Bx.new W8 #[.int .i64 (-1), .int .i64 0] 33
      have H0 := Lib.hid (show LoI m q ga b6 W8.heap.size g' ca w 0 (W8.alloc (.cells #[.int .i64 (-1), .int .i64 0] 33)) from ⟨Y3.out.next n9, Y4.out.next n9, Y6.out.next n9, y9, ⟨m.t.admits, rfl, fun _ => rfl, YV.out.next n9⟩, YB.out.trans (n9.mono YB.out.size)⟩)
      have Y2n := Lib.hid (Y2.out.next n9)
      have HD9 := Lib.hid (show b6 < W8.heap.size ∧ ga < W8.heap.size ∧ w.heap.size + 1 + 1 < W8.heap.size from ⟨Y6.out.lt, YV.out.lt, Y4.out.lt⟩)
      clear n9 y9
      go_upto_region 9 with fail
      generalize W8.alloc (.cells #[.int .i64 (-1), .int .i64 0] 33) = W9 at *
      obtain ⟨b9, hb9⟩ : ∃ b9, b9 = W8.heap.size := ⟨_, rfl⟩
      rw [← hb9] at H0 HD9 ⊢
      clear hb9
      have c0 := Y2n.out.c 0 (.int .i64 n) (by rw [← HN.out]; rfl)
      have hw1 : IntKind.i64.wrap ((n : Int) + 1) = ((n + 1 : Nat) : Int) := by rw [IntKind.wrap_i64]; omega
      go_wp2_with fail
      try rw [hw1]
      clear c0 hw1
      go_loopw [40] (fun iv wr => ∃ k : Nat, iv = .int .i64 k ∧ k ≤ n + 1 ∧ LoI m q ga b6 b9 g' ca w k wr) (fun iv _ => n + 1 - (intOf iv).toNat)
      case atStart => exact ⟨0, rfl, by omega, H0.out⟩
      case round =>
        obtain ⟨k, rfl, hk, hi⟩ := hrel
        have HI := Lib.hid hi
        clear hi
        by_cases hlt : k < n + 1
        · obtain ⟨adm, hal, has, hva⟩ := HI.out.va
          have c3 := HI.out.x6.c 3 (.slice (some ⟨ga, 0, none⟩) m.t.admits.length ca) rfl
          have p0 := HI.out.x3.c 0 _ rfl
          have a0 := hva.cell q hql
          have fa := hva.free q
          have l6 := HI.out.x6.lt
          have l9 := HI.out.x9.lt
          obtain ⟨m2, hm2⟩ : ∃ m2 : Mt, m2 = ⟨saysT m.t q k, m.A1, m.c1, m.A2, m.c2, some ⟨ga, 0, none⟩, ca⟩ := ⟨_, rfl⟩
          have VN := Lib.hid (show VBlk (wr.setCell ⟨ga, q, none⟩ (.int .i64 k)) ga m.t.admits.length (fun j => .int .i64 ((m.t.admits.set q (k : Int)).getD j 0)) from hva.set_ hql (by rw [List.getD_eq_getElem?_getD, List.getElem?_set_self hql]; rfl) (fun i hiq => by
            rw [← has, List.getD_eq_getElem?_getD, List.getElem?_set_ne (Ne.symm hiq), List.getD_eq_getElem?_getD]))
          have X6 := Lib.hid (show Bx (wr.setCell ⟨ga, q, none⟩ (.int .i64 k)) b6 (bkA m2 g').toList from by
            have h := HI.out.x6.other (g := ga) HNE.out q (.int .i64 k)
            have e : (bkA m2 g').toList = (bkA { m with A3 := some ⟨ga, 0, none⟩, c3 := ca } g').toList := by
              rw [hm2]; unfold bkA saysT
              dsimp only
              rw [List.length_set]
            rw [e]; exact h)
          have X3 := Lib.hid (HI.out.x3.other (g := ga) (by have := HGA.out; omega) q (.int .i64 k))
          have X4 := Lib.hid (HI.out.x4.other (g := ga) (by have := HGA.out; omega) q (.int .i64 k))
          have X9 := Lib.hid (HI.out.x9.other (g := ga) (by have := HD9.out; omega) q (.int .i64 k))
          have XB := Lib.hid (HI.out.b.setCell (p := ⟨ga, q, none⟩) (by show w.heap.size ≤ ga; have := HGA.out; omega) (.int .i64 k))
          clear hal has hva HI
          go_upto_region 13 with fail
          clear c3 p0 a0 fa l6 l9
          generalize wr.setCell ⟨ga, q, none⟩ (.int .i64 k) = W10 at *
          have HRNG := Lib.hid X6.out.range
          have HSI := Lib.hid (show (Tryd.prog.info? 69).map (·.size) = some (bkA m2 g').toList.length from bk_size)
          have HT := Lib.hid (show TaleAt W10 W10.heap.size m2 from by
            have hT := (HR.out.below XB.out).more XB.out.size
            rw [hm2]
            exact ⟨hT.lo, hT.lk, At.vblk (l := m.t.admits.set q (k : Int)) (by rw [List.length_set]; exact VN.out), hT.l1, hT.l2, by show (m.t.admits.set q (k : Int)).length ≤ _; rw [List.length_set]; exact hT.l3, hT.k1, hT.k2, by show (m.t.admits.set q (k : Int)).length ≤ ca; rw [List.length_set]; exact HCA.out⟩)
          have OKS := Lib.hid (says_ok (p := q) (v := (k : Int)) OK.out (by omega))
          have HOK := Lib.hid (show OkBk m2 g' from by rw [HG.out, hm2]; exact op_bk (m := ⟨saysT m.t q k, m.A1, m.c1, m.A2, m.c2, some ⟨ga, 0, none⟩, ca⟩) OKS.out)
          have HFO := Lib.hid (show Fit m2.t.n.toNat (fun k p => has (g' k) p) (admA m2.t.admits) ↔ fitB (saysT m.t q k) = true from by rw [HG.out, hm2]; exact fit_op OKS.out)
          have HST := Lib.hid (spanL_step m.t q k)
          have HM2 := Lib.hid hm2
          clear hm2
          go_wp2_with (refine wpList_load_mid rfl 69 (.tmp 6) rfl b6 0 rfl (bkA m2 g').toList _ HRNG.out bk_und rfl HSI.out ?_)
          refine (fits_bk m2 g' W10 HT.out HOK.out).mono ?_
          rintro e W11 ⟨rb, rfl, hb11, hiff⟩
          have HF := Lib.hid (show rb = fitB (saysT m.t q k) from Bool.eq_iff_iff.2 (hiff.trans HFO.out))
          have e6 : (bkA m2 g').toList = (bkA { m with A3 := some ⟨ga, 0, none⟩, c3 := ca } g').toList := by
            rw [HM2.out]; unfold bkA saysT
            dsimp only
            rw [List.length_set]
          have Q3 := Lib.hid (X3.out.next hb11)
          have Q4 := Lib.hid (X4.out.next hb11)
          have Q6 := Lib.hid (show Bx W11 b6 (bkA { m with A3 := some ⟨ga, 0, none⟩, c3 := ca } g').toList from by rw [← e6]; exact X6.out.next hb11)
          have Q9 := Lib.hid (X9.out.next hb11)
          have QV := Lib.hid (VN.out.next hb11)
          have QB := Lib.hid (XB.out.trans (hb11.mono XB.out.size))
          have HADM := Lib.hid (show (m.t.admits.set q (k : Int)).length = m.t.admits.length ∧ ∀ v, (m.t.admits.set q (k : Int)).set q v = m.t.admits.set q v from ⟨List.length_set, fun v => List.set_set ..⟩)
          rw [← HF.out] at HST
          clear hb11 hiff e6 X6 X3 X4 X9 XB VN HRNG HSI HT HOK HFO
          have z0 := Q9.out.c 0 _ rfl
          have z1 := Q9.out.c 1 _ rfl
          have y0 := Q9.out.fr 0
          have y1 := Q9.out.fr 1
          have l9 := Q9.out.lt
          cases rb
          · have HST2 := Lib.hid (HST.out.trans (if_neg (by decide)))
            have HFIN := Lib.hid (show LoI m q ga b6 b9 g' ca w (k + 1) W11 from ⟨Q3.out, Q4.out, Q6.out, by rw [HST2.out]; exact Q9.out, ⟨_, HADM.out.1, HADM.out.2, QV.out⟩, QB.out⟩)
            clear z0 z1 y0 y1 l9
            go_wp2_with fail
            exact ⟨⟨k + 1, by go_num, by omega, HFIN.out⟩, by simp [intOf]; omega⟩
          · have HST2 := Lib.hid (HST.out.trans (if_pos rfl))
            have hwb : w.heap.size ≤ b9 := by have := HD9.out; omega
            generalize spanL (lostL m.t q k) = S at *
            obtain ⟨lo, hi⟩ := S
            dsimp only at z0 z1 HST2
            by_cases hlo : lo < 0
            · have d1 : decide (lo < 0) = true := decide_eq_true hlo
              have HST3 := Lib.hid (show spanL (lostL m.t q (k + 1)) = ((k : Int), (k : Int)) from by rw [HST2.out, if_pos hlo])
              have hfin : LoI m q ga b6 b9 g' ca w (k + 1) ((W11.setCell ⟨b9, 0, none⟩ (.int .i64 k)).setCell ⟨b9, 1, none⟩ (.int .i64 k)) := by
                refine ⟨(Q3.out.other (by have := HD9.out; omega) _ _).other (by have := HD9.out; omega) _ _, (Q4.out.other (by have := HD9.out; omega) _ _).other (by have := HD9.out; omega) _ _, (Q6.out.other (by have := HD9.out; omega) _ _).other (by have := HD9.out; omega) _ _, ?_, ⟨_, HADM.out.1, HADM.out.2, (QV.out.other (by have := HD9.out; omega) _ _).other (by have := HD9.out; omega) _ _⟩, (QB.out.setCell (p := ⟨b9, 0, none⟩) hwb _).setCell (p := ⟨b9, 1, none⟩) hwb _⟩
                rw [HST3.out]
                exact (Q9.out.set (k := 0) (by simp) (.int .i64 k)).set (k := 1) (by simp) (.int .i64 k)
              have HFIN := Lib.hid hfin
              clear hfin hlo
              go_wp2_with fail
              exact ⟨⟨k + 1, by go_num, by omega, HFIN.out⟩, by simp [intOf]; omega⟩
            · have d1 : decide (lo < 0) = false := decide_eq_false hlo
              have HST3 := Lib.hid (show spanL (lostL m.t q (k + 1)) = (lo, (k : Int)) from by rw [HST2.out, if_neg hlo])
              have hfin : LoI m q ga b6 b9 g' ca w (k + 1) (W11.setCell ⟨b9, 1, none⟩ (.int .i64 k)) := by
                refine ⟨Q3.out.other (by have := HD9.out; omega) _ _, Q4.out.other (by have := HD9.out; omega) _ _, Q6.out.other (by have := HD9.out; omega) _ _, ?_, ⟨_, HADM.out.1, HADM.out.2, QV.out.other (by have := HD9.out; omega) _ _⟩, QB.out.setCell (p := ⟨b9, 1, none⟩) hwb _⟩
                rw [HST3.out]
                exact Q9.out.set (k := 1) (by simp) (.int .i64 k)
              have HFIN := Lib.hid hfin
              clear hfin hlo
              go_wp2_with fail
              exact ⟨⟨k + 1, by go_num, by omega, HFIN.out⟩, by simp [intOf]; omega⟩
        · obtain rfl : k = n + 1 := by omega
          have HSP := Lib.hid (show spanL (lostL m.t q (n + 1)) = ((lostL m.t q (n + 1)).1, (lostL m.t q (n + 1)).2.1) from by unfold spanL; rw [if_pos HFD.out])
          have hx9 := HI.out.x9
          rw [HSP.out] at hx9
          have z0 := hx9.c 0 _ rfl
          have z1 := hx9.c 1 _ rfl
          have s0 := HI.out.x4.c 0 _ rfl
          have s1 := HI.out.x4.c 1 _ rfl
          have f0 := HI.out.x4.fr 0
          have f1 := HI.out.x4.fr 1
          have l4 := HI.out.x4.lt
          have l9 := HI.out.x9.lt
          dsimp only at z0 z1 HW
          generalize (lostL m.t q (n + 1)).1 = lo at *
          generalize (lostL m.t q (n + 1)).2.1 = hi at *
          have HXN := Lib.hid (HI.out.x4.setAll [.int .i64 lo, .int .i64 hi] rfl)
          have HBN := Lib.hid (below_setCells (b := w.heap.size + 1 + 1) (by omega) [.int .i64 lo, .int .i64 hi] 0 HI.out.b)
          clear hx9 HSP
          go_wp2_with fail
          (try simp only [Exit.inBlock, Exit.then])
          refine bodyPost_ret (results_cellA rfl rfl (loadSp HXN.out)) rfl ?_
          exact ⟨by rw [HW.out]; rfl, HBN.out⟩
    · rw [if_pos h1] at HW
      have h1' : (x != -1) = true := by simpa using h1
      have HXN := Lib.hid (Z4.out.setAll [.int .i64 x, .int .i64 x] rfl)
      have HBN := Lib.hid (below_setCells (b := w.heap.size + 1 + 1) (by omega) [.int .i64 x, .int .i64 x] 0 HB6.out)
      clear h1
      go_wp2_with fail
      (try simp only [Exit.inBlock, Exit.then])
      refine bodyPost_ret (results_cellA rfl rfl (loadSp HXN.out)) rfl ?_
      exact ⟨by rw [HW.out]; rfl, HBN.out⟩
  · rw [if_neg h0] at HW
    generalize ckE m.t v = x at *
    have hx : (x == 0) = false := by simpa using h0
    have hx2 : (x != 0) = true := by simpa using h0
    have HXN := Lib.hid (Z4.out.setAll [.int .i64 0, .int .i64 0] rfl)
    have HBN := Lib.hid (below_setCells (b := w.heap.size + 1 + 1) (by omega) [.int .i64 0, .int .i64 0] 0 HB6.out)
    clear h0
    go_wp2_with fail
    (try simp only [Exit.inBlock, Exit.then])
    refine bodyPost_ret (results_cellA rfl rfl (loadSp HXN.out)) rfl ?_
    exact ⟨by rw [HW.out]; rfl, HBN.out⟩
end Go.Proofs.YtkcfpnpejaekjaaDoor
