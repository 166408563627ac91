import Derived.Test.YtonnemkecppmiaaGreatDoorP3
namespace Go.Proofs.YtonnemkecppmiaaGreatDoor
open Go.RowKit
/-! The reference: what is valid. -/
set_option maxHeartbeats 400000 in
theorem in02_any (a b c : Int) (w : World) : Calls Tryz.prog 116 #[.int .i64 a, .int .i64 b, .int .i64 c] w (RetQ (.bool (inP a b c)) w) := by
  go_enter Tryz.func116, Tryz.ntmps116
  go_wp2
  all_goals (go_ret; refine retq_bool ?_; unfold inP; rw [Bool.eq_iff_iff]; simp; try omega)
set_option maxHeartbeats 400000 in
theorem in03_any (a b c : Int) (w : World) : Calls Tryz.prog 101 #[.int .i64 a, .int .i64 b, .int .i64 c] w (RetQ (.bool (inP a b c)) w) := by
  go_enter Tryz.func101, Tryz.ntmps101
  go_wp2
  all_goals (go_ret; refine retq_bool ?_; unfold inP; rw [Bool.eq_iff_iff]; simp; try omega)
set_option maxHeartbeats 400000 in
theorem span02_any (s : Sp) (a b : Int) (w : World) : Calls Tryz.prog 117 #[.agg #[.int .i64 s.lo, .int .i64 s.hi], .int .i64 a, .int .i64 b] w (Ret (.bool (okSp s a b)) w) := by
  go_enter Tryz.func117, Tryz.ntmps117
  go_wp2
  all_goals (go_ret; refine ret_bool ?_ ((Below.refl _ _).alloc (Nat.le_refl _) _); unfold okSp; rw [Bool.eq_iff_iff]; simp; try omega)
def side02 (e : Ed) : Bool := if e.kind = 0 then true else inP e.kind 1 2 && (okSp e.a 0 10000 && (okSp e.w 1 3000 && okSp e.d 1 3000))
theorem okEd_side (e : Ed) : okEd e = (side02 e && (!(decide (e.kind = 0)) || decide (e = ed0))) := by
  unfold okEd side02
  by_cases h : e.kind = 0
  · rw [if_pos h, if_pos h, decide_eq_true h]; rfl
  · rw [if_neg h, if_neg h, decide_eq_false h]
    by_cases h2 : e.kind = 1 ∨ e.kind = 2
    · rw [if_pos h2, inP_iff.2 (show 1 ≤ e.kind ∧ e.kind ≤ 2 by omega)]; simp
    · rw [if_neg h2]
      have : inP e.kind 1 2 = false := by
        cases h3 : inP e.kind 1 2 with
        | false => rfl
        | true => have := inP_iff.1 h3; omega
      rw [this]; rfl
set_option maxHeartbeats 1000000 in
theorem side02_any (e : Ed) (w : World) : Calls Tryz.prog 102 #[.agg #[.int .i64 e.kind, .int .i64 e.a.lo, .int .i64 e.a.hi, .int .i64 e.w.lo, .int .i64 e.w.hi, .int .i64 e.d.lo, .int .i64 e.d.hi]] w (Ret (.bool (side02 e)) w) := by
  have HX := Lib.hid (Bx.new w #[.int .i64 e.kind, .int .i64 e.a.lo, .int .i64 e.a.hi, .int .i64 e.w.lo, .int .i64 e.w.hi, .int .i64 e.d.lo, .int .i64 e.d.hi] 48)
  have HB := Lib.hid (nxA w (.cells #[.int .i64 e.kind, .int .i64 e.a.lo, .int .i64 e.a.hi, .int .i64 e.w.lo, .int .i64 e.w.hi, .int .i64 e.d.lo, .int .i64 e.d.hi] 48))
  have HOK := Lib.hid (show side02 e = if e.kind = 0 then true else inP e.kind 1 2 && (okSp e.a 0 10000 && (okSp e.w 1 3000 && okSp e.d 1 3000)) from rfl)
  go_enter Tryz.func102, Tryz.ntmps102
  go_upto_region 1 with fail
  generalize (w.alloc (.cells #[.int .i64 e.kind, .int .i64 e.a.lo, .int .i64 e.a.hi, .int .i64 e.w.lo, .int .i64 e.w.hi, .int .i64 e.d.lo, .int .i64 e.d.hi] 48)) = V at *
  have c0 := HX.out.c 0 _ rfl
  have c1 := HX.out.c 1 _ rfl
  have c2 := HX.out.c 2 _ rfl
  by_cases hk0 : e.kind = 0
  · have d0 : (e.kind == 0) = true := by simp [hk0]
    have HH := Lib.hid (HOK.out.trans (if_pos hk0))
    clear hk0
    go_wp2_with fail
    go_ret
    exact ret_bool (by rw [HH.out]) HB.out
  · have d0 : (e.kind == 0) = false := by simp [hk0]
    have HH := Lib.hid (HOK.out.trans (if_neg hk0))
    clear hk0
    cases hi : inP e.kind 1 2
    · go_wp2_with (go_at_call 116; (with_reducible refine (in02_any _ _ _ _).mono ?_); rintro e w' ⟨rfl, rfl⟩)
      go_ret
      exact ret_bool (by rw [HH.out, hi]; rfl) HB.out
    · go_wp2_with (first | (go_at_call 116; (with_reducible refine (in02_any _ _ _ _).mono ?_); rintro e w' ⟨rfl, rfl⟩) | fail)
      refine (span02_any e.a 0 10000 V).mono ?_
      rintro e1 V1 ⟨rfl, hb⟩
      have HB1 := Lib.hid (HB.out.trans (hb.mono HB.out.size))
      have HX1 := Lib.hid (HX.out.next hb)
      clear hb c0 c1 c2
      have c3 := HX1.out.c 3 _ rfl
      have c4 := HX1.out.c 4 _ rfl
      cases ha : okSp e.a 0 10000
      · go_wp2_with fail
        go_ret
        exact ret_bool (by rw [HH.out, hi, ha]; rfl) HB1.out
      · go_wp2_with fail
        refine (span02_any e.w 1 3000 V1).mono ?_
        rintro e1 V2 ⟨rfl, hb⟩
        have HB2 := Lib.hid (HB1.out.trans (hb.mono HB1.out.size))
        have HX2 := Lib.hid (HX1.out.next hb)
        clear hb c3 c4
        have c5 := HX2.out.c 5 _ rfl
        have c6 := HX2.out.c 6 _ rfl
        cases hw : okSp e.w 1 3000
        · go_wp2_with fail
          go_ret
          exact ret_bool (by rw [HH.out, hi, ha, hw]; rfl) HB2.out
        · go_wp2_with fail
          refine (span02_any e.d 1 3000 V2).mono ?_
          rintro e1 V3 ⟨rfl, hb⟩
          have HB3 := Lib.hid (HB2.out.trans (hb.mono HB2.out.size))
          clear hb
          go_wp2_with fail
          go_ret
          exact ret_bool (by rw [HH.out, hi, ha, hw]; rfl) HB3.out
set_option maxRecDepth 100000 in
set_option maxHeartbeats 1000000 in
theorem Side_any (e : Ed) (w : World) : Calls Tryz.prog 103 #[.agg #[.int .i64 e.kind, .int .i64 e.a.lo, .int .i64 e.a.hi, .int .i64 e.w.lo, .int .i64 e.w.hi, .int .i64 e.d.lo, .int .i64 e.d.hi]] w (Ret (.bool (okEd e)) w) := by
  have HX := Lib.hid (Bx.new w #[.int .i64 e.kind, .int .i64 e.a.lo, .int .i64 e.a.hi, .int .i64 e.w.lo, .int .i64 e.w.hi, .int .i64 e.d.lo, .int .i64 e.d.hi] 48)
  have HB := Lib.hid (nxA w (.cells #[.int .i64 e.kind, .int .i64 e.a.lo, .int .i64 e.a.hi, .int .i64 e.w.lo, .int .i64 e.w.hi, .int .i64 e.d.lo, .int .i64 e.d.hi] 48))
  have HOK := Lib.hid (okEd_side e)
  have hq1 := fun W => edge_eql e W
  have hq3 := edge_eq3
  go_enter Tryz.func103, Tryz.ntmps103
  go_upto_region 1 with fail
  generalize (w.alloc (.cells #[.int .i64 e.kind, .int .i64 e.a.lo, .int .i64 e.a.hi, .int .i64 e.w.lo, .int .i64 e.w.hi, .int .i64 e.d.lo, .int .i64 e.d.hi] 48)) = V at *
  have c0 := HX.out.c 0 _ rfl
  have c1 := HX.out.c 1 _ rfl
  have c2 := HX.out.c 2 _ rfl
  have c3 := HX.out.c 3 _ rfl
  have c4 := HX.out.c 4 _ rfl
  have c5 := HX.out.c 5 _ rfl
  have c6 := HX.out.c 6 _ rfl
  go_wp2_with fail
  refine (side02_any e V).mono ?_
  rintro e1 V1 ⟨rfl, hb⟩
  have HB1 := Lib.hid (HB.out.trans (hb.mono HB.out.size))
  have HX1 := Lib.hid (HX.out.next hb)
  clear hb c0 c1 c2 c3 c4 c5 c6
  have c0 := HX1.out.c 0 _ rfl
  have c1 := HX1.out.c 1 _ rfl
  have c2 := HX1.out.c 2 _ rfl
  have c3 := HX1.out.c 3 _ rfl
  have c4 := HX1.out.c 4 _ rfl
  have c5 := HX1.out.c 5 _ rfl
  have c6 := HX1.out.c 6 _ rfl
  cases hs : side02 e
  · rw [hs] at HOK
    go_wp2_with fail
    go_ret
    exact ret_bool (by rw [HOK.out]; rfl) HB1.out
  · rw [hs] at HOK
    by_cases hk0 : e.kind = 0
    · have d0 : (e.kind == 0) = true := by simp [hk0]
      have d1 : decide (e.kind = 0) = true := decide_eq_true hk0
      have d2 : (e.kind != 0) = false := by simp [hk0]
      have HH := Lib.hid (show okEd e = decide (e = ed0) by rw [HOK.out, decide_eq_true hk0]; rfl)
      clear hk0
      go_wp2_with fail
      go_ret
      exact ret_bool (by rw [HH.out]) HB1.out
    · have d0 : (e.kind == 0) = false := by simp [hk0]
      have d1 : decide (e.kind = 0) = false := decide_eq_false hk0
      have d2 : (e.kind != 0) = true := by simp [hk0]
      have HH := Lib.hid (show okEd e = true by rw [HOK.out, decide_eq_false hk0]; rfl)
      clear hk0
      go_wp2_with fail
      go_ret
      exact ret_bool (by rw [HH.out]) HB1.out
set_option maxHeartbeats 1000000 in
theorem Play_any (p : Py) (w : World) : Calls Tryz.prog 100 #[.agg #[.int .i64 p.len, .int .i64 p.slack, .int .i64 p.loose, .int .i64 p.damp.lo, .int .i64 p.damp.hi]] w (Ret (.bool (okPy p)) w) := by
  have HX := Lib.hid (Bx.new w #[.int .i64 p.len, .int .i64 p.slack, .int .i64 p.loose, .int .i64 p.damp.lo, .int .i64 p.damp.hi] 25)
  have HB := Lib.hid (nxA w (.cells #[.int .i64 p.len, .int .i64 p.slack, .int .i64 p.loose, .int .i64 p.damp.lo, .int .i64 p.damp.hi] 25))
  have HOK := Lib.hid (show okPy p = (inP p.len 1 10000 && (inP p.slack 0 500 && (inP p.loose 0 500 && okSp p.damp 0 100))) from rfl)
  go_enter Tryz.func100, Tryz.ntmps100
  go_upto_region 1 with fail
  generalize (w.alloc (.cells #[.int .i64 p.len, .int .i64 p.slack, .int .i64 p.loose, .int .i64 p.damp.lo, .int .i64 p.damp.hi] 25)) = V at *
  have c0 := HX.out.c 0 _ rfl
  have c1 := HX.out.c 1 _ rfl
  have c2 := HX.out.c 2 _ rfl
  have c3 := HX.out.c 3 _ rfl
  have c4 := HX.out.c 4 _ rfl
  rcases chain3 (inP p.len 1 10000) (inP p.slack 0 500) (inP p.loose 0 500) with h1 | ⟨h1, h2⟩ | ⟨h1, h2, h3⟩ | ⟨h1, h2, h3⟩
  rotate_right
  · go_wp2_with (first | (go_at_call 116; (with_reducible refine (in02_any _ _ _ _).mono ?_); rintro e w' ⟨rfl, rfl⟩) | fail)
    refine (span02_any p.damp 0 100 V).mono ?_
    rintro e1 V1 ⟨rfl, hb⟩
    have HB1 := Lib.hid (HB.out.trans (hb.mono HB.out.size))
    clear hb
    go_wp2_with fail
    go_ret
    exact ret_bool (by rw [HOK.out, h1, h2, h3]; rfl) HB1.out
  all_goals
    go_wp2_with (go_at_call 116; (with_reducible refine (in02_any _ _ _ _).mono ?_); rintro e w' ⟨rfl, rfl⟩)
    go_ret
    exact ret_bool (by rw [HOK.out]; simp [*]) HB.out
set_option maxRecDepth 100000 in
set_option maxHeartbeats 2000000 in
theorem Piece_any (p : Pc) (w : World) : Calls Tryz.prog 65 #[.agg p.cells.toArray] w (Ret (.bool (okPc p)) w) := by
  have HX := Lib.hid (show Bx (w.alloc (.cells p.cells.toArray 51)) w.heap.size p.cells from Bx.new w p.cells.toArray 51)
  have HB := Lib.hid (nxA w (.cells p.cells.toArray 51))
  have HOK := Lib.hid (okPc_pe p)
  have HC0 := Lib.hid (show ∀ W : World, Bx W w.heap.size p.cells → (W.cell? ⟨w.heap.size, 0, none⟩ = some (.int .i64 (pe p 0).kind) ∧ W.cell? ⟨w.heap.size, 1, none⟩ = some (.int .i64 (pe p 0).a.lo) ∧ W.cell? ⟨w.heap.size, 2, none⟩ = some (.int .i64 (pe p 0).a.hi) ∧ W.cell? ⟨w.heap.size, 3, none⟩ = some (.int .i64 (pe p 0).w.lo) ∧ W.cell? ⟨w.heap.size, 4, none⟩ = some (.int .i64 (pe p 0).w.hi) ∧ W.cell? ⟨w.heap.size, 5, none⟩ = some (.int .i64 (pe p 0).d.lo) ∧ W.cell? ⟨w.heap.size, 6, none⟩ = some (.int .i64 (pe p 0).d.hi)) from fun W h => ⟨h.c 0 _ rfl, h.c 1 _ rfl, h.c 2 _ rfl, h.c 3 _ rfl, h.c 4 _ rfl, h.c 5 _ rfl, h.c 6 _ rfl⟩)
  have HC1 := Lib.hid (show ∀ W : World, Bx W w.heap.size p.cells → (W.cell? ⟨w.heap.size, 7, none⟩ = some (.int .i64 (pe p 1).kind) ∧ W.cell? ⟨w.heap.size, 8, none⟩ = some (.int .i64 (pe p 1).a.lo) ∧ W.cell? ⟨w.heap.size, 9, none⟩ = some (.int .i64 (pe p 1).a.hi) ∧ W.cell? ⟨w.heap.size, 10, none⟩ = some (.int .i64 (pe p 1).w.lo) ∧ W.cell? ⟨w.heap.size, 11, none⟩ = some (.int .i64 (pe p 1).w.hi) ∧ W.cell? ⟨w.heap.size, 12, none⟩ = some (.int .i64 (pe p 1).d.lo) ∧ W.cell? ⟨w.heap.size, 13, none⟩ = some (.int .i64 (pe p 1).d.hi)) from fun W h => ⟨h.c 7 _ rfl, h.c 8 _ rfl, h.c 9 _ rfl, h.c 10 _ rfl, h.c 11 _ rfl, h.c 12 _ rfl, h.c 13 _ rfl⟩)
  have HC2 := Lib.hid (show ∀ W : World, Bx W w.heap.size p.cells → (W.cell? ⟨w.heap.size, 14, none⟩ = some (.int .i64 (pe p 2).kind) ∧ W.cell? ⟨w.heap.size, 15, none⟩ = some (.int .i64 (pe p 2).a.lo) ∧ W.cell? ⟨w.heap.size, 16, none⟩ = some (.int .i64 (pe p 2).a.hi) ∧ W.cell? ⟨w.heap.size, 17, none⟩ = some (.int .i64 (pe p 2).w.lo) ∧ W.cell? ⟨w.heap.size, 18, none⟩ = some (.int .i64 (pe p 2).w.hi) ∧ W.cell? ⟨w.heap.size, 19, none⟩ = some (.int .i64 (pe p 2).d.lo) ∧ W.cell? ⟨w.heap.size, 20, none⟩ = some (.int .i64 (pe p 2).d.hi)) from fun W h => ⟨h.c 14 _ rfl, h.c 15 _ rfl, h.c 16 _ rfl, h.c 17 _ rfl, h.c 18 _ rfl, h.c 19 _ rfl, h.c 20 _ rfl⟩)
  have HC3 := Lib.hid (show ∀ W : World, Bx W w.heap.size p.cells → (W.cell? ⟨w.heap.size, 21, none⟩ = some (.int .i64 (pe p 3).kind) ∧ W.cell? ⟨w.heap.size, 22, none⟩ = some (.int .i64 (pe p 3).a.lo) ∧ W.cell? ⟨w.heap.size, 23, none⟩ = some (.int .i64 (pe p 3).a.hi) ∧ W.cell? ⟨w.heap.size, 24, none⟩ = some (.int .i64 (pe p 3).w.lo) ∧ W.cell? ⟨w.heap.size, 25, none⟩ = some (.int .i64 (pe p 3).w.hi) ∧ W.cell? ⟨w.heap.size, 26, none⟩ = some (.int .i64 (pe p 3).d.lo) ∧ W.cell? ⟨w.heap.size, 27, none⟩ = some (.int .i64 (pe p 3).d.hi)) from fun W h => ⟨h.c 21 _ rfl, h.c 22 _ rfl, h.c 23 _ rfl, h.c 24 _ rfl, h.c 25 _ rfl, h.c 26 _ rfl, h.c 27 _ rfl⟩)
  obtain ⟨L, hL⟩ : ∃ L, p.cells = L := ⟨_, rfl⟩
  rw [hL] at HX HB HC0 HC1 HC2 HC3 ⊢
  clear hL
  generalize pe p 0 = e0 at *
  generalize pe p 1 = e1 at *
  generalize pe p 2 = e2 at *
  generalize pe p 3 = e3 at *
  go_enter Tryz.func65, Tryz.ntmps65
  go_upto_region 1 with fail
  generalize (w.alloc (.cells L.toArray 51)) = V0 at *
  have hz := HX.out.lt
  obtain ⟨q0, q1, q2, q3, q4, q5, q6⟩ := HC0.out V0 HX.out
  go_wp2_with fail
  refine (Side_any e0 V0).mono ?_
  rintro x0 V1 ⟨rfl, hb⟩
  replace HB := Lib.hid (HB.out.trans (hb.mono HB.out.size))
  replace HX := Lib.hid (HX.out.next hb)
  clear hb q0 q1 q2 q3 q4 q5 q6
  cases h0 : okEd e0
  · go_wp2_with fail
    go_ret
    exact ret_bool (by rw [HOK.out, h0]; rfl) HB.out
  · skip
    obtain ⟨q0, q1, q2, q3, q4, q5, q6⟩ := HC1.out V1 HX.out
    go_wp2_with fail
    refine (Side_any e1 V1).mono ?_
    rintro x1 V2 ⟨rfl, hb⟩
    replace HB := Lib.hid (HB.out.trans (hb.mono HB.out.size))
    replace HX := Lib.hid (HX.out.next hb)
    clear hb q0 q1 q2 q3 q4 q5 q6
    cases h1 : okEd e1
    · go_wp2_with fail
      go_ret
      exact ret_bool (by rw [HOK.out, h0, h1]; rfl) HB.out
    · skip
      obtain ⟨q0, q1, q2, q3, q4, q5, q6⟩ := HC2.out V2 HX.out
      go_wp2_with fail
      refine (Side_any e2 V2).mono ?_
      rintro x2 V3 ⟨rfl, hb⟩
      replace HB := Lib.hid (HB.out.trans (hb.mono HB.out.size))
      replace HX := Lib.hid (HX.out.next hb)
      clear hb q0 q1 q2 q3 q4 q5 q6
      cases h2 : okEd e2
      · go_wp2_with fail
        go_ret
        exact ret_bool (by rw [HOK.out, h0, h1, h2]; rfl) HB.out
      · skip
        obtain ⟨q0, q1, q2, q3, q4, q5, q6⟩ := HC3.out V3 HX.out
        go_wp2_with fail
        refine (Side_any e3 V3).mono ?_
        rintro x3 V4 ⟨rfl, hb⟩
        replace HB := Lib.hid (HB.out.trans (hb.mono HB.out.size))
        replace HX := Lib.hid (HX.out.next hb)
        clear hb q0 q1 q2 q3 q4 q5 q6
        go_wp2_with fail
        go_ret
        exact ret_bool (by rw [HOK.out, h0, h1, h2]; rfl) HB.out
def RRp (l : List Pc) (w0 : World) (i : Value) (w : World) : Prop := ∃ k : Nat, k ≤ l.length ∧ i = .int .i64 k ∧ Below w0.heap.size w0 w ∧ (l.take k).all okPc = true
set_option maxRecDepth 100000 in
set_option maxHeartbeats 2000000 in
theorem Pieces_any (A : Option Addr) (c : Nat) (l : List Pc) (w : World) (h : At w w.heap.size 28 Pc.cells A l) (hl : l.length ≤ 9223372036854775807) : Calls Tryz.prog 26 #[.slice A l.length c] w (Ret (.bool (okPcs l)) w) := by
  go_enter Tryz.func26, Tryz.ntmps26
  go_wp2
  go_loopw [3] (fun i wr => RRp l w i wr) (fun i _ => l.length - (intOf i).toNat)
  case atStart => exact ⟨0, by omega, rfl, Below.refl _ _, rfl⟩
  case round =>
    obtain ⟨k, hk, rfl, hb, hall⟩ := hrel
    by_cases hlt : k < l.length
    · obtain ⟨b, off, rfl, hbk, hcs⟩ := h.below hb k l[k] (List.getElem?_eq_getElem hlt)
      have Ha := Lib.hid (fun hp => all_step (p := okPc) hlt hall hp)
      have Hf := Lib.hid (fun hp => all_fail (p := okPc) hlt hp)
      obtain ⟨p, hp⟩ : ∃ p, l[k] = p := ⟨_, rfl⟩
      rw [hp] at hcs Ha Hf
      clear hp hall
      have HPI := Lib.hid (fun W => Piece_any p W)
      have HLN := pc_len p
      obtain ⟨L, hL⟩ : ∃ L, p.cells = L := ⟨_, rfl⟩
      rw [hL] at hcs HPI HLN
      clear hL
      have HRG := Lib.hid (show wr.rangeAt b (off + k * 28) L from fun j u hu => hcs j u hu)
      have HS1 := Lib.hid (show (Tryz.prog.info? 51).map (·.size) = some L.length by rw [HLN]; exact pc_size)
      clear HLN hcs
      have hwk : IntKind.i64.wrap ((k : Int) + 1) = (k : Int) + 1 := IntWalk.i64_in _ (by omega)
      have HBR := Lib.hid hb
      clear hb
      go_wp2_with (first | (refine wpList_load_mid rfl 51 (.tmp 12) rfl b (off + k * 28) rfl L _ HRG.out pc_und rfl HS1.out ?_) | fail)
      refine (HPI.out wr).mono ?_
      rintro e V ⟨rfl, hb⟩
      have HV := Lib.hid (HBR.out.trans (hb.mono HBR.out.size))
      clear hb
      cases hok : okPc p
      · have HF := Lib.hid (Hf.out hok)
        go_wp2_with fail
        go_ret
        exact ret_bool (by rw [show okPcs l = l.all okPc from rfl, HF.out]) HV.out
      · have HA := Lib.hid (Ha.out hok)
        go_wp2_with fail
        all_goals (first | (refine ⟨?_, ?_⟩; (unfold RRp; exact ⟨k + 1, by omega, by go_num, HV.out, HA.out⟩); (simp [intOf]; omega)) | (go_roundw; (case rel => (unfold RRp; exact ⟨k + 1, by omega, by go_num, HV.out, HA.out⟩)); (case measure => (simp [intOf]; omega))) | (go_round; (case rel => (unfold RRp; exact ⟨k + 1, by omega, by go_num, HV.out, HA.out⟩)); (case measure => (simp [intOf]; omega))))
    · have hall := all_full hlt hall
      go_wp2
      go_ret
      exact ret_bool hall.symm hb
end Go.Proofs.YtonnemkecppmiaaGreatDoor
