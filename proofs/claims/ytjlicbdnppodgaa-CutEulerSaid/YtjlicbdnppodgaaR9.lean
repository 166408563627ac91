import Derived.Test.YtjlicbdnppodgaaSd
namespace Go.Proofs.Ytjlicbdnppodgaa
open Go.RowKit
/-! The reference: Ints, SameSides, SameLines, SameCut. -/
theorem take_eq_step {α : Type} {l l' : List α} {k : Nat} (h1 : k < l.length) (h2 : k < l'.length) (h : l.take k = l'.take k) (e : l[k] = l'[k]) : l.take (k + 1) = l'.take (k + 1) := by
  rw [List.take_succ_eq_append_getElem h1, List.take_succ_eq_append_getElem h2, h, e]
def R18 {α : Type} (l l' : List α) (w0 : World) (i : Value) (w : World) : Prop := ∃ k : Nat, k ≤ l.length ∧ i = .int .i64 k ∧ l.take k = l'.take k ∧ ∃ n, w = w0.drewN n
/-- A line of a saw: upright, at, from, to. -/
abbrev Ln := Bool × Int × Int × Int
def lineC (l : Ln) : List Value := [.bool l.1, .int .i64 l.2.1, .int .i64 l.2.2.1, .int .i64 l.2.2.2]
theorem lineC_len (l : Ln) : (lineC l).length = 4 := rfl
set_option maxHeartbeats 400000 in
theorem Ints_any (l l' : List Int) (A A' : Option Addr) (c c' : Nat) (w : World) (h : At w w.heap.size 1 icell A l) (h' : At w w.heap.size 1 icell A' l') (hl : l.length ≤ 1000) (hl' : l'.length ≤ 1000) :
    Calls Try.prog 21 #[.slice A l.length c, .slice A' l'.length c'] w (Ret (.bool (decide (l = l'))) w) := by
  by_cases hlen : l.length = l'.length
  · have hn : ((l.length : Int) != (l'.length : Int)) = false := by rw [bne_eq_false_iff_eq]; omega
    have Hl := Lib.hid hlen
    clear hlen
    go_enter Try.func21, Try.ntmps21
    go_wp2
    clear hn
    go_loopw [5] (fun i wr => R18 l l' w i wr) (fun i _ => l.length - (intOf i).toNat)
    case atStart => exact ⟨0, by omega, rfl, rfl, 0, rfl⟩
    case round =>
      obtain ⟨k, hk, rfl, heq, nd, rfl⟩ := hrel
      by_cases hlt : k < l.length
      · have hlt' : k < l'.length := by rw [← Hl.out]; exact hlt
        obtain ⟨b, off, rfl, hb, hc⟩ := h k l[k] (List.getElem?_eq_getElem hlt)
        obtain ⟨b', off', rfl, hb', hc'⟩ := h' k l'[k] (List.getElem?_eq_getElem hlt')
        have Hs := Lib.hid (take_eq_step hlt hlt' heq)
        have Hne := Lib.hid (show l[k] ≠ l'[k] → l ≠ l' from fun hne e => hne (by subst e; rfl))
        generalize l[k] = x at *
        generalize l'[k] = y at *
        have z0 : w.cell? ⟨b, off + k, none⟩ = some (.int .i64 x) := by have := hc 0 _ rfl; rw [Nat.mul_one] at this; exact this
        have u0 : w.cell? ⟨b', off' + k, none⟩ = some (.int .i64 y) := by have := hc' 0 _ rfl; rw [Nat.mul_one] at this; exact this
        clear h h' heq hc hc'
        skip
        skip
        by_cases hxy : x = y
        · have h1 : (x != y) = false := by rw [bne_eq_false_iff_eq]; exact hxy
          have Hxy := Lib.hid hxy
          clear hxy
          go_wp2_with (go_quiet (fail))
          all_goals (first | (refine ⟨?_, ?_⟩; (unfold R18; exact ⟨k + 1, by omega, by go_num, Hs.out Hxy.out, _, rfl⟩); (simp [intOf]; omega)) | (go_roundw; (case rel => (unfold R18; exact ⟨k + 1, by omega, by go_num, Hs.out Hxy.out, _, rfl⟩)); (case measure => (simp [intOf]; omega))) | (go_round; (case rel => (unfold R18; exact ⟨k + 1, by omega, by go_num, Hs.out Hxy.out, _, rfl⟩)); (case measure => (simp [intOf]; omega))))
        · have h1 : (x != y) = true := by rw [bne_iff_ne]; exact hxy
          have Hxy := Lib.hid hxy
          go_wp2_with (go_quiet (fail))
          go_ret
          exact ret_bool (by simp [Hne.out Hxy.out]) (below_drewN (below_drewN (Below.refl _ _) _) _)
      · have e : l = l' := by
          have h1 : l.take k = l := List.take_of_length_le (by omega)
          have h2 : l'.take k = l' := List.take_of_length_le (by have := Hl.out; omega)
          rw [← h1, ← h2, heq]
        have He := Lib.hid e
        clear e
        go_wp2
        go_ret
        exact ret_bool (by simp [He.out]) (below_drewN (Below.refl _ _) _)
  · have hn : ((l.length : Int) != (l'.length : Int)) = true := by rw [bne_iff_ne]; omega
    have Hl := Lib.hid hlen
    clear hlen
    go_enter Try.func21, Try.ntmps21
    go_wp2
    go_ret
    exact ret_bool (by rw [eq_comm, decide_eq_false_iff_not]; intro e; exact Hl.out (by rw [e])) (Below.refl _ _)
theorem side_eq3 : Try.prog.eqGuardType Try.prog.depth 54 = false := by kernel_rfl
theorem side_eq1 : Try.prog.underlying 54 = some (.struct (Try.prog.fieldsOf 54)) := by kernel_rfl
theorem side_eq2 : Try.prog.stoodInHeld 54 = false := by kernel_rfl
theorem side_neq (x1 y1 : Int) (x2 y2 : Int) (W : World) : (binOp .neq 54 (.agg #[.int .i64 x1, .int .i64 x2]) (.agg #[.int .i64 y1, .int .i64 y2])).run Try.prog W = .ok (.bool (!(x1 == y1 && x2 == y2))) W := by
  rw [run_neq_struct, run_equalIn_struct _ _ _ _ _ side_eq1 side_eq2]
  simp [Op.eqFields, go_sem]
  by_cases h1 : x1 = y1 <;> by_cases h2 : x2 = y2 <;> simp [h1, h2]
set_option maxHeartbeats 400000 in
theorem SameSides_any (l l' : List Pt) (A A' : Option Addr) (c c' : Nat) (w : World) (h : At w w.heap.size 2 sideC A l) (h' : At w w.heap.size 2 sideC A' l') (hl : l.length ≤ 1000) (hl' : l'.length ≤ 1000) :
    Calls Try.prog 20 #[.slice A l.length c, .slice A' l'.length c'] w (Ret (.bool (decide (l = l'))) w) := by
  by_cases hlen : l.length = l'.length
  · have hn : ((l.length : Int) != (l'.length : Int)) = false := by rw [bne_eq_false_iff_eq]; omega
    have Hl := Lib.hid hlen
    clear hlen
    go_enter Try.func20, Try.ntmps20
    go_wp2
    clear hn
    go_loopw [5] (fun i wr => R18 l l' w i wr) (fun i _ => l.length - (intOf i).toNat)
    case atStart => exact ⟨0, by omega, rfl, rfl, 0, rfl⟩
    case round =>
      obtain ⟨k, hk, rfl, heq, nd, rfl⟩ := hrel
      by_cases hlt : k < l.length
      · have hlt' : k < l'.length := by rw [← Hl.out]; exact hlt
        obtain ⟨b, off, rfl, hb, hc⟩ := h k l[k] (List.getElem?_eq_getElem hlt)
        obtain ⟨b', off', rfl, hb', hc'⟩ := h' k l'[k] (List.getElem?_eq_getElem hlt')
        have Hs := Lib.hid (take_eq_step hlt hlt' heq)
        have Hne := Lib.hid (show l[k] ≠ l'[k] → l ≠ l' from fun hne e => hne (by subst e; rfl))
        generalize l[k] = x at *
        generalize l'[k] = y at *
        have z0 : w.cell? ⟨b, off + k * 2, none⟩ = some (.int .i64 x.1) := hc 0 _ rfl
        have u0 : w.cell? ⟨b', off' + k * 2, none⟩ = some (.int .i64 y.1) := hc' 0 _ rfl
        have z1 : w.cell? ⟨b, off + k * 2 + 1, none⟩ = some (.int .i64 x.2) := hc 1 _ rfl
        have u1 : w.cell? ⟨b', off' + k * 2 + 1, none⟩ = some (.int .i64 y.2) := hc' 1 _ rfl
        clear h h' heq hc hc'
        obtain ⟨x1, x2⟩ := x
        obtain ⟨y1, y2⟩ := y
        dsimp only at z0 u0 z1 u1
        have hq1 := side_eq3
        have hq := fun W => side_neq x1 y1 x2 y2 W
        by_cases hxy : x1 = y1 ∧ x2 = y2
        · have h1 : (x1 == y1 && x2 == y2) = true := by simp [hxy]
          rw [h1] at hq
          have Hxy := Lib.hid (show ((x1, x2) : Pt) = (y1, y2) from by obtain ⟨g0, g1⟩ := hxy; rw [g0, g1])
          clear hxy h1
          go_wp2_with (go_quiet (fail))
          all_goals (first | (refine ⟨?_, ?_⟩; (unfold R18; exact ⟨k + 1, by omega, by go_num, Hs.out Hxy.out, _, rfl⟩); (simp [intOf]; omega)) | (go_roundw; (case rel => (unfold R18; exact ⟨k + 1, by omega, by go_num, Hs.out Hxy.out, _, rfl⟩)); (case measure => (simp [intOf]; omega))) | (go_round; (case rel => (unfold R18; exact ⟨k + 1, by omega, by go_num, Hs.out Hxy.out, _, rfl⟩)); (case measure => (simp [intOf]; omega))))
        · have h1 : (x1 == y1 && x2 == y2) = false := by
            rw [Bool.eq_false_iff]; intro h; simp only [Bool.and_eq_true, beq_iff_eq] at h; exact hxy (by simp [h])
          rw [h1] at hq
          have Hxy := Lib.hid (show ((x1, x2) : Pt) ≠ (y1, y2) from fun e => hxy (by simp only [Prod.mk.injEq] at e; exact e))
          clear hxy h1
          go_wp2_with (go_quiet (fail))
          go_ret
          exact ret_bool (by simp [Hne.out Hxy.out]) (below_drewN (below_drewN (Below.refl _ _) _) _)
      · have e : l = l' := by
          have h1 : l.take k = l := List.take_of_length_le (by omega)
          have h2 : l'.take k = l' := List.take_of_length_le (by have := Hl.out; omega)
          rw [← h1, ← h2, heq]
        have He := Lib.hid e
        clear e
        go_wp2
        go_ret
        exact ret_bool (by simp [He.out]) (below_drewN (Below.refl _ _) _)
  · have hn : ((l.length : Int) != (l'.length : Int)) = true := by rw [bne_iff_ne]; omega
    have Hl := Lib.hid hlen
    clear hlen
    go_enter Try.func20, Try.ntmps20
    go_wp2
    go_ret
    exact ret_bool (by rw [eq_comm, decide_eq_false_iff_not]; intro e; exact Hl.out (by rw [e])) (Below.refl _ _)
theorem line_eq3 : Try.prog.eqGuardType Try.prog.depth 61 = false := by kernel_rfl
theorem line_eq1 : Try.prog.underlying 61 = some (.struct (Try.prog.fieldsOf 61)) := by kernel_rfl
theorem line_eq2 : Try.prog.stoodInHeld 61 = false := by kernel_rfl
theorem line_neq (x1 y1 : Bool) (x2 y2 : Int) (x3 y3 : Int) (x4 y4 : Int) (W : World) : (binOp .neq 61 (.agg #[.bool x1, .int .i64 x2, .int .i64 x3, .int .i64 x4]) (.agg #[.bool y1, .int .i64 y2, .int .i64 y3, .int .i64 y4])).run Try.prog W = .ok (.bool (!(x1 == y1 && x2 == y2 && x3 == y3 && x4 == y4))) W := by
  rw [run_neq_struct, run_equalIn_struct _ _ _ _ _ line_eq1 line_eq2]
  simp [Op.eqFields, go_sem]
  by_cases h1 : x1 = y1 <;> by_cases h2 : x2 = y2 <;> by_cases h3 : x3 = y3 <;> by_cases h4 : x4 = y4 <;> simp [h1, h2, h3, h4]
set_option maxHeartbeats 400000 in
theorem SameLines_any (l l' : List Ln) (A A' : Option Addr) (c c' : Nat) (w : World) (h : At w w.heap.size 4 lineC A l) (h' : At w w.heap.size 4 lineC A' l') (hl : l.length ≤ 1000) (hl' : l'.length ≤ 1000) :
    Calls Try.prog 26 #[.slice A l.length c, .slice A' l'.length c'] w (Ret (.bool (decide (l = l'))) w) := by
  by_cases hlen : l.length = l'.length
  · have hn : ((l.length : Int) != (l'.length : Int)) = false := by rw [bne_eq_false_iff_eq]; omega
    have Hl := Lib.hid hlen
    clear hlen
    go_enter Try.func26, Try.ntmps26
    go_wp2
    clear hn
    go_loopw [5] (fun i wr => R18 l l' w i wr) (fun i _ => l.length - (intOf i).toNat)
    case atStart => exact ⟨0, by omega, rfl, rfl, 0, rfl⟩
    case round =>
      obtain ⟨k, hk, rfl, heq, nd, rfl⟩ := hrel
      by_cases hlt : k < l.length
      · have hlt' : k < l'.length := by rw [← Hl.out]; exact hlt
        obtain ⟨b, off, rfl, hb, hc⟩ := h k l[k] (List.getElem?_eq_getElem hlt)
        obtain ⟨b', off', rfl, hb', hc'⟩ := h' k l'[k] (List.getElem?_eq_getElem hlt')
        have Hs := Lib.hid (take_eq_step hlt hlt' heq)
        have Hne := Lib.hid (show l[k] ≠ l'[k] → l ≠ l' from fun hne e => hne (by subst e; rfl))
        generalize l[k] = x at *
        generalize l'[k] = y at *
        have z0 : w.cell? ⟨b, off + k * 4, none⟩ = some (.bool x.1) := hc 0 _ rfl
        have u0 : w.cell? ⟨b', off' + k * 4, none⟩ = some (.bool y.1) := hc' 0 _ rfl
        have z1 : w.cell? ⟨b, off + k * 4 + 1, none⟩ = some (.int .i64 x.2.1) := hc 1 _ rfl
        have u1 : w.cell? ⟨b', off' + k * 4 + 1, none⟩ = some (.int .i64 y.2.1) := hc' 1 _ rfl
        have z2 : w.cell? ⟨b, off + k * 4 + 2, none⟩ = some (.int .i64 x.2.2.1) := hc 2 _ rfl
        have u2 : w.cell? ⟨b', off' + k * 4 + 2, none⟩ = some (.int .i64 y.2.2.1) := hc' 2 _ rfl
        have z3 : w.cell? ⟨b, off + k * 4 + 3, none⟩ = some (.int .i64 x.2.2.2) := hc 3 _ rfl
        have u3 : w.cell? ⟨b', off' + k * 4 + 3, none⟩ = some (.int .i64 y.2.2.2) := hc' 3 _ rfl
        clear h h' heq hc hc'
        obtain ⟨x1, x2, x3, x4⟩ := x
        obtain ⟨y1, y2, y3, y4⟩ := y
        dsimp only at z0 u0 z1 u1 z2 u2 z3 u3
        have hq1 := line_eq3
        have hq := fun W => line_neq x1 y1 x2 y2 x3 y3 x4 y4 W
        by_cases hxy : x1 = y1 ∧ x2 = y2 ∧ x3 = y3 ∧ x4 = y4
        · have h1 : (x1 == y1 && x2 == y2 && x3 == y3 && x4 == y4) = true := by simp [hxy]
          rw [h1] at hq
          have Hxy := Lib.hid (show ((x1, x2, x3, x4) : Ln) = (y1, y2, y3, y4) from by obtain ⟨g0, g1, g2, g3⟩ := hxy; rw [g0, g1, g2, g3])
          clear hxy h1
          go_wp2_with (go_quiet (fail))
          all_goals (first | (refine ⟨?_, ?_⟩; (unfold R18; exact ⟨k + 1, by omega, by go_num, Hs.out Hxy.out, _, rfl⟩); (simp [intOf]; omega)) | (go_roundw; (case rel => (unfold R18; exact ⟨k + 1, by omega, by go_num, Hs.out Hxy.out, _, rfl⟩)); (case measure => (simp [intOf]; omega))) | (go_round; (case rel => (unfold R18; exact ⟨k + 1, by omega, by go_num, Hs.out Hxy.out, _, rfl⟩)); (case measure => (simp [intOf]; omega))))
        · have h1 : (x1 == y1 && x2 == y2 && x3 == y3 && x4 == y4) = false := by
            rw [Bool.eq_false_iff]; intro h; simp only [Bool.and_eq_true, beq_iff_eq] at h; exact hxy (by simp [h])
          rw [h1] at hq
          have Hxy := Lib.hid (show ((x1, x2, x3, x4) : Ln) ≠ (y1, y2, y3, y4) from fun e => hxy (by simp only [Prod.mk.injEq] at e; exact e))
          clear hxy h1
          go_wp2_with (go_quiet (fail))
          go_ret
          exact ret_bool (by simp [Hne.out Hxy.out]) (below_drewN (below_drewN (Below.refl _ _) _) _)
      · have e : l = l' := by
          have h1 : l.take k = l := List.take_of_length_le (by omega)
          have h2 : l'.take k = l' := List.take_of_length_le (by have := Hl.out; omega)
          rw [← h1, ← h2, heq]
        have He := Lib.hid e
        clear e
        go_wp2
        go_ret
        exact ret_bool (by simp [He.out]) (below_drewN (Below.refl _ _) _)
  · have hn : ((l.length : Int) != (l'.length : Int)) = true := by rw [bne_iff_ne]; omega
    have Hl := Lib.hid hlen
    clear hlen
    go_enter Try.func26, Try.ntmps26
    go_wp2
    go_ret
    exact ret_bool (by rw [eq_comm, decide_eq_false_iff_not]; intro e; exact Hl.out (by rw [e])) (Below.refl _ _)
end Go.Proofs.Ytjlicbdnppodgaa
