import Derived.Test.YtjlicbdnppodgaaR1
namespace Go.Proofs.Ytjlicbdnppodgaa
open Go.RowKit
/-! The reference: Cells, Greatest. -/
theorem take_next {l : List Int} {k : Nat} (hk : k < l.length) : l.take (k + 1) = l.take k ++ [l.getD k 0] := by
  rw [List.take_succ_eq_append_getElem hk, List.getD_eq_getElem?_getD, List.getElem?_eq_getElem hk]; rfl
def RCells (c : Cut) (k : Int) (w0 : World) (b : Nat) (n i : Value) (w : World) : Prop := ∃ j : Nat, j ≤ c.piece.length ∧ i = .int .i64 j ∧ n = .int .i64 ((c.piece.take j).countP (fun x => x == k) : Nat) ∧ Below w0.heap.size w0 w ∧ Bx w b (cutL c)
set_option maxHeartbeats 400000 in
theorem Cells_any (c : Cut) (k : Int) (w : World) (hr : CutAt w w.heap.size c) : Calls Try.prog 31 #[.agg #[.int .i64 c.wide, .int .i64 c.high, .slice c.A c.piece.length c.c], .int .i64 k] w (Ret (.int .i64 (cellsS c k : Nat)) w) := by
  have l1 := hr.l1
  have HR := Lib.hid hr
  have HE := Lib.hid (show cellsS c k = c.piece.countP (fun x => x == k) from rfl)
  clear hr
  go_enter Try.func31, Try.ntmps31
  go_wp2
  go_loopw [5, 6] (fun n i wr => RCells c k w w.heap.size n i wr) (fun _ i _ => c.piece.length - (intOf i).toNat)
  case atStart => exact ⟨0, by omega, rfl, rfl, nxA _ _, Bx.new _ _ _⟩
  case round =>
    obtain ⟨j, hj, rfl, rfl, hb, hx⟩ := hrel
    have c2 := hx.c 2 _ rfl
    have HXR := Lib.hid hx
    have HBR := Lib.hid hb
    by_cases hlt : j < c.piece.length
    · obtain ⟨b, off, e, hbk, g0⟩ := int_at (HR.out.below hb).pa hlt
      rw [e] at c2
      have hc := List.countP_le_length (p := fun x => x == k) (l := c.piece.take j)
      have hcl : (c.piece.take j).length ≤ j := by rw [List.length_take]; omega
      have HN := Lib.hid (show (c.piece.take (j + 1)).countP (fun x => x == k) = (c.piece.take j).countP (fun x => x == k) + (if (c.piece.getD j 0 == k) = true then 1 else 0) from by rw [take_next hlt, List.countP_append, List.countP_singleton])
      generalize (c.piece.take j).countP (fun x => x == k) = n at *
      generalize c.piece.getD j 0 = v at *
      clear hx hb e
      by_cases hv : v = k
      · have e1 : (v == k) = true := by simp [hv]
        go_wp2_with fail
        go_roundw
        case rel => exact ⟨j + 1, by omega, by go_num, by rw [HN.out, if_pos e1]; go_num, HBR.out, HXR.out⟩
        case measure => simp [intOf]; omega
      · have e1 : (v == k) = false := by simp [hv]
        go_wp2_with fail
        go_roundw
        case rel => exact ⟨j + 1, by omega, by go_num, by rw [HN.out, if_neg (by rw [e1]; simp)]; rfl, HBR.out, HXR.out⟩
        case measure => simp [intOf]; omega
    · have HN := Lib.hid (show c.piece.take j = c.piece from List.take_of_length_le (by omega))
      clear hx hb
      go_wp2_with fail
      go_ret
      exact ⟨by rw [HE.out]; show Ending.returned (.int .i64 _) = _; rw [HN.out], HBR.out⟩
def RGreat (c : Cut) (w0 : World) (b : Nat) (n i : Value) (w : World) : Prop := ∃ j : Nat, j ≤ c.piece.length ∧ i = .int .i64 j ∧ n = .int .i64 ((c.piece.take j).foldl max 0) ∧ Below w0.heap.size w0 w ∧ Bx w b (cutL c)
set_option maxHeartbeats 400000 in
theorem Greatest_any (c : Cut) (w : World) (hr : CutAt w w.heap.size c) : Calls Try.prog 48 #[.agg #[.int .i64 c.wide, .int .i64 c.high, .slice c.A c.piece.length c.c]] w (Ret (.int .i64 (greatS c)) w) := by
  have l1 := hr.l1
  have HR := Lib.hid hr
  have HE := Lib.hid (show greatS c = c.piece.foldl max 0 from rfl)
  clear hr
  go_enter Try.func48, Try.ntmps48
  go_wp2
  go_loopw [3, 4] (fun n i wr => RGreat c w w.heap.size n i wr) (fun _ i _ => c.piece.length - (intOf i).toNat)
  case atStart => exact ⟨0, by omega, rfl, rfl, nxA _ _, Bx.new _ _ _⟩
  case round =>
    obtain ⟨j, hj, rfl, rfl, hb, hx⟩ := hrel
    have c2 := hx.c 2 _ rfl
    have HXR := Lib.hid hx
    have HBR := Lib.hid hb
    by_cases hlt : j < c.piece.length
    · obtain ⟨b, off, e, hbk, g0⟩ := int_at (HR.out.below hb).pa hlt
      rw [e] at c2
      have HN := Lib.hid (show (c.piece.take (j + 1)).foldl max 0 = max ((c.piece.take j).foldl max 0) (c.piece.getD j 0) from by rw [take_next hlt, List.foldl_append]; rfl)
      generalize (c.piece.take j).foldl max 0 = n at *
      generalize c.piece.getD j 0 = v at *
      clear hx hb e
      go_wp2_with fail
      all_goals
        go_roundw
        case rel => exact ⟨j + 1, by omega, by go_num, by rw [HN.out]; congr 1; omega, HBR.out, HXR.out⟩
        case measure => simp [intOf]; omega
    · have HN := Lib.hid (show c.piece.take j = c.piece from List.take_of_length_le (by omega))
      clear hx hb
      go_wp2_with fail
      go_ret
      exact ⟨by rw [HE.out]; show Ending.returned (.int .i64 _) = _; rw [HN.out], HBR.out⟩
end Go.Proofs.Ytjlicbdnppodgaa
