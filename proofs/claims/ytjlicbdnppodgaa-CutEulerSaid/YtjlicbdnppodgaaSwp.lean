import Derived.Test.YtjlicbdnppodgaaR9
namespace Go.Proofs.Ytjlicbdnppodgaa
open Go.RowKit
/-! Plain: how a rectangle is sawn. -/
/-- Is a cell in a rectangle? -/
def insR (c : Cut) (i : Nat) (x0 y0 x1 y1 : Int) : Bool := inS (colI c i) x0 (x1 - 1) && inS (rowI c i) y0 (y1 - 1)
/-- Is the cell on the near side of a line, or behind it? -/
def nearB (c : Cut) (up : Bool) (at_ : Int) (i : Nat) : Bool := if up = true then decide (colI c i < at_) else decide (rowI c i < at_)
def meetB (c : Cut) (x0 y0 x1 y1 : Int) (up : Bool) (at_ : Int) (i k : Nat) : Bool := decide (atI c i = atI c k) && insR c i x0 y0 x1 y1 && insR c k x0 y0 x1 y1 && nearB c up at_ i && !nearB c up at_ k
/-- Does a line go through a rectangle? -/
def goesB (c : Cut) (x0 y0 x1 y1 : Int) (up : Bool) (at_ : Int) : Bool := (List.range c.piece.length).all fun i => (List.range c.piece.length).all fun k => !meetB c x0 y0 x1 y1 up at_ i k
def oneB (c : Cut) (x0 y0 x1 y1 : Int) : Bool := (List.range c.piece.length).all fun i => !insR c i x0 y0 x1 y1 || decide (atI c i = at2 c x0 y0)
def joinL (l : Ln) (a b : List Ln × Bool) : List Ln × Bool := (l :: (a.1 ++ b.1), a.2 && b.2)
/-- The lines of a rectangle; false: it cannot be sawn. -/
def sawF (c : Cut) : Nat → Int → Int → Int → Int → List Ln × Bool
  | 0, _, _, _, _ => ([], false)
  | n + 1, x0, y0, x1, y1 =>
    if oneB c x0 y0 x1 y1 = true then ([], true)
    else match (List.range (y1 - (y0 + 1)).toNat).find? (fun j : Nat => goesB c x0 y0 x1 y1 false (y0 + 1 + (j : Int))) with
      | some j => joinL (false, y0 + 1 + (j : Int), x0, x1) (sawF c n x0 y0 x1 (y0 + 1 + (j : Int))) (sawF c n x0 (y0 + 1 + (j : Int)) x1 y1)
      | none => match (List.range (x1 - (x0 + 1)).toNat).find? (fun j : Nat => goesB c x0 y0 x1 y1 true (x0 + 1 + (j : Int))) with
        | some j => joinL (true, x0 + 1 + (j : Int), y0, y1) (sawF c n x0 y0 (x0 + 1 + (j : Int)) y1) (sawF c n (x0 + 1 + (j : Int)) y0 x1 y1)
        | none => ([], false)
/-- A rectangle of the picture, and how great it is. -/
structure Rec (c : Cut) (n : Nat) (x0 y0 x1 y1 : Int) : Prop where
  x : 0 ≤ x0 ∧ x0 < x1 ∧ x1 ≤ c.wide
  y : 0 ≤ y0 ∧ y0 < y1 ∧ y1 ≤ c.high
  n : (x1 - x0) + (y1 - y0) ≤ n
theorem saw_one {c : Cut} {n : Nat} {x0 y0 x1 y1 : Int} (h : oneB c x0 y0 x1 y1 = true) : sawF c (n + 1) x0 y0 x1 y1 = ([], true) := by
  rw [sawF, if_pos h]
theorem find_none' {p : Nat → Bool} {n : Nat} (h : ∀ t, t < n → p t = false) : (List.range n).find? p = none := by
  rw [List.find?_eq_none]
  intro t ht
  rw [h t (List.mem_range.1 ht)]; simp
theorem find_hit' {p : Nat → Bool} {j : Nat} (hj : p j = true) (h : ∀ t, t < j → p t = false) : ∀ {n : Nat}, j < n → (List.range n).find? p = some j
  | n + 1, hn => by
    rw [List.range_succ, List.find?_append]
    by_cases e : j = n
    · subst e
      rw [find_none' h]
      simp [hj]
    · rw [find_hit' hj h (by omega)]; rfl
theorem saw_row {c : Cut} {n : Nat} {x0 y0 x1 y1 : Int} (h : oneB c x0 y0 x1 y1 = false) {j : Nat} (hj : y0 + 1 + (j : Int) < y1) (hg : goesB c x0 y0 x1 y1 false (y0 + 1 + (j : Int)) = true) (hall : ∀ t : Nat, t < j → goesB c x0 y0 x1 y1 false (y0 + 1 + (t : Int)) = false) :
    sawF c (n + 1) x0 y0 x1 y1 = joinL (false, y0 + 1 + (j : Int), x0, x1) (sawF c n x0 y0 x1 (y0 + 1 + (j : Int))) (sawF c n x0 (y0 + 1 + (j : Int)) x1 y1) := by
  rw [sawF, if_neg (by rw [h]; simp), find_hit' (p := fun j : Nat => goesB c x0 y0 x1 y1 false (y0 + 1 + (j : Int))) hg hall (by omega)]
theorem saw_col {c : Cut} {n : Nat} {x0 y0 x1 y1 : Int} (h : oneB c x0 y0 x1 y1 = false) (hrow : ∀ t : Nat, y0 + 1 + (t : Int) < y1 → goesB c x0 y0 x1 y1 false (y0 + 1 + (t : Int)) = false) {j : Nat} (hj : x0 + 1 + (j : Int) < x1) (hg : goesB c x0 y0 x1 y1 true (x0 + 1 + (j : Int)) = true) (hall : ∀ t : Nat, t < j → goesB c x0 y0 x1 y1 true (x0 + 1 + (t : Int)) = false) :
    sawF c (n + 1) x0 y0 x1 y1 = joinL (true, x0 + 1 + (j : Int), y0, y1) (sawF c n x0 y0 (x0 + 1 + (j : Int)) y1) (sawF c n (x0 + 1 + (j : Int)) y0 x1 y1) := by
  rw [sawF, if_neg (by rw [h]; simp), find_none' (p := fun j : Nat => goesB c x0 y0 x1 y1 false (y0 + 1 + (j : Int))) (fun t ht => hrow t (by omega))]
  dsimp only
  rw [find_hit' (p := fun j : Nat => goesB c x0 y0 x1 y1 true (x0 + 1 + (j : Int))) hg hall (by omega)]
theorem saw_none {c : Cut} {n : Nat} {x0 y0 x1 y1 : Int} (h : oneB c x0 y0 x1 y1 = false) (hrow : ∀ t : Nat, y0 + 1 + (t : Int) < y1 → goesB c x0 y0 x1 y1 false (y0 + 1 + (t : Int)) = false) (hcol : ∀ t : Nat, x0 + 1 + (t : Int) < x1 → goesB c x0 y0 x1 y1 true (x0 + 1 + (t : Int)) = false) :
    sawF c (n + 1) x0 y0 x1 y1 = ([], false) := by
  rw [sawF, if_neg (by rw [h]; simp), find_none' (p := fun j : Nat => goesB c x0 y0 x1 y1 false (y0 + 1 + (j : Int))) (fun t ht => hrow t (by omega))]
  dsimp only
  rw [find_none' (p := fun j : Nat => goesB c x0 y0 x1 y1 true (x0 + 1 + (j : Int))) (fun t ht => hcol t (by omega))]
theorem Rec.row {c : Cut} {n : Nat} {x0 y0 x1 y1 y : Int} (h : Rec c (n + 1) x0 y0 x1 y1) (hy : y0 < y ∧ y < y1) : Rec c n x0 y0 x1 y ∧ Rec c n x0 y x1 y1 := by
  obtain ⟨h1, h2, h3⟩ := h
  exact ⟨⟨h1, by omega, by omega⟩, ⟨h1, by omega, by omega⟩⟩
theorem Rec.col {c : Cut} {n : Nat} {x0 y0 x1 y1 x : Int} (h : Rec c (n + 1) x0 y0 x1 y1) (hx : x0 < x ∧ x < x1) : Rec c n x0 y0 x y1 ∧ Rec c n x y0 x1 y1 := by
  obtain ⟨h1, h2, h3⟩ := h
  exact ⟨⟨by omega, h2, by omega⟩, ⟨by omega, h2, by omega⟩⟩
/-- How many lines: fewer than the rectangle is great. -/
theorem saw_len (c : Cut) : ∀ (n : Nat) (x0 y0 x1 y1 : Int), x0 < x1 → y0 < y1 → ((sawF c n x0 y0 x1 y1).1.length : Int) ≤ (x1 - x0) * (y1 - y0) - 1
  | 0, x0, y0, x1, y1, hx, hy => by
    have := Int.mul_le_mul (show (1 : Int) ≤ x1 - x0 by omega) (show (1 : Int) ≤ y1 - y0 by omega) (by omega) (by omega)
    show (0 : Int) ≤ _
    omega
  | n + 1, x0, y0, x1, y1, hx, hy => by
    have h0 := Int.mul_le_mul (show (1 : Int) ≤ x1 - x0 by omega) (show (1 : Int) ≤ y1 - y0 by omega) (by omega) (by omega)
    rw [sawF]
    split
    · show (0 : Int) ≤ _
      omega
    · split
      · rename_i j hj
        have hjr := List.mem_range.1 (List.mem_of_find?_eq_some hj)
        have a := saw_len c n x0 y0 x1 (y0 + 1 + (j : Int)) hx (by omega)
        have b := saw_len c n x0 (y0 + 1 + (j : Int)) x1 y1 hx (by omega)
        unfold joinL
        rw [List.length_cons, List.length_append]
        have e : (x1 - x0) * (y1 - y0) = (x1 - x0) * (y0 + 1 + (j : Int) - y0) + (x1 - x0) * (y1 - (y0 + 1 + (j : Int))) := by rw [← Int.mul_add]; congr 1; omega
        omega
      · split
        · rename_i j hj
          have hjr := List.mem_range.1 (List.mem_of_find?_eq_some hj)
          have a := saw_len c n x0 y0 (x0 + 1 + (j : Int)) y1 (by omega) hy
          have b := saw_len c n (x0 + 1 + (j : Int)) y0 x1 y1 (by omega) hy
          unfold joinL
          rw [List.length_cons, List.length_append]
          have e : (x1 - x0) * (y1 - y0) = (x0 + 1 + (j : Int) - x0) * (y1 - y0) + (x1 - (x0 + 1 + (j : Int))) * (y1 - y0) := by rw [← Int.add_mul]; congr 1; omega
          omega
        · show (0 : Int) ≤ _
          omega
/-- What saw hands back. -/
noncomputable def sawE (c : Cut) : Int := if (checkS c).2 ≠ 0 then (checkS c).2 else if (sawF c 24 0 0 c.wide c.high).2 = true then 0 else 11
noncomputable def sawL (c : Cut) : List Ln := if sawE c = 0 then (sawF c 24 0 0 c.wide c.high).1 else []
def RetSaw (c : Cut) (w : World) (e : Ending) (w' : World) : Prop := ∃ A cap, e = .returned (.tuple #[.slice A (sawL c).length cap, .int .i64 (sawE c)]) ∧ At w' w'.heap.size 4 lineC A (sawL c) ∧ Below w.heap.size w w'
theorem line_info : (Try.prog.info? 61).map (fun i => (i.zero, i.size, i.bytes)) = some (some (.agg #[.bool false, .int .i64 0, .int .i64 0, .int .i64 0]), 4, 32) := by kernel_rfl
end Go.Proofs.Ytjlicbdnppodgaa
