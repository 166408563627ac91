import Derived.WalkKit
namespace Go.Proofs.Ytjlicbdnppodgaa
/-! The plain words of the chapter: a picture of pieces, what is next to what, what hangs together. -/
/-- A cut: how wide and high it is, its cells' pieces, and where these lie. -/
structure Cut where
  wide : Int
  high : Int
  piece : List Int
  A : Option Addr
  c : Nat
def inS (n a b : Int) : Bool := decide (a ≤ n ∧ n ≤ b)
structure OkC (c : Cut) : Prop where
  w : 1 ≤ c.wide ∧ c.wide ≤ 12
  h : 1 ≤ c.high ∧ c.high ≤ 12
  len : (c.piece.length : Int) = c.wide * c.high
  pc : ∀ x ∈ c.piece, 0 ≤ x ∧ x ≤ 39
def cutS (c : Cut) : Bool := inS c.wide 1 12 && (inS c.high 1 12 && (decide ((c.piece.length : Int) = c.wide * c.high) && c.piece.all (fun x => inS x 0 39)))
theorem okc_iff (c : Cut) : cutS c = true ↔ OkC c := by
  unfold cutS inS
  simp only [Bool.and_eq_true, decide_eq_true_eq, List.all_eq_true]
  exact ⟨fun ⟨h1, h2, h3, h4⟩ => ⟨h1, h2, h3, h4⟩, fun h => ⟨h.w, h.h, h.len, h.pc⟩⟩
/-- Is it a cell of the picture? -/
def isIn (c : Cut) (x y : Int) : Bool := inS x 0 (c.wide - 1) && inS y 0 (c.high - 1)
/-- The piece of a cell; -1: it is not in the picture. -/
def at2 (c : Cut) (x y : Int) : Int := if isIn c x y = true then c.piece.getD (y * c.wide + x).toNat 0 else -1
/-- The cell of an index. -/
def colI (c : Cut) (i : Nat) : Int := (i : Int) % c.wide
def rowI (c : Cut) (i : Nat) : Int := (i : Int) / c.wide
def atI (c : Cut) (i : Nat) : Int := c.piece.getD i 0
theorem OkC.idx {c : Cut} (ok : OkC c) {x y : Int} (h : isIn c x y = true) : 0 ≤ y * c.wide + x ∧ y * c.wide + x < c.piece.length ∧ (y * c.wide + x) % c.wide = x ∧ (y * c.wide + x) / c.wide = y := by
  unfold isIn inS at h
  simp only [Bool.and_eq_true, decide_eq_true_eq] at h
  obtain ⟨⟨h1, h2⟩, h3, h4⟩ := h
  have hw := ok.w
  have hm : 0 ≤ y * c.wide := Int.mul_nonneg h3 (by omega)
  have hm2 : y * c.wide ≤ (c.high - 1) * c.wide := Int.mul_le_mul_of_nonneg_right h4 (by omega)
  have hm3 : (c.high - 1) * c.wide = c.wide * c.high - c.wide := by rw [Int.sub_mul, Int.one_mul, Int.mul_comm]
  have hl := ok.len
  refine ⟨by omega, by omega, ?_, ?_⟩
  · rw [Int.add_comm, Int.add_mul_emod_self_right]
    exact Int.emod_eq_of_lt h1 (by omega)
  · rw [Int.add_comm, Int.add_mul_ediv_right _ _ (by omega), Int.ediv_eq_zero_of_lt h1 (by omega), Int.zero_add]
theorem OkC.cell {c : Cut} (ok : OkC c) {i : Nat} (hi : i < c.piece.length) : isIn c (colI c i) (rowI c i) = true ∧ (rowI c i * c.wide + colI c i) = (i : Int) ∧ 0 ≤ colI c i ∧ colI c i < c.wide ∧ 0 ≤ rowI c i ∧ rowI c i < c.high := by
  have hw := ok.w
  have h1 := Int.emod_nonneg (i : Int) (b := c.wide) (by omega)
  have h2 := Int.emod_lt_of_pos (i : Int) (b := c.wide) (by omega)
  have h3 : 0 ≤ (i : Int) / c.wide := Int.ediv_nonneg (by omega) (by omega)
  have h4 : (i : Int) / c.wide < c.high := by
    rw [Int.ediv_lt_iff_lt_mul (by omega), Int.mul_comm]
    have := ok.len
    omega
  have h5 := Int.ediv_mul_add_emod (i : Int) c.wide
  refine ⟨?_, h5, h1, h2, h3, h4⟩
  unfold isIn inS colI rowI
  simp only [Bool.and_eq_true, decide_eq_true_eq]
  omega
theorem OkC.at_cell {c : Cut} (ok : OkC c) {i : Nat} (hi : i < c.piece.length) : at2 c (colI c i) (rowI c i) = atI c i := by
  obtain ⟨h1, h2, -⟩ := ok.cell hi
  unfold at2 atI
  rw [if_pos h1, h2]
  rfl
theorem OkC.at_bd {c : Cut} (ok : OkC c) (x y : Int) : -1 ≤ at2 c x y ∧ at2 c x y ≤ 39 ∧ (isIn c x y = true → 0 ≤ at2 c x y) := by
  unfold at2
  by_cases h : isIn c x y = true
  · rw [if_pos h]
    have h1 := ok.idx h
    have hm : c.piece.getD (y * c.wide + x).toNat 0 ∈ c.piece := by
      rw [List.getD_eq_getElem?_getD, List.getElem?_eq_getElem (by omega)]
      exact List.getElem_mem _
    have := ok.pc _ hm
    exact ⟨by omega, this.2, fun _ => this.1⟩
  · rw [if_neg h]
    exact ⟨by omega, by omega, fun h' => absurd h' h⟩
/-- The four cells around a cell. -/
def around (x y : Int) : List (Int × Int) := [(x - 1, y), (x + 1, y), (x, y - 1), (x, y + 1)]
theorem around_symm {x y x' y' : Int} (h : (x', y') ∈ around x y) : (x, y) ∈ around x' y' := by
  unfold around at *
  simp only [List.mem_cons, Prod.mk.injEq, List.not_mem_nil, or_false] at *
  omega
/-- What hangs together: from cell to cell of one piece. -/
inductive Reach (c : Cut) : Int × Int → Int × Int → Prop
  | refl (p) : Reach c p p
  | step {p q r} : Reach c p q → r ∈ around q.1 q.2 → at2 c r.1 r.2 = at2 c q.1 q.2 → Reach c p r
theorem Reach.trans {c : Cut} {p q r : Int × Int} (h : Reach c p q) (h' : Reach c q r) : Reach c p r := by
  induction h' with
  | refl => exact h
  | step _ h2 h3 ih => exact .step ih h2 h3
theorem Reach.at_eq {c : Cut} {p q : Int × Int} (h : Reach c p q) : at2 c q.1 q.2 = at2 c p.1 p.2 := by
  induction h with
  | refl => rfl
  | step _ _ h3 ih => rw [h3, ih]
theorem Reach.one {c : Cut} {p q : Int × Int} (h : q ∈ around p.1 p.2) (e : at2 c q.1 q.2 = at2 c p.1 p.2) : Reach c p q := .step (.refl p) h e
theorem Reach.symm {c : Cut} {p q : Int × Int} (h : Reach c p q) : Reach c q p := by
  induction h with
  | refl => exact .refl _
  | step _ h2 h3 ih => exact (Reach.one (around_symm h2) h3.symm).trans ih
/-- Do all cells of a piece hang together? -/
def Whole (c : Cut) (k : Int) : Prop := ∀ p q : Int × Int, isIn c p.1 p.2 = true → isIn c q.1 q.2 = true → at2 c p.1 p.2 = k → at2 c q.1 q.2 = k → Reach c p q
def cellsS (c : Cut) (k : Int) : Nat := c.piece.countP (fun x => x == k)
def greatS (c : Cut) : Int := c.piece.foldl max 0
open Classical in
/-- How many pieces a cut has, or why it is none. -/
noncomputable def checkS (c : Cut) : Int × Int :=
  if cutS c = false then (0, 1)
  else match (List.range (greatS c).toNat).find? (fun k : Nat => cellsS c (k : Int) == 0) with
    | some k => ((k : Int), 4)
    | none => match (List.range ((greatS c).toNat + 1)).find? (fun k : Nat => decide (¬ Whole c (k : Int))) with
      | some k => ((k : Int), 6)
      | none => (greatS c + 1, 0)
/-- How many edges two pieces have in common, told from the first. -/
def edgesS (c : Cut) (a b : Int) : Nat := ((List.range c.piece.length).map fun i => if atI c i = a then (around (colI c i) (rowI c i)).countP (fun p => at2 c p.1 p.2 == b) else 0).foldl (· + ·) 0
end Go.Proofs.Ytjlicbdnppodgaa
