namespace Go.Proofs.YtbhkglokdomajaaDoor
/-! Plain functions of the chapter on dies (no program in sight). -/
structure Blade where
  fl : Int
  fh : Int
  wl : Int
  wh : Int
structure Stint where
  n : Int
  more : Int
def has (set i : Nat) : Bool := set.testBit i
def worstS (b : Blade) (x : Int) : Int := b.fh + b.wh * x
/-- How long each of nb blades has run behind a stint of n thousand strokes, a set having been bent ahead of it. -/
def runR (nb : Nat) (r : Nat → Int) (set : Nat) (n : Int) : Nat → Int := fun k => (if has set k then 0 else r k) + if k < nb then n else 0
/-- Has a stint a blade, of those before the m-th, that can be off too far? -/
def badTo (bl : List Blade) (lim : Int) (r : Nat → Int) (m : Nat) : Option Nat := (List.range m).find? fun k => decide (lim < worstS (bl.getD k ⟨0, 0, 0, 0⟩) (r k))
def badS (bl : List Blade) (lim : Int) (r : Nat → Int) : Option Nat := badTo bl lim r bl.length
abbrev Pl := List Nat × Int
def better (a b : Option Pl) : Option Pl := match b, a with
  | none, a => a
  | some y, none => some y
  | some y, some x => if y.2 < x.2 then some y else some x
def fm (l : List (Option Pl)) : Option Pl := l.foldl better none
section
variable (bl : List Blade) (bound : Int) (cost : Nat → Int)
/-- The stint, of those from the i-th on, and the blade, that can be off too far by a plan: the first. -/
def badP : List Stint → (Nat → Int) → List Nat → Nat → Option (Nat × Nat)
  | t :: l, r, set :: p, i => match badS bl (bound + t.more) (runR bl.length r set t.n) with
    | some k => some (i, k)
    | none => badP l (runR bl.length r set t.n) p (i + 1)
  | _, _, _, _ => none
/-- One plan, from stints on: its cost, or none. -/
def evalS : List (Nat × Stint) → (Nat → Int) → List Nat → Option Pl
  | [], _, _ => some ([], 0)
  | _ :: _, _, [] => none
  | t :: l, r, set :: p => if (badS bl (bound + t.2.more) (runR bl.length r set t.2.n)).isSome then none else (evalS l (runR bl.length r set t.2.n) p).map fun q => (set :: q.1, q.2 + cost set)
/-- What is tried at a stint: one set. -/
def tryS (f : (Nat → Int) → Option Pl) (t : Stint) (r : Nat → Int) (set : Nat) : Option Pl := if (badS bl (bound + t.more) (runR bl.length r set t.n)).isSome then none else (f (runR bl.length r set t.n)).map fun q => (set :: q.1, q.2 + cost set)
/-- The best plan from stints on; with each stint goes the number of sets that are tried before it. -/
def bestS : List (Nat × Stint) → (Nat → Int) → Option Pl
  | [], _ => some ([], 0)
  | t :: l, r => fm ((List.range t.1).map (tryS bl bound cost (bestS l) t.2 r))
end
/-- All plans, in lexicographic order. -/
def plansS : List Nat → List (List Nat)
  | [] => [[]]
  | n :: l => (List.range n).flatMap fun s => (plansS l).map (s :: ·)
theorem better_none (a : Option Pl) : better a none = a := by cases a <;> rfl
theorem none_better (a : Option Pl) : better none a = a := by cases a <;> rfl
theorem better_assoc (a b c : Option Pl) : better (better a b) c = better a (better b c) := by
  cases a with
  | none => rw [none_better, none_better]
  | some x =>
    cases b with
    | none => rw [better_none, none_better]
    | some y =>
      cases c with
      | none => rw [better_none, better_none]
      | some z =>
        simp only [better]
        by_cases h1 : y.2 < x.2 <;> by_cases h2 : z.2 < y.2 <;> simp only [h1, h2, if_true, if_false]
        · have : z.2 < x.2 := by omega
          simp [this]
        · have : ¬ z.2 < x.2 := by omega
          simp [this]
theorem foldl_better (l : List (Option Pl)) (a : Option Pl) : l.foldl better a = better a (fm l) := by
  unfold fm
  induction l generalizing a with
  | nil => simp only [List.foldl_nil]; rw [better_none]
  | cons x l ih => rw [List.foldl_cons, List.foldl_cons, ih, ih (better none x), none_better, better_assoc]
theorem fm_append (a b : List (Option Pl)) : fm (a ++ b) = better (fm a) (fm b) := by
  unfold fm; rw [List.foldl_append]; exact foldl_better _ _
theorem fm_cons (x : Option Pl) (l : List (Option Pl)) : fm (x :: l) = better x (fm l) := by
  show (x :: l).foldl better none = _
  rw [List.foldl_cons, none_better]; exact foldl_better _ _
theorem fm_flatMap {α : Type} (f : α → List (Option Pl)) (l : List α) : fm (l.flatMap f) = fm (l.map fun x => fm (f x)) := by
  induction l with
  | nil => rfl
  | cons x l ih => rw [List.flatMap_cons, fm_append, List.map_cons, fm_cons, ih]
theorem fm_shift (s : Nat) (c : Int) (l : List (Option Pl)) : fm (l.map fun o => o.map fun q => (s :: q.1, q.2 + c)) = (fm l).map fun q => (s :: q.1, q.2 + c) := by
  induction l with
  | nil => rfl
  | cons x l ih =>
    rw [List.map_cons, fm_cons, ih, fm_cons]
    generalize fm l = y
    cases x with
    | none => rw [none_better]; exact none_better _
    | some x =>
      cases y with
      | none => rw [better_none]; exact better_none _
      | some y =>
        simp only [better, Option.map_some]
        by_cases h : y.2 < x.2
        · rw [if_pos h, if_pos (by omega)]; rfl
        · rw [if_neg h, if_neg (by omega)]; rfl
theorem fm_none (l : List Nat) : fm (l.map fun _ => (none : Option Pl)) = none := by
  induction l with
  | nil => rfl
  | cons x l ih => rw [List.map_cons, fm_cons, ih]; rfl
theorem fm_nones {α : Type} (l : List α) : fm (l.map fun _ => (none : Option Pl)) = none := by
  induction l with
  | nil => rfl
  | cons x l ih => rw [List.map_cons, fm_cons, ih]; rfl
/-- What the memoised search finds is the first best of all plans. -/
theorem best_all (bl : List Blade) (bound : Int) (cost : Nat → Int) : ∀ (l : List (Nat × Stint)) (r : Nat → Int), fm ((plansS (l.map (·.1))).map (evalS bl bound cost l r)) = bestS bl bound cost l r
  | [], r => rfl
  | t :: l, r => by
    show fm (((List.range t.1).flatMap fun s => (plansS (l.map (·.1))).map (s :: ·)).map _) = _
    rw [List.map_flatMap, fm_flatMap]
    unfold bestS
    congr 1
    refine List.map_congr_left fun s _ => ?_
    rw [List.map_map]
    unfold tryS
    by_cases h : (badS bl (bound + t.2.more) (runR bl.length r s t.2.n)).isSome = true
    · rw [if_pos h]
      have e : ((evalS bl bound cost (t :: l) r) ∘ (s :: ·)) = fun _ => none := by
        funext p
        show (if _ then _ else _) = _
        rw [if_pos h]
      rw [e]; exact fm_nones _
    · rw [if_neg h, ← best_all bl bound cost l]
      have e : ((evalS bl bound cost (t :: l) r) ∘ (s :: ·)) = fun p => (evalS bl bound cost l (runR bl.length r s t.2.n) p).map fun q => (s :: q.1, q.2 + cost s) := by
        funext p
        show (if _ then _ else _) = _
        rw [if_neg h]
      rw [e, ← fm_shift, List.map_map]
      rfl
def sumN (cost : Nat → Int) : List Nat → Int
  | [] => 0
  | s :: p => cost s + sumN cost p
theorem sumN_map (cost : Nat → Int) (p : List Nat) : sumN cost p = (p.map cost).sum := by
  induction p with
  | nil => rfl
  | cons s p ih => rw [List.map_cons, List.sum_cons, ← ih]; rfl
/-- A plan that has a set for each stint: it is good, or names the first stint and blade. -/
theorem eval_bad (bl : List Blade) (bound : Int) (cost : Nat → Int) : ∀ (l : List (Nat × Stint)) (r : Nat → Int) (p : List Nat) (i : Nat), p.length = l.length → evalS bl bound cost l r p = if (badP bl bound (l.map (·.2)) r p i).isSome then none else some (p, sumN cost p)
  | [], r, [], i, _ => rfl
  | t :: l, r, s :: p, i, h => by
    have ih := eval_bad bl bound cost l (runR bl.length r s t.2.n) p (i + 1) (by simpa using h)
    rw [List.map_cons]
    unfold evalS badP
    cases hb : badS bl (bound + t.2.more) (runR bl.length r s t.2.n) with
    | some k => rfl
    | none =>
      dsimp only [Option.isSome]
      rw [if_neg (by simp), ih]
      by_cases h2 : (badP bl bound (l.map (·.2)) (runR bl.length r s t.2.n) p (i + 1)).isSome = true
      · rw [if_pos h2]
        cases hq : badP bl bound (l.map (·.2)) (runR bl.length r s t.2.n) p (i + 1) with
        | none => rw [hq] at h2; cases h2
        | some x => rfl
      · rw [if_neg h2]
        cases hq : badP bl bound (l.map (·.2)) (runR bl.length r s t.2.n) p (i + 1) with
        | some x => rw [hq] at h2; exact absurd rfl h2
        | none => simp only [Option.map_some]; rw [if_neg (by simp), Int.add_comm]; rfl
theorem plans_len : ∀ (l : List Nat) (p : List Nat), p ∈ plansS l → p.length = l.length
  | [], p, h => by simp [plansS] at h; subst h; rfl
  | n :: l, p, h => by
    simp only [plansS, List.mem_flatMap, List.mem_map] at h
    obtain ⟨s, -, q, hq, rfl⟩ := h
    rw [List.length_cons, List.length_cons, plans_len l q hq]
end Go.Proofs.YtbhkglokdomajaaDoor
