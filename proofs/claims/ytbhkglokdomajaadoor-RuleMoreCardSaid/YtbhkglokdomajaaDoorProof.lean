import Derived.Test.YtbhkglokdomajaaDoorPlan
namespace Go.Proofs.YtbhkglokdomajaaDoor
/-! Plain functions: the proof that there must be so many stops. -/
/-- The first blade, of the first m, that can be off too far after x thousand strokes. -/
def badX (bl : List Blade) (bound : Int) (t : Stint) (x : Int) : Option Nat := badS bl (bound + t.more) (fun _ => x)
theorem badTo_congr {bl : List Blade} {lim : Int} {r r' : Nat → Int} {m : Nat} (h : ∀ k, k < m → r k = r' k) : badTo bl lim r m = badTo bl lim r' m := by
  unfold badTo
  induction m with
  | zero => rfl
  | succ m ih =>
    rw [List.range_succ, List.find?_append, List.find?_append, ih (fun k hk => h k (by omega))]
    simp only [List.find?_cons, List.find?_nil]
    rw [h m (by omega)]
theorem badS_congr {bl : List Blade} {lim : Int} {r r' : Nat → Int} (h : ∀ k, k < bl.length → r k = r' k) : badS bl lim r = badS bl lim r' := badTo_congr h
theorem badTo_succ (bl : List Blade) (lim : Int) (r : Nat → Int) (m : Nat) : badTo bl lim r (m + 1) = (badTo bl lim r m).or (if lim < worstS (bl.getD m ⟨0, 0, 0, 0⟩) (r m) then some m else none) := by
  unfold badTo
  rw [List.range_succ, List.find?_append]
  simp only [List.find?_cons, List.find?_nil]
  by_cases h : lim < worstS (bl.getD m ⟨0, 0, 0, 0⟩) (r m)
  · rw [if_pos h, decide_eq_true h]
  · rw [if_neg h, decide_eq_false h]
theorem badTo_some {bl : List Blade} {lim : Int} {r : Nat → Int} {m k : Nat} (h : badTo bl lim r m = some k) : k < m ∧ lim < worstS (bl.getD k ⟨0, 0, 0, 0⟩) (r k) ∧ ∀ j, j < k → ¬ lim < worstS (bl.getD j ⟨0, 0, 0, 0⟩) (r j) := by
  induction m with
  | zero => cases h
  | succ m ih =>
    rw [badTo_succ] at h
    cases hb : badTo bl lim r m with
    | some x =>
      rw [hb] at h
      simp at h
      subst h
      obtain ⟨h1, h2⟩ := ih hb
      exact ⟨by omega, h2⟩
    | none =>
      rw [hb] at h
      simp only [Option.or] at h
      split at h
      · injection h with h; subst h
        refine ⟨by omega, by assumption, fun j hj => ?_⟩
        have := List.find?_eq_none.1 hb j (List.mem_range.2 hj)
        simpa using this
      · cases h
theorem badTo_none {bl : List Blade} {lim : Int} {r : Nat → Int} {m : Nat} : badTo bl lim r m = none ↔ ∀ k, k < m → ¬ lim < worstS (bl.getD k ⟨0, 0, 0, 0⟩) (r k) := by
  unfold badTo
  rw [List.find?_eq_none]
  constructor
  · intro h k hk
    simpa using h k (List.mem_range.2 hk)
  · intro h k hk
    simpa using h k (List.mem_range.1 hk)
theorem badTo_eq {bl : List Blade} {lim : Int} {r : Nat → Int} {m k : Nat} (hk : k < m) (h1 : lim < worstS (bl.getD k ⟨0, 0, 0, 0⟩) (r k)) (h2 : ∀ j, j < k → ¬ lim < worstS (bl.getD j ⟨0, 0, 0, 0⟩) (r j)) : badTo bl lim r m = some k := by
  cases hb : badTo bl lim r m with
  | none => exact absurd h1 (badTo_none.1 hb k hk)
  | some x =>
    obtain ⟨a, b, c⟩ := badTo_some hb
    by_cases e : x < k
    · exact absurd b (h2 x e)
    · by_cases e2 : k < x
      · exact absurd h1 (c k e2)
      · rw [show x = k by omega]
/-- The rows of the proof: from the i-th stint on, the row having begun at the one called from, and run x thousand strokes. -/
def proofGo (bl : List Blade) (bound : Int) : List Stint → Nat → Nat → Int → List (Nat × Nat × Nat)
  | [], _, _, _ => []
  | t :: l, i, from_, x => match badX bl bound t (x + t.n) with
    | none => proofGo bl bound l (i + 1) from_ (x + t.n)
    | some k => (from_, i, k) :: proofGo bl bound l (i + 1) i t.n
def alonesS (bl : List Blade) (bound : Int) (l : List Stint) : Bool := l.all fun t => (badX bl bound t t.n).isNone
def proofS (bl : List Blade) (bound : Int) (l : List Stint) : List (Nat × Nat × Nat) := proofGo bl bound l 0 0 0
/-- How long the stints from one on, up to the one before another, run. -/
def runSum (l : List Stint) (a b : Nat) : Int := ((l.take b).drop a).foldl (fun n t => n + t.n) 0
/-- Can the blade not run through the stints from one on up to another one? -/
def stuckB (bl : List Blade) (bound : Int) (l : List Stint) (a b k : Nat) : Bool := (List.range (b + 1 - a)).any fun j => decide (bound + (l.getD (a + j) ⟨0, 0⟩).more < worstS (bl.getD k ⟨0, 0, 0, 0⟩) (runSum l a (a + j + 1)))
def stuckS (bl : List Blade) (bound : Int) (l : List Stint) (a b : Nat) : Option Nat := (List.range bl.length).find? fun k => stuckB bl bound l a b k
/-- The document's rows. -/
def refGo (bl : List Blade) (bound : Int) (l : List Stint) : Nat → Nat → Nat → List (Nat × Nat × Nat)
  | 0, _, _ => []
  | f + 1, to, from_ => match stuckS bl bound l from_ to with
    | none => refGo bl bound l f (to + 1) from_
    | some k => (from_, to, k) :: refGo bl bound l f (to + 1) to
theorem foldl_n (l : List Stint) (x : Int) : l.foldl (fun n t => n + t.n) x = x + l.foldl (fun n t => n + t.n) 0 := by
  induction l generalizing x with
  | nil => simp
  | cons t l ih => rw [List.foldl_cons, List.foldl_cons, ih, ih (0 + t.n)]; omega
theorem runSum_succ {l : List Stint} {a b : Nat} (hab : a ≤ b) (hb : b < l.length) : runSum l a (b + 1) = runSum l a b + (l.getD b ⟨0, 0⟩).n := by
  unfold runSum
  rw [List.take_succ_eq_append_getElem hb, List.drop_append_of_le_length (by rw [List.length_take]; omega), List.foldl_append]
  simp [List.getD_eq_getElem?_getD, List.getElem?_eq_getElem hb]
theorem runSum_self (l : List Stint) (a : Nat) : runSum l a a = 0 := by
  unfold runSum
  rw [List.drop_eq_nil_of_le (by rw [List.length_take]; omega)]; rfl
theorem stuckB_succ (bl : List Blade) (bound : Int) (l : List Stint) {a b : Nat} (hab : a ≤ b + 1) (k : Nat) : stuckB bl bound l a (b + 1) k = (stuckB bl bound l a b k || decide (bound + (l.getD (b + 1) ⟨0, 0⟩).more < worstS (bl.getD k ⟨0, 0, 0, 0⟩) (runSum l a (b + 2)))) := by
  unfold stuckB
  rw [show b + 1 + 1 - a = (b + 1 - a) + 1 by omega, List.range_succ, List.any_append]
  simp only [List.any_cons, List.any_nil, Bool.or_false]
  rw [show a + (b + 1 - a) = b + 1 by omega]
theorem stuckB_self (bl : List Blade) (bound : Int) (l : List Stint) {a : Nat} (ha : a < l.length) (k : Nat) : stuckB bl bound l a a k = decide (bound + (l.getD a ⟨0, 0⟩).more < worstS (bl.getD k ⟨0, 0, 0, 0⟩) (l.getD a ⟨0, 0⟩).n) := by
  unfold stuckB
  rw [show a + 1 - a = 1 by omega]
  simp only [List.range_one, List.any_cons, List.any_nil, Bool.or_false, Nat.add_zero]
  rw [runSum_succ (Nat.le_refl _) ha, runSum_self, Int.zero_add]
theorem stuckS_none {bl : List Blade} {bound : Int} {l : List Stint} {a b : Nat} : stuckS bl bound l a b = none ↔ ∀ k, k < bl.length → stuckB bl bound l a b k = false := by
  unfold stuckS
  rw [List.find?_eq_none]
  constructor
  · intro h k hk
    simpa using h k (List.mem_range.2 hk)
  · intro h k hk
    simpa using h k (List.mem_range.1 hk)
theorem find_congr {n : Nat} {p q : Nat → Bool} (h : ∀ k, k < n → p k = q k) : (List.range n).find? p = (List.range n).find? q := by
  induction n with
  | zero => rfl
  | succ n ih =>
    rw [List.range_succ, List.find?_append, List.find?_append, ih (fun k hk => h k (by omega))]
    simp only [List.find?_cons, List.find?_nil]
    rw [h n (by omega)]
theorem stuckS_self (bl : List Blade) (bound : Int) (l : List Stint) {a : Nat} (ha : a < l.length) : stuckS bl bound l a a = badX bl bound (l.getD a ⟨0, 0⟩) (l.getD a ⟨0, 0⟩).n :=
  find_congr fun k _ => stuckB_self bl bound l ha k
/-- Where nothing is stuck up to one stint, the next one alone decides. -/
theorem stuckS_next {bl : List Blade} {bound : Int} {l : List Stint} {a b : Nat} (hab : a ≤ b) (hb : b + 1 < l.length) (h : stuckS bl bound l a b = none) : stuckS bl bound l a (b + 1) = badX bl bound (l.getD (b + 1) ⟨0, 0⟩) (runSum l a (b + 1) + (l.getD (b + 1) ⟨0, 0⟩).n) := by
  refine find_congr fun k hk => ?_
  rw [stuckB_succ bl bound l (by omega) k, stuckS_none.1 h k hk, Bool.false_or, runSum_succ (l := l) (a := a) (b := b + 1) (by omega) hb]
theorem alone_at {bl : List Blade} {bound : Int} {l : List Stint} (h : alonesS bl bound l = true) {i : Nat} (hi : i < l.length) : badX bl bound (l.getD i ⟨0, 0⟩) (l.getD i ⟨0, 0⟩).n = none := by
  have := List.all_eq_true.1 h (l[i]) (List.getElem_mem hi)
  rw [List.getD_eq_getElem?_getD, List.getElem?_eq_getElem hi]
  simpa using this
theorem drop_cons {l : List Stint} {i : Nat} (hi : i < l.length) : l.drop i = l.getD i ⟨0, 0⟩ :: l.drop (i + 1) := by
  rw [List.drop_eq_getElem_cons hi, List.getD_eq_getElem?_getD, List.getElem?_eq_getElem hi]; rfl
/-- The program's rows are the document's: from a stint on, with nothing stuck so far. -/
theorem proof_ref (bl : List Blade) (bound : Int) (l : List Stint) (hal : alonesS bl bound l = true) : ∀ (f i from_ : Nat), from_ ≤ i → i + 1 + f = l.length → stuckS bl bound l from_ i = none →
    proofGo bl bound (l.drop (i + 1)) (i + 1) from_ (runSum l from_ (i + 1)) = refGo bl bound l f (i + 1) from_
  | 0, i, from_, _, hf, _ => by
    rw [List.drop_eq_nil_of_le (by omega)]; rfl
  | f + 1, i, from_, hle, hf, hs => by
    have hi : i + 1 < l.length := by omega
    rw [drop_cons hi]
    unfold proofGo refGo
    rw [stuckS_next hle hi hs]
    cases hb : badX bl bound (l.getD (i + 1) ⟨0, 0⟩) (runSum l from_ (i + 1) + (l.getD (i + 1) ⟨0, 0⟩).n) with
    | none =>
      have h1 := proof_ref bl bound l hal f (i + 1) from_ (by omega) (by omega) (by rw [stuckS_next hle hi hs]; exact hb)
      rw [runSum_succ (l := l) (a := from_) (b := i + 1) (by omega) hi] at h1
      exact h1
    | some k =>
      have h1 := proof_ref bl bound l hal f (i + 1) (i + 1) (Nat.le_refl _) (by omega) (by rw [stuckS_self bl bound l hi]; exact alone_at hal hi)
      rw [runSum_succ (l := l) (a := i + 1) (b := i + 1) (Nat.le_refl _) hi, runSum_self, Int.zero_add] at h1
      dsimp only
      rw [h1]
theorem proof_same (bl : List Blade) (bound : Int) (l : List Stint) (hal : alonesS bl bound l = true) : proofS bl bound l = refGo bl bound l (l.length - 1) 1 0 := by
  unfold proofS
  match l, hal with
  | [], _ => rfl
  | t :: l', hal =>
    have h0 := alone_at hal (i := 0) (by simp)
    have e : (t :: l').getD 0 ⟨0, 0⟩ = t := rfl
    rw [e] at h0
    have h1 := proof_ref bl bound (t :: l') hal (l'.length) 0 0 (Nat.le_refl _) (by simp; omega) (by rw [stuckS_self bl bound (t :: l') (by simp)]; exact h0)
    rw [runSum_succ (l := t :: l') (a := 0) (b := 0) (Nat.le_refl _) (by simp), runSum_self] at h1
    unfold proofGo
    rw [Int.zero_add, e] at h1
    rw [show (0 : Int) + t.n = t.n by omega, h0]
    exact h1
end Go.Proofs.YtbhkglokdomajaaDoor
