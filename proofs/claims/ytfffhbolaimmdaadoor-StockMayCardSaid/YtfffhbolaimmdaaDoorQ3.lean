import Derived.Test.YtfffhbolaimmdaaDoorQ2
namespace Go.Proofs.YtfffhbolaimmdaaDoor
open Go.RowKit
/-! Plain facts: parts of a set, and the order that may not be. -/
theorem sumTo_mono {n : Nat} {f g : Nat → Int} (h : ∀ i, i < n → f i ≤ g i) : sumTo n f ≤ sumTo n g := by
  induction n with
  | zero => exact Int.le_refl _
  | succ n ih => rw [sumTo_split, sumTo_split]; have := ih (fun i hi => h i (by omega)); have := h n (by omega); omega
theorem has_and (x y i : Nat) : has (x &&& y) i = (has x i && has y i) := by unfold has; exact Nat.testBit_and ..
theorem used_part {s : Store} (ok : Ok s) (x y p : Nat) {n : Nat} (hn : n ≤ s.wishes.length) : usedTo s (x &&& y) n p ≤ usedTo s x n p := by
  unfold usedTo
  refine sumTo_mono fun i hi => ?_
  have := ok.wishOk (i := i) (by omega)
  rw [has_and]
  cases has x i <;> cases has y i <;> simp
  split <;> omega
theorem part_ok {s : Store} (ok : Ok s) {x : Nat} (y : Nat) (h : refusedS s x < 0) : refusedS s (x &&& y) < 0 := by
  rw [refused_iff] at h ⊢
  intro j hj hb
  rw [has_and] at hb
  simp at hb
  have h1 := h j hj hb.1
  unfold okAt at h1 ⊢
  simp only [Bool.and_eq_true, decide_eq_true_eq] at h1 ⊢
  have h2 := used_part ok x y (makeAt s j).pic.toNat (n := j + 1) (by omega)
  exact ⟨h1.1, by omega⟩
theorem part_lt {x y n : Nat} (h : x < 2 ^ n) : x &&& y < 2 ^ n := Nat.lt_of_le_of_lt Nat.and_le_left h
theorem refusedTo_hit (s : Store) (x n : Nat) (h : 0 ≤ refusedTo s x n) : ∃ i : Nat, refusedTo s x n = (i : Int) ∧ i < n ∧ has x i = true ∧ okAt s x i = false ∧ ∀ j, j < i → has x j = true → okAt s x j = true := by
  induction n with
  | zero => simp [refusedTo] at h
  | succ n ih =>
    unfold refusedTo at h ⊢
    by_cases h0 : 0 ≤ refusedTo s x n
    · rw [if_pos h0]
      obtain ⟨i, h1, h2, h3⟩ := ih h0
      exact ⟨i, h1, by omega, h3⟩
    · rw [if_neg h0] at h ⊢
      by_cases h1 : has x n = true ∧ okAt s x n = false
      · rw [if_pos h1]
        have hr := refusedTo_range s x n
        exact ⟨n, rfl, by omega, h1.1, h1.2, (refusedTo_iff s x n).1 (by omega)⟩
      · rw [if_neg h1] at h; omega
theorem okAt_mod (s : Store) {x y i : Nat} (h : ∀ j, j ≤ i → has x j = has y j) : okAt s x i = okAt s y i := by
  have e : ∀ p, usedTo s x (i + 1) p = usedTo s y (i + 1) p := fun p => by
    unfold usedTo; exact sumTo_congr fun j hj => by rw [h j (by omega)]
  unfold okAt; rw [e]
theorem before_has {x i j : Nat} : has (x % 2 ^ i) j = (decide (j < i) && has x j) := by unfold has; rw [Nat.testBit_mod_two_pow]
theorem before_ok {s : Store} {x i : Nat} (h : ∀ j, j < i → has x j = true → okAt s x j = true) : refusedS s (x % 2 ^ i) < 0 := by
  rw [refused_iff]
  intro j _ hb
  rw [before_has] at hb
  simp at hb
  rw [okAt_mod s (y := x) (fun k hk => by rw [before_has]; simp; intro; omega)]
  exact h j hb.1 hb.2
theorem upto_refused {s : Store} {x i : Nat} (hi : i < s.wishes.length) (hx : has x i = true) (hn : okAt s x i = false) (h : ∀ j, j < i → has x j = true → okAt s x j = true) : refusedS s (x % 2 ^ i + 2 ^ i) = (i : Int) := by
  have hm : x % 2 ^ i < 2 ^ i := Nat.mod_lt _ (Nat.two_pow_pos i)
  have hh : ∀ j, j ≤ i → has (x % 2 ^ i + 2 ^ i) j = has x j := by
    intro j hj
    by_cases e : j = i
    · subst e; rw [has_add_same hm, hx]
    · rw [has_add_lt (by omega), before_has]; simp; intro; omega
  refine refusedTo_at (k := i) ?_ (by rw [hh i (Nat.le_refl _), hx]) (by rw [okAt_mod s hh, hn]) _ hi
  rw [refusedTo_iff]
  intro j hj hb
  rw [hh j (by omega)] at hb
  rw [okAt_mod s (y := x) (fun k hk => hh k (by omega))]
  exact h j hj hb
theorem okAt_why {s : Store} {x i : Nat} (h : okAt s x i = false) : (wishAt s i).hour < (licAt s i).lo ∨ (licAt s i).hi < (wishAt s i).hour ∨ (licAt s i).copies < usedTo s x (i + 1) (makeAt s i).pic.toNat := by
  unfold okAt inS at h
  simp at h
  omega
theorem check_cases (s : Store) (st : Int) : (checkS s st = 1 ∧ storeS s = false) ∨ (checkS s st = 2 ∧ storeS s = true ∧ (st < 0 ∨ powI s.wishes.length ≤ st)) ∨ (checkS s st = 0 ∧ storeS s = true ∧ 0 ≤ st ∧ st < powI s.wishes.length) := by
  unfold checkS
  cases hs : storeS s
  · left; simp
  · right
    simp only [if_true]
    by_cases h : inS st 0 (powI s.wishes.length - 1) = true
    · right; rw [if_pos h]; simp [inS] at h; exact ⟨rfl, trivial, by omega, by omega⟩
    · left; rw [if_neg h]; simp [inS] at h; exact ⟨rfl, trivial, by omega⟩
end Go.Proofs.YtfffhbolaimmdaaDoor
