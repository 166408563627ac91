import Derived.Test.YtkcfpnpejaekjaaDoorMend
namespace Go.Proofs.YtkcfpnpejaekjaaDoor
/-! Plain: the reference's search for a truth that fits. -/
/-- What is admitted, out of a list: below 0, and beyond its end, nothing. -/
def admA (l : List Int) (p : Nat) : Option Nat :=
  match l[p]? with
  | some m => if 0 ≤ m then some m.toNat else none
  | none => none
def decL (l : List Int) (p : Nat) : List Int := if 0 < l.getD p (-1) then l.set p (l.getD p (-1) - 1) else l
def canB (S : Nat → Nat → Bool) : Nat → List Int → Bool
  | 0, l => l.all fun m => decide (m ≤ 0)
  | n + 1, l => (List.range 8).any fun p => S 0 p && !decide (l.getD p (-1) = 0) && canB (fun k => S (k + 1)) n (decL l p)
theorem admA_zero {l : List Int} {p : Nat} : admA l p = some 0 ↔ l.getD p (-1) = 0 := by
  unfold admA
  rw [List.getD_eq_getElem?_getD]
  cases h : l[p]? with
  | none => simp
  | some m =>
    show (if 0 ≤ m then some m.toNat else none) = some 0 ↔ m = 0
    by_cases h0 : 0 ≤ m
    · rw [if_pos h0]
      constructor
      · intro h; injection h with h; omega
      · intro h; rw [h]; rfl
    · rw [if_neg h0]
      exact ⟨fun h => (by cases h), fun h => (by omega)⟩
theorem admA_less {l : List Int} {p : Nat} (h0 : l.getD p (-1) ≠ 0) : admA (decL l p) = lessA (admA l) p := by
  funext x
  unfold decL lessA
  by_cases hp : 0 < l.getD p (-1)
  · rw [if_pos hp]
    have hlt : p < l.length := Classical.byContradiction fun hn => by
      rw [List.getD_eq_getElem?_getD, List.getElem?_eq_none (by omega)] at hp
      exact absurd hp (by decide)
    have hg : l.getD p (-1) = l[p] := by rw [List.getD_eq_getElem?_getD, List.getElem?_eq_getElem hlt]; rfl
    rw [hg] at hp ⊢
    by_cases e : x = p
    · subst e
      rw [if_pos rfl]
      unfold admA
      rw [List.getElem?_set_self hlt, List.getElem?_eq_getElem hlt]
      show (if 0 ≤ l[x] - 1 then some (l[x] - 1).toNat else none) = (if 0 ≤ l[x] then some l[x].toNat else none).map (· - 1)
      rw [if_pos (by omega), if_pos (by omega)]
      show some (l[x] - 1).toNat = some (l[x].toNat - 1)
      congr 1
      omega
    · rw [if_neg e]
      unfold admA
      rw [List.getElem?_set_ne (fun e2 => e e2.symm)]
  · rw [if_neg hp]
    by_cases e : x = p
    · subst e
      rw [if_pos rfl]
      have : admA l x = none := by
        unfold admA
        rw [List.getD_eq_getElem?_getD] at hp h0
        cases h : l[x]? with
        | none => rfl
        | some m =>
          rw [h] at hp h0
          have hp : ¬ 0 < m := hp
          have h0 : m ≠ 0 := h0
          show (if 0 ≤ m then some m.toNat else none) = none
          rw [if_neg (by omega)]
      rw [this]; rfl
    · rw [if_neg e]
theorem fit_zero {S : Nat → Nat → Bool} {l : List Int} : (l.all fun m => decide (m ≤ 0)) = true ↔ Fit 0 S (admA l) := by
  rw [List.all_eq_true]
  constructor
  · intro h
    refine ⟨fun _ => 0, fun k hk => by omega, fun p m hp => ?_⟩
    show 0 = m
    unfold admA at hp
    cases hg : l[p]? with
    | none => rw [hg] at hp; cases hp
    | some v =>
      rw [hg] at hp
      have hp : (if 0 ≤ v then some v.toNat else none) = some m := hp
      have h1 := h v (List.mem_of_getElem? hg)
      rw [decide_eq_true_eq] at h1
      by_cases h0 : 0 ≤ v
      · rw [if_pos h0] at hp; injection hp with hp; omega
      · rw [if_neg h0] at hp; cases hp
  · rintro ⟨f, hf⟩ v hv
    rw [decide_eq_true_eq]
    obtain ⟨p, hp⟩ := List.getElem?_of_mem hv
    by_cases h0 : 0 ≤ v
    · have := hf.adm p v.toNat (by unfold admA; rw [hp]; exact if_pos h0)
      have h1 : 0 = v.toNat := this
      omega
    · omega
theorem fit_succ {n : Nat} {S : Nat → Nat → Bool} {a : Nat → Option Nat} : Fit (n + 1) S a ↔ ∃ p, S 0 p = true ∧ a p ≠ some 0 ∧ Fit n (fun k => S (k + 1)) (lessA a p) := by
  have hsk : (fun i => S (skipN 0 i)) = fun k => S (k + 1) := by funext i; show S (if i < 0 then i else i + 1) = _; rw [if_neg (by omega)]
  constructor
  · rintro ⟨f, hf⟩
    have hp := hf.can 0 (by omega)
    have := (gives_iff (k := 0) (Nat.zero_le n) hp).2 ⟨f, hf, rfl⟩
    rw [hsk] at this
    exact ⟨f 0, hp, this⟩
  · rintro ⟨p, hp, h⟩
    rw [← hsk] at h
    obtain ⟨f, hf, _⟩ := (gives_iff (k := 0) (Nat.zero_le n) hp).1 h
    exact ⟨f, hf⟩
theorem canB_iff : ∀ {n : Nat} {S : Nat → Nat → Bool} {l : List Int}, (∀ k p, S k p = true → p < 8) → (canB S n l = true ↔ Fit n S (admA l))
  | 0, S, l, _ => fit_zero
  | n + 1, S, l, h8 => by
    rw [fit_succ]
    show (List.range 8).any _ = true ↔ _
    rw [List.any_eq_true]
    constructor
    · rintro ⟨p, _, hp⟩
      rw [Bool.and_eq_true, Bool.and_eq_true, Bool.not_eq_true', decide_eq_false_iff_not] at hp
      obtain ⟨⟨h1, h2⟩, h3⟩ := hp
      refine ⟨p, h1, fun e => h2 (admA_zero.1 e), ?_⟩
      rw [← admA_less h2]
      exact (canB_iff fun k p h => h8 _ p h).1 h3
    · rintro ⟨p, h1, h2, h3⟩
      have h2 : l.getD p (-1) ≠ 0 := fun e => h2 (admA_zero.2 e)
      refine ⟨p, List.mem_range.2 (h8 0 p h1), ?_⟩
      rw [Bool.and_eq_true, Bool.and_eq_true, Bool.not_eq_true', decide_eq_false_iff_not]
      refine ⟨⟨h1, h2⟩, (canB_iff fun k p h => h8 _ p h).2 ?_⟩
      rw [admA_less h2]; exact h3
/-- One piece given to one of those who can have lost it. -/
def onlyS (S : Nat → Nat → Bool) (k p : Nat) : Nat → Nat → Bool := fun i q => S i q && !(decide (i = k) && !decide (q = p))
theorem only_fit {n : Nat} {S : Nat → Nat → Bool} {a : Nat → Option Nat} {k p : Nat} (hk : k < n) : Fit n (onlyS S k p) a ↔ ∃ f, FitBy n S a f ∧ f k = p := by
  constructor
  · rintro ⟨f, hf⟩
    have h1 : ∀ i, i < n → S i (f i) = true ∧ (i = k → f i = p) := fun i hi => by
      have := hf.can i hi
      unfold onlyS at this
      rw [Bool.and_eq_true] at this
      refine ⟨this.1, fun e => ?_⟩
      have h2 := this.2
      rw [decide_eq_true e, Bool.true_and, Bool.not_not, decide_eq_true_eq] at h2
      exact h2
    exact ⟨f, ⟨fun i hi => (h1 i hi).1, hf.adm⟩, (h1 k hk).2 rfl⟩
  · rintro ⟨f, hf, e⟩
    refine ⟨f, fun i hi => ?_, hf.adm⟩
    unfold onlyS
    rw [hf.can i hi]
    by_cases h : i = k
    · rw [h, e]; simp
    · simp [h]
/-- The set of those who can have lost a piece, so that all fits. -/
def setB (q : Nat → Bool) : Nat → Nat
  | 0 => 0
  | n + 1 => setB q n + if q n then 2 ^ n else 0
theorem setB_lt (q : Nat → Bool) : ∀ n : Nat, setB q n < 2 ^ n
  | 0 => Nat.one_pos
  | n + 1 => by
    have := setB_lt q n
    show setB q n + (if q n then 2 ^ n else 0) < 2 ^ (n + 1)
    rw [Nat.pow_succ]; split <;> omega
theorem setB_bit (q : Nat → Bool) (p : Nat) : ∀ n : Nat, (setB q n).testBit p = (decide (p < n) && q p)
  | 0 => by simp [setB]
  | n + 1 => by
    have ih := setB_bit q p n
    have hlt := setB_lt q n
    show (setB q n + if q n then 2 ^ n else 0).testBit p = _
    by_cases e : p = n
    · subst e
      rw [show decide (p < p + 1) = true from decide_eq_true (by omega), Bool.true_and]
      cases q p
      · rw [if_neg (by decide), Nat.add_zero, ih]; simp
      · rw [if_pos rfl, Nat.add_comm, Nat.testBit_two_pow_add_eq, ih]; simp
    · by_cases e2 : p < n
      · rw [decide_eq_true (show p < n + 1 by omega), decide_eq_true e2] at *
        rw [← ih]
        cases q n
        · rw [if_neg (by decide), Nat.add_zero]
        · rw [if_pos rfl, Nat.add_comm, Nat.testBit_two_pow_add_gt e2]
      · rw [show decide (p < n + 1) = false from decide_eq_false (by omega), Bool.false_and]
        refine Nat.testBit_lt_two_pow (Nat.lt_of_lt_of_le ?_ (Nat.pow_le_pow_right (by decide) (show n + 1 ≤ p by omega)))
        rw [Nat.pow_succ]; split <;> omega
theorem bits_eq {a b : Nat} (h : ∀ p, a.testBit p = b.testBit p) : a = b := Nat.eq_of_testBit_eq h
end Go.Proofs.YtkcfpnpejaekjaaDoor
