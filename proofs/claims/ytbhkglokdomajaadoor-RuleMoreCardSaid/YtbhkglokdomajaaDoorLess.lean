import Derived.Test.YtbhkglokdomajaaDoorMore
namespace Go.Proofs.YtbhkglokdomajaaDoor
/-! Plain facts: with less wear, or one blade or stint less, a good plan stays good. -/
def b2i (b : Bool) : Int := if b = true then 1 else 0
/-- How many of five blades a set has. -/
def popS (set : Nat) : Int := b2i (has set 0) + b2i (has set 1) + b2i (has set 2) + b2i (has set 3) + b2i (has set 4)
def costS (stop bend : Int) (set : Nat) : Int := if set = 0 then 0 else stop + bend * popS set
theorem b2i_bd (b : Bool) : 0 ≤ b2i b ∧ b2i b ≤ 1 := by unfold b2i; split <;> omega
theorem popS_bd (set : Nat) : 0 ≤ popS set ∧ popS set ≤ 5 := by
  unfold popS
  have h0 := b2i_bd (has set 0)
  have h1 := b2i_bd (has set 1)
  have h2 := b2i_bd (has set 2)
  have h3 := b2i_bd (has set 3)
  have h4 := b2i_bd (has set 4)
  omega
theorem costS_nonneg {stop bend : Int} (hs : 0 ≤ stop) (hb : 0 ≤ bend) (set : Nat) : 0 ≤ costS stop bend set := by
  unfold costS
  split
  · omega
  · have := Int.mul_nonneg hb (popS_bd set).1
    omega
theorem worst_mono {b b' : Blade} {x x' : Int} (h1 : b'.fh ≤ b.fh) (h2 : b'.wh ≤ b.wh) (h3 : 0 ≤ b'.wh) (h4 : 0 ≤ x') (h5 : x' ≤ x) : worstS b' x' ≤ worstS b x := by
  unfold worstS
  have := Int.mul_le_mul h2 h5 h4 (by omega : 0 ≤ b.wh)
  omega
/-- Each blade of the second die is, by up, one of the first's, that wears no less. -/
structure Wear (bl bl' : List Blade) (up : Nat → Nat) : Prop where
  lt : ∀ k, k < bl'.length → up k < bl.length
  fh : ∀ k, k < bl'.length → (bl'.getD k ⟨0, 0, 0, 0⟩).fh ≤ (bl.getD (up k) ⟨0, 0, 0, 0⟩).fh
  wh : ∀ k, k < bl'.length → (bl'.getD k ⟨0, 0, 0, 0⟩).wh ≤ (bl.getD (up k) ⟨0, 0, 0, 0⟩).wh ∧ 0 ≤ (bl'.getD k ⟨0, 0, 0, 0⟩).wh
theorem Wear.bad {bl bl' : List Blade} {up : Nat → Nat} (h : Wear bl bl' up) {lim lim' : Int} (hl : lim ≤ lim') {r r' : Nat → Int} (hr : ∀ k, k < bl'.length → 0 ≤ r' k ∧ r' k ≤ r (up k)) (hb : badS bl lim r = none) : badS bl' lim' r' = none := by
  unfold badS at hb ⊢
  rw [badTo_none] at hb ⊢
  intro k hk
  have h1 := hb (up k) (h.lt k hk)
  have h2 := worst_mono (h.fh k hk) (h.wh k hk).1 (h.wh k hk).2 (hr k hk).1 (hr k hk).2
  omega
theorem Wear.less {bl bl' : List Blade} {up : Nat → Nat} (h : Wear bl bl' up) {bound bound' : Int} {t t' : Stint} (h1 : t'.n ≤ t.n) (h2 : 0 ≤ t'.n) (h3 : bound + t.more ≤ bound' + t'.more) : LessBad bl bound t bl' bound' t' :=
  ⟨h1, h2, fun x x' h4 h5 h6 => by
    have e : badX bl bound t x = none := Option.isNone_iff_eq_none.1 h6
    have := h.bad h3 (r := fun _ => x) (r' := fun _ => x') (fun k _ => ⟨h4, h5⟩) e
    exact Option.isNone_iff_eq_none.2 this⟩
/-- A plan that is good stays good, and costs no more, if each set is turned by f. -/
theorem Wear.eval {bl bl' : List Blade} {up : Nat → Nat} (h : Wear bl bl' up) {bound bound' : Int} {cost cost' : Nat → Int} {f : Nat → Nat} (hf : ∀ s k, k < bl'.length → has (f s) k = has s (up k)) (hc : ∀ s, cost' (f s) ≤ cost s) :
    ∀ (l l' : List (Nat × Stint)) (r r' : Nat → Int) (p : List Nat) (c : Int), l.length = l'.length → (∀ k, k < l.length → 0 ≤ (l'.getD k (0, ⟨0, 0⟩)).2.n ∧ (l'.getD k (0, ⟨0, 0⟩)).2.n ≤ (l.getD k (0, ⟨0, 0⟩)).2.n ∧ bound + (l.getD k (0, ⟨0, 0⟩)).2.more ≤ bound' + (l'.getD k (0, ⟨0, 0⟩)).2.more) →
      (∀ k, k < bl'.length → 0 ≤ r' k ∧ r' k ≤ r (up k)) → p.length = l.length → evalS bl bound cost l r p = some (p, c) → ∃ c', evalS bl' bound' cost' l' r' (p.map f) = some (p.map f, c') ∧ c' ≤ c
  | [], [], r, r', p, c, _, _, _, hp, he => by
    have : p = [] := List.eq_nil_of_length_eq_zero hp
    subst this
    unfold evalS at he ⊢
    injection he with he
    injection he with _ he
    exact ⟨0, rfl, by omega⟩
  | t :: l, t' :: l', r, r', s :: p, c, hl, ht, hr, hp, he => by
    obtain ⟨h1, h2, h3⟩ : 0 ≤ t'.2.n ∧ t'.2.n ≤ t.2.n ∧ bound + t.2.more ≤ bound' + t'.2.more := ht 0 (by simp)
    have ht' : ∀ k, k < l.length → 0 ≤ (l'.getD k (0, ⟨0, 0⟩)).2.n ∧ (l'.getD k (0, ⟨0, 0⟩)).2.n ≤ (l.getD k (0, ⟨0, 0⟩)).2.n ∧ bound + (l.getD k (0, ⟨0, 0⟩)).2.more ≤ bound' + (l'.getD k (0, ⟨0, 0⟩)).2.more := fun k hk => by
      have := ht (k + 1) (by simpa using hk)
      simpa using this
    have hr' : ∀ k, k < bl'.length → 0 ≤ runR bl'.length r' (f s) t'.2.n k ∧ runR bl'.length r' (f s) t'.2.n k ≤ runR bl.length r s t.2.n (up k) := fun k hk => by
      unfold runR
      rw [if_pos hk, if_pos (h.lt k hk), hf s k hk]
      have := hr k hk
      split <;> omega
    unfold evalS at he
    by_cases hb : (badS bl (bound + t.2.more) (runR bl.length r s t.2.n)).isSome = true
    · rw [if_pos hb] at he; cases he
    · rw [if_neg hb] at he
      have hb0 : badS bl (bound + t.2.more) (runR bl.length r s t.2.n) = none := by
        cases e : badS bl (bound + t.2.more) (runR bl.length r s t.2.n) with
        | none => rfl
        | some k => rw [e] at hb; exact absurd rfl hb
      have hb1 := h.bad h3 hr' hb0
      cases he2 : evalS bl bound cost l (runR bl.length r s t.2.n) p with
      | none => rw [he2] at he; cases he
      | some q =>
        have hq := eval_plan bl bound cost l _ p (by simpa using hp) he2
        subst hq
        rw [he2] at he
        simp only [Option.map_some] at he
        injection he with he
        injection he with _ he
        obtain ⟨c', h5, h6⟩ := Wear.eval h hf hc l l' _ _ p _ (by simpa using hl) ht' hr' (by simpa using hp) he2
        refine ⟨c' + cost' (f s), ?_, by have := hc s; omega⟩
        rw [List.map_cons]
        unfold evalS
        rw [hb1, if_neg (by simp), h5]
        rfl
/-- The set without a blade, the blades behind it having moved up. -/
def dropBit (w set : Nat) : Nat := set % 2 ^ w + set / 2 ^ (w + 1) * 2 ^ w
def upW (w k : Nat) : Nat := if k < w then k else k + 1
theorem has_dropBit (w s k : Nat) : has (dropBit w s) k = has s (upW w k) := by
  unfold has dropBit upW
  have h1 : s % 2 ^ w < 2 ^ w := Nat.mod_lt _ (Nat.two_pow_pos _)
  rw [Nat.add_comm, Nat.mul_comm, Nat.testBit_two_pow_mul_add _ h1]
  by_cases h : k < w
  · rw [if_pos h, if_pos h, Nat.testBit_mod_two_pow]; simp [h]
  · rw [if_neg h, if_neg h, Nat.testBit_div_two_pow]; congr 1; omega
theorem dropBit_lt {w n s : Nat} (hw : w < n) (hs : s < 2 ^ n) : dropBit w s < 2 ^ (n - 1) := by
  refine Nat.lt_pow_two_of_testBit _ fun k hk => ?_
  have := has_dropBit w s k
  unfold has at this
  rw [this]
  refine Nat.testBit_lt_two_pow (Nat.lt_of_lt_of_le hs (Nat.pow_le_pow_right (by omega) ?_))
  unfold upW; split <;> omega
theorem drop_cost {stop bend : Int} (hs0 : 0 ≤ stop) (hb0 : 0 ≤ bend) {w s : Nat} (hw : w ≤ 4) (hs : s < 32) : costS stop bend (dropBit w s) ≤ costS stop bend s := by
  by_cases h0 : dropBit w s = 0
  · rw [h0]; exact costS_nonneg hs0 hb0 s
  · have hn : s ≠ 0 := by rintro rfl; exact h0 (by unfold dropBit; simp)
    have h5 : has s 5 = false := by unfold has; exact Nat.testBit_lt_two_pow hs
    have hp : popS (dropBit w s) ≤ popS s := by
      unfold popS
      simp only [has_dropBit]
      have g0 := b2i_bd (has s 0)
      have g1 := b2i_bd (has s 1)
      have g2 := b2i_bd (has s 2)
      have g3 := b2i_bd (has s 3)
      have g4 := b2i_bd (has s 4)
      have g5 : b2i (has s 5) = 0 := by rw [h5]; rfl
      have hw' : w = 0 ∨ w = 1 ∨ w = 2 ∨ w = 3 ∨ w = 4 := by omega
      rcases hw' with rfl | rfl | rfl | rfl | rfl <;> simp [upW] <;> omega
    unfold costS
    rw [if_neg h0, if_neg hn]
    have := Int.mul_le_mul_of_nonneg_left hp hb0
    omega
/-- One stint less at the end. -/
theorem eval_less (bl : List Blade) (bound : Int) {cost : Nat → Int} (hc : ∀ s, 0 ≤ cost s) : ∀ (l : List (Nat × Stint)) (t : Nat × Stint) (r : Nat → Int) (p : List Nat) (c : Int), p.length = l.length + 1 → evalS bl bound cost (l ++ [t]) r p = some (p, c) → ∃ c', evalS bl bound cost l r p.dropLast = some (p.dropLast, c') ∧ c' ≤ c
  | [], t, r, [s], c, _, he => by
    refine ⟨0, rfl, ?_⟩
    have := eval_plan bl bound cost ([] ++ [t]) r [s] rfl he
    injection this with _ e
    rw [e]; unfold sumN sumN; have := hc s; omega
  | u :: l, t, r, s :: p, c, hp, he => by
    rw [List.cons_append] at he
    unfold evalS at he
    by_cases hb : (badS bl (bound + u.2.more) (runR bl.length r s u.2.n)).isSome = true
    · rw [if_pos hb] at he; cases he
    · rw [if_neg hb] at he
      cases he2 : evalS bl bound cost (l ++ [t]) (runR bl.length r s u.2.n) p with
      | none => rw [he2] at he; cases he
      | some q =>
        have hq := eval_plan bl bound cost (l ++ [t]) _ p (by simpa using hp) he2
        subst hq
        rw [he2] at he
        simp only [Option.map_some] at he
        injection he with he
        injection he with _ he
        obtain ⟨c', h5, h6⟩ := eval_less bl bound hc l t _ p _ (by simpa using hp) he2
        have hne : p ≠ [] := by intro e; subst e; simp at hp
        refine ⟨c' + cost s, ?_, by omega⟩
        rw [List.dropLast_cons_of_ne_nil hne]
        unfold evalS
        rw [if_neg hb, h5]
        rfl
theorem rows_end (bl : List Blade) (bound : Int) (t : Stint) : ∀ (l : List Stint) (i a : Nat) (x : Int), ∃ z, proofGo bl bound (l ++ [t]) i a x = proofGo bl bound l i a x ++ z ∧ z.length ≤ 1
  | [], i, a, x => by
    refine ⟨proofGo bl bound [t] i a x, rfl, ?_⟩
    unfold proofGo
    split <;> simp [proofGo]
  | u :: l, i, a, x => by
    rw [List.cons_append]
    unfold proofGo
    cases badX bl bound u (x + u.n) with
    | none => exact rows_end bl bound t l (i + 1) a (x + u.n)
    | some k =>
      obtain ⟨z, h1, h2⟩ := rows_end bl bound t l (i + 1) i u.n
      exact ⟨z, by dsimp only; rw [h1, List.cons_append], h2⟩
end Go.Proofs.YtbhkglokdomajaaDoor
