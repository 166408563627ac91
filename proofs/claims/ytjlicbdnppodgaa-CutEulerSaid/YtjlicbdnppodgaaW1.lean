import Derived.Test.YtjlicbdnppodgaaR3
namespace Go.Proofs.Ytjlicbdnppodgaa
/-! Plain: the reference's search for the cells of a piece. -/
def cellOf (c : Cut) (i : Nat) : Pt := (colI c i, rowI c i)
/-- The cells that have been reached. -/
def Rf (c : Cut) (f : Nat → Bool) (p : Pt) : Prop := ∃ j, j < c.piece.length ∧ f j = true ∧ p = cellOf c j
theorem cell_in {c : Cut} (ok : OkC c) {i : Nat} (hi : i < c.piece.length) : inG c (cellOf c i) ∧ pcOf c (cellOf c i) = atI c i := ⟨(ok.cell hi).1, ok.at_cell hi⟩
/-- The index of a cell. -/
theorem idx_of {c : Cut} (ok : OkC c) {p : Pt} (h : inG c p) : ∃ j, j < c.piece.length ∧ p = cellOf c j ∧ (j : Int) = p.2 * c.wide + p.1 := by
  obtain ⟨h1, h2, h3, h4⟩ := ok.idx h
  refine ⟨(p.2 * c.wide + p.1).toNat, by omega, ?_, by omega⟩
  have e : (((p.2 * c.wide + p.1).toNat : Nat) : Int) = p.2 * c.wide + p.1 := by omega
  unfold cellOf colI rowI
  rw [e, h3, h4]
theorem cell_inj {c : Cut} (ok : OkC c) {i j : Nat} (hi : i < c.piece.length) (hj : j < c.piece.length) (h : cellOf c i = cellOf c j) : i = j := by
  have h1 := (ok.cell hi).2.1
  have h2 := (ok.cell hj).2.1
  unfold cellOf at h
  injection h with e1 e2
  rw [e1, e2] at h1
  omega
theorem Rf_cell {c : Cut} (ok : OkC c) {f : Nat → Bool} {i : Nat} (hi : i < c.piece.length) : Rf c f (cellOf c i) ↔ f i = true := by
  constructor
  · rintro ⟨j, hj, hf, e⟩
    rw [cell_inj ok hi hj e]; exact hf
  · intro h
    exact ⟨i, hi, h, rfl⟩
theorem next_iff {c : Cut} (ok : OkC c) {f : Nat → Bool} {i : Nat} (hi : i < c.piece.length) : nextS c f i = true ↔ ∃ n, n ∈ around (cellOf c i).1 (cellOf c i).2 ∧ Rf c f n := by
  obtain ⟨-, hidx, hc1, hc2, hc3, hc4⟩ := ok.cell hi
  have hw := ok.w
  have hh := ok.h
  have hW : ((W c : Nat) : Int) = c.wide := by unfold W; omega
  have key : ∀ (x y : Int) (j : Nat), 0 ≤ x ∧ x < c.wide → 0 ≤ y ∧ y < c.high → (j : Int) = y * c.wide + x → (Rf c f (x, y) ↔ f j = true) := fun x y j hx hy hj => by
    have hg : inG c (x, y) := by
      unfold inG isIn inS
      simp only [Bool.and_eq_true, decide_eq_true_eq]
      omega
    obtain ⟨k, hk, e, hk2⟩ := idx_of ok hg
    have : k = j := by simp only at hk2; omega
    subst this
    rw [e]
    exact Rf_cell ok hk
  have out : ∀ (x y : Int), (x < 0 ∨ c.wide ≤ x ∨ y < 0 ∨ c.high ≤ y) → ¬ Rf c f (x, y) := fun x y h hr => by
    obtain ⟨j, hj, -, e⟩ := hr
    obtain ⟨-, -, d1, d2, d3, d4⟩ := ok.cell hj
    unfold cellOf at e
    injection e with e1 e2
    omega
  show (decide (0 < colI c i) && f (i - 1) || decide (colI c i < c.wide - 1) && f (i + 1) || decide (0 < rowI c i) && f (i - W c) || decide (rowI c i < c.high - 1) && f (i + W c)) = true ↔ _
  unfold cellOf around
  have m1 : (rowI c i - 1) * c.wide = rowI c i * c.wide - c.wide := by rw [Int.sub_mul, Int.one_mul]
  have m2 : (rowI c i + 1) * c.wide = rowI c i * c.wide + c.wide := by rw [Int.add_mul, Int.one_mul]
  have m3 : 0 < colI c i → 1 ≤ i := fun h => by
    have : 0 ≤ rowI c i * c.wide := Int.mul_nonneg hc3 (by omega)
    omega
  have m4 : 0 < rowI c i → W c ≤ i := fun h => by
    have := Int.mul_le_mul_of_nonneg_right (show (1 : Int) ≤ rowI c i by omega) (show (0 : Int) ≤ c.wide by omega)
    omega
  have t1 : Rf c f (colI c i - 1, rowI c i) ↔ (0 < colI c i ∧ f (i - 1) = true) := by
    by_cases h : 0 < colI c i
    · have := m3 h
      rw [key _ _ (i - 1) (by omega) (by omega) (by omega)]; simp [h]
    · exact ⟨fun hr => absurd hr (out _ _ (by omega)), fun hr => absurd hr.1 h⟩
  have t2 : Rf c f (colI c i + 1, rowI c i) ↔ (colI c i < c.wide - 1 ∧ f (i + 1) = true) := by
    by_cases h : colI c i < c.wide - 1
    · rw [key _ _ (i + 1) (by omega) (by omega) (by omega)]; simp [h]
    · exact ⟨fun hr => absurd hr (out _ _ (by omega)), fun hr => absurd hr.1 h⟩
  have t3 : Rf c f (colI c i, rowI c i - 1) ↔ (0 < rowI c i ∧ f (i - W c) = true) := by
    by_cases h : 0 < rowI c i
    · have := m4 h
      rw [key _ _ (i - W c) (by omega) (by omega) (by omega)]; simp [h]
    · exact ⟨fun hr => absurd hr (out _ _ (by omega)), fun hr => absurd hr.1 h⟩
  have t4 : Rf c f (colI c i, rowI c i + 1) ↔ (rowI c i < c.high - 1 ∧ f (i + W c) = true) := by
    by_cases h : rowI c i < c.high - 1
    · rw [key _ _ (i + W c) (by omega) (by omega) (by omega)]; simp [h]
    · exact ⟨fun hr => absurd hr (out _ _ (by omega)), fun hr => absurd hr.1 h⟩
  simp only [Bool.or_eq_true, Bool.and_eq_true, decide_eq_true_eq, List.mem_cons, List.not_mem_nil, or_false]
  constructor
  · rintro (((h | h) | h) | h)
    · exact ⟨_, .inl rfl, t1.2 h⟩
    · exact ⟨_, .inr (.inl rfl), t2.2 h⟩
    · exact ⟨_, .inr (.inr (.inl rfl)), t3.2 h⟩
    · exact ⟨_, .inr (.inr (.inr rfl)), t4.2 h⟩
  · rintro ⟨n, (rfl | rfl | rfl | rfl), hr⟩
    · exact .inl (.inl (.inl (t1.1 hr)))
    · exact .inl (.inl (.inr (t2.1 hr)))
    · exact .inl (.inr (t3.1 hr))
    · exact .inr (t4.1 hr)
/-! How many have been reached. -/
def manyF (f : Nat → Bool) (n : Nat) : Nat := (List.range n).countP f
def setF (f : Nat → Bool) (i : Nat) : Nat → Bool := fun j => if j = i then true else f j
theorem manyF_succ (f : Nat → Bool) (n : Nat) : manyF f (n + 1) = manyF f n + (if f n = true then 1 else 0) := by
  unfold manyF; rw [List.range_succ, List.countP_append, List.countP_singleton]
theorem manyF_congr {f g : Nat → Bool} : ∀ {n : Nat}, (∀ k, k < n → f k = g k) → manyF f n = manyF g n
  | 0, _ => rfl
  | n + 1, h => by rw [manyF_succ, manyF_succ, manyF_congr fun k hk => h k (by omega), h n (by omega)]
theorem manyF_set {f : Nat → Bool} {i : Nat} (hf : f i = false) : ∀ {n : Nat}, i < n → manyF (setF f i) n = manyF f n + 1
  | n + 1, h => by
    rw [manyF_succ, manyF_succ]
    by_cases e : i = n
    · subst e
      rw [manyF_congr (f := setF f i) (g := f) fun k hk => by unfold setF; rw [if_neg (by omega)], hf]
      simp [setF]
    · rw [manyF_set hf (by omega)]
      have : setF f i n = f n := by unfold setF; rw [if_neg (by omega)]
      rw [this]; omega
theorem manyF_le (f : Nat → Bool) : ∀ n, manyF f n ≤ n
  | 0 => Nat.le_refl _
  | n + 1 => by rw [manyF_succ]; have := manyF_le f n; split <;> omega
theorem manyF_zero {f : Nat → Bool} : ∀ {n : Nat}, manyF f n = 0 → ∀ k, k < n → f k = false
  | n + 1, h, k, hk => by
    rw [manyF_succ] at h
    by_cases e : k = n
    · subst e
      cases hf : f k with
      | false => rfl
      | true => rw [hf] at h; simp at h
    · exact manyF_zero (n := n) (by omega) k (by omega)
theorem manyF_none (n : Nat) : manyF (fun _ => false) n = 0 := by unfold manyF; simp
theorem manyF_mono {f g : Nat → Bool} : ∀ {n : Nat}, (∀ k, k < n → f k = true → g k = true) → manyF f n ≤ manyF g n
  | 0, _ => Nat.le_refl _
  | n + 1, h => by
    rw [manyF_succ, manyF_succ]
    have h1 := manyF_mono (n := n) fun k hk => h k (by omega)
    have h2 := h n (by omega)
    by_cases hf : f n = true
    · rw [if_pos hf, if_pos (h2 hf)]; omega
    · rw [if_neg hf]; omega
theorem manyF_eq {f g : Nat → Bool} : ∀ {n : Nat}, (∀ k, k < n → f k = true → g k = true) → (manyF f n = manyF g n ↔ ∀ k, k < n → g k = true → f k = true)
  | 0, _ => ⟨fun _ k hk => by omega, fun _ => rfl⟩
  | n + 1, h => by
    have h1 := manyF_mono (n := n) fun k hk => h k (by omega)
    have ih := manyF_eq (n := n) fun k hk => h k (by omega)
    rw [manyF_succ, manyF_succ]
    constructor
    · intro e k hk hg
      by_cases hn : k = n
      · subst hn
        rw [if_pos hg] at e
        by_cases hf : f k = true
        · exact hf
        · rw [if_neg hf] at e; omega
      · refine ih.1 ?_ k (by omega) hg
        by_cases hf : f n = true
        · rw [if_pos hf, if_pos (h n (by omega) hf)] at e; omega
        · rw [if_neg hf] at e
          split at e <;> omega
    · intro hall
      rw [ih.2 fun k hk => hall k (by omega)]
      by_cases hg : g n = true
      · rw [if_pos hg, if_pos (hall n (by omega) hg)]
      · rw [if_neg hg, if_neg (fun hf => hg (h n (by omega) hf))]
theorem cells_many (c : Cut) (k : Int) : cellsS c k = manyF (fun i => atI c i == k) c.piece.length := by
  unfold cellsS
  have : ∀ n, n ≤ c.piece.length → (c.piece.take n).countP (fun x => x == k) = manyF (fun i => atI c i == k) n := by
    intro n
    induction n with
    | zero => intro _; rfl
    | succ n ih =>
      intro hn
      rw [take_next (by omega), List.countP_append, List.countP_singleton, manyF_succ, ih (by omega)]
      rfl
  rw [← this _ (Nat.le_refl _), List.take_of_length_le (Nat.le_refl _)]
/-! The search's states. -/
structure Srch (c : Cut) (k : Int) (f : Nat → Bool) : Prop where
  own : ∀ i, i < c.piece.length → f i = true → atI c i = k
  one : ∀ i j, i < c.piece.length → j < c.piece.length → f i = true → f j = true → Reach c (cellOf c i) (cellOf c j)
theorem Srch.nil {c : Cut} {k : Int} : Srch c k (fun _ => false) := ⟨fun _ _ h => by simp at h, fun _ _ _ _ h => by simp at h⟩
theorem Srch.add {c : Cut} (ok : OkC c) {k : Int} {f : Nat → Bool} (h : Srch c k f) {i : Nat} (hi : i < c.piece.length) (ha : atI c i = k) (hn : manyF f c.piece.length = 0 ∨ nextS c f i = true) : Srch c k (setF f i) := by
  have hown : ∀ j, j < c.piece.length → setF f i j = true → atI c j = k := fun j hj hf => by
    unfold setF at hf
    by_cases e : j = i
    · subst e; exact ha
    · rw [if_neg e] at hf; exact h.own j hj hf
  refine ⟨hown, fun a b ha' hb' hfa hfb => ?_⟩
  have to_ : ∀ a, a < c.piece.length → setF f i a = true → Reach c (cellOf c i) (cellOf c a) := fun a ha2 hfa => by
    by_cases e : a = i
    · subst e; exact .refl _
    · have hfa' : f a = true := by unfold setF at hfa; rw [if_neg e] at hfa; exact hfa
      rcases hn with h0 | hn
      · rw [manyF_zero h0 a ha2] at hfa'; cases hfa'
      · obtain ⟨n, hna, j, hj, hfj, rfl⟩ := (next_iff ok hi).1 hn
        refine (Reach.one hna ?_).trans (h.one j a hj ha2 hfj hfa')
        rw [show at2 c (cellOf c j).1 (cellOf c j).2 = atI c j from ok.at_cell hj, show at2 c (cellOf c i).1 (cellOf c i).2 = atI c i from ok.at_cell hi, h.own j hj hfj, ha]
  exact (to_ a ha' hfa).symm.trans (to_ b hb' hfb)
/-- When no cell can be added any more, the piece is whole just if all its cells have been reached. -/
theorem Srch.whole {c : Cut} (ok : OkC c) {k : Int} {f : Nat → Bool} (h : Srch c k f) (hst : ∀ i, i < c.piece.length → atI c i = k → f i = false → manyF f c.piece.length ≠ 0 ∧ nextS c f i = false) : manyF f c.piece.length = cellsS c k ↔ Whole c k := by
  rw [cells_many, manyF_eq fun i hi hf => by simp [h.own i hi hf]]
  have hg : Grow c k (Rf c f) := ⟨fun p hp => by
    obtain ⟨j, hj, hf, rfl⟩ := hp
    exact ⟨(cell_in ok hj).1, by rw [(cell_in ok hj).2]; exact h.own j hj hf⟩, fun p q hp hq => by
    obtain ⟨i, hi, hfi, rfl⟩ := hp
    obtain ⟨j, hj, hfj, rfl⟩ := hq
    exact h.one i j hi hj hfi hfj⟩
  rw [hg.whole ok]
  · constructor
    · intro hall p hp e
      obtain ⟨j, hj, rfl, -⟩ := idx_of ok hp
      rw [(cell_in ok hj).2] at e
      exact (Rf_cell ok hj).2 (hall j hj (by simp [e]))
    · intro hall i hi hk
      refine (Rf_cell ok hi).1 (hall _ (cell_in ok hi).1 ?_)
      rw [(cell_in ok hi).2]; simpa using hk
  · rintro ⟨p, hp, e⟩
    obtain ⟨j, hj, rfl, -⟩ := idx_of ok hp
    rw [(cell_in ok hj).2] at e
    cases hf : f j with
    | true => exact ⟨_, (Rf_cell ok hj).2 hf⟩
    | false =>
      have h0 := (hst j hj e hf).1
      refine Classical.byContradiction fun hne => h0 ?_
      have : ∀ i, i < c.piece.length → f i = false := fun i hi => by
        cases hfi : f i with
        | false => rfl
        | true => exact absurd ⟨_, (Rf_cell ok hi).2 hfi⟩ hne
      rw [manyF_congr (g := fun _ => false) this, manyF_none]
  · intro p n hp e hn hr
    obtain ⟨j, hj, rfl, -⟩ := idx_of ok hp
    rw [(cell_in ok hj).2] at e
    refine (Rf_cell ok hj).2 ?_
    cases hf : f j with
    | true => rfl
    | false =>
      have h1 := (hst j hj e hf).2
      rw [(next_iff ok hj).2 ⟨n, hn, hr⟩] at h1
      cases h1
end Go.Proofs.Ytjlicbdnppodgaa
