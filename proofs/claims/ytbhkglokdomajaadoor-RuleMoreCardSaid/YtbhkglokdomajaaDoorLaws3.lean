import Derived.Test.YtbhkglokdomajaaDoorLaws2
namespace Go.Proofs.YtbhkglokdomajaaDoor
open Go.RowKit
/-! Plain facts: the rows of the proof. -/
section
variable {bl : List Blade} {bound : Int} {l : List Stint}
theorem stuckB_at {a b i k : Nat} (h : stuckB bl bound l a b k = false) (h1 : a ≤ i) (h2 : i ≤ b) : ¬ bound + (l.getD i ⟨0, 0⟩).more < worstS (bl.getD k ⟨0, 0, 0, 0⟩) (runSum l a (i + 1)) := by
  unfold stuckB at h
  rw [List.any_eq_false] at h
  have := h (i - a) (List.mem_range.2 (by omega))
  rw [show a + (i - a) = i by omega] at this
  simpa using this
theorem stuckS_at {a b i : Nat} (h : stuckS bl bound l a b = none) (h1 : a ≤ i) (h2 : i ≤ b) {k : Nat} (hk : k < bl.length) : ¬ bound + (l.getD i ⟨0, 0⟩).more < worstS (bl.getD k ⟨0, 0, 0, 0⟩) (runSum l a (i + 1)) :=
  stuckB_at (stuckS_none.1 h k hk) h1 h2
theorem stuckS_some {a b k : Nat} (h : stuckS bl bound l a b = some k) : k < bl.length ∧ stuckB bl bound l a b k = true := by
  unfold stuckS at h
  exact ⟨List.mem_range.1 (List.mem_of_find?_eq_some h), List.find?_some h⟩
/-- Rows of the proof, the first one from some stint on. -/
def RowsOk (bl : List Blade) (bound : Int) (l : List Stint) : Nat → List (Nat × Nat × Nat) → Prop
  | a, [] => a < l.length → stuckS bl bound l a (l.length - 1) = none
  | a, (a', b, k) :: rs => a' = a ∧ a < b ∧ b < l.length ∧ stuckS bl bound l a (b - 1) = none ∧ stuckS bl bound l a b = some k ∧ RowsOk bl bound l b rs
theorem ref_rows (hal : alonesS bl bound l = true) : ∀ (f to from_ : Nat), from_ < to → to + f = l.length → stuckS bl bound l from_ (to - 1) = none → RowsOk bl bound l from_ (refGo bl bound l f to from_)
  | 0, to, from_, h1, h2, h3 => by
    unfold refGo RowsOk
    intro _
    rw [show l.length = to by omega]; exact h3
  | f + 1, to, from_, h1, h2, h3 => by
    unfold refGo
    cases hs : stuckS bl bound l from_ to with
    | none => exact ref_rows hal f (to + 1) from_ (by omega) (by omega) (by rw [show to + 1 - 1 = to by omega]; exact hs)
    | some k => exact ⟨rfl, h1, by omega, h3, hs, ref_rows hal f (to + 1) to (by omega) (by omega) (by rw [show to + 1 - 1 = to by omega, stuckS_self bl bound l (by omega)]; exact alone_at hal (by omega))⟩
theorem rows_ok (hal : alonesS bl bound l = true) : RowsOk bl bound l 0 (proofS bl bound l) := by
  rw [proof_same bl bound l hal]
  match l, hal with
  | [], _ => intro h; simp at h
  | t :: l', hal => exact ref_rows hal _ 1 0 (by omega) (by simp; omega) (by rw [stuckS_self bl bound (t :: l') (by simp)]; exact alone_at hal (by simp))
/-- A row, by its number. -/
theorem RowsOk.at : ∀ {rs : List (Nat × Nat × Nat)} {a : Nat}, RowsOk bl bound l a rs → ∀ i (hi : i < rs.length), (rs[i]).1 = (if i = 0 then a else (rs.getD (i - 1) (0, 0, 0)).2.1) ∧ (rs[i]).1 < (rs[i]).2.1 ∧ (rs[i]).2.1 < l.length ∧ stuckS bl bound l (rs[i]).1 ((rs[i]).2.1 - 1) = none ∧ stuckS bl bound l (rs[i]).1 (rs[i]).2.1 = some (rs[i]).2.2
  | (a', b, k) :: rs, a, ⟨h1, h2, h3, h4, h5, h6⟩, 0, _ => by subst h1; exact ⟨rfl, h2, h3, h4, h5⟩
  | (a', b, k) :: rs, a, ⟨h1, h2, h3, h4, h5, h6⟩, i + 1, hi => by
    obtain ⟨g1, g2⟩ := RowsOk.at h6 i (by simpa using hi)
    rw [List.getElem_cons_succ]
    refine ⟨?_, g2⟩
    rw [g1]
    cases i with
    | zero => rfl
    | succ i => simp
/-- A blade that is stuck in a row is so at its end, and not before. -/
theorem row_first {a b k i : Nat} (h1 : stuckS bl bound l a (b - 1) = none) (h2 : stuckS bl bound l a b = some k) (hab : a < b) (ha : a ≤ i) (hb : i ≤ b) : (bound + (l.getD i ⟨0, 0⟩).more < worstS (bl.getD k ⟨0, 0, 0, 0⟩) (runSum l a (i + 1))) ↔ i = b := by
  obtain ⟨hk, hs⟩ := stuckS_some h2
  constructor
  · intro h
    by_cases e : i = b
    · exact e
    · exact absurd h (stuckS_at h1 ha (by omega) hk)
  · rintro rfl
    obtain ⟨m, rfl⟩ : ∃ m, i = m + 1 := ⟨i - 1, by omega⟩
    rw [stuckB_succ bl bound l (by omega) k, stuckS_none.1 (by simpa using h1) k hk, Bool.false_or] at hs
    simpa using hs
theorem RowsOk.later : ∀ {rs : List (Nat × Nat × Nat)} {a : Nat}, RowsOk bl bound l a rs → ∀ r ∈ rs, a < r.2.1
  | (a', b, k) :: rs, a, ⟨h1, h2, h3, h4, h5, h6⟩, r, hr => by
    rcases List.mem_cons.1 hr with rfl | hr
    · exact h2
    · have := RowsOk.later h6 r hr; omega
/-- To bend all blades before the last stint of each row is good. -/
theorem rows_good (hal : alonesS bl bound l = true) {full : Nat} (hf : ∀ k, k < bl.length → has full k = true) (sets : List Nat) (hlen : sets.length = l.length) : ∀ (m i a : Nat) (rs : List (Nat × Nat × Nat)) (r : Nat → Int), i + m = l.length → RowsOk bl bound l a rs → a ≤ i → (∀ x ∈ rs, i ≤ x.2.1) → (∀ j, i ≤ j → j < l.length → sets.getD j 0 = if (rs.map (·.2.1)).contains j then full else 0) → (∀ k, k < bl.length → r k = runSum l a i) →
    badP bl bound (l.drop i) r (sets.drop i) i = none
  | 0, i, a, rs, r, hm, _, _, _, _, _ => by
    rw [List.drop_eq_nil_of_le (by omega)]
    cases sets.drop i <;> rfl
  | m + 1, i, a, rs, r, hm, hrs, ha, hge, hs, hr => by
    have hi : i < l.length := by omega
    have e2 : sets.drop i = sets.getD i 0 :: sets.drop (i + 1) := by
      rw [List.drop_eq_getElem_cons (by omega), List.getD_eq_getElem?_getD, List.getElem?_eq_getElem (by omega)]; rfl
    rw [drop_cons hi, e2]
    have hset := hs i (Nat.le_refl _) hi
    unfold badP
    by_cases hc : (rs.map (·.2.1)).contains i = true
    · -- a row ends here: all blades are bent
      rw [if_pos hc] at hset
      obtain ⟨⟨a', b, k⟩, rs', rfl, rfl⟩ : ∃ x rs', rs = x :: rs' ∧ x.2.1 = i := by
        match rs, hrs, hge, hc with
        | (a', b, k) :: rs', hrs, hge, hc =>
          by_cases e : b = i
          · exact ⟨_, _, rfl, e⟩
          · have h1 := hge _ (List.mem_cons_self ..)
            simp only [List.map_cons, List.contains_cons, Bool.or_eq_true, beq_iff_eq] at hc
            rcases hc with hc | hc
            · exact absurd hc.symm e
            · have h2 : i ∈ rs'.map (·.2.1) := by simpa using hc
              obtain ⟨x, hx, e2⟩ := List.mem_map.1 h2
              have h3 := RowsOk.later hrs.2.2.2.2.2 x hx
              simp only at h1
              omega
      dsimp only at hset hi hm ha hr hs ⊢
      have h1 : badS bl (bound + (l.getD b ⟨0, 0⟩).more) (runR bl.length r (sets.getD b 0) (l.getD b ⟨0, 0⟩).n) = none := by
        rw [← alone_at hal hi]
        refine badS_congr fun j hj => ?_
        unfold runR
        rw [hset, if_pos (hf j hj), if_pos hj, Int.zero_add]
      rw [h1]
      have hrs' := hrs.2.2.2.2.2
      refine rows_good hal hf sets hlen m (b + 1) b rs' _ (by omega) hrs' (by omega) (fun x hx => by have := RowsOk.later hrs' x hx; omega) (fun j h1 h2 => ?_) (fun j hj => ?_)
      · rw [hs j (by omega) h2]
        simp only [List.map_cons, List.contains_cons]
        rw [show (j == b) = false by simp; omega, Bool.false_or]
      · unfold runR
        rw [hset, if_pos (hf j hj), if_pos hj, runSum_succ (Nat.le_refl _) hi, runSum_self]
    · rw [if_neg hc] at hset
      have hr' : ∀ j, j < bl.length → runR bl.length r (sets.getD i 0) (l.getD i ⟨0, 0⟩).n j = runSum l a (i + 1) := fun j hj => by
        unfold runR
        rw [hset, if_pos hj, runSum_succ ha hi, hr j hj]
        simp [has]
      have h1 : badS bl (bound + (l.getD i ⟨0, 0⟩).more) (runR bl.length r (sets.getD i 0) (l.getD i ⟨0, 0⟩).n) = none := by
        unfold badS
        rw [badTo_none]
        intro j hj
        rw [hr' j hj]
        match rs, hrs, hge, hc with
        | [], hrs, _, _ => exact stuckS_at (hrs (by omega)) ha (by omega) hj
        | (a', b, k) :: rs', hrs, hge, hc =>
          have h2 := hge _ (List.mem_cons_self ..)
          have h3 : b ≠ i := by
            intro e
            refine hc ?_
            simp [e]
          exact stuckS_at hrs.2.2.2.1 ha (by simp only at h2; omega) hj
      rw [h1]
      refine rows_good hal hf sets hlen m (i + 1) a rs _ (by omega) hrs (by omega) (fun x hx => ?_) (fun j h1 h2 => hs j (by omega) h2) hr'
      have h2 := hge x hx
      have h3 : x.2.1 ≠ i := by
        intro e
        refine hc ?_
        have : i ∈ rs.map (·.2.1) := List.mem_map.2 ⟨x, hx, e⟩
        simpa using this
      omega
/-- A good plan bends something within each row. -/
theorem good_stops (hw : Wear bl bl (fun k => k)) {a b k : Nat} (hab : a < b) (hb : b < l.length) (h2 : stuckS bl bound l a b = some k) (h1 : stuckS bl bound l a (b - 1) = none) (hn : ∀ t ∈ l, 0 ≤ t.n) (sets : List Nat) (hlen : sets.length = l.length) (hz : ∀ s, a < s → s ≤ b → sets.getD s 0 = 0) :
    ∀ (m i : Nat) (r : Nat → Int), i + m = l.length → i ≤ b → (∀ j, j < bl.length → 0 ≤ r j) → (a < i → ∀ j, j < bl.length → runSum l a i ≤ r j) → badP bl bound (l.drop i) r (sets.drop i) i ≠ none
  | 0, i, r, hm, hib, _, _ => by omega
  | m + 1, i, r, hm, hib, hr0, hr => by
    have hi : i < l.length := by omega
    have e2 : sets.drop i = sets.getD i 0 :: sets.drop (i + 1) := by
      rw [List.drop_eq_getElem_cons (by omega), List.getD_eq_getElem?_getD, List.getElem?_eq_getElem (by omega)]; rfl
    rw [drop_cons hi, e2]
    unfold badP
    have ht : 0 ≤ (l.getD i ⟨0, 0⟩).n := by
      rw [List.getD_eq_getElem?_getD, List.getElem?_eq_getElem hi]
      exact hn _ (List.getElem_mem hi)
    have hr0' : ∀ j, j < bl.length → (l.getD i ⟨0, 0⟩).n ≤ runR bl.length r (sets.getD i 0) (l.getD i ⟨0, 0⟩).n j := fun j hj => by
      unfold runR
      rw [if_pos hj]
      have := hr0 j hj
      split <;> omega
    have hr' : a < i + 1 → ∀ j, j < bl.length → runSum l a (i + 1) ≤ runR bl.length r (sets.getD i 0) (l.getD i ⟨0, 0⟩).n j := fun hai j hj => by
      rw [runSum_succ (by omega) hi]
      by_cases e : a = i
      · subst e
        rw [runSum_self, Int.zero_add]; exact hr0' j hj
      · have := hr (by omega) j hj
        unfold runR
        rw [hz i (by omega) hib, if_pos hj]
        have e0 : has 0 j = false := by simp [has]
        rw [e0, if_neg (by simp)]
        omega
    by_cases e : i = b
    · subst e
      have hk := stuckS_some h2
      have h3 := (row_first h1 h2 hab (Nat.le_of_lt hab) (Nat.le_refl _)).2 rfl
      have h4 : badS bl (bound + (l.getD i ⟨0, 0⟩).more) (runR bl.length r (sets.getD i 0) (l.getD i ⟨0, 0⟩).n) ≠ none := by
        intro hnone
        unfold badS at hnone
        rw [badTo_none] at hnone
        have h5 := hnone k hk.1
        have hsum : 0 ≤ runSum l a (i + 1) := by
          have : ∀ j, a ≤ j → j ≤ l.length → 0 ≤ runSum l a j := by
            intro j hj hjl
            induction j with
            | zero => rw [show a = 0 by omega, runSum_self]; exact Int.le_refl _
            | succ j ih =>
              by_cases e : a = j + 1
              · rw [← e, runSum_self]; exact Int.le_refl _
              · rw [runSum_succ (by omega) (by omega)]
                have h6 := ih (by omega) (by omega)
                have h7 : 0 ≤ (l.getD j ⟨0, 0⟩).n := by
                  rw [List.getD_eq_getElem?_getD, List.getElem?_eq_getElem (by omega)]
                  exact hn _ (List.getElem_mem (by omega))
                omega
          exact this _ (by omega) (by omega)
        have h6 := worst_mono (hw.fh k hk.1) (hw.wh k hk.1).1 (hw.wh k hk.1).2 hsum (hr' (by omega) k hk.1)
        omega
      cases hc : badS bl (bound + (l.getD i ⟨0, 0⟩).more) (runR bl.length r (sets.getD i 0) (l.getD i ⟨0, 0⟩).n) with
      | none => exact absurd hc h4
      | some x => simp
    · cases hc : badS bl (bound + (l.getD i ⟨0, 0⟩).more) (runR bl.length r (sets.getD i 0) (l.getD i ⟨0, 0⟩).n) with
      | some x => simp
      | none => exact good_stops hw hab hb h2 h1 hn sets hlen hz m (i + 1) _ (by omega) (by omega) (fun j hj => by have := hr0' j hj; omega) hr'
end
/-! How long each blade has run, stint by stint. -/
def ranAt (nb : Nat) (l : List Stint) (sets : List Nat) (r : Nat → Int) : Nat → Nat → Int
  | 0 => r
  | s + 1 => runR nb (ranAt nb l sets r s) (sets.getD s 0) (l.getD s ⟨0, 0⟩).n
theorem ranAt_cons (nb : Nat) (t : Stint) (l : List Stint) (a : Nat) (sets : List Nat) (r : Nat → Int) : ∀ n, ranAt nb (t :: l) (a :: sets) r (n + 1) = ranAt nb l sets (runR nb r a t.n) n
  | 0 => rfl
  | n + 1 => by
    show runR nb (ranAt nb (t :: l) (a :: sets) r (n + 1)) ((a :: sets).getD (n + 1) 0) ((t :: l).getD (n + 1) ⟨0, 0⟩).n = runR nb (ranAt nb l sets (runR nb r a t.n) n) (sets.getD n 0) (l.getD n ⟨0, 0⟩).n
    rw [ranAt_cons nb t l a sets r n]; rfl
theorem bad_ran {bl : List Blade} {bound : Int} : ∀ {l : List Stint} {r : Nat → Int} {sets : List Nat} {i : Nat}, sets.length = l.length → badP bl bound l r sets i = none → ∀ s, s < l.length → badS bl (bound + (l.getD s ⟨0, 0⟩).more) (ranAt bl.length l sets r (s + 1)) = none
  | t :: l, r, a :: sets, i, hl, h, s, hs => by
    unfold badP at h
    cases hb : badS bl (bound + t.more) (runR bl.length r a t.n) with
    | some k => rw [hb] at h; cases h
    | none =>
      rw [hb] at h
      cases s with
      | zero => exact hb
      | succ s =>
        rw [ranAt_cons]
        exact bad_ran (by simpa using hl) h s (by simpa using hs)
theorem bad_some {bl : List Blade} {bound : Int} : ∀ {l : List Stint} {r : Nat → Int} {sets : List Nat} {i a k : Nat}, badP bl bound l r sets i = some (a, k) → i ≤ a ∧ a < i + l.length ∧ k < bl.length
  | t :: l, r, s :: sets, i, a, k, h => by
    unfold badP at h
    cases hb : badS bl (bound + t.more) (runR bl.length r s t.n) with
    | some x =>
      rw [hb] at h
      injection h with h
      injection h with h1 h2
      subst h1 h2
      have := (badTo_some hb).1
      exact ⟨Nat.le_refl _, by simp, this⟩
    | none =>
      rw [hb] at h
      have := bad_some h
      simp only [List.length_cons]; omega
  | [], _, _, _, _, _, h => by unfold badP at h; cases h
  | _ :: _, _, [], _, _, _, h => by unfold badP at h; cases h
theorem ran_bd {nb : Nat} {l : List Stint} {sets : List Nat} (hn : ∀ t ∈ l, 0 ≤ t.n ∧ t.n ≤ 1000) : ∀ (s k : Nat), 0 ≤ ranAt nb l sets (fun _ => 0) s k ∧ ranAt nb l sets (fun _ => 0) s k ≤ 1000 * s
  | 0, k => ⟨Int.le_refl _, by show (0 : Int) ≤ _; omega⟩
  | s + 1, k => by
    have ih := ran_bd (nb := nb) (sets := sets) hn s k
    have ht : 0 ≤ (l.getD s ⟨0, 0⟩).n ∧ (l.getD s ⟨0, 0⟩).n ≤ 1000 := by
      by_cases h : s < l.length
      · rw [List.getD_eq_getElem?_getD, List.getElem?_eq_getElem h]; exact hn _ (List.getElem_mem h)
      · rw [List.getD_eq_getElem?_getD, List.getElem?_eq_none (by omega)]; show (0 : Int) ≤ 0 ∧ (0 : Int) ≤ 1000; omega
    show 0 ≤ runR nb (ranAt nb l sets (fun _ => 0) s) (sets.getD s 0) (l.getD s ⟨0, 0⟩).n k ∧ runR nb (ranAt nb l sets (fun _ => 0) s) (sets.getD s 0) (l.getD s ⟨0, 0⟩).n k ≤ 1000 * ((s + 1 : Nat) : Int)
    unfold runR
    split <;> split <;> omega
end Go.Proofs.YtbhkglokdomajaaDoor
