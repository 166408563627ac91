import Derived.Test.YtbhkglokdomajaaDoorProof
namespace Go.Proofs.YtbhkglokdomajaaDoor
/-! Plain facts on the best plan, and on what wears less. -/
theorem fm_mem {L : List (Option Pl)} {x : Pl} (h : fm L = some x) : some x ∈ L := by
  induction L generalizing x with
  | nil => cases h
  | cons y L ih =>
    rw [fm_cons] at h
    cases hf : fm L with
    | none => rw [hf, better_none] at h; rw [h]; exact List.mem_cons_self ..
    | some z =>
      rw [hf] at h
      cases y with
      | none => rw [none_better] at h; rw [← h]; exact List.mem_cons_of_mem _ (ih hf)
      | some y =>
        simp only [better] at h
        split at h
        · rw [← h]; exact List.mem_cons_of_mem _ (ih hf)
        · rw [h]; exact List.mem_cons_self ..
theorem fm_le {L : List (Option Pl)} {x q : Pl} (h : fm L = some x) (hq : some q ∈ L) : x.2 ≤ q.2 := by
  induction L generalizing x with
  | nil => cases hq
  | cons y L ih =>
    rw [fm_cons] at h
    rcases List.mem_cons.1 hq with rfl | hq
    · cases hf : fm L with
      | none => rw [hf, better_none] at h; injection h with h; subst h; omega
      | some z =>
        rw [hf] at h
        simp only [better] at h
        split at h <;> (injection h with h; subst h; omega)
    · cases hf : fm L with
      | none =>
        exfalso
        have : ∀ (M : List (Option Pl)), some q ∈ M → fm M ≠ none := by
          intro M hM
          induction M with
          | nil => cases hM
          | cons a M ihM =>
            rw [fm_cons]
            rcases List.mem_cons.1 hM with rfl | hM
            · cases fm M with
              | none => rw [better_none]; simp
              | some z => simp only [better]; split <;> simp
            · have := ihM hM
              cases hm : fm M with
              | none => exact absurd hm this
              | some z =>
                cases a with
                | none => rw [none_better]; simp
                | some a => simp only [better]; split <;> simp
        exact this L hq hf
      | some z =>
        have h1 := ih hf hq
        rw [hf] at h
        cases y with
        | none => rw [none_better] at h; injection h with h; subst h; exact h1
        | some y =>
          simp only [better] at h
          split at h
          · injection h with h; subst h; exact h1
          · injection h with h; subst h; omega
theorem fm_some {L : List (Option Pl)} {q : Pl} (hq : some q ∈ L) : ∃ x, fm L = some x ∧ x.2 ≤ q.2 := by
  cases hf : fm L with
  | some x => exact ⟨x, rfl, fm_le hf hq⟩
  | none =>
    exfalso
    induction L with
    | nil => cases hq
    | cons a M ihM =>
      rw [fm_cons] at hf
      have hM : fm M = none ∧ a = none := by
        cases hm : fm M with
        | none => rw [hm, better_none] at hf; exact ⟨rfl, hf⟩
        | some z =>
          rw [hm] at hf
          cases a with
          | none => rw [none_better] at hf; cases hf
          | some a => simp only [better] at hf; split at hf <;> cases hf
      rcases List.mem_cons.1 hq with rfl | hq
      · cases hM.2
      · exact ihM hq hM.1
/-- Of those that cost the same the first one is taken. -/
theorem fm_first {R : Pl → Pl → Prop} (refl : ∀ p, R p p) {L : List (Option Pl)} (hL : L.Pairwise (fun a b => ∀ p q, a = some p → b = some q → R p q)) {x q : Pl} (h : fm L = some x) (hq : some q ∈ L) (he : q.2 = x.2) : R x q := by
  induction L generalizing x with
  | nil => cases hq
  | cons y L ih =>
    rw [fm_cons] at h
    rw [List.pairwise_cons] at hL
    rcases List.mem_cons.1 hq with rfl | hq'
    · cases hf : fm L with
      | none => rw [hf, better_none] at h; injection h with h; subst h; exact refl _
      | some z =>
        rw [hf] at h
        simp only [better] at h
        split at h
        · injection h with h; subst h; omega
        · injection h with h; subst h; exact refl _
    · obtain ⟨z, hf, hz⟩ := fm_some hq'
      rw [hf] at h
      cases y with
      | none => rw [none_better] at h; injection h with h; subst h; exact ih hL.2 hf hq' he
      | some y =>
        simp only [better] at h
        split at h
        · injection h with h; subst h; exact ih hL.2 hf hq' he
        · injection h with h; subst h; exact hL.1 _ hq' _ _ rfl rfl
/-- The same, or lesser at the first set that differs. -/
def lexS : List Nat → List Nat → Bool
  | a :: p, b :: q => if a = b then lexS p q else decide (a < b)
  | _, _ => true
theorem lexS_refl (p : List Nat) : lexS p p = true := by
  induction p with
  | nil => rfl
  | cons a p ih => unfold lexS; rw [if_pos rfl]; exact ih
theorem plans_lex : ∀ l : List Nat, (plansS l).Pairwise (fun p q => lexS p q = true)
  | [] => by unfold plansS; exact List.pairwise_singleton _ _
  | n :: l => by
    unfold plansS
    rw [List.pairwise_flatMap]
    refine ⟨fun s _ => ?_, ?_⟩
    · rw [List.pairwise_map]
      refine (plans_lex l).imp fun {p q} h => ?_
      unfold lexS; rw [if_pos rfl]; exact h
    · refine List.pairwise_lt_range.imp fun {s s'} h x hx y hy => ?_
      obtain ⟨p, -, rfl⟩ := List.mem_map.1 hx
      obtain ⟨q, -, rfl⟩ := List.mem_map.1 hy
      unfold lexS; rw [if_neg (by omega)]; simpa using h
theorem mem_plans : ∀ (l : List Nat) (p : List Nat), p ∈ plansS l ↔ p.length = l.length ∧ ∀ i, i < l.length → p.getD i 0 < l.getD i 0
  | [], p => by simp [plansS]
  | n :: l, [] => by simp [plansS]
  | n :: l, s :: p => by
    simp only [plansS, List.mem_flatMap, List.mem_range, List.mem_map]
    constructor
    · rintro ⟨s', hs', q, hq, e⟩
      injection e with e1 e2
      subst e1 e2
      obtain ⟨h1, h2⟩ := (mem_plans l q).1 hq
      refine ⟨by simp [h1], fun i hi => ?_⟩
      cases i with
      | zero => simpa using hs'
      | succ i => simpa using h2 i (by simpa using hi)
    · rintro ⟨h1, h2⟩
      refine ⟨s, by simpa using h2 0 (by simp), p, (mem_plans l p).2 ⟨by simpa using h1, fun i hi => ?_⟩, rfl⟩
      have := h2 (i + 1) (by simpa using hi)
      simpa using this
/-- What a plan costs, where it is good. -/
theorem eval_plan (bl : List Blade) (bound : Int) (cost : Nat → Int) : ∀ (l : List (Nat × Stint)) (r : Nat → Int) (p : List Nat) {q : Pl}, p.length = l.length → evalS bl bound cost l r p = some q → q = (p, sumN cost p) := by
  intro l r p q hl h
  rw [eval_bad bl bound cost l r p 0 hl] at h
  split at h
  · cases h
  · injection h with h; exact h.symm
section
variable {bl : List Blade} {bound : Int} {cost : Nat → Int}
theorem best_min {l : List (Nat × Stint)} {r : Nat → Int} {x : Pl} (h : bestS bl bound cost l r = some x) {p : List Nat} (hp : p ∈ plansS (l.map (·.1))) {c : Int} (he : evalS bl bound cost l r p = some (p, c)) : x.2 ≤ c ∧ (x.2 = c → lexS x.1 p = true) := by
  rw [← best_all] at h
  have hm : some (p, c) ∈ (plansS (l.map (·.1))).map (evalS bl bound cost l r) := List.mem_map.2 ⟨p, hp, he⟩
  refine ⟨fm_le h hm, fun e => ?_⟩
  refine fm_first (R := fun a b => lexS a.1 b.1 = true) (fun _ => lexS_refl _) ?_ h hm e.symm
  rw [List.pairwise_map]
  refine List.Pairwise.imp_of_mem (fun {a b} ha hb hab p' q' h1 h2 => ?_) (plans_lex _)
  have la := plans_len _ _ ha
  have lb := plans_len _ _ hb
  rw [List.length_map] at la lb
  have e1 := eval_plan bl bound cost l r a la h1
  have e2 := eval_plan bl bound cost l r b lb h2
  subst e1 e2
  exact hab
theorem best_some {l : List (Nat × Stint)} {r : Nat → Int} {p : List Nat} (hp : p ∈ plansS (l.map (·.1))) {c : Int} (he : evalS bl bound cost l r p = some (p, c)) : ∃ x, bestS bl bound cost l r = some x ∧ x.2 ≤ c := by
  have hm : some (p, c) ∈ (plansS (l.map (·.1))).map (evalS bl bound cost l r) := List.mem_map.2 ⟨p, hp, he⟩
  obtain ⟨x, h1, h2⟩ := fm_some hm
  rw [best_all] at h1
  exact ⟨x, h1, h2⟩
theorem best_is {l : List (Nat × Stint)} {r : Nat → Int} {x : Pl} (h : bestS bl bound cost l r = some x) : x.1 ∈ plansS (l.map (·.1)) ∧ evalS bl bound cost l r x.1 = some x ∧ x.2 = sumN cost x.1 := by
  rw [← best_all] at h
  obtain ⟨p, hp, he⟩ := List.mem_map.1 (fm_mem h)
  have := plans_len _ _ hp
  rw [List.length_map] at this
  have e := eval_plan bl bound cost l r p this he
  subst e
  exact ⟨hp, he, rfl⟩
end
/-- Less wear: in the same stints, whatever has run no longer can be off too far only if it was. -/
def LessBad (bl : List Blade) (bound : Int) (t : Stint) (bl' : List Blade) (bound' : Int) (t' : Stint) : Prop :=
  t'.n ≤ t.n ∧ 0 ≤ t'.n ∧ ∀ x x' : Int, 0 ≤ x' → x' ≤ x → (badX bl bound t x).isNone → (badX bl' bound' t' x').isNone
theorem rows_less {bl bl' : List Blade} {bound bound' : Int} : ∀ (l l' : List Stint) (i i' a a' : Nat) (x x' : Int) (c c' : Nat), l.length = l'.length → (∀ k, k < l.length → LessBad bl bound (l.getD k ⟨0, 0⟩) bl' bound' (l'.getD k ⟨0, 0⟩)) → 0 ≤ x → 0 ≤ x' → (c' < c ∨ c' = c ∧ x' ≤ x) →
    c' + (proofGo bl' bound' l' i' a' x').length ≤ c + (proofGo bl bound l i a x).length
  | [], [], i, i', a, a', x, x', c, c', _, _, _, _, h => by simp [proofGo]; omega
  | t :: l, t' :: l', i, i', a, a', x, x', c, c', hl, hb, hx, hx', h => by
    obtain ⟨h1, h2, h3⟩ : LessBad bl bound t bl' bound' t' := hb 0 (by simp)
    have hb' : ∀ k, k < l.length → LessBad bl bound (l.getD k ⟨0, 0⟩) bl' bound' (l'.getD k ⟨0, 0⟩) := fun k hk => by
      have := hb (k + 1) (by simpa using hk)
      simpa using this
    have hl' : l.length = l'.length := by simpa using hl
    unfold proofGo
    have h4 := h3 (x + t.n) (x' + t'.n) (by omega)
    cases e : badX bl bound t (x + t.n) <;> cases e' : badX bl' bound' t' (x' + t'.n) <;> dsimp only
    · exact rows_less l l' _ _ _ _ _ _ c c' hl' hb' (by omega) (by omega) (by omega)
    · have hlt : c' < c := by
        rcases h with h | ⟨-, h⟩
        · exact h
        · have := h4 (by omega) (by rw [e]; rfl)
          rw [e'] at this; cases this
      have := rows_less l l' (i + 1) (i' + 1) a i' (x + t.n) t'.n c (c' + 1) hl' hb' (by omega) h2 (by omega)
      rw [List.length_cons]; omega
    · have := rows_less l l' (i + 1) (i' + 1) i a' t.n (x' + t'.n) (c + 1) c' hl' hb' (by omega) (by omega) (by omega)
      rw [List.length_cons]; omega
    · have := rows_less l l' (i + 1) (i' + 1) i i' t.n t'.n (c + 1) (c' + 1) hl' hb' (by omega) h2 (by omega)
      rw [List.length_cons, List.length_cons]; omega
end Go.Proofs.YtbhkglokdomajaaDoor
