import Derived.Test.YtkcfpnpejaekjaaDoorFit
namespace Go.Proofs.YtkcfpnpejaekjaaDoor
/-! Plain: what two matchings give is one that has both (Mendelsohn and Dulmage); and that what matched says of two lists of rows is that some truth fits. -/
def agreeN (mu : Nat → Bool) (σ τ : Nat → Nat) : Nat → Nat
  | 0 => 0
  | n + 1 => agreeN mu σ τ n + (if mu (τ n) = true ∧ σ (τ n) = n then 1 else 0)
theorem agreeN_le (mu : Nat → Bool) (σ τ : Nat → Nat) : ∀ n : Nat, agreeN mu σ τ n ≤ n
  | 0 => Nat.le_refl _
  | n + 1 => by
    have := agreeN_le mu σ τ n
    show agreeN mu σ τ n + (if mu (τ n) = true ∧ σ (τ n) = n then 1 else 0) ≤ n + 1
    split <;> omega
theorem agreeN_upd {mu : Nat → Bool} {σ τ : Nat → Nat} {m : Nat} (hm : mu m = true) (hno : ¬ (mu (τ (σ m)) = true ∧ σ (τ (σ m)) = σ m)) : ∀ {n : Nat}, (σ m < n → agreeN mu σ (updF τ (σ m) m) n = agreeN mu σ τ n + 1) ∧ (n ≤ σ m → agreeN mu σ (updF τ (σ m) m) n = agreeN mu σ τ n)
  | 0 => ⟨fun h => by omega, fun _ => rfl⟩
  | n + 1 => by
    obtain ⟨h1, h2⟩ := agreeN_upd hm hno (n := n)
    show (σ m < n + 1 → agreeN mu σ (updF τ (σ m) m) n + (if mu (updF τ (σ m) m n) = true ∧ σ (updF τ (σ m) m n) = n then 1 else 0) = agreeN mu σ τ n + (if mu (τ n) = true ∧ σ (τ n) = n then 1 else 0) + 1) ∧ (n + 1 ≤ σ m → agreeN mu σ (updF τ (σ m) m) n + (if mu (updF τ (σ m) m n) = true ∧ σ (updF τ (σ m) m n) = n then 1 else 0) = agreeN mu σ τ n + (if mu (τ n) = true ∧ σ (τ n) = n then 1 else 0))
    by_cases e : n = σ m
    · have h3 : updF τ (σ m) m n = m := if_pos e
      rw [h3, h2 (by omega), if_pos ⟨hm, e.symm⟩, if_neg (by rw [e]; exact hno)]
      exact ⟨fun _ => by omega, fun h => by omega⟩
    · have h3 : updF τ (σ m) m n = τ n := if_neg e
      rw [h3]
      exact ⟨fun h => by rw [h1 (by omega)]; omega, fun h => by rw [h2 (by omega)]⟩
theorem mend {n N : Nat} {E : Nat → Nat → Prop} {mu : Nat → Bool} {σ : Nat → Nat} (hσ : ∀ k, k < n → mu k = true → σ k < N ∧ E k (σ k)) (hi : ∀ k q, k < n → q < n → mu k = true → mu q = true → σ k = σ q → k = q) :
    ∀ (d : Nat) {τ : Nat → Nat}, N - agreeN mu σ τ N ≤ d → (∀ s, s < N → τ s < n ∧ E (τ s) s) → (∀ s t, s < N → t < N → τ s = τ t → s = t) →
    ∃ τ' : Nat → Nat, (∀ s, s < N → τ' s < n ∧ E (τ' s) s) ∧ (∀ s t, s < N → t < N → τ' s = τ' t → s = t) ∧ ∀ k, k < n → mu k = true → ∃ s, s < N ∧ τ' s = k
  | d, τ, hd, hτ, hj => by
    by_cases hall : ∀ k, k < n → mu k = true → ∃ s, s < N ∧ τ s = k
    · exact ⟨τ, hτ, hj, hall⟩
    · obtain ⟨m, hm, hmu, hun⟩ : ∃ m, m < n ∧ mu m = true ∧ ∀ s, s < N → τ s ≠ m := Classical.byContradiction fun hno => hall fun k hk hmk => Classical.byContradiction fun h => hno ⟨k, hk, hmk, fun s hs e => h ⟨s, hs, e⟩⟩
      obtain ⟨hs1, hE⟩ := hσ m hm hmu
      have hno : ¬ (mu (τ (σ m)) = true ∧ σ (τ (σ m)) = σ m) := fun h => hun (σ m) hs1 (hi _ _ (hτ _ hs1).1 hm h.1 hmu h.2)
      have h1 := (agreeN_upd hmu hno (n := N)).1 hs1
      have h2 := agreeN_le mu σ (updF τ (σ m) m) N
      cases d with
      | zero => omega
      | succ d =>
        refine mend hσ hi d (τ := updF τ (σ m) m) (by omega) (fun s hs => ?_) (fun s t hs ht e => ?_)
        · unfold updF
          by_cases e : s = σ m
          · rw [if_pos e, e]; exact ⟨hm, hE⟩
          · rw [if_neg e]; exact hτ s hs
        · unfold updF at e
          by_cases e1 : s = σ m <;> by_cases e2 : t = σ m
          · rw [e1, e2]
          · rw [if_pos e1, if_neg e2] at e; exact absurd e.symm (hun t ht)
          · rw [if_neg e1, if_pos e2] at e; exact absurd e (hun s hs)
          · rw [if_neg e1, if_neg e2] at e; exact hj s t hs ht e
/-! Numbered among its own. -/
theorem cntF_mono (f : Nat → Nat) (p : Nat) {k : Nat} : ∀ {n : Nat}, k ≤ n → cntF f p k ≤ cntF f p n
  | 0, h => by rw [show k = 0 by omega]; exact Nat.le_refl _
  | n + 1, h => by
    by_cases e : k = n + 1
    · rw [e]; exact Nat.le_refl _
    · have := cntF_mono f p (k := k) (n := n) (by omega)
      show cntF f p k ≤ cntF f p n + _
      omega
theorem rank_inj {f : Nat → Nat} {p k q : Nat} (hk : f k = p) (hq : f q = p) (h : cntF f p k = cntF f p q) : k = q := by
  have hs : ∀ k, f k = p → cntF f p (k + 1) = cntF f p k + 1 := fun k hk => by show cntF f p k + (if f k = p then 1 else 0) = _; rw [if_pos hk]
  rcases Nat.lt_trichotomy k q with h1 | h1 | h1
  · have := cntF_mono f p (k := k + 1) (n := q) h1
    rw [hs k hk] at this; omega
  · exact h1
  · have := cntF_mono f p (k := q + 1) (n := k) h1
    rw [hs q hq] at this; omega
theorem nth_of {f : Nat → Nat} {p j : Nat} : ∀ {n : Nat}, j < cntF f p n → ∃ k, k < n ∧ f k = p ∧ cntF f p k = j
  | n + 1, h => by
    have h : j < cntF f p n + (if f n = p then 1 else 0) := h
    by_cases h1 : j < cntF f p n
    · obtain ⟨k, hk, h2⟩ := nth_of h1
      exact ⟨k, by omega, h2⟩
    · by_cases e : f n = p
      · rw [if_pos e] at h
        exact ⟨n, by omega, e, by omega⟩
      · rw [if_neg e] at h; omega
/-- What of others is a's. -/
structure Slots (n N : Nat) (S : Nat → Nat → Bool) (a : Nat → Option Nat) (own : Nat → Nat) (mu : Nat → Bool) : Prop where
  some : ∀ s, s < N → ∃ m, a (own s) = some m
  cnt : ∀ p m, a p = Option.some m → cntF own p N = m
  must : ∀ k, k < n → (mu k = true ↔ ∀ p, S k p = true → ∃ m, a p = Option.some m)
/-- The pieces that are given to slots. -/
def giveF (own τ f : Nat → Nat) : Nat → Nat → Nat
  | 0 => f
  | s + 1 => updF (giveF own τ f s) (τ s) (own s)
theorem giveF_at {own τ f : Nat → Nat} {N : Nat} (hj : ∀ s t, s < N → t < N → τ s = τ t → s = t) : ∀ n : Nat, n ≤ N → (∀ s, s < n → giveF own τ f n (τ s) = own s) ∧ ∀ k, (∀ s, s < n → τ s ≠ k) → giveF own τ f n k = f k
  | 0, _ => ⟨fun s hs => by omega, fun _ _ => rfl⟩
  | n + 1, h => by
    obtain ⟨h1, h2⟩ := giveF_at hj n (by omega)
    refine ⟨fun s hs => ?_, fun k hk => ?_⟩
    · show updF (giveF own τ f n) (τ n) (own n) (τ s) = own s
      unfold updF
      by_cases e : s = n
      · rw [e, if_pos rfl]
      · rw [if_neg (fun e2 => e (hj s n (by omega) (by omega) e2)), h1 s (by omega)]
    · show updF (giveF own τ f n) (τ n) (own n) k = f k
      unfold updF
      rw [if_neg (fun e => hk n (by omega) e.symm), h2 k fun s hs => hk s (by omega)]
theorem giveF_cnt {own τ f : Nat → Nat} {n N p : Nat} (hj : ∀ s t, s < N → t < N → τ s = τ t → s = t) (hτ : ∀ s, s < N → τ s < n) (hf : ∀ k, k < n → f k ≠ p) : ∀ s : Nat, s ≤ N → cntF (giveF own τ f s) p n = cntF own p s
  | 0, _ => by
    have : ∀ m, m ≤ n → cntF f p m = 0 := fun m => by
      induction m with
      | zero => intro _; rfl
      | succ m ih => intro hm; show cntF f p m + (if f m = p then 1 else 0) = 0; rw [ih (by omega), if_neg (hf m (by omega))]
    exact this n (Nat.le_refl _)
  | s + 1, h => by
    have ih := giveF_cnt (own := own) hj hτ hf s (by omega)
    have h1 := (cntF_upd (giveF own τ f s) (τ s) (own s) p (n := n)).1 (hτ s (by omega))
    have h2 := (giveF_at (own := own) (f := f) hj s (by omega)).2 (τ s) (fun t ht e => by have := hj t s (by omega) (by omega) e; omega)
    rw [h2, if_neg (hf _ (hτ s (by omega)))] at h1
    show cntF (updF (giveF own τ f s) (τ s) (own s)) p n = cntF own p s + (if own s = p then 1 else 0)
    rw [Nat.add_zero] at h1
    rw [h1, ih]
theorem fit_slots {n N : Nat} {S : Nat → Nat → Bool} {a : Nat → Option Nat} {own : Nat → Nat} {mu : Nat → Bool} (h : Slots n N S a own mu) {d : Nat} (hd : a d = none) :
    Fit n S a ↔ (∃ σ : Nat → Nat, (∀ k, k < n → mu k = true → σ k < N ∧ S k (own (σ k)) = true) ∧ ∀ k q, k < n → q < n → mu k = true → mu q = true → σ k = σ q → k = q) ∧ ∃ τ : Nat → Nat, (∀ s, s < N → τ s < n ∧ S (τ s) (own s) = true) ∧ ∀ s t, s < N → t < N → τ s = τ t → s = t := by
  constructor
  · rintro ⟨f, hf⟩
    constructor
    · have hex : ∀ k, ∃ s, (k < n ∧ mu k = true) → s < N ∧ own s = f k ∧ cntF own (f k) s = cntF f (f k) k := fun k => by
        by_cases hk : k < n ∧ mu k = true
        · obtain ⟨m, hm⟩ := (h.must k hk.1).1 hk.2 (f k) (hf.can k hk.1)
          have h1 := h.cnt _ _ hm
          have h2 := hf.adm _ _ hm
          have h3 := cntF_mono f (f k) (k := k + 1) (n := n) hk.1
          have h4 : cntF f (f k) (k + 1) = cntF f (f k) k + 1 := by show cntF f (f k) k + (if f k = f k then 1 else 0) = _; rw [if_pos rfl]
          obtain ⟨s, hs⟩ := nth_of (f := own) (p := f k) (j := cntF f (f k) k) (n := N) (by omega)
          exact ⟨s, fun _ => hs⟩
        · exact ⟨0, fun h => absurd h hk⟩
      obtain ⟨σ, hσ⟩ := Classical.axiomOfChoice hex
      refine ⟨σ, fun k hk hm => ⟨(hσ k ⟨hk, hm⟩).1, by rw [(hσ k ⟨hk, hm⟩).2.1]; exact hf.can k hk⟩, fun k q hk hq hmk hmq e => ?_⟩
      obtain ⟨_, h1, h2⟩ := hσ k ⟨hk, hmk⟩
      obtain ⟨_, h3, h4⟩ := hσ q ⟨hq, hmq⟩
      rw [← e, h1] at h3
      rw [← e, ← h3, h2] at h4
      exact rank_inj rfl h3.symm h4
    · have hex : ∀ s, ∃ k, s < N → k < n ∧ f k = own s ∧ cntF f (own s) k = cntF own (own s) s := fun s => by
        by_cases hs : s < N
        · obtain ⟨m, hm⟩ := h.some s hs
          have h1 := h.cnt _ _ hm
          have h2 := hf.adm _ _ hm
          have h3 := cntF_mono own (own s) (k := s + 1) (n := N) hs
          have h4 : cntF own (own s) (s + 1) = cntF own (own s) s + 1 := by show cntF own (own s) s + (if own s = own s then 1 else 0) = _; rw [if_pos rfl]
          obtain ⟨k, hk⟩ := nth_of (f := f) (p := own s) (j := cntF own (own s) s) (n := n) (by omega)
          exact ⟨k, fun _ => hk⟩
        · exact ⟨0, fun h => absurd h hs⟩
      obtain ⟨τ, hτ⟩ := Classical.axiomOfChoice hex
      refine ⟨τ, fun s hs => ⟨(hτ s hs).1, by rw [← (hτ s hs).2.1]; exact hf.can _ (hτ s hs).1⟩, fun s t hs ht e => ?_⟩
      obtain ⟨_, h1, h2⟩ := hτ s hs
      obtain ⟨_, h3, h4⟩ := hτ t ht
      rw [← e, h1] at h3
      rw [← e, ← h3, h2] at h4
      exact rank_inj rfl h3.symm h4
  · rintro ⟨⟨σ, hσ, hi⟩, τ0, hτ0, hj0⟩
    obtain ⟨τ, hτ, hj, hc⟩ := mend (E := fun k s => S k (own s) = true) hσ hi (N - agreeN mu σ τ0 N) (Nat.le_refl _) hτ0 hj0
    have hex : ∀ k, ∃ p, a p = none ∧ (k < n → mu k = false → S k p = true) := fun k => by
      by_cases hk : k < n ∧ mu k = false
      · refine Classical.byContradiction fun hno => ?_
        have := (h.must k hk.1).2 fun p hp => by
          cases ha : a p with
          | none => exact absurd ⟨p, ha, fun _ _ => hp⟩ hno
          | some m => exact ⟨m, rfl⟩
        rw [hk.2] at this; cases this
      · exact ⟨d, hd, fun h1 h2 => absurd ⟨h1, h2⟩ hk⟩
    obtain ⟨f0, hf0⟩ := Classical.axiomOfChoice hex
    have hat := giveF_at (own := own) (f := f0) hj N (Nat.le_refl _)
    refine ⟨giveF own τ f0 N, fun k hk => ?_, fun p m hp => ?_⟩
    · by_cases hin : ∃ s, s < N ∧ τ s = k
      · obtain ⟨s, hs, rfl⟩ := hin
        rw [hat.1 s hs]; exact (hτ s hs).2
      · rw [hat.2 k fun s hs e => hin ⟨s, hs, e⟩]
        refine (hf0 k).2 hk ?_
        cases hm : mu k
        · rfl
        · exact absurd (hc k hk hm) hin
    · rw [giveF_cnt hj (fun s hs => (hτ s hs).1) (fun k _ e => by rw [← e, (hf0 k).1] at hp; cases hp) N (Nat.le_refl _)]
      exact h.cnt p m hp
/-! Rows in lists. -/
def mustL (row : Nat → List Nat) (mu : Nat → Bool) : Nat → List (List Nat)
  | 0 => []
  | n + 1 => if mu n then mustL row mu n ++ [row n] else mustL row mu n
theorem mustL_mono (row : Nat → List Nat) (mu : Nat → Bool) {k : Nat} : ∀ {n : Nat}, k ≤ n → (mustL row mu k).length ≤ (mustL row mu n).length
  | 0, h => by rw [show k = 0 by omega]; exact Nat.le_refl _
  | n + 1, h => by
    by_cases e : k = n + 1
    · rw [e]; exact Nat.le_refl _
    · have := mustL_mono row mu (k := k) (n := n) (by omega)
      show _ ≤ (if mu n then mustL row mu n ++ [row n] else mustL row mu n).length
      split
      · rw [List.length_append]; omega
      · exact this
theorem mustL_at {row : Nat → List Nat} {mu : Nat → Bool} {k : Nat} (hm : mu k = true) : ∀ {n : Nat}, k < n → (mustL row mu k).length < (mustL row mu n).length ∧ (mustL row mu n).getD (mustL row mu k).length [] = row k
  | n + 1, h => by
    show (mustL row mu k).length < (if mu n then mustL row mu n ++ [row n] else mustL row mu n).length ∧ (if mu n then mustL row mu n ++ [row n] else mustL row mu n).getD _ [] = row k
    by_cases e : k = n
    · subst e
      rw [hm]
      refine ⟨by show _ < (mustL row mu k ++ [row k]).length; rw [List.length_append, List.length_singleton]; omega, ?_⟩
      show (mustL row mu k ++ [row k]).getD _ [] = row k
      rw [List.getD_eq_getElem?_getD, List.getElem?_append_right (Nat.le_refl _), Nat.sub_self]; rfl
    · obtain ⟨h1, h2⟩ := mustL_at (row := row) hm (n := n) (by omega)
      split
      · refine ⟨by rw [List.length_append]; omega, ?_⟩
        rw [List.getD_eq_getElem?_getD, List.getElem?_append_left h1, ← List.getD_eq_getElem?_getD]; exact h2
      · exact ⟨h1, h2⟩
theorem mustL_of {row : Nat → List Nat} {mu : Nat → Bool} {r : Nat} : ∀ {n : Nat}, r < (mustL row mu n).length → ∃ k, k < n ∧ mu k = true ∧ (mustL row mu k).length = r
  | n + 1, h => by
    have h : r < (if mu n then mustL row mu n ++ [row n] else mustL row mu n).length := h
    by_cases h1 : r < (mustL row mu n).length
    · obtain ⟨k, hk, h2⟩ := mustL_of h1
      exact ⟨k, by omega, h2⟩
    · cases hm : mu n
      · rw [hm] at h; exact absurd h h1
      · rw [hm] at h
        have h : r < (mustL row mu n ++ [row n]).length := h
        rw [List.length_append, List.length_singleton] at h
        exact ⟨n, by omega, hm, by omega⟩
theorem must_iff {row : Nat → List Nat} {mu : Nat → Bool} {n : Nat} :
    (∃ σ : Nat → Nat, (∀ r, r < (mustL row mu n).length → σ r ∈ (mustL row mu n).getD r []) ∧ ∀ r q, r < (mustL row mu n).length → q < (mustL row mu n).length → σ r = σ q → r = q) ↔ ∃ σ : Nat → Nat, (∀ k, k < n → mu k = true → σ k ∈ row k) ∧ ∀ k q, k < n → q < n → mu k = true → mu q = true → σ k = σ q → k = q := by
  have hinj : ∀ k q, mu k = true → mu q = true → (mustL row mu k).length = (mustL row mu q).length → k = q := fun k q hk hq e => by
    rcases Nat.lt_trichotomy k q with h1 | h1 | h1
    · have := (mustL_at (row := row) hk h1).1; omega
    · exact h1
    · have := (mustL_at (row := row) hq h1).1; omega
  constructor
  · rintro ⟨σ, h1, h2⟩
    refine ⟨fun k => σ (mustL row mu k).length, fun k hk hm => ?_, fun k q hk hq hmk hmq e => ?_⟩
    · have h3 := mustL_at (row := row) hm hk
      have h4 := h1 _ h3.1
      rw [h3.2] at h4; exact h4
    · exact hinj k q hmk hmq (h2 _ _ (mustL_at hmk hk).1 (mustL_at hmq hq).1 e)
  · rintro ⟨σ, h1, h2⟩
    have hex : ∀ r, ∃ k, r < (mustL row mu n).length → k < n ∧ mu k = true ∧ (mustL row mu k).length = r := fun r => by
      by_cases hr : r < (mustL row mu n).length
      · obtain ⟨k, hk⟩ := mustL_of hr
        exact ⟨k, fun _ => hk⟩
      · exact ⟨0, fun h => absurd h hr⟩
    obtain ⟨ix, hix⟩ := Classical.axiomOfChoice hex
    refine ⟨fun r => σ (ix r), fun r hr => ?_, fun r q hr hq e => ?_⟩
    · obtain ⟨h3, h4, h5⟩ := hix r hr
      have h6 := (mustL_at (row := row) h4 h3).2
      rw [h5] at h6
      rw [h6]; exact h1 _ h3 h4
    · obtain ⟨h3, h4, h5⟩ := hix r hr
      obtain ⟨h6, h7, h8⟩ := hix q hq
      rw [← h5, ← h8, h2 _ _ h3 h6 h4 h7 e]
/-- What fits says is that some truth fits. -/
theorem fits_law {n N : Nat} {S : Nat → Nat → Bool} {a : Nat → Option Nat} {own : Nat → Nat} {mu : Nat → Bool} (h : Slots n N S a own mu) {d : Nat} (hd : a d = none) {row : Nat → List Nat} (hrow : ∀ k s, k < n → (s ∈ row k ↔ s < N ∧ S k (own s) = true)) {R : Nat → List Nat} (hR : ∀ k, k < n → R k = row k) {T T' : Tk} {m1 m2 : Nat} (h1 : MtI (fun r => (mustL row mu n).getD r []) T N (mustL row mu n).length m1) (h2 : MtI R T' N n m2) :
    (m1 = (mustL row mu n).length ∧ m2 = N) ↔ Fit n S a := by
  rw [fit_slots h hd, rows_all h1, slots_all h2, must_iff]
  refine and_congr ⟨?_, ?_⟩ ⟨?_, ?_⟩
  · rintro ⟨σ, h3, h4⟩
    exact ⟨σ, fun k hk hm => (hrow k _ hk).1 (h3 k hk hm), h4⟩
  · rintro ⟨σ, h3, h4⟩
    exact ⟨σ, fun k hk hm => (hrow k _ hk).2 (h3 k hk hm), h4⟩
  · rintro ⟨τ, h3, h4⟩
    exact ⟨τ, fun s hs => ⟨(h3 s hs).1, ((hrow _ s (h3 s hs).1).1 (by have := (h3 s hs).2; rw [hR _ (h3 s hs).1] at this; exact this)).2⟩, h4⟩
  · rintro ⟨τ, h3, h4⟩
    exact ⟨τ, fun s hs => ⟨(h3 s hs).1, by rw [hR _ (h3 s hs).1]; exact (hrow _ s (h3 s hs).1).2 ⟨hs, (h3 s hs).2⟩⟩, h4⟩
end Go.Proofs.YtkcfpnpejaekjaaDoor
