import Derived.Test.YtkcfpnpejaekjaaDoorMat
namespace Go.Proofs.YtkcfpnpejaekjaaDoor
/-! Plain: who can have lost which piece, if so many are admitted. -/
/-- How many of the first n pieces somebody lost. -/
def cntF (f : Nat → Nat) (p : Nat) : Nat → Nat
  | 0 => 0
  | n + 1 => cntF f p n + (if f n = p then 1 else 0)
def updF (f : Nat → Nat) (k p : Nat) : Nat → Nat := fun u => if u = k then p else f u
theorem cntF_upd (f : Nat → Nat) (k v p : Nat) : ∀ {n : Nat}, (k < n → cntF (updF f k v) p n + (if f k = p then 1 else 0) = cntF f p n + (if v = p then 1 else 0)) ∧ (n ≤ k → cntF (updF f k v) p n = cntF f p n)
  | 0 => ⟨fun h => by omega, fun _ => rfl⟩
  | n + 1 => by
    obtain ⟨h1, h2⟩ := cntF_upd f k v p (n := n)
    show (k < n + 1 → cntF (updF f k v) p n + (if updF f k v n = p then 1 else 0) + _ = cntF f p n + (if f n = p then 1 else 0) + _) ∧ (n + 1 ≤ k → cntF (updF f k v) p n + (if updF f k v n = p then 1 else 0) = cntF f p n + (if f n = p then 1 else 0))
    by_cases e : n = k
    · subst e
      have h3 : updF f n v n = v := if_pos rfl
      rw [h3, h2 (Nat.le_refl _)]
      exact ⟨fun _ => by omega, fun h => by omega⟩
    · have h3 : updF f k v n = f n := if_neg e
      rw [h3]
      exact ⟨fun h => by have := h1 (by omega); omega, fun h => by rw [h2 (by omega)]⟩
theorem cntF_congr {f g : Nat → Nat} {p : Nat} : ∀ {n : Nat}, (∀ k, k < n → f k = g k) → cntF f p n = cntF g p n
  | 0, _ => rfl
  | n + 1, h => by
    show cntF f p n + _ = cntF g p n + _
    rw [cntF_congr fun k hk => h k (by omega), h n (by omega)]
theorem cntF_le (f : Nat → Nat) (p : Nat) : ∀ n : Nat, cntF f p n ≤ n
  | 0 => Nat.le_refl _
  | n + 1 => by
    have := cntF_le f p n
    show cntF f p n + (if f n = p then 1 else 0) ≤ n + 1
    split <;> omega
theorem cntF_one {f : Nat → Nat} {p k : Nat} : ∀ {n : Nat}, k < n → f k = p → 1 ≤ cntF f p n
  | n + 1, hk, h => by
    show 1 ≤ cntF f p n + (if f n = p then 1 else 0)
    by_cases e : k = n
    · subst e; rw [if_pos h]; omega
    · have := cntF_one (n := n) (by omega) h; omega
/-- Where somebody lost less than in another tale, some piece is its by the other one alone. -/
theorem cntF_lt {f g : Nat → Nat} {p : Nat} : ∀ {n : Nat}, cntF f p n < cntF g p n → ∃ k, k < n ∧ g k = p ∧ f k ≠ p
  | n + 1, h => by
    have h : cntF f p n + (if f n = p then 1 else 0) < cntF g p n + (if g n = p then 1 else 0) := h
    by_cases e1 : g n = p
    · by_cases e2 : f n = p
      · rw [if_pos e1, if_pos e2] at h
        obtain ⟨k, hk, h2⟩ := cntF_lt (n := n) (f := f) (g := g) (p := p) (by omega)
        exact ⟨k, by omega, h2⟩
      · exact ⟨n, by omega, e1, e2⟩
    · rw [if_neg e1] at h
      obtain ⟨k, hk, h2⟩ := cntF_lt (n := n) (f := f) (g := g) (p := p) (by omega)
      exact ⟨k, by omega, h2⟩
/-- Each piece is lost by one who can have lost it, and who admits something lost as many. -/
structure FitBy (n : Nat) (S : Nat → Nat → Bool) (a : Nat → Option Nat) (f : Nat → Nat) : Prop where
  can : ∀ k, k < n → S k (f k) = true
  adm : ∀ p m, a p = some m → cntF f p n = m
def Fit (n : Nat) (S : Nat → Nat → Bool) (a : Nat → Option Nat) : Prop := ∃ f, FitBy n S a f
/-- How many pieces have the same loser in both. -/
def sameF (f g : Nat → Nat) : Nat → Nat
  | 0 => 0
  | n + 1 => sameF f g n + (if f n = g n then 1 else 0)
theorem sameF_le (f g : Nat → Nat) : ∀ n : Nat, sameF f g n ≤ n
  | 0 => Nat.le_refl _
  | n + 1 => by
    have := sameF_le f g n
    show sameF f g n + (if f n = g n then 1 else 0) ≤ n + 1
    split <;> omega
theorem sameF_upd {f g : Nat → Nat} {k : Nat} (hne : f k ≠ g k) : ∀ {n : Nat}, (k < n → sameF (updF f k (g k)) g n = sameF f g n + 1) ∧ (n ≤ k → sameF (updF f k (g k)) g n = sameF f g n)
  | 0 => ⟨fun h => by omega, fun _ => rfl⟩
  | n + 1 => by
    obtain ⟨h1, h2⟩ := sameF_upd hne (n := n)
    show (k < n + 1 → sameF (updF f k (g k)) g n + (if updF f k (g k) n = g n then 1 else 0) = sameF f g n + (if f n = g n then 1 else 0) + 1) ∧ (n + 1 ≤ k → sameF (updF f k (g k)) g n + (if updF f k (g k) n = g n then 1 else 0) = sameF f g n + (if f n = g n then 1 else 0))
    by_cases e : n = k
    · subst e
      have h3 : updF f n (g n) n = g n := if_pos rfl
      rw [h3, h2 (Nat.le_refl _), if_pos rfl, if_neg hne]
      exact ⟨fun _ => by omega, fun h => by omega⟩
    · have h3 : updF f k (g k) n = f n := if_neg e
      rw [h3]
      exact ⟨fun h => by rw [h1 (by omega)]; omega, fun h => by rw [h2 (by omega)]⟩
/-- One piece too few is made good, piece by piece, where another tale has enough. -/
theorem deficit {n : Nat} {S : Nat → Nat → Bool} {b : Nat → Option Nat} {g : Nat → Nat} (hg : ∀ k, k < n → S k (g k) = true) (hge : ∀ x m, b x = some m → m ≤ cntF g x n) :
    ∀ (d : Nat) {f : Nat → Nat} {q : Nat}, n - sameF f g n ≤ d → (∀ k, k < n → S k (f k) = true) → (∀ x m, b x = some m → cntF f x n + (if x = q then 1 else 0) = m) → Fit n S b
  | d, f, q, hd, hf, hc => by
    cases hb : b q with
    | none =>
      exact ⟨f, hf, fun x m hx => by
        have := hc x m hx
        rw [if_neg (fun e => by subst e; rw [hb] at hx; cases hx)] at this; omega⟩
    | some m =>
      have h1 := hc q m hb
      rw [if_pos rfl] at h1
      have h2 := hge q m hb
      obtain ⟨k, hk, h3, h4⟩ := cntF_lt (f := f) (g := g) (p := q) (n := n) (by omega)
      have hne : f k ≠ g k := by rw [h3]; exact h4
      have h5 := (sameF_upd hne (n := n)).1 hk
      have h6 := sameF_le (updF f k (g k)) g n
      cases d with
      | zero => omega
      | succ d =>
        refine deficit hg hge d (f := updF f k (g k)) (q := f k) (by omega) (fun u hu => ?_) (fun x m' hx => ?_)
        · unfold updF
          by_cases e : u = k
          · rw [if_pos e, e]; exact hg k hk
          · rw [if_neg e]; exact hf u hu
        · have h7 := (cntF_upd f k (g k) x (n := n)).1 hk
          have h8 := hc x m' hx
          rw [h3] at h7
          by_cases e1 : x = f k <;> by_cases e2 : x = q
          · exact absurd (e1 ▸ e2) h4
          · rw [if_pos e1.symm, if_neg (fun e => e2 e.symm)] at h7
            rw [if_neg e2] at h8
            rw [if_pos e1, h3]; omega
          · rw [if_neg (fun e => e1 e.symm), if_pos e2.symm] at h7
            rw [if_pos e2] at h8
            rw [if_neg e1, h3]; omega
          · rw [if_neg (fun e => e1 e.symm), if_neg (fun e => e2 e.symm)] at h7
            rw [if_neg e2] at h8
            rw [if_neg e1, h3]; omega
def setA (a : Nat → Option Nat) (p m : Nat) : Nat → Option Nat := fun x => if x = p then some m else a x
theorem fit_next {n : Nat} {S : Nat → Nat → Bool} {a : Nat → Option Nat} {p m : Nat} {f g : Nat → Nat} (hf : FitBy n S (setA a p m) f) (hg : FitBy n S a g) (hm : m < cntF g p n) : Fit n S (setA a p (m + 1)) := by
  refine deficit (q := p) hg.can (fun x m' hx => ?_) n (f := f) (by omega) hf.can (fun x m' hx => ?_)
  · unfold setA at hx
    by_cases e : x = p
    · rw [if_pos e] at hx; injection hx with hx; subst e; omega
    · rw [if_neg e] at hx; rw [hg.adm x m' hx]; exact Nat.le_refl _
  · unfold setA at hx
    by_cases e : x = p
    · subst e
      rw [if_pos rfl] at hx; injection hx with hx
      have := hf.adm x m (if_pos rfl)
      rw [if_pos rfl]; omega
    · rw [if_neg e] at hx
      rw [if_neg e, hf.adm x m' (by unfold setA; rw [if_neg e]; exact hx)]; rfl
theorem FitBy.weak {n : Nat} {S : Nat → Nat → Bool} {a : Nat → Option Nat} {p m : Nat} {f : Nat → Nat} (ha : a p = none) (h : FitBy n S (setA a p m) f) : FitBy n S a f :=
  ⟨h.can, fun x m' hx => h.adm x m' (by unfold setA; rw [if_neg (fun e => by subst e; rw [ha] at hx; cases hx)]; exact hx)⟩
/-- Between two numbers that somebody can have lost each one can be. -/
theorem fit_between {n : Nat} {S : Nat → Nat → Bool} {a : Nat → Option Nat} {p : Nat} (ha : a p = none) {lo hi : Nat} (hl : Fit n S (setA a p lo)) (hh : Fit n S (setA a p hi)) : ∀ d : Nat, lo + d ≤ hi → Fit n S (setA a p (lo + d))
  | 0, _ => hl
  | d + 1, h => by
    obtain ⟨f, hf⟩ := fit_between ha hl hh d (by omega)
    obtain ⟨g, hg⟩ := hh
    have := hg.adm p hi (if_pos rfl)
    have h3 : lo + d < cntF g p n := by omega
    exact fit_next hf (hg.weak ha) h3
theorem Fit.some {n : Nat} {S : Nat → Nat → Bool} {a : Nat → Option Nat} (p : Nat) (ha : a p = none) : Fit n S a ↔ ∃ m, m ≤ n ∧ Fit n S (setA a p m) := by
  constructor
  · rintro ⟨f, hf⟩
    refine ⟨cntF f p n, cntF_le f p n, f, hf.can, fun x m hx => ?_⟩
    unfold setA at hx
    by_cases e : x = p
    · rw [if_pos e] at hx; injection hx with hx; rw [e]; exact hx
    · rw [if_neg e] at hx; exact hf.adm x m hx
  · rintro ⟨m, _, f, hf⟩
    exact ⟨f, hf.weak ha⟩
theorem setA_self {a : Nat → Option Nat} {p m : Nat} (h : a p = some m) : setA a p m = a := by
  funext x; unfold setA
  by_cases e : x = p
  · rw [if_pos e, e, h]
  · rw [if_neg e]
/-- All that people have lost is no more than there is. -/
theorem cntF_sum (f : Nat → Nat) : ∀ (n r : Nat), sumR (fun p => cntF f p n) r ≤ n
  | 0, r => by
    have : ∀ r, sumR (fun p => cntF f p 0) r = 0 := fun r => by
      induction r with
      | zero => rfl
      | succ r ih => show sumR _ r + 0 = 0; rw [ih]
    rw [this]; exact Nat.le_refl _
  | n + 1, r => by
    have ih := cntF_sum f n r
    have h1 : ∀ r, sumR (fun p => cntF f p (n + 1)) r = sumR (fun p => cntF f p n) r + (if f n < r then 1 else 0) := fun r => by
      induction r with
      | zero => rfl
      | succ r ih =>
        show sumR _ r + (cntF f r n + (if f n = r then 1 else 0)) = sumR _ r + cntF f r n + _
        rw [ih]
        by_cases e : f n = r
        · rw [if_neg (by omega), if_pos e, if_pos (by omega)]; omega
        · rw [if_neg e]
          by_cases e2 : f n < r
          · rw [if_pos e2, if_pos (by omega)]; omega
          · rw [if_neg e2, if_neg (by omega)]; omega
    rw [h1]; split <;> omega
/-! One piece is given to somebody. -/
def skipN (k : Nat) (i : Nat) : Nat := if i < k then i else i + 1
theorem cntF_skip (f : Nat → Nat) (p k : Nat) : ∀ {n : Nat}, (k ≤ n → cntF f p (n + 1) = cntF (fun i => f (skipN k i)) p n + (if f k = p then 1 else 0)) ∧ (n ≤ k → cntF (fun i => f (skipN k i)) p n = cntF f p n)
  | 0 => ⟨fun h => by
      have : k = 0 := by omega
      subst this
      rfl, fun _ => rfl⟩
  | n + 1 => by
    obtain ⟨h1, h2⟩ := cntF_skip f p k (n := n)
    refine ⟨fun h => ?_, fun h => ?_⟩
    · show cntF f p (n + 1) + (if f (n + 1) = p then 1 else 0) = cntF (fun i => f (skipN k i)) p n + (if f (skipN k n) = p then 1 else 0) + _
      by_cases e : k = n + 1
      · subst e
        have h3 : skipN (n + 1) n = n := if_pos (by omega)
        rw [h3, h2 (by omega)]; rfl
      · have h3 : skipN k n = n + 1 := if_neg (by omega)
        rw [h1 (by omega), h3]; omega
    · show cntF (fun i => f (skipN k i)) p n + (if f (skipN k n) = p then 1 else 0) = cntF f p n + (if f n = p then 1 else 0)
      have h3 : skipN k n = n := if_pos (by omega)
      rw [h3, h2 (by omega)]
/-- Who admits something less. -/
def lessA (a : Nat → Option Nat) (p : Nat) : Nat → Option Nat := fun x => if x = p then (a p).map (· - 1) else a x
theorem gives_iff {n : Nat} {S : Nat → Nat → Bool} {a : Nat → Option Nat} {k p : Nat} (hk : k ≤ n) (hp : S k p = true) : (a p ≠ some 0 ∧ Fit n (fun i => S (skipN k i)) (lessA a p)) ↔ ∃ f, FitBy (n + 1) S a f ∧ f k = p := by
  constructor
  · rintro ⟨h0, f, hf⟩
    refine ⟨fun i => if i = k then p else f (if i < k then i else i - 1), ⟨fun i hi => ?_, fun x m hx => ?_⟩, if_pos rfl⟩
    · show S i (if i = k then p else f (if i < k then i else i - 1)) = true
      by_cases e : i = k
      · rw [if_pos e, e]; exact hp
      · rw [if_neg e]
        have h1 := hf.can (if i < k then i else i - 1) (by split <;> omega)
        have h2 : skipN k (if i < k then i else i - 1) = i := by
          unfold skipN
          by_cases e2 : i < k
          · rw [if_pos e2, if_pos e2]
          · rw [if_neg e2, if_neg (by omega)]; omega
        rw [h2] at h1; exact h1
    · rw [(cntF_skip _ x k (n := n)).1 hk, cntF_congr (g := f) (fun i hi => ?_)]
      · show cntF f x n + (if (if k = k then p else _) = x then 1 else 0) = m
        rw [if_pos rfl]
        by_cases e : p = x
        · subst e
          rw [if_pos rfl]
          have h3 := hf.adm p (m - 1) (by unfold lessA; rw [if_pos rfl, hx]; rfl)
          have h4 : m ≠ 0 := fun e => h0 (by rw [hx, e])
          omega
        · rw [if_neg e, hf.adm x m (by unfold lessA; rw [if_neg (fun e2 => e e2.symm)]; exact hx)]; rfl
      · show (if skipN k i = k then p else f (if skipN k i < k then skipN k i else skipN k i - 1)) = f i
        unfold skipN
        by_cases e : i < k
        · rw [if_pos e, if_neg (by omega), if_pos e]
        · rw [if_neg e, if_neg (by omega), if_neg (by omega)]; rfl
  · rintro ⟨f, hf, e⟩
    have h1 : ∀ x, cntF f x (n + 1) = cntF (fun i => f (skipN k i)) x n + (if p = x then 1 else 0) := fun x => by rw [(cntF_skip f x k (n := n)).1 hk, e]
    refine ⟨fun h0 => ?_, fun i => f (skipN k i), fun i hi => hf.can _ (by unfold skipN; split <;> omega), fun x m hx => ?_⟩
    · have h2 := hf.adm p 0 h0
      have := cntF_one (f := f) (p := p) (k := k) (n := n + 1) (by omega) e
      omega
    · unfold lessA at hx
      by_cases e2 : x = p
      · subst e2
        rw [if_pos rfl] at hx
        cases ha : a x with
        | none => rw [ha] at hx; cases hx
        | some m' =>
          rw [ha] at hx
          have hx : some (m' - 1) = some m := hx
          injection hx with hx
          have h2 := hf.adm x m' ha
          rw [h1, if_pos rfl] at h2
          show cntF (fun i => f (skipN k i)) x n = m
          omega
      · rw [if_neg e2] at hx
        have h2 := hf.adm x m hx
        rw [h1, if_neg (fun e => e2 e.symm)] at h2
        exact h2
end Go.Proofs.YtkcfpnpejaekjaaDoor
