import Derived.Test.YtkcfpnpejaekjaaDoorM1
namespace Go.Proofs.YtkcfpnpejaekjaaDoor
/-! Plain: how many a person can have lost. -/
theorem admA_set {l : List Int} {p n : Nat} (hp : p < l.length) : admA (l.set p (n : Int)) = setA (admA l) p n := by
  funext x
  unfold setA
  by_cases e : x = p
  · subst e
    rw [if_pos rfl]
    unfold admA
    rw [List.getElem?_set_self hp]
    show (if 0 ≤ (n : Int) then some (n : Int).toNat else none) = some n
    rw [if_pos (by omega), Int.toNat_natCast]
  · rw [if_neg e]
    unfold admA
    rw [List.getElem?_set_ne (fun e2 => e e2.symm)]
theorem says_okTale {t : Tl} (h : okTale t = true) (p : Nat) {n : Int} (hn : -1 ≤ n ∧ n ≤ 16) : okTale (saysT t p n) = true := by
  unfold okTale saysT at *
  simp only [List.length_set, Bool.and_eq_true] at h ⊢
  obtain ⟨h1, h2, h3, h4, h5, h6, h7⟩ := h
  refine ⟨h1, h2, h3, h4, h5, h6, ?_⟩
  rw [List.all_eq_true] at h7 ⊢
  intro x hx
  rcases List.mem_or_eq_of_mem_set hx with h8 | h8
  · exact h7 x h8
  · rw [h8]; unfold okAdm; rw [inS_iff]; omega
theorem clashL_of {t : Tl} : ∀ {n i : Nat}, clashL t n = some i → ∃ j k, k < t.n.toNat ∧ goneS (t.looks.take (j + 1)) k ≤ seenS (t.looks.take (j + 1)) k
  | 0, i, h => by cases h
  | n + 1, i, h => by
    rw [clashL_step] at h
    cases hc : clashL t n with
    | some j => exact clashL_of hc
    | none =>
      rw [hc] at h
      dsimp only at h
      split at h
      · rename_i ha
        rw [List.any_eq_true] at ha
        obtain ⟨k, hk, he⟩ := ha
        exact ⟨n, k, List.mem_range.1 hk, of_decide_eq_true he⟩
      · cases h
theorem clash_fit {t : Tl} (ht : okTale t = true) : (fitB t = true → clashS t = (0, 4)) ∧ (fitB t = false → ∃ c, clashS t = (c, 0)) := by
  have ok := okT_of ht
  rw [clashS_of ht]
  constructor
  · intro hf
    cases hc : clashL t t.looks.length with
    | none => dsimp only; rw [hf]; rfl
    | some i =>
      exfalso
      obtain ⟨j, k, hk, he⟩ := clashL_of hc
      obtain ⟨f, hfit⟩ := (fitB_iff ok.lent ok.hours).1 hf
      obtain ⟨x, hx, -⟩ := (susp_iff ok.lent ok.hours).1 (hfit.can k hk)
      have h1 : InW (t.looks.take (j + 1)) k x := ⟨hx.1, hx.2.1, fun y hy => hx.2.2 y (List.mem_of_mem_take hy)⟩
      have := (inW_iff _ _ _).1 h1
      omega
  · intro hf
    cases hc : clashL t t.looks.length with
    | none => dsimp only; rw [hf]; exact ⟨_, rfl⟩
    | some i => exact ⟨_, rfl⟩
theorem fit_says {t : Tl} (ok : OkT t) {p : Nat} (hp : p < t.admits.length) {n : Nat} (hn : n ≤ 16) : fitB (saysT t p n) = true ↔ Fit t.n.toNat (suspB t) (setA (admA t.admits) p n) := by
  rw [fitB_iff (t := saysT t p n) ok.lent ok.hours, ← admA_set hp]; rfl
theorem many_range {t : Tl} (ht : okTale t = true) {p : Nat} (hp : p < t.admits.length) (hf : fitB t = true) (hs : t.admits.getD p 0 = -1) :
    ∃ a b : Nat, lostS t p = (((a : Int), (b : Int)), 0) ∧ a ≤ b ∧ b ≤ t.n.toNat ∧ ∀ q, q ≤ t.n.toNat → (fitB (saysT t p q) = true ↔ a ≤ q ∧ q ≤ b) := by
  have ok := okT_of ht
  have h16 := ok.n2
  have ha : admA t.admits p = none := (adm_none (fun x hx => (ok.adm x hx).1)).2 (.inr hs)
  rw [lostS_of ht (inS_iff.2 ⟨by omega, by omega⟩) hf, Int.toNat_natCast, if_neg (fun e => e hs)]
  rcases lostL_spec t p (t.n.toNat + 1) with ⟨e, -⟩ | ⟨-, a, b, ha', hb', hal, hbl, hfa, hfb, hall⟩
  · rw [lost_found ok hp hs hf] at e; cases e
  · rw [ha', hb']
    have hab := hall a (by omega) hfa
    refine ⟨a, b, rfl, by omega, by omega, fun q hq => ⟨fun h => hall q (by omega) h, fun h => ?_⟩⟩
    rw [fit_says ok hp (by omega)] at hfa hfb ⊢
    have := fit_between ha hfa hfb (q - a) (by omega)
    rw [show a + (q - a) = q by omega] at this
    exact this
theorem many_adm {t : Tl} (ht : okTale t = true) {p : Nat} (hp : p < t.admits.length) (hf : fitB t = true) (hs : t.admits.getD p 0 ≠ -1) :
    lostS t p = ((t.admits.getD p 0, t.admits.getD p 0), 0) ∧ ∃ v : Nat, t.admits.getD p 0 = v ∧ v ≤ t.n.toNat ∧ admA t.admits p = some v := by
  have ok := okT_of ht
  rw [lostS_of ht (inS_iff.2 ⟨by omega, by omega⟩) hf, Int.toNat_natCast, if_pos hs]
  refine ⟨rfl, ?_⟩
  have hg : t.admits[p]? = some (t.admits.getD p 0) := by rw [List.getD_eq_getElem?_getD, List.getElem?_eq_getElem hp]; rfl
  have h1 := ok.adm _ (List.mem_of_getElem? hg)
  have hA : admA t.admits p = some (t.admits.getD p 0).toNat := by
    unfold admA; rw [hg]; exact if_pos (by omega)
  obtain ⟨f, hfit⟩ := (fitB_iff ok.lent ok.hours).1 hf
  have h2 := hfit.adm p _ hA
  have h3 := cntF_le f p t.n.toNat
  exact ⟨(t.admits.getD p 0).toNat, by omega, by omega, hA⟩
/-- The least numbers, together. -/
def leastS (t : Tl) : Nat → Int
  | 0 => 0
  | q + 1 => leastS t q + (lostS t q).1.1
theorem least_bd {t : Tl} (ht : okTale t = true) (hf : fitB t = true) : (∀ p : Nat, p < t.admits.length → (lostS t p).2 = 0) ∧ ∀ q, q ≤ t.admits.length → 0 ≤ leastS t q ∧ leastS t q ≤ t.n := by
  have ok := okT_of ht
  have h16 := ok.n2
  have h1 := ok.n1
  obtain ⟨f, hfit⟩ := (fitB_iff ok.lent ok.hours).1 hf
  have hone : ∀ p : Nat, p < t.admits.length → (lostS t p).2 = 0 ∧ 0 ≤ (lostS t p).1.1 ∧ (lostS t p).1.1 ≤ (cntF f p t.n.toNat : Int) := fun p hp => by
    by_cases hs : t.admits.getD p 0 = -1
    · obtain ⟨a, b, e, hab, hb, hall⟩ := many_range ht hp hf hs
      rw [e]
      refine ⟨rfl, by show 0 ≤ (a : Int); omega, ?_⟩
      have hc := cntF_le f p t.n.toNat
      have ha : admA t.admits p = none := (adm_none (fun x hx => (ok.adm x hx).1)).2 (.inr hs)
      have : fitB (saysT t p (cntF f p t.n.toNat)) = true := by
        rw [fit_says ok hp (by omega)]
        refine ⟨f, hfit.can, fun x m hx => ?_⟩
        unfold setA at hx
        split at hx
        · rename_i e; subst e; injection hx
        · exact hfit.adm x m hx
      have := (hall _ hc).1 this
      show (a : Int) ≤ _
      omega
    · obtain ⟨e, v, hv, hvn, hA⟩ := many_adm ht hp hf hs
      rw [e, hv]
      have := hfit.adm p v hA
      refine ⟨rfl, by show 0 ≤ (v : Int); omega, by show (v : Int) ≤ _; omega⟩
  refine ⟨fun p hp => (hone p hp).1, fun q hq => ?_⟩
  have hsum := cntF_sum f t.n.toNat q
  have : ∀ q, q ≤ t.admits.length → 0 ≤ leastS t q ∧ leastS t q ≤ (sumR (fun p => cntF f p t.n.toNat) q : Int) := fun q => by
    induction q with
    | zero => intro _; exact ⟨Int.le_refl _, Int.le_refl _⟩
    | succ q ih =>
      intro hq
      have h2 := ih (by omega)
      have h3 := hone q (by omega)
      show 0 ≤ leastS t q + (lostS t q).1.1 ∧ leastS t q + (lostS t q).1.1 ≤ ((sumR (fun p => cntF f p t.n.toNat) q + cntF f q t.n.toNat : Nat) : Int)
      omega
  have := this q hq
  omega
theorem many_cases (t : Tl) (p : Int) : (okTale t = false ∧ lostS t p = ((0, 0), 1)) ∨ (okTale t = true ∧ lostS t p = ((0, 0), 2)) ∨ (okTale t = true ∧ lostS t p = ((0, 0), 6) ∧ ∃ c, clashS t = (c, 0)) ∨ (okTale t = true ∧ fitB t = true ∧ clashS t = (0, 4) ∧ ∃ q : Nat, p = q ∧ q < t.admits.length) := by
  cases ht : okTale t
  · exact .inl ⟨rfl, by unfold lostS; rw [ht]; rfl⟩
  · cases hi : inS p 0 ((t.admits.length : Int) - 1)
    · exact .inr (.inl ⟨rfl, by unfold lostS; rw [ht, hi]; rfl⟩)
    · cases hf : fitB t
      · exact .inr (.inr (.inl ⟨rfl, by unfold lostS; rw [ht, hi, hf]; rfl, (clash_fit ht).2 hf⟩))
      · have := inS_iff.1 hi
        exact .inr (.inr (.inr ⟨rfl, rfl, (clash_fit ht).1 hf, p.toNat, by omega, by omega⟩))
end Go.Proofs.YtkcfpnpejaekjaaDoor
