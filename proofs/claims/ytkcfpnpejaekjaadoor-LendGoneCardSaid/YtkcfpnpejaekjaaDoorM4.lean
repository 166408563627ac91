import Derived.Test.YtkcfpnpejaekjaaDoorM3
namespace Go.Proofs.YtkcfpnpejaekjaaDoor
/-! Plain: what was seen gone, and what was seen at the last hour. -/
theorem bitI {x : Int} (h : 0 ≤ x) (k : Nat) : Go.bits .and .i64 (x / 2 ^ k) 1 = if ibit x k then 1 else 0 := by
  rw [and_one_i64]
  have h1 := has_eq x.toNat k
  rw [Int.toNat_of_nonneg h] at h1
  have e : powI k = (2 : Int) ^ k := by unfold powI; push_cast; rfl
  rw [e] at h1
  have h2 : ibit x k = has x.toNat k := rfl
  rw [h2, ← h1]
  rcases Int.emod_two_eq (x / 2 ^ k) with h | h <;> rw [h] <;> rfl
def keptB (k : Nat) (x : Look) : Bool := ibit x.there k && decide (x.h = mxH)
theorem kept_iff {t : Tl} (ok : OkT t) (k : Nat) : t.looks.any (keptB k) = true ↔ seenS t.looks k = mxH := by
  have hle := seenS_le (l := t.looks) (k := k) fun x hx => (ok.hours x hx).2
  rw [List.any_eq_true]
  constructor
  · rintro ⟨x, hx, hb⟩
    unfold keptB at hb
    rw [Bool.and_eq_true, decide_eq_true_eq] at hb
    have h1 : seenS t.looks k ≤ seenS t.looks k := Int.le_refl _
    have h2 := ((seen_foldl k (seenS t.looks k) t.looks 0).1 h1).2 x hx hb.1
    omega
  · intro h
    refine Classical.byContradiction fun hn => ?_
    have h1 : seenS t.looks k ≤ mxH - 1 := (seen_foldl k (mxH - 1) t.looks 0).2 ⟨by decide, fun x hx hb => by
      have h2 := (ok.hours x hx).2
      have h3 : x.h ≠ mxH := fun e => hn ⟨x, hx, by unfold keptB; rw [hb, e]; rfl⟩
      omega⟩
    omega
theorem kept_set {t : Tl} (ok : OkT t) (hf : fitB t = true) {k : Nat} (hk : k < t.n.toNat) (hs : seenS t.looks k = mxH) : setB (whoB t k) 8 = 128 := by
  have hall : ∀ p, whoB t k p = true → p = 7 := fun p hp => by
    obtain ⟨f, hfit, e⟩ := (whoB_iff ok.lent ok.hours hk).1 hp
    obtain ⟨y, hy, e2⟩ := (susp_iff ok.lent ok.hours).1 (hfit.can k hk)
    have h1 := (inW_iff _ _ _).1 hy
    have h2 := hy.2.1
    rw [← e, ← e2, (who_none ok.lent).2 (by omega)]
  obtain ⟨p, hp8, hp⟩ := whoB_some ok hf hk
  have h7 := hall p hp
  subst h7
  refine bits_eq fun q => ?_
  rw [setB_bit, show (128 : Nat) = 2 ^ 7 from rfl, Nat.testBit_two_pow]
  by_cases e : q = 7
  · subst e; rw [hp]; rfl
  · rw [decide_eq_false (show ¬ 7 = q from fun h => e h.symm)]
    cases hq : whoB t k q with
    | false => simp
    | true => exact absurd (hall q hq) e
theorem gone_seen {t : Tl} {k : Nat} {x : Look} (hx : x ∈ t.looks) : (ibit x.gone k = true → goneS t.looks k ≤ x.h) ∧ (ibit x.there k = true → x.h ≤ seenS t.looks k) := by
  refine ⟨fun hb => Classical.byContradiction fun hn => ?_, fun hb => ?_⟩
  · have h1 : x.h < goneS t.looks k := by omega
    have := ((gone_foldl k x.h t.looks (mxH + 1)).1 h1).2 x hx hb
    omega
  · exact ((seen_foldl k (seenS t.looks k) t.looks 0).1 (Int.le_refl _)).2 x hx hb
def hadB (p : Nat) (lo hi : Int) (x : Loan) : Bool := decide (x.p = p) && (decide (x.a ≤ hi) && decide (lo < x.b))
theorem who_had {t : Tl} (ok : OkT t) {k : Nat} (hk : k < t.n.toNat) {p : Nat} (hp : p < 6) (hw : whoB t k p = true) : seenS t.looks k ≠ mxH ∧ t.loans.any (hadB p (seenS t.looks k) (min (goneS t.looks k) mxH - 1)) = true ∧ p < t.admits.length ∧ t.admits.getD p 0 ≠ 0 := by
  obtain ⟨f, hfit, e⟩ := (whoB_iff ok.lent ok.hours hk).1 hw
  obtain ⟨y, hy, e2⟩ := (susp_iff ok.lent ok.hours).1 (hfit.can k hk)
  rw [e] at e2
  have h1 := (inW_iff _ _ _).1 hy
  have h2 := hy.2.1
  have hym : y ≠ mxH := fun h => by rw [(who_none ok.lent).2 h] at e2; omega
  have hh : ∃ q, holdS t.loans y = some q := by
    cases hh : holdS t.loans y with
    | some q => exact ⟨q, rfl⟩
    | none => unfold whoH at e2; rw [if_neg hym, hh] at e2; have e2 : 6 = p := e2; omega
  obtain ⟨q, hh⟩ := hh
  obtain ⟨x, hx, hin, hq⟩ := holdS_of hh
  have hxy := inLoan_iff.1 hin
  have hxp := whoH_loan ok.lent hx hin
  have hg := ok.lent.good x hx
  rw [e2] at hxp
  have hper := ok.per x hx
  refine ⟨by omega, ?_, by omega, fun h0 => ?_⟩
  · rw [List.any_eq_true]
    refine ⟨x, hx, ?_⟩
    unfold hadB
    rw [decide_eq_true (show x.p = p by omega), decide_eq_true (show x.a ≤ min (goneS t.looks k) mxH - 1 by omega), decide_eq_true (show seenS t.looks k < x.b by omega)]
    rfl
  · have hpl : p < t.admits.length := by omega
    have hA : admA t.admits p = some 0 := by
      unfold admA
      rw [show t.admits[p]? = some (t.admits.getD p 0) by rw [List.getD_eq_getElem?_getD, List.getElem?_eq_getElem hpl]; rfl, h0]
      rfl
    have := hfit.adm p 0 hA
    have := cntF_one (f := f) (p := p) hk e
    omega
end Go.Proofs.YtkcfpnpejaekjaaDoor
