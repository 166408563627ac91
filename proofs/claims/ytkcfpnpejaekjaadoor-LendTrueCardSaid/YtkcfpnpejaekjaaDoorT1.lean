import Derived.Test.YtkcfpnpejaekjaaDoorM3
import Derived.Test.YtkcfpnpejaekjaaDoorP17
import Derived.Test.YtkcfpnpejaekjaaDoorD4
import Derived.Test.YtkcfpnpejaekjaaDoorD1
import Derived.Test.YtkcfpnpejaekjaaDoorD2
namespace Go.Proofs.YtkcfpnpejaekjaaDoor
/-! Plain side of LendTrue: what truly happened fits, whenever each piece was lost. -/
/-- What a look at an hour tells of the pieces below k: those there, those gone. -/
def tgL (h : Int) (lost : List Int) (s : Nat) : Nat → Nat × Nat
  | 0 => (0, 0)
  | k + 1 => if s.testBit k then (if lost.getD k 0 < h then ((tgL h lost s k).1, (tgL h lost s k).2 ||| 2 ^ k) else ((tgL h lost s k).1 ||| 2 ^ k, (tgL h lost s k).2)) else tgL h lost s k
theorem tgL_bit (h : Int) (lost : List Int) (s p : Nat) : ∀ k : Nat, ((tgL h lost s k).1.testBit p = true ↔ p < k ∧ s.testBit p = true ∧ h ≤ lost.getD p 0) ∧ ((tgL h lost s k).2.testBit p = true ↔ p < k ∧ s.testBit p = true ∧ lost.getD p 0 < h)
  | 0 => by
    show ((0 : Nat).testBit p = true ↔ _) ∧ ((0 : Nat).testBit p = true ↔ _)
    rw [Nat.zero_testBit]
    exact ⟨⟨fun h => (by cases h), fun h => absurd h.1 (by omega)⟩, ⟨fun h => (by cases h), fun h => absurd h.1 (by omega)⟩⟩
  | k + 1 => by
    obtain ⟨h1, h2⟩ := tgL_bit h lost s p k
    unfold tgL
    cases hs : s.testBit k
    · rw [if_neg (by decide), h1, h2]
      constructor
      · constructor
        · rintro ⟨a, b, c⟩; exact ⟨by omega, b, c⟩
        · rintro ⟨a, b, c⟩
          refine ⟨?_, b, c⟩
          by_cases e : p = k
          · subst e; rw [hs] at b; cases b
          · omega
      · constructor
        · rintro ⟨a, b, c⟩; exact ⟨by omega, b, c⟩
        · rintro ⟨a, b, c⟩
          refine ⟨?_, b, c⟩
          by_cases e : p = k
          · subst e; rw [hs] at b; cases b
          · omega
    · rw [if_pos rfl]
      by_cases hc : lost.getD k 0 < h
      · rw [if_pos hc]
        dsimp only
        rw [Nat.testBit_or, Bool.or_eq_true, h1, h2, Nat.testBit_two_pow, decide_eq_true_eq]
        constructor
        · constructor
          · rintro ⟨a, b, c⟩; exact ⟨by omega, b, c⟩
          · rintro ⟨a, b, c⟩
            refine ⟨?_, b, c⟩
            by_cases e : p = k
            · subst e; omega
            · omega
        · constructor
          · rintro (⟨a, b, c⟩ | e)
            · exact ⟨by omega, b, c⟩
            · subst e; exact ⟨by omega, hs, hc⟩
          · rintro ⟨a, b, c⟩
            by_cases e : k = p
            · exact .inr e
            · exact .inl ⟨by omega, b, c⟩
      · rw [if_neg hc]
        dsimp only
        rw [Nat.testBit_or, Bool.or_eq_true, h1, h2, Nat.testBit_two_pow, decide_eq_true_eq]
        constructor
        · constructor
          · rintro (⟨a, b, c⟩ | e)
            · exact ⟨by omega, b, c⟩
            · subst e; exact ⟨by omega, hs, by omega⟩
          · rintro ⟨a, b, c⟩
            by_cases e : k = p
            · exact .inr e
            · exact .inl ⟨by omega, b, c⟩
        · constructor
          · rintro ⟨a, b, c⟩; exact ⟨by omega, b, c⟩
          · rintro ⟨a, b, c⟩
            refine ⟨?_, b, c⟩
            by_cases e : p = k
            · subst e; omega
            · omega
theorem tgL_lt (h : Int) (lost : List Int) (s k : Nat) : (tgL h lost s k).1 < 2 ^ k ∧ (tgL h lost s k).2 < 2 ^ k := by
  constructor
  · refine Nat.lt_pow_two_of_testBit _ fun i hi => ?_
    cases hb : (tgL h lost s k).1.testBit i with
    | false => rfl
    | true => have := ((tgL_bit h lost s i k).1.1 hb).1; omega
  · refine Nat.lt_pow_two_of_testBit _ fun i hi => ?_
    cases hb : (tgL h lost s k).2.testBit i with
    | false => rfl
    | true => have := ((tgL_bit h lost s i k).2.1 hb).1; omega
/-- The hour of the i-th look, and the look. -/
def hourT (lost byl : List Int) (i : Nat) : Int := if i % 3 = 0 then min mxH (lost.getD (i % lost.length) 0 + byl.getD i 0 % 2) else byl.getD i 0
def lookT (lost byl : List Int) (i : Nat) : Look :=
  ⟨hourT lost byl i, ((tgL (hourT lost byl i) lost (byl.getD ((i + 1) % byl.length) 0).toNat lost.length).1 : Nat), ((tgL (hourT lost byl i) lost (byl.getD ((i + 1) % byl.length) 0).toNat lost.length).2 : Nat)⟩
/-- How many of the first k pieces a person lost. -/
def manyT (l : List Loan) (lost : List Int) (p : Nat) : Nat → Nat
  | 0 => 0
  | k + 1 => manyT l lost p k + (if lost.getD k 0 ≠ mxH ∧ holdR l (lost.getD k 0) = p then 1 else 0)
def admT (l : List Loan) (lost byl : List Int) (p : Nat) : Int := if byl.getD (p % byl.length) 0 % 2 = 1 then (manyT l lost p lost.length : Int) else -1
def toldT (t : Tl) (lost byl : List Int) : Tl :=
  { t with looks := (List.range (min byl.length 20)).map (lookT lost byl), admits := (List.range t.admits.length).map (admT t.loans lost byl) }
/-- Who lost a piece. -/
def whoT (l : List Loan) (lost : List Int) (k : Nat) : Nat := whoH l (lost.getD k 0)
theorem many_cnt {l : List Loan} (hl : Lent l) (lost : List Int) {p : Nat} (hp : p < 6) : ∀ k, manyT l lost p k = cntF (whoT l lost) p k
  | 0 => rfl
  | k + 1 => by
    show manyT l lost p k + _ = cntF (whoT l lost) p k + (if whoT l lost k = p then 1 else 0)
    rw [many_cnt hl lost hp k]
    congr 1
    have e : (lost.getD k 0 ≠ mxH ∧ holdR l (lost.getD k 0) = p) ↔ whoT l lost k = p := by
      unfold whoT whoH holdR
      by_cases h : lost.getD k 0 = mxH
      · rw [if_pos h]
        exact ⟨fun e => absurd h e.1, fun e => by omega⟩
      · rw [if_neg h]
        cases e : holdS l (lost.getD k 0) with
        | none =>
          show _ ∧ (-1 : Int) = p ↔ 6 = p
          exact ⟨fun e => by omega, fun e => by omega⟩
        | some q =>
          obtain ⟨x, hx, -, rfl⟩ := holdS_of e
          have := hl.good x hx
          show _ ∧ x.p = p ↔ x.p.toNat = p
          exact ⟨fun e => by omega, fun e => ⟨h, by omega⟩⟩
    by_cases h : whoT l lost k = p
    · rw [if_pos h, if_pos (e.2 h)]
    · rw [if_neg h, if_neg (fun x => h (e.1 x))]
theorem many_le (l : List Loan) (lost : List Int) (p : Nat) : ∀ k, manyT l lost p k ≤ k
  | 0 => Nat.le_refl _
  | k + 1 => by
    have := many_le l lost p k
    show manyT l lost p k + (if _ then 1 else 0) ≤ k + 1
    split <;> omega
/-- What is wanted of the numbers. -/
structure Raw (t : Tl) (lost byl : List Int) : Prop where
  len : (lost.length : Int) = t.n
  lost : ∀ x ∈ lost, 0 ≤ x ∧ x ≤ mxH
  by1 : 0 < byl.length
  by2 : ∀ x ∈ byl, 0 ≤ x ∧ x < 65536
theorem getD_prop {l : List Int} {Q : Int → Prop} (h : ∀ x ∈ l, Q x) {i : Nat} (hi : i < l.length) : Q (l.getD i 0) := h _ (getD_mem hi)
theorem lost_at {t : Tl} {lost byl : List Int} (hr : Raw t lost byl) (k : Nat) : 0 ≤ lost.getD k 0 ∧ lost.getD k 0 ≤ mxH := by
  by_cases hk : k < lost.length
  · exact getD_prop (Q := fun x => 0 ≤ x ∧ x ≤ mxH) hr.lost hk
  · rw [List.getD_eq_getElem?_getD, List.getElem?_eq_none (by omega)]; exact ⟨by decide, by decide⟩
theorem by_at {t : Tl} {lost byl : List Int} (hr : Raw t lost byl) (k : Nat) : 0 ≤ byl.getD k 0 ∧ byl.getD k 0 < 65536 := by
  by_cases hk : k < byl.length
  · exact getD_prop (Q := fun x => 0 ≤ x ∧ x < 65536) hr.by2 hk
  · rw [List.getD_eq_getElem?_getD, List.getElem?_eq_none (by omega)]; exact ⟨by decide, by decide⟩
theorem hour_at {t : Tl} {lost byl : List Int} (hr : Raw t lost byl) (i : Nat) : 0 ≤ hourT lost byl i ∧ hourT lost byl i ≤ mxH := by
  have h1 := lost_at hr (i % lost.length)
  have h2 := by_at hr i
  have hm : mxH = 1048576 := rfl
  unfold hourT
  split <;> omega
theorem told_ok {t : Tl} {lost byl : List Int} (ht : okTale t = true) (hr : Raw t lost byl) : okTale (toldT t lost byl) = true := by
  unfold okTale at ht
  simp only [Bool.and_eq_true, decide_eq_true_eq] at ht
  obtain ⟨a1, a2, a3, a4, a5, a6, a7⟩ := ht
  have hn := inS_iff.1 a1
  unfold okTale toldT
  simp only [Bool.and_eq_true, decide_eq_true_eq, List.length_map, List.length_range]
  refine ⟨a1, a2, a3, by omega, a5, ?_, ?_⟩
  · rw [List.all_eq_true]
    intro x hx
    obtain ⟨i, -, rfl⟩ := List.mem_map.1 hx
    have hh := hour_at hr i
    unfold okLook lookT
    dsimp only
    generalize hourT lost byl i = H at *
    generalize (byl.getD ((i + 1) % byl.length) 0).toNat = s
    have hlt := tgL_lt H lost s lost.length
    have hb := tgL_bit H lost s
    have hz : (tgL H lost s lost.length).1 &&& (tgL H lost s lost.length).2 = 0 := Nat.eq_of_testBit_eq fun i => by
      rw [Nat.testBit_and, Nat.zero_testBit, Bool.and_eq_false_iff]
      cases h1 : (tgL H lost s lost.length).1.testBit i with
      | false => exact .inl rfl
      | true =>
        right
        cases h2 : (tgL H lost s lost.length).2.testBit i with
        | false => rfl
        | true =>
          have := ((hb i lost.length).1.1 h1).2.2
          have := ((hb i lost.length).2.1 h2).2.2
          omega
    clear hb
    have e : t.n.toNat = lost.length := by have := hr.len; omega
    rw [e]
    generalize tgL H lost s lost.length = r at *
    simp only [Bool.and_eq_true, inS_iff, decide_eq_true_eq]
    have hp : powI lost.length = ((2 ^ lost.length : Nat) : Int) := rfl
    rw [hp]
    generalize 2 ^ lost.length = P at *
    refine ⟨hh, ⟨by omega, by omega⟩, ⟨by omega, by omega⟩, ?_⟩
    rw [Int.toNat_natCast, Int.toNat_natCast]; exact hz
  · rw [List.all_eq_true]
    intro x hx
    obtain ⟨p, -, rfl⟩ := List.mem_map.1 hx
    have := many_le t.loans lost p lost.length
    have := hr.len
    unfold okAdm admT
    rw [inS_iff]
    split <;> omega
theorem told_fit {t : Tl} {lost byl : List Int} (ht : okTale t = true) (hr : Raw t lost byl) : FitBy (toldT t lost byl).n.toNat (suspB (toldT t lost byl)) (admA (toldT t lost byl).admits) (whoT t.loans lost) := by
  have ok := okT_of (told_ok ht hr)
  have okt := okT_of ht
  refine ⟨fun k hk => ?_, fun p m hm => ?_⟩
  · refine (susp_iff ok.lent ok.hours).2 ⟨lost.getD k 0, ⟨(lost_at hr k).1, (lost_at hr k).2, fun x hx => ?_⟩, rfl⟩
    obtain ⟨i, -, rfl⟩ := List.mem_map.1 hx
    unfold lookT ibit
    dsimp only
    rw [Int.toNat_natCast, Int.toNat_natCast]
    have hb := tgL_bit (hourT lost byl i) lost (byl.getD ((i + 1) % byl.length) 0).toNat k lost.length
    exact ⟨fun h => (hb.1.1 h).2.2, fun h => (hb.2.1 h).2.2⟩
  · have e : (toldT t lost byl).n.toNat = lost.length := by show t.n.toNat = _; have := hr.len; omega
    rw [e]
    have hadm : (toldT t lost byl).admits = (List.range t.admits.length).map (admT t.loans lost byl) := rfl
    rw [hadm] at hm
    unfold admA at hm
    rw [List.getElem?_map] at hm
    have ha := okt.a2
    by_cases hp : p < t.admits.length
    · rw [List.getElem?_range hp] at hm
      have hm : (if 0 ≤ admT t.loans lost byl p then some (admT t.loans lost byl p).toNat else none) = some m := hm
      rw [← many_cnt okt.lent lost (by omega)]
      unfold admT at hm
      by_cases h1 : byl.getD (p % byl.length) 0 % 2 = 1
      · rw [if_pos h1, if_pos (by omega)] at hm
        injection hm
      · rw [if_neg h1] at hm
        rw [if_neg (by decide)] at hm
        cases hm
    · rw [List.getElem?_eq_none (by rw [List.length_range]; omega)] at hm
      cases hm
/-! What the program answers then. -/
theorem told_who {t : Tl} {lost byl : List Int} (ht : okTale t = true) (hr : Raw t lost byl) {k : Nat} (hk : k < lost.length) :
    ∃ s : Nat, s < 256 ∧ whoS (toldT t lost byl) k = (s, 0) ∧ has s (whoT t.loans lost k) = true := by
  have hok := told_ok ht hr
  have ok := okT_of hok
  have hf := told_fit ht hr
  have hfb : fitB (toldT t lost byl) = true := (fitB_iff ok.lent ok.hours).2 ⟨_, hf⟩
  have hl := hr.len
  have hin : inS (k : Int) 0 ((toldT t lost byl).n - 1) = true := inS_iff.2 ⟨by omega, by show (k : Int) ≤ t.n - 1; omega⟩
  refine ⟨_, setB_lt _ _, whoS_of hok hin hfb, ?_⟩
  unfold has
  rw [setB_bit, Bool.and_eq_true]
  refine ⟨decide_eq_true (whoH_lt ok.lent _), ?_⟩
  rw [Int.toNat_natCast]
  have hk' : k < (toldT t lost byl).n.toNat := by show k < t.n.toNat; omega
  exact (whoB_iff ok.lent ok.hours hk').2 ⟨_, hf, rfl⟩
theorem told_win {t : Tl} {lost byl : List Int} (ht : okTale t = true) (hr : Raw t lost byl) {k : Nat} (hk : k < lost.length) :
    (winS (toldT t lost byl) k).e = 0 ∧ ((winS (toldT t lost byl) k).gone = true → lost.getD k 0 ≠ mxH) ∧ (lost.getD k 0 < mxH → (winS (toldT t lost byl) k).lo ≤ lost.getD k 0 ∧ lost.getD k 0 ≤ (winS (toldT t lost byl) k).hi) := by
  have hok := told_ok ht hr
  have ok := okT_of hok
  have hl := hr.len
  have hin : inS (k : Int) 0 ((toldT t lost byl).n - 1) = true := inS_iff.2 ⟨by omega, by show (k : Int) ≤ t.n - 1; omega⟩
  have hw : InW (toldT t lost byl).looks k (lost.getD k 0) := by
    refine ⟨(lost_at hr k).1, (lost_at hr k).2, fun x hx => ?_⟩
    obtain ⟨i, -, rfl⟩ := List.mem_map.1 hx
    unfold lookT ibit
    dsimp only
    rw [Int.toNat_natCast, Int.toNat_natCast]
    have hb := tgL_bit (hourT lost byl i) lost (byl.getD ((i + 1) % byl.length) 0).toNat k lost.length
    exact ⟨fun h => (hb.1.1 h).2.2, fun h => (hb.2.1 h).2.2⟩
  obtain ⟨h1, h2⟩ := (inW_iff _ _ _).1 hw
  have h3 := hw.2.1
  rw [winS_of hok hin, Int.toNat_natCast, if_neg (by omega)]
  by_cases hs : seenS (toldT t lost byl).looks k = mxH
  · rw [if_pos hs]
    exact ⟨rfl, fun h => (by cases h), fun h => absurd h (by omega)⟩
  · rw [if_neg hs]
    dsimp only
    refine ⟨rfl, fun h => ?_, fun h => ⟨h1, by omega⟩⟩
    have := of_decide_eq_true h
    omega
theorem told_hold {t : Tl} {lost byl : List Int} (ht : okTale t = true) (hr : Raw t lost byl) {k : Nat} (hk : lost.getD k 0 < mxH) :
    holderS (toldT t lost byl) (lost.getD k 0) = (holdR t.loans (lost.getD k 0), 0) ∧ whoT t.loans lost k = (if holdR t.loans (lost.getD k 0) = -1 then 6 else (holdR t.loans (lost.getD k 0)).toNat) ∧ -1 ≤ holdR t.loans (lost.getD k 0) ∧ holdR t.loans (lost.getD k 0) < t.admits.length := by
  have hok := told_ok ht hr
  have okt := okT_of ht
  have h1 := lost_at hr k
  refine ⟨?_, ?_⟩
  · unfold holderS
    rw [hok, if_neg (by decide), if_neg (by rw [inS_iff.2 ⟨h1.1, by have hm : mxH = 1048576 := rfl; omega⟩]; decide)]
    rfl
  · unfold whoT whoH holdR
    rw [if_neg (by omega)]
    cases e : holdS t.loans (lost.getD k 0) with
    | none => exact ⟨rfl, by decide, by show (-1 : Int) < _; omega⟩
    | some q =>
      obtain ⟨x, hx, -, rfl⟩ := holdS_of e
      have h2 := okt.lent.good x hx
      have h3 := okt.per x hx
      show x.p.toNat = (if x.p = -1 then 6 else x.p.toNat) ∧ -1 ≤ x.p ∧ x.p < _
      rw [if_neg (by omega)]
      exact ⟨rfl, by omega, h3⟩
theorem told_clash {t : Tl} {lost byl : List Int} (ht : okTale t = true) (hr : Raw t lost byl) : clashS (toldT t lost byl) = (0, 4) := by
  have hok := told_ok ht hr
  have ok := okT_of hok
  exact (clash_fit hok).1 ((fitB_iff ok.lent ok.hours).2 ⟨_, told_fit ht hr⟩)
theorem told_lost {t : Tl} {lost byl : List Int} (ht : okTale t = true) (hr : Raw t lost byl) {p : Nat} (hp : p < t.admits.length) :
    ∃ a b : Int, lostS (toldT t lost byl) p = ((a, b), 0) ∧ a ≤ manyT t.loans lost p lost.length ∧ manyT t.loans lost p lost.length ≤ b := by
  have hok := told_ok ht hr
  have ok := okT_of hok
  have okt := okT_of ht
  have hf := told_fit ht hr
  have hfb : fitB (toldT t lost byl) = true := (fitB_iff ok.lent ok.hours).2 ⟨_, hf⟩
  have hal : (toldT t lost byl).admits.length = t.admits.length := by
    show ((List.range t.admits.length).map _).length = _
    rw [List.length_map, List.length_range]
  have ha := okt.a2
  have hgd : (toldT t lost byl).admits.getD p 0 = admT t.loans lost byl p := by
    show ((List.range t.admits.length).map (admT t.loans lost byl)).getD p 0 = _
    rw [List.getD_eq_getElem?_getD, List.getElem?_map, List.getElem?_range hp]; rfl
  rw [lostS_of hok (inS_iff.2 ⟨by omega, by rw [hal]; omega⟩) hfb, Int.toNat_natCast, hgd]
  have e : (toldT t lost byl).n.toNat = lost.length := by show t.n.toNat = _; have := hr.len; omega
  by_cases h1 : byl.getD (p % byl.length) 0 % 2 = 1
  · have h2 : admT t.loans lost byl p = manyT t.loans lost p lost.length := if_pos h1
    rw [h2, if_pos (by omega)]
    exact ⟨_, _, rfl, Int.le_refl _, Int.le_refl _⟩
  · have h2 : admT t.loans lost byl p = -1 := if_neg h1
    rw [if_neg (by rw [h2]; exact fun h => h rfl)]
    refine ⟨_, _, rfl, ?_⟩
    have hml := many_le t.loans lost p lost.length
    have hn16 := okt.n2
    have hle := hr.len
    have oks : OkT (saysT (toldT t lost byl) p (manyT t.loans lost p lost.length)) := says_ok ok ⟨by omega, by omega⟩
    have hfs : fitB (saysT (toldT t lost byl) p (manyT t.loans lost p lost.length)) = true := by
      refine (fitB_iff oks.lent oks.hours).2 ⟨_, hf.can, fun q m hm => ?_⟩
      by_cases hq : q = p
      · subst hq
        have hm : admA ((toldT t lost byl).admits.set q (manyT t.loans lost q lost.length)) q = some m := hm
        unfold admA at hm
        rw [List.getElem?_set_self (by omega)] at hm
        have hm : (if (0 : Int) ≤ (manyT t.loans lost q lost.length : Int) then some (manyT t.loans lost q lost.length : Int).toNat else none) = some m := hm
        rw [if_pos (by omega)] at hm
        injection hm with hm
        show cntF _ q (toldT t lost byl).n.toNat = m
        rw [e, ← many_cnt okt.lent lost (by omega)]
        omega
      · refine hf.adm q m ?_
        have hm : admA ((toldT t lost byl).admits.set p (manyT t.loans lost p lost.length)) q = some m := hm
        unfold admA at hm ⊢
        rw [List.getElem?_set_ne (fun e => hq e.symm)] at hm
        exact hm
    have hfd := lost_found ok (p := p) (by omega) (by rw [hgd]; exact h2) hfb
    rcases lostL_spec (toldT t lost byl) p ((toldT t lost byl).n.toNat + 1) with ⟨e3, -⟩ | ⟨-, a, b, ha2, hb2, -, -, -, -, hall⟩
    · rw [hfd] at e3; cases e3
    have := hall (manyT t.loans lost p lost.length) (by omega) hfs
    rw [ha2, hb2]
    omega
/-! When pieces were lost. -/
def rawN (h : Int) (k : Nat) : Int := (h + 31 * k) % 4294967296 % 2097152
def lostN (t : Tl) (n : Int) : Int :=
  if t.loans.length = 0 ∨ n % 3 = 0 then min mxH n else
  min mxH (min 1048575 ((t.loans.getD (n.toNat % t.loans.length) ⟨0, 0, 0⟩).a + n / 4 % ((t.loans.getD (n.toNat % t.loans.length) ⟨0, 0, 0⟩).b - (t.loans.getD (n.toNat % t.loans.length) ⟨0, 0, 0⟩).a + 3)))
theorem lostN_in {t : Tl} (ok : OkT t) {n : Int} (hn : 0 ≤ n) : 0 ≤ lostN t n ∧ lostN t n ≤ mxH := by
  have hm : mxH = 1048576 := rfl
  unfold lostN
  split
  · omega
  · rename_i h
    have hlen : 0 < t.loans.length := by omega
    have hg := ok.lent.good _ (getD_mem (d := (⟨0, 0, 0⟩ : Loan)) (Nat.mod_lt n.toNat hlen))
    generalize t.loans.getD (n.toNat % t.loans.length) ⟨0, 0, 0⟩ = x at *
    have := Int.emod_nonneg (n / 4) (show x.b - x.a + 3 ≠ 0 by omega)
    omega
section
open Go.ChangeShapes Go.WideShapes Go.RowKit Go.Deep
/-! Slices of small numbers that came in as arguments. -/
def u16cell (n : Int) : List Value := [.int .u16 n]
def u32cell (n : Int) : List Value := [.int .u32 n]
section
variable {H : Type} {enc : TypeId × Value → H} {w : World}
theorem sU16 : Tryd.prog.underlying 41 = some (.slice 82) := by kernel_rfl
theorem kU16 : Tryd.prog.cellsOf 82 = 1 := by kernel_rfl
theorem uU16 : Tryd.prog.underlying 82 = some (.int .u16) := by kernel_rfl
set_option maxRecDepth 100000 in
theorem rd_u16s {b : Nat} {v : Value} {d : DataW H} {ps : List MemPlace} (hv : Value.okWide Tryd.prog w .any b 41 v) (h : DataW.Trod enc Tryd.prog w 0 (fun _ => true) true 41 v d ps) :
    ∃ (A : Option Addr) (c : Nat) (l : List Int), v = .slice A l.length c ∧ At w w.heap.size 1 u16cell A l ∧ l.length ≤ 9223372036854775807 ∧ ∀ x ∈ l, 0 ≤ x ∧ x < 65536 := by
  obtain ⟨a, len, cap, rfl⟩ := okWide_slice sU16 hv
  obtain ⟨fuel, hf⟩ := h
  obtain ⟨A, c, l, e, h1, h2, h3⟩ := rd_slice (α := Int) (size := 1) (cells := u16cell) (Good := fun x => 0 ≤ x ∧ x < 65536) sU16 kU16 (by omega) (fun m cs' h' => by
    obtain ⟨y, hy⟩ := h'
    obtain ⟨k, e, -, hw⟩ := DataW.trod_int uU16 hy
    refine ⟨k, e, ?_⟩
    simp [Lit.wf, IntKind.min, IntKind.max, IntKind.bits, IntKind.signed] at hw
    omega) (⟨_, hf⟩ : Rd enc w fuel 41 [.slice a len cap])
  injection e with e
  rw [e]
  exact ⟨A, c, l, rfl, h1, h2, h3.1⟩
theorem sU32 : Tryd.prog.underlying 40 = some (.slice 42) := by kernel_rfl
theorem kU32 : Tryd.prog.cellsOf 42 = 1 := by kernel_rfl
theorem uU32 : Tryd.prog.underlying 42 = some (.int .u32) := by kernel_rfl
set_option maxRecDepth 100000 in
theorem rd_u32s {b : Nat} {v : Value} {d : DataW H} {ps : List MemPlace} (hv : Value.okWide Tryd.prog w .any b 40 v) (h : DataW.Trod enc Tryd.prog w 0 (fun _ => true) true 40 v d ps) :
    ∃ (A : Option Addr) (c : Nat) (l : List Int), v = .slice A l.length c ∧ At w w.heap.size 1 u32cell A l ∧ l.length ≤ 9223372036854775807 ∧ ∀ x ∈ l, 0 ≤ x ∧ x < 4294967296 := by
  obtain ⟨a, len, cap, rfl⟩ := okWide_slice sU32 hv
  obtain ⟨fuel, hf⟩ := h
  obtain ⟨A, c, l, e, h1, h2, h3⟩ := rd_slice (α := Int) (size := 1) (cells := u32cell) (Good := fun x => 0 ≤ x ∧ x < 4294967296) sU32 kU32 (by omega) (fun m cs' h' => by
    obtain ⟨y, hy⟩ := h'
    obtain ⟨k, e, -, hw⟩ := DataW.trod_int uU32 hy
    refine ⟨k, e, ?_⟩
    simp [Lit.wf, IntKind.min, IntKind.max, IntKind.bits, IntKind.signed] at hw
    omega) (⟨_, hf⟩ : Rd enc w fuel 40 [.slice a len cap])
  injection e with e
  rw [e]
  exact ⟨A, c, l, rfl, h1, h2, h3.1⟩
end
end
open Go.RowKit
/-! The helper holder of LendTrue: it goes through the loans, and only reads. -/
def RHq (l : List Loan) (h : Int) (w : World) (i : Value) (wr : World) : Prop := ∃ k : Nat, k ≤ l.length ∧ i = .int .i64 k ∧ wr = w ∧ (l.take k).all (fun x => !inLoan h x) = true
set_option maxHeartbeats 1000000 in
theorem holder_any (A : Option Addr) (c : Nat) (l : List Loan) (h : Int) (B : Nat) (w : World) (hr : At w B 3 Loan.cells A l) (hl : l.length ≤ 9223372036854775807) : Calls Tryd.prog 26 #[.slice A l.length c, .int .i64 h] w (RetQ (.int .i64 (holdR l h)) w) := by
  have HR := Lib.hid hr
  clear hr
  go_enter Tryd.func26, Tryd.ntmps26
  go_wp2
  go_loopw [5] (fun i wr => RHq l h w i wr) (fun i _ => l.length - (intOf i).toNat)
  case atStart => exact ⟨0, by omega, rfl, rfl, rfl⟩
  case round =>
    obtain ⟨k, hk, rfl, rfl, hall⟩ := hrel
    by_cases hlt : k < l.length
    · obtain ⟨b, off, e, hbk, h0, h1, h2⟩ := loan_at HR.out hlt
      subst e
      have hg : l.getD k ⟨0, 0, 0⟩ = l[k] := by rw [List.getD_eq_getElem?_getD, List.getElem?_eq_getElem hlt]; rfl
      have Ha := Lib.hid (all_step (p := fun x => !inLoan h x) hlt hall)
      have Hf := Lib.hid (find_first (p := inLoan h) hlt hall)
      rw [← hg] at Ha Hf
      generalize l.getD k ⟨0, 0, 0⟩ = s at *
      have Hk := Lib.hid (show inLoan h s = (decide (s.a ≤ h) && decide (h < s.b)) from rfl)
      clear hall hg
      rcases chain2 (decide (s.a ≤ h)) (decide (h < s.b)) with a1 | ⟨a1, a2⟩ | ⟨a1, a2⟩
      rotate_right
      · go_wp2
        go_ret
        refine retq_int ?_
        unfold holdR holdS
        rw [Hf.out (by rw [Hk.out, a1, a2]; rfl)]; rfl
      all_goals
        go_wp2
        all_goals (first | (refine ⟨?_, ?_⟩; (unfold RHq; exact ⟨k + 1, by omega, by go_num, rfl, Ha.out (by rw [Hk.out]; simp [*])⟩); (simp [intOf]; omega)) | (go_roundw; (case rel => (unfold RHq; exact ⟨k + 1, by omega, by go_num, rfl, Ha.out (by rw [Hk.out]; simp [*])⟩)); (case measure => (simp [intOf]; omega))) | (go_round; (case rel => (unfold RHq; exact ⟨k + 1, by omega, by go_num, rfl, Ha.out (by rw [Hk.out]; simp [*])⟩)); (case measure => (simp [intOf]; omega))))
    · have hall := all_full hlt hall
      go_wp2
      go_ret
      refine retq_int ?_
      unfold holdR
      rw [holdS_none.2 (any_false hall)]; rfl
theorem own_far {w : World} {base e size n b : Nat} {v : Value} {xs : List Value} (h : w.ownsRow base e size v n xs) (hb : b < base) : v.ownBlock ≠ some b := fun e => by have := (h.lt b e).1; omega
theorem rem_idx {n : Nat} (h : 0 < n) (x : Nat) : ∃ k : Nat, k = x % n ∧ k < n ∧ Int.tmod (x : Int) (n : Int) = (k : Int) ∧ (x : Int) % (n : Int) = (k : Int) :=
  ⟨x % n, rfl, Nat.mod_lt _ h, by rw [Int.tmod_eq_emod_of_nonneg (by omega)]; rfl, rfl⟩
theorem wrap_pow {k : Nat} (hk : k ≤ 62) : IntKind.i64.wrap ((2 : Int) ^ k) = powI k := by
  have := Nat.pow_le_pow_right (n := 2) (by decide) hk
  unfold powI
  rw [show ((2 : Int) ^ k) = ((2 ^ k : Nat) : Int) by push_cast; rfl]
  exact IntWalk.i64_in _ (by generalize 2 ^ k = a at *; omega)
theorem bitI {x : Int} (h : 0 ≤ x) (k : Nat) : Go.bits .and .i64 (x / 2 ^ k) 1 = if ibit x k then 1 else 0 := by
  rw [and_one_i64]
  have h1 := has_eq x.toNat k
  rw [Int.toNat_of_nonneg h] at h1
  have e : powI k = (2 : Int) ^ k := by unfold powI; push_cast; rfl
  rw [e] at h1
  have h2 : ibit x k = has x.toNat k := rfl
  rw [h2, ← h1]
  rcases Int.emod_two_eq (x / 2 ^ k) with h | h <;> rw [h] <;> rfl
/-! Words for the helper told of LendTrue: what it makes, where that lies. -/
theorem u16_at {W : World} {B : Nat} {A : Option Addr} {l : List Int} (h : At W B 1 u16cell A l) {k : Nat} (hk : k < l.length) : ∃ b off, A = some ⟨b, off, none⟩ ∧ b < B ∧ W.cell? ⟨b, off + k, none⟩ = some (.int .u16 (l.getD k 0)) := by
  obtain ⟨b, off, e, hb, hc⟩ := h k (l.getD k 0) (by rw [List.getD_eq_getElem?_getD, List.getElem?_eq_getElem hk]; rfl)
  refine ⟨b, off, e, hb, ?_⟩
  have := hc 0 _ rfl
  rw [Nat.mul_one] at this
  exact this
theorem int_cell {W : World} {B b o : Nat} {l : List Int} (h : At W B 1 icell (some ⟨b, o, none⟩) l) {k : Nat} (hk : k < l.length) : W.cell? ⟨b, o + k, none⟩ = some (.int .i64 (l.getD k 0)) := by
  obtain ⟨b', o', e, -, hc⟩ := int_at h hk
  injection e with e
  injection e with q1 q2
  subst q1 q2
  exact hc
theorem u16_cell {W : World} {B b o : Nat} {l : List Int} (h : At W B 1 u16cell (some ⟨b, o, none⟩) l) {k : Nat} (hk : k < l.length) : W.cell? ⟨b, o + k, none⟩ = some (.int .u16 (l.getD k 0)) := by
  obtain ⟨b', o', e, -, hc⟩ := u16_at h hk
  injection e with e
  injection e with q1 q2
  subst q1 q2
  exact hc
theorem IBlk.grown {W W' : World} {row : Option Nat} {g n : Nat} {f : Nat → Int} (h : IBlk W g n f) (hg : W.grownBy W' row) (hne : row ≠ some g) : IBlk W' g n f := by
  have hb := hg.block g h.lt (fun e => hne e.symm)
  refine ⟨Nat.lt_of_lt_of_le h.lt hg.size, fun j hj => (World.cell?_of_block (a := ⟨g, j, none⟩) hb).trans (h.cell j hj), fun j => ?_⟩
  have := h.free j
  unfold World.frozen? at this ⊢
  rw [hb]; exact this
theorem IBlk.toAt {W : World} {g n : Nat} {f : Nat → Int} (h : IBlk W g n f) : At W W.heap.size 1 icell (some ⟨g, 0, none⟩) ((List.range n).map f) := fun k x hx => by
  rw [List.getElem?_map] at hx
  by_cases hk : k < n
  · rw [List.getElem?_range hk] at hx
    injection hx with hx
    refine ⟨g, 0, rfl, h.lt, fun j u hu => ?_⟩
    match j, hu with
    | 0, hu =>
      injection hu with hu
      rw [← hu, ← hx, Nat.zero_add, Nat.mul_one]
      exact h.cell k hk
  · rw [List.getElem?_eq_none (by rw [List.length_range]; omega)] at hx
    cases hx
def tcells (m : Mt) (v2 v3 : Value) : List Value := [.int .i64 m.t.n, .slice m.A1 m.t.loans.length m.c1, v2, v3]
/-- The tale that is made, where it lies, how many pieces each person lost, and what lay there before. -/
structure TAt (V : World) (b g B0 : Nat) (m : Mt) (f : Nat → Int) (v2 v3 : Value) (k : List Look) (a : List Int) (W : World) : Prop where
  lo : V.heap.size ≤ b
  bg : b < g
  gB : g < B0
  bw : Below V.heap.size V W
  x : Bx W b (tcells m v2 v3)
  blk : IBlk W g m.t.admits.length f
  o2 : W.ownsRow B0 50 3 v2 k.length (k.flatMap Look.cells)
  o3 : W.ownsRow B0 3 1 v3 a.length (a.flatMap icell)
section
variable {V W W' : World} {b g B0 : Nat} {m : Mt} {f : Nat → Int} {v2 v3 : Value} {k : List Look} {a : List Int}
theorem TAt.next (h : TAt V b g B0 m f v2 v3 k a W) (hb : Below W.heap.size W W') : TAt V b g B0 m f v2 v3 k a W' :=
  ⟨h.lo, h.bg, h.gB, h.bw.trans (hb.mono h.bw.size), h.x.next hb, h.blk.next hb, own_below h.o2 hb, own_below h.o3 hb⟩
theorem TAt.drewN (h : TAt V b g B0 m f v2 v3 k a W) (n : Nat) : TAt V b g B0 m f v2 v3 k a (W.drewN n) := h.next (below_drewN (Below.refl _ _) n)
theorem TAt.put (h : TAt V b g B0 m f v2 v3 k a W) {j : Nat} {x : Int} {f' : Nat → Int} (hj : j < m.t.admits.length) (hx : f' j = x) (ho : ∀ i, i ≠ j → f' i = f i) : TAt V b g B0 m f' v2 v3 k a (W.setCell ⟨g, j, none⟩ (.int .i64 x)) := by
  have hlo := h.lo
  have hbg := h.bg
  refine ⟨h.lo, h.bg, h.gB, h.bw.setCell (p := ⟨g, j, none⟩) (by show _ ≤ g; omega) _, ?_, h.blk.set_ hj hx ho, ownsRow_setCell_below h.o2 h.gB _, ownsRow_setCell_below h.o3 h.gB _⟩
  have hg : W.grownBy (W.setCell ⟨g, j, none⟩ (.int .i64 x)) (some g) := ⟨rfl, rfl, rfl, by simp, fun i _ hi => heap_setCell_other W ⟨g, j, none⟩ i _ (fun e => hi (by simp [e]))⟩
  exact h.x.grown hg (fun e => by injection e with e; omega)
theorem TAt.look (h : TAt V b g B0 m f v2 v3 k a W) {v : Value} {n : Nat} {xs : List Value} (hg : W.grownBy W' v2.ownBlock) (ho : W'.ownsRow B0 50 3 v n xs) {x : Look} (hn : n = k.length + 1) (hx : xs = k.flatMap Look.cells ++ x.cells) :
    Bx W' b (tcells m v2 v3) ∧ TAt V b g B0 m f v v3 (k ++ [x]) a (W'.setCell ⟨b, 2, none⟩ v) := by
  have hlo := h.lo
  have hbg := h.bg
  have hgB := h.gB
  have hx' := h.x.grown hg (own_far h.o2 (by omega))
  have hb' : Below V.heap.size V W' := grown_from h.bw hg h.bw.size (fun g e => by have := (h.o2.lt g e).1; omega)
  have hg1 : W'.grownBy (W'.setCell ⟨b, 2, none⟩ v) (some b) := ⟨rfl, rfl, rfl, by simp, fun i _ hi => heap_setCell_other W' ⟨b, 2, none⟩ i _ (fun e => hi (by simp [e]))⟩
  refine ⟨hx', ⟨h.lo, h.bg, h.gB, hb'.setCell (p := ⟨b, 2, none⟩) h.lo _, hx'.set (k := 2) (by simp [tcells]) _, (h.blk.grown hg (own_far h.o2 hgB)).grown hg1 (fun e => by injection e with e; omega), ?_, ?_⟩⟩
  · have e1 : (k ++ [x]).length = n := by rw [hn, List.length_append]; rfl
    have e2 : (k ++ [x]).flatMap Look.cells = xs := by rw [hx, List.flatMap_append, List.flatMap_cons, List.flatMap_nil, List.append_nil]
    rw [e1, e2]
    exact ownsRow_setCell_below ho (show b < B0 by omega) _
  · exact ownsRow_setCell_below (h.o3.kept hg (own_apart h.o3 h.o2 (by decide))) (show b < B0 by omega) _
theorem TAt.adm (h : TAt V b g B0 m f v2 v3 k a W) {v : Value} {n : Nat} {xs : List Value} (hg : W.grownBy W' v3.ownBlock) (ho : W'.ownsRow B0 3 1 v n xs) {x : Int} (hn : n = a.length + 1) (hx : xs = a.flatMap icell ++ icell x) :
    Bx W' b (tcells m v2 v3) ∧ TAt V b g B0 m f v2 v k (a ++ [x]) (W'.setCell ⟨b, 3, none⟩ v) := by
  have hlo := h.lo
  have hbg := h.bg
  have hgB := h.gB
  have hx' := h.x.grown hg (own_far h.o3 (by omega))
  have hb' : Below V.heap.size V W' := grown_from h.bw hg h.bw.size (fun g e => by have := (h.o3.lt g e).1; omega)
  have hg1 : W'.grownBy (W'.setCell ⟨b, 3, none⟩ v) (some b) := ⟨rfl, rfl, rfl, by simp, fun i _ hi => heap_setCell_other W' ⟨b, 3, none⟩ i _ (fun e => hi (by simp [e]))⟩
  refine ⟨hx', ⟨h.lo, h.bg, h.gB, hb'.setCell (p := ⟨b, 3, none⟩) h.lo _, hx'.set (k := 3) (by simp [tcells]) _, (h.blk.grown hg (own_far h.o3 hgB)).grown hg1 (fun e => by injection e with e; omega), ?_, ?_⟩⟩
  · exact ownsRow_setCell_below (h.o2.kept hg (own_apart h.o2 h.o3 (by decide))) (show b < B0 by omega) _
  · have e1 : (a ++ [x]).length = n := by rw [hn, List.length_append]; rfl
    have e2 : (a ++ [x]).flatMap icell = xs := by rw [hx, List.flatMap_append, List.flatMap_cons, List.flatMap_nil, List.append_nil]
    rw [e1, e2]
    exact ownsRow_setCell_below ho (show b < B0 by omega) _
/-- A store elsewhere. -/
theorem TAt.other (h : TAt V b g B0 m f v2 v3 k a W) (p : Addr) (u : Value) (hV : V.heap.size ≤ p.block) (hb : p.block ≠ b) (hg : p.block ≠ g) (h2 : v2.ownBlock ≠ some p.block) (h3 : v3.ownBlock ≠ some p.block) : TAt V b g B0 m f v2 v3 k a (W.setCell p u) := by
  have hgr : W.grownBy (W.setCell p u) (some p.block) := ⟨rfl, rfl, rfl, by simp, fun i _ hi => heap_setCell_other W p i _ (fun e => hi (by simp [e]))⟩
  exact ⟨h.lo, h.bg, h.gB, h.bw.setCell (p := p) hV _, h.x.grown hgr (fun e => by injection e with e; exact hb e), h.blk.grown hgr (fun e => by injection e with e; exact hg e), ownsRow_setCell_other h.o2 h2 _, ownsRow_setCell_other h.o3 h3 _⟩
theorem TAt.form (h : TAt V b g B0 m f v2 v3 k a W) : ∃ A2 c2 A3 c3, v2 = .slice A2 k.length c2 ∧ v3 = .slice A3 a.length c3 ∧ k.length ≤ c2 ∧ a.length ≤ c3 ∧ At W W.heap.size 3 Look.cells A2 k ∧ At W W.heap.size 1 icell A3 a := by
  obtain ⟨A2, c2, e2, h2⟩ := own_at (size := 3) (cells := Look.cells) (fun _ => rfl) (by omega) h.o2
  obtain ⟨A3, c3, e3, h3⟩ := own_at (size := 1) (cells := icell) (fun _ => rfl) (by omega) h.o3
  subst e2 e3
  have k2 : k.length ≤ c2 := by
    by_cases hl : 0 < k.length
    · exact own_le h.o2 hl
    · omega
  have k3 : a.length ≤ c3 := by
    by_cases hl : 0 < a.length
    · exact own_le h.o3 hl
    · omega
  exact ⟨A2, c2, A3, c3, rfl, rfl, k2, k3, h2, h3⟩
end
def toldM (m : Mt) (lost byl : List Int) (A2 : Option Addr) (c2 : Nat) (A3 : Option Addr) (c3 : Nat) : Mt := ⟨toldT m.t lost byl, m.A1, m.c1, A2, c2, A3, c3⟩
def manyL (t : Tl) (lost : List Int) : List Int := (List.range t.admits.length).map fun p => (manyT t.loans lost p lost.length : Int)
def RetTold (m : Mt) (lost byl : List Int) (w : World) (e : Ending) (w' : World) : Prop :=
  ∃ (A2 : Option Addr) (c2 : Nat) (A3 : Option Addr) (c3 : Nat) (A4 : Option Addr) (c4 : Nat), e = .returned (.tuple #[.agg #[.int .i64 m.t.n, .slice m.A1 m.t.loans.length m.c1, .slice A2 (toldT m.t lost byl).looks.length c2, .slice A3 (toldT m.t lost byl).admits.length c3], .slice A4 m.t.admits.length c4]) ∧ Below w.heap.size w w' ∧ TaleAt w' w'.heap.size (toldM m lost byl A2 c2 A3 c3) ∧ At w' w'.heap.size 1 icell A4 (manyL m.t lost)
end Go.Proofs.YtkcfpnpejaekjaaDoor
