import Derived.Test.YtkcfpnpejaekjaaDoorM2
namespace Go.Proofs.YtkcfpnpejaekjaaDoor
/-! Plain: a truth with a piece lost in a given hour. -/
def btw (t : Tl) (k : Nat) (h : Int) : Tl := { t with looks := t.looks ++ [⟨h, powI k, 0⟩, ⟨h + 1, 0, powI k⟩] }
def lastT (t : Tl) (k : Nat) : Tl := addL t ⟨mxH, powI k, 0⟩
theorem ibit_pow (k i : Nat) : ibit (powI k) i = decide (k = i) := by
  unfold ibit powI
  rw [Int.toNat_natCast, Nat.testBit_two_pow]
theorem ibit_zero (i : Nat) : ibit 0 i = false := by unfold ibit; exact Nat.zero_testBit i
theorem inW_btw {t : Tl} {k i : Nat} {h x : Int} : InW (btw t k h).looks i x ↔ InW t.looks i x ∧ (i = k → x = h) := by
  unfold InW btw
  constructor
  · rintro ⟨h1, h2, h3⟩
    refine ⟨⟨h1, h2, fun y hy => h3 y (List.mem_append_left _ hy)⟩, fun e => ?_⟩
    subst e
    have q1 := (h3 ⟨h, powI i, 0⟩ (by simp)).1 (by rw [ibit_pow]; simp)
    have q2 := (h3 ⟨h + 1, 0, powI i⟩ (by simp)).2 (by rw [ibit_pow]; simp)
    have q1 : h ≤ x := q1
    have q2 : x < h + 1 := q2
    omega
  · rintro ⟨⟨h1, h2, h3⟩, h4⟩
    refine ⟨h1, h2, fun y hy => ?_⟩
    rcases List.mem_append.1 hy with hy | hy
    · exact h3 y hy
    · simp only [List.mem_cons, List.not_mem_nil, or_false] at hy
      rcases hy with rfl | rfl
      · refine ⟨fun hb => ?_, fun hb => ?_⟩
        · have hb : ibit (powI k) i = true := hb
          rw [ibit_pow, decide_eq_true_eq] at hb
          have := h4 hb.symm
          show h ≤ x
          omega
        · have hb : ibit 0 i = true := hb
          rw [ibit_zero] at hb; cases hb
      · refine ⟨fun hb => ?_, fun hb => ?_⟩
        · have hb : ibit 0 i = true := hb
          rw [ibit_zero] at hb; cases hb
        · have hb : ibit (powI k) i = true := hb
          rw [ibit_pow, decide_eq_true_eq] at hb
          have := h4 hb.symm
          show x < h + 1
          omega
theorem inW_last {t : Tl} {k i : Nat} {x : Int} : InW (lastT t k).looks i x ↔ InW t.looks i x ∧ (i = k → x = mxH) := by
  unfold InW lastT addL
  constructor
  · rintro ⟨h1, h2, h3⟩
    refine ⟨⟨h1, h2, fun y hy => h3 y (List.mem_append_left _ hy)⟩, fun e => ?_⟩
    subst e
    have q1 := (h3 ⟨mxH, powI i, 0⟩ (by simp)).1 (by rw [ibit_pow]; simp)
    have q1 : mxH ≤ x := q1
    omega
  · rintro ⟨⟨h1, h2, h3⟩, h4⟩
    refine ⟨h1, h2, fun y hy => ?_⟩
    rcases List.mem_append.1 hy with hy | hy
    · exact h3 y hy
    · simp only [List.mem_cons, List.not_mem_nil, or_false] at hy
      subst hy
      refine ⟨fun hb => ?_, fun hb => ?_⟩
      · have hb : ibit (powI k) i = true := hb
        rw [ibit_pow, decide_eq_true_eq] at hb
        have := h4 hb.symm
        show mxH ≤ x
        omega
      · have hb : ibit 0 i = true := hb
        rw [ibit_zero] at hb; cases hb
theorem powI_lt {k n : Nat} (h : k < n) : 0 ≤ powI k ∧ powI k ≤ powI n - 1 := by
  have := Nat.pow_lt_pow_right (a := 2) (by decide) h
  show 0 ≤ ((2 ^ k : Nat) : Int) ∧ ((2 ^ k : Nat) : Int) ≤ ((2 ^ n : Nat) : Int) - 1
  generalize 2 ^ k = a at *
  generalize 2 ^ n = b at *
  omega
theorem look_there {n k : Nat} (hk : k < n) {h : Int} (h0 : 0 ≤ h) (h1 : h ≤ mxH) : okLook n ⟨h, powI k, 0⟩ = true := by
  have := powI_lt hk
  unfold okLook
  simp only [Bool.and_eq_true, inS_iff, decide_eq_true_eq]
  exact ⟨⟨h0, h1⟩, this, ⟨by omega, by omega⟩, Nat.and_zero _⟩
theorem look_gone {n k : Nat} (hk : k < n) {h : Int} (h0 : 0 ≤ h) (h1 : h ≤ mxH) : okLook n ⟨h, 0, powI k⟩ = true := by
  have := powI_lt hk
  unfold okLook
  simp only [Bool.and_eq_true, inS_iff, decide_eq_true_eq]
  exact ⟨⟨h0, h1⟩, ⟨by omega, by omega⟩, this, Nat.zero_and _⟩
theorem btw_ok {t : Tl} (h : okTale t = true) (hl : t.looks.length ≤ 18) {k : Nat} (hk : k < t.n.toNat) {x : Int} (h0 : 0 ≤ x) (h1 : x + 1 ≤ mxH) : okTale (btw t k x) = true := by
  unfold okTale at h
  unfold okTale btw
  simp only [Bool.and_eq_true, List.all_append, decide_eq_true_eq, List.length_append] at h ⊢
  obtain ⟨q1, q2, q3, q4, q5, q6, q7⟩ := h
  refine ⟨q1, q2, q3, by simp; omega, q5, ⟨q6, ?_⟩, q7⟩
  simp only [List.all_cons, List.all_nil, Bool.and_true, Bool.and_eq_true]
  exact ⟨look_there hk h0 (by omega), look_gone hk (by omega) h1⟩
theorem last_ok {t : Tl} (h : okTale t = true) (hl : t.looks.length ≤ 18) {k : Nat} (hk : k < t.n.toNat) : okTale (lastT t k) = true := by
  unfold okTale at h
  unfold okTale lastT addL
  simp only [Bool.and_eq_true, List.all_append, decide_eq_true_eq, List.length_append] at h ⊢
  obtain ⟨q1, q2, q3, q4, q5, q6, q7⟩ := h
  refine ⟨q1, q2, q3, by simp; omega, q5, ⟨q6, ?_⟩, q7⟩
  simp only [List.all_cons, List.all_nil, Bool.and_true]
  exact look_there hk (by decide) (Int.le_refl _)
/-- All truths in which a piece is lost in one hour. -/
theorem fit_pin {t x : Tl} (ok : OkT t) (okx : OkT x) (hn : x.n = t.n) (hlo : x.loans = t.loans) (had : x.admits = t.admits) {k : Nat} (hk : k < t.n.toNat) {h : Int} (hw : ∀ i y, InW x.looks i y ↔ InW t.looks i y ∧ (i = k → y = h)) :
    fitB x = true ↔ InW t.looks k h ∧ ∃ f, FitBy t.n.toNat (suspB t) (admA t.admits) f ∧ f k = whoH t.loans h := by
  rw [fitB_iff okx.lent okx.hours, hn, had]
  constructor
  · rintro ⟨f, hf⟩
    obtain ⟨y, hy, e⟩ := (susp_iff okx.lent okx.hours).1 (hf.can k hk)
    obtain ⟨hy1, hy2⟩ := (hw k y).1 hy
    obtain rfl := hy2 rfl
    refine ⟨hy1, f, ⟨fun i hi => ?_, hf.adm⟩, by rw [← e, hlo]⟩
    obtain ⟨z, hz, e⟩ := (susp_iff okx.lent okx.hours).1 (hf.can i hi)
    exact (susp_iff ok.lent ok.hours).2 ⟨z, ((hw i z).1 hz).1, by rw [← hlo]; exact e⟩
  · rintro ⟨hin, f, hf, e⟩
    refine ⟨f, fun i hi => ?_, hf.adm⟩
    refine (susp_iff okx.lent okx.hours).2 ?_
    by_cases hik : i = k
    · subst hik
      exact ⟨h, (hw i h).2 ⟨hin, fun _ => rfl⟩, by rw [hlo, e]⟩
    · obtain ⟨z, hz, e⟩ := (susp_iff ok.lent ok.hours).1 (hf.can i hi)
      exact ⟨z, (hw i z).2 ⟨hz, fun e => absurd e hik⟩, by rw [hlo]; exact e⟩
theorem fit_btw {t : Tl} (ht : okTale t = true) (hl : t.looks.length ≤ 18) {k : Nat} (hk : k < t.n.toNat) {x : Int} (h0 : 0 ≤ x) (h1 : x + 1 ≤ mxH) : fitB (btw t k x) = true ↔ InW t.looks k x ∧ whoB t k (whoH t.loans x) = true := by
  have ok := okT_of ht
  rw [whoB_iff ok.lent ok.hours hk]
  exact fit_pin ok (okT_of (btw_ok ht hl hk h0 h1)) rfl rfl rfl hk fun i y => inW_btw
theorem who_none {l : List Loan} (hl : Lent l) {h : Int} : whoH l h = 7 ↔ h = mxH := by
  unfold whoH
  constructor
  · intro e
    refine Classical.byContradiction fun hn => ?_
    rw [if_neg hn] at e
    cases hh : holdS l h with
    | none => rw [hh] at e; cases e
    | some p =>
      rw [hh] at e
      obtain ⟨x, hx, -, hp⟩ := holdS_of hh
      have := hl.good x hx
      have e : p.toNat = 7 := e
      omega
  · intro e; exact if_pos e
theorem fit_last {t : Tl} (ht : okTale t = true) (hl : t.looks.length ≤ 18) {k : Nat} (hk : k < t.n.toNat) : fitB (lastT t k) = true ↔ whoB t k 7 = true := by
  have ok := okT_of ht
  rw [whoB_iff ok.lent ok.hours hk, fit_pin ok (okT_of (last_ok ht hl hk)) (h := mxH) rfl rfl rfl hk (fun i y => inW_last), (who_none ok.lent).2 rfl]
  constructor
  · rintro ⟨-, h⟩; exact h
  · rintro ⟨f, hf, e⟩
    obtain ⟨y, hy, e2⟩ := (susp_iff ok.lent ok.hours).1 (hf.can k hk)
    rw [e] at e2
    rw [(who_none ok.lent).1 e2] at hy
    exact ⟨hy, f, hf, e⟩
/-- What clashes, as a code. -/
def codeC (t : Tl) : Int := (clashS t).2
theorem code_ok {t : Tl} (h : okTale t = true) : codeC t = if fitB t then 4 else 0 := by
  unfold codeC
  cases hf : fitB t
  · obtain ⟨c, e⟩ := (clash_fit h).2 hf; rw [e]; rfl
  · rw [(clash_fit h).1 hf]; rfl
theorem code_four {t : Tl} : codeC t = 4 ↔ okTale t = true ∧ fitB t = true := by
  cases h : okTale t
  · have : codeC t = 1 := by unfold codeC clashS; rw [h]; rfl
    rw [this]; simp
  · rw [code_ok h]; cases fitB t <;> simp
/-! Who can have lost it, found loan by loan. -/
def canL (t : Tl) (k : Nat) (lo hi : Int) : Nat → Nat
  | 0 => 0
  | i + 1 => let x := t.loans.getD i ⟨0, 0, 0⟩
    if max x.a lo < x.b ∧ max x.a lo ≤ hi ∧ fitB (btw t k (max x.a lo)) = true then canL t k lo hi i ||| 2 ^ x.p.toNat else canL t k lo hi i
theorem canL_bit (t : Tl) (k : Nat) (lo hi : Int) (p : Nat) : ∀ i : Nat, has (canL t k lo hi i) p = true ↔ ∃ j, j < i ∧ max (t.loans.getD j ⟨0, 0, 0⟩).a lo < (t.loans.getD j ⟨0, 0, 0⟩).b ∧ max (t.loans.getD j ⟨0, 0, 0⟩).a lo ≤ hi ∧ fitB (btw t k (max (t.loans.getD j ⟨0, 0, 0⟩).a lo)) = true ∧ (t.loans.getD j ⟨0, 0, 0⟩).p.toNat = p
  | 0 => by
    constructor
    · intro h; unfold has canL at h; rw [Nat.zero_testBit] at h; cases h
    · rintro ⟨j, hj, -⟩; omega
  | i + 1 => by
    have ih := canL_bit t k lo hi p i
    show has (if max (t.loans.getD i ⟨0, 0, 0⟩).a lo < (t.loans.getD i ⟨0, 0, 0⟩).b ∧ max (t.loans.getD i ⟨0, 0, 0⟩).a lo ≤ hi ∧ fitB (btw t k (max (t.loans.getD i ⟨0, 0, 0⟩).a lo)) = true then canL t k lo hi i ||| 2 ^ (t.loans.getD i ⟨0, 0, 0⟩).p.toNat else canL t k lo hi i) p = true ↔ _
    by_cases hc : max (t.loans.getD i ⟨0, 0, 0⟩).a lo < (t.loans.getD i ⟨0, 0, 0⟩).b ∧ max (t.loans.getD i ⟨0, 0, 0⟩).a lo ≤ hi ∧ fitB (btw t k (max (t.loans.getD i ⟨0, 0, 0⟩).a lo)) = true
    · rw [if_pos hc]
      unfold has at ih ⊢
      rw [Nat.testBit_or, Bool.or_eq_true, ih, Nat.testBit_two_pow, decide_eq_true_eq]
      constructor
      · rintro (⟨j, hj, h⟩ | h)
        · exact ⟨j, by omega, h⟩
        · exact ⟨i, by omega, hc.1, hc.2.1, hc.2.2, h⟩
      · rintro ⟨j, hj, h1, h2, h3, h4⟩
        by_cases e : j = i
        · subst e; exact .inr h4
        · exact .inl ⟨j, by omega, h1, h2, h3, h4⟩
    · rw [if_neg hc, ih]
      constructor
      · rintro ⟨j, hj, h⟩; exact ⟨j, by omega, h⟩
      · rintro ⟨j, hj, h1, h2, h3, h4⟩
        by_cases e : j = i
        · subst e; exact absurd ⟨h1, h2, h3⟩ hc
        · exact ⟨j, by omega, h1, h2, h3, h4⟩
theorem canL_lt {t : Tl} (hl : Lent t.loans) (k : Nat) (lo hi : Int) : ∀ i : Nat, i ≤ t.loans.length → canL t k lo hi i < 64
  | 0, _ => by show (0 : Nat) < 64; decide
  | i + 1, h => by
    have ih := canL_lt hl k lo hi i (by omega)
    have hm : t.loans.getD i ⟨0, 0, 0⟩ ∈ t.loans := List.mem_of_getElem? (loan_get (show i < t.loans.length by omega))
    have hp := hl.good _ hm
    show (if _ then canL t k lo hi i ||| 2 ^ (t.loans.getD i ⟨0, 0, 0⟩).p.toNat else canL t k lo hi i) < 64
    split
    · refine Nat.or_lt_two_pow (n := 6) ih ?_
      exact Nat.pow_lt_pow_right (by decide) (by omega)
    · exact ih
/-! The first hour that is not lent. -/
def stepU (l : List Loan) (h : Int) : Nat → Int
  | 0 => h
  | i + 1 => if inLoan (stepU l h i) (l.getD i ⟨0, 0, 0⟩) then (l.getD i ⟨0, 0, 0⟩).b else stepU l h i
def hourU (l : List Loan) (lo : Int) : Nat → Int
  | 0 => lo
  | i + 1 => stepU l (hourU l lo i) l.length
theorem inLoan_iff {h : Int} {x : Loan} : inLoan h x = true ↔ x.a ≤ h ∧ h < x.b := by unfold inLoan; rw [Bool.and_eq_true, decide_eq_true_eq, decide_eq_true_eq]
/-- How many loans are over. -/
def pastL (l : List Loan) (h : Int) : Nat := (l.filter fun x => decide (x.b ≤ h)).length
theorem past_le (l : List Loan) (h : Int) : pastL l h ≤ l.length := List.length_filter_le _ _
theorem past_mono {l : List Loan} {h h' : Int} (hh : h ≤ h') : pastL l h ≤ pastL l h' := by
  unfold pastL
  induction l with
  | nil => exact Nat.le_refl _
  | cons x l ih =>
    rw [List.filter_cons, List.filter_cons]
    by_cases h1 : x.b ≤ h
    · rw [if_pos (decide_eq_true h1), if_pos (decide_eq_true (show x.b ≤ h' by omega)), List.length_cons, List.length_cons]; omega
    · rw [if_neg (by simpa using h1)]
      split
      · rw [List.length_cons]; omega
      · exact ih
theorem past_more {l : List Loan} {h h' : Int} (hh : h ≤ h') {x : Loan} (hx : x ∈ l) (h1 : h < x.b) (h2 : x.b ≤ h') : pastL l h < pastL l h' := by
  unfold pastL
  induction l with
  | nil => cases hx
  | cons y l ih =>
    have hm : (l.filter fun x => decide (x.b ≤ h)).length ≤ (l.filter fun x => decide (x.b ≤ h')).length := past_mono hh
    rw [List.filter_cons, List.filter_cons]
    rcases List.mem_cons.1 hx with rfl | hx
    · rw [if_neg (by simpa using h1), if_pos (decide_eq_true h2), List.length_cons]; omega
    · have := ih hx
      by_cases h3 : y.b ≤ h
      · rw [if_pos (decide_eq_true h3), if_pos (decide_eq_true (show y.b ≤ h' by omega)), List.length_cons, List.length_cons]; omega
      · rw [if_neg (by simpa using h3)]
        split
        · rw [List.length_cons]; omega
        · exact this
theorem stepU_inv (l : List Loan) (h : Int) : ∀ i : Nat, i ≤ l.length → h ≤ stepU l h i ∧ (∀ y, h ≤ y → y < stepU l h i → ∃ x ∈ l, inLoan y x = true) ∧ ((stepU l h i = h ∧ ∀ j, j < i → inLoan h (l.getD j ⟨0, 0, 0⟩) = false) ∨ pastL l h < pastL l (stepU l h i))
  | 0, _ => ⟨Int.le_refl _, fun y h1 h2 => absurd h2 (by show ¬ y < h; omega), .inl ⟨rfl, fun j hj => by omega⟩⟩
  | i + 1, hi => by
    obtain ⟨h1, h2, h3⟩ := stepU_inv l h i (by omega)
    have hm : l.getD i ⟨0, 0, 0⟩ ∈ l := List.mem_of_getElem? (loan_get (show i < l.length by omega))
    show h ≤ (if inLoan (stepU l h i) (l.getD i ⟨0, 0, 0⟩) then (l.getD i ⟨0, 0, 0⟩).b else stepU l h i) ∧ (∀ y, h ≤ y → y < (if inLoan (stepU l h i) (l.getD i ⟨0, 0, 0⟩) then (l.getD i ⟨0, 0, 0⟩).b else stepU l h i) → ∃ x ∈ l, inLoan y x = true) ∧ (((if inLoan (stepU l h i) (l.getD i ⟨0, 0, 0⟩) then (l.getD i ⟨0, 0, 0⟩).b else stepU l h i) = h ∧ _) ∨ pastL l h < pastL l (if inLoan (stepU l h i) (l.getD i ⟨0, 0, 0⟩) then (l.getD i ⟨0, 0, 0⟩).b else stepU l h i))
    cases hin : inLoan (stepU l h i) (l.getD i ⟨0, 0, 0⟩)
    · rw [if_neg (by decide)]
      refine ⟨h1, h2, ?_⟩
      rcases h3 with ⟨e, h4⟩ | h4
      · refine .inl ⟨e, fun j hj => ?_⟩
        by_cases ej : j = i
        · subst ej; rw [e] at hin; exact hin
        · exact h4 j (by omega)
      · exact .inr h4
    · rw [if_pos rfl]
      have hb := inLoan_iff.1 hin
      refine ⟨by omega, fun y hy1 hy2 => ?_, .inr (past_more (by omega) hm (by omega) (Int.le_refl _))⟩
      by_cases hy : y < stepU l h i
      · exact h2 y hy1 hy
      · exact ⟨_, hm, inLoan_iff.2 ⟨by omega, hy2⟩⟩
theorem hourU_inv (l : List Loan) (lo : Int) : ∀ i : Nat, lo ≤ hourU l lo i ∧ (∀ y, lo ≤ y → y < hourU l lo i → ∃ x ∈ l, inLoan y x = true) ∧ ((∀ x ∈ l, inLoan (hourU l lo i) x = false) ∨ i ≤ pastL l (hourU l lo i))
  | 0 => ⟨Int.le_refl _, fun y h1 h2 => absurd h2 (by show ¬ y < lo; omega), .inr (Nat.zero_le _)⟩
  | i + 1 => by
    obtain ⟨h1, h2, h3⟩ := hourU_inv l lo i
    obtain ⟨g1, g2, g3⟩ := stepU_inv l (hourU l lo i) l.length (Nat.le_refl _)
    show lo ≤ stepU l (hourU l lo i) l.length ∧ (∀ y, lo ≤ y → y < stepU l (hourU l lo i) l.length → ∃ x ∈ l, inLoan y x = true) ∧ ((∀ x ∈ l, inLoan (stepU l (hourU l lo i) l.length) x = false) ∨ i + 1 ≤ pastL l (stepU l (hourU l lo i) l.length))
    refine ⟨by omega, fun y hy1 hy2 => ?_, ?_⟩
    · by_cases hy : y < hourU l lo i
      · exact h2 y hy1 hy
      · exact g2 y (by omega) hy2
    · rcases g3 with ⟨e, h4⟩ | h4
      · refine .inl fun x hx => ?_
        rw [e]
        obtain ⟨j, hj⟩ := List.getElem?_of_mem hx
        have hjl := (List.getElem?_eq_some_iff.1 hj).1
        have := h4 j hjl
        rwa [show l.getD j ⟨0, 0, 0⟩ = x by rw [List.getD_eq_getElem?_getD, hj]; rfl] at this
      · rcases h3 with h3 | h3
        · have : stepU l (hourU l lo i) l.length = hourU l lo i := by
            have : ∀ j, j ≤ l.length → stepU l (hourU l lo i) j = hourU l lo i := fun j => by
              induction j with
              | zero => intro _; rfl
              | succ j ih =>
                intro hj
                show (if inLoan (stepU l (hourU l lo i) j) (l.getD j ⟨0, 0, 0⟩) then _ else stepU l (hourU l lo i) j) = _
                rw [ih (by omega), h3 _ (List.mem_of_getElem? (loan_get (show j < l.length by omega)))]
                rfl
            exact this _ (Nat.le_refl _)
          rw [this] at h4
          omega
        · exact .inr (by omega)
theorem hourU_free (l : List Loan) (lo : Int) : ∀ x ∈ l, inLoan (hourU l lo (l.length + 1)) x = false := by
  rcases (hourU_inv l lo (l.length + 1)).2.2 with h | h
  · exact h
  · have := past_le l (hourU l lo (l.length + 1)); omega
theorem whoH_loan {l : List Loan} (hl : Lent l) {x : Loan} (hx : x ∈ l) {h : Int} (hh : inLoan h x = true) : whoH l h = x.p.toNat := by
  have := hl.good x hx
  have h1 := inLoan_iff.1 hh
  unfold whoH
  rw [if_neg (by omega), holdS_some hl hx hh]
theorem whoH_free {l : List Loan} {h : Int} (hh : ∀ x ∈ l, inLoan h x = false) (hn : h ≠ mxH) : whoH l h = 6 := by
  unfold whoH
  rw [if_neg hn, holdS_none.2 (by rw [List.any_eq_false]; intro x hx; rw [hh x hx]; decide)]
theorem sure_law {t : Tl} (ht : okTale t = true) (hl : t.looks.length ≤ 18) {k : Nat} (hk : k < t.n.toNat) (hw : seenS t.looks k < goneS t.looks k) :
    canL t k (seenS t.looks k) (min (goneS t.looks k) mxH - 1) t.loans.length ||| (if hourU t.loans (seenS t.looks k) (t.loans.length + 1) ≤ min (goneS t.looks k) mxH - 1 ∧ fitB (btw t k (hourU t.loans (seenS t.looks k) (t.loans.length + 1))) = true then 64 else 0) = setB (whoB t k) 8 &&& (2 ^ 64 - (128 + 1)) := by
  have ok := okT_of ht
  have hs0 := seenS_nonneg t.looks k
  obtain ⟨hH1, hH2, -⟩ := hourU_inv t.loans (seenS t.looks k) (t.loans.length + 1)
  have hH3 := hourU_free t.loans (seenS t.looks k)
  generalize hourU t.loans (seenS t.looks k) (t.loans.length + 1) = H at *
  refine bits_eq fun p => ?_
  rw [Bool.eq_iff_iff, Nat.testBit_or, Bool.or_eq_true, Nat.testBit_and, setB_bit, Nat.testBit_two_pow_sub_succ (by decide), Bool.and_eq_true, Bool.and_eq_true, Bool.and_eq_true]
  have h128 : (128 : Nat).testBit p = decide (7 = p) := by rw [show (128 : Nat) = 2 ^ 7 from rfl, Nat.testBit_two_pow]
  rw [h128]
  have hcb := canL_bit t k (seenS t.looks k) (min (goneS t.looks k) mxH - 1) p t.loans.length
  unfold has at hcb
  rw [hcb]
  have h6 : (if H ≤ min (goneS t.looks k) mxH - 1 ∧ fitB (btw t k H) = true then 64 else 0 : Nat).testBit p = true ↔ (H ≤ min (goneS t.looks k) mxH - 1 ∧ fitB (btw t k H) = true) ∧ 6 = p := by
    by_cases hc : H ≤ min (goneS t.looks k) mxH - 1 ∧ fitB (btw t k H) = true
    · rw [if_pos hc, show (64 : Nat) = 2 ^ 6 from rfl, Nat.testBit_two_pow, decide_eq_true_eq]
      exact ⟨fun h => ⟨hc, h⟩, fun h => h.2⟩
    · rw [if_neg hc, Nat.zero_testBit]
      exact ⟨fun h => (by cases h), fun h => absurd h.1 hc⟩
  rw [h6]
  constructor
  · rintro (⟨j, hj, h1, h2, h3, h4⟩ | ⟨⟨h1, h2⟩, h3⟩)
    · have hm : t.loans.getD j ⟨0, 0, 0⟩ ∈ t.loans := List.mem_of_getElem? (loan_get hj)
      generalize t.loans.getD j ⟨0, 0, 0⟩ = x at *
      have hg := ok.lent.good x hm
      have h5 := ((fit_btw ht hl hk (by omega) (by omega)).1 h3).2
      rw [whoH_loan ok.lent hm (inLoan_iff.2 ⟨by omega, h1⟩), h4] at h5
      refine ⟨⟨decide_eq_true (by omega), h5⟩, decide_eq_true (by omega), ?_⟩
      rw [decide_eq_false (by omega)]; rfl
    · have h5 := ((fit_btw ht hl hk (by omega) (by omega)).1 h2).2
      rw [whoH_free hH3 (by omega), h3] at h5
      refine ⟨⟨decide_eq_true (by omega), h5⟩, decide_eq_true (by omega), ?_⟩
      rw [decide_eq_false (by omega)]; rfl
  · rintro ⟨⟨h1, h2⟩, -, h3⟩
    rw [decide_eq_true_eq] at h1
    have h3 : ¬ 7 = p := by simpa using h3
    obtain ⟨f, hf, e⟩ := (whoB_iff ok.lent ok.hours hk).1 h2
    obtain ⟨y, hy, e2⟩ := (susp_iff ok.lent ok.hours).1 (hf.can k hk)
    rw [e] at e2
    have hyw := (inW_iff _ _ _).1 hy
    have hym : y ≠ mxH := fun e3 => by rw [(who_none ok.lent).2 e3] at e2; exact h3 e2
    have hyb := hy.2.1
    cases hh : holdS t.loans y with
    | some q =>
      obtain ⟨x, hx, hin, hq⟩ := holdS_of hh
      obtain ⟨j, hj⟩ := List.getElem?_of_mem hx
      have hjl := (List.getElem?_eq_some_iff.1 hj).1
      have hxy := inLoan_iff.1 hin
      have hp : x.p.toNat = p := by rw [← e2, whoH_loan ok.lent hx hin]
      refine .inl ⟨j, hjl, ?_⟩
      rw [show t.loans.getD j ⟨0, 0, 0⟩ = x by rw [List.getD_eq_getElem?_getD, hj]; rfl]
      have hg := ok.lent.good x hx
      refine ⟨by omega, by omega, (fit_btw ht hl hk (by omega) (by omega)).2 ⟨(inW_iff _ _ _).2 ⟨by omega, by omega⟩, ?_⟩, hp⟩
      rw [whoH_loan ok.lent hx (inLoan_iff.2 ⟨by omega, by omega⟩), hp]
      exact h2
    | none =>
      have hp : 6 = p := by rw [← e2]; unfold whoH; rw [if_neg hym, hh]
      have hfr := holdS_none.1 hh
      have hHy : H ≤ y := Classical.byContradiction fun hn => by
        obtain ⟨x, hx, hin⟩ := hH2 y hyw.1 (by omega)
        rw [List.any_eq_false] at hfr
        exact hfr x hx hin
      refine .inr ⟨⟨by omega, (fit_btw ht hl hk (by omega) (by omega)).2 ⟨(inW_iff _ _ _).2 ⟨by omega, by omega⟩, ?_⟩⟩, hp⟩
      rw [whoH_free hH3 (by omega), hp]
      exact h2
theorem sure_empty {t : Tl} (ht : okTale t = true) (hl : t.looks.length ≤ 18) {k : Nat} (hk : k < t.n.toNat) (hs : seenS t.looks k = mxH) : fitB (btw t k 0) = false := by
  cases h : fitB (btw t k 0) with
  | false => rfl
  | true =>
    have := ((fit_btw ht hl hk (Int.le_refl _) (by decide)).1 h).1
    have := (inW_iff _ _ _).1 this
    rw [hs] at this
    exact absurd this.1 (by decide)
theorem fit_window {t : Tl} (ok : OkT t) (hf : fitB t = true) {k : Nat} (hk : k < t.n.toNat) : seenS t.looks k < goneS t.looks k := by
  obtain ⟨f, hfit⟩ := (fitB_iff ok.lent ok.hours).1 hf
  obtain ⟨x, hx, -⟩ := (susp_iff ok.lent ok.hours).1 (hfit.can k hk)
  have := (inW_iff _ _ _).1 hx
  omega
theorem whoB_some {t : Tl} (ok : OkT t) (hf : fitB t = true) {k : Nat} (hk : k < t.n.toNat) : ∃ p, p < 8 ∧ whoB t k p = true := by
  obtain ⟨f, hfit⟩ := (fitB_iff ok.lent ok.hours).1 hf
  exact ⟨f k, suspB_lt ok.lent ok.hours _ _ (hfit.can k hk), (whoB_iff ok.lent ok.hours hk).2 ⟨f, hfit, rfl⟩⟩
theorem whoB_gone {t : Tl} (ok : OkT t) {k : Nat} (hk : k < t.n.toNat) (hg : goneS t.looks k ≤ mxH) : whoB t k 7 = false := by
  cases h : whoB t k 7 with
  | false => rfl
  | true =>
    obtain ⟨f, hf, e⟩ := (whoB_iff ok.lent ok.hours hk).1 h
    obtain ⟨y, hy, e2⟩ := (susp_iff ok.lent ok.hours).1 (hf.can k hk)
    rw [e] at e2
    rw [(who_none ok.lent).1 e2] at hy
    have := (inW_iff _ _ _).1 hy
    omega
theorem and_one_i64 (n : Int) : Go.bits .and .i64 n 1 = n % 2 := by
  have h1 : (BitVec.ofInt 64 1).toNat = 2 ^ 1 - 1 := by decide
  have key : (BitVec.ofInt 64 n &&& BitVec.ofInt 64 1).toNat = (n % ((2 ^ 64 : Nat) : Int)).toNat % 2 ^ 1 := by
    rw [BitVec.toNat_and, BitVec.toNat_ofInt, h1, Nat.and_two_pow_sub_one_eq_mod]
  show IntKind.i64.wrap ((BitVec.ofInt 64 n &&& BitVec.ofInt 64 1).toNat : Nat) = n % 2
  rw [key, IntKind.wrap_i64]
  omega
theorem bit7 (set : Nat) : Go.bits .and .i64 ((set : Int) / 128) 1 = if has set 7 then 1 else 0 := by
  rw [and_one_i64]
  have h := has_eq set 7
  have e : powI 7 = 128 := by unfold powI; rfl
  rw [e] at h
  rw [← h]
  have := Int.emod_two_eq ((set : Int) / 128)
  rcases this with h | h <;> rw [h] <;> rfl
theorem sure_cases (t : Tl) (p : Int) : (okTale t = false ∧ whoS t p = (0, 1)) ∨ (okTale t = true ∧ whoS t p = (0, 2)) ∨ (okTale t = true ∧ whoS t p = (0, 6)) ∨ (okTale t = true ∧ fitB t = true ∧ ∃ k : Nat, p = k ∧ k < t.n.toNat ∧ whoS t p = (setB (whoB t k) 8, 0)) := by
  cases ht : okTale t
  · exact .inl ⟨rfl, by unfold whoS; rw [ht]; rfl⟩
  · cases hi : inS p 0 (t.n - 1)
    · exact .inr (.inl ⟨rfl, by unfold whoS; rw [ht, hi]; rfl⟩)
    · cases hf : fitB t
      · exact .inr (.inr (.inl ⟨rfl, by unfold whoS; rw [ht, hi, hf]; rfl⟩))
      · have := inS_iff.1 hi
        refine .inr (.inr (.inr ⟨rfl, rfl, p.toNat, by omega, by omega, ?_⟩))
        rw [whoS_of ht hi hf]
end Go.Proofs.YtkcfpnpejaekjaaDoor
