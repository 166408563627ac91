import Derived.Test.YtkcfpnpejaekjaaDoorCan
namespace Go.Proofs.YtkcfpnpejaekjaaDoor
/-! Plain: tales; when a piece can have been lost, and by whom. -/
structure Loan where
  p : Int
  a : Int
  b : Int
structure Look where
  h : Int
  there : Int
  gone : Int
structure Tl where
  n : Int
  loans : List Loan
  looks : List Look
  admits : List Int
/-- The last hour. -/
abbrev mxH : Int := 1048576
def ibit (x : Int) (k : Nat) : Bool := x.toNat.testBit k
def inS (n low high : Int) : Bool := decide (low ≤ n) && decide (n ≤ high)
def powI (n : Nat) : Int := ((2 ^ n : Nat) : Int)
def has (set n : Nat) : Bool := set.testBit n
theorem inS_iff {n low high : Int} : inS n low high = true ↔ low ≤ n ∧ n ≤ high := by unfold inS; rw [Bool.and_eq_true, decide_eq_true_eq, decide_eq_true_eq]
def okLook (n : Nat) (s : Look) : Bool := inS s.h 0 mxH && (inS s.there 0 (powI n - 1) && (inS s.gone 0 (powI n - 1) && decide (s.there.toNat &&& s.gone.toNat = 0)))
def crossL (x y : Loan) : Bool := decide (x.a < y.b) && decide (y.a < x.b)
def okLoan (m : Nat) (x : Loan) : Bool := inS x.p 0 (m - 1) && (inS x.a 0 1048575 && inS x.b (x.a + 1) mxH)
def okAdm (m : Int) : Bool := inS m (-1) 16
/-- Each loan is good, and has no hour in common with an earlier one. -/
def okLoans (m : Nat) : List Loan → List Loan → Bool
  | _, [] => true
  | e, x :: l => okLoan m x && !(e.any (crossL x)) && okLoans m (e ++ [x]) l
def okTale (t : Tl) : Bool :=
  inS t.n 1 16 && (inS t.admits.length 1 6 && (decide ((t.loans.length : Int) ≤ 12) && (decide ((t.looks.length : Int) ≤ 20) && (okLoans t.admits.length [] t.loans && (t.looks.all (okLook t.n.toNat) && t.admits.all okAdm)))))
/-! Windows. -/
def seenS (l : List Look) (k : Nat) : Int := l.foldl (fun s x => if ibit x.there k then max s x.h else s) 0
def goneS (l : List Look) (k : Nat) : Int := l.foldl (fun s x => if ibit x.gone k then min s x.h else s) (mxH + 1)
theorem seen_foldl (k : Nat) (y : Int) : ∀ (l : List Look) (s : Int), l.foldl (fun s x => if ibit x.there k then max s x.h else s) s ≤ y ↔ s ≤ y ∧ ∀ x ∈ l, ibit x.there k = true → x.h ≤ y
  | [], s => by simp
  | x :: l, s => by
    rw [List.foldl_cons, seen_foldl k y l]
    simp only [List.mem_cons, forall_eq_or_imp]
    cases ibit x.there k
    · simp
    · rw [if_pos rfl]
      constructor
      · rintro ⟨h1, h2⟩; exact ⟨by omega, fun _ => by omega, h2⟩
      · rintro ⟨h1, h2, h3⟩; exact ⟨by have := h2 rfl; omega, h3⟩
theorem gone_foldl (k : Nat) (y : Int) : ∀ (l : List Look) (s : Int), y < l.foldl (fun s x => if ibit x.gone k then min s x.h else s) s ↔ y < s ∧ ∀ x ∈ l, ibit x.gone k = true → y < x.h
  | [], s => by simp
  | x :: l, s => by
    rw [List.foldl_cons, gone_foldl k y l]
    simp only [List.mem_cons, forall_eq_or_imp]
    cases ibit x.gone k
    · simp
    · rw [if_pos rfl]
      constructor
      · rintro ⟨h1, h2⟩; exact ⟨by omega, fun _ => by omega, h2⟩
      · rintro ⟨h1, h2, h3⟩; exact ⟨by have := h2 rfl; omega, h3⟩
/-- An hour in which all looks let a piece be lost (the last one: it was not). -/
def InW (l : List Look) (k : Nat) (h : Int) : Prop := 0 ≤ h ∧ h ≤ mxH ∧ ∀ x ∈ l, (ibit x.there k = true → x.h ≤ h) ∧ (ibit x.gone k = true → h < x.h)
theorem inW_iff (l : List Look) (k : Nat) (h : Int) : InW l k h ↔ seenS l k ≤ h ∧ h < goneS l k := by
  unfold InW seenS goneS
  rw [seen_foldl, gone_foldl]
  constructor
  · rintro ⟨h1, h2, h3⟩
    exact ⟨⟨h1, fun x hx => (h3 x hx).1⟩, by omega, fun x hx => (h3 x hx).2⟩
  · rintro ⟨⟨h1, h2⟩, h3, h4⟩
    exact ⟨h1, by omega, fun x hx => ⟨h2 x hx, h4 x hx⟩⟩
theorem seenS_nonneg (l : List Look) (k : Nat) : 0 ≤ seenS l k := Classical.byContradiction fun hn => by
  have h1 : seenS l k ≤ -1 := by omega
  unfold seenS at h1
  rw [seen_foldl] at h1
  have := h1.1; omega
theorem seenS_le {l : List Look} {k : Nat} (hl : ∀ x ∈ l, x.h ≤ mxH) : seenS l k ≤ mxH := by
  unfold seenS
  rw [seen_foldl]
  exact ⟨by decide, fun x hx _ => hl x hx⟩
theorem goneS_le (l : List Look) (k : Nat) : goneS l k ≤ mxH + 1 := Classical.byContradiction fun hn => by
  have h1 : mxH + 1 < goneS l k := by omega
  unfold goneS at h1
  rw [gone_foldl] at h1
  have := h1.1; omega
theorem goneS_nonneg {l : List Look} {k : Nat} (hl : ∀ x ∈ l, 0 ≤ x.h) : 0 ≤ goneS l k := by
  have : -1 < goneS l k := by
    unfold goneS
    rw [gone_foldl]
    exact ⟨by decide, fun x hx _ => by have := hl x hx; omega⟩
  omega
/-! Who has the puzzle. -/
def inLoan (h : Int) (x : Loan) : Bool := decide (x.a ≤ h) && decide (h < x.b)
def holdS (l : List Loan) (h : Int) : Option Int := (l.find? (inLoan h)).map Loan.p
/-- Who loses what is lost in an hour: a person, the library, or nobody. -/
def whoH (l : List Loan) (h : Int) : Nat :=
  if h = mxH then 7 else match holdS l h with
    | some p => p.toNat
    | none => 6
def ovl (x : Loan) (lo hi : Int) : Int := min x.b hi - max x.a lo
/-- The suspects among persons, and how many hours are lent. -/
def lentS (lo hi : Int) (l : List Loan) : Nat × Int := l.foldl (fun s x => if 0 < ovl x lo hi then (s.1 ||| 2 ^ x.p.toNat, s.2 + ovl x lo hi) else s) (0, 0)
def susp (l : List Loan) (s : List Look) (k : Nat) : Nat :=
  if goneS s k ≤ seenS s k then 0 else
    (lentS (seenS s k) (min (goneS s k) mxH) l).1 ||| (if (lentS (seenS s k) (min (goneS s k) mxH) l).2 < min (goneS s k) mxH - seenS s k then 64 else 0) ||| (if goneS s k = mxH + 1 then 128 else 0)
/-! Hours are counted. -/
def cntH (P : Int → Bool) (lo : Int) : Nat → Nat
  | 0 => 0
  | m + 1 => cntH P lo m + if P (lo + m) then 1 else 0
theorem cntH_lt {P : Int → Bool} {lo : Int} : ∀ {m : Nat}, cntH P lo m < m ↔ ∃ i : Nat, i < m ∧ P (lo + i) = false
  | 0 => ⟨fun h => by omega, fun ⟨i, h, _⟩ => by omega⟩
  | m + 1 => by
    have ih := cntH_lt (P := P) (lo := lo) (m := m)
    have hle : ∀ m, cntH P lo m ≤ m := fun m => by
      induction m with
      | zero => exact Nat.le_refl _
      | succ m ih => show cntH P lo m + (if P (lo + m) then 1 else 0) ≤ m + 1; split <;> omega
    have := hle m
    show cntH P lo m + (if P (lo + m) then 1 else 0) < m + 1 ↔ _
    cases h : P (lo + m)
    · rw [if_neg (by decide)]
      exact ⟨fun _ => ⟨m, by omega, h⟩, fun _ => by omega⟩
    · rw [if_pos rfl]
      constructor
      · intro h1
        obtain ⟨i, hi, h2⟩ := ih.1 (by omega)
        exact ⟨i, by omega, h2⟩
      · rintro ⟨i, hi, h2⟩
        have : i ≠ m := fun e => by subst e; rw [h] at h2; cases h2
        have := ih.2 ⟨i, by omega, h2⟩
        omega
theorem cntH_loan (x : Loan) (lo : Int) : ∀ m : Nat, (cntH (fun h => inLoan h x) lo m : Int) = max 0 (ovl x lo (lo + m))
  | 0 => by unfold ovl; show (0 : Int) = _; omega
  | m + 1 => by
    have ih := cntH_loan x lo m
    show ((cntH (fun h => inLoan h x) lo m + (if inLoan (lo + m) x then 1 else 0) : Nat) : Int) = _
    unfold ovl at ih ⊢
    have hi : inLoan (lo + m) x = true ↔ x.a ≤ lo + m ∧ lo + m < x.b := by unfold inLoan; rw [Bool.and_eq_true, decide_eq_true_eq, decide_eq_true_eq]
    by_cases h : x.a ≤ lo + m ∧ lo + m < x.b
    · rw [if_pos (hi.2 h)]
      push_cast
      rw [ih]; omega
    · rw [if_neg (fun e => h (hi.1 e))]
      push_cast
      rw [Int.add_zero, ih]
      omega
theorem cntH_or {P Q : Int → Bool} {lo : Int} (hx : ∀ h, ¬ (P h = true ∧ Q h = true)) : ∀ m : Nat, cntH (fun h => P h || Q h) lo m = cntH P lo m + cntH Q lo m
  | 0 => rfl
  | m + 1 => by
    show cntH _ lo m + (if (P (lo + m) || Q (lo + m)) then 1 else 0) = cntH P lo m + (if P (lo + m) then 1 else 0) + (cntH Q lo m + (if Q (lo + m) then 1 else 0))
    rw [cntH_or hx m]
    have := hx (lo + m)
    cases hp : P (lo + m) <;> cases hq : Q (lo + m)
    · simp
    · simp; omega
    · simp; omega
    · exact absurd ⟨hp, hq⟩ this
/-- Loans none of which has an hour in common with another one. -/
def Apart : List Loan → Prop
  | [] => True
  | x :: l => (∀ y ∈ l, crossL x y = false) ∧ Apart l
theorem not_both {x y : Loan} (h : crossL x y = false) (t : Int) : ¬ (inLoan t x = true ∧ inLoan t y = true) := by
  unfold crossL at h
  unfold inLoan
  rw [Bool.and_eq_true, Bool.and_eq_true, decide_eq_true_eq, decide_eq_true_eq, decide_eq_true_eq, decide_eq_true_eq]
  rw [Bool.and_eq_false_iff, decide_eq_false_iff_not, decide_eq_false_iff_not] at h
  omega
def sumO (lo hi : Int) : List Loan → Int
  | [] => 0
  | x :: l => max 0 (ovl x lo hi) + sumO lo hi l
theorem cntH_held (lo : Int) (m : Nat) : ∀ l : List Loan, Apart l → (cntH (fun h => l.any (inLoan h)) lo m : Int) = sumO lo (lo + m) l
  | [], _ => by
    have : ∀ m, cntH (fun h => ([] : List Loan).any (inLoan h)) lo m = 0 := fun m => by
      induction m with
      | zero => rfl
      | succ m ih => show cntH _ lo m + 0 = 0; rw [ih]
    rw [this]; rfl
  | x :: l, h => by
    have h1 := cntH_or (P := fun h => inLoan h x) (Q := fun h => l.any (inLoan h)) (lo := lo) (fun t ht => by
      obtain ⟨y, hy, h2⟩ := List.any_eq_true.1 ht.2
      exact not_both (h.1 y hy) t ⟨ht.1, h2⟩) m
    have h2 : (fun h => (x :: l).any (inLoan h)) = fun h => inLoan h x || l.any (inLoan h) := by funext t; rw [List.any_cons]
    rw [h2, h1]
    push_cast
    rw [cntH_loan, cntH_held lo m l h.2]; rfl
theorem lentS_foldl (lo hi : Int) : ∀ (l : List Loan) (s : Nat × Int), (l.foldl (fun s x => if 0 < ovl x lo hi then (s.1 ||| 2 ^ x.p.toNat, s.2 + ovl x lo hi) else s) s).2 = s.2 + sumO lo hi l ∧ ∀ p, (l.foldl (fun s x => if 0 < ovl x lo hi then (s.1 ||| 2 ^ x.p.toNat, s.2 + ovl x lo hi) else s) s).1.testBit p = true ↔ s.1.testBit p = true ∨ ∃ x ∈ l, 0 < ovl x lo hi ∧ x.p.toNat = p
  | [], s => ⟨by show s.2 = s.2 + 0; omega, fun p => by simp⟩
  | x :: l, s => by
    rw [List.foldl_cons]
    obtain ⟨h1, h2⟩ := lentS_foldl lo hi l (if 0 < ovl x lo hi then (s.1 ||| 2 ^ x.p.toNat, s.2 + ovl x lo hi) else s)
    refine ⟨?_, fun p => ?_⟩
    · rw [h1]
      show _ = s.2 + (max 0 (ovl x lo hi) + sumO lo hi l)
      by_cases h : 0 < ovl x lo hi
      · rw [if_pos h]; show s.2 + ovl x lo hi + _ = _; omega
      · rw [if_neg h]; omega
    · rw [h2]
      by_cases h : 0 < ovl x lo hi
      · rw [if_pos h]
        show (s.1 ||| 2 ^ x.p.toNat).testBit p = true ∨ _ ↔ _
        rw [Nat.testBit_or, Bool.or_eq_true, Nat.testBit_two_pow, decide_eq_true_eq]
        constructor
        · rintro ((h3 | h3) | ⟨y, hy, h3⟩)
          · exact .inl h3
          · exact .inr ⟨x, List.mem_cons_self .., h, h3⟩
          · exact .inr ⟨y, List.mem_cons_of_mem _ hy, h3⟩
        · rintro (h3 | ⟨y, hy, h3⟩)
          · exact .inl (.inl h3)
          · rcases List.mem_cons.1 hy with rfl | hy
            · exact .inl (.inr h3.2)
            · exact .inr ⟨y, hy, h3⟩
      · rw [if_neg h]
        constructor
        · rintro (h3 | ⟨y, hy, h3⟩)
          · exact .inl h3
          · exact .inr ⟨y, List.mem_cons_of_mem _ hy, h3⟩
        · rintro (h3 | ⟨y, hy, h3⟩)
          · exact .inl h3
          · rcases List.mem_cons.1 hy with rfl | hy
            · exact absurd h3.1 h
            · exact .inr ⟨y, hy, h3⟩
/-- Good loans. -/
structure Lent (l : List Loan) : Prop where
  good : ∀ x ∈ l, 0 ≤ x.p ∧ x.p < 6 ∧ 0 ≤ x.a ∧ x.a < x.b ∧ x.b ≤ mxH
  apart : Apart l
theorem okLoans_lent {m : Nat} (hm : m ≤ 6) : ∀ {e l : List Loan}, okLoans m e l = true → Lent l ∧ ∀ x ∈ l, x.p < m ∧ ∀ y ∈ e, crossL x y = false
  | e, [], _ => ⟨⟨fun _ h => (by cases h), trivial⟩, fun _ h => (by cases h)⟩
  | e, x :: l, h => by
    have h : (okLoan m x && !(e.any (crossL x)) && okLoans m (e ++ [x]) l) = true := h
    rw [Bool.and_eq_true, Bool.and_eq_true] at h
    obtain ⟨⟨h1, h2⟩, h3⟩ := h
    obtain ⟨h4, h5⟩ := okLoans_lent hm h3
    unfold okLoan at h1
    simp only [Bool.and_eq_true, inS_iff] at h1
    have h2 : ∀ y ∈ e, crossL x y = false := fun y hy => by
      rw [Bool.not_eq_true', List.any_eq_false] at h2
      cases hc : crossL x y
      · rfl
      · exact absurd hc (h2 y hy)
    have hsym : ∀ x y : Loan, crossL x y = crossL y x := fun x y => by unfold crossL; rw [Bool.and_comm]
    refine ⟨⟨fun y hy => ?_, fun y hy => ?_, h4.apart⟩, fun y hy => ?_⟩
    · rcases List.mem_cons.1 hy with rfl | hy
      · omega
      · exact h4.good y hy
    · rw [hsym]
      exact (h5 y hy).2 x (List.mem_append_right _ (List.mem_singleton.2 rfl))
    · rcases List.mem_cons.1 hy with rfl | hy
      · exact ⟨by omega, h2⟩
      · exact ⟨(h5 y hy).1, fun z hz => (h5 y hy).2 z (List.mem_append_left _ hz)⟩
theorem holdS_some {l : List Loan} (hl : Lent l) {x : Loan} (hx : x ∈ l) {h : Int} (hh : inLoan h x = true) : holdS l h = some x.p := by
  have ha := hl.apart
  clear hl
  unfold holdS
  induction l with
  | nil => cases hx
  | cons y l ih =>
    rw [List.find?_cons]
    cases hy : inLoan h y
    · rcases List.mem_cons.1 hx with rfl | hx
      · rw [hh] at hy; cases hy
      · exact ih hx ha.2
    · rcases List.mem_cons.1 hx with rfl | hx
      · rfl
      · exact absurd ⟨hy, hh⟩ (not_both (ha.1 x hx) h)
theorem holdS_of {l : List Loan} {h p : Int} (e : holdS l h = some p) : ∃ x ∈ l, inLoan h x = true ∧ x.p = p := by
  unfold holdS at e
  cases hf : l.find? (inLoan h) with
  | none => rw [hf] at e; cases e
  | some x =>
    rw [hf] at e
    have e : some x.p = some p := e
    injection e with e
    exact ⟨x, List.mem_of_find?_eq_some hf, List.find?_some hf, e⟩
theorem holdS_none {l : List Loan} {h : Int} : holdS l h = none ↔ l.any (inLoan h) = false := by
  unfold holdS
  rw [Option.map_eq_none_iff, List.find?_eq_none, List.any_eq_false]
theorem whoH_lt {l : List Loan} (hl : Lent l) (h : Int) : whoH l h < 8 := by
  unfold whoH
  split
  · decide
  · cases e : holdS l h with
    | none => decide
    | some p =>
      obtain ⟨x, hx, _, rfl⟩ := holdS_of e
      have := hl.good x hx
      show x.p.toNat < 8
      omega
/-- Who can have lost a piece is who loses it in an hour of its window. -/
theorem susp_iff {l : List Loan} {s : List Look} {k p : Nat} (hl : Lent l) (hs : ∀ x ∈ s, 0 ≤ x.h ∧ x.h ≤ mxH) : (susp l s k).testBit p = true ↔ ∃ h, InW s k h ∧ whoH l h = p := by
  have h1 := seenS_nonneg s k
  have h2 := seenS_le (l := s) (k := k) fun x hx => (hs x hx).2
  have h3 := goneS_le s k
  have h4 := goneS_nonneg (l := s) (k := k) fun x hx => (hs x hx).1
  unfold susp
  by_cases he : goneS s k ≤ seenS s k
  · rw [if_pos he, Nat.zero_testBit]
    constructor
    · intro h; cases h
    · rintro ⟨h, hh, _⟩
      have := (inW_iff s k h).1 hh
      omega
  · rw [if_neg he]
    have h5 : (lentS (seenS s k) (min (goneS s k) mxH) l).2 = sumO (seenS s k) (min (goneS s k) mxH) l := by unfold lentS; rw [(lentS_foldl (seenS s k) (min (goneS s k) mxH) l (0, 0)).1]; exact Int.zero_add _
    have h6 : (lentS (seenS s k) (min (goneS s k) mxH) l).1.testBit p = true ↔ ∃ x ∈ l, 0 < ovl x (seenS s k) (min (goneS s k) mxH) ∧ x.p.toNat = p := by
      unfold lentS; rw [(lentS_foldl (seenS s k) (min (goneS s k) mxH) l (0, 0)).2]
      show (0 : Nat).testBit p = true ∨ _ ↔ _
      rw [Nat.zero_testBit]; simp
    have h7 : (sumO (seenS s k) (min (goneS s k) mxH) l < min (goneS s k) mxH - seenS s k) ↔ ∃ h, seenS s k ≤ h ∧ h < min (goneS s k) mxH ∧ holdS l h = none := by
      have h8 := cntH_held (seenS s k) (min (goneS s k) mxH - seenS s k).toNat l hl.apart
      have h9 := cntH_lt (P := fun h => l.any (inLoan h)) (lo := seenS s k) (m := (min (goneS s k) mxH - seenS s k).toNat)
      rw [show seenS s k + ((min (goneS s k) mxH - seenS s k).toNat : Int) = min (goneS s k) mxH by omega] at h8
      rw [← h8]
      constructor
      · intro h
        obtain ⟨i, hi, hp⟩ := h9.1 (by omega)
        exact ⟨seenS s k + i, by omega, by omega, holdS_none.2 hp⟩
      · rintro ⟨h, ha, hb, hc⟩
        have := h9.2 ⟨(h - seenS s k).toNat, by omega, by rw [show seenS s k + ((h - seenS s k).toNat : Int) = h by omega]; exact holdS_none.1 hc⟩
        omega
    rw [Nat.testBit_or, Nat.testBit_or, Bool.or_eq_true, Bool.or_eq_true, h6, h5]
    have b6 : (if sumO (seenS s k) (min (goneS s k) mxH) l < min (goneS s k) mxH - seenS s k then 64 else 0).testBit p = true ↔ (∃ h, seenS s k ≤ h ∧ h < min (goneS s k) mxH ∧ holdS l h = none) ∧ p = 6 := by
      rw [← h7]
      by_cases h : sumO (seenS s k) (min (goneS s k) mxH) l < min (goneS s k) mxH - seenS s k
      · rw [if_pos h, show (64 : Nat) = 2 ^ 6 from rfl, Nat.testBit_two_pow, decide_eq_true_eq]
        exact ⟨fun e => ⟨h, e.symm⟩, fun e => e.2.symm⟩
      · rw [if_neg h, Nat.zero_testBit]
        exact ⟨fun e => (by cases e), fun e => absurd e.1 h⟩
    have b7 : (if goneS s k = mxH + 1 then 128 else 0).testBit p = true ↔ goneS s k = mxH + 1 ∧ p = 7 := by
      by_cases h : goneS s k = mxH + 1
      · rw [if_pos h, show (128 : Nat) = 2 ^ 7 from rfl, Nat.testBit_two_pow, decide_eq_true_eq]
        exact ⟨fun e => ⟨h, e.symm⟩, fun e => e.2.symm⟩
      · rw [if_neg h, Nat.zero_testBit]
        exact ⟨fun e => (by cases e), fun e => absurd e.1 h⟩
    rw [b6, b7]
    clear b6 b7 h7 h5 h6
    constructor
    · rintro ((⟨x, hx, ho, hp⟩ | ⟨⟨h, ha, hb, hc⟩, rfl⟩) | ⟨hg, rfl⟩)
      · unfold ovl at ho
        have hgx := hl.good x hx
        refine ⟨max x.a (seenS s k), (inW_iff s k _).2 ⟨by omega, by omega⟩, ?_⟩
        unfold whoH
        rw [if_neg (by omega), holdS_some hl hx (h := max x.a (seenS s k)) (by unfold inLoan; rw [Bool.and_eq_true, decide_eq_true_eq, decide_eq_true_eq]; omega)]
        exact hp
      · refine ⟨h, (inW_iff s k h).2 ⟨ha, by omega⟩, ?_⟩
        unfold whoH
        rw [if_neg (by omega), hc]
      · exact ⟨mxH, (inW_iff s k _).2 ⟨h2, by omega⟩, if_pos rfl⟩
    · rintro ⟨h, hh, hp⟩
      obtain ⟨ha, hb⟩ := (inW_iff s k h).1 hh
      unfold whoH at hp
      by_cases e : h = mxH
      · rw [if_pos e] at hp
        exact .inr ⟨by omega, hp.symm⟩
      · rw [if_neg e] at hp
        have hm := hh.2.1
        cases ho : holdS l h with
        | none =>
          rw [ho] at hp
          exact .inl (.inr ⟨⟨h, ha, by omega, ho⟩, hp.symm⟩)
        | some q =>
          rw [ho] at hp
          have hp : q.toNat = p := hp
          obtain ⟨x, hx, hin, rfl⟩ := holdS_of ho
          unfold inLoan at hin
          rw [Bool.and_eq_true, decide_eq_true_eq, decide_eq_true_eq] at hin
          exact .inl (.inl ⟨x, hx, by unfold ovl; omega, hp⟩)
end Go.Proofs.YtkcfpnpejaekjaaDoor
