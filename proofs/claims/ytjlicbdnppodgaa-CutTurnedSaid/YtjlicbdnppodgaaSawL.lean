import Derived.Test.YtjlicbdnppodgaaP18
import Derived.Test.YtjlicbdnppodgaaWho
namespace Go.Proofs.Ytjlicbdnppodgaa
open Go.RowKit
/-! Plain: what can be sawn at all. -/
def InR (x0 y0 x1 y1 : Int) (p : Pt) : Prop := (x0 ≤ p.1 ∧ p.1 < x1) ∧ y0 ≤ p.2 ∧ p.2 < y1
inductive Sawable (c : Cut) : Int → Int → Int → Int → Prop
  | one {x0 y0 x1 y1 : Int} : (∀ p q, InR x0 y0 x1 y1 p → InR x0 y0 x1 y1 q → pcOf c p = pcOf c q) → Sawable c x0 y0 x1 y1
  | row {x0 y0 x1 y1 : Int} (y : Int) : y0 < y → y < y1 → (∀ p q, InR x0 y0 x1 y p → InR x0 y x1 y1 q → pcOf c p ≠ pcOf c q) → Sawable c x0 y0 x1 y → Sawable c x0 y x1 y1 → Sawable c x0 y0 x1 y1
  | col {x0 y0 x1 y1 : Int} (x : Int) : x0 < x → x < x1 → (∀ p q, InR x0 y0 x y1 p → InR x y0 x1 y1 q → pcOf c p ≠ pcOf c q) → Sawable c x0 y0 x y1 → Sawable c x y0 x1 y1 → Sawable c x0 y0 x1 y1
theorem InR.sub {x0 y0 x1 y1 a0 b0 a1 b1 : Int} {p : Pt} (h : InR a0 b0 a1 b1 p) (h1 : x0 ≤ a0) (h2 : a1 ≤ x1) (h3 : y0 ≤ b0) (h4 : b1 ≤ y1) : InR x0 y0 x1 y1 p := by
  unfold InR at *; omega
/-- What lies in what can be sawn can be sawn. -/
theorem Sawable.sub {c : Cut} {x0 y0 x1 y1 : Int} (h : Sawable c x0 y0 x1 y1) : ∀ {a0 b0 a1 b1 : Int}, x0 ≤ a0 → a0 < a1 → a1 ≤ x1 → y0 ≤ b0 → b0 < b1 → b1 ≤ y1 → Sawable c a0 b0 a1 b1 := by
  induction h with
  | one h =>
    intro a0 b0 a1 b1 h1 h2 h3 h4 h5 h6
    exact .one fun p q hp hq => h p q (hp.sub h1 h3 h4 h6) (hq.sub h1 h3 h4 h6)
  | row y hy1 hy2 hg _ _ iha ihb =>
    intro a0 b0 a1 b1 h1 h2 h3 h4 h5 h6
    by_cases e1 : y ≤ b0
    · exact ihb h1 h2 h3 e1 h5 h6
    · by_cases e2 : b1 ≤ y
      · exact iha h1 h2 h3 h4 h5 e2
      · exact .row y (by omega) (by omega) (fun p q hp hq => hg p q (hp.sub h1 h3 h4 (by omega)) (hq.sub h1 h3 (by omega) h6)) (iha h1 h2 h3 h4 (by omega) (by omega)) (ihb h1 h2 h3 (by omega) (by omega) h6)
  | col x hx1 hx2 hg _ _ iha ihb =>
    intro a0 b0 a1 b1 h1 h2 h3 h4 h5 h6
    by_cases e1 : x ≤ a0
    · exact ihb e1 h2 h3 h4 h5 h6
    · by_cases e2 : a1 ≤ x
      · exact iha h1 h2 e2 h4 h5 h6
      · exact .col x (by omega) (by omega) (fun p q hp hq => hg p q (hp.sub h1 (by omega) h4 h6) (hq.sub (by omega) h3 h4 h6)) (iha h1 (by omega) (by omega) h4 h5 h6) (ihb (by omega) (by omega) h3 h4 h5 h6)
theorem hasR_iff {c : Cut} {x0 y0 x1 y1 k : Int} : HasR c x0 y0 x1 y1 k ↔ ∃ p, InR x0 y0 x1 y1 p ∧ pcOf c p = k := by
  constructor
  · rintro ⟨x, y, h1, h2, e⟩
    exact ⟨(x, y), ⟨h1, h2⟩, e⟩
  · rintro ⟨p, ⟨h1, h2⟩, e⟩
    exact ⟨p.1, p.2, h1, h2, e⟩
theorem oneR_all {c : Cut} (ok : OkC c) {n : Nat} {x0 y0 x1 y1 : Int} (hR : Rec c n x0 y0 x1 y1) : oneB c x0 y0 x1 y1 = true ↔ ∀ p q, InR x0 y0 x1 y1 p → InR x0 y0 x1 y1 q → pcOf c p = pcOf c q := by
  rw [one_iff ok hR]
  constructor
  · intro h p q hp hq
    rw [h _ (hasR_iff.2 ⟨p, hp, rfl⟩), h _ (hasR_iff.2 ⟨q, hq, rfl⟩)]
  · intro h k hk
    obtain ⟨p, hp, rfl⟩ := hasR_iff.1 hk
    have hx := hR.x
    have hy := hR.y
    exact h p (x0, y0) hp ⟨⟨Int.le_refl _, hx.2.1⟩, Int.le_refl _, hy.2.1⟩
theorem row_all {c : Cut} (ok : OkC c) {n : Nat} {x0 y0 x1 y1 y : Int} (hR : Rec c n x0 y0 x1 y1) (hy : y0 < y ∧ y < y1) : goesB c x0 y0 x1 y1 false y = true ↔ ∀ p q, InR x0 y0 x1 y p → InR x0 y x1 y1 q → pcOf c p ≠ pcOf c q := by
  rw [goes_row_iff ok hR hy]
  constructor
  · intro h p q hp hq e
    exact h _ ⟨hasR_iff.2 ⟨p, hp, rfl⟩, hasR_iff.2 ⟨q, hq, e.symm⟩⟩
  · rintro h k ⟨h1, h2⟩
    obtain ⟨p, hp, rfl⟩ := hasR_iff.1 h1
    obtain ⟨q, hq, e⟩ := hasR_iff.1 h2
    exact h p q hp hq e.symm
theorem col_all {c : Cut} (ok : OkC c) {n : Nat} {x0 y0 x1 y1 x : Int} (hR : Rec c n x0 y0 x1 y1) (hx : x0 < x ∧ x < x1) : goesB c x0 y0 x1 y1 true x = true ↔ ∀ p q, InR x0 y0 x y1 p → InR x y0 x1 y1 q → pcOf c p ≠ pcOf c q := by
  rw [goes_col_iff ok hR hx]
  constructor
  · intro h p q hp hq e
    exact h _ ⟨hasR_iff.2 ⟨p, hp, rfl⟩, hasR_iff.2 ⟨q, hq, e.symm⟩⟩
  · rintro h k ⟨h1, h2⟩
    obtain ⟨p, hp, rfl⟩ := hasR_iff.1 h1
    obtain ⟨q, hq, e⟩ := hasR_iff.1 h2
    exact h p q hp hq e.symm
/-- The first of those below n, or none. -/
theorem first_or {n : Nat} (p : Nat → Bool) : (∃ j, j < n ∧ p j = true ∧ ∀ t, t < j → p t = false) ∨ ∀ t, t < n → p t = false := by
  induction n with
  | zero => exact .inr fun t ht => by omega
  | succ n ih =>
    rcases ih with ⟨j, hj, h1, h2⟩ | h
    · exact .inl ⟨j, by omega, h1, h2⟩
    · cases e : p n
      · exact .inr fun t ht => by
          by_cases et : t = n
          · rw [et, e]
          · exact h t (by omega)
      · exact .inl ⟨n, by omega, e, h⟩
/-- How a rectangle is sawn, step by step. -/
theorem saw_steps {c : Cut} (ok : OkC c) {n : Nat} {x0 y0 x1 y1 : Int} (hR : Rec c (n + 1) x0 y0 x1 y1) :
    ((∀ p q, InR x0 y0 x1 y1 p → InR x0 y0 x1 y1 q → pcOf c p = pcOf c q) ∧ sawF c (n + 1) x0 y0 x1 y1 = ([], true)) ∨
    (∃ y, (y0 < y ∧ y < y1) ∧ (∀ p q, InR x0 y0 x1 y p → InR x0 y x1 y1 q → pcOf c p ≠ pcOf c q) ∧ sawF c (n + 1) x0 y0 x1 y1 = joinL (false, y, x0, x1) (sawF c n x0 y0 x1 y) (sawF c n x0 y x1 y1)) ∨
    (∃ x, (x0 < x ∧ x < x1) ∧ (∀ p q, InR x0 y0 x y1 p → InR x y0 x1 y1 q → pcOf c p ≠ pcOf c q) ∧ sawF c (n + 1) x0 y0 x1 y1 = joinL (true, x, y0, y1) (sawF c n x0 y0 x y1) (sawF c n x y0 x1 y1)) ∨
    (¬ Sawable c x0 y0 x1 y1 ∧ sawF c (n + 1) x0 y0 x1 y1 = ([], false)) := by
  cases h1 : oneB c x0 y0 x1 y1
  · right
    rcases first_or (n := (y1 - (y0 + 1)).toNat) (fun j : Nat => goesB c x0 y0 x1 y1 false (y0 + 1 + (j : Int))) with ⟨j, hj, h2, h3⟩ | h2
    · left
      exact ⟨y0 + 1 + (j : Int), by omega, (row_all ok hR (by omega)).1 h2, saw_row h1 (by omega) h2 h3⟩
    · right
      have h2' : ∀ t : Nat, y0 + 1 + (t : Int) < y1 → goesB c x0 y0 x1 y1 false (y0 + 1 + (t : Int)) = false := fun t ht => h2 t (by omega)
      rcases first_or (n := (x1 - (x0 + 1)).toNat) (fun j : Nat => goesB c x0 y0 x1 y1 true (x0 + 1 + (j : Int))) with ⟨j, hj, h3, h4⟩ | h3
      · left
        exact ⟨x0 + 1 + (j : Int), by omega, (col_all ok hR (by omega)).1 h3, saw_col h1 h2' (by omega) h3 h4⟩
      · right
        have h3' : ∀ t : Nat, x0 + 1 + (t : Int) < x1 → goesB c x0 y0 x1 y1 true (x0 + 1 + (t : Int)) = false := fun t ht => h3 t (by omega)
        refine ⟨fun hs => ?_, saw_none h1 h2' h3'⟩
        cases hs with
        | one h => rw [(oneR_all ok hR).2 h] at h1; cases h1
        | row y ha hb hg _ _ =>
          have h4 := h2' (y - (y0 + 1)).toNat (by omega)
          rw [show y0 + 1 + (((y - (y0 + 1)).toNat : Nat) : Int) = y by omega, (row_all ok hR ⟨ha, hb⟩).2 hg] at h4
          cases h4
        | col x ha hb hg _ _ =>
          have h4 := h3' (x - (x0 + 1)).toNat (by omega)
          rw [show x0 + 1 + (((x - (x0 + 1)).toNat : Nat) : Int) = x by omega, (col_all ok hR ⟨ha, hb⟩).2 hg] at h4
          cases h4
  · exact .inl ⟨(oneR_all ok hR).1 h1, saw_one h1⟩
/-- The program saws whatever can be sawn. -/
theorem saw_able {c : Cut} (ok : OkC c) : ∀ (n : Nat) {x0 y0 x1 y1 : Int}, Rec c n x0 y0 x1 y1 → ((sawF c n x0 y0 x1 y1).2 = true ↔ Sawable c x0 y0 x1 y1)
  | 0, x0, y0, x1, y1, hR => by have h1 := hR.x; have h2 := hR.y; have h3 := hR.n; omega
  | n + 1, x0, y0, x1, y1, hR => by
    have hx := hR.x
    have hy := hR.y
    rcases saw_steps ok hR with ⟨h1, e⟩ | ⟨y, hy2, h1, e⟩ | ⟨x, hx2, h1, e⟩ | ⟨h1, e⟩
    · rw [e]; exact ⟨fun _ => .one h1, fun _ => rfl⟩
    · obtain ⟨ra, rb⟩ := hR.row hy2
      have ia := saw_able ok n ra
      have ib := saw_able ok n rb
      rw [e]
      show (((sawF c n x0 y0 x1 y).2 && (sawF c n x0 y x1 y1).2) = true) ↔ _
      rw [Bool.and_eq_true, ia, ib]
      exact ⟨fun ⟨h2, h3⟩ => .row y hy2.1 hy2.2 h1 h2 h3, fun h => ⟨h.sub (Int.le_refl _) hx.2.1 (Int.le_refl _) (Int.le_refl _) hy2.1 (by omega), h.sub (Int.le_refl _) hx.2.1 (Int.le_refl _) (by omega) hy2.2 (Int.le_refl _)⟩⟩
    · obtain ⟨ra, rb⟩ := hR.col hx2
      have ia := saw_able ok n ra
      have ib := saw_able ok n rb
      rw [e]
      show (((sawF c n x0 y0 x y1).2 && (sawF c n x y0 x1 y1).2) = true) ↔ _
      rw [Bool.and_eq_true, ia, ib]
      exact ⟨fun ⟨h2, h3⟩ => .col x hx2.1 hx2.2 h1 h2 h3, fun h => ⟨h.sub (Int.le_refl _) hx2.1 (by omega) (Int.le_refl _) hy.2.1 (Int.le_refl _), h.sub (by omega) hx2.2 (Int.le_refl _) (Int.le_refl _) hy.2.1 (Int.le_refl _)⟩⟩
    · rw [e]; exact ⟨fun h => (by cases h), fun h => absurd h h1⟩
/-! How many lines. -/
open Classical in
noncomputable def hasB (c : Cut) (x0 y0 x1 y1 k : Int) : Bool := decide (∃ p, InR x0 y0 x1 y1 p ∧ pcOf c p = k)
open Classical in
theorem hasB_iff {c : Cut} {x0 y0 x1 y1 k : Int} : hasB c x0 y0 x1 y1 k = true ↔ ∃ p, InR x0 y0 x1 y1 p ∧ pcOf c p = k := by unfold hasB; exact decide_eq_true_iff
noncomputable def hasN (c : Cut) (x0 y0 x1 y1 : Int) : Int := sumTo (fun k : Nat => b2i (hasB c x0 y0 x1 y1 (k : Int))) 40
theorem b2i_or {a b : Bool} (h : ¬ (a = true ∧ b = true)) : b2i (a || b) = b2i a + b2i b := by
  cases a <;> cases b <;> simp_all [b2i]
theorem hasN_or {c : Cut} {x0 y0 x1 y1 a0 b0 a1 b1 u0 v0 u1 v1 : Int} (hor : ∀ p, InR x0 y0 x1 y1 p ↔ InR a0 b0 a1 b1 p ∨ InR u0 v0 u1 v1 p) (hg : ∀ p q, InR a0 b0 a1 b1 p → InR u0 v0 u1 v1 q → pcOf c p ≠ pcOf c q) : hasN c x0 y0 x1 y1 = hasN c a0 b0 a1 b1 + hasN c u0 v0 u1 v1 := by
  unfold hasN
  rw [← sumTo_add]
  refine sumTo_congr fun k _ => ?_
  rw [← b2i_or]
  · congr 1
    rw [Bool.eq_iff_iff, Bool.or_eq_true, hasB_iff, hasB_iff, hasB_iff]
    constructor
    · rintro ⟨p, hp, e⟩
      exact ((hor p).1 hp).imp (fun h => ⟨p, h, e⟩) (fun h => ⟨p, h, e⟩)
    · rintro (⟨p, hp, e⟩ | ⟨p, hp, e⟩)
      · exact ⟨p, (hor p).2 (.inl hp), e⟩
      · exact ⟨p, (hor p).2 (.inr hp), e⟩
  · rw [hasB_iff, hasB_iff]
    rintro ⟨⟨p, hp, e⟩, q, hq, e'⟩
    exact hg p q hp hq (e.trans e'.symm)
theorem hasN_one {c : Cut} (ok : OkC c) {n : Nat} {x0 y0 x1 y1 : Int} (hR : Rec c n x0 y0 x1 y1) (h : ∀ p q, InR x0 y0 x1 y1 p → InR x0 y0 x1 y1 q → pcOf c p = pcOf c q) : hasN c x0 y0 x1 y1 = 1 := by
  have hx := hR.x
  have hy := hR.y
  have h0 : InR x0 y0 x1 y1 (x0, y0) := ⟨⟨Int.le_refl _, hx.2.1⟩, Int.le_refl _, hy.2.1⟩
  have hb := ok.at_bd x0 y0
  have hin := at_in ok (x := x0) (y := y0) (by omega)
  rw [← hit_one (v := at2 c x0 y0) (a := 0) (n := 40) (by omega)]
  unfold hasN
  refine sumTo_congr fun k _ => ?_
  congr 1
  rw [Bool.eq_iff_iff, hasB_iff, beq_iff_eq, Int.add_zero]
  exact ⟨fun ⟨p, hp, e⟩ => (h _ p h0 hp).trans e, fun e => ⟨_, h0, e⟩⟩
theorem saw_count {c : Cut} (ok : OkC c) : ∀ (n : Nat) {x0 y0 x1 y1 : Int}, Rec c n x0 y0 x1 y1 → (sawF c n x0 y0 x1 y1).2 = true → ((sawF c n x0 y0 x1 y1).1.length : Int) + 1 = hasN c x0 y0 x1 y1
  | 0, x0, y0, x1, y1, hR, _ => by have h1 := hR.x; have h2 := hR.y; have h3 := hR.n; omega
  | n + 1, x0, y0, x1, y1, hR, hs => by
    rcases saw_steps ok hR with ⟨h1, e⟩ | ⟨y, hy2, h1, e⟩ | ⟨x, hx2, h1, e⟩ | ⟨h1, e⟩
    · rw [e, hasN_one ok hR h1]; rfl
    · obtain ⟨ra, rb⟩ := hR.row hy2
      rw [e] at hs ⊢
      replace hs : ((sawF c n x0 y0 x1 y).2 && (sawF c n x0 y x1 y1).2) = true := hs
      rw [Bool.and_eq_true] at hs
      have ia := saw_count ok n ra hs.1
      have ib := saw_count ok n rb hs.2
      rw [hasN_or (a0 := x0) (b0 := y0) (a1 := x1) (b1 := y) (u0 := x0) (v0 := y) (u1 := x1) (v1 := y1) (fun p => by unfold InR; omega) h1]
      unfold joinL
      rw [List.length_cons, List.length_append]
      omega
    · obtain ⟨ra, rb⟩ := hR.col hx2
      rw [e] at hs ⊢
      replace hs : ((sawF c n x0 y0 x y1).2 && (sawF c n x y0 x1 y1).2) = true := hs
      rw [Bool.and_eq_true] at hs
      have ia := saw_count ok n ra hs.1
      have ib := saw_count ok n rb hs.2
      rw [hasN_or (a0 := x0) (b0 := y0) (a1 := x) (b1 := y1) (u0 := x) (v0 := y0) (u1 := x1) (v1 := y1) (fun p => by unfold InR; omega) h1]
      unfold joinL
      rw [List.length_cons, List.length_append]
      omega
    · rw [e] at hs; cases hs
theorem Rec.all {c : Cut} (ok : OkC c) : Rec c 24 0 0 c.wide c.high := by
  have hw := ok.w
  have hh := ok.h
  exact ⟨by omega, by omega, by omega⟩
theorem inR_all {c : Cut} (p : Pt) : InR 0 0 c.wide c.high p ↔ inG c p := by
  unfold InR inG isIn inS
  simp only [Bool.and_eq_true, decide_eq_true_eq]
  omega
/-- All pieces of a good cut. -/
theorem hasN_all {c : Cut} (ok : OkC c) (hall : ∀ k : Nat, (k : Int) ≤ greatS c → cellsS c k ≠ 0) : hasN c 0 0 c.wide c.high = greatS c + 1 := by
  have hg := great_bd ok
  have e : ∀ k : Nat, b2i (hasB c 0 0 c.wide c.high (k : Int)) = if k < (greatS c).toNat + 1 then 1 else 0 := fun k => by
    by_cases h : k < (greatS c).toNat + 1
    · rw [if_pos h]
      have h0 := hall k (by omega)
      have h1 : ¬ ∀ p, inG c p → pcOf c p ≠ (k : Int) := fun h => h0 ((cells_zero ok (k : Int)).2 h)
      obtain ⟨p, hp1⟩ := Classical.not_forall.1 h1
      obtain ⟨hpi, hpe⟩ := Classical.not_imp.1 hp1
      rw [Classical.not_not] at hpe
      rw [hasB_iff.2 ⟨p, (inR_all p).2 hpi, hpe⟩]
      rfl
    · rw [if_neg h]
      have : hasB c 0 0 c.wide c.high (k : Int) = false := by
        rw [← Bool.not_eq_true, hasB_iff]
        rintro ⟨p, hp, e⟩
        have := at_great ok p.1 p.2
        have e2 : at2 c p.1 p.2 = (k : Int) := e
        omega
      rw [this]; rfl
  unfold hasN
  rw [sumTo_congr fun k _ => e k]
  have hsplit := sumTo_app (fun k : Nat => if k < (greatS c).toNat + 1 then (1 : Int) else 0) ((greatS c).toNat + 1) (40 - ((greatS c).toNat + 1))
  rw [show (greatS c).toNat + 1 + (40 - ((greatS c).toNat + 1)) = 40 by omega] at hsplit
  rw [hsplit, sumTo_congr (g := fun _ => (1 : Int)) fun k hk => if_pos hk, sumTo_const, sumTo_zero fun k _ => if_neg (by omega)]
  omega
/-! What the lines of a saw part. -/
def LowL (l : List Ln) (x y : Int) : Prop := ∃ s ∈ l, s.1 = false ∧ s.2.1 = y + 1 ∧ s.2.2.1 ≤ x ∧ x < s.2.2.2
def RightL (l : List Ln) (x y : Int) : Prop := ∃ s ∈ l, s.1 = true ∧ s.2.1 = x + 1 ∧ s.2.2.1 ≤ y ∧ y < s.2.2.2
structure SawnOk (c : Cut) (x0 y0 x1 y1 : Int) (l : List Ln) : Prop where
  bt : ∀ s ∈ l, s.1 = true → (x0 < s.2.1 ∧ s.2.1 < x1) ∧ y0 ≤ s.2.2.1 ∧ s.2.2.1 < s.2.2.2 ∧ s.2.2.2 ≤ y1
  bf : ∀ s ∈ l, s.1 = false → (y0 < s.2.1 ∧ s.2.1 < y1) ∧ x0 ≤ s.2.2.1 ∧ s.2.2.1 < s.2.2.2 ∧ s.2.2.2 ≤ x1
  low : ∀ x y, x0 ≤ x → x < x1 → y0 ≤ y → y + 1 < y1 → (LowL l x y ↔ at2 c x (y + 1) ≠ at2 c x y)
  right : ∀ x y, x0 ≤ x → x + 1 < x1 → y0 ≤ y → y < y1 → (RightL l x y ↔ at2 c (x + 1) y ≠ at2 c x y)
theorem LowL.join {s : Ln} {a b : List Ln} {x y : Int} : LowL (s :: (a ++ b)) x y ↔ (s.1 = false ∧ s.2.1 = y + 1 ∧ s.2.2.1 ≤ x ∧ x < s.2.2.2) ∨ LowL a x y ∨ LowL b x y := by
  unfold LowL
  simp only [List.mem_cons, List.mem_append]
  constructor
  · rintro ⟨t, rfl | h | h, h2⟩
    · exact .inl h2
    · exact .inr (.inl ⟨t, h, h2⟩)
    · exact .inr (.inr ⟨t, h, h2⟩)
  · rintro (h | ⟨t, h, h2⟩ | ⟨t, h, h2⟩)
    · exact ⟨s, .inl rfl, h⟩
    · exact ⟨t, .inr (.inl h), h2⟩
    · exact ⟨t, .inr (.inr h), h2⟩
theorem RightL.join {s : Ln} {a b : List Ln} {x y : Int} : RightL (s :: (a ++ b)) x y ↔ (s.1 = true ∧ s.2.1 = x + 1 ∧ s.2.2.1 ≤ y ∧ y < s.2.2.2) ∨ RightL a x y ∨ RightL b x y := by
  unfold RightL
  simp only [List.mem_cons, List.mem_append]
  constructor
  · rintro ⟨t, rfl | h | h, h2⟩
    · exact .inl h2
    · exact .inr (.inl ⟨t, h, h2⟩)
    · exact .inr (.inr ⟨t, h, h2⟩)
  · rintro (h | ⟨t, h, h2⟩ | ⟨t, h, h2⟩)
    · exact ⟨s, .inl rfl, h⟩
    · exact ⟨t, .inr (.inl h), h2⟩
    · exact ⟨t, .inr (.inr h), h2⟩
theorem SawnOk.lowOut {c : Cut} {x0 y0 x1 y1 : Int} {l : List Ln} (h : SawnOk c x0 y0 x1 y1 l) {x y : Int} (ho : ¬ ((x0 ≤ x ∧ x < x1) ∧ y0 ≤ y ∧ y + 1 < y1)) : ¬ LowL l x y := by
  rintro ⟨s, hs, h1, h2, h3, h4⟩
  have := h.bf s hs h1
  omega
theorem SawnOk.rightOut {c : Cut} {x0 y0 x1 y1 : Int} {l : List Ln} (h : SawnOk c x0 y0 x1 y1 l) {x y : Int} (ho : ¬ ((x0 ≤ x ∧ x + 1 < x1) ∧ y0 ≤ y ∧ y < y1)) : ¬ RightL l x y := by
  rintro ⟨s, hs, h1, h2, h3, h4⟩
  have := h.bt s hs h1
  omega
theorem sawn_ok {c : Cut} (ok : OkC c) : ∀ (n : Nat) {x0 y0 x1 y1 : Int}, Rec c n x0 y0 x1 y1 → (sawF c n x0 y0 x1 y1).2 = true → SawnOk c x0 y0 x1 y1 (sawF c n x0 y0 x1 y1).1
  | 0, x0, y0, x1, y1, hR, _ => by have h1 := hR.x; have h2 := hR.y; have h3 := hR.n; omega
  | n + 1, x0, y0, x1, y1, hR, hs => by
    have hx := hR.x
    have hy := hR.y
    rcases saw_steps ok hR with ⟨h1, e⟩ | ⟨y, hy2, h1, e⟩ | ⟨x, hx2, h1, e⟩ | ⟨h1, e⟩
    · rw [e]
      refine ⟨fun s h => by simp at h, fun s h => by simp at h, fun x y ha hb hc hd => ?_, fun x y ha hb hc hd => ?_⟩
      · have := h1 (x, y + 1) (x, y) (by unfold InR; dsimp only; omega) (by unfold InR; dsimp only; omega)
        exact ⟨fun ⟨s, h, _⟩ => by simp at h, fun h => absurd this h⟩
      · have := h1 (x + 1, y) (x, y) (by unfold InR; dsimp only; omega) (by unfold InR; dsimp only; omega)
        exact ⟨fun ⟨s, h, _⟩ => by simp at h, fun h => absurd this h⟩
    · obtain ⟨ra, rb⟩ := hR.row hy2
      rw [e] at hs ⊢
      replace hs : ((sawF c n x0 y0 x1 y).2 && (sawF c n x0 y x1 y1).2) = true := hs
      rw [Bool.and_eq_true] at hs
      have ia := sawn_ok ok n ra hs.1
      have ib := sawn_ok ok n rb hs.2
      unfold joinL
      dsimp only
      refine ⟨fun s h hu => ?_, fun s h hu => ?_, fun x' y' ha hb hc hd => ?_, fun x' y' ha hb hc hd => ?_⟩
      · rcases List.mem_cons.1 h with rfl | h
        · cases hu
        · rcases List.mem_append.1 h with h | h
          · have := ia.bt s h hu; omega
          · have := ib.bt s h hu; omega
      · rcases List.mem_cons.1 h with rfl | h
        · dsimp only; omega
        · rcases List.mem_append.1 h with h | h
          · have := ia.bf s h hu; omega
          · have := ib.bf s h hu; omega
      · rw [LowL.join]
        dsimp only
        by_cases e1 : y' + 1 = y
        · have := h1 (x', y') (x', y' + 1) (by unfold InR; dsimp only; omega) (by unfold InR; dsimp only; omega)
          exact ⟨fun _ => fun e => this e.symm, fun _ => .inl ⟨rfl, e1.symm, ha, hb⟩⟩
        · by_cases e2 : y' + 1 < y
          · have n2 := ib.lowOut (x := x') (y := y') (by omega)
            have h3 := ia.low x' y' ha hb hc e2
            rw [← h3]
            exact ⟨fun h => h.elim (fun h => by omega) (fun h => h.elim id (fun h => absurd h n2)), fun h => .inr (.inl h)⟩
          · have n2 := ia.lowOut (x := x') (y := y') (by omega)
            have h3 := ib.low x' y' ha hb (by omega) hd
            rw [← h3]
            exact ⟨fun h => h.elim (fun h => by omega) (fun h => h.elim (fun h => absurd h n2) id), fun h => .inr (.inr h)⟩
      · rw [RightL.join]
        dsimp only
        by_cases e2 : y' < y
        · have n2 := ib.rightOut (x := x') (y := y') (by omega)
          have h3 := ia.right x' y' ha hb hc e2
          rw [← h3]
          exact ⟨fun h => h.elim (fun h => by cases h.1) (fun h => h.elim id (fun h => absurd h n2)), fun h => .inr (.inl h)⟩
        · have n2 := ia.rightOut (x := x') (y := y') (by omega)
          have h3 := ib.right x' y' ha hb (by omega) hd
          rw [← h3]
          exact ⟨fun h => h.elim (fun h => by cases h.1) (fun h => h.elim (fun h => absurd h n2) id), fun h => .inr (.inr h)⟩
    · obtain ⟨ra, rb⟩ := hR.col hx2
      rw [e] at hs ⊢
      replace hs : ((sawF c n x0 y0 x y1).2 && (sawF c n x y0 x1 y1).2) = true := hs
      rw [Bool.and_eq_true] at hs
      have ia := sawn_ok ok n ra hs.1
      have ib := sawn_ok ok n rb hs.2
      unfold joinL
      dsimp only
      refine ⟨fun s h hu => ?_, fun s h hu => ?_, fun x' y' ha hb hc hd => ?_, fun x' y' ha hb hc hd => ?_⟩
      · rcases List.mem_cons.1 h with rfl | h
        · dsimp only; omega
        · rcases List.mem_append.1 h with h | h
          · have := ia.bt s h hu; omega
          · have := ib.bt s h hu; omega
      · rcases List.mem_cons.1 h with rfl | h
        · cases hu
        · rcases List.mem_append.1 h with h | h
          · have := ia.bf s h hu; omega
          · have := ib.bf s h hu; omega
      · rw [LowL.join]
        dsimp only
        by_cases e2 : x' < x
        · have n2 := ib.lowOut (x := x') (y := y') (by omega)
          have h3 := ia.low x' y' ha e2 hc hd
          rw [← h3]
          exact ⟨fun h => h.elim (fun h => by cases h.1) (fun h => h.elim id (fun h => absurd h n2)), fun h => .inr (.inl h)⟩
        · have n2 := ia.lowOut (x := x') (y := y') (by omega)
          have h3 := ib.low x' y' (by omega) hb hc hd
          rw [← h3]
          exact ⟨fun h => h.elim (fun h => by cases h.1) (fun h => h.elim (fun h => absurd h n2) id), fun h => .inr (.inr h)⟩
      · rw [RightL.join]
        dsimp only
        by_cases e1 : x' + 1 = x
        · have := h1 (x', y') (x' + 1, y') (by unfold InR; dsimp only; omega) (by unfold InR; dsimp only; omega)
          exact ⟨fun _ => fun e => this e.symm, fun _ => .inl ⟨rfl, e1.symm, hc, hd⟩⟩
        · by_cases e2 : x' + 1 < x
          · have n2 := ib.rightOut (x := x') (y := y') (by omega)
            have h3 := ia.right x' y' ha e2 hc hd
            rw [← h3]
            exact ⟨fun h => h.elim (fun h => by omega) (fun h => h.elim id (fun h => absurd h n2)), fun h => .inr (.inl h)⟩
          · have n2 := ia.rightOut (x := x') (y := y') (by omega)
            have h3 := ib.right x' y' (by omega) hb hc hd
            rw [← h3]
            exact ⟨fun h => h.elim (fun h => by omega) (fun h => h.elim (fun h => absurd h n2) id), fun h => .inr (.inr h)⟩
    · rw [e] at hs; cases hs
end Go.Proofs.Ytjlicbdnppodgaa
