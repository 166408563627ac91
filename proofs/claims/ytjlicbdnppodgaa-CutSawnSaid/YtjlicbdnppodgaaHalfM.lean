import Derived.Test.YtjlicbdnppodgaaP18
import Derived.Test.YtjlicbdnppodgaaWho
import Derived.Test.YtjlicbdnppodgaaA3
import Derived.Deep.AppendLies
namespace Go.Proofs.Ytjlicbdnppodgaa
section
open Go.RowKit
/-! Plain: what can be sawn at all. -/
def InR (x0 y0 x1 y1 : Int) (p : Pt) : Prop := (x0 ≤ p.1 ∧ p.1 < x1) ∧ y0 ≤ p.2 ∧ p.2 < y1
inductive Sawable (c : Cut) : Int → Int → Int → Int → Prop
  | one {x0 y0 x1 y1 : Int} : (∀ p q, InR x0 y0 x1 y1 p → InR x0 y0 x1 y1 q → pcOf c p = pcOf c q) → Sawable c x0 y0 x1 y1
  | row {x0 y0 x1 y1 : Int} (y : Int) : y0 < y → y < y1 → (∀ p q, InR x0 y0 x1 y p → InR x0 y x1 y1 q → pcOf c p ≠ pcOf c q) → Sawable c x0 y0 x1 y → Sawable c x0 y x1 y1 → Sawable c x0 y0 x1 y1
  | col {x0 y0 x1 y1 : Int} (x : Int) : x0 < x → x < x1 → (∀ p q, InR x0 y0 x y1 p → InR x y0 x1 y1 q → pcOf c p ≠ pcOf c q) → Sawable c x0 y0 x y1 → Sawable c x y0 x1 y1 → Sawable c x0 y0 x1 y1
theorem InR.sub {x0 y0 x1 y1 a0 b0 a1 b1 : Int} {p : Pt} (h : InR a0 b0 a1 b1 p) (h1 : x0 ≤ a0) (h2 : a1 ≤ x1) (h3 : y0 ≤ b0) (h4 : b1 ≤ y1) : InR x0 y0 x1 y1 p := by
  unfold InR at *; omega
/-- What lies in what can be sawn can be sawn. -/
theorem Sawable.sub {c : Cut} {x0 y0 x1 y1 : Int} (h : Sawable c x0 y0 x1 y1) : ∀ {a0 b0 a1 b1 : Int}, x0 ≤ a0 → a0 < a1 → a1 ≤ x1 → y0 ≤ b0 → b0 < b1 → b1 ≤ y1 → Sawable c a0 b0 a1 b1 := by
  induction h with
  | one h =>
    intro a0 b0 a1 b1 h1 h2 h3 h4 h5 h6
    exact .one fun p q hp hq => h p q (hp.sub h1 h3 h4 h6) (hq.sub h1 h3 h4 h6)
  | row y hy1 hy2 hg _ _ iha ihb =>
    intro a0 b0 a1 b1 h1 h2 h3 h4 h5 h6
    by_cases e1 : y ≤ b0
    · exact ihb h1 h2 h3 e1 h5 h6
    · by_cases e2 : b1 ≤ y
      · exact iha h1 h2 h3 h4 h5 e2
      · exact .row y (by omega) (by omega) (fun p q hp hq => hg p q (hp.sub h1 h3 h4 (by omega)) (hq.sub h1 h3 (by omega) h6)) (iha h1 h2 h3 h4 (by omega) (by omega)) (ihb h1 h2 h3 (by omega) (by omega) h6)
  | col x hx1 hx2 hg _ _ iha ihb =>
    intro a0 b0 a1 b1 h1 h2 h3 h4 h5 h6
    by_cases e1 : x ≤ a0
    · exact ihb e1 h2 h3 h4 h5 h6
    · by_cases e2 : a1 ≤ x
      · exact iha h1 h2 e2 h4 h5 h6
      · exact .col x (by omega) (by omega) (fun p q hp hq => hg p q (hp.sub h1 (by omega) h4 h6) (hq.sub (by omega) h3 h4 h6)) (iha h1 (by omega) (by omega) h4 h5 h6) (ihb (by omega) (by omega) h3 h4 h5 h6)
theorem hasR_iff {c : Cut} {x0 y0 x1 y1 k : Int} : HasR c x0 y0 x1 y1 k ↔ ∃ p, InR x0 y0 x1 y1 p ∧ pcOf c p = k := by
  constructor
  · rintro ⟨x, y, h1, h2, e⟩
    exact ⟨(x, y), ⟨h1, h2⟩, e⟩
  · rintro ⟨p, ⟨h1, h2⟩, e⟩
    exact ⟨p.1, p.2, h1, h2, e⟩
theorem oneR_all {c : Cut} (ok : OkC c) {n : Nat} {x0 y0 x1 y1 : Int} (hR : Rec c n x0 y0 x1 y1) : oneB c x0 y0 x1 y1 = true ↔ ∀ p q, InR x0 y0 x1 y1 p → InR x0 y0 x1 y1 q → pcOf c p = pcOf c q := by
  rw [one_iff ok hR]
  constructor
  · intro h p q hp hq
    rw [h _ (hasR_iff.2 ⟨p, hp, rfl⟩), h _ (hasR_iff.2 ⟨q, hq, rfl⟩)]
  · intro h k hk
    obtain ⟨p, hp, rfl⟩ := hasR_iff.1 hk
    have hx := hR.x
    have hy := hR.y
    exact h p (x0, y0) hp ⟨⟨Int.le_refl _, hx.2.1⟩, Int.le_refl _, hy.2.1⟩
theorem row_all {c : Cut} (ok : OkC c) {n : Nat} {x0 y0 x1 y1 y : Int} (hR : Rec c n x0 y0 x1 y1) (hy : y0 < y ∧ y < y1) : goesB c x0 y0 x1 y1 false y = true ↔ ∀ p q, InR x0 y0 x1 y p → InR x0 y x1 y1 q → pcOf c p ≠ pcOf c q := by
  rw [goes_row_iff ok hR hy]
  constructor
  · intro h p q hp hq e
    exact h _ ⟨hasR_iff.2 ⟨p, hp, rfl⟩, hasR_iff.2 ⟨q, hq, e.symm⟩⟩
  · rintro h k ⟨h1, h2⟩
    obtain ⟨p, hp, rfl⟩ := hasR_iff.1 h1
    obtain ⟨q, hq, e⟩ := hasR_iff.1 h2
    exact h p q hp hq e.symm
theorem col_all {c : Cut} (ok : OkC c) {n : Nat} {x0 y0 x1 y1 x : Int} (hR : Rec c n x0 y0 x1 y1) (hx : x0 < x ∧ x < x1) : goesB c x0 y0 x1 y1 true x = true ↔ ∀ p q, InR x0 y0 x y1 p → InR x y0 x1 y1 q → pcOf c p ≠ pcOf c q := by
  rw [goes_col_iff ok hR hx]
  constructor
  · intro h p q hp hq e
    exact h _ ⟨hasR_iff.2 ⟨p, hp, rfl⟩, hasR_iff.2 ⟨q, hq, e.symm⟩⟩
  · rintro h k ⟨h1, h2⟩
    obtain ⟨p, hp, rfl⟩ := hasR_iff.1 h1
    obtain ⟨q, hq, e⟩ := hasR_iff.1 h2
    exact h p q hp hq e.symm
/-- The first of those below n, or none. -/
theorem first_or {n : Nat} (p : Nat → Bool) : (∃ j, j < n ∧ p j = true ∧ ∀ t, t < j → p t = false) ∨ ∀ t, t < n → p t = false := by
  induction n with
  | zero => exact .inr fun t ht => by omega
  | succ n ih =>
    rcases ih with ⟨j, hj, h1, h2⟩ | h
    · exact .inl ⟨j, by omega, h1, h2⟩
    · cases e : p n
      · exact .inr fun t ht => by
          by_cases et : t = n
          · rw [et, e]
          · exact h t (by omega)
      · exact .inl ⟨n, by omega, e, h⟩
/-- How a rectangle is sawn, step by step. -/
theorem saw_steps {c : Cut} (ok : OkC c) {n : Nat} {x0 y0 x1 y1 : Int} (hR : Rec c (n + 1) x0 y0 x1 y1) :
    ((∀ p q, InR x0 y0 x1 y1 p → InR x0 y0 x1 y1 q → pcOf c p = pcOf c q) ∧ sawF c (n + 1) x0 y0 x1 y1 = ([], true)) ∨
    (∃ y, (y0 < y ∧ y < y1) ∧ (∀ p q, InR x0 y0 x1 y p → InR x0 y x1 y1 q → pcOf c p ≠ pcOf c q) ∧ sawF c (n + 1) x0 y0 x1 y1 = joinL (false, y, x0, x1) (sawF c n x0 y0 x1 y) (sawF c n x0 y x1 y1)) ∨
    (∃ x, (x0 < x ∧ x < x1) ∧ (∀ p q, InR x0 y0 x y1 p → InR x y0 x1 y1 q → pcOf c p ≠ pcOf c q) ∧ sawF c (n + 1) x0 y0 x1 y1 = joinL (true, x, y0, y1) (sawF c n x0 y0 x y1) (sawF c n x y0 x1 y1)) ∨
    (¬ Sawable c x0 y0 x1 y1 ∧ sawF c (n + 1) x0 y0 x1 y1 = ([], false)) := by
  cases h1 : oneB c x0 y0 x1 y1
  · right
    rcases first_or (n := (y1 - (y0 + 1)).toNat) (fun j : Nat => goesB c x0 y0 x1 y1 false (y0 + 1 + (j : Int))) with ⟨j, hj, h2, h3⟩ | h2
    · left
      exact ⟨y0 + 1 + (j : Int), by omega, (row_all ok hR (by omega)).1 h2, saw_row h1 (by omega) h2 h3⟩
    · right
      have h2' : ∀ t : Nat, y0 + 1 + (t : Int) < y1 → goesB c x0 y0 x1 y1 false (y0 + 1 + (t : Int)) = false := fun t ht => h2 t (by omega)
      rcases first_or (n := (x1 - (x0 + 1)).toNat) (fun j : Nat => goesB c x0 y0 x1 y1 true (x0 + 1 + (j : Int))) with ⟨j, hj, h3, h4⟩ | h3
      · left
        exact ⟨x0 + 1 + (j : Int), by omega, (col_all ok hR (by omega)).1 h3, saw_col h1 h2' (by omega) h3 h4⟩
      · right
        have h3' : ∀ t : Nat, x0 + 1 + (t : Int) < x1 → goesB c x0 y0 x1 y1 true (x0 + 1 + (t : Int)) = false := fun t ht => h3 t (by omega)
        refine ⟨fun hs => ?_, saw_none h1 h2' h3'⟩
        cases hs with
        | one h => rw [(oneR_all ok hR).2 h] at h1; cases h1
        | row y ha hb hg _ _ =>
          have h4 := h2' (y - (y0 + 1)).toNat (by omega)
          rw [show y0 + 1 + (((y - (y0 + 1)).toNat : Nat) : Int) = y by omega, (row_all ok hR ⟨ha, hb⟩).2 hg] at h4
          cases h4
        | col x ha hb hg _ _ =>
          have h4 := h3' (x - (x0 + 1)).toNat (by omega)
          rw [show x0 + 1 + (((x - (x0 + 1)).toNat : Nat) : Int) = x by omega, (col_all ok hR ⟨ha, hb⟩).2 hg] at h4
          cases h4
  · exact .inl ⟨(oneR_all ok hR).1 h1, saw_one h1⟩
/-- The program saws whatever can be sawn. -/
theorem saw_able {c : Cut} (ok : OkC c) : ∀ (n : Nat) {x0 y0 x1 y1 : Int}, Rec c n x0 y0 x1 y1 → ((sawF c n x0 y0 x1 y1).2 = true ↔ Sawable c x0 y0 x1 y1)
  | 0, x0, y0, x1, y1, hR => by have h1 := hR.x; have h2 := hR.y; have h3 := hR.n; omega
  | n + 1, x0, y0, x1, y1, hR => by
    have hx := hR.x
    have hy := hR.y
    rcases saw_steps ok hR with ⟨h1, e⟩ | ⟨y, hy2, h1, e⟩ | ⟨x, hx2, h1, e⟩ | ⟨h1, e⟩
    · rw [e]; exact ⟨fun _ => .one h1, fun _ => rfl⟩
    · obtain ⟨ra, rb⟩ := hR.row hy2
      have ia := saw_able ok n ra
      have ib := saw_able ok n rb
      rw [e]
      show (((sawF c n x0 y0 x1 y).2 && (sawF c n x0 y x1 y1).2) = true) ↔ _
      rw [Bool.and_eq_true, ia, ib]
      exact ⟨fun ⟨h2, h3⟩ => .row y hy2.1 hy2.2 h1 h2 h3, fun h => ⟨h.sub (Int.le_refl _) hx.2.1 (Int.le_refl _) (Int.le_refl _) hy2.1 (by omega), h.sub (Int.le_refl _) hx.2.1 (Int.le_refl _) (by omega) hy2.2 (Int.le_refl _)⟩⟩
    · obtain ⟨ra, rb⟩ := hR.col hx2
      have ia := saw_able ok n ra
      have ib := saw_able ok n rb
      rw [e]
      show (((sawF c n x0 y0 x y1).2 && (sawF c n x y0 x1 y1).2) = true) ↔ _
      rw [Bool.and_eq_true, ia, ib]
      exact ⟨fun ⟨h2, h3⟩ => .col x hx2.1 hx2.2 h1 h2 h3, fun h => ⟨h.sub (Int.le_refl _) hx2.1 (by omega) (Int.le_refl _) hy.2.1 (Int.le_refl _), h.sub (by omega) hx2.2 (Int.le_refl _) (Int.le_refl _) hy.2.1 (Int.le_refl _)⟩⟩
    · rw [e]; exact ⟨fun h => (by cases h), fun h => absurd h h1⟩
/-! How many lines. -/
open Classical in
noncomputable def hasB (c : Cut) (x0 y0 x1 y1 k : Int) : Bool := decide (∃ p, InR x0 y0 x1 y1 p ∧ pcOf c p = k)
open Classical in
theorem hasB_iff {c : Cut} {x0 y0 x1 y1 k : Int} : hasB c x0 y0 x1 y1 k = true ↔ ∃ p, InR x0 y0 x1 y1 p ∧ pcOf c p = k := by unfold hasB; exact decide_eq_true_iff
noncomputable def hasN (c : Cut) (x0 y0 x1 y1 : Int) : Int := sumTo (fun k : Nat => b2i (hasB c x0 y0 x1 y1 (k : Int))) 40
theorem b2i_or {a b : Bool} (h : ¬ (a = true ∧ b = true)) : b2i (a || b) = b2i a + b2i b := by
  cases a <;> cases b <;> simp_all [b2i]
theorem hasN_or {c : Cut} {x0 y0 x1 y1 a0 b0 a1 b1 u0 v0 u1 v1 : Int} (hor : ∀ p, InR x0 y0 x1 y1 p ↔ InR a0 b0 a1 b1 p ∨ InR u0 v0 u1 v1 p) (hg : ∀ p q, InR a0 b0 a1 b1 p → InR u0 v0 u1 v1 q → pcOf c p ≠ pcOf c q) : hasN c x0 y0 x1 y1 = hasN c a0 b0 a1 b1 + hasN c u0 v0 u1 v1 := by
  unfold hasN
  rw [← sumTo_add]
  refine sumTo_congr fun k _ => ?_
  rw [← b2i_or]
  · congr 1
    rw [Bool.eq_iff_iff, Bool.or_eq_true, hasB_iff, hasB_iff, hasB_iff]
    constructor
    · rintro ⟨p, hp, e⟩
      exact ((hor p).1 hp).imp (fun h => ⟨p, h, e⟩) (fun h => ⟨p, h, e⟩)
    · rintro (⟨p, hp, e⟩ | ⟨p, hp, e⟩)
      · exact ⟨p, (hor p).2 (.inl hp), e⟩
      · exact ⟨p, (hor p).2 (.inr hp), e⟩
  · rw [hasB_iff, hasB_iff]
    rintro ⟨⟨p, hp, e⟩, q, hq, e'⟩
    exact hg p q hp hq (e.trans e'.symm)
theorem hasN_one {c : Cut} (ok : OkC c) {n : Nat} {x0 y0 x1 y1 : Int} (hR : Rec c n x0 y0 x1 y1) (h : ∀ p q, InR x0 y0 x1 y1 p → InR x0 y0 x1 y1 q → pcOf c p = pcOf c q) : hasN c x0 y0 x1 y1 = 1 := by
  have hx := hR.x
  have hy := hR.y
  have h0 : InR x0 y0 x1 y1 (x0, y0) := ⟨⟨Int.le_refl _, hx.2.1⟩, Int.le_refl _, hy.2.1⟩
  have hb := ok.at_bd x0 y0
  have hin := at_in ok (x := x0) (y := y0) (by omega)
  rw [← hit_one (v := at2 c x0 y0) (a := 0) (n := 40) (by omega)]
  unfold hasN
  refine sumTo_congr fun k _ => ?_
  congr 1
  rw [Bool.eq_iff_iff, hasB_iff, beq_iff_eq, Int.add_zero]
  exact ⟨fun ⟨p, hp, e⟩ => (h _ p h0 hp).trans e, fun e => ⟨_, h0, e⟩⟩
theorem saw_count {c : Cut} (ok : OkC c) : ∀ (n : Nat) {x0 y0 x1 y1 : Int}, Rec c n x0 y0 x1 y1 → (sawF c n x0 y0 x1 y1).2 = true → ((sawF c n x0 y0 x1 y1).1.length : Int) + 1 = hasN c x0 y0 x1 y1
  | 0, x0, y0, x1, y1, hR, _ => by have h1 := hR.x; have h2 := hR.y; have h3 := hR.n; omega
  | n + 1, x0, y0, x1, y1, hR, hs => by
    rcases saw_steps ok hR with ⟨h1, e⟩ | ⟨y, hy2, h1, e⟩ | ⟨x, hx2, h1, e⟩ | ⟨h1, e⟩
    · rw [e, hasN_one ok hR h1]; rfl
    · obtain ⟨ra, rb⟩ := hR.row hy2
      rw [e] at hs ⊢
      replace hs : ((sawF c n x0 y0 x1 y).2 && (sawF c n x0 y x1 y1).2) = true := hs
      rw [Bool.and_eq_true] at hs
      have ia := saw_count ok n ra hs.1
      have ib := saw_count ok n rb hs.2
      rw [hasN_or (a0 := x0) (b0 := y0) (a1 := x1) (b1 := y) (u0 := x0) (v0 := y) (u1 := x1) (v1 := y1) (fun p => by unfold InR; omega) h1]
      unfold joinL
      rw [List.length_cons, List.length_append]
      omega
    · obtain ⟨ra, rb⟩ := hR.col hx2
      rw [e] at hs ⊢
      replace hs : ((sawF c n x0 y0 x y1).2 && (sawF c n x y0 x1 y1).2) = true := hs
      rw [Bool.and_eq_true] at hs
      have ia := saw_count ok n ra hs.1
      have ib := saw_count ok n rb hs.2
      rw [hasN_or (a0 := x0) (b0 := y0) (a1 := x) (b1 := y1) (u0 := x) (v0 := y0) (u1 := x1) (v1 := y1) (fun p => by unfold InR; omega) h1]
      unfold joinL
      rw [List.length_cons, List.length_append]
      omega
    · rw [e] at hs; cases hs
theorem Rec.all {c : Cut} (ok : OkC c) : Rec c 24 0 0 c.wide c.high := by
  have hw := ok.w
  have hh := ok.h
  exact ⟨by omega, by omega, by omega⟩
theorem inR_all {c : Cut} (p : Pt) : InR 0 0 c.wide c.high p ↔ inG c p := by
  unfold InR inG isIn inS
  simp only [Bool.and_eq_true, decide_eq_true_eq]
  omega
/-- All pieces of a good cut. -/
theorem hasN_all {c : Cut} (ok : OkC c) (hall : ∀ k : Nat, (k : Int) ≤ greatS c → cellsS c k ≠ 0) : hasN c 0 0 c.wide c.high = greatS c + 1 := by
  have hg := great_bd ok
  have e : ∀ k : Nat, b2i (hasB c 0 0 c.wide c.high (k : Int)) = if k < (greatS c).toNat + 1 then 1 else 0 := fun k => by
    by_cases h : k < (greatS c).toNat + 1
    · rw [if_pos h]
      have h0 := hall k (by omega)
      have h1 : ¬ ∀ p, inG c p → pcOf c p ≠ (k : Int) := fun h => h0 ((cells_zero ok (k : Int)).2 h)
      obtain ⟨p, hp1⟩ := Classical.not_forall.1 h1
      obtain ⟨hpi, hpe⟩ := Classical.not_imp.1 hp1
      rw [Classical.not_not] at hpe
      rw [hasB_iff.2 ⟨p, (inR_all p).2 hpi, hpe⟩]
      rfl
    · rw [if_neg h]
      have : hasB c 0 0 c.wide c.high (k : Int) = false := by
        rw [← Bool.not_eq_true, hasB_iff]
        rintro ⟨p, hp, e⟩
        have := at_great ok p.1 p.2
        have e2 : at2 c p.1 p.2 = (k : Int) := e
        omega
      rw [this]; rfl
  unfold hasN
  rw [sumTo_congr fun k _ => e k]
  have hsplit := sumTo_app (fun k : Nat => if k < (greatS c).toNat + 1 then (1 : Int) else 0) ((greatS c).toNat + 1) (40 - ((greatS c).toNat + 1))
  rw [show (greatS c).toNat + 1 + (40 - ((greatS c).toNat + 1)) = 40 by omega] at hsplit
  rw [hsplit, sumTo_congr (g := fun _ => (1 : Int)) fun k hk => if_pos hk, sumTo_const, sumTo_zero fun k _ => if_neg (by omega)]
  omega
/-! What the lines of a saw part. -/
def LowL (l : List Ln) (x y : Int) : Prop := ∃ s ∈ l, s.1 = false ∧ s.2.1 = y + 1 ∧ s.2.2.1 ≤ x ∧ x < s.2.2.2
def RightL (l : List Ln) (x y : Int) : Prop := ∃ s ∈ l, s.1 = true ∧ s.2.1 = x + 1 ∧ s.2.2.1 ≤ y ∧ y < s.2.2.2
structure SawnOk (c : Cut) (x0 y0 x1 y1 : Int) (l : List Ln) : Prop where
  bt : ∀ s ∈ l, s.1 = true → (x0 < s.2.1 ∧ s.2.1 < x1) ∧ y0 ≤ s.2.2.1 ∧ s.2.2.1 < s.2.2.2 ∧ s.2.2.2 ≤ y1
  bf : ∀ s ∈ l, s.1 = false → (y0 < s.2.1 ∧ s.2.1 < y1) ∧ x0 ≤ s.2.2.1 ∧ s.2.2.1 < s.2.2.2 ∧ s.2.2.2 ≤ x1
  low : ∀ x y, x0 ≤ x → x < x1 → y0 ≤ y → y + 1 < y1 → (LowL l x y ↔ at2 c x (y + 1) ≠ at2 c x y)
  right : ∀ x y, x0 ≤ x → x + 1 < x1 → y0 ≤ y → y < y1 → (RightL l x y ↔ at2 c (x + 1) y ≠ at2 c x y)
theorem LowL.join {s : Ln} {a b : List Ln} {x y : Int} : LowL (s :: (a ++ b)) x y ↔ (s.1 = false ∧ s.2.1 = y + 1 ∧ s.2.2.1 ≤ x ∧ x < s.2.2.2) ∨ LowL a x y ∨ LowL b x y := by
  unfold LowL
  simp only [List.mem_cons, List.mem_append]
  constructor
  · rintro ⟨t, rfl | h | h, h2⟩
    · exact .inl h2
    · exact .inr (.inl ⟨t, h, h2⟩)
    · exact .inr (.inr ⟨t, h, h2⟩)
  · rintro (h | ⟨t, h, h2⟩ | ⟨t, h, h2⟩)
    · exact ⟨s, .inl rfl, h⟩
    · exact ⟨t, .inr (.inl h), h2⟩
    · exact ⟨t, .inr (.inr h), h2⟩
theorem RightL.join {s : Ln} {a b : List Ln} {x y : Int} : RightL (s :: (a ++ b)) x y ↔ (s.1 = true ∧ s.2.1 = x + 1 ∧ s.2.2.1 ≤ y ∧ y < s.2.2.2) ∨ RightL a x y ∨ RightL b x y := by
  unfold RightL
  simp only [List.mem_cons, List.mem_append]
  constructor
  · rintro ⟨t, rfl | h | h, h2⟩
    · exact .inl h2
    · exact .inr (.inl ⟨t, h, h2⟩)
    · exact .inr (.inr ⟨t, h, h2⟩)
  · rintro (h | ⟨t, h, h2⟩ | ⟨t, h, h2⟩)
    · exact ⟨s, .inl rfl, h⟩
    · exact ⟨t, .inr (.inl h), h2⟩
    · exact ⟨t, .inr (.inr h), h2⟩
theorem SawnOk.lowOut {c : Cut} {x0 y0 x1 y1 : Int} {l : List Ln} (h : SawnOk c x0 y0 x1 y1 l) {x y : Int} (ho : ¬ ((x0 ≤ x ∧ x < x1) ∧ y0 ≤ y ∧ y + 1 < y1)) : ¬ LowL l x y := by
  rintro ⟨s, hs, h1, h2, h3, h4⟩
  have := h.bf s hs h1
  omega
theorem SawnOk.rightOut {c : Cut} {x0 y0 x1 y1 : Int} {l : List Ln} (h : SawnOk c x0 y0 x1 y1 l) {x y : Int} (ho : ¬ ((x0 ≤ x ∧ x + 1 < x1) ∧ y0 ≤ y ∧ y < y1)) : ¬ RightL l x y := by
  rintro ⟨s, hs, h1, h2, h3, h4⟩
  have := h.bt s hs h1
  omega
theorem sawn_ok {c : Cut} (ok : OkC c) : ∀ (n : Nat) {x0 y0 x1 y1 : Int}, Rec c n x0 y0 x1 y1 → (sawF c n x0 y0 x1 y1).2 = true → SawnOk c x0 y0 x1 y1 (sawF c n x0 y0 x1 y1).1
  | 0, x0, y0, x1, y1, hR, _ => by have h1 := hR.x; have h2 := hR.y; have h3 := hR.n; omega
  | n + 1, x0, y0, x1, y1, hR, hs => by
    have hx := hR.x
    have hy := hR.y
    rcases saw_steps ok hR with ⟨h1, e⟩ | ⟨y, hy2, h1, e⟩ | ⟨x, hx2, h1, e⟩ | ⟨h1, e⟩
    · rw [e]
      refine ⟨fun s h => by simp at h, fun s h => by simp at h, fun x y ha hb hc hd => ?_, fun x y ha hb hc hd => ?_⟩
      · have := h1 (x, y + 1) (x, y) (by unfold InR; dsimp only; omega) (by unfold InR; dsimp only; omega)
        exact ⟨fun ⟨s, h, _⟩ => by simp at h, fun h => absurd this h⟩
      · have := h1 (x + 1, y) (x, y) (by unfold InR; dsimp only; omega) (by unfold InR; dsimp only; omega)
        exact ⟨fun ⟨s, h, _⟩ => by simp at h, fun h => absurd this h⟩
    · obtain ⟨ra, rb⟩ := hR.row hy2
      rw [e] at hs ⊢
      replace hs : ((sawF c n x0 y0 x1 y).2 && (sawF c n x0 y x1 y1).2) = true := hs
      rw [Bool.and_eq_true] at hs
      have ia := sawn_ok ok n ra hs.1
      have ib := sawn_ok ok n rb hs.2
      unfold joinL
      dsimp only
      refine ⟨fun s h hu => ?_, fun s h hu => ?_, fun x' y' ha hb hc hd => ?_, fun x' y' ha hb hc hd => ?_⟩
      · rcases List.mem_cons.1 h with rfl | h
        · cases hu
        · rcases List.mem_append.1 h with h | h
          · have := ia.bt s h hu; omega
          · have := ib.bt s h hu; omega
      · rcases List.mem_cons.1 h with rfl | h
        · dsimp only; omega
        · rcases List.mem_append.1 h with h | h
          · have := ia.bf s h hu; omega
          · have := ib.bf s h hu; omega
      · rw [LowL.join]
        dsimp only
        by_cases e1 : y' + 1 = y
        · have := h1 (x', y') (x', y' + 1) (by unfold InR; dsimp only; omega) (by unfold InR; dsimp only; omega)
          exact ⟨fun _ => fun e => this e.symm, fun _ => .inl ⟨rfl, e1.symm, ha, hb⟩⟩
        · by_cases e2 : y' + 1 < y
          · have n2 := ib.lowOut (x := x') (y := y') (by omega)
            have h3 := ia.low x' y' ha hb hc e2
            rw [← h3]
            exact ⟨fun h => h.elim (fun h => by omega) (fun h => h.elim id (fun h => absurd h n2)), fun h => .inr (.inl h)⟩
          · have n2 := ia.lowOut (x := x') (y := y') (by omega)
            have h3 := ib.low x' y' ha hb (by omega) hd
            rw [← h3]
            exact ⟨fun h => h.elim (fun h => by omega) (fun h => h.elim (fun h => absurd h n2) id), fun h => .inr (.inr h)⟩
      · rw [RightL.join]
        dsimp only
        by_cases e2 : y' < y
        · have n2 := ib.rightOut (x := x') (y := y') (by omega)
          have h3 := ia.right x' y' ha hb hc e2
          rw [← h3]
          exact ⟨fun h => h.elim (fun h => by cases h.1) (fun h => h.elim id (fun h => absurd h n2)), fun h => .inr (.inl h)⟩
        · have n2 := ia.rightOut (x := x') (y := y') (by omega)
          have h3 := ib.right x' y' ha hb (by omega) hd
          rw [← h3]
          exact ⟨fun h => h.elim (fun h => by cases h.1) (fun h => h.elim (fun h => absurd h n2) id), fun h => .inr (.inr h)⟩
    · obtain ⟨ra, rb⟩ := hR.col hx2
      rw [e] at hs ⊢
      replace hs : ((sawF c n x0 y0 x y1).2 && (sawF c n x y0 x1 y1).2) = true := hs
      rw [Bool.and_eq_true] at hs
      have ia := sawn_ok ok n ra hs.1
      have ib := sawn_ok ok n rb hs.2
      unfold joinL
      dsimp only
      refine ⟨fun s h hu => ?_, fun s h hu => ?_, fun x' y' ha hb hc hd => ?_, fun x' y' ha hb hc hd => ?_⟩
      · rcases List.mem_cons.1 h with rfl | h
        · dsimp only; omega
        · rcases List.mem_append.1 h with h | h
          · have := ia.bt s h hu; omega
          · have := ib.bt s h hu; omega
      · rcases List.mem_cons.1 h with rfl | h
        · cases hu
        · rcases List.mem_append.1 h with h | h
          · have := ia.bf s h hu; omega
          · have := ib.bf s h hu; omega
      · rw [LowL.join]
        dsimp only
        by_cases e2 : x' < x
        · have n2 := ib.lowOut (x := x') (y := y') (by omega)
          have h3 := ia.low x' y' ha e2 hc hd
          rw [← h3]
          exact ⟨fun h => h.elim (fun h => by cases h.1) (fun h => h.elim id (fun h => absurd h n2)), fun h => .inr (.inl h)⟩
        · have n2 := ia.lowOut (x := x') (y := y') (by omega)
          have h3 := ib.low x' y' (by omega) hb hc hd
          rw [← h3]
          exact ⟨fun h => h.elim (fun h => by cases h.1) (fun h => h.elim (fun h => absurd h n2) id), fun h => .inr (.inr h)⟩
      · rw [RightL.join]
        dsimp only
        by_cases e1 : x' + 1 = x
        · have := h1 (x', y') (x' + 1, y') (by unfold InR; dsimp only; omega) (by unfold InR; dsimp only; omega)
          exact ⟨fun _ => fun e => this e.symm, fun _ => .inl ⟨rfl, e1.symm, hc, hd⟩⟩
        · by_cases e2 : x' + 1 < x
          · have n2 := ib.rightOut (x := x') (y := y') (by omega)
            have h3 := ia.right x' y' ha e2 hc hd
            rw [← h3]
            exact ⟨fun h => h.elim (fun h => by omega) (fun h => h.elim id (fun h => absurd h n2)), fun h => .inr (.inl h)⟩
          · have n2 := ia.rightOut (x := x') (y := y') (by omega)
            have h3 := ib.right x' y' (by omega) hb hc hd
            rw [← h3]
            exact ⟨fun h => h.elim (fun h => by omega) (fun h => h.elim (fun h => absurd h n2) id), fun h => .inr (.inr h)⟩
    · rw [e] at hs; cases hs
end
section
open Go.RowKit
/-! Plain: a part of a picture, its pieces numbered anew. -/
theorem filt_at {P : Nat → Bool} : ∀ {n j : Nat}, j < n → P j = true → ((List.range n).filter P)[((List.range j).filter P).length]? = some j
  | n + 1, j, hj, hp => by
    rw [List.range_succ, List.filter_append]
    by_cases e : j = n
    · subst e
      rw [List.getElem?_append_right (Nat.le_refl _), Nat.sub_self]
      simp [hp]
    · have ih := filt_at (n := n) (j := j) (by omega) hp
      have hlt := (List.getElem?_eq_some_iff.1 ih).1
      rw [List.getElem?_append_left hlt]
      exact ih
theorem filt_len (P : Nat → Bool) : ∀ n : Nat, (((List.range n).filter P).length : Int) = sumTo (fun i => b2i (P i)) n
  | 0 => rfl
  | n + 1 => by
    rw [List.range_succ, List.filter_append, List.length_append]
    show _ = sumTo (fun i => b2i (P i)) n + b2i (P n)
    rw [← filt_len P n]
    cases h : P n <;> simp [h, b2i]
theorem ind_sum {a b : Int} (ha : 0 ≤ a) (hab : a ≤ b) : ∀ n : Nat, sumTo (fun j : Nat => b2i (inS (j : Int) a (b - 1))) n = max 0 (min (n : Int) b - a)
  | 0 => by show (0 : Int) = _; omega
  | n + 1 => by
    show sumTo (fun j : Nat => b2i (inS (j : Int) a (b - 1))) n + b2i (inS (n : Int) a (b - 1)) = _
    rw [ind_sum ha hab n]
    unfold inS b2i
    by_cases h : a ≤ (n : Int) ∧ (n : Int) ≤ b - 1
    · rw [decide_eq_true h, if_pos rfl]; omega
    · rw [decide_eq_false h]
      simp only [Bool.false_eq_true, if_false]
      omega
structure RcC (c : Cut) (x0 y0 x1 y1 : Int) : Prop where
  x : 0 ≤ x0 ∧ x0 < x1 ∧ x1 ≤ c.wide
  y : 0 ≤ y0 ∧ y0 < y1 ∧ y1 ≤ c.high
theorem b2i_and (p q : Bool) : b2i (p && q) = b2i p * b2i q := by cases p <;> cases q <;> rfl
/-- How many cells of the part come before one. -/
theorem part_cnt {c : Cut} (ok : OkC c) {x0 y0 x1 y1 : Int} (hr : RcC c x0 y0 x1 y1) {x y : Nat} (hx : (x : Int) ≤ c.wide) (hy : y0 ≤ (y : Int) ∧ (y : Int) ≤ y1) : sumTo (fun i => b2i (insR c i x0 y0 x1 y1)) (y * W c + x) = ((y : Int) - y0) * (x1 - x0) + b2i (inS (y : Int) y0 (y1 - 1)) * max 0 (min (x : Int) x1 - x0) ∨ x = W c := by
  have hWH : ((W c : Nat) : Int) = c.wide ∧ ((H c : Nat) : Int) = c.high := by
    have hw := ok.w
    have hh := ok.h
    unfold W H
    omega
  have hrx := hr.x
  have hry := hr.y
  by_cases e : x = W c
  · exact .inr e
  left
  have hxW : x < W c := by omega
  have e0 : ∀ i : Nat, b2i (insR c i x0 y0 x1 y1) = (fun u v : Int => b2i (inS u x0 (x1 - 1)) * b2i (inS v y0 (y1 - 1))) ((i : Int) % ((W c : Nat) : Int)) ((i : Int) / ((W c : Nat) : Int)) := fun i => by
    unfold insR colI rowI
    rw [b2i_and, hWH.1]
  rw [sumTo_app, sumTo_congr fun i _ => e0 i, sum_rows (fun u v : Int => b2i (inS u x0 (x1 - 1)) * b2i (inS v y0 (y1 - 1))) (by omega)]
  have r1 : sumTo (fun v : Nat => sumTo (fun u : Nat => b2i (inS (u : Int) x0 (x1 - 1)) * b2i (inS (v : Int) y0 (y1 - 1))) (W c)) y = ((y : Int) - y0) * (x1 - x0) := by
    rw [sumTo_congr (g := fun v : Nat => (x1 - x0) * b2i (inS (v : Int) y0 (y1 - 1))) fun v _ => by
      rw [sumTo_congr (g := fun u : Nat => b2i (inS (v : Int) y0 (y1 - 1)) * b2i (inS (u : Int) x0 (x1 - 1))) fun u _ => Int.mul_comm _ _, sumTo_mul, ind_sum hrx.1 (by omega), hWH.1, Int.mul_comm]
      congr 1
      omega]
    rw [sumTo_mul, ind_sum hry.1 (by omega), Int.mul_comm]
    congr 1
    omega
  have r2 : sumTo (fun j => b2i (insR c (y * W c + j) x0 y0 x1 y1)) x = b2i (inS (y : Int) y0 (y1 - 1)) * max 0 (min (x : Int) x1 - x0) := by
    rw [sumTo_congr (g := fun j : Nat => b2i (inS (y : Int) y0 (y1 - 1)) * b2i (inS (j : Int) x0 (x1 - 1))) fun j hj => by
      rw [e0]
      dsimp only
      have e1 : (((y * W c + j : Nat)) : Int) = (j : Int) + (y : Int) * ((W c : Nat) : Int) := by push_cast; omega
      have e2 : (((y * W c + j : Nat)) : Int) % ((W c : Nat) : Int) = j := by
        rw [e1, Int.add_mul_emod_self_right]
        exact Int.emod_eq_of_lt (by omega) (by omega)
      have e3 : (((y * W c + j : Nat)) : Int) / ((W c : Nat) : Int) = y := by
        rw [e1, Int.add_mul_ediv_right _ _ (by omega), Int.ediv_eq_zero_of_lt (by omega) (by omega)]; omega
      rw [e2, e3, Int.mul_comm]]
    rw [sumTo_mul, ind_sum hrx.1 (by omega)]
  rw [r1, r2]
/-- The pieces of the part's cells, in order. -/
def rlL (c : Cut) (x0 y0 x1 y1 : Int) (n : Nat) : List Int := ((List.range n).filter fun i => insR c i x0 y0 x1 y1).map (atI c)
theorem rl_add (c : Cut) (x0 y0 x1 y1 : Int) (n : Nat) : rlL c x0 y0 x1 y1 (n + 1) = if insR c n x0 y0 x1 y1 = true then rlL c x0 y0 x1 y1 n ++ [atI c n] else rlL c x0 y0 x1 y1 n := by
  unfold rlL
  rw [List.range_succ, List.filter_append, List.map_append]
  by_cases h : insR c n x0 y0 x1 y1 = true
  · rw [if_pos h]; simp [h]
  · rw [if_neg h]; simp [h]
theorem len_WH {c : Cut} (ok : OkC c) : c.piece.length = H c * W c := by
  have hWH : ((W c : Nat) : Int) = c.wide ∧ ((H c : Nat) : Int) = c.high := by
    have hw := ok.w
    have hh := ok.h
    unfold W H
    omega
  have h1 := ok.len
  have h2 : ((H c * W c : Nat) : Int) = c.wide * c.high := by rw [Int.natCast_mul, hWH.1, hWH.2, Int.mul_comm]
  omega
theorem rl_len {c : Cut} (ok : OkC c) {x0 y0 x1 y1 : Int} (hr : RcC c x0 y0 x1 y1) : ((rlL c x0 y0 x1 y1 c.piece.length).length : Int) = (x1 - x0) * (y1 - y0) := by
  have hWH : ((W c : Nat) : Int) = c.wide ∧ ((H c : Nat) : Int) = c.high := by
    have hw := ok.w
    have hh := ok.h
    unfold W H
    omega
  have hrx := hr.x
  have hry := hr.y
  have e0 : ∀ i : Nat, b2i (insR c i x0 y0 x1 y1) = (fun u v : Int => b2i (inS u x0 (x1 - 1)) * b2i (inS v y0 (y1 - 1))) ((i : Int) % ((W c : Nat) : Int)) ((i : Int) / ((W c : Nat) : Int)) := fun i => by
    unfold insR colI rowI
    rw [b2i_and, hWH.1]
  unfold rlL
  rw [List.length_map, filt_len, len_WH ok, sumTo_congr fun i _ => e0 i, sum_rows (fun u v : Int => b2i (inS u x0 (x1 - 1)) * b2i (inS v y0 (y1 - 1))) (by omega)]
  rw [sumTo_congr (g := fun v : Nat => (x1 - x0) * b2i (inS (v : Int) y0 (y1 - 1))) fun v _ => by
    rw [sumTo_congr (g := fun u : Nat => b2i (inS (v : Int) y0 (y1 - 1)) * b2i (inS (u : Int) x0 (x1 - 1))) fun u _ => Int.mul_comm _ _, sumTo_mul, ind_sum hrx.1 (by omega), hWH.1, Int.mul_comm]
    congr 1
    omega]
  rw [sumTo_mul, ind_sum hry.1 (by omega)]
  congr 1
  omega
theorem rl_at {c : Cut} (ok : OkC c) {x0 y0 x1 y1 : Int} (hr : RcC c x0 y0 x1 y1) {u v : Nat} (hu : (u : Int) < x1 - x0) (hv : (v : Int) < y1 - y0) : (rlL c x0 y0 x1 y1 c.piece.length)[v * (x1 - x0).toNat + u]? = some (at2 c (x0 + (u : Int)) (y0 + (v : Int))) := by
  have hWH : ((W c : Nat) : Int) = c.wide ∧ ((H c : Nat) : Int) = c.high := by
    have hw := ok.w
    have hh := ok.h
    unfold W H
    omega
  have hrx := hr.x
  have hry := hr.y
  obtain ⟨x, hx⟩ : ∃ x : Nat, (x : Int) = x0 + (u : Int) := ⟨(x0 + (u : Int)).toNat, by omega⟩
  obtain ⟨y, hy⟩ : ∃ y : Nat, (y : Int) = y0 + (v : Int) := ⟨(y0 + (v : Int)).toNat, by omega⟩
  have hxW : x < W c := by omega
  have hj : y * W c + x < c.piece.length := by
    rw [len_WH ok]
    have h1 : y + 1 ≤ H c := by omega
    have := Nat.mul_le_mul_right (W c) h1
    rw [Nat.add_mul, Nat.one_mul] at this
    omega
  have e1 : (((y * W c + x : Nat)) : Int) = (x : Int) + (y : Int) * c.wide := by push_cast; rw [hWH.1]; omega
  have hcol : colI c (y * W c + x) = (x : Int) := by
    unfold colI
    rw [e1, Int.add_mul_emod_self_right]
    exact Int.emod_eq_of_lt (by omega) (by omega)
  have hrow : rowI c (y * W c + x) = (y : Int) := by
    unfold rowI
    rw [e1, Int.add_mul_ediv_right _ _ (by omega), Int.ediv_eq_zero_of_lt (by omega) (by omega)]; omega
  have hin : insR c (y * W c + x) x0 y0 x1 y1 = true := by
    unfold insR inS
    rw [hcol, hrow]
    simp only [Bool.and_eq_true, decide_eq_true_eq]
    omega
  have hf := filt_at (P := fun i => insR c i x0 y0 x1 y1) hj hin
  have hcnt : ((List.range (y * W c + x)).filter fun i => insR c i x0 y0 x1 y1).length = v * (x1 - x0).toNat + u := by
    have h1 := filt_len (fun i => insR c i x0 y0 x1 y1) (y * W c + x)
    rcases part_cnt ok hr (x := x) (y := y) (by omega) (by omega) with h2 | h2
    · rw [h2] at h1
      have h3 : b2i (inS (y : Int) y0 (y1 - 1)) = 1 := by
        unfold inS b2i
        rw [decide_eq_true (by omega)]; rfl
      rw [h3, hy] at h1
      have h4 : ((v * (x1 - x0).toNat + u : Nat) : Int) = (v : Int) * (x1 - x0) + (u : Int) := by push_cast; rw [Int.toNat_of_nonneg (by omega)]
      have h5 : (y0 + (v : Int) - y0) * (x1 - x0) = (v : Int) * (x1 - x0) := by congr 1; omega
      rw [h5] at h1
      omega
    · omega
  rw [hcnt] at hf
  unfold rlL
  rw [List.getElem?_map, hf]
  show some (atI c (y * W c + x)) = _
  rw [← ok.at_cell hj, hcol, hrow, hx, hy]
/-! The names. -/
def nmStep (c : Cut) (x0 y0 x1 y1 : Int) (s : (Nat → Int) × Int) (i : Nat) : (Nat → Int) × Int := if insR c i x0 y0 x1 y1 = true ∧ s.1 (atI c i).toNat = 0 then (fun p => if p = (atI c i).toNat then s.2 + 1 else s.1 p, s.2 + 1) else s
def nmS (c : Cut) (x0 y0 x1 y1 : Int) : Nat → (Nat → Int) × Int
  | 0 => (fun _ => 0, 0)
  | n + 1 => nmStep c x0 y0 x1 y1 (nmS c x0 y0 x1 y1 n) n
def hlL (c : Cut) (x0 y0 x1 y1 : Int) (n : Nat) : List Int := (rlL c x0 y0 x1 y1 n).map fun p => (nmS c x0 y0 x1 y1 n).1 p.toNat - 1
structure NmOk (c : Cut) (x0 y0 x1 y1 : Int) (n : Nat) : Prop where
  a : ∀ p : Nat, (nmS c x0 y0 x1 y1 n).1 p ≠ 0 ↔ ∃ j, j < n ∧ insR c j x0 y0 x1 y1 = true ∧ atI c j = (p : Int)
  b : ∀ p, 0 ≤ (nmS c x0 y0 x1 y1 n).1 p ∧ (nmS c x0 y0 x1 y1 n).1 p ≤ (nmS c x0 y0 x1 y1 n).2
  inj : ∀ p q, (nmS c x0 y0 x1 y1 n).1 p = (nmS c x0 y0 x1 y1 n).1 q → (nmS c x0 y0 x1 y1 n).1 p ≠ 0 → p = q
  d : ∀ v : Int, 1 ≤ v → v ≤ (nmS c x0 y0 x1 y1 n).2 → ∃ p, (nmS c x0 y0 x1 y1 n).1 p = v
  e : (nmS c x0 y0 x1 y1 n).2 = sumTo (fun p => if (nmS c x0 y0 x1 y1 n).1 p ≠ 0 then 1 else 0) 40
theorem at_pc {c : Cut} (ok : OkC c) {j : Nat} (hj : j < c.piece.length) : 0 ≤ atI c j ∧ atI c j ≤ 39 := ok.pc _ (by unfold atI; rw [getD_get hj]; exact List.getElem_mem _)
theorem nm_ok {c : Cut} (ok : OkC c) (x0 y0 x1 y1 : Int) : ∀ n : Nat, n ≤ c.piece.length → NmOk c x0 y0 x1 y1 n
  | 0, _ => ⟨fun p => ⟨fun h => absurd rfl h, fun ⟨j, hj, _⟩ => by omega⟩, fun p => ⟨Int.le_refl _, Int.le_refl _⟩, fun p q _ h => absurd rfl h, fun v h1 h2 => by
      have h2 : v ≤ 0 := h2
      omega, (sumTo_zero fun p _ => if_neg (fun h => h rfl)).symm⟩
  | n + 1, hn => by
    have ih := nm_ok ok x0 y0 x1 y1 n (by omega)
    have hp := at_pc ok (j := n) (by omega)
    have hs : nmS c x0 y0 x1 y1 (n + 1) = nmStep c x0 y0 x1 y1 (nmS c x0 y0 x1 y1 n) n := rfl
    by_cases h : insR c n x0 y0 x1 y1 = true ∧ (nmS c x0 y0 x1 y1 n).1 (atI c n).toNat = 0
    · have h1 : nmS c x0 y0 x1 y1 (n + 1) = (fun p => if p = (atI c n).toNat then (nmS c x0 y0 x1 y1 n).2 + 1 else (nmS c x0 y0 x1 y1 n).1 p, (nmS c x0 y0 x1 y1 n).2 + 1) := by rw [hs]; unfold nmStep; rw [if_pos h]
      have hm0 := (ih.b 0)
      obtain ⟨ha, hb, hi, hd, he⟩ := ih
      generalize hN : nmS c x0 y0 x1 y1 n = N at *
      obtain ⟨nm, many⟩ := N
      dsimp only at *
      obtain ⟨p0, hp0⟩ : ∃ p0 : Nat, p0 = (atI c n).toNat := ⟨_, rfl⟩
      rw [← hp0] at h h1
      have hpi : (p0 : Int) = atI c n := by omega
      refine ⟨fun p => ?_, fun p => ?_, fun p q => ?_, fun v hv1 hv2 => ?_, ?_⟩
      · rw [h1]
        dsimp only
        by_cases e : p = p0
        · rw [if_pos e]
          exact ⟨fun _ => ⟨n, by omega, h.1, by rw [e]; exact hpi.symm⟩, fun _ => by omega⟩
        · rw [if_neg e, ha]
          constructor
          · rintro ⟨j, hj, h2⟩
            exact ⟨j, by omega, h2⟩
          · rintro ⟨j, hj, h2, h3⟩
            by_cases ej : j = n
            · rw [ej] at h3; omega
            · exact ⟨j, by omega, h2, h3⟩
      · rw [h1]
        dsimp only
        have := hb p
        split <;> omega
      · rw [h1]
        dsimp only
        have b1 := hb p
        have b2 := hb q
        by_cases ep : p = p0 <;> by_cases eq : q = p0
        · intro _ _; omega
        · rw [if_pos ep, if_neg eq]; intro _ _; omega
        · rw [if_neg ep, if_pos eq]; intro _ _; omega
        · rw [if_neg ep, if_neg eq]; exact hi p q
      · rw [h1] at hv2 ⊢
        dsimp only at hv2 ⊢
        by_cases ev : v = many + 1
        · exact ⟨p0, by rw [if_pos rfl]; exact ev.symm⟩
        · obtain ⟨p, hp2⟩ := hd v hv1 (by omega)
          refine ⟨p, ?_⟩
          rw [if_neg (fun e => by rw [e, h.2] at hp2; omega)]
          exact hp2
      · rw [h1]
        dsimp only
        have := sumTo_one (f := fun p => if nm p ≠ 0 then (1 : Int) else 0) (g := fun p => if (if p = p0 then many + 1 else nm p) ≠ 0 then (1 : Int) else 0) (i := p0) (d := 1) (by
          have : ¬ many + 1 = 0 := by omega
          simp [h.2, this]) (n := 40) (by omega) (fun k _ hk => by rw [if_neg hk])
        rw [this, ← he]
    · have h1 : nmS c x0 y0 x1 y1 (n + 1) = nmS c x0 y0 x1 y1 n := by rw [hs]; unfold nmStep; rw [if_neg h]
      rw [show NmOk c x0 y0 x1 y1 (n + 1) ↔ _ from Iff.rfl]
      obtain ⟨ha, hb, hi, hd, he⟩ := ih
      refine ⟨fun p => ?_, by rw [h1]; exact hb, by rw [h1]; exact hi, by rw [h1]; exact hd, by rw [h1]; exact he⟩
      rw [h1, ha]
      constructor
      · rintro ⟨j, hj, h2⟩
        exact ⟨j, by omega, h2⟩
      · rintro ⟨j, hj, h2, h3⟩
        by_cases ej : j = n
        · subst ej
          have h4 : (nmS c x0 y0 x1 y1 j).1 (atI c j).toNat ≠ 0 := fun e => h ⟨h2, e⟩
          obtain ⟨j', hj', h5, h6⟩ := (ha _).1 h4
          exact ⟨j', hj', h5, by rw [h6]; omega⟩
        · exact ⟨j, by omega, h2, h3⟩
theorem NmOk.many {c : Cut} {x0 y0 x1 y1 : Int} {n : Nat} (h : NmOk c x0 y0 x1 y1 n) : 0 ≤ (nmS c x0 y0 x1 y1 n).2 ∧ (nmS c x0 y0 x1 y1 n).2 ≤ 40 := by
  rw [h.e]
  have := sumTo_bd (f := fun p => if (nmS c x0 y0 x1 y1 n).1 p ≠ 0 then (1 : Int) else 0) (B := 1) (fun k => by split <;> omega) 40
  omega
/-- One cell more. -/
theorem hl_add {c : Cut} (ok : OkC c) {x0 y0 x1 y1 : Int} {n : Nat} (hn : n < c.piece.length) : hlL c x0 y0 x1 y1 (n + 1) = if insR c n x0 y0 x1 y1 = true then hlL c x0 y0 x1 y1 n ++ [(nmS c x0 y0 x1 y1 (n + 1)).1 (atI c n).toNat - 1] else hlL c x0 y0 x1 y1 n := by
  have ih := nm_ok ok x0 y0 x1 y1 n (by omega)
  have hold : (rlL c x0 y0 x1 y1 n).map (fun p => (nmS c x0 y0 x1 y1 (n + 1)).1 p.toNat - 1) = hlL c x0 y0 x1 y1 n := by
    unfold hlL
    refine List.map_congr_left fun p hp => ?_
    unfold rlL at hp
    obtain ⟨j, hj, rfl⟩ := List.mem_map.1 hp
    rw [List.mem_filter, List.mem_range] at hj
    have hpj := at_pc ok (j := j) (by omega)
    have h1 : (nmS c x0 y0 x1 y1 n).1 (atI c j).toNat ≠ 0 := (ih.a _).2 ⟨j, hj.1, hj.2, by omega⟩
    show (nmStep c x0 y0 x1 y1 (nmS c x0 y0 x1 y1 n) n).1 _ - 1 = _
    unfold nmStep
    split
    · rename_i h
      dsimp only
      rw [if_neg (fun e => by rw [e] at h1; exact h1 h.2)]
    · rfl
  unfold hlL at hold ⊢
  rw [rl_add]
  by_cases h : insR c n x0 y0 x1 y1 = true
  · rw [if_pos h, if_pos h, List.map_append, hold]; rfl
  · rw [if_neg h, if_neg h, hold]
theorem around_iff2 {x y : Int} {q : Pt} : q ∈ around x y ↔ (q.1 = x - 1 ∧ q.2 = y) ∨ (q.1 = x + 1 ∧ q.2 = y) ∨ (q.1 = x ∧ q.2 = y - 1) ∨ (q.1 = x ∧ q.2 = y + 1) := by
  obtain ⟨a, b⟩ := q
  unfold around
  simp only [List.mem_cons, Prod.mk.injEq, List.not_mem_nil, or_false]
/-! The part as a picture. -/
def halfS (c : Cut) (x0 y0 x1 y1 : Int) (A : Option Addr) (cap : Nat) : Cut := ⟨x1 - x0, y1 - y0, hlL c x0 y0 x1 y1 c.piece.length, A, cap⟩
section
variable {c : Cut} {x0 y0 x1 y1 : Int} {A : Option Addr} {cap : Nat}
theorem hl_len (c : Cut) (x0 y0 x1 y1 : Int) (n : Nat) : (hlL c x0 y0 x1 y1 n).length = (rlL c x0 y0 x1 y1 n).length := by unfold hlL; rw [List.length_map]
theorem half_out {u v : Int} (h : ¬ ((0 ≤ u ∧ u < x1 - x0) ∧ 0 ≤ v ∧ v < y1 - y0)) : at2 (halfS c x0 y0 x1 y1 A cap) u v = -1 :=
  at_out (c := halfS c x0 y0 x1 y1 A cap) (by
    show u < 0 ∨ x1 - x0 ≤ u ∨ v < 0 ∨ y1 - y0 ≤ v
    omega)
theorem half_in (ok : OkC c) (hr : RcC c x0 y0 x1 y1) {u v : Int} (h : (0 ≤ u ∧ u < x1 - x0) ∧ 0 ≤ v ∧ v < y1 - y0) : at2 (halfS c x0 y0 x1 y1 A cap) u v = (nmS c x0 y0 x1 y1 c.piece.length).1 (at2 c (x0 + u) (y0 + v)).toNat - 1 := by
  have hin : isIn (halfS c x0 y0 x1 y1 A cap) u v = true := by
    unfold isIn inS
    simp only [Bool.and_eq_true, decide_eq_true_eq]
    show (0 ≤ u ∧ u ≤ x1 - x0 - 1) ∧ 0 ≤ v ∧ v ≤ y1 - y0 - 1
    omega
  obtain ⟨a, ha⟩ : ∃ a : Nat, (a : Int) = u := ⟨u.toNat, by omega⟩
  obtain ⟨b, hb⟩ : ∃ b : Nat, (b : Int) = v := ⟨v.toNat, by omega⟩
  subst ha hb
  have h1 := rl_at ok hr (u := a) (v := b) h.1.2 h.2.2
  unfold at2
  rw [if_pos hin]
  show (hlL c x0 y0 x1 y1 c.piece.length).getD ((b : Int) * (x1 - x0) + (a : Int)).toNat 0 = _
  have e1 : ((b : Int) * (x1 - x0) + (a : Int)).toNat = b * (x1 - x0).toNat + a := by
    have : ((b * (x1 - x0).toNat + a : Nat) : Int) = (b : Int) * (x1 - x0) + (a : Int) := by push_cast; rw [Int.toNat_of_nonneg (by omega)]
    omega
  rw [e1, List.getD_eq_getElem?_getD]
  unfold hlL
  rw [List.getElem?_map, h1]
  rfl
theorem half_cell (ok : OkC c) (hr : RcC c x0 y0 x1 y1) {x y : Int} (h : InR x0 y0 x1 y1 (x, y)) : ∃ p : Nat, (p : Int) = at2 c x y ∧ (nmS c x0 y0 x1 y1 c.piece.length).1 p ≠ 0 := by
  have hrx := hr.x
  have hry := hr.y
  unfold InR at h
  dsimp only at h
  have hin := at_in ok (x := x) (y := y) (by omega)
  have hlo := ok.at_bd x y
  obtain ⟨p, hp⟩ : ∃ p : Nat, (p : Int) = at2 c x y := ⟨(at2 c x y).toNat, by omega⟩
  refine ⟨p, hp, ((nm_ok ok x0 y0 x1 y1 _ (Nat.le_refl _)).a p).2 ?_⟩
  obtain ⟨j, hj, e, -⟩ := idx_of ok (p := (x, y)) ((inG_bd _).2 (by dsimp only; omega))
  have e1 : colI c j = x := (congrArg Prod.fst e).symm
  have e2 : rowI c j = y := (congrArg Prod.snd e).symm
  refine ⟨j, hj, ?_, ?_⟩
  · unfold insR inS
    rw [e1, e2]
    simp only [Bool.and_eq_true, decide_eq_true_eq]
    omega
  · rw [hp, ← ok.at_cell hj, e1, e2]
theorem half_ok (ok : OkC c) (hr : RcC c x0 y0 x1 y1) : OkC (halfS c x0 y0 x1 y1 A cap) := by
  have hw := ok.w
  have hh := ok.h
  have hrx := hr.x
  have hry := hr.y
  refine ⟨?_, ?_, ?_, fun x hx => ?_⟩
  · show 1 ≤ x1 - x0 ∧ x1 - x0 ≤ 12; omega
  · show 1 ≤ y1 - y0 ∧ y1 - y0 ≤ 12; omega
  · show ((hlL c x0 y0 x1 y1 c.piece.length).length : Int) = (x1 - x0) * (y1 - y0)
    rw [hl_len, rl_len ok hr]
  · replace hx : x ∈ hlL c x0 y0 x1 y1 c.piece.length := hx
    unfold hlL rlL at hx
    obtain ⟨q, hq, rfl⟩ := List.mem_map.1 hx
    obtain ⟨j, hj, rfl⟩ := List.mem_map.1 hq
    rw [List.mem_filter, List.mem_range] at hj
    have hk := nm_ok ok x0 y0 x1 y1 _ (Nat.le_refl _)
    have hpj := at_pc ok hj.1
    have h1 : (nmS c x0 y0 x1 y1 c.piece.length).1 (atI c j).toNat ≠ 0 := (hk.a _).2 ⟨j, hj.1, hj.2, by omega⟩
    have h2 := hk.b (atI c j).toNat
    have h3 := hk.many
    omega
/-- Cells of one name are cells of one piece. -/
theorem half_same (ok : OkC c) (hr : RcC c x0 y0 x1 y1) {p q : Pt} (hp : InR x0 y0 x1 y1 p) (hq : InR x0 y0 x1 y1 q) : pcOf (halfS c x0 y0 x1 y1 A cap) (p.1 - x0, p.2 - y0) = pcOf (halfS c x0 y0 x1 y1 A cap) (q.1 - x0, q.2 - y0) ↔ pcOf c p = pcOf c q := by
  have key : ∀ p : Pt, InR x0 y0 x1 y1 p → pcOf (halfS c x0 y0 x1 y1 A cap) (p.1 - x0, p.2 - y0) = (nmS c x0 y0 x1 y1 c.piece.length).1 (pcOf c p).toNat - 1 := fun p hp => by
    unfold InR at hp
    have h := half_in (A := A) (cap := cap) ok hr (u := p.1 - x0) (v := p.2 - y0) (by omega)
    rw [show x0 + (p.1 - x0) = p.1 by omega, show y0 + (p.2 - y0) = p.2 by omega] at h
    exact h
  rw [key p hp, key q hq]
  constructor
  · intro e
    obtain ⟨a, ha, ha0⟩ := half_cell ok hr (x := p.1) (y := p.2) hp
    obtain ⟨b, hb, -⟩ := half_cell ok hr (x := q.1) (y := q.2) hq
    have ha' : (pcOf c p).toNat = a := by show (at2 c p.1 p.2).toNat = a; omega
    have hb' : (pcOf c q).toNat = b := by show (at2 c q.1 q.2).toNat = b; omega
    rw [ha', hb'] at e
    have := (nm_ok ok x0 y0 x1 y1 _ (Nat.le_refl _)).inj a b (by omega) ha0
    show at2 c p.1 p.2 = at2 c q.1 q.2
    omega
  · intro e; rw [e]
theorem half_shift {p : Pt} : Go.Proofs.Ytjlicbdnppodgaa.inG (halfS c x0 y0 x1 y1 A cap) p ↔ InR x0 y0 x1 y1 (p.1 + x0, p.2 + y0) := by
  rw [inG_bd]
  unfold InR
  show ((0 ≤ p.1 ∧ p.1 < x1 - x0) ∧ 0 ≤ p.2 ∧ p.2 < y1 - y0) ↔ (x0 ≤ p.1 + x0 ∧ p.1 + x0 < x1) ∧ y0 ≤ p.2 + y0 ∧ p.2 + y0 < y1
  omega
theorem half_back {p : Pt} : ((p.1 + x0) - x0, (p.2 + y0) - y0) = p := Prod.ext (by dsimp only; omega) (by dsimp only; omega)
theorem half_great (ok : OkC c) (hr : RcC c x0 y0 x1 y1) : greatS (halfS c x0 y0 x1 y1 A cap) = (nmS c x0 y0 x1 y1 c.piece.length).2 - 1 ∧ ∀ k : Int, 0 ≤ k → k < (nmS c x0 y0 x1 y1 c.piece.length).2 → ∃ p, inG (halfS c x0 y0 x1 y1 A cap) p ∧ pcOf (halfS c x0 y0 x1 y1 A cap) p = k := by
  have hk := nm_ok ok x0 y0 x1 y1 _ (Nat.le_refl _)
  have hrx := hr.x
  have hry := hr.y
  have ex : ∀ k : Int, 0 ≤ k → k < (nmS c x0 y0 x1 y1 c.piece.length).2 → ∃ p, inG (halfS c x0 y0 x1 y1 A cap) p ∧ pcOf (halfS c x0 y0 x1 y1 A cap) p = k := fun k h0 h1 => by
    obtain ⟨p, hp⟩ := hk.d (k + 1) (by omega) (by omega)
    obtain ⟨j, hj, h2, h3⟩ := (hk.a p).1 (by omega)
    have hc := ok.cell hj
    have hin : InR x0 y0 x1 y1 (colI c j, rowI c j) := by
      unfold insR inS at h2
      simp only [Bool.and_eq_true, decide_eq_true_eq] at h2
      unfold InR
      dsimp only
      omega
    refine ⟨(colI c j - x0, rowI c j - y0), half_shift.2 ?_, ?_⟩
    · dsimp only
      rw [show colI c j - x0 + x0 = colI c j by omega, show rowI c j - y0 + y0 = rowI c j by omega]
      exact hin
    · show at2 (halfS c x0 y0 x1 y1 A cap) (colI c j - x0) (rowI c j - y0) = k
      unfold InR at hin
      dsimp only at hin
      rw [half_in ok hr (by omega), show x0 + (colI c j - x0) = colI c j by omega, show y0 + (rowI c j - y0) = rowI c j by omega, ok.at_cell hj, h3]
      rw [show ((p : Int)).toNat = p by omega, hp]
      omega
  obtain ⟨a, ha, ha0⟩ := half_cell ok hr (x := x0) (y := y0) ⟨⟨Int.le_refl _, hrx.2.1⟩, Int.le_refl _, hry.2.1⟩
  have hb := hk.b a
  refine ⟨great_eq (half_ok ok hr) (ex _ (by omega) (by omega)) fun p hp => ?_, ex⟩
  rw [half_shift] at hp
  unfold InR at hp
  dsimp only at hp
  show at2 (halfS c x0 y0 x1 y1 A cap) p.1 p.2 ≤ _
  rw [half_in ok hr (by omega)]
  have := hk.b (at2 c (x0 + p.1) (y0 + p.2)).toNat
  omega
theorem half_reach (ok : OkC c) (hr : RcC c x0 y0 x1 y1) (hsep : ∀ p q : Pt, inG c p → inG c q → InR x0 y0 x1 y1 p → ¬ InR x0 y0 x1 y1 q → pcOf c p ≠ pcOf c q) {p q : Pt} (hg : inG c p) (hp : InR x0 y0 x1 y1 p) (h : Reach c p q) : InR x0 y0 x1 y1 q ∧ Reach (halfS c x0 y0 x1 y1 A cap) (p.1 - x0, p.2 - y0) (q.1 - x0, q.2 - y0) := by
  induction h with
  | refl => exact ⟨hp, .refl _⟩
  | step h1 h2 h3 ih =>
    rename_i q r
    have hgr : inG c r := (Reach.step h1 h2 h3).inG ok hg
    have hin : InR x0 y0 x1 y1 r := Classical.byContradiction fun hn => hsep p r hg hgr hp hn (by
      show at2 c p.1 p.2 = at2 c r.1 r.2
      rw [h3]; exact h1.at_eq.symm)
    refine ⟨hin, .step ih.2 ?_ ?_⟩
    · rw [around_iff2] at h2 ⊢
      dsimp only
      omega
    · exact ((half_same (A := A) (cap := cap) ok hr hin ih.1).2 h3)
theorem half_good (g : GoodC c) (hr : RcC c x0 y0 x1 y1) (hsep : ∀ p q : Pt, inG c p → inG c q → InR x0 y0 x1 y1 p → ¬ InR x0 y0 x1 y1 q → pcOf c p ≠ pcOf c q) : GoodC (halfS c x0 y0 x1 y1 A cap) := by
  have ok := g.ok
  have hrx := hr.x
  have hry := hr.y
  have hgr := half_great (A := A) (cap := cap) ok hr
  refine ⟨half_ok ok hr, fun k h1 h2 => hgr.2 k h1 (by rw [hgr.1] at h2; omega), fun k h1 h2 p q hp hq ep eq => ?_⟩
  have ip := half_shift.1 hp
  have iq := half_shift.1 hq
  have hs := half_same (A := A) (cap := cap) ok hr ip iq
  dsimp only at hs
  rw [half_back, half_back] at hs
  have he : pcOf c (p.1 + x0, p.2 + y0) = pcOf c (q.1 + x0, q.2 + y0) := hs.1 (by show at2 _ p.1 p.2 = at2 _ q.1 q.2; rw [ep, eq])
  have gp : inG c (p.1 + x0, p.2 + y0) := (inG_bd _).2 (by unfold InR at ip; dsimp only at *; omega)
  have gq : inG c (q.1 + x0, q.2 + y0) := (inG_bd _).2 (by unfold InR at iq; dsimp only at *; omega)
  have hb := ok.at_bd (p.1 + x0) (p.2 + y0)
  have hrc := g.whole (pcOf c (p.1 + x0, p.2 + y0)) (hb.2.2 gp) (at_great ok _ _) (p.1 + x0, p.2 + y0) (q.1 + x0, q.2 + y0) gp gq rfl he.symm
  have := (half_reach (A := A) (cap := cap) ok hr hsep gp ip hrc).2
  dsimp only at this
  rw [half_back, half_back] at this
  exact this
theorem half_sawable (ok : OkC c) (hr : RcC c x0 y0 x1 y1) {a0 b0 a1 b1 : Int} (h : Sawable c a0 b0 a1 b1) : x0 ≤ a0 → a1 ≤ x1 → y0 ≤ b0 → b1 ≤ y1 → Sawable (halfS c x0 y0 x1 y1 A cap) (a0 - x0) (b0 - y0) (a1 - x0) (b1 - y0) := by
  have sh : ∀ {u0 v0 u1 v1 : Int} {p : Pt}, InR (u0 - x0) (v0 - y0) (u1 - x0) (v1 - y0) p → InR u0 v0 u1 v1 (p.1 + x0, p.2 + y0) := fun h => by
    unfold InR at *; dsimp only; omega
  have eq : ∀ p q : Pt, InR x0 y0 x1 y1 (p.1 + x0, p.2 + y0) → InR x0 y0 x1 y1 (q.1 + x0, q.2 + y0) → (pcOf (halfS c x0 y0 x1 y1 A cap) p = pcOf (halfS c x0 y0 x1 y1 A cap) q ↔ pcOf c (p.1 + x0, p.2 + y0) = pcOf c (q.1 + x0, q.2 + y0)) := fun p q hp hq => by
    have := half_same (A := A) (cap := cap) ok hr hp hq
    dsimp only at this
    rw [half_back, half_back] at this
    exact this
  induction h with
  | one h =>
    intro h1 h2 h3 h4
    exact .one fun p q hp hq => (eq p q ((sh hp).sub h1 h2 h3 h4) ((sh hq).sub h1 h2 h3 h4)).2 (h _ _ (sh hp) (sh hq))
  | row y ha hb hg _ _ iha ihb =>
    intro h1 h2 h3 h4
    exact .row (y - y0) (by omega) (by omega) (fun p q hp hq e => hg _ _ (sh hp) (sh hq) ((eq p q ((sh hp).sub h1 h2 h3 (by omega)) ((sh hq).sub h1 h2 (by omega) h4)).1 e)) (iha h1 h2 h3 (by omega)) (ihb h1 h2 (by omega) h4)
  | col x ha hb hg _ _ iha ihb =>
    intro h1 h2 h3 h4
    exact .col (x - x0) (by omega) (by omega) (fun p q hp hq e => hg _ _ (sh hp) (sh hq) ((eq p q ((sh hp).sub h1 (by omega) h3 h4) ((sh hq).sub (by omega) h2 h3 h4)).1 e)) (iha h1 (by omega) h3 h4) (ihb (by omega) h2 h3 h4)
/-- The part of a picture that can be sawn can be sawn, with one line less than it has pieces. -/
theorem half_saw (g : GoodC c) (hs : Sawable c 0 0 c.wide c.high) (hr : RcC c x0 y0 x1 y1) (hsep : ∀ p q : Pt, inG c p → inG c q → InR x0 y0 x1 y1 p → ¬ InR x0 y0 x1 y1 q → pcOf c p ≠ pcOf c q) : sawE (halfS c x0 y0 x1 y1 A cap) = 0 ∧ ((sawL (halfS c x0 y0 x1 y1 A cap)).length : Int) = (nmS c x0 y0 x1 y1 c.piece.length).2 - 1 := by
  have hrx := hr.x
  have hry := hr.y
  have hg := half_good (A := A) (cap := cap) g hr hsep
  have hgr := (half_great (A := A) (cap := cap) g.ok hr).1
  have hsub := hs.sub (a0 := x0) (b0 := y0) (a1 := x1) (b1 := y1) hrx.1 hrx.2.1 hrx.2.2 hry.1 hry.2.1 hry.2.2
  have hsb := half_sawable (A := A) (cap := cap) g.ok hr hsub (Int.le_refl _) (Int.le_refl _) (Int.le_refl _) (Int.le_refl _)
  rw [Int.sub_self, Int.sub_self] at hsb
  have h2 := (saw_able hg.ok 24 (.all hg.ok)).2 hsb
  have he : sawE (halfS c x0 y0 x1 y1 A cap) = 0 := by
    unfold sawE
    rw [hg.check, if_neg (by simp), if_pos h2]
  refine ⟨he, ?_⟩
  have h3 := saw_count hg.ok 24 (.all hg.ok) h2
  rw [hasN_all hg.ok fun k hk => (has_cell hg.ok).2 (hg.cells k (by omega) hk), hgr] at h3
  unfold sawL
  rw [if_pos he]
  omega
end
end
section
open Go.RowKit
/-! The law CutSawn, walked. -/
theorem sawE_cases (c : Cut) : (sawE c = 0 ∧ (checkS c).2 = 0 ∧ (sawF c 24 0 0 c.wide c.high).2 = true) ∨ (sawE c ≠ 0 ∧ (((checkS c).2 ≠ 0 ∧ sawE c = (checkS c).2) ∨ ((checkS c).2 = 0 ∧ sawE c = 11))) := by
  unfold sawE
  by_cases h1 : (checkS c).2 ≠ 0
  · rw [if_pos h1]; exact .inr ⟨h1, .inl ⟨h1, rfl⟩⟩
  · rw [if_neg h1]
    have h1 := Classical.not_not.1 h1
    cases h2 : (sawF c 24 0 0 c.wide c.high).2
    · rw [if_neg (by simp)]; exact .inr ⟨by decide, .inr ⟨h1, rfl⟩⟩
    · rw [if_pos rfl]; exact .inl ⟨rfl, h1, rfl⟩
def lowQ (q : Ln) (x y : Int) : Bool := !q.1 && (q.2.1 == y + 1 && (decide (q.2.2.1 ≤ x) && decide (x < q.2.2.2)))
def rigQ (q : Ln) (x y : Int) : Bool := q.1 && (q.2.1 == x + 1 && (decide (q.2.2.1 ≤ y) && decide (y < q.2.2.2)))
def lowB (l : List Ln) (x y : Int) : Bool := l.any fun q => lowQ q x y
def rigB (l : List Ln) (x y : Int) : Bool := l.any fun q => rigQ q x y
theorem lowB_iff (l : List Ln) (x y : Int) : lowB l x y = true ↔ LowL l x y := by
  unfold lowB LowL lowQ
  rw [List.any_eq_true]
  simp only [Bool.and_eq_true, Bool.not_eq_true', beq_iff_eq, decide_eq_true_eq]
theorem rigB_iff (l : List Ln) (x y : Int) : rigB l x y = true ↔ RightL l x y := by
  unfold rigB RightL rigQ
  rw [List.any_eq_true]
  simp only [Bool.and_eq_true, beq_iff_eq, decide_eq_true_eq]
theorem lowB_take {l : List Ln} {t : Nat} (h : t < l.length) (x y : Int) : lowB (l.take (t + 1)) x y = (lowB (l.take t) x y || lowQ l[t] x y) := by
  unfold lowB
  rw [List.take_succ_eq_append_getElem h, List.any_append]
  simp
theorem rigB_take {l : List Ln} {t : Nat} (h : t < l.length) (x y : Int) : rigB (l.take (t + 1)) x y = (rigB (l.take t) x y || rigQ l[t] x y) := by
  unfold rigB
  rw [List.take_succ_eq_append_getElem h, List.any_append]
  simp
structure SwM (c : Cut) (A : Option Addr) (l : List Ln) (w V : World) : Prop where
  x : Bx V w.heap.size (cutL c)
  cc : CutAt V V.heap.size c
  a : At V V.heap.size 4 lineC A l
  b : Below w.heap.size w V
theorem SwM.next {c : Cut} {A : Option Addr} {l : List Ln} {w V V' : World} (h : SwM c A l w V) (hb : Below V.heap.size V V') : SwM c A l w V' := ⟨h.x.next hb, h.cc.next hb, h.a.next hb, h.b.trans (hb.mono h.b.size)⟩
def snY : List (Option Nat) := [none, none, none, none, none, none, some 6, none, none, none, none, some 11, some 12, some 13, some 14, some 15, none, some 17, none, none, none, none, none, none, none, none, none, none, none, none, none, none, none, none, none, none, none, none, none, none, none, none, none, none, none, none, none, none, none, none, none, none, none, none, none, none, none, none, none, none, none, none, none, none, none, none, none, none, none, none, none, none, none, none, none, none, none, none, some 78, some 79, some 80, some 81, some 82, some 83, some 84, some 85, some 86, some 87, some 88, some 89, some 90, some 91, some 92, some 93, some 94, some 95, some 96, some 97, some 98, some 99, some 100, some 101, some 102, some 103, some 104, some 105, some 106, some 107, some 108, some 109, some 110, some 111, some 112, some 113, some 114, some 115, some 116, some 117, some 118, some 119, some 120, some 121, some 122, some 123, some 124, some 125, some 126, some 127, some 128, some 129, some 130, some 131, some 132, some 133, some 134, some 135, some 136, some 137, some 138, some 139, some 140, some 141, some 142, some 143, some 144, some 145, some 146, some 147, some 148, some 149, some 150, some 151, some 152, some 153, some 154, some 155, some 156, some 157, some 158, some 159, some 160, some 161, some 162, some 163, some 164, some 165, some 166, some 167, some 168, some 169, some 170, some 171, some 172, some 173, some 174, some 175, some 176, some 177, some 178, some 179, some 180, some 181, some 182, some 183, none, none, none, none, none, none, none, none, none, none, none, none, none, none, none, none, none, none, none, none, none, none, none, none, none, none, none, none, none, none, none, none, none, none, none, none, none, none, none, none, none, none, none, none, none, none, none, none, none, none, none, none, none, none, none, none, none, none, none, none, none, none, none, none, none, none, none, none, none, none, none, none, none, none, none, none, none, none, none, none, none, none, none, none, none, none, none, none, none, none, none, none, none, none, none, none, none, none, none, none, none, none, none, none, none, none, none, none, none, none, none, none, none, none, none, none, none, none, none, none, none, none, none, none, none, none, none, none, none, none, none, none, none, none, none, none, none, none, none, none, none, none, none, none, none, none, none, none, none, none, none, none, none, none, none, none, none, none, none, none, none, none, none, none, none, none, none, none, none, none, none, none, none, none, none, none, none, none, none]
def snX : List (Option Nat) := [none, none, none, none, none, none, some 6, none, none, none, none, none, some 12, some 13, some 14, some 15, none, some 17, none, none, none, none, none, none, none, none, none, none, none, none, none, none, none, none, none, none, none, none, none, none, none, none, none, none, none, none, none, none, none, none, none, none, none, none, none, none, none, none, none, none, none, none, none, none, none, none, none, none, none, none, none, none, none, none, none, none, none, none, none, none, none, none, none, none, some 84, some 85, some 86, some 87, some 88, some 89, some 90, some 91, some 92, some 93, some 94, some 95, some 96, some 97, some 98, some 99, some 100, some 101, some 102, some 103, some 104, some 105, some 106, some 107, some 108, some 109, some 110, some 111, some 112, some 113, some 114, some 115, some 116, some 117, some 118, some 119, some 120, some 121, some 122, some 123, some 124, some 125, some 126, some 127, some 128, some 129, some 130, some 131, some 132, some 133, some 134, some 135, some 136, some 137, some 138, some 139, some 140, some 141, some 142, some 143, some 144, some 145, some 146, some 147, some 148, some 149, some 150, some 151, some 152, some 153, some 154, some 155, some 156, some 157, some 158, some 159, some 160, some 161, some 162, some 163, some 164, some 165, some 166, some 167, some 168, some 169, some 170, some 171, some 172, some 173, some 174, some 175, some 176, some 177, some 178, some 179, some 180, some 181, some 182, some 183, none, none, none, none, none, none, none, none, none, none, none, none, none, none, none, none, none, none, none, none, none, none, none, none, none, none, none, none, none, none, none, none, none, none, none, none, none, none, none, none, none, none, none, none, none, none, none, none, none, none, none, none, none, none, none, none, none, none, none, none, none, none, none, none, none, none, none, none, none, none, none, none, none, none, none, none, none, none, none, none, none, none, none, none, none, none, none, none, none, none, none, none, none, none, none, none, none, none, none, none, none, none, none, none, none, none, none, none, none, none, none, none, none, none, none, none, none, none, none, none, none, none, none, none, none, none, none, none, none, none, none, none, none, none, none, none, none, none, none, none, none, none, none, none, none, none, none, none, none, none, none, none, none, none, none, none, none, none, none, none, none, none, none, none, none, none, none, none, none, none, none, none, none, none, none, none, none, none, none]
def snL : List (Option Nat) := [none, none, none, none, none, none, none, none, none, none, none, none, none, none, some 14, some 15, none, some 17, none, none, none, none, none, none, none, none, none, none, none, none, none, none, none, none, none, none, none, none, none, none, none, none, none, none, none, none, none, none, none, none, none, none, none, none, none, none, none, none, none, none, none, none, none, none, none, none, none, none, none, none, none, none, none, none, none, none, none, none, none, none, none, none, none, none, none, none, none, none, none, none, none, none, none, none, none, none, some 96, some 97, some 98, some 99, some 100, some 101, some 102, some 103, some 104, some 105, some 106, some 107, some 108, some 109, some 110, some 111, some 112, some 113, some 114, some 115, some 116, some 117, some 118, some 119, some 120, some 121, some 122, some 123, some 124, some 125, some 126, some 127, some 128, some 129, some 130, some 131, some 132, some 133, some 134, some 135, some 136, some 137, some 138, some 139, some 140, some 141, some 142, some 143, some 144, some 145, some 146, some 147, some 148, some 149, none, none, none, none, none, none, none, none, none, none, none, none, none, none, none, none, none, none, none, none, none, none, none, none, none, none, none, none, none, none, none, none, none, none, none, none, none, none, none, none, none, none, none, none, none, none, none, none, none, none, none, none, none, none, none, none, none, none, none, none, none, none, none, none, none, none, none, none, none, none, none, none, none, none, none, none, none, none, none, none, none, none, none, none, none, none, none, none, none, none, none, none, none, none, none, none, none, none, none, none, none, none, none, none, none, none, none, none, none, none, none, none, none, none, none, none, none, none, none, none, none, none, none, none, none, none, none, none, none, none, none, none, none, none, none, none, none, none, none, none, none, none, none, none, none, none, none, none, none, none, none, none, none, none, none, none, none, none, none, none, none, none, none, none, none, none, none, none, none, none, none, none, none, none, none, none, none, none, none, none, none, none, none, none, none, none, none, none, none, none, none, none, none, none, none, none, none, none, none, none, none, none, none, none, none, none, none, none, none, none, none, none, none]
def snB : List (Option Nat) := [none, none, none, none, none, none, some 6, none, none, none, none, none, none, none, none, none, none, none, none, some 19, none, none, none, none, none, none, none, none, none, none, none, none, none, none, none, none, none, none, none, none, none, none, none, none, none, none, none, none, none, none, none, none, none, none, none, none, none, none, none, none, none, none, none, none, none, none, none, none, none, none, none, none, none, none, none, none, none, none, none, none, none, none, none, none, none, none, none, none, none, none, none, none, none, none, none, none, none, none, none, none, none, none, none, none, none, none, none, none, none, none, none, none, none, none, none, none, none, none, none, none, none, none, none, none, none, none, none, none, none, none, none, none, none, none, none, none, none, none, none, none, none, none, none, none, none, none, none, none, none, none, none, none, none, none, none, none, none, none, none, none, none, none, none, none, none, none, none, none, none, none, none, none, none, none, none, none, none, none, none, none, none, none, none, none, none, none, some 186, some 187, some 188, some 189, some 190, some 191, some 192, some 193, some 194, some 195, some 196, some 197, some 198, some 199, some 200, some 201, some 202, some 203, some 204, some 205, some 206, some 207, some 208, some 209, some 210, some 211, some 212, some 213, some 214, some 215, some 216, some 217, some 218, some 219, some 220, some 221, some 222, some 223, some 224, some 225, some 226, some 227, some 228, some 229, some 230, some 231, some 232, some 233, some 234, some 235, some 236, some 237, some 238, some 239, some 240, some 241, some 242, none, none, none, none, none, none, none, none, none, none, none, none, none, none, none, none, none, none, none, none, none, none, none, none, none, none, none, none, none, none, none, none, none, none, none, none, none, none, none, none, none, none, none, none, none, none, none, none, none, none, none, none, none, none, none, none, none, none, none, none, none, none, none, none, none, none, none, none, none, none, none, none, none, none, none, none, none, none, none, none, none, none, none, none, none, none, none, none, none, none, none, none, none, none, none, none, none, none, none, none, none, none, none, none, none, none, none, none, none, none, none, none, none, none, none, none, none, none, none, none]
def snS : List (Option Nat) := [none, none, none, none, none, none, some 6, none, none, none, none, none, none, none, none, none, none, none, none, none, none, none, some 22, some 23, some 24, some 25, some 26, some 27, some 28, some 29, none, none, none, none, none, none, none, none, none, none, none, none, none, none, none, none, none, none, none, none, none, none, none, none, none, none, none, none, none, none, none, none, none, none, none, none, none, none, none, none, none, none, none, none, none, none, none, none, none, none, none, none, none, none, none, none, none, none, none, none, none, none, none, none, none, none, none, none, none, none, none, none, none, none, none, none, none, none, none, none, none, none, none, none, none, none, none, none, none, none, none, none, none, none, none, none, none, none, none, none, none, none, none, none, none, none, none, none, none, none, none, none, none, none, none, none, none, none, none, none, none, none, none, none, none, none, none, none, none, none, none, none, none, none, none, none, none, none, none, none, none, none, none, none, none, none, none, none, none, none, none, none, none, none, none, none, none, none, none, none, none, none, none, none, none, none, none, none, none, none, none, none, none, none, none, none, none, none, none, none, none, none, none, none, none, none, none, none, none, none, none, none, none, none, none, none, none, none, none, none, none, none, none, none, none, none, none, none, none, none, none, none, none, none, none, none, none, none, none, none, none, none, none, none, none, none, none, none, none, none, none, none, none, none, none, none, none, none, some 268, some 269, some 270, some 271, some 272, some 273, some 274, some 275, some 276, some 277, some 278, some 279, some 280, some 281, some 282, some 283, some 284, some 285, some 286, some 287, some 288, some 289, some 290, some 291, some 292, some 293, some 294, some 295, some 296, some 297, some 298, some 299, some 300, some 301, some 302, some 303, some 304, some 305, some 306, some 307, some 308, some 309, some 310, some 311, some 312, some 313, some 314, some 315, some 316, some 317, some 318, some 319, some 320, some 321, some 322, some 323, some 324, some 325, some 326, some 327, some 328, some 329, some 330, some 331, some 332, some 333, some 334, some 335, some 336, some 337, some 338, some 339, some 340, some 341, some 342, some 343, some 344, some 345, some 346, some 347, some 348, some 349, some 350, some 351, some 352, some 353, some 354, some 355, some 356, some 357, some 358, some 359, some 360, some 361, none]
def snI : List (Option Nat) := [none, none, none, none, none, none, none, none, none, none, none, none, none, none, none, none, none, none, none, none, none, none, none, none, none, some 25, some 26, some 27, none, none, none, none, none, none, none, none, none, none, none, none, none, none, none, none, none, none, none, none, none, none, none, none, none, none, none, none, none, none, none, none, none, none, none, none, none, none, none, none, none, none, none, none, none, none, none, none, none, none, none, none, none, none, none, none, none, none, none, none, none, none, none, none, none, none, none, none, none, none, none, none, none, none, none, none, none, none, none, none, none, none, none, none, none, none, none, none, none, none, none, none, none, none, none, none, none, none, none, none, none, none, none, none, none, none, none, none, none, none, none, none, none, none, none, none, none, none, none, none, none, none, none, none, none, none, none, none, none, none, none, none, none, none, none, none, none, none, none, none, none, none, none, none, none, none, none, none, none, none, none, none, none, none, none, none, none, none, none, none, none, none, none, none, none, none, none, none, none, none, none, none, none, none, none, none, none, none, none, none, none, none, none, none, none, none, none, none, none, none, none, none, none, none, none, none, none, none, none, none, none, none, none, none, none, none, none, none, none, none, none, none, none, none, none, none, none, none, none, none, none, none, none, none, none, none, none, none, none, none, none, none, none, none, none, none, none, none, none, none, none, none, none, none, none, none, none, none, none, none, none, none, none, none, none, none, none, none, none, none, none, none, none, none, none, none, none, none, some 296, some 297, some 298, some 299, some 300, some 301, some 302, some 303, some 304, some 305, some 306, some 307, some 308, some 309, some 310, some 311, some 312, some 313, some 314, some 315, some 316, some 317, some 318, some 319, some 320, some 321, some 322, some 323, some 324, some 325, some 326, some 327, some 328, some 329, some 330, some 331, some 332, some 333, some 334, some 335, some 336, some 337, some 338, some 339, some 340, some 341, some 342, some 343, some 344, some 345, some 346, some 347, none, none, none, none, none, none, none, none, none, none, none, none, none, none, none]
theorem own_setS {w : World} {base b : Nat} {e : TypeId} {size : Nat} {v : Value} {n : Nat} {xs : List Value} (h : w.ownsRow base e size v n xs) (hb : b < base) (o : Nat) (u : Value) : (w.setCell ⟨b, o, none⟩ u).ownsRow base e size v n xs :=
  h.kept (row := some b) ⟨rfl, rfl, rfl, by rw [World.size_setCell]; exact Nat.le_refl _, fun i _ hi => blkSet (fun e => hi (by rw [e])) _ _⟩ (.inr (own_row_ne h hb))
theorem flat_icellS : ∀ l : List Int, l.flatMap icell = l.map (Value.int .i64)
  | [] => rfl
  | x :: l => by rw [List.flatMap_cons, flat_icellS l]; rfl
theorem zeros40L : zeros 40 = #[.int .i64 0, .int .i64 0, .int .i64 0, .int .i64 0, .int .i64 0, .int .i64 0, .int .i64 0, .int .i64 0, .int .i64 0, .int .i64 0, .int .i64 0, .int .i64 0, .int .i64 0, .int .i64 0, .int .i64 0, .int .i64 0, .int .i64 0, .int .i64 0, .int .i64 0, .int .i64 0, .int .i64 0, .int .i64 0, .int .i64 0, .int .i64 0, .int .i64 0, .int .i64 0, .int .i64 0, .int .i64 0, .int .i64 0, .int .i64 0, .int .i64 0, .int .i64 0, .int .i64 0, .int .i64 0, .int .i64 0, .int .i64 0, .int .i64 0, .int .i64 0, .int .i64 0, .int .i64 0] := by kernel_rfl
structure H6 (c : Cut) (x0 y0 x1 y1 wd hg : Int) (go gn B : Nat) (w V : World) (n n' : Nat) : Prop where
  xc : Bx V w.heap.size (cutL c)
  cc : CutAt V go c
  b : Below w.heap.size w V
  nm : IBlk V gn 40 (nmS c x0 y0 x1 y1 n').1
  ex : ∃ v, V.ownsRow B 3 1 v (hlL c x0 y0 x1 y1 n).length ((hlL c x0 y0 x1 y1 n).map (Value.int .i64)) ∧ Bx V go [.int .i64 wd, .int .i64 hg, v]
  z : B ≤ V.heap.size
  o : w.heap.size < go ∧ go < gn ∧ B = gn + 1
section
variable {c : Cut} {x0 y0 x1 y1 wd hg : Int} {go gn B : Nat} {w V : World} {n n' : Nat}
theorem H6.name (h : H6 c x0 y0 x1 y1 wd hg go gn B w V n n) {p : Nat} {m : Int} (hp : p < 40) (h1 : (nmS c x0 y0 x1 y1 (n + 1)).1 p = m) (h2 : ∀ q, q ≠ p → (nmS c x0 y0 x1 y1 (n + 1)).1 q = (nmS c x0 y0 x1 y1 n).1 q) : H6 c x0 y0 x1 y1 wd hg go gn B w (V.setCell ⟨gn, p, none⟩ (.int .i64 m)) n (n + 1) := by
  obtain ⟨o1, o2, o3⟩ := h.o
  obtain ⟨v, hv1, hv2⟩ := h.ex
  exact ⟨h.xc.far (by omega) _, h.cc.below ((Below.refl _ _).setCell (p := ⟨gn, p, none⟩) (by show go ≤ gn; omega) _), h.b.setCell (p := ⟨gn, p, none⟩) (by show w.heap.size ≤ gn; omega) _, h.nm.set_ hp h1 h2, ⟨v, own_setS hv1 (by omega) _ _, hv2.far (by omega) _⟩, by rw [World.size_setCell]; exact h.z, h.o⟩
theorem H6.skip (h : H6 c x0 y0 x1 y1 wd hg go gn B w V n n) (h1 : nmS c x0 y0 x1 y1 (n + 1) = nmS c x0 y0 x1 y1 n) : H6 c x0 y0 x1 y1 wd hg go gn B w V n (n + 1) := ⟨h.xc, h.cc, h.b, by rw [h1]; exact h.nm, h.ex, h.z, h.o⟩
theorem H6.out (h : H6 c x0 y0 x1 y1 wd hg go gn B w V n n') (h1 : hlL c x0 y0 x1 y1 (n + 1) = hlL c x0 y0 x1 y1 n) : H6 c x0 y0 x1 y1 wd hg go gn B w V (n + 1) n' := ⟨h.xc, h.cc, h.b, h.nm, by rw [h1]; exact h.ex, h.z, h.o⟩
theorem H6.app (h : H6 c x0 y0 x1 y1 wd hg go gn B w V n n') {A : Option Addr} {cc : Nat} (hown : V.ownsRow B 3 1 (.slice A (hlL c x0 y0 x1 y1 n).length cc) (hlL c x0 y0 x1 y1 n).length ((hlL c x0 y0 x1 y1 n).map (Value.int .i64))) (hox : Bx V go [.int .i64 wd, .int .i64 hg, .slice A (hlL c x0 y0 x1 y1 n).length cc])
    {s : Int} {g6 cap6 : Nat} {w6 : World} (hgr : (V.drew.alloc (.cells #[.int .i64 s] 3)).grownBy w6 (Value.slice A (hlL c x0 y0 x1 y1 n).length cc).ownBlock) (ho : w6.ownsRow B 3 1 (.slice (some ⟨g6, 0, none⟩) ((hlL c x0 y0 x1 y1 n).length + 1) cap6) ((hlL c x0 y0 x1 y1 n).length + 1) ((hlL c x0 y0 x1 y1 n).map (Value.int .i64) ++ [.int .i64 s])) (hl : hlL c x0 y0 x1 y1 (n + 1) = hlL c x0 y0 x1 y1 n ++ [s]) :
    (w6.cell? ⟨go, 2, none⟩ = some (.slice A (hlL c x0 y0 x1 y1 n).length cc) ∧ w6.frozen? ⟨go, 2, none⟩ = false ∧ H6 c x0 y0 x1 y1 wd hg go gn B w (w6.setCell ⟨go, 2, none⟩ (.slice (some ⟨g6, 0, none⟩) ((hlL c x0 y0 x1 y1 n).length + 1) cap6)) (n + 1) n') ∧ ∀ b o, b < B → w6.cell? ⟨b, o, none⟩ = V.cell? ⟨b, o, none⟩ := by
  obtain ⟨o1, o2, o3⟩ := h.o
  have hz := h.z
  have hlo := hown.lt
  have g1 := World.grownBy_alloc V.drew (.cells #[.int .i64 s] 3) none
  have kb : ∀ {b vs}, b < B → Bx V b vs → Bx w6 b vs := fun hb hx => (hx.drew.gk g1 (fun r e => by cases e)).gk hgr (fun r e e' => by have := hlo r e; omega)
  have kn : IBlk w6 gn 40 (nmS c x0 y0 x1 y1 n').1 := (h.nm.drew.gk g1 (fun r e => by cases e)).gk hgr (fun r e e' => by have := hlo r e; omega)
  have ox2 := kb (by omega) hox
  have hbg : ∀ {B' : Nat} {w0 : World}, B' ≤ go → Below B' w0 V → B' ≤ V.heap.size → Below B' w0 w6 := fun hB hb hs => (hb.drew.alloc hs _).grown hgr (by simp; omega) (fun k hk => by have := hlo k hk; omega)
  have hb2 : Below w.heap.size w w6 := hbg (by omega) h.b (by omega)
  have hc2 : Below go V w6 := hbg (Nat.le_refl _) (Below.refl _ _) (by omega)
  refine ⟨⟨ox2.c 2 _ rfl, ox2.fr 2, ⟨(kb (by omega) h.xc).other (by omega) _ _, (h.cc.below hc2).below ((Below.refl _ _).setCell (p := ⟨go, 2, none⟩) (Nat.le_refl _) _), hb2.setCell (p := ⟨go, 2, none⟩) (by show w.heap.size ≤ go; omega) _, ?_, ⟨.slice (some ⟨g6, 0, none⟩) ((hlL c x0 y0 x1 y1 n).length + 1) cap6, ?_, ?_⟩, ?_, h.o⟩⟩, fun b o hb => ?_⟩
  · refine ⟨by rw [World.size_setCell]; exact kn.lt, fun j hj => (World.cell?_setCell_other _ _ _ _ (by intro e'; injection e' with e'; omega)).trans (kn.cell j hj), fun j => by rw [World.frozen?_setCell]; exact kn.free j⟩
  · rw [hl, List.length_append, List.map_append]
    exact own_setS ho (by omega) _ _
  · exact ox2.set (k := 2) (by simp) _
  · rw [World.size_setCell]
    have := hgr.size
    simp at this
    omega
  · by_cases hbs : b < V.heap.size
    · exact (grown_cell hgr (by simp; show b < V.heap.size + 1; omega) (fun e => by have := hlo b e; omega) o).trans (((Below.refl V.heap.size V).drew.alloc (Nat.le_refl _) _).cell (p := ⟨b, o, none⟩) hbs)
    · omega
end
structure SwM2 (c : Cut) (w V : World) : Prop where
  x : Bx V w.heap.size (cutL c)
  cc : CutAt V V.heap.size c
  b : Below w.heap.size w V
theorem SwM2.next {c : Cut} {w V V' : World} (h : SwM2 c w V) (hb : Below V.heap.size V V') : SwM2 c w V' := ⟨h.x.next hb, h.cc.next hb, h.b.trans (hb.mono h.b.size)⟩
end
end Go.Proofs.Ytjlicbdnppodgaa
