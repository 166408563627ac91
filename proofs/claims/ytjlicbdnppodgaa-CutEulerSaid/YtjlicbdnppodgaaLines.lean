import Derived.Test.YtjlicbdnppodgaaPlain
namespace Go.Proofs.Ytjlicbdnppodgaa
/-! Plain: the lines of a cut, point by point. -/
def sumTo (f : Nat → Int) : Nat → Int
  | 0 => 0
  | n + 1 => sumTo f n + f n
theorem sumTo_congr {f g : Nat → Int} : ∀ {n : Nat}, (∀ k, k < n → f k = g k) → sumTo f n = sumTo g n
  | 0, _ => rfl
  | n + 1, h => by unfold sumTo; rw [sumTo_congr fun k hk => h k (by omega), h n (by omega)]
theorem sumTo_zero {f : Nat → Int} : ∀ {n : Nat}, (∀ k, k < n → f k = 0) → sumTo f n = 0
  | 0, _ => rfl
  | n + 1, h => by unfold sumTo; rw [sumTo_zero fun k hk => h k (by omega), h n (by omega)]; rfl
theorem sumTo_add (f g : Nat → Int) : ∀ n, sumTo (fun k => f k + g k) n = sumTo f n + sumTo g n
  | 0 => rfl
  | n + 1 => by unfold sumTo; rw [sumTo_add f g n]; omega
theorem sumTo_first (f : Nat → Int) : ∀ n, sumTo f (n + 1) = f 0 + sumTo (fun k => f (k + 1)) n
  | 0 => by unfold sumTo; unfold sumTo; omega
  | n + 1 => by
    show sumTo f (n + 1) + f (n + 1) = _
    rw [sumTo_first f n]
    show _ = f 0 + (sumTo (fun k => f (k + 1)) n + f (n + 1))
    omega
/-- The first, the last, and those between. -/
theorem sumTo_ends (f : Nat → Int) (n : Nat) (hn : 1 ≤ n) : sumTo f (n + 1) = f 0 + f n + sumTo (fun k => f (k + 1)) (n - 1) := by
  obtain ⟨m, rfl⟩ : ∃ m, n = m + 1 := ⟨n - 1, by omega⟩
  rw [sumTo_first]
  show f 0 + (sumTo (fun k => f (k + 1)) m + f (m + 1)) = _
  rw [show m + 1 - 1 = m by omega]
  omega
/-- The four pieces around a point, in order: the cells above on the left and on the right, below on the right and on the left. -/
def cornA (c : Cut) (x y : Int) : Int := at2 c (x - 1) (y - 1)
def cornB (c : Cut) (x y : Int) : Int := at2 c x (y - 1)
def cornF (c : Cut) (x y : Int) : Int := at2 c x y
def cornD (c : Cut) (x y : Int) : Int := at2 c (x - 1) y
def cutB (m k : Int) : Bool := decide (m ≠ k ∧ m ≠ -1 ∧ k ≠ -1)
def upB (c : Cut) (x y : Int) : Bool := cutB (cornB c x y) (cornA c x y)
def rightB (c : Cut) (x y : Int) : Bool := cutB (cornF c x y) (cornB c x y)
def downB (c : Cut) (x y : Int) : Bool := cutB (cornD c x y) (cornF c x y)
def leftB (c : Cut) (x y : Int) : Bool := cutB (cornA c x y) (cornD c x y)
def b2i (b : Bool) : Int := if b = true then 1 else 0
def manyP (c : Cut) (x y : Int) : Int := b2i (upB c x y) + b2i (rightB c x y) + b2i (downB c x y) + b2i (leftB c x y)
def edgeP (c : Cut) (x y : Int) : Bool := decide (cornA c x y = -1 ∨ cornB c x y = -1 ∨ cornF c x y = -1 ∨ cornD c x y = -1)
def startP (c : Cut) (x y : Int) : Int := if edgeP c x y = true then manyP c x y else 0
def jointP (c : Cut) (x y : Int) : Int := if edgeP c x y = true then 0 else if 2 < manyP c x y then 1 else 0
def bendP (c : Cut) (x y : Int) : Int := if edgeP c x y = true then 0 else if 2 < manyP c x y then 0 else if manyP c x y = 2 ∧ upB c x y ≠ downB c x y then 1 else 0
def W (c : Cut) : Nat := c.wide.toNat
def H (c : Cut) : Nat := c.high.toNat
def overP (c : Cut) (g : Int → Int → Int) : Int := sumTo (fun y => sumTo (fun x => g x y) (W c + 1)) (H c + 1)
/-! The document's way. -/
def upR (c : Cut) (x y : Int) : Bool := cornA c x y != cornB c x y
def downR (c : Cut) (x y : Int) : Bool := cornD c x y != cornF c x y
def leftR (c : Cut) (x y : Int) : Bool := cornA c x y != cornD c x y
def rightR (c : Cut) (x y : Int) : Bool := cornB c x y != cornF c x y
def threeR (c : Cut) (x y : Int) : Bool := (upR c x y && downR c x y && leftR c x y) || (upR c x y && downR c x y && rightR c x y) || (leftR c x y && rightR c x y && upR c x y) || (leftR c x y && rightR c x y && downR c x y)
def bendR (c : Cut) (x y : Int) : Bool := (upR c x y || downR c x y) && (leftR c x y || rightR c x y)
def overR (c : Cut) (g : Int → Int → Int) : Int := sumTo (fun y => sumTo (fun x => g ((x + 1 : Nat) : Int) ((y + 1 : Nat) : Int)) (W c - 1)) (H c - 1)
def startsR (c : Cut) : Int :=
  sumTo (fun x => b2i (at2 c ((x + 1 : Nat) - 1 : Int) 0 != at2 c ((x + 1 : Nat) : Int) 0) + b2i (at2 c ((x + 1 : Nat) - 1 : Int) (c.high - 1) != at2 c ((x + 1 : Nat) : Int) (c.high - 1))) (W c - 1)
  + sumTo (fun y => b2i (at2 c 0 ((y + 1 : Nat) - 1 : Int) != at2 c 0 ((y + 1 : Nat) : Int)) + b2i (at2 c (c.wide - 1) ((y + 1 : Nat) - 1 : Int) != at2 c (c.wide - 1) ((y + 1 : Nat) : Int))) (H c - 1)
theorem at_out {c : Cut} {x y : Int} (h : x < 0 ∨ c.wide ≤ x ∨ y < 0 ∨ c.high ≤ y) : at2 c x y = -1 := by
  unfold at2
  rw [if_neg]
  unfold isIn inS
  simp only [Bool.and_eq_true, decide_eq_true_eq]
  omega
theorem at_in {c : Cut} (ok : OkC c) {x y : Int} (h : 0 ≤ x ∧ x < c.wide ∧ 0 ≤ y ∧ y < c.high) : at2 c x y ≠ -1 := by
  have h1 : isIn c x y = true := by
    unfold isIn inS
    simp only [Bool.and_eq_true, decide_eq_true_eq]
    omega
  have := (ok.at_bd x y).2.2 h1
  omega
/-- At a point within, the program's word and the document's are one. -/
theorem point_in {c : Cut} (ok : OkC c) {x y : Int} (hx : 1 ≤ x ∧ x < c.wide) (hy : 1 ≤ y ∧ y < c.high) : edgeP c x y = false ∧ upB c x y = upR c x y ∧ rightB c x y = rightR c x y ∧ downB c x y = downR c x y ∧ leftB c x y = leftR c x y := by
  have ha : cornA c x y ≠ -1 := at_in ok (by omega)
  have hb : cornB c x y ≠ -1 := at_in ok (by omega)
  have hf : cornF c x y ≠ -1 := at_in ok (by omega)
  have hd : cornD c x y ≠ -1 := at_in ok (by omega)
  unfold edgeP upB upR rightB rightR downB downR leftB leftR cutB
  generalize cornA c x y = a at *
  generalize cornB c x y = b at *
  generalize cornF c x y = f at *
  generalize cornD c x y = d at *
  refine ⟨by simp; omega, ?_, ?_, ?_, ?_⟩ <;> (rw [Bool.eq_iff_iff]; simp; omega)
theorem joint_in {c : Cut} (ok : OkC c) {x y : Int} (hx : 1 ≤ x ∧ x < c.wide) (hy : 1 ≤ y ∧ y < c.high) : startP c x y = 0 ∧ jointP c x y = b2i (threeR c x y) ∧ bendP c x y = b2i (!threeR c x y && bendR c x y) := by
  obtain ⟨he, h1, h2, h3, h4⟩ := point_in ok hx hy
  unfold startP jointP bendP manyP
  rw [he, h1, h2, h3, h4]
  unfold threeR bendR
  cases upR c x y <;> cases rightR c x y <;> cases downR c x y <;> cases leftR c x y <;> decide
theorem edge_out {c : Cut} {x y : Int} (h : x = 0 ∨ x = c.wide ∨ y = 0 ∨ y = c.high) : edgeP c x y = true := by
  unfold edgeP cornA cornB cornF cornD
  rw [decide_eq_true_eq]
  rcases h with rfl | rfl | rfl | rfl
  · left; exact at_out (by omega)
  · right; left; exact at_out (by omega)
  · left; exact at_out (by omega)
  · right; right; left; exact at_out (by omega)
theorem joint_out {c : Cut} {x y : Int} (h : x = 0 ∨ x = c.wide ∨ y = 0 ∨ y = c.high) : jointP c x y = 0 ∧ bendP c x y = 0 ∧ startP c x y = manyP c x y := by
  unfold jointP bendP startP
  rw [edge_out h, if_pos rfl, if_pos rfl, if_pos rfl]
  exact ⟨rfl, rfl, rfl⟩
/-- A sum over all points is one over those within, if it is nothing at the border. -/
theorem over_in {c : Cut} (ok : OkC c) {g g' : Int → Int → Int} (h0 : ∀ x y : Int, (x = 0 ∨ x = c.wide ∨ y = 0 ∨ y = c.high) → g x y = 0) (h1 : ∀ x y : Int, 1 ≤ x ∧ x < c.wide → 1 ≤ y ∧ y < c.high → g x y = g' x y) : overP c g = overR c g' := by
  have hw := ok.w
  have hh := ok.h
  have hW : ((W c : Nat) : Int) = c.wide := by unfold W; omega
  have hH : ((H c : Nat) : Int) = c.high := by unfold H; omega
  unfold overP overR
  rw [sumTo_ends _ (H c) (by omega), sumTo_zero (fun x _ => h0 _ _ (by omega)), sumTo_zero (fun x _ => h0 _ _ (by omega)), Int.zero_add, Int.zero_add]
  refine sumTo_congr fun y hy => ?_
  rw [sumTo_ends _ (W c) (by omega), h0 _ _ (by omega), h0 _ _ (by omega), Int.zero_add, Int.zero_add]
  exact sumTo_congr fun x hx => h1 _ _ (by omega) (by omega)
theorem joints_eq {c : Cut} (ok : OkC c) : overP c (jointP c) = overR c (fun x y => b2i (threeR c x y)) := over_in ok (fun _ _ h => (joint_out h).1) (fun _ _ hx hy => (joint_in ok hx hy).2.1)
theorem bends_eq {c : Cut} (ok : OkC c) : overP c (bendP c) = overR c (fun x y => b2i (!threeR c x y && bendR c x y)) := over_in ok (fun _ _ h => (joint_out h).2.1) (fun _ _ hx hy => (joint_in ok hx hy).2.2)
theorem cutB_out (k : Int) : cutB (-1) k = false ∧ cutB k (-1) = false := by
  unfold cutB; simp
theorem cutB_ne {m k : Int} (h1 : m ≠ -1) (h2 : k ≠ -1) : cutB m k = (k != m) ∧ cutB m k = (m != k) := by
  unfold cutB
  constructor <;> (rw [Bool.eq_iff_iff]; simp; omega)
theorem starts_eq {c : Cut} (ok : OkC c) : overP c (startP c) = startsR c := by
  have hw := ok.w
  have hh := ok.h
  have hW : ((W c : Nat) : Int) = c.wide := by unfold W; omega
  have hH : ((H c : Nat) : Int) = c.high := by unfold H; omega
  have top : ∀ x : Nat, x < W c - 1 → startP c ((x + 1 : Nat) : Int) 0 = b2i (at2 c ((x + 1 : Nat) - 1 : Int) 0 != at2 c ((x + 1 : Nat) : Int) 0) := fun x hx => by
    rw [(joint_out (.inr (.inr (.inl rfl)))).2.2]
    unfold manyP upB rightB downB leftB cornA cornB cornF cornD
    rw [at_out (x := ((x + 1 : Nat) : Int) - 1) (y := 0 - 1) (by omega), at_out (x := ((x + 1 : Nat) : Int)) (y := 0 - 1) (by omega), (cutB_out _).1, (cutB_out _).2, (cutB_out _).1, (cutB_ne (at_in ok (by omega)) (at_in ok (by omega))).2]
    show (0 : Int) + 0 + _ + 0 = _
    omega
  have bot : ∀ x : Nat, x < W c - 1 → startP c ((x + 1 : Nat) : Int) c.high = b2i (at2 c ((x + 1 : Nat) - 1 : Int) (c.high - 1) != at2 c ((x + 1 : Nat) : Int) (c.high - 1)) := fun x hx => by
    rw [(joint_out (.inr (.inr (.inr rfl)))).2.2]
    unfold manyP upB rightB downB leftB cornA cornB cornF cornD
    rw [at_out (x := ((x + 1 : Nat) : Int)) (y := c.high) (by omega), at_out (x := ((x + 1 : Nat) : Int) - 1) (y := c.high) (by omega), (cutB_out _).1, (cutB_out _).1, (cutB_out _).2, (cutB_ne (at_in ok (by omega)) (at_in ok (by omega))).1]
    show _ + (0 : Int) + 0 + 0 = _
    omega
  have lef : ∀ y : Nat, y < H c - 1 → startP c 0 ((y + 1 : Nat) : Int) = b2i (at2 c 0 ((y + 1 : Nat) - 1 : Int) != at2 c 0 ((y + 1 : Nat) : Int)) := fun y hy => by
    rw [(joint_out (.inl rfl)).2.2]
    unfold manyP upB rightB downB leftB cornA cornB cornF cornD
    rw [at_out (x := 0 - 1) (y := ((y + 1 : Nat) : Int) - 1) (by omega), at_out (x := 0 - 1) (y := ((y + 1 : Nat) : Int)) (by omega), (cutB_out _).2, (cutB_out _).1, (cutB_out _).1, (cutB_ne (at_in ok (by omega)) (at_in ok (by omega))).1]
    show (0 : Int) + _ + 0 + 0 = _
    omega
  have rig : ∀ y : Nat, y < H c - 1 → startP c c.wide ((y + 1 : Nat) : Int) = b2i (at2 c (c.wide - 1) ((y + 1 : Nat) - 1 : Int) != at2 c (c.wide - 1) ((y + 1 : Nat) : Int)) := fun y hy => by
    rw [(joint_out (.inr (.inl rfl))).2.2]
    unfold manyP upB rightB downB leftB cornA cornB cornF cornD
    rw [at_out (x := c.wide) (y := ((y + 1 : Nat) : Int) - 1) (by omega), at_out (x := c.wide) (y := ((y + 1 : Nat) : Int)) (by omega), (cutB_out _).1, (cutB_out _).1, (cutB_out _).2, (cutB_ne (at_in ok (by omega)) (at_in ok (by omega))).2]
    show (0 : Int) + 0 + 0 + _ = _
    omega
  have corner : ∀ x y : Int, (x = 0 ∨ x = c.wide) → (y = 0 ∨ y = c.high) → startP c x y = 0 := fun x y hx hy => by
    rw [(joint_out (by omega)).2.2]
    unfold manyP upB rightB downB leftB cornA cornB cornF cornD
    rcases hx with rfl | rfl <;> rcases hy with rfl | rfl
    · rw [at_out (x := 0 - 1) (y := 0 - 1) (by omega), at_out (x := 0) (y := 0 - 1) (by omega), at_out (x := 0 - 1) (y := 0) (by omega)]
      simp [cutB_out, b2i]
    · rw [at_out (x := 0 - 1) (y := c.high - 1) (by omega), at_out (x := 0) (y := c.high) (by omega), at_out (x := 0 - 1) (y := c.high) (by omega)]
      simp [cutB_out, b2i]
    · rw [at_out (x := c.wide - 1) (y := 0 - 1) (by omega), at_out (x := c.wide) (y := 0 - 1) (by omega), at_out (x := c.wide) (y := 0) (by omega)]
      simp [cutB_out, b2i]
    · rw [at_out (x := c.wide) (y := c.high - 1) (by omega), at_out (x := c.wide) (y := c.high) (by omega), at_out (x := c.wide - 1) (y := c.high) (by omega)]
      simp [cutB_out, b2i]
  unfold overP startsR
  rw [sumTo_ends _ (H c) (by omega), sumTo_ends _ (W c) (by omega), sumTo_ends _ (W c) (by omega)]
  rw [hH, hW, show ((0 : Nat) : Int) = 0 from rfl, corner 0 0 (.inl rfl) (.inl rfl), corner c.wide 0 (.inr rfl) (.inl rfl), corner 0 c.high (.inl rfl) (.inr rfl), corner c.wide c.high (.inr rfl) (.inr rfl)]
  rw [sumTo_congr top, sumTo_congr bot, sumTo_add]
  rw [sumTo_congr (f := fun k => sumTo (fun x => startP c (x : Int) ((k + 1 : Nat) : Int)) (W c + 1)) (g := fun y => b2i (at2 c 0 ((y + 1 : Nat) - 1 : Int) != at2 c 0 ((y + 1 : Nat) : Int)) + b2i (at2 c (c.wide - 1) ((y + 1 : Nat) - 1 : Int) != at2 c (c.wide - 1) ((y + 1 : Nat) : Int))) (fun y hy => by
    rw [sumTo_ends _ (W c) (by omega), hW, show ((0 : Nat) : Int) = 0 from rfl, lef y hy, rig y hy, sumTo_zero (fun x hx => (joint_in ok (by omega) (by omega)).1)]
    omega)]
  omega
end Go.Proofs.Ytjlicbdnppodgaa
