import Derived.Test.YtjlicbdnppodgaaLns
import Derived.Test.YtjlicbdnppodgaaIns
namespace Go.Proofs.Ytjlicbdnppodgaa
section
open Go.RowKit
/-! Plain: pieces cover the picture once; their edges, told for both. -/
theorem sumTo_swap (f : Nat → Nat → Int) (n : Nat) : ∀ m, sumTo (fun i => sumTo (fun j => f i j) n) m = sumTo (fun j => sumTo (fun i => f i j) m) n
  | 0 => (sumTo_zero fun _ _ => rfl).symm
  | m + 1 => by
    show sumTo (fun i => sumTo (fun j => f i j) n) m + sumTo (fun j => f m j) n = _
    rw [sumTo_swap f n m, ← sumTo_add]
    exact sumTo_congr fun _ _ => rfl
theorem sumTo_mul (k : Int) (f : Nat → Int) : ∀ n, sumTo (fun i => k * f i) n = k * sumTo f n
  | 0 => (Int.mul_zero k).symm
  | n + 1 => by
    show sumTo (fun i => k * f i) n + k * f n = k * (sumTo f n + f n)
    rw [sumTo_mul k f n, Int.mul_add]
theorem sumTo_const (k : Int) : ∀ n : Nat, sumTo (fun _ => k) n = n * k
  | 0 => (Int.zero_mul k).symm
  | n + 1 => by
    show sumTo (fun _ => k) n + k = _
    rw [sumTo_const k n]
    push_cast
    rw [Int.add_mul, Int.one_mul]
/-- One of the numbers is hit once. -/
theorem hit_one {v a : Int} {n : Nat} (h : a ≤ v ∧ v < a + n) : sumTo (fun i : Nat => b2i (v == (i : Int) + a)) n = 1 := by
  obtain ⟨i, hi⟩ : ∃ i : Nat, (i : Int) + a = v := ⟨(v - a).toNat, by omega⟩
  have := sumTo_one (f := fun _ => 0) (g := fun i : Nat => b2i (v == (i : Int) + a)) (i := i) (d := 1) (by simp [hi, b2i]) (n := n) (by omega) (fun k _ hk => by
    have : ¬ v = (k : Int) + a := by omega
    simp [b2i, this])
  rw [this, sumTo_zero fun _ _ => rfl]; rfl
theorem hit_none {v a : Int} {n : Nat} (h : ¬ (a ≤ v ∧ v < a + n)) : sumTo (fun i : Nat => b2i (v == (i : Int) + a)) n = 0 := sumTo_zero fun k hk => by
  have : ¬ v = (k : Int) + a := by omega
  simp [b2i, this]
theorem at_low {c : Cut} (ok : OkC c) (x y : Int) : -1 ≤ at2 c x y ∧ at2 c x y ≤ greatS c := ⟨(ok.at_bd x y).1, at_great ok x y⟩
/-- The edges of a cell with all pieces, and the border, are four. -/
theorem cellE_all {c : Cut} (ok : OkC c) (x y a : Int) : sumTo (fun i => cellE c x y a (numK i)) ((greatS c).toNat + 2) = 4 * b2i (at2 c x y == a) := by
  have hg := great_bd ok
  by_cases h : at2 c x y = a
  · have e : ∀ i : Nat, cellE c x y a (numK i) = (b2i (at2 c (x - 1) y == (i : Int) + -1) + b2i (at2 c (x + 1) y == (i : Int) + -1)) + (b2i (at2 c x (y - 1) == (i : Int) + -1) + b2i (at2 c x (y + 1) == (i : Int) + -1)) := fun i => by
      unfold cellE numK
      rw [if_pos h, show (i : Int) - 1 = (i : Int) + -1 by omega]; omega
    rw [sumTo_congr fun i _ => e i, sumTo_add, sumTo_add, sumTo_add]
    have hl := fun x y => at_low ok x y
    rw [hit_one (by have := hl (x - 1) y; omega), hit_one (by have := hl (x + 1) y; omega), hit_one (by have := hl x (y - 1); omega), hit_one (by have := hl x (y + 1); omega)]
    simp [h, b2i]
  · rw [sumTo_zero fun i _ => by unfold cellE; rw [if_neg h]]
    simp [h, b2i]
/-- How many cells a piece has, row by row. -/
theorem cells_sum {c : Cut} (ok : OkC c) (k : Int) : (cellsS c k : Int) = sumTo (fun y => sumTo (fun x => b2i (at2 c (x : Int) (y : Int) == k)) (W c)) (H c) := by
  rw [cells_many, ← sum_cells ok (fun x y => b2i (at2 c x y == k))]
  have key : ∀ n : Nat, n ≤ c.piece.length → (manyF (fun i => atI c i == k) n : Int) = sumTo (fun i => b2i (at2 c (colI c i) (rowI c i) == k)) n := by
    intro n
    induction n with
    | zero => intro _; rfl
    | succ n ih =>
      intro hn
      rw [manyF_succ]
      show _ = sumTo (fun i => b2i (at2 c (colI c i) (rowI c i) == k)) n + b2i (at2 c (colI c n) (rowI c n) == k)
      rw [← ih (by omega), ok.at_cell (by omega)]
      unfold b2i
      split <;> simp
  exact key _ (Nat.le_refl _)
theorem edges_all {c : Cut} (ok : OkC c) (a : Int) : sumTo (fun i => edgesR c a (numK i)) ((greatS c).toNat + 2) = 4 * (cellsS c a : Int) := by
  unfold edgesR
  rw [sumTo_swap, cells_sum ok, ← sumTo_mul]
  refine sumTo_congr fun y _ => ?_
  rw [sumTo_swap, ← sumTo_mul]
  exact sumTo_congr fun x _ => cellE_all ok _ _ _
/-- What a piece has in common with itself is even. -/
theorem edges_self {c : Cut} (ok : OkC c) {a : Int} (ha : 0 ≤ a) : ∃ m : Int, edgesR c a a = 2 * m := by
  have hw := ok.w
  have hh := ok.h
  have hW : ((W c : Nat) : Int) = c.wide := by unfold W; omega
  have hH : ((H c : Nat) : Int) = c.high := by unfold H; omega
  refine ⟨sumTo (fun y : Nat => sumTo (fun x : Nat => dl c a (x : Int) (y : Int) * dl c a ((x : Int) + 1) (y : Int)) (W c)) (H c) + sumTo (fun y : Nat => sumTo (fun x : Nat => dl c a (x : Int) (y : Int) * dl c a (x : Int) ((y : Int) + 1)) (W c)) (H c), ?_⟩
  have e1 : ∀ y : Nat, sumTo (fun x : Nat => dl c a (x : Int) (y : Int) * dl c a ((x : Int) - 1) (y : Int)) (W c) = sumTo (fun x : Nat => dl c a (x : Int) (y : Int) * dl c a ((x : Int) + 1) (y : Int)) (W c) := fun y => by
    have h1 := sumTo_shift (fun x => dl c a x (y : Int) * dl c a (x - 1) (y : Int)) (W c)
    rw [dl_out (x := (W c : Int)) ha (by omega), dl_out (x := 0 - 1) ha (by omega)] at h1
    rw [Int.zero_mul, Int.mul_zero] at h1
    have h2 : sumTo (fun x : Nat => dl c a ((x : Int) + 1) (y : Int) * dl c a ((x : Int) + 1 - 1) (y : Int)) (W c) = sumTo (fun x : Nat => dl c a (x : Int) (y : Int) * dl c a ((x : Int) + 1) (y : Int)) (W c) := sumTo_congr fun x _ => by
      rw [show (x : Int) + 1 - 1 = x by omega, Int.mul_comm]
    rw [h2] at h1
    omega
  have e2 : ∀ x : Nat, sumTo (fun y : Nat => dl c a (x : Int) (y : Int) * dl c a (x : Int) ((y : Int) - 1)) (H c) = sumTo (fun y : Nat => dl c a (x : Int) (y : Int) * dl c a (x : Int) ((y : Int) + 1)) (H c) := fun x => by
    have h1 := sumTo_shift (fun y => dl c a (x : Int) y * dl c a (x : Int) (y - 1)) (H c)
    rw [dl_out (y := (H c : Int)) ha (by omega), dl_out (y := 0 - 1) ha (by omega)] at h1
    rw [Int.zero_mul, Int.mul_zero] at h1
    have h2 : sumTo (fun y : Nat => dl c a (x : Int) ((y : Int) + 1) * dl c a (x : Int) ((y : Int) + 1 - 1)) (H c) = sumTo (fun y : Nat => dl c a (x : Int) (y : Int) * dl c a (x : Int) ((y : Int) + 1)) (H c) := sumTo_congr fun y _ => by
      rw [show (y : Int) + 1 - 1 = y by omega, Int.mul_comm]
    rw [h2] at h1
    omega
  have e3 : edgesR c a a = sumTo (fun y : Nat => sumTo (fun x : Nat => dl c a (x : Int) (y : Int) * dl c a ((x : Int) - 1) (y : Int)) (W c) + sumTo (fun x : Nat => dl c a (x : Int) (y : Int) * dl c a ((x : Int) + 1) (y : Int)) (W c)) (H c) + sumTo (fun y : Nat => sumTo (fun x : Nat => dl c a (x : Int) (y : Int) * dl c a (x : Int) ((y : Int) - 1)) (W c) + sumTo (fun x : Nat => dl c a (x : Int) (y : Int) * dl c a (x : Int) ((y : Int) + 1)) (W c)) (H c) := by
    unfold edgesR
    rw [← sumTo_add]
    refine sumTo_congr fun y _ => ?_
    rw [sumTo_congr fun x _ => cellE_dl c (x : Int) (y : Int) a a, sumTo_add, sumTo_add, sumTo_add]
  rw [e3, sumTo_add, sumTo_add, sumTo_congr fun y _ => e1 y, sumTo_swap (fun y x => dl c a (x : Int) (y : Int) * dl c a (x : Int) ((y : Int) - 1)), sumTo_congr fun x _ => e2 x, ← sumTo_swap (fun y x => dl c a (x : Int) (y : Int) * dl c a (x : Int) ((y : Int) + 1))]
  omega
/-! What a piece has in common with others, all together. -/
def othE (c : Cut) (a m : Int) : Int := if m ≠ a then edgesR c a m else 0
theorem oth_all {c : Cut} (ok : OkC c) {a : Int} (ha : 0 ≤ a ∧ a ≤ greatS c) : sumTo (fun i => othE c a (numK i)) ((greatS c).toNat + 2) = 4 * (cellsS c a : Int) - edgesR c a a := by
  have h1 := edges_all ok a
  obtain ⟨i, hi⟩ : ∃ i : Nat, numK i = a := ⟨(a + 1).toNat, by unfold numK; omega⟩
  have hil : i < (greatS c).toNat + 2 := by unfold numK at hi; omega
  have := sumTo_one (f := fun i => othE c a (numK i)) (g := fun i => edgesR c a (numK i)) (i := i) (d := edgesR c a a) (by unfold othE; rw [if_neg (by rw [hi]; simp), hi]; omega) hil (fun k _ hk => by
    unfold othE
    rw [if_pos (by unfold numK at hi ⊢; omega)])
  omega
theorem oth_even {c : Cut} (ok : OkC c) {a : Int} (ha : 0 ≤ a ∧ a ≤ greatS c) : (∃ m : Int, sumTo (fun i => othE c a (numK i)) ((greatS c).toNat + 2) = 2 * m) ∧ sumTo (fun i => othE c a (numK i)) ((greatS c).toNat + 2) ≤ 4 * (cellsS c a : Int) := by
  rw [oth_all ok ha]
  obtain ⟨m, hm⟩ := edges_self ok ha.1
  have := edgesR_nn c a a
  exact ⟨⟨2 * (cellsS c a : Int) - m, by omega⟩, by omega⟩
/-! The border. -/
theorem at_none {c : Cut} (ok : OkC c) (x y : Int) : (at2 c x y == -1) = !(decide (0 ≤ x) && decide (x < c.wide) && decide (0 ≤ y) && decide (y < c.high)) := by
  by_cases h : 0 ≤ x ∧ x < c.wide ∧ 0 ≤ y ∧ y < c.high
  · have := at_in ok h
    simp [this, h]
  · rw [at_out (by omega)]
    simp
    omega
theorem border_cell {c : Cut} (ok : OkC c) {x y : Nat} (hx : x < W c) (hy : y < H c) : sumTo (fun k : Nat => cellE c (x : Int) (y : Int) (k : Int) (-1)) ((greatS c).toNat + 1) = (b2i (decide (x = 0)) + b2i (decide (x + 1 = W c))) + (b2i (decide (y = 0)) + b2i (decide (y + 1 = H c))) := by
  have hg := great_bd ok
  have hw := ok.w
  have hh := ok.h
  have hW : ((W c : Nat) : Int) = c.wide := by unfold W; omega
  have hH : ((H c : Nat) : Int) = c.high := by unfold H; omega
  have hl := at_low ok (x : Int) (y : Int)
  have hin := at_in ok (x := (x : Int)) (y := (y : Int)) (by omega)
  obtain ⟨k, hk⟩ : ∃ k : Nat, (k : Int) = at2 c (x : Int) (y : Int) := ⟨(at2 c (x : Int) (y : Int)).toNat, by omega⟩
  have := sumTo_one (f := fun _ => 0) (g := fun k : Nat => cellE c (x : Int) (y : Int) (k : Int) (-1)) (i := k) (d := (b2i (decide (x = 0)) + b2i (decide (x + 1 = W c))) + (b2i (decide (y = 0)) + b2i (decide (y + 1 = H c)))) (by
    unfold cellE
    rw [if_pos hk.symm, at_none ok, at_none ok, at_none ok, at_none ok]
    have e1 : (!(decide (0 ≤ (x : Int) - 1) && decide ((x : Int) - 1 < c.wide) && decide (0 ≤ (y : Int)) && decide ((y : Int) < c.high))) = decide (x = 0) := by rw [Bool.eq_iff_iff]; simp; omega
    have e2 : (!(decide (0 ≤ (x : Int) + 1) && decide ((x : Int) + 1 < c.wide) && decide (0 ≤ (y : Int)) && decide ((y : Int) < c.high))) = decide (x + 1 = W c) := by rw [Bool.eq_iff_iff]; simp; omega
    have e3 : (!(decide (0 ≤ (x : Int)) && decide ((x : Int) < c.wide) && decide (0 ≤ (y : Int) - 1) && decide ((y : Int) - 1 < c.high))) = decide (y = 0) := by rw [Bool.eq_iff_iff]; simp; omega
    have e4 : (!(decide (0 ≤ (x : Int)) && decide ((x : Int) < c.wide) && decide (0 ≤ (y : Int) + 1) && decide ((y : Int) + 1 < c.high))) = decide (y + 1 = H c) := by rw [Bool.eq_iff_iff]; simp; omega
    rw [e1, e2, e3, e4]; omega) (n := (greatS c).toNat + 1) (by omega) (fun j _ hj => by
    unfold cellE
    rw [if_neg (by omega)])
  rw [this, sumTo_zero fun _ _ => rfl]; omega
theorem one_end {n : Nat} (hn : 1 ≤ n) : sumTo (fun x : Nat => b2i (decide (x = 0))) n = 1 ∧ sumTo (fun x : Nat => b2i (decide (x + 1 = n))) n = 1 := by
  constructor
  · have := sumTo_one (f := fun _ => 0) (g := fun x : Nat => b2i (decide (x = 0))) (i := 0) (d := 1) (by simp [b2i]) (n := n) (by omega) (fun k _ hk => by simp [b2i, hk])
    rw [this, sumTo_zero fun _ _ => rfl]; rfl
  · have := sumTo_one (f := fun _ => 0) (g := fun x : Nat => b2i (decide (x + 1 = n))) (i := n - 1) (d := 1) (by simp [b2i, show n - 1 + 1 = n by omega]) (n := n) (by omega) (fun k _ hk => by
      have : ¬ k + 1 = n := by omega
      simp [b2i, this])
    rw [this, sumTo_zero fun _ _ => rfl]; rfl
theorem border_all {c : Cut} (ok : OkC c) : sumTo (fun k : Nat => edgesR c (k : Int) (-1)) ((greatS c).toNat + 1) = 2 * (c.wide + c.high) := by
  have hw := ok.w
  have hh := ok.h
  have hW : ((W c : Nat) : Int) = c.wide := by unfold W; omega
  have hH : ((H c : Nat) : Int) = c.high := by unfold H; omega
  unfold edgesR
  rw [sumTo_swap, sumTo_congr (g := fun y : Nat => 2 + (c.wide * b2i (decide (y = 0)) + c.wide * b2i (decide (y + 1 = H c)))) fun y hy => by
    rw [sumTo_swap, sumTo_congr fun x hx => border_cell ok hx hy, sumTo_add, sumTo_add, (one_end (by omega)).1, (one_end (by omega)).2, sumTo_const, hW, Int.mul_add]
    rfl]
  rw [sumTo_add, sumTo_add, sumTo_mul, sumTo_mul, (one_end (by omega)).1, (one_end (by omega)).2, sumTo_const, hH]
  omega
/-- The lines, each told for both. -/
theorem common_all {c : Cut} (ok : OkC c) : ∀ n : Nat, sumTo (fun a : Nat => sumTo (fun b : Nat => othE c (a : Int) (b : Int)) n) n = 2 * sumTo (fun a : Nat => sumTo (fun b : Nat => edgesR c (a : Int) (b : Int)) a) n
  | 0 => rfl
  | n + 1 => by
    have ih := common_all ok n
    have e1 : sumTo (fun a : Nat => sumTo (fun b : Nat => othE c (a : Int) (b : Int)) (n + 1)) (n + 1) = sumTo (fun a : Nat => sumTo (fun b : Nat => othE c (a : Int) (b : Int)) n) n + sumTo (fun a : Nat => othE c (a : Int) (n : Int)) n + (sumTo (fun b : Nat => othE c (n : Int) (b : Int)) n + othE c (n : Int) (n : Int)) := by
      show sumTo (fun a : Nat => sumTo (fun b : Nat => othE c (a : Int) (b : Int)) n + othE c (a : Int) (n : Int)) n + _ = _
      rw [sumTo_add]; rfl
    have e2 : sumTo (fun a : Nat => othE c (a : Int) (n : Int)) n = sumTo (fun b : Nat => edgesR c (n : Int) (b : Int)) n := sumTo_congr fun k hk => by
      unfold othE
      rw [if_pos (by omega)]
      exact edges_symm ok (by omega) (by omega)
    have e3 : sumTo (fun b : Nat => othE c (n : Int) (b : Int)) n = sumTo (fun b : Nat => edgesR c (n : Int) (b : Int)) n := sumTo_congr fun k hk => by
      unfold othE
      rw [if_pos (by omega)]
    have e4 : othE c (n : Int) (n : Int) = 0 := by unfold othE; rw [if_neg (by simp)]
    rw [e1, ih, e2, e3, e4]
    show _ = 2 * (sumTo (fun a : Nat => sumTo (fun b : Nat => edgesR c (a : Int) (b : Int)) a) n + sumTo (fun b : Nat => edgesR c (n : Int) (b : Int)) n)
    omega
/-- All cells are some piece's. -/
theorem cells_all {c : Cut} (ok : OkC c) : sumTo (fun k : Nat => (cellsS c (k : Int) : Int)) ((greatS c).toNat + 1) = c.wide * c.high := by
  have hg := great_bd ok
  have hw := ok.w
  have hh := ok.h
  have hW : ((W c : Nat) : Int) = c.wide := by unfold W; omega
  have hH : ((H c : Nat) : Int) = c.high := by unfold H; omega
  rw [sumTo_congr fun k _ => cells_sum ok (k : Int), sumTo_swap, sumTo_congr (g := fun _ => c.wide) fun y hy => by
    rw [sumTo_swap, sumTo_congr (g := fun _ => 1) fun x hx => by
      have hl := at_low ok (x : Int) (y : Int)
      have hin := at_in ok (x := (x : Int)) (y := (y : Int)) (by omega)
      have := hit_one (v := at2 c (x : Int) (y : Int)) (a := 0) (n := (greatS c).toNat + 1) (by omega)
      rw [← this]
      exact sumTo_congr fun k _ => by rw [Int.add_zero], sumTo_const, hW, Int.mul_one], sumTo_const, hH, Int.mul_comm]
end
section
open Go.RowKit
/-! Plain: the sides of a piece, summed. -/
def sumL (f : Pt → Int) : List Pt → Int
  | [] => 0
  | p :: l => f p + sumL f l
theorem sumL_app (f : Pt → Int) : ∀ l l' : List Pt, sumL f (l ++ l') = sumL f l + sumL f l'
  | [], l' => (Int.zero_add _).symm
  | p :: l, l' => by
    show f p + sumL f (l ++ l') = f p + sumL f l + sumL f l'
    rw [sumL_app f l l']; omega
theorem sumL_take (f : Pt → Int) {l : List Pt} {t : Nat} (h : t < l.length) : sumL f (l.take (t + 1)) = sumL f (l.take t) + f l[t] := by
  rw [List.take_succ_eq_append_getElem h, sumL_app]
  show _ = _ + _
  unfold sumL
  unfold sumL
  omega
theorem sumL_side (f : Pt → Int) (c : Cut) (a : Int) : ∀ n : Nat, sumL f (sideTo c a n) = sumTo (fun i => if numK i ≠ a ∧ 0 < edgesR c a (numK i) then f (numK i, edgesR c a (numK i)) else 0) n
  | 0 => rfl
  | n + 1 => by
    have ih := sumL_side f c a n
    by_cases h : numK n ≠ a ∧ 0 < edgesR c a (numK n)
    · rw [sideTo_add h, sumL_app, ih]
      show _ + (f _ + 0) = _ + (if numK n ≠ a ∧ 0 < edgesR c a (numK n) then _ else 0)
      rw [if_pos h]; omega
    · rw [sideTo_skip h, ih]
      show _ = _ + (if numK n ≠ a ∧ 0 < edgesR c a (numK n) then _ else 0)
      rw [if_neg h]; omega
theorem oth_if (c : Cut) (a m : Int) : (if m ≠ a ∧ 0 < edgesR c a m then edgesR c a m else 0) = othE c a m := by
  unfold othE
  have := edgesR_nn c a m
  by_cases h1 : m ≠ a
  · by_cases h2 : 0 < edgesR c a m
    · rw [if_pos ⟨h1, h2⟩, if_pos h1]
    · rw [if_neg (fun h => h2 h.2), if_pos h1]; omega
  · rw [if_neg (fun h => h1 h.1), if_neg h1]
theorem oth_nn (c : Cut) (a m : Int) : 0 ≤ othE c a m := by
  unfold othE
  have := edgesR_nn c a m
  split <;> omega
theorem oth_lt {c : Cut} (ok : OkC c) (a m : Int) : othE c a m ≤ 1000 := by
  unfold othE
  have := edges_lt ok a m
  split <;> omega
theorem oth_far {c : Cut} (ok : OkC c) {a m : Int} (h : greatS c < m) : othE c a m = 0 := by
  have h0 := oth_nn c a m
  by_cases h1 : 0 < edgesR c a m
  · have := (edges_bd ok h1).2; omega
  · unfold othE
    have := edgesR_nn c a m
    split <;> omega
/-- All that a piece has in common with others. -/
theorem side_sum (c : Cut) (a : Int) : sumL (fun p => p.2) (sidesS c a) = sumTo (fun i => othE c a (numK i)) ((greatS c).toNat + 2) := by
  unfold sidesS
  rw [sumL_side]
  exact sumTo_congr fun i _ => oth_if c a (numK i)
/-- What it has in common with one. -/
theorem side_one {c : Cut} (ok : OkC c) (a : Int) {m : Int} (hm : -1 ≤ m) : sumL (fun p => if p.1 = m then p.2 else 0) (sidesS c a) = othE c a m := by
  unfold sidesS
  rw [sumL_side]
  by_cases hg : m ≤ greatS c
  · obtain ⟨i, hi⟩ : ∃ i : Nat, numK i = m := ⟨(m + 1).toNat, by unfold numK; omega⟩
    have hil : i < (greatS c).toNat + 2 := by unfold numK at hi; omega
    have := sumTo_one (f := fun _ => 0) (g := fun i => if numK i ≠ a ∧ 0 < edgesR c a (numK i) then (if numK i = m then edgesR c a (numK i) else 0) else 0) (i := i) (d := othE c a m) (by
      rw [← oth_if, hi]
      simp) hil (fun k _ hk => by
      have : ¬ numK k = m := fun e => hk (by unfold numK at hi e; omega)
      rw [if_neg this]
      simp)
    rw [this, sumTo_zero fun _ _ => rfl]; omega
  · rw [oth_far ok (by omega)]
    refine sumTo_zero fun i hi => ?_
    have : ¬ numK i = m := by have := great_bd ok; unfold numK; omega
    rw [if_neg this]
    simp
/-- What it has in common with pieces. -/
theorem side_com (c : Cut) (a : Int) : sumL (fun p => if p.1 = -1 then 0 else p.2) (sidesS c a) = sumTo (fun b : Nat => othE c a (b : Int)) ((greatS c).toNat + 1) := by
  unfold sidesS
  rw [sumL_side, sumTo_first]
  have e0 : (if numK 0 ≠ a ∧ 0 < edgesR c a (numK 0) then (if numK 0 = -1 then 0 else edgesR c a (numK 0)) else 0) = 0 := by
    rw [if_pos (show numK 0 = -1 from rfl)]
    simp
  dsimp only
  rw [e0, Int.zero_add]
  refine sumTo_congr fun i _ => ?_
  have h1 : numK (i + 1) = (i : Int) := by unfold numK; omega
  rw [h1, show (if (i : Int) = -1 then (0 : Int) else edgesR c a (i : Int)) = edgesR c a (i : Int) from if_neg (by omega)]
  exact oth_if c a (i : Int)
/-- In order, each once. -/
theorem side_asc (c : Cut) (a : Int) : ∀ n : Nat, (sideTo c a n).Pairwise (fun p q => p.1 < q.1) ∧ ∀ p ∈ sideTo c a n, (-1 ≤ p.1 ∧ p.1 < numK n) ∧ p.1 ≠ a ∧ 0 < p.2 ∧ p.2 = edgesR c a p.1
  | 0 => ⟨.nil, fun p h => by simp [sideTo] at h⟩
  | n + 1 => by
    obtain ⟨h1, h2⟩ := side_asc c a n
    have hs : numK (n + 1) = numK n + 1 := by unfold numK; omega
    by_cases h : numK n ≠ a ∧ 0 < edgesR c a (numK n)
    · rw [sideTo_add h]
      refine ⟨List.pairwise_append.2 ⟨h1, List.pairwise_singleton _ _, fun p hp q hq => ?_⟩, fun p hp => ?_⟩
      · rw [List.mem_singleton] at hq
        subst hq
        exact (h2 p hp).1.2
      · rcases List.mem_append.1 hp with hp | hp
        · have := h2 p hp
          exact ⟨⟨this.1.1, by omega⟩, this.2⟩
        · rw [List.mem_singleton] at hp
          subst hp
          exact ⟨⟨by unfold numK; dsimp only; omega, by dsimp only; omega⟩, h.1, h.2, rfl⟩
    · rw [sideTo_skip h]
      exact ⟨h1, fun p hp => by
        have := h2 p hp
        exact ⟨⟨this.1.1, by omega⟩, this.2⟩⟩
theorem side_at {c : Cut} (ok : OkC c) (a : Int) {t : Nat} (h : t < (sidesS c a).length) : (-1 ≤ (sidesS c a)[t].1 ∧ (sidesS c a)[t].1 ≤ greatS c) ∧ (sidesS c a)[t].1 ≠ a ∧ (1 ≤ (sidesS c a)[t].2 ∧ (sidesS c a)[t].2 ≤ 1000) := by
  have := (side_asc c a ((greatS c).toNat + 2)).2 _ (List.getElem_mem h)
  have hg := great_bd ok
  obtain ⟨⟨h1, h2⟩, h3, h4, h5⟩ := this
  have h6 := edges_lt ok a (sidesS c a)[t].1
  unfold numK at h2
  refine ⟨⟨h1, ?_⟩, h3, ?_, ?_⟩
  · have : (sidesS c a)[t].1 < (((greatS c).toNat + 2 : Nat) : Int) - 1 := h2
    omega
  · exact h4
  · have : (sidesS c a)[t].2 = edgesR c a (sidesS c a)[t].1 := h5
    omega
theorem side_lt (c : Cut) (a : Int) {s t : Nat} (h : s < t) (ht : t < (sidesS c a).length) : (sidesS c a)[s].1 < (sidesS c a)[t].1 :=
  List.pairwise_iff_getElem.1 (side_asc c a ((greatS c).toNat + 2)).1 s t (Nat.lt_trans h ht) ht h
end
section
open Go.RowKit
/-! Plain: what lies within a piece. -/
theorem sumTo_ge {f : Nat → Int} (h0 : ∀ k, 0 ≤ f k) : ∀ {n i : Nat}, i < n → f i ≤ sumTo f n
  | n + 1, i, hi => by
    have h2 : 0 ≤ sumTo f n := by
      have : ∀ m, 0 ≤ sumTo f m := fun m => by
        induction m with
        | zero => exact Int.le_refl _
        | succ m ih => have := h0 m; show 0 ≤ sumTo f m + f m; omega
      exact this n
    have h3 := h0 n
    show f i ≤ sumTo f n + f n
    by_cases e : i = n
    · subst e; omega
    · have := sumTo_ge h0 (n := n) (i := i) (by omega); omega
/-- Where cells of two pieces are next to one another, these have edges in common. -/
theorem edges_of {c : Cut} {x y : Int} (hx : 0 ≤ x ∧ x < c.wide) (hy : 0 ≤ y ∧ y < c.high) {p : Pt} (hp : p ∈ around x y) : 0 < edgesR c (at2 c x y) (at2 c p.1 p.2) := by
  obtain ⟨i, hi⟩ : ∃ i : Nat, (i : Int) = x := ⟨x.toNat, by omega⟩
  obtain ⟨j, hj⟩ : ∃ j : Nat, (j : Int) = y := ⟨y.toNat, by omega⟩
  have hiW : i < W c := by unfold W; omega
  have hjH : j < H c := by unfold H; omega
  have h1 := sumTo_ge (f := fun y => sumTo (fun x => cellE c x y (at2 c (i : Int) (j : Int)) (at2 c p.1 p.2)) (W c)) (fun y => (sumTo_bd (fun x => cellE_bd c x y _ _) (W c)).1) hjH
  have h2 := sumTo_ge (f := fun x : Nat => cellE c (x : Int) (j : Int) (at2 c (i : Int) (j : Int)) (at2 c p.1 p.2)) (fun x => (cellE_bd c x _ _ _).1) hiW
  subst hi hj
  have h3 : 0 < cellE c (i : Int) (j : Int) (at2 c (i : Int) (j : Int)) (at2 c p.1 p.2) := by
    unfold cellE
    rw [if_pos rfl]
    have nn : ∀ u : Bool, 0 ≤ b2i u := fun u => by unfold b2i; split <;> omega
    have n1 := nn (at2 c ((i : Int) - 1) (j : Int) == at2 c p.1 p.2)
    have n2 := nn (at2 c ((i : Int) + 1) (j : Int) == at2 c p.1 p.2)
    have n3 := nn (at2 c (i : Int) ((j : Int) - 1) == at2 c p.1 p.2)
    have n4 := nn (at2 c (i : Int) ((j : Int) + 1) == at2 c p.1 p.2)
    unfold around at hp
    simp only [List.mem_cons, List.not_mem_nil, or_false] at hp
    have one : ∀ a : Int, b2i (a == a) = 1 := fun a => by simp [b2i]
    rcases hp with rfl | rfl | rfl | rfl <;> dsimp only at * <;> rw [one] at * <;> omega
  unfold edgesR
  omega
noncomputable def insB (c : Cut) (piece k : Int) : Bool := decide (k ≠ piece) && !rchB c piece k
theorem insB_iff (c : Cut) (piece k : Int) : insB c piece k = true ↔ k ≠ piece ∧ ¬ Rch c piece (-1) k := by
  unfold insB
  rw [Bool.and_eq_true, decide_eq_true_eq, Bool.not_eq_true', ← Bool.not_eq_true, rchB_iff]
theorem insTo_mem (c : Cut) (piece : Int) (n : Nat) (k : Int) : k ∈ insTo c piece n ↔ (0 ≤ k ∧ k < n) ∧ insB c piece k = true := by
  unfold insTo insB
  simp only [List.mem_map, List.mem_filter, List.mem_range]
  constructor
  · rintro ⟨i, ⟨h1, h2⟩, rfl⟩
    exact ⟨⟨by omega, by omega⟩, h2⟩
  · rintro ⟨⟨h1, h2⟩, h3⟩
    obtain ⟨i, hi⟩ : ∃ i : Nat, (i : Int) = k := ⟨k.toNat, by omega⟩
    subst hi
    exact ⟨i, ⟨by omega, h3⟩, rfl⟩
theorem insTo_asc (c : Cut) (piece : Int) (n : Nat) : (insTo c piece n).Pairwise (· < ·) := by
  unfold insTo
  rw [List.pairwise_map]
  refine (List.Pairwise.filter _ List.pairwise_lt_range).imp ?_
  intro a b h
  omega
theorem Nbr.of_edges {c : Cut} (ok : OkC c) {piece m q : Int} (h : 0 < edgesR c m q) (h1 : m ≠ piece) (h2 : m ≠ q) : Nbr c piece m q := by
  have := edges_bd ok h
  exact ⟨this.1.1, this.1.2, h1, h2, h⟩
/-- A neighbour of what lies within lies within, too, but for the piece itself. -/
theorem ins_side {c : Cut} (ok : OkC c) {piece k : Int} (hk : 0 ≤ k) (hkp : k ≠ piece) {p : Pt} (hp : p ∈ sidesS c k) (hpp : p.1 ≠ piece) : insB c piece k = (decide (0 ≤ p.1) && insB c piece p.1) := by
  obtain ⟨⟨h1, -⟩, h2, h3, h4⟩ := (side_asc c k ((greatS c).toNat + 2)).2 p hp
  have he : 0 < edgesR c k p.1 := by rw [← h4]; exact h3
  rw [Bool.eq_iff_iff, Bool.and_eq_true, insB_iff, insB_iff, decide_eq_true_eq]
  have hn : Nbr c piece k p.1 := Nbr.of_edges ok he hkp (fun e => h2 e.symm)
  constructor
  · rintro ⟨-, h5⟩
    have h6 : 0 ≤ p.1 := by
      by_cases e : p.1 = -1
      · rw [e] at hn
        exact absurd (.one hn) h5
      · omega
    exact ⟨h6, hpp, fun h7 => h5 (.step h7 hn)⟩
  · rintro ⟨h6, -, h7⟩
    refine ⟨hkp, fun h8 => h7 (.step h8 (Nbr.of_edges ok ?_ hpp h2))⟩
    rw [edges_symm ok (by omega) hk]
    exact he
/-- From the border to a cell, along its row. -/
theorem row_walk {c : Cut} (ok : OkC c) {piece k : Int} (hpk : piece ≠ k) (hk0 : 0 ≤ k) (hk : ¬ Rch c piece (-1) k) {y : Int} (hy : 0 ≤ y ∧ y < c.high) : ∀ n : Nat, (n : Int) ≤ c.wide → Rch c k (-1) piece ∨ ((at2 c ((n : Int) - 1) y = -1 ∨ Rch c piece (-1) (at2 c ((n : Int) - 1) y)) ∧ (at2 c ((n : Int) - 1) y = -1 ∨ Rch c k (-1) (at2 c ((n : Int) - 1) y)))
  | 0, _ => by
    have : at2 c (((0 : Nat) : Int) - 1) y = -1 := at_out (by omega)
    exact .inr ⟨.inl this, .inl this⟩
  | n + 1, hn => by
    rcases row_walk ok hpk hk0 hk hy n (by omega) with h | ⟨h1, h2⟩
    · exact .inl h
    · have e1 : (((n + 1 : Nat)) : Int) - 1 = (n : Int) := by omega
      rw [e1]
      have he := edges_of (c := c) (x := (n : Int)) (y := y) (by omega) hy (p := ((n : Int) - 1, y)) (List.mem_cons_self ..)
      dsimp only at he
      generalize at2 c ((n : Int) - 1) y = m at *
      have hin := at_in ok (x := (n : Int)) (y := y) (by omega)
      generalize at2 c (n : Int) y = m' at *
      by_cases e : m' = m
      · subst e; exact .inr ⟨h1, h2⟩
      · have go : ∀ q : Int, m' ≠ q → (m = -1 ∨ Rch c q (-1) m) → Rch c q (-1) m' := fun q hq hm => by
          have hnb := Nbr.of_edges ok he hq e
          rcases hm with rfl | hm
          · exact .one hnb
          · exact .step hm hnb
        by_cases e2 : m' = piece
        · left
          rw [← e2]
          exact go k (by rw [e2]; exact hpk) h2
        · have h3 := go piece e2 h1
          have h4 : m' ≠ k := fun e => hk (by rw [← e]; exact h3)
          exact .inr ⟨.inr h3, .inr (go k h4 h2)⟩
/-- What lies within what lies within lies within. -/
theorem ins_ins {c : Cut} (ok : OkC c) (hall : ∀ k : Int, 0 ≤ k ∧ k ≤ greatS c → cellsS c k ≠ 0) {piece k x : Int} (hp : 0 ≤ piece ∧ piece ≤ greatS c) (hk0 : 0 ≤ k) (hk : insB c piece k = true) (hx : insB c k x = true) : insB c piece x = true := by
  rw [insB_iff] at *
  obtain ⟨hkp, hk⟩ := hk
  obtain ⟨hxk, hx⟩ := hx
  have hpc : Rch c k (-1) piece := by
    have h0 := hall piece hp
    have h1 : ¬ ∀ p, inG c p → pcOf c p ≠ piece := fun h => h0 ((cells_zero ok piece).2 h)
    obtain ⟨p, hp1⟩ := Classical.not_forall.1 h1
    obtain ⟨hpi, hpe⟩ := Classical.not_imp.1 hp1
    rw [Classical.not_not] at hpe
    have hpi2 : isIn c p.1 p.2 = true := hpi
    unfold isIn inS at hpi2
    simp only [Bool.and_eq_true, decide_eq_true_eq] at hpi2
    rcases row_walk ok (fun e => hkp e.symm) hk0 hk (y := p.2) (by omega) (p.1.toNat + 1) (by omega) with h | ⟨h2, h3⟩
    · exact h
    · have e1 : (((p.1.toNat + 1 : Nat)) : Int) - 1 = p.1 := by omega
      rw [e1] at h3
      have hpe2 : at2 c p.1 p.2 = piece := hpe
      rw [hpe2] at h3
      rcases h3 with h3 | h3
      · omega
      · exact h3
  refine ⟨fun e => hx (by rw [e]; exact hpc), fun hr => hx ?_⟩
  have key : ∀ m, Rch c piece (-1) m → Rch c k (-1) m := fun m hm => by
    induction hm with
    | one h =>
      refine .one ⟨h.1, h.2.1, fun e => hk (by rw [← e]; exact .one h), h.2.2.2⟩
    | step h1 h2 ih =>
      exact .step ih ⟨h2.1, h2.2.1, fun e => hk (by rw [← e]; exact .step h1 h2), h2.2.2.2⟩
  exact key x hr
end
section
open Go.RowKit
/-! Plain: a good cut. -/
structure GoodC (c : Cut) : Prop where
  ok : OkC c
  cells : ∀ k : Int, 0 ≤ k → k ≤ greatS c → ∃ p, inG c p ∧ pcOf c p = k
  whole : ∀ k : Int, 0 ≤ k → k ≤ greatS c → Whole c k
theorem has_cell {c : Cut} (ok : OkC c) {k : Int} : cellsS c k ≠ 0 ↔ ∃ p, inG c p ∧ pcOf c p = k := by
  rw [Ne, cells_zero ok k]
  constructor
  · intro h1
    obtain ⟨p, hp1⟩ := Classical.not_forall.1 h1
    obtain ⟨hpi, hpe⟩ := Classical.not_imp.1 hp1
    rw [Classical.not_not] at hpe
    exact ⟨p, hpi, hpe⟩
  · rintro ⟨p, hp, e⟩ h
    exact h p hp e
theorem GoodC.of {c : Cut} (h0 : (checkS c).2 = 0) : GoodC c := by
  obtain ⟨a1, a2, a3, a4⟩ := check_ok h0
  have ok := (okc_iff c).1 a1
  have hg := great_bd ok
  refine ⟨ok, fun k h1 h2 => ?_, fun k h1 h2 => ?_⟩
  · obtain ⟨n, hn⟩ : ∃ n : Nat, (n : Int) = k := ⟨k.toNat, by omega⟩
    subst hn
    by_cases h : n < (greatS c).toNat
    · exact (has_cell ok).1 (a3 n h)
    · refine (has_cell ok).1 fun e => ?_
      rw [show (n : Int) = greatS c by omega] at e
      have := (List.countP_eq_zero.1 e) _ (great_in ok)
      simp at this
  · obtain ⟨n, hn⟩ : ∃ n : Nat, (n : Int) = k := ⟨k.toNat, by omega⟩
    subst hn
    exact (wholeB_iff c _).1 (a4 n (by omega))
theorem GoodC.check {c : Cut} (h : GoodC c) : checkS c = (greatS c + 1, 0) :=
  check_good ((okc_iff c).2 h.ok) (fun t ht => (has_cell h.ok).2 (h.cells t (by omega) (by omega))) (fun t ht => (wholeB_iff c _).2 (h.whole t (by omega) (by have := great_bd h.ok; omega)))
theorem great_eq {c : Cut} (ok : OkC c) {g : Int} (h1 : ∃ p, inG c p ∧ pcOf c p = g) (h2 : ∀ p, inG c p → pcOf c p ≤ g) : greatS c = g := by
  obtain ⟨p, hp, e⟩ := h1
  have h3 := at_great ok p.1 p.2
  have h4 : at2 c p.1 p.2 = g := e
  have h5 := great_in ok
  obtain ⟨j, hj, ej⟩ := List.getElem_of_mem h5
  have h6 := cell_in ok hj
  have h7 := h2 _ h6.1
  rw [h6.2] at h7
  unfold atI at h7
  rw [getD_get hj, ej] at h7
  omega
theorem inG_bd {c : Cut} (p : Pt) : inG c p ↔ (0 ≤ p.1 ∧ p.1 < c.wide) ∧ 0 ≤ p.2 ∧ p.2 < c.high := by
  unfold inG isIn inS
  simp only [Bool.and_eq_true, decide_eq_true_eq]
  omega
theorem sidesL_len (c : Cut) (piece : Int) : (sidesL c piece).length ≤ 1000 := by
  unfold sidesL
  split
  · rename_i h
    have := great_bd (openE_good h).ok
    have h2 := sideTo_len c piece ((greatS c).toNat + 2)
    unfold sidesS
    omega
  · simp
theorem insideL_len (c : Cut) (piece : Int) : (insideL c piece).length ≤ 1000 := by
  unfold insideL
  split
  · rename_i h
    have := great_bd (openE_good h).ok
    have h2 := insTo_len c piece ((greatS c).toNat + 1)
    omega
  · simp
end
end Go.Proofs.Ytjlicbdnppodgaa
