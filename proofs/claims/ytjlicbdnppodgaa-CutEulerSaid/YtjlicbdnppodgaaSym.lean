import Derived.Test.YtjlicbdnppodgaaEdg
namespace Go.Proofs.Ytjlicbdnppodgaa
/-! Plain: two pieces have as many edges in common, from whichever they are counted. -/
theorem sumTo_shift (F : Int → Int) : ∀ n : Nat, sumTo (fun x => F ((x : Int) + 1)) n = sumTo (fun x => F (x : Int)) n + F (n : Int) - F 0
  | 0 => by show (0 : Int) = 0 + F ((0 : Nat) : Int) - F 0; rw [show ((0 : Nat) : Int) = 0 from rfl]; omega
  | n + 1 => by
    unfold sumTo
    rw [sumTo_shift F n, show ((n + 1 : Nat) : Int) = (n : Int) + 1 by omega]
    omega
def dl (c : Cut) (a x y : Int) : Int := b2i (at2 c x y == a)
theorem dl_out {c : Cut} {a x y : Int} (ha : 0 ≤ a) (h : x < 0 ∨ c.wide ≤ x ∨ y < 0 ∨ c.high ≤ y) : dl c a x y = 0 := by
  unfold dl
  rw [at_out h]
  have : ((-1 : Int) == a) = false := by simp; omega
  rw [this]; rfl
theorem b2i_mul (p : Bool) (u : Int) : (if p = true then u else 0) = b2i p * u := by cases p <;> simp [b2i]
theorem cellE_dl (c : Cut) (x y a b : Int) : cellE c x y a b = (dl c a x y * dl c b (x - 1) y + dl c a x y * dl c b (x + 1) y) + (dl c a x y * dl c b x (y - 1) + dl c a x y * dl c b x (y + 1)) := by
  unfold cellE dl
  have : (if at2 c x y = a then b2i (at2 c (x - 1) y == b) + b2i (at2 c (x + 1) y == b) + b2i (at2 c x (y - 1) == b) + b2i (at2 c x (y + 1) == b) else 0) = b2i (at2 c x y == a) * (b2i (at2 c (x - 1) y == b) + b2i (at2 c (x + 1) y == b) + b2i (at2 c x (y - 1) == b) + b2i (at2 c x (y + 1) == b)) := by
    rw [← b2i_mul]
    by_cases h : at2 c x y = a <;> simp [h]
  rw [this]
  simp only [Int.mul_add]
  omega
theorem row_symm {c : Cut} {a b : Int} (ha : 0 ≤ a) (hb : 0 ≤ b) {n : Nat} (hn : (n : Int) = c.wide) (y : Int) : sumTo (fun x => dl c a (x : Int) y * dl c b ((x : Int) - 1) y + dl c a (x : Int) y * dl c b ((x : Int) + 1) y) n = sumTo (fun x => dl c b (x : Int) y * dl c a ((x : Int) - 1) y + dl c b (x : Int) y * dl c a ((x : Int) + 1) y) n := by
  have key : ∀ a b : Int, 0 ≤ a → 0 ≤ b → sumTo (fun x => dl c a (x : Int) y * dl c b ((x : Int) + 1) y) n = sumTo (fun x => dl c b (x : Int) y * dl c a ((x : Int) - 1) y) n := fun a b ha hb => by
    have h := sumTo_shift (fun x => dl c b x y * dl c a (x - 1) y) n
    rw [dl_out hb (x := (n : Int)) (by omega), dl_out ha (x := (0 : Int) - 1) (by omega)] at h
    simp only [Int.add_sub_cancel, Int.mul_zero, Int.zero_mul] at h
    rw [show (fun x : Nat => dl c a (x : Int) y * dl c b ((x : Int) + 1) y) = (fun x : Nat => dl c b ((x : Int) + 1) y * dl c a (x : Int) y) from funext fun x => Int.mul_comm _ _]
    omega
  rw [sumTo_add (fun x => dl c a (x : Int) y * dl c b ((x : Int) - 1) y) (fun x => dl c a (x : Int) y * dl c b ((x : Int) + 1) y), sumTo_add (fun x => dl c b (x : Int) y * dl c a ((x : Int) - 1) y) (fun x => dl c b (x : Int) y * dl c a ((x : Int) + 1) y), key a b ha hb, key b a hb ha]
  omega
theorem col_symm {c : Cut} {a b : Int} (ha : 0 ≤ a) (hb : 0 ≤ b) {n m : Nat} (hn : (n : Int) = c.wide) (hm : (m : Int) = c.high) : sumTo (fun y => sumTo (fun x => dl c a (x : Int) (y : Int) * dl c b (x : Int) ((y : Int) - 1) + dl c a (x : Int) (y : Int) * dl c b (x : Int) ((y : Int) + 1)) n) m = sumTo (fun y => sumTo (fun x => dl c b (x : Int) (y : Int) * dl c a (x : Int) ((y : Int) - 1) + dl c b (x : Int) (y : Int) * dl c a (x : Int) ((y : Int) + 1)) n) m := by
  have key : ∀ a b : Int, 0 ≤ a → 0 ≤ b → sumTo (fun y => sumTo (fun x => dl c a (x : Int) (y : Int) * dl c b (x : Int) ((y : Int) + 1)) n) m = sumTo (fun y => sumTo (fun x => dl c b (x : Int) (y : Int) * dl c a (x : Int) ((y : Int) - 1)) n) m := fun a b ha hb => by
    have h := sumTo_shift (fun y => sumTo (fun x => dl c b (x : Int) y * dl c a (x : Int) (y - 1)) n) m
    rw [sumTo_zero (f := fun x => dl c b (x : Int) (m : Int) * dl c a (x : Int) ((m : Int) - 1)) (fun k _ => by rw [dl_out hb (y := (m : Int)) (by omega), Int.zero_mul]),
      sumTo_zero (f := fun x => dl c b (x : Int) 0 * dl c a (x : Int) ((0 : Int) - 1)) (fun k _ => by rw [dl_out ha (y := (0 : Int) - 1) (by omega), Int.mul_zero])] at h
    simp only [Int.add_sub_cancel] at h
    rw [show (fun y : Nat => sumTo (fun x => dl c a (x : Int) (y : Int) * dl c b (x : Int) ((y : Int) + 1)) n) = (fun y : Nat => sumTo (fun x => dl c b (x : Int) ((y : Int) + 1) * dl c a (x : Int) (y : Int)) n) from funext fun y => sumTo_congr fun x _ => Int.mul_comm _ _]
    omega
  have sp : ∀ a b : Int, sumTo (fun y => sumTo (fun x => dl c a (x : Int) (y : Int) * dl c b (x : Int) ((y : Int) - 1) + dl c a (x : Int) (y : Int) * dl c b (x : Int) ((y : Int) + 1)) n) m = sumTo (fun y => sumTo (fun x => dl c a (x : Int) (y : Int) * dl c b (x : Int) ((y : Int) - 1)) n) m + sumTo (fun y => sumTo (fun x => dl c a (x : Int) (y : Int) * dl c b (x : Int) ((y : Int) + 1)) n) m := fun a b => by
    rw [← sumTo_add]
    exact sumTo_congr fun y _ => sumTo_add (fun x => dl c a (x : Int) (y : Int) * dl c b (x : Int) ((y : Int) - 1)) (fun x => dl c a (x : Int) (y : Int) * dl c b (x : Int) ((y : Int) + 1)) n
  rw [sp a b, sp b a, key a b ha hb, key b a hb ha]
  omega
theorem edges_symm {c : Cut} (ok : OkC c) {a b : Int} (ha : 0 ≤ a) (hb : 0 ≤ b) : edgesR c a b = edgesR c b a := by
  have hw := ok.w
  have hh := ok.h
  have hW : ((W c : Nat) : Int) = c.wide := by unfold W; omega
  have hH : ((H c : Nat) : Int) = c.high := by unfold H; omega
  have sp : ∀ a b : Int, edgesR c a b = sumTo (fun y => sumTo (fun x => dl c a (x : Int) (y : Int) * dl c b ((x : Int) - 1) (y : Int) + dl c a (x : Int) (y : Int) * dl c b ((x : Int) + 1) (y : Int)) (W c)) (H c) + sumTo (fun y => sumTo (fun x => dl c a (x : Int) (y : Int) * dl c b (x : Int) ((y : Int) - 1) + dl c a (x : Int) (y : Int) * dl c b (x : Int) ((y : Int) + 1)) (W c)) (H c) := fun a b => by
    unfold edgesR
    rw [← sumTo_add]
    refine sumTo_congr fun y _ => ?_
    rw [← sumTo_add]
    exact sumTo_congr fun x _ => cellE_dl c x y a b
  rw [sp a b, sp b a, col_symm ha hb hW hH]
  congr 1
  exact sumTo_congr fun y _ => row_symm ha hb hW y
end Go.Proofs.Ytjlicbdnppodgaa
