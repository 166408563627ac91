import Derived.Test.YtbhkglokdomajaaDoorP1
import Derived.BigRegion
import Derived.Laws.BitsAllLaws
import Derived.Laws.Bits64b
namespace Go.Proofs.YtbhkglokdomajaaDoor
open Go.RowKit
def deB : List Nat := [0, 1, 56, 2, 57, 49, 28, 3, 61, 58, 42, 50, 38, 29, 17, 4, 62, 47, 59, 36, 45, 43, 51, 22, 53, 39, 33, 30, 24, 18, 12, 5, 63, 55, 48, 27, 60, 41, 37, 16, 46, 35, 44, 21, 52, 32, 23, 11, 54, 26, 40, 15, 34, 20, 31, 10, 25, 14, 19, 9, 13, 8, 7, 6]
/-- The table of math/bits, as the program's text lays it. -/
structure Env (w : World) : Prop where
  lt : 1 < w.heap.size
  cell : ∀ j, j < 64 → w.cell? ⟨1, j, none⟩ = some (.int .u8 ((deB.getD j 0 : Nat) : Int))
theorem Env.next {w w' : World} (h : Env w) (hb : Below w.heap.size w w') : Env w' :=
  ⟨Nat.lt_of_lt_of_le h.lt hb.size, fun j hj => (hb.cell (p := ⟨1, j, none⟩) h.lt).trans (h.cell j hj)⟩
def ctz (x : Nat) : Nat := ((List.range 9).find? fun i => x.testBit i).getD 0
def tzi (x : Nat) : Nat := (2 ^ ctz x * 285870213051353865 % 18446744073709551616) / 288230376151711744
theorem tz_low : ∀ x : Nat, x < 512 → 0 < x → x &&& (18446744073709551616 - x) = 2 ^ ctz x ∧ tzi x < 64 ∧ deB.getD (tzi x) 0 = ctz x ∧ ctz x < 9 := by decide +kernel
theorem tz_key (x : Nat) (hx : x < 512) (h0 : 0 < x) : IntKind.u64.wrap (bits BinOp.and IntKind.u64 (x : Int) (IntKind.u64.wrap (-(x : Int))) * 285870213051353865) / 288230376151711744 = (tzi x : Int) ∧ tzi x < 64 ∧ deB.getD (tzi x) 0 = ctz x ∧ ctz x < 9 := by
  obtain ⟨hlow, hr⟩ := tz_low x hx h0
  refine ⟨?_, hr⟩
  have e1 : IntKind.u64.wrap (-(x : Int)) = ((18446744073709551616 - x : Nat) : Int) := by rw [IntKind.wrap_u64]; omega
  rw [e1, bits_and_u64_nat x _ (by omega) (by omega), hlow, IntKind.wrap_u64]
  unfold tzi
  generalize 2 ^ ctz x = a
  omega
theorem ctz_spec : ∀ x : Nat, x < 512 → 0 < x → x.testBit (ctz x) = true ∧ (∀ j, j < ctz x → x.testBit j = false) ∧ (∀ j, j < 9 → (x &&& (x - 1)).testBit j = (x.testBit j && decide (j ≠ ctz x))) ∧ x &&& (x - 1) < x := by decide +kernel
set_option maxHeartbeats 1000000 in
theorem tz64_core (x k idx : Nat) (w : World) (hx0 : ((x : Int) == 0) = false)
    (key : IntKind.u64.wrap (bits BinOp.and IntKind.u64 (x : Int) (IntKind.u64.wrap (-(x : Int))) * 285870213051353865) / 288230376151711744 = (idx : Int))
    (hi : idx < 64) (hk : k < 64) (hcell : w.cell? ⟨1, idx, none⟩ = some (.int .u8 k)) :
    Calls Tryd.prog 78 #[.int .u64 x] w fun e w' => e = .returned (.int .i64 k) ∧ w' = w := by
  go_enter Tryd.func78, Tryd.ntmps78
  go_wp2_with (simp only [key])
  go_ret
  exact ⟨rfl, rfl⟩
theorem tz64_any (x : Nat) (w : World) (h0 : 0 < x) (h1 : x < 512) (he : Env w) : Calls Tryd.prog 78 #[.int .u64 x] w (RetQ (.int .i64 (ctz x)) w) := by
  obtain ⟨key, hi, hd, hc9⟩ := tz_key x h1 h0
  have hcell := he.cell (tzi x) hi
  rw [hd] at hcell
  exact (tz64_core x (ctz x) (tzi x) w (by rw [beq_eq_false_iff_ne]; omega) key hi (by omega) hcell).mono fun _ _ h => ⟨h.1, h.2.symm⟩
set_option maxHeartbeats 400000 in
theorem tz_any (x : Nat) (w : World) (h0 : 0 < x) (h1 : x < 512) (he : Env w) : Calls Tryd.prog 75 #[.int .u64 x] w (RetQ (.int .i64 (ctz x)) w) := by
  go_enter Tryd.func75, Tryd.ntmps75
  go_wp2_with (go_at_call 78; (with_reducible refine (tz64_any x _ h0 h1 he).mono ?_); rintro e w' ⟨rfl, rfl⟩)
  go_ret
  exact retq_int rfl
/-! The blades of a set. -/
def bitsOf (x : Nat) : List Nat := (List.range 9).filter fun i => has x i
theorem bits_cons : ∀ x : Nat, x < 512 → 0 < x → bitsOf x = ctz x :: bitsOf (x &&& (x - 1)) ∧ 2 ^ ctz x ≤ x ∧ x &&& (x - 1) < x := by decide +kernel
theorem bits_nil : bitsOf 0 = [] := by decide +kernel
theorem bits_len (x : Nat) : (bitsOf x).length ≤ 9 := Nat.le_trans (List.length_filter_le _ _) (by simp)
theorem bits_mem {x k : Nat} : k ∈ bitsOf x → has x k = true := fun h => (List.mem_filter.1 h).2
theorem mem_bits {x k : Nat} (hx : x < 512) (h : has x k = true) : k ∈ bitsOf x := by
  refine List.mem_filter.2 ⟨List.mem_range.2 ?_, h⟩
  refine Nat.lt_of_not_le fun hk => ?_
  have : has x k = false := Nat.testBit_lt_two_pow (Nat.lt_of_lt_of_le hx (Nat.pow_le_pow_right (by omega) hk : 2 ^ 9 ≤ 2 ^ k))
  rw [this] at h; cases h
end Go.Proofs.YtbhkglokdomajaaDoor
