import Derived.Test.YtkcfpnpejaekjaaDoorW0
namespace Go.Proofs.YtkcfpnpejaekjaaDoor
open Go.RowKit
/-! The reference: small functions. -/
theorem powI_bd {n : Nat} (h : n ≤ 62) : 1 ≤ powI n ∧ powI n ≤ 4611686018427387904 := by
  have h1 : 2 ^ n ≤ 2 ^ 62 := Nat.pow_le_pow_right (by omega) h
  have h2 : 0 < 2 ^ n := Nat.two_pow_pos n
  have h3 : (2:Nat) ^ 62 = 4611686018427387904 := by decide
  unfold powI; omega
theorem powI_succ (n : Nat) : powI (n + 1) = 2 * powI n := by unfold powI; rw [Nat.pow_succ]; omega
set_option maxHeartbeats 400000 in
theorem in_any (a b c : Int) (w : World) :
    Calls Tryd.prog 34 #[.int .i64 a, .int .i64 b, .int .i64 c] w (RetQ (.bool (inS a b c)) w) := by
  go_enter Tryd.func34, Tryd.ntmps34
  go_wp2
  all_goals (go_ret; refine retq_bool ?_; unfold inS; rw [Bool.eq_iff_iff]; simp; try omega)
set_option maxHeartbeats 400000 in
theorem power_any (n : Nat) (hn : n ≤ 62) (w : World) : Calls Tryd.prog 45 #[.int .i64 n] w (RetQ (.int .i64 (powI n)) w) := by
  go_enter Tryd.func45, Tryd.ntmps45
  go_wp2
  go_loop [3, 4] (fun o i => ∃ k : Nat, k ≤ n ∧ i = .int .i64 k ∧ o = .int .i64 (powI k)) (fun _ i => n - (intOf i).toNat)
  case atStart => exact ⟨0, by omega, rfl, rfl⟩
  case round =>
    obtain ⟨k, hk, rfl, rfl⟩ := hrel
    have hb := powI_bd (n := k) (by omega)
    by_cases hlt : k < n
    · have hb' := powI_bd (n := k + 1) (by omega)
      rw [powI_succ] at hb'
      go_wp2
      go_round
      case rel => exact ⟨k + 1, by omega, by go_num, by rw [powI_succ]⟩
      case measure => simp [intOf]; omega
    · obtain rfl : k = n := by omega
      go_wp2
      go_ret
      exact retq_int rfl
theorem has_eq (set i : Nat) : ((set : Int) / powI i % 2 == 1) = has set i := by
  unfold has powI
  rw [Nat.testBit_eq_decide_div_mod_eq, Bool.eq_iff_iff]
  simp only [beq_iff_eq, decide_eq_true_eq]
  omega
set_option maxHeartbeats 400000 in
theorem has_any (set i : Nat) (hn : i ≤ 62) (hs : set ≤ 9223372036854775807) (w : World) :
    Calls Tryd.prog 60 #[.int .i64 set, .int .i64 i] w (RetQ (.bool (has set i)) w) := by
  have hb := powI_bd hn
  have hd : 0 ≤ (set : Int) / powI i := Int.ediv_nonneg (by omega) (by omega)
  have hd2 : (set : Int) / powI i ≤ set := Int.ediv_le_self _ (by omega)
  go_enter Tryd.func60, Tryd.ntmps60
  go_wp2_with (go_at_call 45; (with_reducible refine (power_any _ hn _).mono ?_); rintro e w' ⟨rfl, rfl⟩)
  go_ret
  exact retq_bool (has_eq set i)
end Go.Proofs.YtkcfpnpejaekjaaDoor
