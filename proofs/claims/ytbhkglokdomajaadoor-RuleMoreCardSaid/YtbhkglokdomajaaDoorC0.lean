import Derived.Test.YtbhkglokdomajaaDoorR2
namespace Go.Proofs.YtbhkglokdomajaaDoor
open Go.RowKit
/-! The laws' guards: whatever they say, the law holds. -/
def RetSome (w : World) (e : Ending) (w' : World) : Prop := ∃ b : Bool, e = .returned (.bool b) ∧ Below w.heap.size w w'
set_option maxHeartbeats 400000 in
theorem far_any (d : Die) (A2 A3 : Option Addr) (n2 c2 n3 c3 : Nat) (w : World) : Calls Tryd.prog 12 #[.agg #[.slice d.A d.blades.length d.c, .int .i64 d.bound, .int .i64 d.stop, .int .i64 d.bend], .slice A2 n2 c2, .slice A3 n3 c3] w (RetSome w) := by
  go_enter Tryd.func12, Tryd.ntmps12
  go_wp2
  all_goals (go_ret; exact ⟨_, rfl, nxA _ _⟩)
def RHv (w0 : World) (d : Die) (nl : Nat) (b : Nat) (n i : Value) (w : World) : Prop := ∃ (k : Nat) (m : Int), k ≤ nl ∧ i = .int .i64 ((k + 1 : Nat) : Int) ∧ n = .int .i64 m ∧ Below w0.heap.size w0 w ∧ Bx w b (dieL d)
set_option maxHeartbeats 400000 in
theorem heavy_any (d : Die) (A2 : Option Addr) (n2 c2 : Nat) (most : Int) (w : World) : Calls Tryd.prog 24 #[.agg #[.slice d.A d.blades.length d.c, .int .i64 d.bound, .int .i64 d.stop, .int .i64 d.bend], .slice A2 n2 c2, .int .i64 most] w (RetSome w) := by
  go_enter Tryd.func24, Tryd.ntmps24
  by_cases h1 : 5 < d.blades.length
  · have d1 : decide (5 < (d.blades.length : Int)) = true := by simp; omega
    go_wp2
    go_ret
    exact ⟨_, rfl, nxA _ _⟩
  · have d1 : decide (5 < (d.blades.length : Int)) = false := by simp; omega
    by_cases h2 : 7 < n2
    · have d2 : decide (7 < (n2 : Int)) = true := by simp; omega
      go_wp2
      go_ret
      exact ⟨_, rfl, nxA _ _⟩
    · have d2 : decide (7 < (n2 : Int)) = false := by simp; omega
      go_wp2
      go_loopw [7, 8] (fun n i wr => RHv w d n2 w.heap.size n i wr) (fun _ i _ => n2 + 1 - (intOf i).toNat)
      case atStart => exact ⟨0, 1, by omega, rfl, rfl, nxA _ _, Bx.new _ _ _⟩
      case round =>
        obtain ⟨k, m, hk, rfl, rfl, hb, hx⟩ := hrel
        have c0 := hx.c 0 _ rfl
        by_cases hlt : k + 1 < n2
        · go_wp2
          all_goals (first | (refine ⟨?_, ?_⟩; (unfold RHv; exact ⟨k + 1, _, by omega, by go_num, rfl, hb, hx⟩); (simp [intOf]; omega)) | (go_roundw; (case rel => (unfold RHv; exact ⟨k + 1, _, by omega, by go_num, rfl, hb, hx⟩)); (case measure => (simp [intOf]; omega))) | (go_round; (case rel => (unfold RHv; exact ⟨k + 1, _, by omega, by go_num, rfl, hb, hx⟩)); (case measure => (simp [intOf]; omega))))
        · go_wp2
          go_ret
          exact ⟨_, rfl, hb⟩
end Go.Proofs.YtbhkglokdomajaaDoor
