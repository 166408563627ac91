import Derived.Test.YtfffhbolaimmdaaDoorP9
namespace Go.Proofs.YtfffhbolaimmdaaDoor
open Go.RowKit
def fnV (f : Nat) : Value := .agg #[.func (.func f) #[] #[]]
set_option maxHeartbeats 400000 in
theorem few43_any (w : World) : Calls Tryd.prog 43 #[] w (Ret (.agg #[.func (.func 64) #[] #[]]) w) := by
  go_enter Tryd.func43, Tryd.ntmps43
  go_wp2
  (try simp only [Exit.inBlock, Exit.then])
  refine bodyPost_ret (results_cell_row rfl _ _ w.heap.size 83 _ (0, 0) _ rfl (heap_alloc_new' rfl) Tryd.underlying83 rfl (by kernel_rfl)) rfl ?_
  exact ⟨rfl, (Below.refl _ _).alloc (Nat.le_refl _) _⟩
set_option maxHeartbeats 400000 in
theorem most42_any (w : World) : Calls Tryd.prog 42 #[] w (Ret (.agg #[.func (.func 63) #[] #[]]) w) := by
  go_enter Tryd.func42, Tryd.ntmps42
  go_wp2
  (try simp only [Exit.inBlock, Exit.then])
  refine bodyPost_ret (results_cell_row rfl _ _ w.heap.size 83 _ (0, 0) _ rfl (heap_alloc_new' rfl) Tryd.underlying83 rfl (by kernel_rfl)) rfl ?_
  exact ⟨rfl, (Below.refl _ _).alloc (Nat.le_refl _) _⟩
set_option maxHeartbeats 400000 in
theorem few64_any (a b : Int) (w : World) : Calls Tryd.prog 64 #[.agg #[.int .i64 a, .int .i64 b]] w (Ret (.int .i64 a) w) := by
  go_enter Tryd.func64, Tryd.ntmps64
  go_wp2
  go_ret
  exact ⟨rfl, (Below.refl _ _).alloc (Nat.le_refl _) _⟩
set_option maxHeartbeats 400000 in
theorem most63_any (a b : Int) (w : World) : Calls Tryd.prog 63 #[.agg #[.int .i64 a, .int .i64 b]] w (Ret (.int .i64 b) w) := by
  go_enter Tryd.func63, Tryd.ntmps63
  go_wp2
  go_ret
  exact ⟨rfl, (Below.refl _ _).alloc (Nat.le_refl _) _⟩
end Go.Proofs.YtfffhbolaimmdaaDoor
