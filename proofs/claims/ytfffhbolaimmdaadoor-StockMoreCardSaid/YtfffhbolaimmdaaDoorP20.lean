import Derived.Test.YtfffhbolaimmdaaDoorP19
namespace Go.Proofs.YtfffhbolaimmdaaDoor
open Go.RowKit
theorem cho_eq3 : Tryd.prog.eqGuardType Tryd.prog.depth 95 = false := by kernel_rfl
theorem cho_eq1 : Tryd.prog.underlying 95 = some (.struct (Tryd.prog.fieldsOf 95)) := by kernel_rfl
theorem cho_eq2 : Tryd.prog.stoodInHeld 95 = false := by kernel_rfl
theorem cho_eql (x1 x2 y1 y2 : Int) (W : World) : (binOp .eql 95 (.agg #[.int .i64 x1, .int .i64 x2]) (.agg #[.int .i64 y1, .int .i64 y2])).run Tryd.prog W = .ok (.bool (x1 == y1 && x2 == y2)) W := by
  rw [run_eql_struct, run_equalIn_struct _ _ _ _ _ cho_eq1 cho_eq2]
  simp [Op.eqFields, go_sem]
  by_cases h1 : x1 = y1 <;> by_cases h2 : x2 = y2 <;> simp [h1, h2]
def overB (a p b q : Int) : Bool := decide (q < p) || (decide (a ≤ b) && decide (p = q))
def cho (a p : Int) : Value := .agg #[.int .i64 a, .int .i64 p]
theorem load95 {w : World} {b : Nat} {x y : Int} (h0 : w.cell? ⟨b, 0, none⟩ = some (.int .i64 x)) (h1 : w.cell? ⟨b, 1, none⟩ = some (.int .i64 y)) : (loadVar 95 ⟨b, 0, none⟩).run Tryd.prog w = .ok (.agg #[.int .i64 x, .int .i64 y]) w := by
  go_simp
theorem over_below (w : World) (a p b q x y : Int) : Below w.heap.size w (((w.alloc (.cells #[.int .i64 a, .int .i64 p] 95)).alloc (.cells #[.int .i64 b, .int .i64 q] 95)).alloc (.cells #[.int .i64 x, .int .i64 y] 95)) :=
  (((Below.refl _ _).alloc (Nat.le_refl _) _).alloc (by simp) _).alloc (by simp; omega) _
theorem over_ret (w : World) (a p b q x y : Int) : (loadVar 95 ⟨w.heap.size + 1 + 1, 0, none⟩).run Tryd.prog (((w.alloc (.cells #[.int .i64 a, .int .i64 p] 95)).alloc (.cells #[.int .i64 b, .int .i64 q] 95)).alloc (.cells #[.int .i64 x, .int .i64 y] 95)) = .ok (.agg #[.int .i64 x, .int .i64 y]) (((w.alloc (.cells #[.int .i64 a, .int .i64 p] 95)).alloc (.cells #[.int .i64 b, .int .i64 q] 95)).alloc (.cells #[.int .i64 x, .int .i64 y] 95)) :=
  load95 (by simp [go_sem]) (by simp [go_sem])
set_option maxRecDepth 100000 in
set_option maxHeartbeats 400000 in
theorem over_true (a p b q : Int) (w : World) (h : overB a p b q = true) :
    Calls Tryd.prog 80 #[.agg #[.int .i64 a, .int .i64 p], .agg #[.int .i64 b, .int .i64 q]] w (Ret (.agg #[.int .i64 a, .int .i64 p]) w) := by
  have hq3 := cho_eq3
  by_cases h1 : q < p
  · clear h
    go_enter Tryd.func80, Tryd.ntmps80
    go_wp2
    refine bodyPost_ret (results_cell1 rfl rfl (over_ret _ _ _ _ _ _ _)) rfl ⟨rfl, over_below _ _ _ _ _ _ _⟩
  · have h23 : a ≤ b ∧ p = q := by simpa [overB, h1] using h
    obtain ⟨h2, rfl⟩ := h23
    have h1' : decide (p < p) = false := by simp
    have hq := cho_eql a p a p
    simp only [beq_self_eq_true, Bool.and_self] at hq
    clear h
    go_enter Tryd.func80, Tryd.ntmps80
    go_wp2
    refine bodyPost_ret (results_cell1 rfl rfl (over_ret _ _ _ _ _ _ _)) rfl ⟨rfl, over_below _ _ _ _ _ _ _⟩
set_option maxRecDepth 100000 in
set_option maxHeartbeats 400000 in
theorem over_false (a p b q : Int) (w : World) (h : overB a p b q = false) :
    Calls Tryd.prog 80 #[.agg #[.int .i64 a, .int .i64 p], .agg #[.int .i64 b, .int .i64 q]] w (Ret (.agg #[.int .i64 b, .int .i64 q]) w) := by
  have hq3 := cho_eq3
  have h1 : ¬ q < p := fun e => by simp [overB, e] at h
  have h1' : decide (q < p) = false := by simpa using h1
  by_cases h2 : a ≤ b
  · have h3 : (p == q) = false := by rw [beq_eq_false_iff_ne]; intro e; simp [overB, h2, e] at h
    have hq := cho_eql a p a q
    simp only [beq_self_eq_true, h3, Bool.and_false] at hq
    clear h
    go_enter Tryd.func80, Tryd.ntmps80
    go_wp2
    refine bodyPost_ret (results_cell1 rfl rfl (over_ret _ _ _ _ _ _ _)) rfl ⟨rfl, over_below _ _ _ _ _ _ _⟩
  · have h3 : (a == b) = false := by rw [beq_eq_false_iff_ne]; omega
    have hq := cho_eql a p b q
    simp only [h3, Bool.false_and] at hq
    clear h
    go_enter Tryd.func80, Tryd.ntmps80
    go_wp2
    refine bodyPost_ret (results_cell1 rfl rfl (over_ret _ _ _ _ _ _ _)) rfl ⟨rfl, over_below _ _ _ _ _ _ _⟩
end Go.Proofs.YtfffhbolaimmdaaDoor
