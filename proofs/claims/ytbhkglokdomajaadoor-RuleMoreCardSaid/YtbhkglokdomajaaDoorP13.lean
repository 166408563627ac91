import Derived.Test.YtbhkglokdomajaaDoorM0
import Derived.Test.YtbhkglokdomajaaDoorP12
namespace Go.Proofs.YtbhkglokdomajaaDoor
open Go.RowKit
open Go.Maps (Keyed)
/-! The program: Plan; the state as a key. -/
def stateV (j : Nat) (r : Nat → Int) : Value := .agg #[.int .i64 j, .int .i64 (r 0), .int .i64 (r 1), .int .i64 (r 2), .int .i64 (r 3), .int .i64 (r 4)]
theorem state_und : Tryd.prog.underlying 99 = some (.struct (Tryd.prog.fieldsOf 99)) := by kernel_rfl
theorem map_und : Tryd.prog.underlying 96 = some (.map 99 101) := by kernel_rfl
theorem state_keyed : Keyed Tryd.prog 99 := Keyed.of_law (deep_law (m := 3) (by decide) (by kernel_rfl) (by kernel_rfl) (by rw [state_und]))
theorem lits_int (D : Nat) {x : Int} (h : (Lit.int .i64 x).wf = true) : Tryd.prog.keyLits (D + 1) 3 [.int .i64 x] = some [.int .i64 x] := by
  have u : Tryd.prog.underlying 3 = some (.int .i64) := by kernel_rfl
  unfold Program.keyLits
  rw [u]
  simp [h]
theorem lits_ran (D : Nat) {x0 x1 x2 x3 x4 : Int} (h0 : (Lit.int .i64 x0).wf = true) (h1 : (Lit.int .i64 x1).wf = true) (h2 : (Lit.int .i64 x2).wf = true) (h3 : (Lit.int .i64 x3).wf = true) (h4 : (Lit.int .i64 x4).wf = true) :
    Tryd.prog.keyLits (D + 2) 91 [.int .i64 x0, .int .i64 x1, .int .i64 x2, .int .i64 x3, .int .i64 x4] = some [.int .i64 x0, .int .i64 x1, .int .i64 x2, .int .i64 x3, .int .i64 x4] := by
  have u : Tryd.prog.underlying 91 = some (.array 5 3) := by kernel_rfl
  have c5 : Tryd.prog.cellsOf 91 = 5 := by kernel_rfl
  have c1 : Tryd.prog.cellsOf 3 = 1 := by kernel_rfl
  unfold Program.keyLits
  rw [u]
  simp [c5, c1, List.range_succ, lits_int D h0, lits_int D h1, lits_int D h2, lits_int D h3, lits_int D h4]
theorem state_lits (D : Nat) {j x0 x1 x2 x3 x4 : Int} (hj : (Lit.int .i64 j).wf = true) (h0 : (Lit.int .i64 x0).wf = true) (h1 : (Lit.int .i64 x1).wf = true) (h2 : (Lit.int .i64 x2).wf = true) (h3 : (Lit.int .i64 x3).wf = true) (h4 : (Lit.int .i64 x4).wf = true) :
    Tryd.prog.keyLits (D + 3) 99 [.int .i64 j, .int .i64 x0, .int .i64 x1, .int .i64 x2, .int .i64 x3, .int .i64 x4] = some [.int .i64 j, .int .i64 x0, .int .i64 x1, .int .i64 x2, .int .i64 x3, .int .i64 x4] := by
  have hs : (Tryd.prog.fieldsOf 99).size = 2 := by kernel_rfl
  have hl : (Tryd.prog.fieldsOf 99).toList = [(Tryd.prog.fieldsOf 99)[0], (Tryd.prog.fieldsOf 99)[1]] := by kernel_rfl
  have e1 : (Tryd.prog.fieldsOf 99)[0].type = 3 := by kernel_rfl
  have e2 : (Tryd.prog.fieldsOf 99)[0].offset = 0 := by kernel_rfl
  have e3 : (Tryd.prog.fieldsOf 99)[1].type = 91 := by kernel_rfl
  have e4 : (Tryd.prog.fieldsOf 99)[1].offset = 1 := by kernel_rfl
  have ea : (Tryd.prog.fieldsOf 99).all (·.name != "_") = true := by kernel_rfl
  have c6 : Tryd.prog.cellsOf 99 = 6 := by kernel_rfl
  have c5 : Tryd.prog.cellsOf 91 = 5 := by kernel_rfl
  have c1 : Tryd.prog.cellsOf 3 = 1 := by kernel_rfl
  unfold Program.keyLits
  rw [state_und]
  simp only [ea, c6, hl]
  simp [e1, e2, e3, e4, c5, c1, lits_int (D + 1) hj, lits_ran D h0 h1 h2 h3 h4]
theorem state_key {j : Nat} {r : Nat → Int} (hj : (Lit.int .i64 j).wf = true) (hr : ∀ k, (Lit.int .i64 (r k)).wf = true) : ∃ l, keyOf Tryd.prog 99 (stateV j r) = some l := by
  have hk : Tryd.prog.keyType 99 = true := by kernel_rfl
  have c6 : Tryd.prog.cellsOf 99 = 6 := by kernel_rfl
  have hs : Tryd.prog.types.size + 1 = (Tryd.prog.types.size - 2) + 3 := by kernel_rfl
  have hL := state_lits (Tryd.prog.types.size - 2) hj (hr 0) (hr 1) (hr 2) (hr 3) (hr 4)
  rw [← hs] at hL
  unfold keyOf stateV
  rw [state_und]
  dsimp only
  have hf : Value.formed Tryd.prog 99 (.agg #[.int .i64 j, .int .i64 (r 0), .int .i64 (r 1), .int .i64 (r 2), .int .i64 (r 3), .int .i64 (r 4)]) = true := by
    unfold Value.formed
    rw [state_und]
    simp [c6]
  rw [if_pos (by rw [hk, hf]; rfl)]
  exact ⟨_, by rw [show (Value.agg #[.int .i64 j, .int .i64 (r 0), .int .i64 (r 1), .int .i64 (r 2), .int .i64 (r 3), .int .i64 (r 4)]).cells.toList = [.int .i64 j, .int .i64 (r 0), .int .i64 (r 1), .int .i64 (r 2), .int .i64 (r 3), .int .i64 (r 4)] from rfl, hL]; rfl⟩
end Go.Proofs.YtbhkglokdomajaaDoor
