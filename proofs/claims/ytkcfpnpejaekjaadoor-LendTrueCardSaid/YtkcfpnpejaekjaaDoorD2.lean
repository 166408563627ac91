import Derived.Test.YtkcfpnpejaekjaaDoorD1
import Derived.Test.YtkcfpnpejaekjaaDoorP14
import Derived.ProofKit
import Derived.LaidMore
import Derived.Stop.Joined
import Derived.FnData
namespace Go.Proofs.YtkcfpnpejaekjaaDoor
open Go.ChangeShapes Go.WideShapes Go.ChangeAt Go.RowKit
theorem own : ownKnob Tryd.prog.godebug = none := by kernel_rfl
def laidL : List (String × DataW Unit) := [("math/bits.deBruijn32tab", Rows.laid_math_bits_deBruijn32tab), ("math/bits.deBruijn64tab", Rows.laid_math_bits_deBruijn64tab)]
theorem gTab : Tryd.prog.globalNamed "math/bits.deBruijn64tab" = some 1 := by kernel_rfl
theorem tTab : (Tryd.prog.globals[1]?).map (·.type) = some 104 := by kernel_rfl
theorem u132 : Tryd.prog.underlying 104 = some (.array 64 5) := by kernel_rfl
theorem u5 : Tryd.prog.underlying 5 = some (.int .u8) := by kernel_rfl
theorem k5 : Tryd.prog.cellsOf 5 = 1 := by kernel_rfl
theorem laid_deB : (Rows.laid_math_bits_deBruijn64tab : DataW Unit) = .agg (deB.map fun n => .lit (.int .u8 (n : Nat))) := rfl
theorem env_of_laid {W : World} (h : laidMetH Tryd.prog laidL W) : Env W := by
  rw [MakeChecks.laidMetH_plain _ _ _ (by kernel_rfl)] at h
  obtain ⟨ps, ⟨g0, t0, cs0, f0, p0, q0, hg0, ht0, hv0, hd0, ⟨g1, t1, cs1, f1, p1, q1, hg1, ht1, hv1, hd1, _, _⟩, _⟩, _, _⟩ := h
  obtain rfl := Option.some.inj (gTab.symm.trans hg1)
  obtain rfl := Option.some.inj (tTab.symm.trans ht1)
  obtain ⟨xs, m1, rfl, hx1, hlen, hn, hel⟩ := DataW.trod_array u132 hd1
  simp only [Prod.mk.injEq] at hx1
  have hxa := hx1.1
  rw [laid_deB] at hxa
  injection hxa with hxa
  have hcell : ∀ j, j < 64 → W.cell? ⟨1, j, none⟩ = some (.int .u8 ((deB.getD j 0 : Nat) : Int)) := by
    intro j hj
    have hxj : xs[j]? = some (xs[j]'(by omega)) := List.getElem?_eq_getElem (by omega)
    have h1 := hel j hj
    rw [k5, hxj, Nat.mul_one] at h1
    obtain ⟨k, e1, e2, _⟩ := DataW.trod_int u5 h1
    have e3 : (xs.map (·.1))[j]? = some (.lit (.int .u8 k)) := by rw [List.getElem?_map, hxj, e2]; rfl
    rw [← hxa] at e3
    have hd : deB[j]? = some (deB.getD j 0) := by
      have hl : j < deB.length := hj
      rw [List.getD_eq_getElem?_getD, List.getElem?_eq_getElem hl]; rfl
    rw [List.getElem?_map, hd] at e3
    simp only [Option.map_some, Option.some.injEq, DataW.lit.injEq, Lit.int.injEq, true_and] at e3
    rw [World.var?_cell gTab hv1 j, ← Array.getElem?_toList]
    have h2 : (cs1.toList.drop j)[0]? = some (.int .u8 k) := by
      have := congrArg (·[0]?) e1
      simpa [List.getElem?_take] using this
    rw [List.getElem?_drop, Nat.add_zero] at h2
    rw [h2, ← e3]
  refine ⟨?_, hcell⟩
  exact (cell_in (hcell 0 (by omega))).2
theorem door_met (os : Os) (args : Array Value) : laidMetH Tryd.prog laidL ((World.doorLaid Tryd.prog 400 os).forCall (fun _ _ => 0) ⟨#[], args, []⟩).memory :=
  laidMetH_of_parts3 (fuel := 8) (laidMet_of_run' 8 (by kernel_rfl) (by kernel_rfl)) (by kernel_rfl) (by kernel_rfl)
end Go.Proofs.YtkcfpnpejaekjaaDoor
