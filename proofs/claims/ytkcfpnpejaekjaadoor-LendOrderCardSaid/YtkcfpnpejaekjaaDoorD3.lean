import Derived.Test.YtkcfpnpejaekjaaDoorD1
import Derived.Test.YtkcfpnpejaekjaaDoorD2
namespace Go.Proofs.YtkcfpnpejaekjaaDoor
open Go.ChangeShapes Go.WideShapes Go.RowKit Go.Deep
/-! Slices of small numbers that came in as arguments. -/
def u16cell (n : Int) : List Value := [.int .u16 n]
def u32cell (n : Int) : List Value := [.int .u32 n]
section
variable {H : Type} {enc : TypeId × Value → H} {w : World}
theorem sU16 : Tryd.prog.underlying 41 = some (.slice 82) := by kernel_rfl
theorem kU16 : Tryd.prog.cellsOf 82 = 1 := by kernel_rfl
theorem uU16 : Tryd.prog.underlying 82 = some (.int .u16) := by kernel_rfl
set_option maxRecDepth 100000 in
theorem rd_u16s {b : Nat} {v : Value} {d : DataW H} {ps : List MemPlace} (hv : Value.okWide Tryd.prog w .any b 41 v) (h : DataW.Trod enc Tryd.prog w 0 (fun _ => true) true 41 v d ps) :
    ∃ (A : Option Addr) (c : Nat) (l : List Int), v = .slice A l.length c ∧ At w w.heap.size 1 u16cell A l ∧ l.length ≤ 9223372036854775807 ∧ ∀ x ∈ l, 0 ≤ x ∧ x < 65536 := by
  obtain ⟨a, len, cap, rfl⟩ := okWide_slice sU16 hv
  obtain ⟨fuel, hf⟩ := h
  obtain ⟨A, c, l, e, h1, h2, h3⟩ := rd_slice (α := Int) (size := 1) (cells := u16cell) (Good := fun x => 0 ≤ x ∧ x < 65536) sU16 kU16 (by omega) (fun m cs' h' => by
    obtain ⟨y, hy⟩ := h'
    obtain ⟨k, e, -, hw⟩ := DataW.trod_int uU16 hy
    refine ⟨k, e, ?_⟩
    simp [Lit.wf, IntKind.min, IntKind.max, IntKind.bits, IntKind.signed] at hw
    omega) (⟨_, hf⟩ : Rd enc w fuel 41 [.slice a len cap])
  injection e with e
  rw [e]
  exact ⟨A, c, l, rfl, h1, h2, h3.1⟩
theorem sU32 : Tryd.prog.underlying 40 = some (.slice 42) := by kernel_rfl
theorem kU32 : Tryd.prog.cellsOf 42 = 1 := by kernel_rfl
theorem uU32 : Tryd.prog.underlying 42 = some (.int .u32) := by kernel_rfl
set_option maxRecDepth 100000 in
theorem rd_u32s {b : Nat} {v : Value} {d : DataW H} {ps : List MemPlace} (hv : Value.okWide Tryd.prog w .any b 40 v) (h : DataW.Trod enc Tryd.prog w 0 (fun _ => true) true 40 v d ps) :
    ∃ (A : Option Addr) (c : Nat) (l : List Int), v = .slice A l.length c ∧ At w w.heap.size 1 u32cell A l ∧ l.length ≤ 9223372036854775807 ∧ ∀ x ∈ l, 0 ≤ x ∧ x < 4294967296 := by
  obtain ⟨a, len, cap, rfl⟩ := okWide_slice sU32 hv
  obtain ⟨fuel, hf⟩ := h
  obtain ⟨A, c, l, e, h1, h2, h3⟩ := rd_slice (α := Int) (size := 1) (cells := u32cell) (Good := fun x => 0 ≤ x ∧ x < 4294967296) sU32 kU32 (by omega) (fun m cs' h' => by
    obtain ⟨y, hy⟩ := h'
    obtain ⟨k, e, -, hw⟩ := DataW.trod_int uU32 hy
    refine ⟨k, e, ?_⟩
    simp [Lit.wf, IntKind.min, IntKind.max, IntKind.bits, IntKind.signed] at hw
    omega) (⟨_, hf⟩ : Rd enc w fuel 40 [.slice a len cap])
  injection e with e
  rw [e]
  exact ⟨A, c, l, rfl, h1, h2, h3.1⟩
end
end Go.Proofs.YtkcfpnpejaekjaaDoor
