import Derived.Test.YtbhkglokdomajaaDoorD1
import Derived.Test.YtbhkglokdomajaaDoorD2
namespace Go.Proofs.YtbhkglokdomajaaDoor
open Go.ChangeShapes Go.WideShapes Go.RowKit Go.Deep
/-! Slices of small numbers that came in as arguments. -/
def u8cell (n : Int) : List Value := [.int .u8 n]
def u16cell (n : Int) : List Value := [.int .u16 n]
section
variable {H : Type} {enc : TypeId × Value → H} {w : World}
theorem sU8 : Tryd.prog.underlying 62 = some (.slice 5) := by kernel_rfl
theorem sU16 : Tryd.prog.underlying 46 = some (.slice 55) := by kernel_rfl
theorem kU16 : Tryd.prog.cellsOf 55 = 1 := by kernel_rfl
theorem uU16 : Tryd.prog.underlying 55 = some (.int .u16) := by kernel_rfl
set_option maxRecDepth 100000 in
theorem rd_u8s {b : Nat} {v : Value} {d : DataW H} {ps : List MemPlace} (hv : Value.okWide Tryd.prog w .any b 62 v) (h : DataW.Trod enc Tryd.prog w 0 (fun _ => true) true 62 v d ps) :
    ∃ (A : Option Addr) (c : Nat) (l : List Int), v = .slice A l.length c ∧ At w w.heap.size 1 u8cell A l ∧ l.length ≤ 9223372036854775807 ∧ ∀ x ∈ l, 0 ≤ x ∧ x < 256 := by
  obtain ⟨a, len, cap, rfl⟩ := okWide_slice sU8 hv
  obtain ⟨fuel, hf⟩ := h
  obtain ⟨A, c, l, e, h1, h2, h3⟩ := rd_slice (α := Int) (size := 1) (cells := u8cell) (Good := fun x => 0 ≤ x ∧ x < 256) sU8 k5 (by omega) (fun m cs' h' => by
    obtain ⟨y, hy⟩ := h'
    obtain ⟨k, e, -, hw⟩ := DataW.trod_int u5 hy
    refine ⟨k, e, ?_⟩
    simp [Lit.wf, IntKind.min, IntKind.max, IntKind.bits, IntKind.signed] at hw
    omega) (⟨_, hf⟩ : Rd enc w fuel 62 [.slice a len cap])
  injection e with e
  rw [e]
  exact ⟨A, c, l, rfl, h1, h2, h3⟩
set_option maxRecDepth 100000 in
theorem rd_u16s {b : Nat} {v : Value} {d : DataW H} {ps : List MemPlace} (hv : Value.okWide Tryd.prog w .any b 46 v) (h : DataW.Trod enc Tryd.prog w 0 (fun _ => true) true 46 v d ps) :
    ∃ (A : Option Addr) (c : Nat) (l : List Int), v = .slice A l.length c ∧ At w w.heap.size 1 u16cell A l ∧ l.length ≤ 9223372036854775807 ∧ ∀ x ∈ l, 0 ≤ x ∧ x < 65536 := by
  obtain ⟨a, len, cap, rfl⟩ := okWide_slice sU16 hv
  obtain ⟨fuel, hf⟩ := h
  obtain ⟨A, c, l, e, h1, h2, h3⟩ := rd_slice (α := Int) (size := 1) (cells := u16cell) (Good := fun x => 0 ≤ x ∧ x < 65536) sU16 kU16 (by omega) (fun m cs' h' => by
    obtain ⟨y, hy⟩ := h'
    obtain ⟨k, e, -, hw⟩ := DataW.trod_int uU16 hy
    refine ⟨k, e, ?_⟩
    simp [Lit.wf, IntKind.min, IntKind.max, IntKind.bits, IntKind.signed] at hw
    omega) (⟨_, hf⟩ : Rd enc w fuel 46 [.slice a len cap])
  injection e with e
  rw [e]
  exact ⟨A, c, l, rfl, h1, h2, h3⟩
end
end Go.Proofs.YtbhkglokdomajaaDoor
