import Derived.Test.YtkcfpnpejaekjaaDoorP17
namespace Go.Proofs.YtkcfpnpejaekjaaDoor
open Go.RowKit
/-! The law: its sample. -/
def smp (adm : List Int) : Tl := ⟨4, [⟨0, 10, 20⟩, ⟨1, 30, 40⟩, ⟨2, 40, 60⟩], [⟨10, 15, 0⟩, ⟨25, 6, 1⟩, ⟨60, 0, 6⟩], adm⟩
theorem smp1_holder : holderS (smp [-1, 1, -1]) 25 = (-1, 0) := by kernel_rfl
theorem smp1_win : winS (smp [-1, 1, -1]) 3 = ⟨10, 1048575, false, 0⟩ := by kernel_rfl
theorem smp1_who0 : whoS (smp [-1, 1, -1]) 0 = (65, 0) := by kernel_rfl
theorem smp1_who3 : whoS (smp [-1, 1, -1]) 3 = (199, 0) := by kernel_rfl
theorem smp1_lost : lostS (smp [-1, 1, -1]) 2 = ((0, 2), 0) := by kernel_rfl
theorem smp2_clash : clashS (smp [-1, 4, -1]) = (3, 0) := by kernel_rfl
theorem smp1_clash : clashS (smp [-1, 1, -1]) = (0, 4) := by kernel_rfl
theorem smp3_who : whoS (smp [0, 0, 0]) 3 = (192, 0) := by kernel_rfl
/-- What sample hands back. -/
def RetSm (adm : List Int) (A : Option Addr) (c : Nat) (w : World) (e : Ending) (w' : World) : Prop := ∃ A1 A2, e = .returned (.agg #[.int .i64 4, .slice A1 3 3, .slice A2 3 3, .slice A adm.length c]) ∧ Below w.heap.size w w' ∧ At w' w'.heap.size 3 Loan.cells A1 (smp adm).loans ∧ At w' w'.heap.size 3 Look.cells A2 (smp adm).looks
theorem row_at {α : Type} {W : World} {b size : Nat} {cells : α → List Value} {l : List α} (hs : ∀ x, (cells x).length = size) (h : Bx W b (l.flatMap cells)) : At W W.heap.size size cells (some ⟨b, 0, none⟩) l := fun k x hx => by
  refine ⟨b, 0, rfl, h.lt, fun j u hu => ?_⟩
  rw [Nat.zero_add]
  exact h.c _ _ (flat_get hs l k x j u hx hu)
theorem tale_und : Tryd.prog.underlying 26 = some (.struct (Tryd.prog.fieldsOf 26)) := by kernel_rfl
theorem tale_size : (Tryd.prog.info? 26).map (·.size) = some 4 := by kernel_rfl
set_option maxHeartbeats 1000000 in
theorem sample_any (adm : List Int) (A : Option Addr) (c : Nat) (w : World) : Calls Tryd.prog 29 #[.slice A adm.length c] w (RetSm adm A c w) := by
  go_enter Tryd.func29, Tryd.ntmps29
  go_wp2_with fail
  have n1 := nxA w (.cells #[.int .i64 4, .slice (some ⟨w.heap.size + 1, 0, none⟩) 3 3, .slice (some ⟨w.heap.size + 1 + 1, 0, none⟩) 3 3, .slice A adm.length c] 26)
  have y1 := Bx.new w #[.int .i64 4, .slice (some ⟨w.heap.size + 1, 0, none⟩) 3 3, .slice (some ⟨w.heap.size + 1 + 1, 0, none⟩) 3 3, .slice A adm.length c] 26
  have s1 : (w.alloc (.cells #[.int .i64 4, .slice (some ⟨w.heap.size + 1, 0, none⟩) 3 3, .slice (some ⟨w.heap.size + 1 + 1, 0, none⟩) 3 3, .slice A adm.length c] 26)).heap.size = w.heap.size + 1 := by simp
  generalize w.alloc (.cells #[.int .i64 4, .slice (some ⟨w.heap.size + 1, 0, none⟩) 3 3, .slice (some ⟨w.heap.size + 1 + 1, 0, none⟩) 3 3, .slice A adm.length c] 26) = V1 at *
  have n2 := nxA V1 (.cells #[.int .i64 0, .int .i64 10, .int .i64 20, .int .i64 1, .int .i64 30, .int .i64 40, .int .i64 2, .int .i64 40, .int .i64 60] 44)
  have y2 := Bx.new V1 #[.int .i64 0, .int .i64 10, .int .i64 20, .int .i64 1, .int .i64 30, .int .i64 40, .int .i64 2, .int .i64 40, .int .i64 60] 44
  have s2 : (V1.alloc (.cells #[.int .i64 0, .int .i64 10, .int .i64 20, .int .i64 1, .int .i64 30, .int .i64 40, .int .i64 2, .int .i64 40, .int .i64 60] 44)).heap.size = w.heap.size + 1 + 1 := by simp [s1]
  generalize V1.alloc (.cells #[.int .i64 0, .int .i64 10, .int .i64 20, .int .i64 1, .int .i64 30, .int .i64 40, .int .i64 2, .int .i64 40, .int .i64 60] 44) = V2 at *
  have n3 := nxA V2 (.cells #[.int .i64 10, .int .i64 15, .int .i64 0, .int .i64 25, .int .i64 6, .int .i64 1, .int .i64 60, .int .i64 0, .int .i64 6] 50)
  have y3 := Bx.new V2 #[.int .i64 10, .int .i64 15, .int .i64 0, .int .i64 25, .int .i64 6, .int .i64 1, .int .i64 60, .int .i64 0, .int .i64 6] 50
  generalize V2.alloc (.cells #[.int .i64 10, .int .i64 15, .int .i64 0, .int .i64 25, .int .i64 6, .int .i64 1, .int .i64 60, .int .i64 0, .int .i64 6] 50) = V at *
  rw [s1] at y2
  rw [s2] at y3
  have hB := n1.trans ((n2.trans (n3.mono n2.size)).mono n1.size)
  have x1 := (y1.next n2).next n3
  have x2 := y2.next n3
  refine bodyPost_ret (results_cell1 rfl rfl (run_loadVar_mid _ _ _ _ _ _ x1.range tale_und rfl tale_size)) rfl ?_
  exact ⟨_, _, rfl, hB, row_at (l := (smp adm).loans) (fun _ => rfl) x2, row_at (l := (smp adm).looks) (fun _ => rfl) y3⟩
end Go.Proofs.YtkcfpnpejaekjaaDoor
