import Derived.Test.YtonnemkecppmiaaGreatDoorP4
import Derived.Test.YtonnemkecppmiaaGreatDoorPln
import Derived.Test.YtonnemkecppmiaaGreatDoorP3
namespace Go.Proofs.YtonnemkecppmiaaGreatDoor
open Go.RowKit
/-! The package's variables that are read; need; the words of sides; the writer of a side. -/
structure Env (w : World) : Prop where
  sz : 9 ≤ w.heap.size
  mx : ∃ m, w.cell? ⟨0, 0, none⟩ = some (.int .i64 m)
  syn : ∃ t p, w.cell? ⟨1, 0, none⟩ = some (.iface t p)
  rng : ∃ t p, w.cell? ⟨2, 0, none⟩ = some (.iface t p)
  tab : Lib.TabIs Tryz.prog w "internal/strconv.uint64pow10" .u64 Lib.pow10Tab
theorem glob_pow : ∃ g, Tryz.prog.globalNamed "internal/strconv.uint64pow10" = some g ∧ g < 9 := ⟨3, by kernel_rfl, by decide⟩
theorem Env.next {w w' : World} (h : Env w) (hb : Below w.heap.size w w') : Env w' := by
  have h9 := h.sz
  obtain ⟨m, hm⟩ := h.mx
  obtain ⟨t, p, hs⟩ := h.syn
  obtain ⟨t', p', hr⟩ := h.rng
  obtain ⟨g, hg, hg9⟩ := glob_pow
  refine ⟨Nat.le_trans h9 hb.size, ⟨m, (hb.cell (p := ⟨0, 0, none⟩) (by show 0 < _; omega)).trans hm⟩, ⟨t, p, (hb.cell (p := ⟨1, 0, none⟩) (by show 1 < _; omega)).trans hs⟩, ⟨t', p', (hb.cell (p := ⟨2, 0, none⟩) (by show 2 < _; omega)).trans hr⟩, ?_⟩
  have ht := h.tab
  unfold Lib.TabIs World.var? at ht ⊢
  rw [hg] at ht ⊢
  simp only [Option.bind_some] at ht ⊢
  rw [hb.block g (by omega)]
  exact ht
theorem need_true (w : World) : Calls Tryz.prog 40 #[.bool true] w fun e w' => e = .returned (.tuple #[]) ∧ w = w' := by
  go_enter Tryz.func40, Tryz.ntmps40
  go_wp2
  go_end0
  exact ⟨rfl, rfl⟩
def Miss (w : World) (e : Ending) (w' : World) : Prop := e = .panicked [{ v := .iface 129 (.agg #[]), recovered := false }] ∧ Below w.heap.size w w'
theorem need_false (w : World) : Calls Tryz.prog 40 #[.bool false] w (Miss w) := by
  go_enter Tryz.func40, Tryz.ntmps40
  go_wp2
  exact ⟨rfl, rfl, Below.refl _ _⟩
abbrev tx (s : Tx) : Value := .string ⟨s.toArray⟩
theorem results_cell1 {fn : Func} {p : Tmp} {ty : TypeId} (h : fn.results = #[.cell p ty]) {tmps : Array Value} {P : Program} {w : World} {a : Addr} {v : Value} (hp : tmps.getD p undef = .pointer (some a)) (hv : (loadVar ty a).run P w = .ok v w) :
    (results fn tmps).run P w = .ok v w := by
  have hp' : tmps[p]?.getD undef = .pointer (some a) := by simpa using hp
  simp [results, h, hp', asAddr, hv]
theorem blkSet {W : World} {b q : Nat} (h : b ≠ q) (o : Nat) (v : Value) : (W.setCell ⟨b, o, none⟩ v).heap[q]? = W.heap[q]? := by
  unfold World.setCell; rw [Array.getElem?_modify, if_neg (by show ¬ b = q; exact h)]
theorem loadN {w : World} {b : Nat} {a0 a1 a2 : Value} (h : Bx w b [a0, a1, a2]) : (loadVar 139 ⟨b, 0, none⟩).run Tryz.prog w = .ok (.agg #[a0, a1, a2]) w := by
  have c0 := h.c 0 _ rfl
  have c1 := h.c 1 _ rfl
  have c2 := h.c 2 _ rfl
  clear h
  go_simp
theorem names_any (w : World) : Calls Tryz.prog 87 #[] w (Ret (.agg #[tx wFlat, tx wTab, tx wHole]) w) := by
  go_enter Tryz.func87, Tryz.ntmps87
  go_wp2
  ((try simp only [Exit.inBlock, Exit.then]); refine bodyPost_ret (results_cell1 rfl rfl (loadN (Bx.new w #[tx wFlat, tx wTab, tx wHole] 139))) rfl ?_)
  exact ⟨rfl, nxA w _⟩
/-- What sideOf makes of a side. -/
def sideV (e : Ed) : Value := if e.kind = 0 then .iface 154 (.agg #[]) else .iface 155 (.agg #[.int .i64 e.kind, .int .i64 e.a.lo, .int .i64 e.a.hi, .int .i64 e.w.lo, .int .i64 e.w.hi, .int .i64 e.d.lo, .int .i64 e.d.hi])
set_option maxRecDepth 100000 in
theorem sideOf_any (e : Ed) (w : World) : Calls Tryz.prog 75 #[.agg #[.int .i64 e.kind, .int .i64 e.a.lo, .int .i64 e.a.hi, .int .i64 e.w.lo, .int .i64 e.w.hi, .int .i64 e.d.lo, .int .i64 e.d.hi]] w (Ret (sideV e) w) := by
  have HX := Lib.hid (Bx.new w #[.int .i64 e.kind, .int .i64 e.a.lo, .int .i64 e.a.hi, .int .i64 e.w.lo, .int .i64 e.w.hi, .int .i64 e.d.lo, .int .i64 e.d.hi] 48)
  go_enter Tryz.func75, Tryz.ntmps75
  by_cases h : e.kind = 0
  · have hq : (e.kind == 0) = true := by simp [h]
    have hv := Lib.hid (show sideV e = .iface 154 (.agg #[]) by unfold sideV; rw [if_pos h])
    clear h
    go_wp2
    go_ret
    exact ⟨by rw [hv.out]; rfl, nxA w _⟩
  · have hq : (e.kind == 0) = false := by simp [h]
    have hv := Lib.hid (show sideV e = .iface 155 (.agg #[.int .i64 e.kind, .int .i64 e.a.lo, .int .i64 e.a.hi, .int .i64 e.w.lo, .int .i64 e.w.hi, .int .i64 e.d.lo, .int .i64 e.d.hi]) by unfold sideV; rw [if_neg h])
    clear h
    go_wp2
    go_ret
    exact ⟨by rw [hv.out]; rfl, nxA w _⟩
end Go.Proofs.YtonnemkecppmiaaGreatDoor
