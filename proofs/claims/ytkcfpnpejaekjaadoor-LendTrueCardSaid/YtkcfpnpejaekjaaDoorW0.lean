import Derived.Test.YtkcfpnpejaekjaaDoorS0
import Derived.Deep.AppendLies
import Derived.Deep.RegionHeld3
namespace Go.Proofs.YtkcfpnpejaekjaaDoor
open Go.RowKit
/-! Lists that a call makes; regions that draw their order. -/
theorem own_form {w : World} {base : Nat} {e : TypeId} {size : Nat} {v : Value} {n : Nat} {xs : List Value} (h : w.ownsRow base e size v n xs) :
    ∃ A c, v = .slice A n c ∧ ∀ j u, xs[j]? = some u → ∃ b, A = some ⟨b, 0, none⟩ ∧ base ≤ b ∧ b < w.heap.size ∧ w.cell? ⟨b, j, none⟩ = some u := by
  rcases h.2 with ⟨rfl, rfl⟩ | ⟨g, cap, cur, rfl, hb, hh, hn, hc, hs, hx⟩
  · refine ⟨none, 0, rfl, fun j u hu => ?_⟩
    have hl := h.1
    have : j < xs.length := (List.getElem?_eq_some_iff.1 hu).1
    omega
  · refine ⟨some ⟨g, 0, none⟩, cap, rfl, fun j u hu => ⟨g, rfl, hb, (Array.getElem?_eq_some_iff.1 hh).1, ?_⟩⟩
    have := h.cells (g := g) rfl j u hu
    rw [show ((⟨g, 0, none⟩ : Addr).add j) = ⟨g, j, none⟩ by unfold Addr.add; split <;> simp_all] at this
    exact this
theorem At.nil {α : Type} {w : World} {B size : Nat} {cells : α → List Value} {A : Option Addr} : At w B size cells A ([] : List α) := fun k x h => by simp at h
theorem below_step {B : Nat} {a w w' : World} (h' : Below w.heap.size w w') (h : Below B a w) (hB : B ≤ a.heap.size) : Below B a w' := h.trans (h'.mono (Nat.le_trans hB h.size))
theorem grown_cell {a W : World} {row : Option Nat} (h : a.grownBy W row) {b : Nat} (hb : b < a.heap.size) (hne : row ≠ some b) (o : Nat) : W.cell? ⟨b, o, none⟩ = a.cell? ⟨b, o, none⟩ :=
  World.cell?_of_block (hg' h hb hne)
where hg' {a W : World} {row : Option Nat} (h : a.grownBy W row) {b : Nat} (hb : b < a.heap.size) (hne : row ≠ some b) : W.heap[b]? = a.heap[b]? := h.block b hb (fun e => hne e.symm)
theorem grown_trans {a b c : World} {row : Option Nat} (h : a.grownBy b row) (k : b.grownBy c row) : a.grownBy c row :=
  ⟨k.os.trans h.os, k.tape.trans h.tape, k.output.trans h.output, Nat.le_trans h.size k.size, fun i hi hne => (k.block i (Nat.lt_of_lt_of_le hi h.size) hne).trans (h.block i hi hne)⟩
theorem span_eq3 : Tryd.prog.eqGuardType Tryd.prog.depth 33 = false := by kernel_rfl
theorem span_eq1 : Tryd.prog.underlying 33 = some (.struct (Tryd.prog.fieldsOf 33)) := by kernel_rfl
theorem span_eq2 : Tryd.prog.stoodInHeld 33 = false := by kernel_rfl
theorem span_neq (x1 x2 y1 y2 : Int) (W : World) : (binOp .neq 33 (.agg #[.int .i64 x1, .int .i64 x2]) (.agg #[.int .i64 y1, .int .i64 y2])).run Tryd.prog W = .ok (.bool (!(x1 == y1 && x2 == y2))) W := by
  rw [run_neq_struct, run_equalIn_struct _ _ _ _ _ span_eq1 span_eq2]
  simp [Op.eqFields, go_sem]
  by_cases h1 : x1 = y1 <;> by_cases h2 : x2 = y2 <;> simp [h1, h2]
section
variable {P : Program} {md : Region.Mode} {ops : Array Oper} {Q : Exit → Act → World → Prop} {S : World → Prop}
theorem htake {i : Nat} {oi : Oper} {v : Value} {fuel : Nat} {listed : Array Bool} {a : Act} {w : World} (hi : ops.toList[i]? = some oi)
    (hs : Region.noSelect ops = true) (hf : Region.free md ops listed i = true) (hr : (Region.ready md ops listed).contains i = true)
    (hQ : ∀ c a w, Q (.panic c) (a.put oi.dst v) w → Q (.panic c) a w) (hy : YieldsIf P ops S oi v a) (hS : S w)
    (h : wpAnyH P md ops Q S fuel (listed.setIfInBounds i true) (a.put oi.dst v) w) : wpAnyH P md ops Q S (fuel + 1) listed a w :=
  wpAnyH_take (by simpa using hi) hs hf hr hQ hy hS h
theorem hcons {fuel : Nat} {listed : Array Bool} {a : Act} {w : World} {i : Nat} {o : Oper} {rs : List Nat} (ho : ops.toList[i]? = some o)
    (h : ∀ K' : Act → World → Prop, Shut (∀ a w, S w → (S w → wpAnyH P md ops Q S fuel (listed.setIfInBounds i true) a w) → K' a w) → if Region.wanted o (yielded ops a.tmps) = true then Oper.wp P o a w K' Q else K' (a.put o.dst undef) w)
    (hs : AllReadyH P md ops Q S fuel listed a w rs) : AllReadyH P md ops Q S fuel listed a w (i :: rs) := AllReadyH.cons (by simpa using ho) h hs
end
theorem int_info : (Tryd.prog.info? 3).map (fun i => (i.zero, i.size, i.bytes)) = some (some (.int .i64 0), 1, 8) := by kernel_rfl
theorem span_info : (Tryd.prog.info? 33).map (fun i => (i.zero, i.size, i.bytes)) = some (some (.agg #[.int .i64 0, .int .i64 0]), 2, 16) := by kernel_rfl
end Go.Proofs.YtkcfpnpejaekjaaDoor
