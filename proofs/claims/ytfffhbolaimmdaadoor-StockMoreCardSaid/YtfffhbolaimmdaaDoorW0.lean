import Derived.Test.YtfffhbolaimmdaaDoorR4
import Derived.Deep.AppendLies
import Derived.Deep.RegionHeld3
namespace Go.Proofs.YtfffhbolaimmdaaDoor
open Go.RowKit
/-! Lists that a call makes. -/
def tab (n : Nat) (f : Nat → Int) : List Int := (List.range n).map f
def tabV (n : Nat) (f : Nat → Int) : List Value := (List.range n).map fun k => .int .i64 (f k)
theorem tabV_succ (n : Nat) (f : Nat → Int) : tabV (n + 1) f = tabV n f ++ [.int .i64 (f n)] := by simp [tabV, List.range_succ]
theorem length_tab (n : Nat) (f : Nat → Int) : (tab n f).length = n := by simp [tab]
theorem tab_get (n : Nat) (f : Nat → Int) (k : Nat) (x : Int) (h : (tab n f)[k]? = some x) : k < n ∧ x = f k := by
  have hk : k < n := by have := (List.getElem?_eq_some_iff.1 h).1; rw [length_tab] at this; exact this
  refine ⟨hk, ?_⟩
  simp [tab, hk] at h
  exact h.symm
def spv (p : Int × Int) : List Value := [.int .i64 p.1, .int .i64 p.2]
def tab2 (n : Nat) (f : Nat → Int × Int) : List (Int × Int) := (List.range n).map f
def tab2V (n : Nat) (f : Nat → Int × Int) : List Value := (List.range n).flatMap fun k => spv (f k)
theorem tab2V_succ (n : Nat) (f : Nat → Int × Int) : tab2V (n + 1) f = tab2V n f ++ [.int .i64 (f n).1, .int .i64 (f n).2] := by simp [tab2V, List.range_succ, List.flatMap_append, spv]
theorem length_tab2 (n : Nat) (f : Nat → Int × Int) : (tab2 n f).length = n := by simp [tab2]
theorem tab2_get (n : Nat) (f : Nat → Int × Int) (k : Nat) (x : Int × Int) (h : (tab2 n f)[k]? = some x) : k < n ∧ x = f k := by
  have hk : k < n := by have := (List.getElem?_eq_some_iff.1 h).1; rw [length_tab2] at this; exact this
  refine ⟨hk, ?_⟩
  simp [tab2, hk] at h
  exact h.symm
theorem length_tab2V (n : Nat) (f : Nat → Int × Int) : (tab2V n f).length = 2 * n := by
  induction n with
  | zero => rfl
  | succ n ih => rw [tab2V_succ, List.length_append, ih]; simp; omega
theorem tab2V_get {n : Nat} {f : Nat → Int × Int} {k : Nat} (hk : k < n) : (tab2V n f)[k * 2]? = some (.int .i64 (f k).1) ∧ (tab2V n f)[k * 2 + 1]? = some (.int .i64 (f k).2) := by
  induction n with
  | zero => omega
  | succ n ih =>
    rw [tab2V_succ]
    by_cases e : k < n
    · rw [List.getElem?_append_left (by rw [length_tab2V]; omega), List.getElem?_append_left (by rw [length_tab2V]; omega)]
      exact ih e
    · obtain rfl : k = n := by omega
      rw [List.getElem?_append_right (by rw [length_tab2V]; omega), List.getElem?_append_right (by rw [length_tab2V]; omega), length_tab2V]
      rw [show k * 2 - 2 * k = 0 by omega, show k * 2 + 1 - 2 * k = 1 by omega]
      exact ⟨rfl, rfl⟩
theorem own_form {w : World} {base : Nat} {e : TypeId} {size : Nat} {v : Value} {n : Nat} {xs : List Value} (h : w.ownsRow base e size v n xs) :
    ∃ A c, v = .slice A n c ∧ ∀ j u, xs[j]? = some u → ∃ b, A = some ⟨b, 0, none⟩ ∧ base ≤ b ∧ b < w.heap.size ∧ w.cell? ⟨b, j, none⟩ = some u := by
  rcases h.2 with ⟨rfl, rfl⟩ | ⟨g, cap, cur, rfl, hb, hh, hn, hc, hs, hx⟩
  · refine ⟨none, 0, rfl, fun j u hu => ?_⟩
    have hl := h.1
    have : j < xs.length := (List.getElem?_eq_some_iff.1 hu).1
    omega
  · refine ⟨some ⟨g, 0, none⟩, cap, rfl, fun j u hu => ⟨g, rfl, hb, (Array.getElem?_eq_some_iff.1 hh).1, ?_⟩⟩
    have := h.cells (g := g) rfl j u hu
    rw [show ((⟨g, 0, none⟩ : Addr).add j) = ⟨g, j, none⟩ by unfold Addr.add; split <;> simp_all] at this
    exact this
theorem own_tab {w : World} {base : Nat} {e : TypeId} {v : Value} {n : Nat} {f : Nat → Int} (h : w.ownsRow base e 1 v n (tabV n f)) :
    ∃ A c, v = .slice A n c ∧ At w w.heap.size 1 icell A (tab n f) := by
  obtain ⟨A, c, hv, hc⟩ := own_form h
  refine ⟨A, c, hv, fun k x hx => ?_⟩
  obtain ⟨hk, rfl⟩ := tab_get n f k x hx
  obtain ⟨b, hA, _, hb, hcell⟩ := hc k (.int .i64 (f k)) (by simp [tabV, hk])
  refine ⟨b, 0, hA, hb, fun j u hu => ?_⟩
  match j, hu with
  | 0, hu => cases hu; rw [← hcell]; congr 2; omega
theorem own_tab2 {w : World} {base : Nat} {e : TypeId} {v : Value} {n : Nat} {f : Nat → Int × Int} (h : w.ownsRow base e 2 v n (tab2V n f)) :
    ∃ A c, v = .slice A n c ∧ At w w.heap.size 2 spv A (tab2 n f) := by
  obtain ⟨A, c, hv, hc⟩ := own_form h
  refine ⟨A, c, hv, fun k x hx => ?_⟩
  obtain ⟨hk, rfl⟩ := tab2_get n f k x hx
  obtain ⟨b, hA, _, hb, h0⟩ := hc (k * 2) _ (tab2V_get hk).1
  obtain ⟨b', hA', _, _, h1⟩ := hc (k * 2 + 1) _ (tab2V_get hk).2
  rw [hA] at hA'
  injection hA' with hA'
  injection hA' with hA'
  subst hA'
  refine ⟨b, 0, hA, hb, fun j u hu => ?_⟩
  match j, hu with
  | 0, hu => cases hu; rw [← h0]; congr 2; omega
  | 1, hu => cases hu; rw [← h1]; congr 2; omega
/-- The result: a new slice of the n numbers f k. -/
def RetL (n : Nat) (f : Nat → Int) (w : World) (e : Ending) (w' : World) : Prop := ∃ A c, e = .returned (.slice A n c) ∧ At w' w'.heap.size 1 icell A (tab n f) ∧ Below w.heap.size w w'
def RetL1 (n : Nat) (f : Nat → Int) (er : Int) (w : World) (e : Ending) (w' : World) : Prop := ∃ A c, e = .returned (.tuple #[.slice A n c, .int .i64 er]) ∧ At w' w'.heap.size 1 icell A (tab n f) ∧ Below w.heap.size w w'
def RetL2 (n : Nat) (f : Nat → Int × Int) (er : Int) (w : World) (e : Ending) (w' : World) : Prop := ∃ A c, e = .returned (.tuple #[.slice A n c, .int .i64 er]) ∧ At w' w'.heap.size 2 spv A (tab2 n f) ∧ Below w.heap.size w w'
theorem ret_l {w w' : World} {base n : Nat} {e : TypeId} {v : Value} {f : Nat → Int} (h : w'.ownsRow base e 1 v n (tabV n f)) (hb : Below w.heap.size w w') : RetL n f w (.returned v) w' := by
  obtain ⟨A, c, rfl, hc⟩ := own_tab h
  exact ⟨A, c, rfl, hc, hb⟩
theorem ret_l1 {w w' : World} {base n : Nat} {e : TypeId} {v : Value} {f : Nat → Int} {er : Int} (h : w'.ownsRow base e 1 v n (tabV n f)) (hb : Below w.heap.size w w') : RetL1 n f er w (.returned (.tuple #[v, .int .i64 er])) w' := by
  obtain ⟨A, c, rfl, hc⟩ := own_tab h
  exact ⟨A, c, rfl, hc, hb⟩
theorem ret_l2 {w w' : World} {base n : Nat} {e : TypeId} {v : Value} {f : Nat → Int × Int} {er : Int} (h : w'.ownsRow base e 2 v n (tab2V n f)) (hb : Below w.heap.size w w') : RetL2 n f er w (.returned (.tuple #[v, .int .i64 er])) w' := by
  obtain ⟨A, c, rfl, hc⟩ := own_tab2 h
  exact ⟨A, c, rfl, hc, hb⟩
theorem At.nil {α : Type} {w : World} {B size : Nat} {cells : α → List Value} {A : Option Addr} : At w B size cells A ([] : List α) := fun k x h => by simp at h
theorem ret_l1_none {w w' : World} {f : Nat → Int} {er : Int} (hb : Below w.heap.size w w') : RetL1 0 f er w (.returned (.tuple #[.slice none 0 0, .int .i64 er])) w' := ⟨none, 0, rfl, At.nil, hb⟩
theorem ret_l2_none {w w' : World} {f : Nat → Int × Int} {er : Int} (hb : Below w.heap.size w w') : RetL2 0 f er w (.returned (.tuple #[.slice none 0 0, .int .i64 er])) w' := ⟨none, 0, rfl, At.nil, hb⟩
theorem SBox.grown {w w' : World} {b : Nat} {s : Store} {row : Option Nat} (h : SBox w b s) (hg : w.grownBy w' row) (hne : ∀ k, row = some k → b < k) : SBox w' b s := by
  have hk : ∀ o, w'.cell? ⟨b, o, none⟩ = w.cell? ⟨b, o, none⟩ := fun o => World.cell?_of_block (hg.block b h.lt (fun e => by have := hne b e.symm; omega))
  exact ⟨Nat.lt_of_lt_of_le h.lt hg.size, (hk 0).trans h.c0, (hk 1).trans h.c1, (hk 2).trans h.c2, (hk 3).trans h.c3⟩
theorem below_step {B : Nat} {a w w' : World} (h' : Below w.heap.size w w') (h : Below B a w) (hB : B ≤ a.heap.size) : Below B a w' := h.trans (h'.mono (Nat.le_trans hB h.size))
theorem grown_cell {a W : World} {row : Option Nat} (h : a.grownBy W row) {b : Nat} (hb : b < a.heap.size) (hne : row ≠ some b) (o : Nat) : W.cell? ⟨b, o, none⟩ = a.cell? ⟨b, o, none⟩ :=
  World.cell?_of_block (hg' h hb hne)
where hg' {a W : World} {row : Option Nat} (h : a.grownBy W row) {b : Nat} (hb : b < a.heap.size) (hne : row ≠ some b) : W.heap[b]? = a.heap[b]? := h.block b hb (fun e => hne e.symm)
theorem grown_trans {a b c : World} {row : Option Nat} (h : a.grownBy b row) (k : b.grownBy c row) : a.grownBy c row :=
  ⟨k.os.trans h.os, k.tape.trans h.tape, k.output.trans h.output, Nat.le_trans h.size k.size, fun i hi hne => (k.block i (Nat.lt_of_lt_of_le hi h.size) hne).trans (h.block i hi hne)⟩
theorem span_eq3 : Tryd.prog.eqGuardType Tryd.prog.depth 44 = false := by kernel_rfl
theorem span_eq1 : Tryd.prog.underlying 44 = some (.struct (Tryd.prog.fieldsOf 44)) := by kernel_rfl
theorem span_eq2 : Tryd.prog.stoodInHeld 44 = false := by kernel_rfl
theorem span_neq (x1 x2 y1 y2 : Int) (W : World) : (binOp .neq 44 (.agg #[.int .i64 x1, .int .i64 x2]) (.agg #[.int .i64 y1, .int .i64 y2])).run Tryd.prog W = .ok (.bool (!(x1 == y1 && x2 == y2))) W := by
  rw [run_neq_struct, run_equalIn_struct _ _ _ _ _ span_eq1 span_eq2]
  simp [Op.eqFields, go_sem]
  by_cases h1 : x1 = y1 <;> by_cases h2 : x2 = y2 <;> simp [h1, h2]
section
variable {P : Program} {md : Region.Mode} {ops : Array Oper} {Q : Exit → Act → World → Prop} {S : World → Prop}
theorem htake {i : Nat} {oi : Oper} {v : Value} {fuel : Nat} {listed : Array Bool} {a : Act} {w : World} (hi : ops.toList[i]? = some oi)
    (hs : Region.noSelect ops = true) (hf : Region.free md ops listed i = true) (hr : (Region.ready md ops listed).contains i = true)
    (hQ : ∀ c a w, Q (.panic c) (a.put oi.dst v) w → Q (.panic c) a w) (hy : YieldsIf P ops S oi v a) (hS : S w)
    (h : wpAnyH P md ops Q S fuel (listed.setIfInBounds i true) (a.put oi.dst v) w) : wpAnyH P md ops Q S (fuel + 1) listed a w :=
  wpAnyH_take (by simpa using hi) hs hf hr hQ hy hS h
theorem hcons {fuel : Nat} {listed : Array Bool} {a : Act} {w : World} {i : Nat} {o : Oper} {rs : List Nat} (ho : ops.toList[i]? = some o)
    (h : ∀ K' : Act → World → Prop, Shut (∀ a w, S w → (S w → wpAnyH P md ops Q S fuel (listed.setIfInBounds i true) a w) → K' a w) → if Region.wanted o (yielded ops a.tmps) = true then Oper.wp P o a w K' Q else K' (a.put o.dst undef) w)
    (hs : AllReadyH P md ops Q S fuel listed a w rs) : AllReadyH P md ops Q S fuel listed a w (i :: rs) := AllReadyH.cons (by simpa using ho) h hs
end
theorem int_info : (Tryd.prog.info? 3).map (fun i => (i.zero, i.size, i.bytes)) = some (some (.int .i64 0), 1, 8) := by kernel_rfl
theorem span_info : (Tryd.prog.info? 44).map (fun i => (i.zero, i.size, i.bytes)) = some (some (.agg #[.int .i64 0, .int .i64 0]), 2, 16) := by kernel_rfl
end Go.Proofs.YtfffhbolaimmdaaDoor
