import Derived.Test.YtbhkglokdomajaaDoorLaws3
namespace Go.Proofs.YtbhkglokdomajaaDoor
open Go.RowKit
/-! Boxes: a variable that lives in a block of its own. -/
structure Bx (W : World) (b : Nat) (vs : List Value) : Prop where
  lt : b < W.heap.size
  c : ∀ j u, vs[j]? = some u → W.cell? ⟨b, j, none⟩ = some u
  fr : ∀ j, W.frozen? ⟨b, j, none⟩ = false
theorem Bx.new (w : World) (vs : Array Value) (t : TypeId) : Bx (w.alloc (.cells vs t)) w.heap.size vs.toList := by
  refine ⟨by simp, fun j u hu => ?_, fun j => by simp [go_sem]⟩
  rw [cell_of_row _ _ _ _ t (0, 0) (heap_alloc_new w _)]
  simpa using hu
theorem Bx.below {W W' : World} {b B : Nat} {vs : List Value} (h : Bx W b vs) (hb : Below B W W') (hB : b < B) : Bx W' b vs :=
  ⟨Nat.lt_of_lt_of_le h.lt hb.size, fun j u hu => (hb.cell (p := ⟨b, j, none⟩) hB).trans (h.c j u hu), fun j => (hb.frozen (p := ⟨b, j, none⟩) hB).trans (h.fr j)⟩
theorem Bx.next {W W' : World} {b : Nat} {vs : List Value} (h : Bx W b vs) (hb : Below W.heap.size W W') : Bx W' b vs := h.below hb h.lt
theorem Bx.drewN {W : World} {b n : Nat} {vs : List Value} (h : Bx W b vs) : Bx (W.drewN n) b vs := ⟨h.lt, h.c, h.fr⟩
theorem Bx.drew {W : World} {b : Nat} {vs : List Value} (h : Bx W b vs) : Bx W.drew b vs := ⟨h.lt, h.c, h.fr⟩
theorem cell_lt {W : World} {g o : Nat} {v : Value} (h : W.cell? ⟨g, o, none⟩ = some v) : g < W.heap.size := by
  unfold World.cell? at h
  split at h
  · rename_i ho; exact (Array.getElem?_eq_some_iff.1 ho).1
  · cases h
def dieL (d : Die) : List Value := [.slice d.A d.blades.length d.c, .int .i64 d.bound, .int .i64 d.stop, .int .i64 d.bend]
theorem nxA (W : World) (o : Obj) : Below W.heap.size W (W.alloc o) := (Below.refl _ _).alloc (Nat.le_refl _) _
/-- A blade's cells. -/
theorem DieAt.at {W : World} {B : Nat} {d : Die} (h : DieAt W B d) {k : Nat} (hk : k < d.blades.length) : ∃ b off, d.A = some ⟨b, off, none⟩ ∧ b < B ∧ W.cell? ⟨b, off + k * 4, none⟩ = some (.int .i64 (bladeAt d k).fl) ∧ W.cell? ⟨b, off + k * 4 + 1, none⟩ = some (.int .i64 (bladeAt d k).fh) ∧ W.cell? ⟨b, off + k * 4 + 2, none⟩ = some (.int .i64 (bladeAt d k).wl) ∧ W.cell? ⟨b, off + k * 4 + 3, none⟩ = some (.int .i64 (bladeAt d k).wh) := by
  obtain ⟨b, off, e, hb, hc⟩ := h.bl k _ (bladeAt_get hk)
  exact ⟨b, off, e, hb, hc 0 _ rfl, hc 1 _ rfl, hc 2 _ rfl, hc 3 _ rfl⟩
theorem stint_get {l : List Stint} {k : Nat} (hk : k < l.length) : l[k]? = some (l.getD k ⟨0, 0⟩) := by
  rw [List.getD_eq_getElem?_getD, List.getElem?_eq_getElem hk]; rfl
theorem stint_at {W : World} {B : Nat} {A : Option Addr} {l : List Stint} (h : At W B 2 Stint.cells A l) {k : Nat} (hk : k < l.length) : ∃ b off, A = some ⟨b, off, none⟩ ∧ b < B ∧ W.cell? ⟨b, off + k * 2, none⟩ = some (.int .i64 (l.getD k ⟨0, 0⟩).n) ∧ W.cell? ⟨b, off + k * 2 + 1, none⟩ = some (.int .i64 (l.getD k ⟨0, 0⟩).more) := by
  obtain ⟨b, off, e, hb, hc⟩ := h k _ (stint_get hk)
  exact ⟨b, off, e, hb, hc 0 _ rfl, hc 1 _ rfl⟩
theorem int_at {W : World} {B : Nat} {A : Option Addr} {l : List Int} (h : At W B 1 icell A l) {k : Nat} (hk : k < l.length) : ∃ b off, A = some ⟨b, off, none⟩ ∧ b < B ∧ W.cell? ⟨b, off + k, none⟩ = some (.int .i64 (l.getD k 0)) := by
  obtain ⟨b, off, e, hb, hc⟩ := h k (l.getD k 0) (by rw [List.getD_eq_getElem?_getD, List.getElem?_eq_getElem hk]; rfl)
  refine ⟨b, off, e, hb, ?_⟩
  have := hc 0 _ rfl
  rw [Nat.mul_one] at this
  exact this
/-! A variable's cells, set one after the other. -/
def setCells (W : World) (b : Nat) : Nat → List Value → World
  | _, [] => W
  | j, v :: vs => setCells (W.setCell ⟨b, j, none⟩ v) b (j + 1) vs
theorem setCells_size (b : Nat) : ∀ (vs : List Value) (j : Nat) (W : World), (setCells W b j vs).heap.size = W.heap.size
  | [], _, _ => rfl
  | _ :: vs, j, _ => (setCells_size b vs (j + 1) _).trans (World.size_setCell _ _ _)
theorem setCells_cell (b : Nat) : ∀ (vs : List Value) (j : Nat) (W : World) (i : Nat), (∀ k, k < vs.length → (W.cell? ⟨b, j + k, none⟩).isSome = true) → (setCells W b j vs).cell? ⟨b, i, none⟩ = if j ≤ i ∧ i < j + vs.length then vs[i - j]? else W.cell? ⟨b, i, none⟩
  | [], j, W, i, _ => by rw [if_neg (by simp only [List.length_nil]; omega)]; rfl
  | v :: vs, j, W, i, h => by
    have ih := setCells_cell b vs (j + 1) (W.setCell ⟨b, j, none⟩ v) i (fun k hk => by
      rw [World.cell?_setCell_other _ _ _ _ (by intro e; injection e with _ e2; omega)]
      have := h (k + 1) (by simpa using hk)
      rw [show j + (k + 1) = j + 1 + k by omega] at this; exact this)
    show (setCells (W.setCell ⟨b, j, none⟩ v) b (j + 1) vs).cell? ⟨b, i, none⟩ = _
    rw [ih]
    by_cases e : i = j
    · subst e
      rw [if_neg (by omega), if_pos (by simp), Nat.sub_self]
      exact World.cell?_setCell_same' _ _ _ (h 0 (by simp))
    · rw [World.cell?_setCell_other _ _ _ _ (by intro e'; injection e' with _ e2; exact e e2.symm)]
      by_cases h1 : j ≤ i ∧ i < j + (v :: vs).length
      · have h2 : j + 1 ≤ i ∧ i < j + 1 + vs.length := by simp at h1; omega
        rw [if_pos h1, if_pos h2, show i - j = (i - (j + 1)) + 1 by omega]; rfl
      · have h2 : ¬ (j + 1 ≤ i ∧ i < j + 1 + vs.length) := by simp at h1; omega
        rw [if_neg h1, if_neg h2]
theorem setCells_other (b : Nat) : ∀ (vs : List Value) (j : Nat) (W : World) (g i : Nat), g ≠ b → (setCells W b j vs).cell? ⟨g, i, none⟩ = W.cell? ⟨g, i, none⟩
  | [], _, _, _, _, _ => rfl
  | _ :: vs, j, _, g, i, h => (setCells_other b vs (j + 1) _ g i h).trans (World.cell?_setCell_other _ _ _ _ (by intro e; injection e with e; exact h e.symm))
theorem setCells_frozen (b : Nat) : ∀ (vs : List Value) (j : Nat) (W : World) (g i : Nat), (setCells W b j vs).frozen? ⟨g, i, none⟩ = W.frozen? ⟨g, i, none⟩
  | [], _, _, _, _ => rfl
  | _ :: vs, j, _, g, i => (setCells_frozen b vs (j + 1) _ g i).trans (World.frozen?_setCell _ _ _ _)
theorem below_setCells {B : Nat} {V : World} {b : Nat} (hb : B ≤ b) : ∀ (vs : List Value) (j : Nat) {W : World}, Below B V W → Below B V (setCells W b j vs)
  | [], _, _, h => h
  | v :: vs, j, _, h => below_setCells hb vs (j + 1) (h.setCell (p := ⟨b, j, none⟩) hb v)
theorem Bx.setAll {W : World} {b : Nat} {vs : List Value} (h : Bx W b vs) (ws : List Value) (hl : ws.length = vs.length) : Bx (setCells W b 0 ws) b ws := by
  refine ⟨by rw [setCells_size]; exact h.lt, fun j u hu => ?_, fun j => (setCells_frozen b ws 0 W b j).trans (h.fr j)⟩
  have hj : j < ws.length := (List.getElem?_eq_some_iff.1 hu).1
  rw [setCells_cell b ws 0 W j (fun k hk => by
    have hk' : k < vs.length := by omega
    rw [Nat.zero_add, h.c k _ (List.getElem?_eq_getElem hk')]; rfl), if_pos (by omega)]
  exact hu
theorem Bx.set {W : World} {b : Nat} {vs : List Value} (h : Bx W b vs) {k : Nat} (hk : k < vs.length) (v : Value) : Bx (W.setCell ⟨b, k, none⟩ v) b (vs.set k v) := by
  refine ⟨by rw [World.size_setCell]; exact h.lt, fun j u hu => ?_, fun j => by rw [World.frozen?_setCell]; exact h.fr j⟩
  by_cases e : j = k
  · subst e
    rw [List.getElem?_set_self hk] at hu
    injection hu with hu
    subst hu
    exact World.cell?_setCell_same' _ _ _ (by rw [h.c _ _ (List.getElem?_eq_getElem hk)]; rfl)
  · rw [List.getElem?_set_ne (Ne.symm e)] at hu
    rw [World.cell?_setCell_other _ _ _ _ (by intro e'; injection e' with _ e2; exact e e2.symm)]
    exact h.c j u hu
theorem Bx.other {W : World} {b g : Nat} {vs : List Value} (h : Bx W b vs) (hg : b ≠ g) (j : Nat) (v : Value) : Bx (W.setCell ⟨g, j, none⟩ v) b vs :=
  ⟨by rw [World.size_setCell]; exact h.lt, fun i u hu => (World.cell?_setCell_other _ _ _ _ (by intro e; injection e with e; exact hg e.symm)).trans (h.c i u hu), fun i => by rw [World.frozen?_setCell]; exact h.fr i⟩
theorem Bx.setOther {W : World} {b g : Nat} {vs : List Value} (h : Bx W b vs) (hg : b ≠ g) (ws : List Value) (j : Nat) : Bx (setCells W g j ws) b vs :=
  ⟨by rw [setCells_size]; exact h.lt, fun i u hu => (setCells_other g ws j W b i hg).trans (h.c i u hu), fun i => (setCells_frozen g ws j W b i).trans (h.fr i)⟩
/-! What a call hands back whose first result lies in a variable. -/
theorem results_cellA {fn : Func} {p t : Tmp} {ty : TypeId} (h : fn.results = #[.cell p ty, .tmp t]) {tmps : Array Value} {P : Program} {w : World} {a : Addr} {v : Value} (hp : tmps.getD p undef = .pointer (some a)) (hv : (loadVar ty a).run P w = .ok v w) :
    (results fn tmps).run P w = .ok (.tuple #[v, tmps.getD t undef]) w := by
  have hp' : tmps[p]?.getD undef = .pointer (some a) := by simpa using hp
  simp [results, h, hp', asAddr, hv, Result.andThen]
theorem results_cells2 {fn : Func} {p q : Tmp} {ty ty' : TypeId} (h : fn.results = #[.cell p ty, .cell q ty']) {tmps : Array Value} {P : Program} {w : World} {a b : Addr} {v u : Value} (hp : tmps.getD p undef = .pointer (some a)) (hq : tmps.getD q undef = .pointer (some b)) (hv : (loadVar ty a).run P w = .ok v w) (hu : (loadVar ty' b).run P w = .ok u w) :
    (results fn tmps).run P w = .ok (.tuple #[v, u]) w := by
  have hp' : tmps[p]?.getD undef = .pointer (some a) := by simpa using hp
  have hq' : tmps[q]?.getD undef = .pointer (some b) := by simpa using hq
  simp [results, h, hp', hq', asAddr, hv, hu, Result.andThen]
end Go.Proofs.YtbhkglokdomajaaDoor
