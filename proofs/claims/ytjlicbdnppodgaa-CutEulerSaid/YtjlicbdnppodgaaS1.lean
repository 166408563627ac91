import Derived.Test.YtjlicbdnppodgaaS0
import Derived.Deep.AppendLies
import Derived.Deep.RegionHeld3
namespace Go.Proofs.Ytjlicbdnppodgaa
open Go.RowKit
/-! Boxes: a variable that lives in a block of its own. -/
structure Bx (W : World) (b : Nat) (vs : List Value) : Prop where
  lt : b < W.heap.size
  c : ∀ j u, vs[j]? = some u → W.cell? ⟨b, j, none⟩ = some u
  fr : ∀ j, W.frozen? ⟨b, j, none⟩ = false
theorem Bx.new (w : World) (vs : Array Value) (t : TypeId) : Bx (w.alloc (.cells vs t)) w.heap.size vs.toList := by
  refine ⟨by simp, fun j u hu => ?_, fun j => by simp [go_sem]⟩
  rw [cell_of_row _ _ _ _ t (0, 0) (heap_alloc_new w _)]
  simpa using hu
theorem Bx.below {W W' : World} {b B : Nat} {vs : List Value} (h : Bx W b vs) (hb : Below B W W') (hB : b < B) : Bx W' b vs :=
  ⟨Nat.lt_of_lt_of_le h.lt hb.size, fun j u hu => (hb.cell (p := ⟨b, j, none⟩) hB).trans (h.c j u hu), fun j => (hb.frozen (p := ⟨b, j, none⟩) hB).trans (h.fr j)⟩
theorem Bx.next {W W' : World} {b : Nat} {vs : List Value} (h : Bx W b vs) (hb : Below W.heap.size W W') : Bx W' b vs := h.below hb h.lt
theorem Bx.drewN {W : World} {b n : Nat} {vs : List Value} (h : Bx W b vs) : Bx (W.drewN n) b vs := ⟨h.lt, h.c, h.fr⟩
theorem Bx.drew {W : World} {b : Nat} {vs : List Value} (h : Bx W b vs) : Bx W.drew b vs := ⟨h.lt, h.c, h.fr⟩
theorem cell_lt {W : World} {g o : Nat} {v : Value} (h : W.cell? ⟨g, o, none⟩ = some v) : g < W.heap.size := by
  unfold World.cell? at h
  split at h
  · rename_i ho; exact (Array.getElem?_eq_some_iff.1 ho).1
  · cases h
theorem int_at {W : World} {B : Nat} {A : Option Addr} {l : List Int} (h : At W B 1 icell A l) {k : Nat} (hk : k < l.length) : ∃ b off, A = some ⟨b, off, none⟩ ∧ b < B ∧ W.cell? ⟨b, off + k, none⟩ = some (.int .i64 (l.getD k 0)) := by
  obtain ⟨b, off, e, hb, hc⟩ := h k (l.getD k 0) (by rw [List.getD_eq_getElem?_getD, List.getElem?_eq_getElem hk]; rfl)
  refine ⟨b, off, e, hb, ?_⟩
  have := hc 0 _ rfl
  rw [Nat.mul_one] at this
  exact this
/-! A variable's cells, set one after the other. -/
def setCells (W : World) (b : Nat) : Nat → List Value → World
  | _, [] => W
  | j, v :: vs => setCells (W.setCell ⟨b, j, none⟩ v) b (j + 1) vs
theorem setCells_size (b : Nat) : ∀ (vs : List Value) (j : Nat) (W : World), (setCells W b j vs).heap.size = W.heap.size
  | [], _, _ => rfl
  | _ :: vs, j, _ => (setCells_size b vs (j + 1) _).trans (World.size_setCell _ _ _)
theorem setCells_cell (b : Nat) : ∀ (vs : List Value) (j : Nat) (W : World) (i : Nat), (∀ k, k < vs.length → (W.cell? ⟨b, j + k, none⟩).isSome = true) → (setCells W b j vs).cell? ⟨b, i, none⟩ = if j ≤ i ∧ i < j + vs.length then vs[i - j]? else W.cell? ⟨b, i, none⟩
  | [], j, W, i, _ => by rw [if_neg (by simp only [List.length_nil]; omega)]; rfl
  | v :: vs, j, W, i, h => by
    have ih := setCells_cell b vs (j + 1) (W.setCell ⟨b, j, none⟩ v) i (fun k hk => by
      rw [World.cell?_setCell_other _ _ _ _ (by intro e; injection e with _ e2; omega)]
      have := h (k + 1) (by simpa using hk)
      rw [show j + (k + 1) = j + 1 + k by omega] at this; exact this)
    show (setCells (W.setCell ⟨b, j, none⟩ v) b (j + 1) vs).cell? ⟨b, i, none⟩ = _
    rw [ih]
    by_cases e : i = j
    · subst e
      rw [if_neg (by omega), if_pos (by simp), Nat.sub_self]
      exact World.cell?_setCell_same' _ _ _ (h 0 (by simp))
    · rw [World.cell?_setCell_other _ _ _ _ (by intro e'; injection e' with _ e2; exact e e2.symm)]
      by_cases h1 : j ≤ i ∧ i < j + (v :: vs).length
      · have h2 : j + 1 ≤ i ∧ i < j + 1 + vs.length := by simp at h1; omega
        rw [if_pos h1, if_pos h2, show i - j = (i - (j + 1)) + 1 by omega]; rfl
      · have h2 : ¬ (j + 1 ≤ i ∧ i < j + 1 + vs.length) := by simp at h1; omega
        rw [if_neg h1, if_neg h2]
theorem setCells_other (b : Nat) : ∀ (vs : List Value) (j : Nat) (W : World) (g i : Nat), g ≠ b → (setCells W b j vs).cell? ⟨g, i, none⟩ = W.cell? ⟨g, i, none⟩
  | [], _, _, _, _, _ => rfl
  | _ :: vs, j, _, g, i, h => (setCells_other b vs (j + 1) _ g i h).trans (World.cell?_setCell_other _ _ _ _ (by intro e; injection e with e; exact h e.symm))
theorem setCells_frozen (b : Nat) : ∀ (vs : List Value) (j : Nat) (W : World) (g i : Nat), (setCells W b j vs).frozen? ⟨g, i, none⟩ = W.frozen? ⟨g, i, none⟩
  | [], _, _, _, _ => rfl
  | _ :: vs, j, _, g, i => (setCells_frozen b vs (j + 1) _ g i).trans (World.frozen?_setCell _ _ _ _)
theorem below_setCells {B : Nat} {V : World} {b : Nat} (hb : B ≤ b) : ∀ (vs : List Value) (j : Nat) {W : World}, Below B V W → Below B V (setCells W b j vs)
  | [], _, _, h => h
  | v :: vs, j, _, h => below_setCells hb vs (j + 1) (h.setCell (p := ⟨b, j, none⟩) hb v)
theorem Bx.setAll {W : World} {b : Nat} {vs : List Value} (h : Bx W b vs) (ws : List Value) (hl : ws.length = vs.length) : Bx (setCells W b 0 ws) b ws := by
  refine ⟨by rw [setCells_size]; exact h.lt, fun j u hu => ?_, fun j => (setCells_frozen b ws 0 W b j).trans (h.fr j)⟩
  have hj : j < ws.length := (List.getElem?_eq_some_iff.1 hu).1
  rw [setCells_cell b ws 0 W j (fun k hk => by
    have hk' : k < vs.length := by omega
    rw [Nat.zero_add, h.c k _ (List.getElem?_eq_getElem hk')]; rfl), if_pos (by omega)]
  exact hu
theorem Bx.set {W : World} {b : Nat} {vs : List Value} (h : Bx W b vs) {k : Nat} (hk : k < vs.length) (v : Value) : Bx (W.setCell ⟨b, k, none⟩ v) b (vs.set k v) := by
  refine ⟨by rw [World.size_setCell]; exact h.lt, fun j u hu => ?_, fun j => by rw [World.frozen?_setCell]; exact h.fr j⟩
  by_cases e : j = k
  · subst e
    rw [List.getElem?_set_self hk] at hu
    injection hu with hu
    subst hu
    exact World.cell?_setCell_same' _ _ _ (by rw [h.c _ _ (List.getElem?_eq_getElem hk)]; rfl)
  · rw [List.getElem?_set_ne (Ne.symm e)] at hu
    rw [World.cell?_setCell_other _ _ _ _ (by intro e'; injection e' with _ e2; exact e e2.symm)]
    exact h.c j u hu
theorem Bx.other {W : World} {b g : Nat} {vs : List Value} (h : Bx W b vs) (hg : b ≠ g) (j : Nat) (v : Value) : Bx (W.setCell ⟨g, j, none⟩ v) b vs :=
  ⟨by rw [World.size_setCell]; exact h.lt, fun i u hu => (World.cell?_setCell_other _ _ _ _ (by intro e; injection e with e; exact hg e.symm)).trans (h.c i u hu), fun i => by rw [World.frozen?_setCell]; exact h.fr i⟩
theorem Bx.setOther {W : World} {b g : Nat} {vs : List Value} (h : Bx W b vs) (hg : b ≠ g) (ws : List Value) (j : Nat) : Bx (setCells W g j ws) b vs :=
  ⟨by rw [setCells_size]; exact h.lt, fun i u hu => (setCells_other g ws j W b i hg).trans (h.c i u hu), fun i => (setCells_frozen g ws j W b i).trans (h.fr i)⟩
/-! What a call hands back whose first result lies in a variable. -/
theorem results_cellA {fn : Func} {p t : Tmp} {ty : TypeId} (h : fn.results = #[.cell p ty, .tmp t]) {tmps : Array Value} {P : Program} {w : World} {a : Addr} {v : Value} (hp : tmps.getD p undef = .pointer (some a)) (hv : (loadVar ty a).run P w = .ok v w) :
    (results fn tmps).run P w = .ok (.tuple #[v, tmps.getD t undef]) w := by
  have hp' : tmps[p]?.getD undef = .pointer (some a) := by simpa using hp
  simp [results, h, hp', asAddr, hv, Result.andThen]
theorem results_cells2 {fn : Func} {p q : Tmp} {ty ty' : TypeId} (h : fn.results = #[.cell p ty, .cell q ty']) {tmps : Array Value} {P : Program} {w : World} {a b : Addr} {v u : Value} (hp : tmps.getD p undef = .pointer (some a)) (hq : tmps.getD q undef = .pointer (some b)) (hv : (loadVar ty a).run P w = .ok v w) (hu : (loadVar ty' b).run P w = .ok u w) :
    (results fn tmps).run P w = .ok (.tuple #[v, u]) w := by
  have hp' : tmps[p]?.getD undef = .pointer (some a) := by simpa using hp
  have hq' : tmps[q]?.getD undef = .pointer (some b) := by simpa using hq
  simp [results, h, hp', hq', asAddr, hv, hu, Result.andThen]
/-! Lists that a call makes; regions that draw their order. -/
theorem own_form {w : World} {base : Nat} {e : TypeId} {size : Nat} {v : Value} {n : Nat} {xs : List Value} (h : w.ownsRow base e size v n xs) :
    ∃ A c, v = .slice A n c ∧ ∀ j u, xs[j]? = some u → ∃ b, A = some ⟨b, 0, none⟩ ∧ base ≤ b ∧ b < w.heap.size ∧ w.cell? ⟨b, j, none⟩ = some u := by
  rcases h.2 with ⟨rfl, rfl⟩ | ⟨g, cap, cur, rfl, hb, hh, hn, hc, hs, hx⟩
  · refine ⟨none, 0, rfl, fun j u hu => ?_⟩
    have hl := h.1
    have : j < xs.length := (List.getElem?_eq_some_iff.1 hu).1
    omega
  · refine ⟨some ⟨g, 0, none⟩, cap, rfl, fun j u hu => ⟨g, rfl, hb, (Array.getElem?_eq_some_iff.1 hh).1, ?_⟩⟩
    have := h.cells (g := g) rfl j u hu
    rw [show ((⟨g, 0, none⟩ : Addr).add j) = ⟨g, j, none⟩ by unfold Addr.add; split <;> simp_all] at this
    exact this
theorem At.nil {α : Type} {w : World} {B size : Nat} {cells : α → List Value} {A : Option Addr} : At w B size cells A ([] : List α) := fun k x h => by simp at h
theorem below_step {B : Nat} {a w w' : World} (h' : Below w.heap.size w w') (h : Below B a w) (hB : B ≤ a.heap.size) : Below B a w' := h.trans (h'.mono (Nat.le_trans hB h.size))
theorem grown_cell {a W : World} {row : Option Nat} (h : a.grownBy W row) {b : Nat} (hb : b < a.heap.size) (hne : row ≠ some b) (o : Nat) : W.cell? ⟨b, o, none⟩ = a.cell? ⟨b, o, none⟩ :=
  World.cell?_of_block (hg' h hb hne)
where hg' {a W : World} {row : Option Nat} (h : a.grownBy W row) {b : Nat} (hb : b < a.heap.size) (hne : row ≠ some b) : W.heap[b]? = a.heap[b]? := h.block b hb (fun e => hne e.symm)
theorem grown_trans {a b c : World} {row : Option Nat} (h : a.grownBy b row) (k : b.grownBy c row) : a.grownBy c row :=
  ⟨k.os.trans h.os, k.tape.trans h.tape, k.output.trans h.output, Nat.le_trans h.size k.size, fun i hi hne => (k.block i (Nat.lt_of_lt_of_le hi h.size) hne).trans (h.block i hi hne)⟩
section
variable {P : Program} {md : Region.Mode} {ops : Array Oper} {Q : Exit → Act → World → Prop} {S : World → Prop}
theorem htake {i : Nat} {oi : Oper} {v : Value} {fuel : Nat} {listed : Array Bool} {a : Act} {w : World} (hi : ops.toList[i]? = some oi)
    (hs : Region.noSelect ops = true) (hf : Region.free md ops listed i = true) (hr : (Region.ready md ops listed).contains i = true)
    (hQ : ∀ c a w, Q (.panic c) (a.put oi.dst v) w → Q (.panic c) a w) (hy : YieldsIf P ops S oi v a) (hS : S w)
    (h : wpAnyH P md ops Q S fuel (listed.setIfInBounds i true) (a.put oi.dst v) w) : wpAnyH P md ops Q S (fuel + 1) listed a w :=
  wpAnyH_take (by simpa using hi) hs hf hr hQ hy hS h
theorem hcons {fuel : Nat} {listed : Array Bool} {a : Act} {w : World} {i : Nat} {o : Oper} {rs : List Nat} (ho : ops.toList[i]? = some o)
    (h : ∀ K' : Act → World → Prop, Shut (∀ a w, S w → (S w → wpAnyH P md ops Q S fuel (listed.setIfInBounds i true) a w) → K' a w) → if Region.wanted o (yielded ops a.tmps) = true then Oper.wp P o a w K' Q else K' (a.put o.dst undef) w)
    (hs : AllReadyH P md ops Q S fuel listed a w rs) : AllReadyH P md ops Q S fuel listed a w (i :: rs) := AllReadyH.cons (by simpa using ho) h hs
end
theorem int_info : (Try.prog.info? 3).map (fun i => (i.zero, i.size, i.bytes)) = some (some (.int .i64 0), 1, 8) := by kernel_rfl
/-! Lists of lists' cells: what a call has appended, as a slice. -/
theorem flat_get {α : Type} {cells : α → List Value} {size : Nat} (hs : ∀ x, (cells x).length = size) : ∀ (l : List α) (k : Nat) (x : α) (j : Nat) (u : Value), l[k]? = some x → (cells x)[j]? = some u → (l.flatMap cells)[k * size + j]? = some u
  | [], k, x, j, u, h, _ => by simp at h
  | y :: l, 0, x, j, u, h, hu => by
    rw [List.getElem?_cons_zero] at h
    injection h with h
    subst h
    have hj := (List.getElem?_eq_some_iff.1 hu).1
    rw [List.flatMap_cons, Nat.zero_mul, Nat.zero_add, List.getElem?_append_left hj]
    exact hu
  | y :: l, k + 1, x, j, u, h, hu => by
    rw [List.getElem?_cons_succ] at h
    rw [List.flatMap_cons, List.getElem?_append_right (by rw [hs y, Nat.add_mul]; omega), hs y, show (k + 1) * size + j - size = k * size + j by rw [Nat.add_mul]; omega]
    exact flat_get hs l k x j u h hu
theorem own_at {α : Type} {cells : α → List Value} {size : Nat} (hs : ∀ x, (cells x).length = size) (h0 : 0 < size) {w : World} {base : Nat} {e : TypeId} {v : Value} {l : List α} (h : w.ownsRow base e size v l.length (l.flatMap cells)) :
    ∃ A c, v = .slice A l.length c ∧ At w w.heap.size size cells A l := by
  obtain ⟨A, c, rfl, hc⟩ := own_form h
  refine ⟨A, c, rfl, fun k x hx => ?_⟩
  have hp0 : 0 < (cells x).length := by rw [hs x]; exact h0
  have g0 : (cells x)[0]? = some ((cells x)[0]'hp0) := List.getElem?_eq_getElem hp0
  obtain ⟨b, e, -, hb, -⟩ := hc _ _ (flat_get hs l k x 0 _ hx g0)
  refine ⟨b, 0, e, hb, fun j u hu => ?_⟩
  obtain ⟨b', e', -, -, hcell⟩ := hc _ _ (flat_get hs l k x j u hx hu)
  rw [e] at e'
  injection e' with e'
  injection e' with e1
  subst e1
  rw [Nat.zero_add]
  exact hcell
theorem own_apart {w : World} {base base' e e' size size' : Nat} {v v' : Value} {n n' : Nat} {xs xs' : List Value} (h : w.ownsRow base e size v n xs) (h' : w.ownsRow base' e' size' v' n' xs') (he : e ≠ e') : v.ownBlock = none ∨ v.ownBlock ≠ v'.ownBlock := by
  rcases h.2 with ⟨rfl, -⟩ | ⟨g, cap, cur, rfl, -, hh, -⟩
  · exact .inl rfl
  · right
    intro eq
    rcases h'.2 with ⟨rfl, -⟩ | ⟨g', cap', cur', rfl, -, hh', -⟩
    · cases eq
    · injection eq with eq
      simp only at eq
      rw [eq, hh'] at hh
      injection hh with hh
      injection hh with _ h2 _
      exact he h2.symm
theorem Bx.grown {W W' : World} {row : Option Nat} {b : Nat} {vs : List Value} (h : Bx W b vs) (hg : W.grownBy W' row) (hr : row ≠ some b) : Bx W' b vs :=
  have hk := hg.block b h.lt (fun e => hr e.symm)
  ⟨Nat.lt_of_lt_of_le h.lt hg.size, fun j u hu => (World.cell?_of_block (a := ⟨b, j, none⟩) hk).trans (h.c j u hu), fun j => (World.frozen?_of_block (a := ⟨b, j, none⟩) hk).trans (h.fr j)⟩
theorem own_row_ne {w : World} {base b : Nat} {e : TypeId} {size : Nat} {v : Value} {n : Nat} {xs : List Value} (h : w.ownsRow base e size v n xs) (hb : b < base) : v.ownBlock ≠ some b := fun e => by have := (h.lt b e).1; omega
end Go.Proofs.Ytjlicbdnppodgaa
