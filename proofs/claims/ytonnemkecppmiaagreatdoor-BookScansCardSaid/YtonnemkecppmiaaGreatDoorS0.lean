import Derived.Test.YtonnemkecppmiaaGreatDoorRows
import Derived.WalkKit
import Derived.WalkSpells
import Derived.WalkLawsBesides
import Derived.Lib.Hide
import Derived.BigQuiet
import Derived.Deep.QuietTactic
import Derived.Deep.AppendLies
import Derived.Deep.RegionHeld3
import Derived.Laws.AppendOwn
import Derived.Maps.AppendAt
import Derived.Deep.DeepCutAuto
import Derived.Deep.CutRange
namespace Go.Proofs.YtonnemkecppmiaaGreatDoor
open Go.RowKit
/-! Words for memory. -/
def Ret (v : Value) (w : World) (e : Ending) (w' : World) : Prop := e = .returned v ∧ Below w.heap.size w w'
def RetQ (v : Value) (w : World) (e : Ending) (w' : World) : Prop := e = .returned v ∧ w = w'
theorem qq {P : Program} {f : FuncId} {args : Array Value} {w : World} {n : Nat} {v : Value}
    (h : Calls P f args (w.drewN n) (RetQ v (w.drewN n))) : Calls P f args (w.drewN n) fun e w'' => e = .returned v ∧ ∃ m, w'' = w.drewN m :=
  h.mono fun _ _ ⟨he, hm⟩ => ⟨he, n, hm.symm⟩
theorem qqa {P : Program} {f : FuncId} {args : Array Value} {w : World} {a n : Nat} {v : Value}
    (h : Calls P f args (w.drewN (a + n)) (RetQ v (w.drewN (a + n)))) : Calls P f args (w.drewN (a + n)) fun e w'' => e = .returned v ∧ ∃ m, w'' = w.drewN (a + m) :=
  h.mono fun _ _ ⟨he, hm⟩ => ⟨he, n, hm.symm⟩
theorem chain2 (a b : Bool) : a = false ∨ (a = true ∧ b = false) ∨ (a = true ∧ b = true) := by cases a <;> cases b <;> simp
theorem chain3 (a b c : Bool) : a = false ∨ (a = true ∧ b = false) ∨ (a = true ∧ b = true ∧ c = false) ∨ (a = true ∧ b = true ∧ c = true) := by cases a <;> cases b <;> cases c <;> simp
theorem chain4 (a b c d : Bool) : a = false ∨ (a = true ∧ b = false) ∨ (a = true ∧ b = true ∧ c = false) ∨ (a = true ∧ b = true ∧ c = true ∧ d = false) ∨ (a = true ∧ b = true ∧ c = true ∧ d = true) := by cases a <;> cases b <;> cases c <;> cases d <;> simp
theorem chain5 (a b c d e : Bool) : a = false ∨ (a = true ∧ b = false) ∨ (a = true ∧ b = true ∧ c = false) ∨ (a = true ∧ b = true ∧ c = true ∧ d = false) ∨ (a = true ∧ b = true ∧ c = true ∧ d = true ∧ e = false) ∨ (a = true ∧ b = true ∧ c = true ∧ d = true ∧ e = true) := by cases a <;> cases b <;> cases c <;> cases d <;> cases e <;> simp
theorem retq_bool {a b : Bool} {w : World} (h : a = b) : RetQ (.bool b) w (.returned (.bool a)) w := ⟨by rw [h], rfl⟩
theorem retq_int {k : IntKind} {a b : Int} {w : World} (h : a = b) : RetQ (.int k b) w (.returned (.int k a)) w := ⟨by rw [h], rfl⟩
theorem ret_bool {a b : Bool} {w w' : World} (h : a = b) (hb : Below w.heap.size w w') : Ret (.bool b) w (.returned (.bool a)) w' := ⟨by rw [h], hb⟩
theorem ret_int {k : IntKind} {a b : Int} {w w' : World} (h : a = b) (hb : Below w.heap.size w w') : Ret (.int k b) w (.returned (.int k a)) w' := ⟨by rw [h], hb⟩
theorem bcell {W w1 : World} (hb : Below W.heap.size W w1) : (∀ b o, b < W.heap.size → w1.cell? ⟨b, o, none⟩ = W.cell? ⟨b, o, none⟩) ∧ (∀ b o, b < W.heap.size → w1.frozen? ⟨b, o, none⟩ = W.frozen? ⟨b, o, none⟩) :=
  ⟨fun b o h => hb.cell (p := ⟨b, o, none⟩) h, fun b o h => hb.frozen (p := ⟨b, o, none⟩) h⟩
/-- A slice at A whose k-th element's cells are `cells x`, x the k-th of l; all below block B. -/
def At {α : Type} (w : World) (B size : Nat) (cells : α → List Value) (A : Option Addr) (l : List α) : Prop :=
  ∀ k x, l[k]? = some x → ∃ b off, A = some ⟨b, off, none⟩ ∧ b < B ∧ ∀ j u, (cells x)[j]? = some u → w.cell? ⟨b, off + k * size + j, none⟩ = some u
theorem At.keep {α : Type} {w w' : World} {B size : Nat} {cells : α → List Value} {A : Option Addr} {l : List α} (h : At w B size cells A l)
    (hk : ∀ b o, b < B → w'.cell? ⟨b, o, none⟩ = w.cell? ⟨b, o, none⟩) : At w' B size cells A l := fun k x hx => by
  obtain ⟨b, off, e, hb, hc⟩ := h k x hx
  exact ⟨b, off, e, hb, fun j u hu => (hk b _ hb).trans (hc j u hu)⟩
theorem At.below {α : Type} {w w' : World} {B size : Nat} {cells : α → List Value} {A : Option Addr} {l : List α} (h : At w B size cells A l)
    (hb : Below B w w') : At w' B size cells A l := h.keep fun b o hk => hb.cell (p := ⟨b, o, none⟩) hk
theorem At.more {α : Type} {w : World} {B B' size : Nat} {cells : α → List Value} {A : Option Addr} {l : List α} (h : At w B size cells A l)
    (hb : B ≤ B') : At w B' size cells A l := fun k x hx => by
  obtain ⟨b, off, e, hk, hc⟩ := h k x hx
  exact ⟨b, off, e, Nat.lt_of_lt_of_le hk hb, hc⟩
theorem below_drewN {B : Nat} {a w : World} (h : Below B a w) (n : Nat) : Below B a (w.drewN n) := ⟨h.os, h.tape, h.output, h.size, h.block⟩
theorem only_of_below {a w : World} (h : Below a.heap.size a w) (row : Option Nat) : a.grownBy w row := ⟨h.os, h.tape, h.output, h.size, fun i hi _ => h.block i hi⟩
theorem own_below {w w' : World} {base : Nat} {e : TypeId} {size : Nat} {v : Value} {n : Nat} {xs : List Value} (h : w.ownsRow base e size v n xs) (hb : Below w.heap.size w w') : w'.ownsRow base e size v n xs :=
  h.kept (only_of_below hb none) (by cases v.ownBlock <;> simp)
theorem all_step {α : Type} {l : List α} {p : α → Bool} {k : Nat} (hk : k < l.length) (h : (l.take k).all p = true) (hp : p l[k] = true) : (l.take (k + 1)).all p = true := by
  rw [List.take_succ_eq_append_getElem hk]; simp only [List.all_append, h, List.all_cons, hp, List.all_nil, Bool.and_self]
theorem all_fail {α : Type} {l : List α} {p : α → Bool} {k : Nat} (hk : k < l.length) (hp : p l[k] = false) : l.all p = false := by
  rw [List.all_eq_false]; exact ⟨_, List.getElem_mem hk, by simp [hp]⟩
theorem all_full {α : Type} {l : List α} {p : α → Bool} {k : Nat} (hk : ¬ k < l.length) (h : (l.take k).all p = true) : l.all p = true := by
  rw [List.take_of_length_le (by omega)] at h; exact h
/-- A block of n ints of the call's own. -/
structure IBlk (w : World) (g n : Nat) (f : Nat → Int) : Prop where
  lt : g < w.heap.size
  cell : ∀ j, j < n → w.cell? ⟨g, j, none⟩ = some (.int .i64 (f j))
  free : ∀ j, w.frozen? ⟨g, j, none⟩ = false
theorem IBlk.below {w w' : World} {B g n : Nat} {f : Nat → Int} (h : IBlk w g n f) (hb : Below B w w') (hg : g < B) : IBlk w' g n f :=
  ⟨Nat.lt_of_lt_of_le h.lt hb.size, fun j hj => (hb.cell (p := ⟨g, j, none⟩) hg).trans (h.cell j hj), fun j => (hb.frozen (p := ⟨g, j, none⟩) hg).trans (h.free j)⟩
theorem IBlk.next {w w' : World} {g n : Nat} {f : Nat → Int} (h : IBlk w g n f) (hb : Below w.heap.size w w') : IBlk w' g n f := h.below hb h.lt
theorem IBlk.set_ {w : World} {g n : Nat} {f f' : Nat → Int} (h : IBlk w g n f) {j : Nat} {x : Int} (hj : j < n) (hx : f' j = x) (ho : ∀ i, i ≠ j → f' i = f i) : IBlk (w.setCell ⟨g, j, none⟩ (.int .i64 x)) g n f' := by
  refine ⟨by simpa [World.setCell] using h.lt, fun i hi => ?_, fun i => by rw [World.frozen?_setCell]; exact h.free i⟩
  by_cases e : i = j
  · subst e
    rw [hx]
    exact World.cell?_setCell_same' _ _ _ (by rw [h.cell i hi]; rfl)
  · rw [World.cell?_setCell_other _ _ _ _ (by intro e'; injection e' with _ e2; exact e e2.symm), h.cell i hi, ho i e]
theorem IBlk.alloc {w : World} {g n : Nat} {f : Nat → Int} (h : IBlk w g n f) (o : Obj) : IBlk (w.alloc o) g n f := h.next ((Below.refl _ _).alloc (Nat.le_refl _) _)
theorem IBlk.drew {w : World} {g n : Nat} {f : Nat → Int} (h : IBlk w g n f) : IBlk w.drew g n f := ⟨h.lt, h.cell, h.free⟩
theorem IBlk.drewN {w : World} {g n k : Nat} {f : Nat → Int} (h : IBlk w g n f) : IBlk (w.drewN k) g n f := ⟨h.lt, h.cell, h.free⟩
def zeros (n : Nat) : Array Value := madeCells #[.int .i64 0] n
theorem IBlk.zeros (w : World) (n : Nat) (t : TypeId) : IBlk (w.alloc (.cells (zeros n) t)) w.heap.size n (fun _ => 0) := by
  refine ⟨by simp, fun j hj => ?_, fun j => by simp [go_sem]⟩
  have h1 : (Go.Proofs.YtonnemkecppmiaaGreatDoor.zeros n).toList = List.replicate n (.int .i64 0) := toList_madeCells_one _ _
  have h2 : (Go.Proofs.YtonnemkecppmiaaGreatDoor.zeros n)[j]? = some (.int .i64 0) := by
    rw [← Array.getElem?_toList, h1, List.getElem?_replicate, if_pos hj]
  rw [← h2]
  exact cell_of_row _ _ _ _ t (0, 0) (heap_alloc_new w _)
def icell (n : Int) : List Value := [.int .i64 n]
/-! Lists. -/
theorem At.next {α : Type} {w w' : World} {size : Nat} {cells : α → List Value} {A : Option Addr} {l : List α} (h : At w w.heap.size size cells A l) (hb : Below w.heap.size w w') : At w' w'.heap.size size cells A l := (h.below hb).more hb.size
theorem nxA (W : World) (o : Obj) : Below W.heap.size W (W.alloc o) := (Below.refl _ _).alloc (Nat.le_refl _) _
theorem int_at {W : World} {B : Nat} {A : Option Addr} {l : List Int} (h : At W B 1 icell A l) {k : Nat} (hk : k < l.length) : ∃ b off, A = some ⟨b, off, none⟩ ∧ b < B ∧ W.cell? ⟨b, off + k, none⟩ = some (.int .i64 (l.getD k 0)) := by
  obtain ⟨b, off, e, hb, hc⟩ := h k (l.getD k 0) (by rw [List.getD_eq_getElem?_getD, List.getElem?_eq_getElem hk]; rfl)
  refine ⟨b, off, e, hb, ?_⟩
  have := hc 0 _ rfl
  rw [Nat.mul_one] at this
  exact this
/-! Boxes: a variable that lives in a block of its own. -/
structure Bx (W : World) (b : Nat) (vs : List Value) : Prop where
  lt : b < W.heap.size
  c : ∀ j u, vs[j]? = some u → W.cell? ⟨b, j, none⟩ = some u
  fr : ∀ j, W.frozen? ⟨b, j, none⟩ = false
theorem Bx.new (w : World) (vs : Array Value) (t : TypeId) : Bx (w.alloc (.cells vs t)) w.heap.size vs.toList := by
  refine ⟨by simp, fun j u hu => ?_, fun j => by simp [go_sem]⟩
  rw [cell_of_row _ _ _ _ t (0, 0) (heap_alloc_new w _)]
  simpa using hu
theorem Bx.below {W W' : World} {b B : Nat} {vs : List Value} (h : Bx W b vs) (hb : Below B W W') (hB : b < B) : Bx W' b vs :=
  ⟨Nat.lt_of_lt_of_le h.lt hb.size, fun j u hu => (hb.cell (p := ⟨b, j, none⟩) hB).trans (h.c j u hu), fun j => (hb.frozen (p := ⟨b, j, none⟩) hB).trans (h.fr j)⟩
theorem Bx.next {W W' : World} {b : Nat} {vs : List Value} (h : Bx W b vs) (hb : Below W.heap.size W W') : Bx W' b vs := h.below hb h.lt
theorem Bx.drewN {W : World} {b n : Nat} {vs : List Value} (h : Bx W b vs) : Bx (W.drewN n) b vs := ⟨h.lt, h.c, h.fr⟩
theorem Bx.drew {W : World} {b : Nat} {vs : List Value} (h : Bx W b vs) : Bx W.drew b vs := ⟨h.lt, h.c, h.fr⟩
theorem cell_lt {W : World} {g o : Nat} {v : Value} (h : W.cell? ⟨g, o, none⟩ = some v) : g < W.heap.size := by
  unfold World.cell? at h
  split at h
  · rename_i ho; exact (Array.getElem?_eq_some_iff.1 ho).1
  · cases h
/-! A variable's cells, set one after the other. -/
def setCells (W : World) (b : Nat) : Nat → List Value → World
  | _, [] => W
  | j, v :: vs => setCells (W.setCell ⟨b, j, none⟩ v) b (j + 1) vs
theorem setCells_size (b : Nat) : ∀ (vs : List Value) (j : Nat) (W : World), (setCells W b j vs).heap.size = W.heap.size
  | [], _, _ => rfl
  | _ :: vs, j, _ => (setCells_size b vs (j + 1) _).trans (World.size_setCell _ _ _)
theorem setCells_cell (b : Nat) : ∀ (vs : List Value) (j : Nat) (W : World) (i : Nat), (∀ k, k < vs.length → (W.cell? ⟨b, j + k, none⟩).isSome = true) → (setCells W b j vs).cell? ⟨b, i, none⟩ = if j ≤ i ∧ i < j + vs.length then vs[i - j]? else W.cell? ⟨b, i, none⟩
  | [], j, W, i, _ => by rw [if_neg (by simp only [List.length_nil]; omega)]; rfl
  | v :: vs, j, W, i, h => by
    have ih := setCells_cell b vs (j + 1) (W.setCell ⟨b, j, none⟩ v) i (fun k hk => by
      rw [World.cell?_setCell_other _ _ _ _ (by intro e; injection e with _ e2; omega)]
      have := h (k + 1) (by simpa using hk)
      rw [show j + (k + 1) = j + 1 + k by omega] at this; exact this)
    show (setCells (W.setCell ⟨b, j, none⟩ v) b (j + 1) vs).cell? ⟨b, i, none⟩ = _
    rw [ih]
    by_cases e : i = j
    · subst e
      rw [if_neg (by omega), if_pos (by simp), Nat.sub_self]
      exact World.cell?_setCell_same' _ _ _ (h 0 (by simp))
    · rw [World.cell?_setCell_other _ _ _ _ (by intro e'; injection e' with _ e2; exact e e2.symm)]
      by_cases h1 : j ≤ i ∧ i < j + (v :: vs).length
      · have h2 : j + 1 ≤ i ∧ i < j + 1 + vs.length := by simp at h1; omega
        rw [if_pos h1, if_pos h2, show i - j = (i - (j + 1)) + 1 by omega]; rfl
      · have h2 : ¬ (j + 1 ≤ i ∧ i < j + 1 + vs.length) := by simp at h1; omega
        rw [if_neg h1, if_neg h2]
theorem setCells_other (b : Nat) : ∀ (vs : List Value) (j : Nat) (W : World) (g i : Nat), g ≠ b → (setCells W b j vs).cell? ⟨g, i, none⟩ = W.cell? ⟨g, i, none⟩
  | [], _, _, _, _, _ => rfl
  | _ :: vs, j, _, g, i, h => (setCells_other b vs (j + 1) _ g i h).trans (World.cell?_setCell_other _ _ _ _ (by intro e; injection e with e; exact h e.symm))
theorem setCells_frozen (b : Nat) : ∀ (vs : List Value) (j : Nat) (W : World) (g i : Nat), (setCells W b j vs).frozen? ⟨g, i, none⟩ = W.frozen? ⟨g, i, none⟩
  | [], _, _, _, _ => rfl
  | _ :: vs, j, _, g, i => (setCells_frozen b vs (j + 1) _ g i).trans (World.frozen?_setCell _ _ _ _)
theorem below_setCells {B : Nat} {V : World} {b : Nat} (hb : B ≤ b) : ∀ (vs : List Value) (j : Nat) {W : World}, Below B V W → Below B V (setCells W b j vs)
  | [], _, _, h => h
  | v :: vs, j, _, h => below_setCells hb vs (j + 1) (h.setCell (p := ⟨b, j, none⟩) hb v)
theorem Bx.setAll {W : World} {b : Nat} {vs : List Value} (h : Bx W b vs) (ws : List Value) (hl : ws.length = vs.length) : Bx (setCells W b 0 ws) b ws := by
  refine ⟨by rw [setCells_size]; exact h.lt, fun j u hu => ?_, fun j => (setCells_frozen b ws 0 W b j).trans (h.fr j)⟩
  have hj : j < ws.length := (List.getElem?_eq_some_iff.1 hu).1
  rw [setCells_cell b ws 0 W j (fun k hk => by
    have hk' : k < vs.length := by omega
    rw [Nat.zero_add, h.c k _ (List.getElem?_eq_getElem hk')]; rfl), if_pos (by omega)]
  exact hu
theorem Bx.set {W : World} {b : Nat} {vs : List Value} (h : Bx W b vs) {k : Nat} (hk : k < vs.length) (v : Value) : Bx (W.setCell ⟨b, k, none⟩ v) b (vs.set k v) := by
  refine ⟨by rw [World.size_setCell]; exact h.lt, fun j u hu => ?_, fun j => by rw [World.frozen?_setCell]; exact h.fr j⟩
  by_cases e : j = k
  · subst e
    rw [List.getElem?_set_self hk] at hu
    injection hu with hu
    subst hu
    exact World.cell?_setCell_same' _ _ _ (by rw [h.c _ _ (List.getElem?_eq_getElem hk)]; rfl)
  · rw [List.getElem?_set_ne (Ne.symm e)] at hu
    rw [World.cell?_setCell_other _ _ _ _ (by intro e'; injection e' with _ e2; exact e e2.symm)]
    exact h.c j u hu
theorem Bx.other {W : World} {b g : Nat} {vs : List Value} (h : Bx W b vs) (hg : b ≠ g) (j : Nat) (v : Value) : Bx (W.setCell ⟨g, j, none⟩ v) b vs :=
  ⟨by rw [World.size_setCell]; exact h.lt, fun i u hu => (World.cell?_setCell_other _ _ _ _ (by intro e; injection e with e; exact hg e.symm)).trans (h.c i u hu), fun i => by rw [World.frozen?_setCell]; exact h.fr i⟩
theorem Bx.setOther {W : World} {b g : Nat} {vs : List Value} (h : Bx W b vs) (hg : b ≠ g) (ws : List Value) (j : Nat) : Bx (setCells W g j ws) b vs :=
  ⟨by rw [setCells_size]; exact h.lt, fun i u hu => (setCells_other g ws j W b i hg).trans (h.c i u hu), fun i => (setCells_frozen g ws j W b i).trans (h.fr i)⟩
/-! What a call hands back whose first result lies in a variable. -/
theorem results_cellA {fn : Func} {p t : Tmp} {ty : TypeId} (h : fn.results = #[.cell p ty, .tmp t]) {tmps : Array Value} {P : Program} {w : World} {a : Addr} {v : Value} (hp : tmps.getD p undef = .pointer (some a)) (hv : (loadVar ty a).run P w = .ok v w) :
    (results fn tmps).run P w = .ok (.tuple #[v, tmps.getD t undef]) w := by
  have hp' : tmps[p]?.getD undef = .pointer (some a) := by simpa using hp
  simp [results, h, hp', asAddr, hv, Result.andThen]
theorem results_cells2 {fn : Func} {p q : Tmp} {ty ty' : TypeId} (h : fn.results = #[.cell p ty, .cell q ty']) {tmps : Array Value} {P : Program} {w : World} {a b : Addr} {v u : Value} (hp : tmps.getD p undef = .pointer (some a)) (hq : tmps.getD q undef = .pointer (some b)) (hv : (loadVar ty a).run P w = .ok v w) (hu : (loadVar ty' b).run P w = .ok u w) :
    (results fn tmps).run P w = .ok (.tuple #[v, u]) w := by
  have hp' : tmps[p]?.getD undef = .pointer (some a) := by simpa using hp
  have hq' : tmps[q]?.getD undef = .pointer (some b) := by simpa using hq
  simp [results, h, hp', hq', asAddr, hv, hu, Result.andThen]
/-! Lists that a call makes; regions that draw their order. -/
theorem own_form {w : World} {base : Nat} {e : TypeId} {size : Nat} {v : Value} {n : Nat} {xs : List Value} (h : w.ownsRow base e size v n xs) :
    ∃ A c, v = .slice A n c ∧ ∀ j u, xs[j]? = some u → ∃ b, A = some ⟨b, 0, none⟩ ∧ base ≤ b ∧ b < w.heap.size ∧ w.cell? ⟨b, j, none⟩ = some u := by
  rcases h.2 with ⟨rfl, rfl⟩ | ⟨g, cap, cur, rfl, hb, hh, hn, hc, hs, hx⟩
  · refine ⟨none, 0, rfl, fun j u hu => ?_⟩
    have hl := h.1
    have : j < xs.length := (List.getElem?_eq_some_iff.1 hu).1
    omega
  · refine ⟨some ⟨g, 0, none⟩, cap, rfl, fun j u hu => ⟨g, rfl, hb, (Array.getElem?_eq_some_iff.1 hh).1, ?_⟩⟩
    have := h.cells (g := g) rfl j u hu
    rw [show ((⟨g, 0, none⟩ : Addr).add j) = ⟨g, j, none⟩ by unfold Addr.add; split <;> simp_all] at this
    exact this
theorem At.nil {α : Type} {w : World} {B size : Nat} {cells : α → List Value} {A : Option Addr} : At w B size cells A ([] : List α) := fun k x h => by simp at h
theorem below_step {B : Nat} {a w w' : World} (h' : Below w.heap.size w w') (h : Below B a w) (hB : B ≤ a.heap.size) : Below B a w' := h.trans (h'.mono (Nat.le_trans hB h.size))
theorem grown_cell {a W : World} {row : Option Nat} (h : a.grownBy W row) {b : Nat} (hb : b < a.heap.size) (hne : row ≠ some b) (o : Nat) : W.cell? ⟨b, o, none⟩ = a.cell? ⟨b, o, none⟩ :=
  World.cell?_of_block (hg' h hb hne)
where hg' {a W : World} {row : Option Nat} (h : a.grownBy W row) {b : Nat} (hb : b < a.heap.size) (hne : row ≠ some b) : W.heap[b]? = a.heap[b]? := h.block b hb (fun e => hne e.symm)
theorem grown_trans {a b c : World} {row : Option Nat} (h : a.grownBy b row) (k : b.grownBy c row) : a.grownBy c row :=
  ⟨k.os.trans h.os, k.tape.trans h.tape, k.output.trans h.output, Nat.le_trans h.size k.size, fun i hi hne => (k.block i (Nat.lt_of_lt_of_le hi h.size) hne).trans (h.block i hi hne)⟩
theorem span_eq3 : Tryz.prog.eqGuardType Tryz.prog.depth 23 = false := by kernel_rfl
theorem span_eq1 : Tryz.prog.underlying 23 = some (.struct (Tryz.prog.fieldsOf 23)) := by kernel_rfl
theorem span_eq2 : Tryz.prog.stoodInHeld 23 = false := by kernel_rfl
theorem span_neq (x1 x2 y1 y2 : Int) (W : World) : (binOp .neq 23 (.agg #[.int .i64 x1, .int .i64 x2]) (.agg #[.int .i64 y1, .int .i64 y2])).run Tryz.prog W = .ok (.bool (!(x1 == y1 && x2 == y2))) W := by
  rw [run_neq_struct, run_equalIn_struct _ _ _ _ _ span_eq1 span_eq2]
  simp [Op.eqFields, go_sem]
  by_cases h1 : x1 = y1 <;> by_cases h2 : x2 = y2 <;> simp [h1, h2]
section
variable {P : Program} {md : Region.Mode} {ops : Array Oper} {Q : Exit → Act → World → Prop} {S : World → Prop}
theorem htake {i : Nat} {oi : Oper} {v : Value} {fuel : Nat} {listed : Array Bool} {a : Act} {w : World} (hi : ops.toList[i]? = some oi)
    (hs : Region.noSelect ops = true) (hf : Region.free md ops listed i = true) (hr : (Region.ready md ops listed).contains i = true)
    (hQ : ∀ c a w, Q (.panic c) (a.put oi.dst v) w → Q (.panic c) a w) (hy : YieldsIf P ops S oi v a) (hS : S w)
    (h : wpAnyH P md ops Q S fuel (listed.setIfInBounds i true) (a.put oi.dst v) w) : wpAnyH P md ops Q S (fuel + 1) listed a w :=
  wpAnyH_take (by simpa using hi) hs hf hr hQ hy hS h
theorem hcons {fuel : Nat} {listed : Array Bool} {a : Act} {w : World} {i : Nat} {o : Oper} {rs : List Nat} (ho : ops.toList[i]? = some o)
    (h : ∀ K' : Act → World → Prop, Shut (∀ a w, S w → (S w → wpAnyH P md ops Q S fuel (listed.setIfInBounds i true) a w) → K' a w) → if Region.wanted o (yielded ops a.tmps) = true then Oper.wp P o a w K' Q else K' (a.put o.dst undef) w)
    (hs : AllReadyH P md ops Q S fuel listed a w rs) : AllReadyH P md ops Q S fuel listed a w (i :: rs) := AllReadyH.cons (by simpa using ho) h hs
end
theorem int_info : (Tryz.prog.info? 3).map (fun i => (i.zero, i.size, i.bytes)) = some (some (.int .i64 0), 1, 8) := by kernel_rfl
theorem span_info : (Tryz.prog.info? 23).map (fun i => (i.zero, i.size, i.bytes)) = some (some (.agg #[.int .i64 0, .int .i64 0]), 2, 16) := by kernel_rfl
theorem flat_get {α : Type} {cells : α → List Value} {size : Nat} (hs : ∀ x, (cells x).length = size) : ∀ (l : List α) (k : Nat) (x : α) (j : Nat) (u : Value), l[k]? = some x → (cells x)[j]? = some u → (l.flatMap cells)[k * size + j]? = some u
  | [], k, x, j, u, h, _ => by simp at h
  | y :: l, 0, x, j, u, h, hu => by
    rw [List.getElem?_cons_zero] at h
    injection h with h
    subst h
    have hj := (List.getElem?_eq_some_iff.1 hu).1
    rw [List.flatMap_cons, Nat.zero_mul, Nat.zero_add, List.getElem?_append_left hj]
    exact hu
  | y :: l, k + 1, x, j, u, h, hu => by
    rw [List.getElem?_cons_succ] at h
    rw [List.flatMap_cons, List.getElem?_append_right (by rw [hs y, Nat.add_mul]; omega), hs y, show (k + 1) * size + j - size = k * size + j by rw [Nat.add_mul]; omega]
    exact flat_get hs l k x j u h hu
theorem flat_len {α : Type} {cells : α → List Value} {size : Nat} (hs : ∀ x, (cells x).length = size) : ∀ l : List α, (l.flatMap cells).length = l.length * size
  | [] => by simp
  | y :: l => by rw [List.flatMap_cons, List.length_append, hs, flat_len hs l, List.length_cons, Nat.add_mul]; omega
theorem own_at {α : Type} {cells : α → List Value} {size : Nat} (hs : ∀ x, (cells x).length = size) (h0 : 0 < size) {w : World} {base : Nat} {e : TypeId} {v : Value} {l : List α} (h : w.ownsRow base e size v l.length (l.flatMap cells)) :
    ∃ A c, v = .slice A l.length c ∧ At w w.heap.size size cells A l := by
  obtain ⟨A, c, rfl, hc⟩ := own_form h
  refine ⟨A, c, rfl, fun k x hx => ?_⟩
  have hp0 : 0 < (cells x).length := by rw [hs x]; exact h0
  have g0 : (cells x)[0]? = some ((cells x)[0]'hp0) := List.getElem?_eq_getElem hp0
  obtain ⟨b, e, -, hb, -⟩ := hc _ _ (flat_get hs l k x 0 _ hx g0)
  refine ⟨b, 0, e, hb, fun j u hu => ?_⟩
  obtain ⟨b', e', -, -, hcell⟩ := hc _ _ (flat_get hs l k x j u hx hu)
  rw [e] at e'
  injection e' with e'
  injection e' with e1
  subst e1
  rw [Nat.zero_add]
  exact hcell
theorem own_apart {w : World} {base base' e e' size size' : Nat} {v v' : Value} {n n' : Nat} {xs xs' : List Value} (h : w.ownsRow base e size v n xs) (h' : w.ownsRow base' e' size' v' n' xs') (he : e ≠ e') : v.ownBlock = none ∨ v.ownBlock ≠ v'.ownBlock := by
  rcases h.2 with ⟨rfl, -⟩ | ⟨g, cap, cur, rfl, -, hh, -⟩
  · exact .inl rfl
  · right
    intro eq
    rcases h'.2 with ⟨rfl, -⟩ | ⟨g', cap', cur', rfl, -, hh', -⟩
    · cases eq
    · injection eq with eq
      simp only at eq
      rw [eq, hh'] at hh
      injection hh with hh
      injection hh with _ h2 _
      exact he h2.symm
theorem Bx.grown {W W' : World} {row : Option Nat} {b : Nat} {vs : List Value} (h : Bx W b vs) (hg : W.grownBy W' row) (hr : row ≠ some b) : Bx W' b vs :=
  have hk := hg.block b h.lt (fun e => hr e.symm)
  ⟨Nat.lt_of_lt_of_le h.lt hg.size, fun j u hu => (World.cell?_of_block (a := ⟨b, j, none⟩) hk).trans (h.c j u hu), fun j => (World.frozen?_of_block (a := ⟨b, j, none⟩) hk).trans (h.fr j)⟩
theorem step_append_any {P : Program} {w : World} {ops : Array Oper} {o : Oper} {a : Act} {K : Act → World → Prop} {Q : Exit → Act → World → Prop} {E : Prop} (hgd : o.guard = none) (s x : Operand) (t : TypeId)
    (ho : o.op = .call { callee := .builtin .append, args := #[s, x], argTypes := #[t, t] })
    (base : Nat) (e : TypeId) (i : TypeInfo) (z : Value) (size bytes : Nat) (ht : P.underlying t = some (.slice e)) (hi : P.info? e = some i) (hz : i.zero = some z)
    (hsize : i.size = size) (hby : i.bytes = bytes) (hzs : z.cells.size = size) (hsz : 0 < size)
    (v : Value) (n : Nat) (xs : List Value) (hs : a.eval s = v) (hown : w.ownsRow base e size v n xs)
    (ad : Addr) (m c : Nat) (news : List Value) (hx : a.eval x = .slice (some ad) m c) (hl : news.length = m * size) (hnews : ∀ j u, news[j]? = some u → w.cell? (ad.add j) = some u) (h1 : ∀ u ∈ news, u.oneCell' = true)
    (h63 : n + m ≤ maxLen) (hbytes : (n + m) * bytes ≤ 140737488355328) (hbase : base ≤ w.heap.size)
    (h : ∀ v' w', w'.ownsRow base e size v' (n + m) (xs ++ news) → w.grownBy w' v.ownBlock → K (a.put o.dst v') w') :
    if Region.wanted o (yielded ops a.tmps) = true then Oper.wp P o a w K Q else E := by
  have hw : Region.wanted o (yielded ops a.tmps) = true := by simp [Region.wanted, hgd]
  rw [if_pos hw]
  obtain ⟨v', w', hr, h2, h3, -, -⟩ := run_append_own_at (P := P) w base t o.type e i z size bytes ht hi hz hsize hby hzs hsz v n xs hown ad m c news hl hnews h1 h63 hbytes hbase
  unfold Oper.wp execOp
  simp only [ho, resolve, invoke, builtin, Sem.run_bind, Sem.run_pure, Result.andThen_ok, List.map_toArray, List.map_cons, List.map_nil, hs, hx, hr]
  exact h v' w' h2 h3
theorem grown_from {B : Nat} {V W W' : World} {row : Option Nat} (hb : Below B V W) (h : W.grownBy W' row) (hs : B ≤ W.heap.size) (hr : ∀ g, row = some g → B ≤ g) : Below B V W' :=
  ⟨h.os.trans hb.os, h.tape.trans hb.tape, h.output.trans hb.output, Nat.le_trans hb.size h.size, fun k hk => (h.block k (by omega) (fun e => by have := hr k e.symm; omega)).trans (hb.block k hk)⟩
theorem own_empty {W : World} {H base size : Nat} {e : TypeId} (h : W.heap[H]? = some (.cells #[] e (0, 0))) (hb : base ≤ H) : W.ownsRow base e size (.slice (some ⟨H, 0, none⟩) 0 0) 0 [] :=
  ⟨by simp, .inr ⟨H, 0, #[], rfl, hb, h, Nat.le_refl _, by unfold maxLen; omega, by simp, by simp⟩⟩
theorem own_le {w : World} {base : Nat} {e : TypeId} {size : Nat} {A : Option Addr} {n m cap : Nat} {xs : List Value} (h : w.ownsRow base e size (.slice A n cap) m xs) (hm : 0 < m) : m ≤ cap := by
  obtain ⟨g, cap', e0, -⟩ := h.form hm
  rcases h.2 with ⟨e1, -⟩ | ⟨g', cap', cur, e1, -, -, hnc, -⟩
  · rw [e0] at e1; cases e1
  · injection e1 with _ _ e2
    omega
theorem hold_alloc {K : Act → World → Prop} {a : Act} {W : World} {vs : Array Value} {t : TypeId}
    (h : ∀ W', Below W.heap.size W W' → Bx W' W.heap.size vs.toList → W'.heap[W.heap.size]? = some (.cells vs t (0, 0)) → K a W') : K a (W.alloc (.cells vs t)) :=
  h _ (nxA W _) (Bx.new W vs t) (heap_alloc_new W _)
theorem hold_alloc_drew {K : Act → World → Prop} {a : Act} {W : World} {vs : Array Value} {t : TypeId}
    (h : ∀ W', Below W.heap.size W W' → Bx W' W.heap.size vs.toList → W'.heap[W.heap.size]? = some (.cells vs t (0, 0)) → K a W') : K a (W.alloc (.cells vs t)).drew :=
  h _ (nxA W _).drew (Bx.new W vs t).drew (heap_alloc_new W _)
theorem Bx.news {W : World} {b : Nat} {vs : List Value} (h : Bx W b vs) : ∀ j u, vs[j]? = some u → W.cell? ((⟨b, 0, none⟩ : Addr).add j) = some u := fun j u hu => by
  rw [show (⟨b, 0, none⟩ : Addr).add j = ⟨b, j, none⟩ by unfold Addr.add; split <;> simp_all]; exact h.c j u hu
theorem own_far {w : World} {base e size n b : Nat} {v : Value} {xs : List Value} (h : w.ownsRow base e size v n xs) (hb : b < base) : v.ownBlock ≠ some b := fun e => by have := (h.lt b e).1; omega
theorem rem_idx {n : Nat} (h : 0 < n) (x : Nat) : ∃ k : Nat, k = x % n ∧ k < n ∧ Int.tmod (x : Int) (n : Int) = (k : Int) ∧ (x : Int) % (n : Int) = (k : Int) :=
  ⟨x % n, rfl, Nat.mod_lt _ h, by rw [Int.tmod_eq_emod_of_nonneg (by omega)]; rfl, rfl⟩
end Go.Proofs.YtonnemkecppmiaaGreatDoor
