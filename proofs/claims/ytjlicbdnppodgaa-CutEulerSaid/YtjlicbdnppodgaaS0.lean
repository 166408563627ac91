import Derived.Test.YtjlicbdnppodgaaRows
import Derived.Test.YtjlicbdnppodgaaFlood
import Derived.Test.YtjlicbdnppodgaaLines
import Derived.WalkKit
import Derived.WalkSpells
import Derived.WalkLawsBesides
import Derived.Lib.Hide
import Derived.BigQuiet
import Derived.Deep.QuietTactic
namespace Go.Proofs.Ytjlicbdnppodgaa
open Go.RowKit
/-! Words for memory. -/
def Ret (v : Value) (w : World) (e : Ending) (w' : World) : Prop := e = .returned v ∧ Below w.heap.size w w'
def RetQ (v : Value) (w : World) (e : Ending) (w' : World) : Prop := e = .returned v ∧ w = w'
theorem qq {P : Program} {f : FuncId} {args : Array Value} {w : World} {n : Nat} {v : Value}
    (h : Calls P f args (w.drewN n) (RetQ v (w.drewN n))) : Calls P f args (w.drewN n) fun e w'' => e = .returned v ∧ ∃ m, w'' = w.drewN m :=
  h.mono fun _ _ ⟨he, hm⟩ => ⟨he, n, hm.symm⟩
theorem qqa {P : Program} {f : FuncId} {args : Array Value} {w : World} {a n : Nat} {v : Value}
    (h : Calls P f args (w.drewN (a + n)) (RetQ v (w.drewN (a + n)))) : Calls P f args (w.drewN (a + n)) fun e w'' => e = .returned v ∧ ∃ m, w'' = w.drewN (a + m) :=
  h.mono fun _ _ ⟨he, hm⟩ => ⟨he, n, hm.symm⟩
theorem chain2 (a b : Bool) : a = false ∨ (a = true ∧ b = false) ∨ (a = true ∧ b = true) := by cases a <;> cases b <;> simp
theorem chain3 (a b c : Bool) : a = false ∨ (a = true ∧ b = false) ∨ (a = true ∧ b = true ∧ c = false) ∨ (a = true ∧ b = true ∧ c = true) := by cases a <;> cases b <;> cases c <;> simp
theorem chain4 (a b c d : Bool) : a = false ∨ (a = true ∧ b = false) ∨ (a = true ∧ b = true ∧ c = false) ∨ (a = true ∧ b = true ∧ c = true ∧ d = false) ∨ (a = true ∧ b = true ∧ c = true ∧ d = true) := by cases a <;> cases b <;> cases c <;> cases d <;> simp
theorem chain5 (a b c d e : Bool) : a = false ∨ (a = true ∧ b = false) ∨ (a = true ∧ b = true ∧ c = false) ∨ (a = true ∧ b = true ∧ c = true ∧ d = false) ∨ (a = true ∧ b = true ∧ c = true ∧ d = true ∧ e = false) ∨ (a = true ∧ b = true ∧ c = true ∧ d = true ∧ e = true) := by cases a <;> cases b <;> cases c <;> cases d <;> cases e <;> simp
theorem retq_bool {a b : Bool} {w : World} (h : a = b) : RetQ (.bool b) w (.returned (.bool a)) w := ⟨by rw [h], rfl⟩
theorem retq_int {k : IntKind} {a b : Int} {w : World} (h : a = b) : RetQ (.int k b) w (.returned (.int k a)) w := ⟨by rw [h], rfl⟩
theorem ret_bool {a b : Bool} {w w' : World} (h : a = b) (hb : Below w.heap.size w w') : Ret (.bool b) w (.returned (.bool a)) w' := ⟨by rw [h], hb⟩
theorem ret_int {k : IntKind} {a b : Int} {w w' : World} (h : a = b) (hb : Below w.heap.size w w') : Ret (.int k b) w (.returned (.int k a)) w' := ⟨by rw [h], hb⟩
theorem bcell {W w1 : World} (hb : Below W.heap.size W w1) : (∀ b o, b < W.heap.size → w1.cell? ⟨b, o, none⟩ = W.cell? ⟨b, o, none⟩) ∧ (∀ b o, b < W.heap.size → w1.frozen? ⟨b, o, none⟩ = W.frozen? ⟨b, o, none⟩) :=
  ⟨fun b o h => hb.cell (p := ⟨b, o, none⟩) h, fun b o h => hb.frozen (p := ⟨b, o, none⟩) h⟩
/-- A slice at A whose k-th element's cells are `cells x`, x the k-th of l; all below block B. -/
def At {α : Type} (w : World) (B size : Nat) (cells : α → List Value) (A : Option Addr) (l : List α) : Prop :=
  ∀ k x, l[k]? = some x → ∃ b off, A = some ⟨b, off, none⟩ ∧ b < B ∧ ∀ j u, (cells x)[j]? = some u → w.cell? ⟨b, off + k * size + j, none⟩ = some u
theorem At.keep {α : Type} {w w' : World} {B size : Nat} {cells : α → List Value} {A : Option Addr} {l : List α} (h : At w B size cells A l)
    (hk : ∀ b o, b < B → w'.cell? ⟨b, o, none⟩ = w.cell? ⟨b, o, none⟩) : At w' B size cells A l := fun k x hx => by
  obtain ⟨b, off, e, hb, hc⟩ := h k x hx
  exact ⟨b, off, e, hb, fun j u hu => (hk b _ hb).trans (hc j u hu)⟩
theorem At.below {α : Type} {w w' : World} {B size : Nat} {cells : α → List Value} {A : Option Addr} {l : List α} (h : At w B size cells A l)
    (hb : Below B w w') : At w' B size cells A l := h.keep fun b o hk => hb.cell (p := ⟨b, o, none⟩) hk
theorem At.more {α : Type} {w : World} {B B' size : Nat} {cells : α → List Value} {A : Option Addr} {l : List α} (h : At w B size cells A l)
    (hb : B ≤ B') : At w B' size cells A l := fun k x hx => by
  obtain ⟨b, off, e, hk, hc⟩ := h k x hx
  exact ⟨b, off, e, Nat.lt_of_lt_of_le hk hb, hc⟩
theorem below_drewN {B : Nat} {a w : World} (h : Below B a w) (n : Nat) : Below B a (w.drewN n) := ⟨h.os, h.tape, h.output, h.size, h.block⟩
theorem only_of_below {a w : World} (h : Below a.heap.size a w) (row : Option Nat) : a.grownBy w row := ⟨h.os, h.tape, h.output, h.size, fun i hi _ => h.block i hi⟩
theorem own_below {w w' : World} {base : Nat} {e : TypeId} {size : Nat} {v : Value} {n : Nat} {xs : List Value} (h : w.ownsRow base e size v n xs) (hb : Below w.heap.size w w') : w'.ownsRow base e size v n xs :=
  h.kept (only_of_below hb none) (by cases v.ownBlock <;> simp)
theorem all_step {α : Type} {l : List α} {p : α → Bool} {k : Nat} (hk : k < l.length) (h : (l.take k).all p = true) (hp : p l[k] = true) : (l.take (k + 1)).all p = true := by
  rw [List.take_succ_eq_append_getElem hk]; simp only [List.all_append, h, List.all_cons, hp, List.all_nil, Bool.and_self]
theorem all_fail {α : Type} {l : List α} {p : α → Bool} {k : Nat} (hk : k < l.length) (hp : p l[k] = false) : l.all p = false := by
  rw [List.all_eq_false]; exact ⟨_, List.getElem_mem hk, by simp [hp]⟩
theorem all_full {α : Type} {l : List α} {p : α → Bool} {k : Nat} (hk : ¬ k < l.length) (h : (l.take k).all p = true) : l.all p = true := by
  rw [List.take_of_length_le (by omega)] at h; exact h
/-- A block of n ints of the call's own. -/
structure IBlk (w : World) (g n : Nat) (f : Nat → Int) : Prop where
  lt : g < w.heap.size
  cell : ∀ j, j < n → w.cell? ⟨g, j, none⟩ = some (.int .i64 (f j))
  free : ∀ j, w.frozen? ⟨g, j, none⟩ = false
theorem IBlk.below {w w' : World} {B g n : Nat} {f : Nat → Int} (h : IBlk w g n f) (hb : Below B w w') (hg : g < B) : IBlk w' g n f :=
  ⟨Nat.lt_of_lt_of_le h.lt hb.size, fun j hj => (hb.cell (p := ⟨g, j, none⟩) hg).trans (h.cell j hj), fun j => (hb.frozen (p := ⟨g, j, none⟩) hg).trans (h.free j)⟩
theorem IBlk.next {w w' : World} {g n : Nat} {f : Nat → Int} (h : IBlk w g n f) (hb : Below w.heap.size w w') : IBlk w' g n f := h.below hb h.lt
theorem IBlk.set_ {w : World} {g n : Nat} {f f' : Nat → Int} (h : IBlk w g n f) {j : Nat} {x : Int} (hj : j < n) (hx : f' j = x) (ho : ∀ i, i ≠ j → f' i = f i) : IBlk (w.setCell ⟨g, j, none⟩ (.int .i64 x)) g n f' := by
  refine ⟨by simpa [World.setCell] using h.lt, fun i hi => ?_, fun i => by rw [World.frozen?_setCell]; exact h.free i⟩
  by_cases e : i = j
  · subst e
    rw [hx]
    exact World.cell?_setCell_same' _ _ _ (by rw [h.cell i hi]; rfl)
  · rw [World.cell?_setCell_other _ _ _ _ (by intro e'; injection e' with _ e2; exact e e2.symm), h.cell i hi, ho i e]
theorem IBlk.alloc {w : World} {g n : Nat} {f : Nat → Int} (h : IBlk w g n f) (o : Obj) : IBlk (w.alloc o) g n f := h.next ((Below.refl _ _).alloc (Nat.le_refl _) _)
theorem IBlk.drew {w : World} {g n : Nat} {f : Nat → Int} (h : IBlk w g n f) : IBlk w.drew g n f := ⟨h.lt, h.cell, h.free⟩
theorem IBlk.drewN {w : World} {g n k : Nat} {f : Nat → Int} (h : IBlk w g n f) : IBlk (w.drewN k) g n f := ⟨h.lt, h.cell, h.free⟩
def zeros (n : Nat) : Array Value := madeCells #[.int .i64 0] n
theorem IBlk.zeros (w : World) (n : Nat) (t : TypeId) : IBlk (w.alloc (.cells (zeros n) t)) w.heap.size n (fun _ => 0) := by
  refine ⟨by simp, fun j hj => ?_, fun j => by simp [go_sem]⟩
  have h1 : (Go.Proofs.Ytjlicbdnppodgaa.zeros n).toList = List.replicate n (.int .i64 0) := toList_madeCells_one _ _
  have h2 : (Go.Proofs.Ytjlicbdnppodgaa.zeros n)[j]? = some (.int .i64 0) := by
    rw [← Array.getElem?_toList, h1, List.getElem?_replicate, if_pos hj]
  rw [← h2]
  exact cell_of_row _ _ _ _ t (0, 0) (heap_alloc_new w _)
def icell (n : Int) : List Value := [.int .i64 n]
/-! The chapter's data in memory. -/
structure CutAt (w : World) (B : Nat) (c : Cut) : Prop where
  pa : At w B 1 icell c.A c.piece
  l1 : c.piece.length ≤ 9223372036854775807
theorem CutAt.below {w w' : World} {B : Nat} {c : Cut} (h : CutAt w B c) (hb : Below B w w') : CutAt w' B c := ⟨h.pa.below hb, h.l1⟩
theorem CutAt.more {w : World} {B B' : Nat} {c : Cut} (h : CutAt w B c) (hb : B ≤ B') : CutAt w B' c := ⟨h.pa.more hb, h.l1⟩
theorem CutAt.next {w w' : World} {c : Cut} (h : CutAt w w.heap.size c) (hb : Below w.heap.size w w') : CutAt w' w'.heap.size c := (h.below hb).more hb.size
def cutL (c : Cut) : List Value := [.int .i64 c.wide, .int .i64 c.high, .slice c.A c.piece.length c.c]
theorem nxA (W : World) (o : Obj) : Below W.heap.size W (W.alloc o) := (Below.refl _ _).alloc (Nat.le_refl _) _
theorem At.next {α : Type} {w w' : World} {size : Nat} {cells : α → List Value} {A : Option Addr} {l : List α} (h : At w w.heap.size size cells A l) (hb : Below w.heap.size w w') : At w' w'.heap.size size cells A l := (h.below hb).more hb.size
end Go.Proofs.Ytjlicbdnppodgaa
