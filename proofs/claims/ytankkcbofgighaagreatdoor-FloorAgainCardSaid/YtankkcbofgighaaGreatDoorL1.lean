import Derived.Lib.Hide
import Derived.IntWalk
import Derived.Laws.World
import Derived.Calls
namespace Go.Proofs.YtankkcbofgighaaGreatDoor
theorem qJ {α : Type _} (l : List α) (i : Nat) (a : α) : l.toArray.setIfInBounds i a = (l.set i a).toArray := List.setIfInBounds_toArray ..
theorem qK {α : Type _} {x : α} {xs : List α} {a : α} : (x :: xs).set 0 a = a :: xs := List.set_cons_zero
theorem qL {α : Type _} {x : α} {xs : List α} {i : Nat} {a : α} : (x :: xs).set (i + 1) a = x :: xs.set i a := List.set_cons_succ
theorem qW : (∀ (a : Act) (d : Tmp) (v : Value), a.put (some d) v = { a with tmps := a.tmps.setIfInBounds d v }) ∧ (∀ (a : Act) (v : Value), a.put none v = a) ∧ (∀ (l : List Value) (i : Nat) (x : Value), l.toArray.setIfInBounds i x = (l.set i x).toArray) ∧ (∀ (x a : Value) (xs : List Value), (x :: xs).set 0 a = a :: xs) ∧ (∀ (x a : Value) (xs : List Value) (i : Nat), (x :: xs).set (i + 1) a = x :: xs.set i a) := ⟨fun _ _ _ => rfl, fun _ _ => rfl, fun _ _ _ => List.setIfInBounds_toArray .., fun _ _ _ => rfl, fun _ _ _ _ => rfl⟩
theorem qG {p : Prop} (h : p) : Go.RowKit.Hid p := Go.Lib.hid h
theorem _root_.Go.RowKit.Hid.o {p : Prop} (h : Go.RowKit.Hid p) : p := h.out
abbrev qM := @Nat.lt_of_lt_of_le
abbrev qN := @List.getElem?_eq_getElem
abbrev qO := @List.getElem?_eq_some_iff
abbrev qP := @List.getD_eq_getElem?_getD
abbrev qQ := @Nat.le_refl
abbrev qA := @Go.World.cell?_setCell_other
abbrev qB := @Array.getElem?_eq_some_iff
abbrev qC := @decide_eq_true_eq
abbrev qD := @List.length_append
abbrev qE := @List.mem_cons_self
abbrev qF := @Go.IntWalk.i64_in
end Go.Proofs.YtankkcbofgighaaGreatDoor
