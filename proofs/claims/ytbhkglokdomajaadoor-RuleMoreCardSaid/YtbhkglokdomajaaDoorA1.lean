import Derived.Test.YtbhkglokdomajaaDoorW1
import Derived.Test.YtbhkglokdomajaaDoorR3
import Derived.Test.YtbhkglokdomajaaDoorP14
namespace Go.Proofs.YtbhkglokdomajaaDoor
open Go.RowKit
/-! The law's own helpers: span, sample. -/
theorem At.new {α : Type} {size : Nat} {cells : α → List Value} (hs : ∀ x, (cells x).length = size) (l : List α) (w : World) (cs : Array Value) (t : TypeId) (hc : cs = (l.flatMap cells).toArray) :
    At (w.alloc (.cells cs t)) (w.heap.size + 1) size cells (some ⟨w.heap.size, 0, none⟩) l := fun k x hx => by
  subst hc
  refine ⟨w.heap.size, 0, rfl, by omega, fun j u hu => ?_⟩
  rw [Nat.zero_add, cell_of_row _ _ _ _ t (0, 0) (heap_alloc_new w _)]
  simpa using flat_get hs l k x j u hx hu
def smpD (A : Option Addr) : Die := ⟨[⟨0, 5, 2, 3⟩, ⟨2, 4, 0, 1⟩], 40, 10, 3, A, 2⟩
def smpL : List Stint := [⟨8, 0⟩, ⟨6, 0⟩, ⟨9, 5⟩, ⟨10, 0⟩]
def RetSmp (w : World) (e : Ending) (w' : World) : Prop := ∃ A B, e = .returned (.tuple #[.agg #[.slice A 2 2, .int .i64 40, .int .i64 10, .int .i64 3], .slice B 4 4]) ∧ DieAt w' w'.heap.size (smpD A) ∧ At w' w'.heap.size 2 Stint.cells B smpL ∧ Below w.heap.size w w'
set_option maxHeartbeats 400000 in
theorem span38_any (a b : Int) (w : World) : Calls Tryd.prog 38 #[.int .i64 a, .int .i64 b] w (Ret (.agg #[.int .i64 a, .int .i64 b]) w) := by
  go_enter Tryd.func38, Tryd.ntmps38
  go_wp2
  exact bodyPost_ret (results_cell1 rfl rfl (loadS (Bx.new w #[.int .i64 a, .int .i64 b] 28))) rfl ⟨rfl, nxA _ _⟩
theorem loadD {w : World} {b : Nat} {a0 a1 a2 a3 : Value} (h : Bx w b [a0, a1, a2, a3]) : (loadVar 24 ⟨b, 0, none⟩).run Tryd.prog w = .ok (.agg #[a0, a1, a2, a3]) w := by
  have c0 := h.c 0 _ rfl
  have c1 := h.c 1 _ rfl
  have c2 := h.c 2 _ rfl
  have c3 := h.c 3 _ rfl
  clear h
  go_simp
set_option maxRecDepth 100000 in
set_option maxHeartbeats 400000 in
theorem sample_any (w : World) : Calls Tryd.prog 37 #[] w (RetSmp w) := by
  have Z0 := Lib.hid (Bx.new w #[.slice none 0 0, .int .i64 0, .int .i64 0, .int .i64 0] 24)
  have B0 := Lib.hid (nxA w (.cells #[.slice none 0 0, .int .i64 0, .int .i64 0, .int .i64 0] 24))
  go_enter Tryd.func37, Tryd.ntmps37
  go_wp2_with fail
  generalize w.alloc (.cells #[.slice none 0 0, .int .i64 0, .int .i64 0, .int .i64 0] 24) = V at *
  refine (span38_any _ _ _).mono ?_
  rintro e w1 ⟨rfl, hb1⟩
  go_wp2_with fail
  refine (span38_any _ _ _).mono ?_
  rintro e w2 ⟨rfl, hb2⟩
  go_wp2_with fail
  refine (span38_any _ _ _).mono ?_
  rintro e w3 ⟨rfl, hb3⟩
  go_wp2_with fail
  refine (span38_any _ _ _).mono ?_
  rintro e w4 ⟨rfl, hb4⟩
  have hb := hb1.trans ((hb2.mono hb1.size).trans ((hb3.mono (Nat.le_trans hb1.size hb2.size)).trans (hb4.mono (Nat.le_trans hb1.size (Nat.le_trans hb2.size hb3.size)))))
  have Z4 := Lib.hid (Z0.out.next hb)
  have B4 := Lib.hid (B0.out.trans (hb.mono B0.out.size))
  clear hb hb1 hb2 hb3 hb4 Z0 B0
  have z0 := Z4.out.c 0 _ rfl
  have z1 := Z4.out.c 1 _ rfl
  have z2 := Z4.out.c 2 _ rfl
  have z3 := Z4.out.c 3 _ rfl
  have f0 := Z4.out.fr 0
  have f1 := Z4.out.fr 1
  have f2 := Z4.out.fr 2
  have f3 := Z4.out.fr 3
  have hz := Z4.out.lt
  go_wp2_with fail
  have hUz := setCells_size w.heap.size [.slice (some ⟨w4.heap.size, 0, none⟩) 2 2, .int .i64 40, .int .i64 10, .int .i64 3] 0 w4
  have ZU := Z4.out.setAll [.slice (some ⟨w4.heap.size, 0, none⟩) 2 2, .int .i64 40, .int .i64 10, .int .i64 3] rfl
  have BU := below_setCells (b := w.heap.size) (Nat.le_refl _) [.slice (some ⟨w4.heap.size, 0, none⟩) 2 2, .int .i64 40, .int .i64 10, .int .i64 3] 0 B4.out
  obtain ⟨U, hU⟩ : ∃ U, U = setCells w4 w.heap.size 0 [.slice (some ⟨w4.heap.size, 0, none⟩) 2 2, .int .i64 40, .int .i64 10, .int .i64 3] := ⟨_, rfl⟩
  rw [← hU] at hUz ZU BU
  have a1 := nxA U (.cells #[.int .i64 0, .int .i64 5, .int .i64 2, .int .i64 3, .int .i64 2, .int .i64 4, .int .i64 0, .int .i64 1] 53)
  have a2 := nxA (U.alloc (.cells #[.int .i64 0, .int .i64 5, .int .i64 2, .int .i64 3, .int .i64 2, .int .i64 4, .int .i64 0, .int .i64 1] 53)) (.cells #[.int .i64 8, .int .i64 0, .int .i64 6, .int .i64 0, .int .i64 9, .int .i64 5, .int .i64 10, .int .i64 0] 58)
  have t1 := (At.new (size := 4) (cells := Blade.cells) (fun _ => rfl) (smpD none).blades U _ 53 rfl)
  have t2 := (At.new (size := 2) (cells := Stint.cells) (fun _ => rfl) smpL (U.alloc (.cells #[.int .i64 0, .int .i64 5, .int .i64 2, .int .i64 3, .int .i64 2, .int .i64 4, .int .i64 0, .int .i64 1] 53)) _ 58 rfl)
  rw [World.size_alloc, hUz] at t2
  rw [hUz] at t1
  change bodyPost _ _ _ _ _ (((setCells w4 w.heap.size 0 [.slice (some ⟨w4.heap.size, 0, none⟩) 2 2, .int .i64 40, .int .i64 10, .int .i64 3]).alloc (.cells #[.int .i64 0, .int .i64 5, .int .i64 2, .int .i64 3, .int .i64 2, .int .i64 4, .int .i64 0, .int .i64 1] 53)).alloc (.cells #[.int .i64 8, .int .i64 0, .int .i64 6, .int .i64 0, .int .i64 9, .int .i64 5, .int .i64 10, .int .i64 0] 58))
  rw [← hU]
  refine bodyPost_ret (results_cellA rfl rfl (loadD ((ZU.next a1).next a2))) rfl ⟨_, _, rfl, ⟨(t1.below (a2.mono (by simp; omega))).more (by simp; omega), (show (2 : Nat) ≤ 9223372036854775807 by decide)⟩, t2.more (by simp; omega), ?_⟩
  exact (BU.trans (a1.mono BU.size)).trans (a2.mono (by simp only [World.size_alloc]; have := BU.size; omega))
end Go.Proofs.YtbhkglokdomajaaDoor
