import Derived.Test.YtfffhbolaimmdaaDoorA1
import Derived.Laws.Tables
import Derived.Laws.CopyOwn
namespace Go.Proofs.YtfffhbolaimmdaaDoor
open Go.RowKit
theorem hk6 {w : World} {b : Nat} {x : Obj} (h : w.heap[b]? = some x) (o1 o2 o3 o4 o5 o6 : Obj) : ((((((w.alloc o1).alloc o2).alloc o3).alloc o4).alloc o5).alloc o6).heap[b]? = some x := by
  have hb : b < w.heap.size := (Array.getElem?_eq_some_iff.1 h).1
  rw [Below.heap_alloc _ _ _ (by simp; omega), Below.heap_alloc _ _ _ (by simp; omega), Below.heap_alloc _ _ _ (by simp; omega), Below.heap_alloc _ _ _ (by simp; omega), Below.heap_alloc _ _ _ (by simp; omega), Below.heap_alloc _ _ _ hb]
  exact h
theorem setRow_alloc {w : World} (o : Obj) {g : Nat} (cs : Array Value) (h : g < w.heap.size) : (w.alloc o).setRow g cs = (w.setRow g cs).alloc o := by
  unfold World.setRow World.alloc
  congr 1
  apply Array.ext_getElem?
  intro k
  simp only [Array.getElem?_modify, Array.getElem?_push, Array.size_modify]
  by_cases hk : k = w.heap.size
  · subst hk
    simp [show ¬ g = w.heap.size by omega]
  · by_cases hg : g = k
    · subst hg; simp [hk]
    · simp [hk, hg]
theorem setRow6 {w : World} {g : Nat} (cs : Array Value) (h : g < w.heap.size) (o1 o2 o3 o4 o5 o6 : Obj) : ((((((w.alloc o1).alloc o2).alloc o3).alloc o4).alloc o5).alloc o6).setRow g cs = ((((((w.setRow g cs).alloc o1).alloc o2).alloc o3).alloc o4).alloc o5).alloc o6 := by
  rw [setRow_alloc _ _ (by simp; omega), setRow_alloc _ _ (by simp; omega), setRow_alloc _ _ (by simp; omega), setRow_alloc _ _ (by simp; omega), setRow_alloc _ _ (by simp; omega), setRow_alloc _ _ h]
theorem below6 {B : Nat} {w U : World} (h : Below B w U) (hB : B ≤ w.heap.size) (o1 o2 o3 o4 o5 o6 : Obj) : Below B w ((((((U.alloc o1).alloc o2).alloc o3).alloc o4).alloc o5).alloc o6) := by
  have e1 := h.alloc (Nat.le_trans hB h.size) o1
  have e2 := e1.alloc (Nat.le_trans hB e1.size) o2
  have e3 := e2.alloc (Nat.le_trans hB e2.size) o3
  have e4 := e3.alloc (Nat.le_trans hB e3.size) o4
  have e5 := e4.alloc (Nat.le_trans hB e4.size) o5
  exact e5.alloc (Nat.le_trans hB e5.size) o6
theorem SBox.six {U : World} {b : Nat} {s : Store} (h : SBox U b s) (o1 o2 o3 o4 o5 o6 : Obj) : SBox ((((((U.alloc o1).alloc o2).alloc o3).alloc o4).alloc o5).alloc o6) b s :=
  h.next (below6 (Below.refl _ _) (Nat.le_refl _) o1 o2 o3 o4 o5 o6)
theorem SBox.row {w : World} {g : Nat} (s : Store) {old : Array Value} {t : TypeId} {fr : Nat × Nat} (hg : w.heap[g]? = some (.cells old t fr)) : SBox (w.setRow g #[.slice s.A1 s.sheets.length s.c1, .slice s.A2 s.lics.length s.c2, .slice s.A3 s.makes.length s.c3, .slice s.A4 s.wishes.length s.c4]) g s :=
  ⟨by rw [setRow_size]; exact (Array.getElem?_eq_some_iff.1 hg).1, by rw [cell_setRow_same w g 0 old _ t fr hg]; rfl, by rw [cell_setRow_same w g 1 old _ t fr hg]; rfl, by rw [cell_setRow_same w g 2 old _ t fr hg]; rfl, by rw [cell_setRow_same w g 3 old _ t fr hg]; rfl⟩
theorem at_st {P : Program} {ops : Array Oper} {Q : Exit → Act → World → Prop} {rest : List Oper} {a : Act} {w : World} {t : TypeId} {x y : Operand} {u pos aft gd} (h : wpList P ops Q ((⟨none, .store t x y, u, pos, aft, gd⟩ : Oper) :: rest) a w) : wpList P ops Q ((⟨none, .store t x y, u, pos, aft, gd⟩ : Oper) :: rest) a w := h
set_option maxRecDepth 100000 in
set_option maxHeartbeats 400000 in
theorem sample_any (w : World) : Calls Tryd.prog 34 #[] w (RetSmp w) := by
  have hz : (w.alloc (.cells #[.slice none 0 0, .slice none 0 0, .slice none 0 0, .slice none 0 0] 27)).heap[w.heap.size]? = some (.cells #[.slice none 0 0, .slice none 0 0, .slice none 0 0, .slice none 0 0] 27 (0, 0)) := heap_alloc_new w _
  have HZ := Lib.hid hz
  have HB := Lib.hid ((Below.refl w.heap.size w).alloc (Nat.le_refl _) (.cells #[.slice none 0 0, .slice none 0 0, .slice none 0 0, .slice none 0 0] 27))
  have hs0 := Lib.hid (show w.heap.size < (w.alloc (.cells #[.slice none 0 0, .slice none 0 0, .slice none 0 0, .slice none 0 0] 27)).heap.size by simp)
  clear hz
  go_enter Tryd.func34, Tryd.ntmps34
  go_wp2_with fail
  refine (span33_any _ _ _).mono ?_
  rintro e w1 ⟨rfl, hb1⟩
  have H1 := Lib.hid hb1
  clear hb1
  go_wp2_with fail
  refine (span33_any _ _ _).mono ?_
  rintro e w2 ⟨rfl, hb2⟩
  have h1 : w1.heap[w.heap.size]? = some (.cells #[.slice none 0 0, .slice none 0 0, .slice none 0 0, .slice none 0 0] 27 (0, 0)) := (H1.out.block _ hs0.out).trans HZ.out
  have hl1 : w.heap.size < w1.heap.size := (Array.getElem?_eq_some_iff.1 h1).1
  have H2 := Lib.hid ((hb2.block _ hl1).trans h1)
  have hBB := Lib.hid ((HB.out.trans (H1.out.mono HB.out.size)).trans (hb2.mono (by omega)))
  have hl2 := Lib.hid (show w.heap.size < w2.heap.size by have := hb2.size; omega)
  clear hb2 h1 HZ H1 hl1 HB hs0
  go_wp2_with ((with_reducible refine at_st ?_); (refine wpList_store_row rfl 27 (.tmp 0) (.tmp 19) rfl w.heap.size _ rfl rfl 27 _ (hk6 H2.out _ _ _ _ _ _) (by kernel_rfl) rfl (by simp [Value.oneCell']) ?_))
  rw [setRow6 _ hl2.out]
  have hbx := SBox.row (smp (some ⟨w2.heap.size, 0, none⟩) (some ⟨w2.heap.size + 1, 0, none⟩) (some ⟨w2.heap.size + 1 + 1 + 1 + 1, 0, none⟩) (some ⟨w2.heap.size + 1 + 1 + 1 + 1 + 1, 0, none⟩) (some ⟨w2.heap.size + 1 + 1, 0, none⟩) (some ⟨w2.heap.size + 1 + 1 + 1, 0, none⟩)) H2.out
  have hb4 := below_setRow hBB.out (Nat.le_refl _) #[.slice (some ⟨w2.heap.size, 0, none⟩) 2 2, .slice (some ⟨w2.heap.size + 1, 0, none⟩) 2 2, .slice (some ⟨w2.heap.size + 1 + 1 + 1 + 1, 0, none⟩) 2 2, .slice (some ⟨w2.heap.size + 1 + 1 + 1 + 1 + 1, 0, none⟩) 4 4]
  have hst := smp_at (w2.setRow w.heap.size #[.slice (some ⟨w2.heap.size, 0, none⟩) 2 2, .slice (some ⟨w2.heap.size + 1, 0, none⟩) 2 2, .slice (some ⟨w2.heap.size + 1 + 1 + 1 + 1, 0, none⟩) 2 2, .slice (some ⟨w2.heap.size + 1 + 1 + 1 + 1 + 1, 0, none⟩) 4 4]) w2.heap.size (by simp)
  change SBox (w2.setRow w.heap.size #[.slice (some ⟨w2.heap.size, 0, none⟩) 2 2, .slice (some ⟨w2.heap.size + 1, 0, none⟩) 2 2, .slice (some ⟨w2.heap.size + 1 + 1 + 1 + 1, 0, none⟩) 2 2, .slice (some ⟨w2.heap.size + 1 + 1 + 1 + 1 + 1, 0, none⟩) 4 4]) _ _ at hbx
  have hsz : (w2.setRow w.heap.size #[.slice (some ⟨w2.heap.size, 0, none⟩) 2 2, .slice (some ⟨w2.heap.size + 1, 0, none⟩) 2 2, .slice (some ⟨w2.heap.size + 1 + 1 + 1 + 1, 0, none⟩) 2 2, .slice (some ⟨w2.heap.size + 1 + 1 + 1 + 1 + 1, 0, none⟩) 4 4]).heap.size = w2.heap.size := by simp
  generalize (w2.setRow w.heap.size #[.slice (some ⟨w2.heap.size, 0, none⟩) 2 2, .slice (some ⟨w2.heap.size + 1, 0, none⟩) 2 2, .slice (some ⟨w2.heap.size + 1 + 1 + 1 + 1, 0, none⟩) 2 2, .slice (some ⟨w2.heap.size + 1 + 1 + 1 + 1 + 1, 0, none⟩) 4 4]) = U at *
  generalize w2.heap.size = g at *
  refine bodyPost_ret (results_cell1 rfl rfl (load27 (hbx.six _ _ _ _ _ _))) rfl ?_
  exact ⟨_, ⟨_, _, _, _, _, _, rfl⟩, rfl, hst.more (by simp; omega), below6 hb4 (Nat.le_refl _) _ _ _ _ _ _⟩
end Go.Proofs.YtfffhbolaimmdaaDoor
