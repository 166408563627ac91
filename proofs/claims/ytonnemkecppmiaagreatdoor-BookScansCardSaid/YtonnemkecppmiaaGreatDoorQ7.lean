import Derived.Test.YtonnemkecppmiaaGreatDoorQ6
namespace Go.Proofs.YtonnemkecppmiaaGreatDoor
open Go.RowKit
/-! The program: ReadDrawing. -/
theorem PuAt.sets {W : World} {b : Nat} {m : Mp} (L : List Value) (h : PuAt W W.heap.size m) (hA : ∀ a, m.A = some a → a.block ≠ b) : PuAt (setCells W b 0 L) (setCells W b 0 L).heap.size m := by
  rw [← wset_eq]; exact puat_sets L h hA
set_option maxRecDepth 100000 in
set_option maxHeartbeats 2000000 in
theorem ReadDrawing_any (s : Tx) (w : World) (hE : Env w) : Calls Tryz.prog 15 #[tx s] w (RetRd s w) := by
  have HX0 := Lib.hid (Bx.new w puZ.toArray 28)
  have hn := nxA w (.cells puZ.toArray 28)
  have HB0 := Lib.hid hn
  have HR := Lib.hid (readPu_any s (w.alloc (.cells puZ.toArray 28)) (hE.next hn))
  clear hE hn
  obtain ⟨R, hR⟩ : ∃ R, RetRd s w = R := ⟨_, rfl⟩
  rw [hR]
  have HRR := Lib.hid hR
  clear hR
  go_enter Tryz.func15, Tryz.ntmps15
  go_upto_region 1 with fail
  change Code.wp _ _ _ _ (w.alloc (.cells puZ.toArray 28))
  generalize (w.alloc (.cells puZ.toArray 28)) = V at *
  obtain ⟨b, hb⟩ : ∃ b, b = w.heap.size := ⟨_, rfl⟩
  rw [← hb] at HX0 ⊢
  have HBW := Lib.hid (show w.heap.size ≤ b by rw [hb]; omega)
  clear hb
  go_wp2_with fail
  refine HR.out.mono ?_
  rintro e V1 ⟨m, hm, rfl, hp, hf, hb⟩
  have HX1 := Lib.hid (HX0.out.next hb)
  have HB1 := Lib.hid (HB0.out.trans (hb.mono HB0.out.size))
  have HFB := Lib.hid (show ∀ a, m.A = some a → a.block ≠ b from fun a ha => by have h1 := hf a ha; have h2 := HX0.out.lt; omega)
  have HFW := Lib.hid (show ∀ a, m.A = some a → w.heap.size ≤ a.block from fun a ha => by have h1 := hf a ha; have h2 := HB0.out.size; omega)
  have HP := Lib.hid hp
  have HM := Lib.hid hm
  clear hb hp hf hm HR HX0 HB0
  have z0 := HX1.out.c 0 _ rfl
  have z1 := HX1.out.c 1 _ rfl
  have z2 := HX1.out.c 2 _ rfl
  have z3 := HX1.out.c 3 _ rfl
  have z4 := HX1.out.c 4 _ rfl
  have z5 := HX1.out.c 5 _ rfl
  have z6 := HX1.out.c 6 _ rfl
  have z7 := HX1.out.c 7 _ rfl
  have z8 := HX1.out.c 8 _ rfl
  have y0 := HX1.out.fr 0
  have y1 := HX1.out.fr 1
  have y2 := HX1.out.fr 2
  have y3 := HX1.out.fr 3
  have y4 := HX1.out.fr 4
  have y5 := HX1.out.fr 5
  have y6 := HX1.out.fr 6
  have y7 := HX1.out.fr 7
  have y8 := HX1.out.fr 8
  go_wp2_with fail
  ((try simp only [Exit.inBlock, Exit.then]); refine bodyPost_ret (results_cellA rfl rfl (loadPu (HX1.out.setAll m.cells rfl))) rfl ?_)
  rw [← HRR.out]
  exact ⟨m, HM.out, rfl, HP.out.sets m.cells HFB.out, HFW.out, below_setCells HBW.out m.cells 0 HB1.out⟩
end Go.Proofs.YtonnemkecppmiaaGreatDoor
