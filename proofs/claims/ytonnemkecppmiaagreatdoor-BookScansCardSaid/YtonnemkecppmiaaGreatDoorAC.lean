import Derived.Test.YtonnemkecppmiaaGreatDoorPln
import Derived.KernelRfl
import Derived.Test.YtonnemkecppmiaaGreatDoorQ15
import Derived.Test.YtonnemkecppmiaaGreatDoorQ12
import Derived.Test.YtonnemkecppmiaaGreatDoorQ7
import Derived.Test.YtonnemkecppmiaaGreatDoorR8
namespace Go.Proofs.YtonnemkecppmiaaGreatDoor
section
open Go
/-! Plain: the samples. -/
def edA : Ed := ⟨1, ⟨1000, 1000⟩, ⟨480, 490⟩, ⟨400, 400⟩⟩
def puA : Pu := ⟨⟨2000, 20, 30, ⟨0, 10⟩⟩, 1, 1, true, [⟨edA, ed0, ed0, ed0⟩]⟩
def sA : Tx := [116, 117, 114, 110, 105, 110, 103, 32, 49, 32, 49, 10, 112, 108, 97, 121, 32, 50, 48, 48, 48, 32, 50, 48, 32, 51, 48, 32, 48, 46, 46, 49, 48, 10, 112, 105, 101, 99, 101, 32, 48, 10, 116, 97, 98, 32, 49, 48, 48, 48, 32, 52, 56, 48, 46, 46, 52, 57, 48, 32, 52, 48, 48, 10, 102, 108, 97, 116, 10, 102, 108, 97, 116, 10, 102, 108, 97, 116, 10]
def edB2 : Ed := ⟨2, ⟨200, 200⟩, ⟨5, 7⟩, ⟨3, 3⟩⟩
def psA : List Pc := [⟨ed0, edB2, ed0, ed0⟩]
def tA : Tx := [1, 0, 2, 200, 1, 0, 5, 2, 3, 0, 0, 0, 42]
def woA : List Wo := [⟨2, 0, ⟨0, 0⟩⟩, ⟨0, 20, ⟨40, 45⟩⟩, ⟨1, 20, ⟨7, 7⟩⟩]
def uA : Tx := [61, 32, 50, 32, 48, 10, 43, 50, 48, 32, 48, 32, 52, 48, 46, 46, 52, 53, 10, 61, 32, 49, 32, 55, 10]
theorem puA_ok : okPu puA = true := by decide
theorem puA_text : dText puA = sA := by kernel_rfl
theorem psA_ok : okPcs psA = true := by decide
theorem psA_text : scanB psA = tA := by kernel_rfl
theorem woA_ok : checkW woA = 0 := by decide
theorem woA_text : logT woA = uA := by kernel_rfl
end
section
open Go.RowKit
/-! The law's samples: span, drawing, scan, log. -/
set_option maxRecDepth 100000 in
set_option maxHeartbeats 1000000 in
theorem spanL_any (a b : Int) (w : World) : Calls Tryz.prog 70 #[.int .i64 a, .int .i64 b] w (Ret (.agg #[.int .i64 a, .int .i64 b]) w) := by
  have HX := Lib.hid (Bx.new w #[.int .i64 0, .int .i64 0] 23)
  have HB := Lib.hid (nxA w (.cells #[.int .i64 0, .int .i64 0] 23))
  go_enter Tryz.func70, Tryz.ntmps70
  go_upto_region 1 with fail
  generalize (w.alloc (.cells #[.int .i64 0, .int .i64 0] 23)) = V at *
  obtain ⟨g, hg⟩ : ∃ g, g = w.heap.size := ⟨_, rfl⟩
  rw [← hg] at HX ⊢
  have HGW := Lib.hid (show w.heap.size ≤ g by omega)
  clear hg
  have g0 := HX.out.c 0 _ rfl
  have g1 := HX.out.c 1 _ rfl
  have f0 := HX.out.fr 0
  have f1 := HX.out.fr 1
  go_wp2_with fail
  ((try simp only [Exit.inBlock, Exit.then]); refine bodyPost_ret (results_cell1 rfl rfl (loadSp (((HX.out.set (k := 0) (by simp) (.int .i64 a)).set (k := 1) (by simp) (.int .i64 b))))) rfl ?_)
  exact ⟨rfl, (HB.out.setCell (p := ⟨g, 0, none⟩) HGW.out _).setCell (p := ⟨g, 1, none⟩) HGW.out _⟩
def RetLw (w : World) (e : Ending) (w' : World) : Prop := ∃ A c, e = .returned (.tuple #[.slice A woA.length c, tx uA]) ∧ At w' w'.heap.size 4 Wo.cells A woA ∧ Below w.heap.size w w'
set_option maxRecDepth 100000 in
set_option maxHeartbeats 1000000 in
theorem logL_any (w : World) : Calls Tryz.prog 33 #[] w (RetLw w) := by
  go_enter Tryz.func33, Tryz.ntmps33
  go_wp2_with fail
  refine (spanL_any 40 45 w).mono ?_
  rintro e V1 ⟨rfl, hb⟩
  have HB1 := Lib.hid hb
  clear hb
  go_wp2_with fail
  refine (spanL_any 7 7 V1).mono ?_
  rintro e V2 ⟨rfl, hb⟩
  have HB2 := Lib.hid (HB1.out.trans (hb.mono HB1.out.size))
  clear hb HB1
  have HX := Lib.hid (Bx.new V2 #[.int .i64 2, .int .i64 0, .int .i64 0, .int .i64 0, .int .i64 0, .int .i64 20, .int .i64 40, .int .i64 45, .int .i64 1, .int .i64 20, .int .i64 7, .int .i64 7] 66)
  have HN := Lib.hid (nxA V2 (.cells #[.int .i64 2, .int .i64 0, .int .i64 0, .int .i64 0, .int .i64 0, .int .i64 20, .int .i64 40, .int .i64 45, .int .i64 1, .int .i64 20, .int .i64 7, .int .i64 7] 66))
  go_wp2_with fail
  go_ret2
  refine ⟨some ⟨V2.heap.size, 0, none⟩, 3, rfl, ?_, HB2.out.trans (HN.out.mono HB2.out.size)⟩
  intro k x hx
  refine ⟨V2.heap.size, 0, rfl, HX.out.lt, fun j u hu => ?_⟩
  rw [Nat.zero_add]
  have := flat_get wo_len woA k x j u hx hu
  exact HX.out.c _ _ this
def RetPsc (w : World) (e : Ending) (w' : World) : Prop := ∃ A c, e = .returned (.tuple #[.slice A psA.length c, tx tA]) ∧ At w' w'.heap.size 28 Pc.cells A psA ∧ Below w.heap.size w w'
set_option maxRecDepth 100000 in
set_option maxHeartbeats 1000000 in
theorem scanL_any (w : World) : Calls Tryz.prog 32 #[] w (RetPsc w) := by
  go_enter Tryz.func32, Tryz.ntmps32
  go_wp2_with fail
  refine (spanL_any 200 200 w).mono ?_
  rintro e V1 ⟨rfl, hb⟩
  have HB1 := Lib.hid hb
  clear hb
  go_wp2_with fail
  refine (spanL_any 5 7 V1).mono ?_
  rintro e V2 ⟨rfl, hb⟩
  have HB2 := Lib.hid (HB1.out.trans (hb.mono HB1.out.size))
  clear hb HB1
  go_wp2_with fail
  refine (spanL_any 3 3 V2).mono ?_
  rintro e V3 ⟨rfl, hb⟩
  have HB3 := Lib.hid (HB2.out.trans (hb.mono HB2.out.size))
  clear hb HB2
  go_wp2_with fail
  have HN1 := nxA V3 (.cells #[.int .i64 2, .int .i64 200, .int .i64 200, .int .i64 5, .int .i64 7, .int .i64 3, .int .i64 3] 48)
  have HN2 := nxA (V3.alloc (.cells #[.int .i64 2, .int .i64 200, .int .i64 200, .int .i64 5, .int .i64 7, .int .i64 3, .int .i64 3] 48)) (.cells #[.int .i64 0, .int .i64 0, .int .i64 0, .int .i64 0, .int .i64 0, .int .i64 0, .int .i64 0, .int .i64 2, .int .i64 200, .int .i64 200, .int .i64 5, .int .i64 7, .int .i64 3, .int .i64 3, .int .i64 0, .int .i64 0, .int .i64 0, .int .i64 0, .int .i64 0, .int .i64 0, .int .i64 0, .int .i64 0, .int .i64 0, .int .i64 0, .int .i64 0, .int .i64 0, .int .i64 0, .int .i64 0] 51)
  have HX := Lib.hid (Bx.new (V3.alloc (.cells #[.int .i64 2, .int .i64 200, .int .i64 200, .int .i64 5, .int .i64 7, .int .i64 3, .int .i64 3] 48)) #[.int .i64 0, .int .i64 0, .int .i64 0, .int .i64 0, .int .i64 0, .int .i64 0, .int .i64 0, .int .i64 2, .int .i64 200, .int .i64 200, .int .i64 5, .int .i64 7, .int .i64 3, .int .i64 3, .int .i64 0, .int .i64 0, .int .i64 0, .int .i64 0, .int .i64 0, .int .i64 0, .int .i64 0, .int .i64 0, .int .i64 0, .int .i64 0, .int .i64 0, .int .i64 0, .int .i64 0, .int .i64 0] 51)
  go_ret2
  refine ⟨some ⟨(V3.alloc (.cells #[.int .i64 2, .int .i64 200, .int .i64 200, .int .i64 5, .int .i64 7, .int .i64 3, .int .i64 3] 48)).heap.size, 0, none⟩, 1, by simp only [World.size_alloc]; rfl, ?_, HB3.out.trans ((HN1.trans (HN2.mono HN1.size)).mono HB3.out.size)⟩
  intro k x hx
  refine ⟨_, 0, rfl, HX.out.lt, fun j u hu => ?_⟩
  rw [Nat.zero_add]
  have := flat_get pc_len psA k x j u hx hu
  exact HX.out.c _ _ this
theorem puat_psA {W : World} {p b : Nat} (h : Bx W p (puA.pieces.flatMap Pc.cells)) (_hb : b < p) : PuAt W W.heap.size ⟨puA, some ⟨p, 0, none⟩, 1⟩ :=
  ⟨fun k x hx => ⟨p, 0, rfl, h.lt, fun j u hu => by rw [Nat.zero_add]; exact h.c _ _ (flat_get pc_len puA.pieces k x j u hx hu)⟩, (by show 1 ≤ 9223372036854775807; decide), (by show 1 ≤ 1; decide)⟩
def RetDr (w : World) (e : Ending) (w' : World) : Prop := ∃ m : Mp, m.d = puA ∧ e = .returned (.tuple #[.agg #[.int .i64 m.d.play.len, .int .i64 m.d.play.slack, .int .i64 m.d.play.loose, .int .i64 m.d.play.damp.lo, .int .i64 m.d.play.damp.hi, .int .i64 m.d.wide, .int .i64 m.d.high, .bool m.d.turn, .slice m.A m.d.pieces.length m.c], tx sA]) ∧ PuAt w' w'.heap.size m ∧ Below w.heap.size w w'
set_option maxRecDepth 100000 in
set_option maxHeartbeats 2000000 in
theorem drawingL_any (w : World) : Calls Tryz.prog 31 #[] w (RetDr w) := by
  have HX0 := Lib.hid (Bx.new w puZ.toArray 28)
  have HB0 := Lib.hid (nxA w (.cells puZ.toArray 28))
  go_enter Tryz.func31, Tryz.ntmps31
  go_upto_region 1 with fail
  change Code.wp _ _ _ _ (w.alloc (.cells puZ.toArray 28))
  generalize (w.alloc (.cells puZ.toArray 28)) = V at *
  obtain ⟨b, hb⟩ : ∃ b, b = w.heap.size := ⟨_, rfl⟩
  rw [← hb] at HX0 ⊢
  have HBW := Lib.hid (show w.heap.size ≤ b by rw [hb]; omega)
  clear hb
  go_wp2_with fail
  refine (spanL_any 1000 1000 V).mono ?_
  rintro e V1 ⟨rfl, hb⟩
  replace HX0 := Lib.hid (HX0.out.next hb)
  replace HB0 := Lib.hid (HB0.out.trans (hb.mono HB0.out.size))
  clear hb
  go_wp2_with fail
  refine (spanL_any 480 490 V1).mono ?_
  rintro e V2 ⟨rfl, hb⟩
  replace HX0 := Lib.hid (HX0.out.next hb)
  replace HB0 := Lib.hid (HB0.out.trans (hb.mono HB0.out.size))
  clear hb
  go_wp2_with fail
  refine (spanL_any 400 400 V2).mono ?_
  rintro e V3 ⟨rfl, hb⟩
  have HN := nxA V3 (.cells #[.int .i64 1, .int .i64 1000, .int .i64 1000, .int .i64 480, .int .i64 490, .int .i64 400, .int .i64 400] 48)
  have HX1 := Lib.hid (Bx.new V3 #[.int .i64 1, .int .i64 1000, .int .i64 1000, .int .i64 480, .int .i64 490, .int .i64 400, .int .i64 400] 48)
  have HBG := Lib.hid (show b < V3.heap.size from (HX0.out.next hb).lt)
  replace HX0 := Lib.hid ((HX0.out.next hb).next HN)
  replace HB0 := Lib.hid (HB0.out.trans ((hb.trans (HN.mono hb.size)).mono HB0.out.size))
  clear hb HN
  go_upto_region 2 with fail
  generalize (V3.alloc (.cells #[.int .i64 1, .int .i64 1000, .int .i64 1000, .int .i64 480, .int .i64 490, .int .i64 400, .int .i64 400] 48)) = V4 at *
  obtain ⟨g, hg⟩ : ∃ g, g = V3.heap.size := ⟨_, rfl⟩
  rw [← hg] at HX1 ⊢
  have hgb : g ≠ b := by have := HX0.out.lt; have := HX1.out.lt; have := HBG.out; omega
  clear hg
  have HC := Lib.hid ((Below.refl V4.heap.size V4).drew)
  have HS := Lib.hid (show ∀ W : World, Below V4.heap.size V4 W → (W.cell? ⟨g, 0, none⟩ = some (.int .i64 1) ∧ W.cell? ⟨g, 1, none⟩ = some (.int .i64 1000) ∧ W.cell? ⟨g, 2, none⟩ = some (.int .i64 1000) ∧ W.cell? ⟨g, 3, none⟩ = some (.int .i64 480) ∧ W.cell? ⟨g, 4, none⟩ = some (.int .i64 490) ∧ W.cell? ⟨g, 5, none⟩ = some (.int .i64 400) ∧ W.cell? ⟨g, 6, none⟩ = some (.int .i64 400)) from fun W h => ⟨(HX1.out.next h).c 0 _ rfl, (HX1.out.next h).c 1 _ rfl, (HX1.out.next h).c 2 _ rfl, (HX1.out.next h).c 3 _ rfl, (HX1.out.next h).c 4 _ rfl, (HX1.out.next h).c 5 _ rfl, (HX1.out.next h).c 6 _ rfl⟩)
  refine wp_region_noPanic ?_
  refine wp_region_held_drew (S := (fun W => W.cell? ⟨g, 0, none⟩ = some (.int .i64 1) ∧ W.cell? ⟨g, 1, none⟩ = some (.int .i64 1000) ∧ W.cell? ⟨g, 2, none⟩ = some (.int .i64 1000) ∧ W.cell? ⟨g, 3, none⟩ = some (.int .i64 480) ∧ W.cell? ⟨g, 4, none⟩ = some (.int .i64 490) ∧ W.cell? ⟨g, 5, none⟩ = some (.int .i64 400) ∧ W.cell? ⟨g, 6, none⟩ = some (.int .i64 400))) (by kernel_rfl) ?_ (fun hHeld => ?_)
  · (try dsimp only); exact HS.out _ HC.out
  refine htake (i := 2) (v := ?v1) rfl (by kernel_rfl) (by kernel_rfl) (by kernel_rfl) (fun _ _ _ h => h) (Or.inl ⟨by rfl, ?hy1⟩) (by assumption) ?_
  case hy1 => (intro w hSw; (try dsimp only at hSw); go_simp; try (with_reducible rfl))
  try simp only [Act.put, List.setIfInBounds_toArray, List.set_cons_zero, List.set_cons_succ]
  refine htake (i := 3) (v := ?v2) rfl (by kernel_rfl) (by kernel_rfl) (by kernel_rfl) (fun _ _ _ h => h) (Or.inl ⟨by rfl, ?hy2⟩) (by assumption) ?_
  case hy2 => (intro w hSw; (try dsimp only at hSw); go_simp; try (with_reducible rfl))
  try simp only [Act.put, List.setIfInBounds_toArray, List.set_cons_zero, List.set_cons_succ]
  refine htake (i := 4) (v := ?v3) rfl (by kernel_rfl) (by kernel_rfl) (by kernel_rfl) (fun _ _ _ h => h) (Or.inl ⟨by rfl, ?hy3⟩) (by assumption) ?_
  case hy3 => (intro w hSw; (try dsimp only at hSw); go_simp; try (with_reducible rfl))
  try simp only [Act.put, List.setIfInBounds_toArray, List.set_cons_zero, List.set_cons_succ]
  refine wpAnyH_ready (rs := [0, 5]) (by kernel_rfl) (by simp) ?_
  refine hcons rfl (fun K hK => ?_) (hcons rfl (fun K hK => ?_) (AllReadyH.nil))
  go_simp
  refine (spanL_any 0 10 _).mono ?_; rintro e0 U0 ⟨rfl, hb⟩; (try replace HP := Lib.hid (HP.out.next hb)); replace HC := Lib.hid (HC.out.trans (hb.mono HC.out.size)); clear hb
  refine hK.out _ _ ?_ (fun hHeld => ?_)
  · (try dsimp only); exact HS.out _ HC.out
  clear hK K
  try simp only [Act.put, List.setIfInBounds_toArray, List.set_cons_zero, List.set_cons_succ]
  refine htake (i := 1) (v := ?v4) rfl (by kernel_rfl) (by kernel_rfl) (by kernel_rfl) (fun _ _ _ h => h) (Or.inl ⟨by rfl, ?hy4⟩) (by assumption) ?_
  case hy4 => (intro w hSw; (try dsimp only at hSw); go_simp; try (with_reducible rfl))
  try simp only [Act.put, List.setIfInBounds_toArray, List.set_cons_zero, List.set_cons_succ]
  refine wpAnyH_ready (rs := [5]) (by kernel_rfl) (by simp) ?_
  refine hcons rfl (fun K hK => ?_) (AllReadyH.nil)
  go_simp
  (first | refine hold_alloc (fun Wa q1 q2 q3 => ?_) | refine hold_alloc_drew (fun Wa q1 q2 q3 => ?_)); have HP := Lib.hid q2; have HPB := Lib.hid (Nat.lt_of_lt_of_le HX0.out.lt HC.out.size); (have HCn : Below V4.heap.size V4 Wa := by first | exact HC.out.trans (q1.mono HC.out.size) | exact q1); replace HC := Lib.hid HCn; clear HCn q1 q2 q3
  refine hK.out _ _ ?_ (fun hHeld => ?_)
  · (try dsimp only); exact HS.out _ HC.out
  clear hK K
  try simp only [Act.put, List.setIfInBounds_toArray, List.set_cons_zero, List.set_cons_succ]
  refine htake (i := 6) (v := ?v5) rfl (by kernel_rfl) (by kernel_rfl) (by kernel_rfl) (fun _ _ _ h => h) (Or.inl ⟨by rfl, ?hy5⟩) (by assumption) ?_
  case hy5 => (intro w hSw; (try dsimp only at hSw); go_simp; try (with_reducible rfl))
  try simp only [Act.put, List.setIfInBounds_toArray, List.set_cons_zero, List.set_cons_succ]
  refine wpAnyH_ready (rs := [7]) (by kernel_rfl) (by simp) ?_
  refine hcons rfl (fun K hK => ?_) (AllReadyH.nil)
  have z0 := (HX0.out.next HC.out).c 0 _ rfl; have z1 := (HX0.out.next HC.out).c 1 _ rfl; have z2 := (HX0.out.next HC.out).c 2 _ rfl; have z3 := (HX0.out.next HC.out).c 3 _ rfl; have z4 := (HX0.out.next HC.out).c 4 _ rfl; have z5 := (HX0.out.next HC.out).c 5 _ rfl; have z6 := (HX0.out.next HC.out).c 6 _ rfl; have z7 := (HX0.out.next HC.out).c 7 _ rfl; have z8 := (HX0.out.next HC.out).c 8 _ rfl; have y0 := (HX0.out.next HC.out).fr 0; have y1 := (HX0.out.next HC.out).fr 1; have y2 := (HX0.out.next HC.out).fr 2; have y3 := (HX0.out.next HC.out).fr 3; have y4 := (HX0.out.next HC.out).fr 4; have y5 := (HX0.out.next HC.out).fr 5; have y6 := (HX0.out.next HC.out).fr 6; have y7 := (HX0.out.next HC.out).fr 7; have y8 := (HX0.out.next HC.out).fr 8; go_simp; clear z0 z1 z2 z3 z4 z5 z6 z7 z8 y0 y1 y2 y3 y4 y5 y6 y7 y8
  refine hK.out _ _ ?_ (fun hHeld => ?_)
  · (try dsimp only); exact ⟨((HX1.out.next HC.out).setOther hgb [_, _, _, _, _, _, _, _, _] 0).c 0 _ rfl, ((HX1.out.next HC.out).setOther hgb [_, _, _, _, _, _, _, _, _] 0).c 1 _ rfl, ((HX1.out.next HC.out).setOther hgb [_, _, _, _, _, _, _, _, _] 0).c 2 _ rfl, ((HX1.out.next HC.out).setOther hgb [_, _, _, _, _, _, _, _, _] 0).c 3 _ rfl, ((HX1.out.next HC.out).setOther hgb [_, _, _, _, _, _, _, _, _] 0).c 4 _ rfl, ((HX1.out.next HC.out).setOther hgb [_, _, _, _, _, _, _, _, _] 0).c 5 _ rfl, ((HX1.out.next HC.out).setOther hgb [_, _, _, _, _, _, _, _, _] 0).c 6 _ rfl⟩
  clear hK K
  try simp only [Act.put]
  refine htake (i := 8) (v := ?v6) rfl (by kernel_rfl) (by kernel_rfl) (by kernel_rfl) (fun _ _ _ h => h) (Or.inl ⟨by rfl, ?hy6⟩) (by assumption) ?_
  case hy6 => (intro w hSw; (try dsimp only at hSw); go_simp; try (with_reducible rfl))
  try simp only [Act.put, List.setIfInBounds_toArray, List.set_cons_zero, List.set_cons_succ]
  refine wpAnyH_done (by kernel_rfl) ?_ _
  refine NoPanic.normal ?_
  rotate_left
  go_simp
  (first | refine hold_alloc (fun Wa q1 q2 q3 => ?_) | refine hold_alloc_drew (fun Wa q1 q2 q3 => ?_)); have HP := Lib.hid q2; have HPB := Lib.hid (Nat.lt_of_lt_of_le HX0.out.lt HC.out.size); (have HCn : Below V4.heap.size V4 Wa := by first | exact HC.out.trans (q1.mono HC.out.size) | exact q1); replace HC := Lib.hid HCn; clear HCn q1 q2 q3
  refine hK.out _ _ ?_ (fun hHeld => ?_)
  · (try dsimp only); exact HS.out _ HC.out
  clear hK K
  try simp only [Act.put, List.setIfInBounds_toArray, List.set_cons_zero, List.set_cons_succ]
  refine wpAnyH_ready (rs := [0]) (by kernel_rfl) (by simp) ?_
  refine hcons rfl (fun K hK => ?_) (AllReadyH.nil)
  go_simp
  refine (spanL_any 0 10 _).mono ?_; rintro e0 U0 ⟨rfl, hb⟩; (try replace HP := Lib.hid (HP.out.next hb)); replace HC := Lib.hid (HC.out.trans (hb.mono HC.out.size)); clear hb
  refine hK.out _ _ ?_ (fun hHeld => ?_)
  · (try dsimp only); exact HS.out _ HC.out
  clear hK K
  try simp only [Act.put, List.setIfInBounds_toArray, List.set_cons_zero, List.set_cons_succ]
  refine htake (i := 1) (v := ?v7) rfl (by kernel_rfl) (by kernel_rfl) (by kernel_rfl) (fun _ _ _ h => h) (Or.inl ⟨by rfl, ?hy7⟩) (by assumption) ?_
  case hy7 => (intro w hSw; (try dsimp only at hSw); go_simp; try (with_reducible rfl))
  try simp only [Act.put, List.setIfInBounds_toArray, List.set_cons_zero, List.set_cons_succ]
  refine htake (i := 6) (v := ?v8) rfl (by kernel_rfl) (by kernel_rfl) (by kernel_rfl) (fun _ _ _ h => h) (Or.inl ⟨by rfl, ?hy8⟩) (by assumption) ?_
  case hy8 => (intro w hSw; (try dsimp only at hSw); go_simp; try (with_reducible rfl))
  try simp only [Act.put, List.setIfInBounds_toArray, List.set_cons_zero, List.set_cons_succ]
  refine wpAnyH_ready (rs := [7]) (by kernel_rfl) (by simp) ?_
  refine hcons rfl (fun K hK => ?_) (AllReadyH.nil)
  have z0 := (HX0.out.next HC.out).c 0 _ rfl; have z1 := (HX0.out.next HC.out).c 1 _ rfl; have z2 := (HX0.out.next HC.out).c 2 _ rfl; have z3 := (HX0.out.next HC.out).c 3 _ rfl; have z4 := (HX0.out.next HC.out).c 4 _ rfl; have z5 := (HX0.out.next HC.out).c 5 _ rfl; have z6 := (HX0.out.next HC.out).c 6 _ rfl; have z7 := (HX0.out.next HC.out).c 7 _ rfl; have z8 := (HX0.out.next HC.out).c 8 _ rfl; have y0 := (HX0.out.next HC.out).fr 0; have y1 := (HX0.out.next HC.out).fr 1; have y2 := (HX0.out.next HC.out).fr 2; have y3 := (HX0.out.next HC.out).fr 3; have y4 := (HX0.out.next HC.out).fr 4; have y5 := (HX0.out.next HC.out).fr 5; have y6 := (HX0.out.next HC.out).fr 6; have y7 := (HX0.out.next HC.out).fr 7; have y8 := (HX0.out.next HC.out).fr 8; go_simp; clear z0 z1 z2 z3 z4 z5 z6 z7 z8 y0 y1 y2 y3 y4 y5 y6 y7 y8
  refine hK.out _ _ ?_ (fun hHeld => ?_)
  · (try dsimp only); exact ⟨((HX1.out.next HC.out).setOther hgb [_, _, _, _, _, _, _, _, _] 0).c 0 _ rfl, ((HX1.out.next HC.out).setOther hgb [_, _, _, _, _, _, _, _, _] 0).c 1 _ rfl, ((HX1.out.next HC.out).setOther hgb [_, _, _, _, _, _, _, _, _] 0).c 2 _ rfl, ((HX1.out.next HC.out).setOther hgb [_, _, _, _, _, _, _, _, _] 0).c 3 _ rfl, ((HX1.out.next HC.out).setOther hgb [_, _, _, _, _, _, _, _, _] 0).c 4 _ rfl, ((HX1.out.next HC.out).setOther hgb [_, _, _, _, _, _, _, _, _] 0).c 5 _ rfl, ((HX1.out.next HC.out).setOther hgb [_, _, _, _, _, _, _, _, _] 0).c 6 _ rfl⟩
  clear hK K
  try simp only [Act.put]
  refine htake (i := 8) (v := ?v9) rfl (by kernel_rfl) (by kernel_rfl) (by kernel_rfl) (fun _ _ _ h => h) (Or.inl ⟨by rfl, ?hy9⟩) (by assumption) ?_
  case hy9 => (intro w hSw; (try dsimp only at hSw); go_simp; try (with_reducible rfl))
  try simp only [Act.put, List.setIfInBounds_toArray, List.set_cons_zero, List.set_cons_succ]
  refine wpAnyH_done (by kernel_rfl) ?_ _
  refine NoPanic.normal ?_
  iterate 10 (try clear hHeld)
  all_goals
    go_wp2_with fail
    ((try simp only [Exit.inBlock, Exit.then]); refine bodyPost_ret (results_cellA rfl rfl (loadPu ((HX0.out.next HC.out).setAll [.int .i64 2000, .int .i64 20, .int .i64 30, .int .i64 0, .int .i64 10, .int .i64 1, .int .i64 1, .bool true, .slice (some ⟨_, 0, none⟩) 1 1] rfl))) rfl ?_)
    have hpu := puat_psA HP.out HPB.out
    exact ⟨⟨puA, some ⟨_, 0, none⟩, 1⟩, rfl, rfl, hpu.sets [.int .i64 2000, .int .i64 20, .int .i64 30, .int .i64 0, .int .i64 10, .int .i64 1, .int .i64 1, .bool true, .slice (some ⟨_, 0, none⟩) 1 1] (fun a ha => by injection ha with ha; rw [← ha]; exact Nat.ne_of_gt HPB.out), below_setCells HBW.out [.int .i64 2000, .int .i64 20, .int .i64 30, .int .i64 0, .int .i64 10, .int .i64 1, .int .i64 1, .bool true, .slice (some ⟨_, 0, none⟩) 1 1] 0 (HB0.out.trans (HC.out.mono HB0.out.size))⟩
end
end Go.Proofs.YtonnemkecppmiaaGreatDoor
