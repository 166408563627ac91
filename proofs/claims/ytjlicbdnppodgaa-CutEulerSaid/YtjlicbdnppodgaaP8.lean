import Derived.Test.YtjlicbdnppodgaaP6
import Derived.Test.YtjlicbdnppodgaaChk
namespace Go.Proofs.Ytjlicbdnppodgaa
open Go.RowKit
/-! The program: Check. -/
theorem IBlk.at_ {w : World} {g n m : Nat} {f : Int → Int} (h : IBlk w g n (fun j => f (j : Int))) (hm : m ≤ n) : At w w.heap.size 1 icell (some ⟨g, 0, none⟩) (partL f m) := fun k x hx => by
  have hk : k < m := by have := (List.getElem?_eq_some_iff.1 hx).1; rw [partL_len] at this; exact this
  have hv : x = f (k : Int) := by
    have := partL_get f hk
    rw [List.getD_eq_getElem?_getD, hx] at this
    exact this
  refine ⟨g, 0, rfl, h.lt, fun j u hu => ?_⟩
  unfold icell at hu
  match j, hu with
  | 0, hu =>
    injection hu with hu
    rw [← hu, hv, Nat.mul_one, Nat.zero_add]
    exact h.cell k (by omega)
theorem intsL_len (n : Nat) (f : Nat → Int) : (intsL n f).length = n := by unfold intsL; simp
theorem IBlk.of_set {w : World} {g n : Nat} {f f' : Nat → Int} (h : IBlk w g n f) : IBlk (w.setCells g 0 (intsL n f')) g n f' := by
  have hs := World.rangeAt_setCells_same w g 0 (intsL n f') (by rw [intsL_len]; exact h.there)
  refine ⟨by rw [wset_eq, setCells_size]; exact h.lt, fun j hj => ?_, fun j => by rw [wset_eq, setCells_frozen]; exact h.free j⟩
  have := hs j (.int .i64 (f' j)) (by unfold intsL; rw [List.getElem?_map, List.getElem?_range hj]; rfl)
  rw [Nat.zero_add] at this
  exact this
theorem intsL_one (n : Nat) (f : Nat → Int) : (intsL n f).toArray.all (·.oneCell') = true := all_oneCell_toArray (fun v hv => by
  unfold intsL at hv
  obtain ⟨k, -, rfl⟩ := List.mem_map.1 hv
  rfl)
theorem sliceArr (g n : Nat) (W : World) {x : Int} (hx : (n : Int) = x) (hn : n ≤ 40) : (Instr.sliceAt 50 (.pointer (some ⟨g, 0, none⟩)) none (some (.int .i64 x)) none).run Try.prog W = .ok (.slice (some ⟨g, 0, none⟩) n 40) W := by
  have ha : Try.prog.arrayLen 50 = 40 := by kernel_rfl
  have hu : Try.prog.underlying 50 = some (.array (Try.prog.arrayLen 50) (Try.prog.elem 50)) := by kernel_rfl
  have hs : ∀ W, (sizeOf (Try.prog.elem 50)).run Try.prog W = .ok 1 W := fun W => by kernel_rfl
  subst hx
  rw [run_sliceAt_array_h (P := Try.prog) W 50 ⟨g, 0, none⟩ hu .i64 n (by omega) (by omega), hs, Result.andThen_ok, ha]
  simp [slicedAt, Addr.add]
theorem storeZ (V4 : World) (f : Int → Int) : (storeCells ⟨V4.heap.size, 0, none⟩ (intsL 40 (fun j => f (j : Int)))).run Try.prog (V4.alloc (Obj.cells (Value.int .i64 0 :: Value.int .i64 0 :: Value.int .i64 0 :: Value.int .i64 0 :: Value.int .i64 0 :: Value.int .i64 0 :: Value.int .i64 0 :: Value.int .i64 0 :: Value.int .i64 0 :: Value.int .i64 0 :: Value.int .i64 0 :: Value.int .i64 0 :: Value.int .i64 0 :: Value.int .i64 0 :: Value.int .i64 0 :: Value.int .i64 0 :: Value.int .i64 0 :: Value.int .i64 0 :: Value.int .i64 0 :: Value.int .i64 0 :: Value.int .i64 0 :: Value.int .i64 0 :: Value.int .i64 0 :: Value.int .i64 0 :: Value.int .i64 0 :: Value.int .i64 0 :: Value.int .i64 0 :: Value.int .i64 0 :: Value.int .i64 0 :: Value.int .i64 0 :: Value.int .i64 0 :: Value.int .i64 0 :: Value.int .i64 0 :: Value.int .i64 0 :: Value.int .i64 0 :: Value.int .i64 0 :: Value.int .i64 0 :: Value.int .i64 0 :: Value.int .i64 0 :: Value.int .i64 0 :: []).toArray 50)) = .ok () ((V4.alloc (Obj.cells (Value.int .i64 0 :: Value.int .i64 0 :: Value.int .i64 0 :: Value.int .i64 0 :: Value.int .i64 0 :: Value.int .i64 0 :: Value.int .i64 0 :: Value.int .i64 0 :: Value.int .i64 0 :: Value.int .i64 0 :: Value.int .i64 0 :: Value.int .i64 0 :: Value.int .i64 0 :: Value.int .i64 0 :: Value.int .i64 0 :: Value.int .i64 0 :: Value.int .i64 0 :: Value.int .i64 0 :: Value.int .i64 0 :: Value.int .i64 0 :: Value.int .i64 0 :: Value.int .i64 0 :: Value.int .i64 0 :: Value.int .i64 0 :: Value.int .i64 0 :: Value.int .i64 0 :: Value.int .i64 0 :: Value.int .i64 0 :: Value.int .i64 0 :: Value.int .i64 0 :: Value.int .i64 0 :: Value.int .i64 0 :: Value.int .i64 0 :: Value.int .i64 0 :: Value.int .i64 0 :: Value.int .i64 0 :: Value.int .i64 0 :: Value.int .i64 0 :: Value.int .i64 0 :: Value.int .i64 0 :: []).toArray 50)).setCells V4.heap.size 0 (intsL 40 (fun j => f (j : Int)))) := by
  have Z := (zeros40 V4 50).there
  generalize V4.alloc (Obj.cells (Value.int .i64 0 :: Value.int .i64 0 :: Value.int .i64 0 :: Value.int .i64 0 :: Value.int .i64 0 :: Value.int .i64 0 :: Value.int .i64 0 :: Value.int .i64 0 :: Value.int .i64 0 :: Value.int .i64 0 :: Value.int .i64 0 :: Value.int .i64 0 :: Value.int .i64 0 :: Value.int .i64 0 :: Value.int .i64 0 :: Value.int .i64 0 :: Value.int .i64 0 :: Value.int .i64 0 :: Value.int .i64 0 :: Value.int .i64 0 :: Value.int .i64 0 :: Value.int .i64 0 :: Value.int .i64 0 :: Value.int .i64 0 :: Value.int .i64 0 :: Value.int .i64 0 :: Value.int .i64 0 :: Value.int .i64 0 :: Value.int .i64 0 :: Value.int .i64 0 :: Value.int .i64 0 :: Value.int .i64 0 :: Value.int .i64 0 :: Value.int .i64 0 :: Value.int .i64 0 :: Value.int .i64 0 :: Value.int .i64 0 :: Value.int .i64 0 :: Value.int .i64 0 :: Value.int .i64 0 :: []).toArray 50) = V at *
  have := run_storeCells_cells (P := Try.prog) V4.heap.size 0 (intsL 40 (fun j => f (j : Int))) 0 V (fun j hj => by rw [intsL_len] at hj; simpa using (Z j hj).1) (fun j hj => by rw [intsL_len] at hj; simpa using (Z j hj).2) (fun v hv => by
    unfold intsL at hv
    obtain ⟨k, -, rfl⟩ := List.mem_map.1 hv
    rfl)
  exact this
structure StoredZ (V4 : World) (f : Int → Int) (V5 : World) : Prop where
  i : IBlk V5 V4.heap.size 40 (fun j => f (j : Int))
  b : Below V4.heap.size V4 V5
theorem storedZ (V4 : World) (f : Int → Int) : StoredZ V4 f ((V4.alloc (Obj.cells (Value.int .i64 0 :: Value.int .i64 0 :: Value.int .i64 0 :: Value.int .i64 0 :: Value.int .i64 0 :: Value.int .i64 0 :: Value.int .i64 0 :: Value.int .i64 0 :: Value.int .i64 0 :: Value.int .i64 0 :: Value.int .i64 0 :: Value.int .i64 0 :: Value.int .i64 0 :: Value.int .i64 0 :: Value.int .i64 0 :: Value.int .i64 0 :: Value.int .i64 0 :: Value.int .i64 0 :: Value.int .i64 0 :: Value.int .i64 0 :: Value.int .i64 0 :: Value.int .i64 0 :: Value.int .i64 0 :: Value.int .i64 0 :: Value.int .i64 0 :: Value.int .i64 0 :: Value.int .i64 0 :: Value.int .i64 0 :: Value.int .i64 0 :: Value.int .i64 0 :: Value.int .i64 0 :: Value.int .i64 0 :: Value.int .i64 0 :: Value.int .i64 0 :: Value.int .i64 0 :: Value.int .i64 0 :: Value.int .i64 0 :: Value.int .i64 0 :: Value.int .i64 0 :: Value.int .i64 0 :: []).toArray 50)).setCells V4.heap.size 0 (intsL 40 (fun j => f (j : Int)))) := by
  have Z := zeros40 V4 50
  have N := nxA V4 (Obj.cells (Value.int .i64 0 :: Value.int .i64 0 :: Value.int .i64 0 :: Value.int .i64 0 :: Value.int .i64 0 :: Value.int .i64 0 :: Value.int .i64 0 :: Value.int .i64 0 :: Value.int .i64 0 :: Value.int .i64 0 :: Value.int .i64 0 :: Value.int .i64 0 :: Value.int .i64 0 :: Value.int .i64 0 :: Value.int .i64 0 :: Value.int .i64 0 :: Value.int .i64 0 :: Value.int .i64 0 :: Value.int .i64 0 :: Value.int .i64 0 :: Value.int .i64 0 :: Value.int .i64 0 :: Value.int .i64 0 :: Value.int .i64 0 :: Value.int .i64 0 :: Value.int .i64 0 :: Value.int .i64 0 :: Value.int .i64 0 :: Value.int .i64 0 :: Value.int .i64 0 :: Value.int .i64 0 :: Value.int .i64 0 :: Value.int .i64 0 :: Value.int .i64 0 :: Value.int .i64 0 :: Value.int .i64 0 :: Value.int .i64 0 :: Value.int .i64 0 :: Value.int .i64 0 :: Value.int .i64 0 :: []).toArray 50)
  generalize V4.alloc (Obj.cells (Value.int .i64 0 :: Value.int .i64 0 :: Value.int .i64 0 :: Value.int .i64 0 :: Value.int .i64 0 :: Value.int .i64 0 :: Value.int .i64 0 :: Value.int .i64 0 :: Value.int .i64 0 :: Value.int .i64 0 :: Value.int .i64 0 :: Value.int .i64 0 :: Value.int .i64 0 :: Value.int .i64 0 :: Value.int .i64 0 :: Value.int .i64 0 :: Value.int .i64 0 :: Value.int .i64 0 :: Value.int .i64 0 :: Value.int .i64 0 :: Value.int .i64 0 :: Value.int .i64 0 :: Value.int .i64 0 :: Value.int .i64 0 :: Value.int .i64 0 :: Value.int .i64 0 :: Value.int .i64 0 :: Value.int .i64 0 :: Value.int .i64 0 :: Value.int .i64 0 :: Value.int .i64 0 :: Value.int .i64 0 :: Value.int .i64 0 :: Value.int .i64 0 :: Value.int .i64 0 :: Value.int .i64 0 :: Value.int .i64 0 :: Value.int .i64 0 :: Value.int .i64 0 :: Value.int .i64 0 :: []).toArray 50) = V at *
  exact ⟨Z.of_set, by rw [wset_eq]; exact below_setCells (Nat.le_refl _) _ 0 N⟩
set_option maxRecDepth 100000 in
set_option maxHeartbeats 2000000 in
theorem CheckP_any (c : Cut) (w : World) (hr : CutAt w w.heap.size c) : Calls Try.prog 14 #[.agg #[.int .i64 c.wide, .int .i64 c.high, .slice c.A c.piece.length c.c]] w (Ret (checkV c) w) := by
  have HX := Lib.hid (Bx.new w #[.int .i64 c.wide, .int .i64 c.high, .slice c.A c.piece.length c.c] 24)
  have HB := Lib.hid (nxA w (.cells #[.int .i64 c.wide, .int .i64 c.high, .slice c.A c.piece.length c.c] 24))
  have HR := Lib.hid (hr.next HB.out)
  have HV := Lib.hid (show checkV c = .tuple #[.int .i64 (checkS c).1, .int .i64 (checkS c).2] from rfl)
  clear hr
  go_enter Try.func14, Try.ntmps14
  go_upto_region 1 with fail
  generalize (w.alloc (.cells #[.int .i64 c.wide, .int .i64 c.high, .slice c.A c.piece.length c.c] 24)) = V at *
  have c0 := HX.out.c 0 _ rfl
  have c1 := HX.out.c 1 _ rfl
  have c2 := HX.out.c 2 _ rfl
  go_wp2_with fail
  refine (isCut_any c V HR.out).mono ?_
  rintro e V2 ⟨rfl, hb⟩
  clear c0 c1 c2
  have HX2 := Lib.hid (HX.out.next hb)
  have HR2 := Lib.hid (HR.out.next hb)
  have HB2 := Lib.hid (HB.out.trans (hb.mono HB.out.size))
  clear HX HR HB hb
  cases hc : cutS c
  · have HC := Lib.hid (check_bad hc)
    clear hc
    go_wp2_with fail
    go_ret2
    exact ⟨by rw [HV.out, HC.out]; rfl, HB2.out⟩
  have ok := (okc_iff c).1 hc
  have hg := great_bd ok
  have hpos : 0 < c.piece.length := by
    have := Int.mul_le_mul ok.w.1 ok.h.1 (by omega) (by have := ok.w; omega)
    have := ok.len
    omega
  have OK := Lib.hid ok
  have HC := Lib.hid hc
  obtain ⟨n, hn⟩ : ∃ n : Nat, (n : Int) = greatS c + 1 := ⟨(greatS c + 1).toNat, by omega⟩
  have HN := Lib.hid hn
  clear ok hc
  have c0 := HX2.out.c 0 _ rfl
  have c1 := HX2.out.c 1 _ rfl
  have c2 := HX2.out.c 2 _ rfl
  go_wp2_with fail
  refine (newPicture_any c V2 OK.out HR2.out).mono ?_
  rintro e V3 ⟨bm, rfl, hbm, hpic, hb3⟩
  clear c0 c1 c2
  have HX3 := Lib.hid (HX2.out.next hb3)
  have HR3 := Lib.hid (HR2.out.next hb3)
  have HB3 := Lib.hid (HB2.out.trans (hb3.mono HB2.out.size))
  have HP := Lib.hid hpic
  clear HX2 HR2 HB2 hb3 hpic
  go_wp2_with fail
  refine (parts_any c bm V3 OK.out HP.out).mono ?_
  rintro e V4 ⟨f, hf, rfl, hb4⟩
  have HX4 := Lib.hid (HX3.out.next hb4)
  have HR4 := Lib.hid (HR3.out.next hb4)
  have HB4 := Lib.hid (HB3.out.trans (hb4.mono HB3.out.size))
  have HF := Lib.hid hf
  clear HX3 HR3 HB3 HP hb4 hf
  have HS := Lib.hid (storedZ V4 f)
  go_wp2_with fail
  rw [storeZ V4 f]
  generalize (V4.alloc (Obj.cells (Value.int .i64 0 :: Value.int .i64 0 :: Value.int .i64 0 :: Value.int .i64 0 :: Value.int .i64 0 :: Value.int .i64 0 :: Value.int .i64 0 :: Value.int .i64 0 :: Value.int .i64 0 :: Value.int .i64 0 :: Value.int .i64 0 :: Value.int .i64 0 :: Value.int .i64 0 :: Value.int .i64 0 :: Value.int .i64 0 :: Value.int .i64 0 :: Value.int .i64 0 :: Value.int .i64 0 :: Value.int .i64 0 :: Value.int .i64 0 :: Value.int .i64 0 :: Value.int .i64 0 :: Value.int .i64 0 :: Value.int .i64 0 :: Value.int .i64 0 :: Value.int .i64 0 :: Value.int .i64 0 :: Value.int .i64 0 :: Value.int .i64 0 :: Value.int .i64 0 :: Value.int .i64 0 :: Value.int .i64 0 :: Value.int .i64 0 :: Value.int .i64 0 :: Value.int .i64 0 :: Value.int .i64 0 :: Value.int .i64 0 :: Value.int .i64 0 :: Value.int .i64 0 :: Value.int .i64 0 :: []).toArray 50)).setCells V4.heap.size 0 (intsL 40 (fun j => f (j : Int))) = V5 at *
  have HX5 := Lib.hid (HX4.out.next HS.out.b)
  have HR5 := Lib.hid (HR4.out.next HS.out.b)
  have HB5 := Lib.hid (HB4.out.trans (HS.out.b.mono HB4.out.size))
  have HI := Lib.hid HS.out.i
  have HM := Lib.hid (max_great OK.out)
  generalize V4.heap.size = g at *
  clear HX4 HR4 HB4 HS
  have c0 := HX5.out.c 0 _ rfl
  have c1 := HX5.out.c 1 _ rfl
  have c2 := HX5.out.c 2 _ rfl
  go_wp2_with fail
  refine (Max_any _ _ c.piece V5 HR5.out.pa HR5.out.l1 hpos).mono ?_
  rintro e W ⟨rfl, rfl⟩
  rw [HM.out]
  have hw1 : IntKind.i64.wrap (greatS c + 1) = greatS c + 1 := IntWalk.i64_in _ (by omega)
  have hsl := fun W => sliceArr g n W hn (by omega)
  go_wp2_with fail
  have H1 := indexEq_any 0 (some ⟨g, 0, none⟩) 40 (partL f n) V5 (HI.out.at_ (by omega)) (by rw [partL_len]; omega)
  rw [partL_len] at H1
  refine H1.mono ?_
  clear H1
  rintro e W ⟨rfl, rfl⟩
  obtain ⟨q1, q2, q3⟩ := check_prog HC.out HF.out hn
  by_cases h1 : 0 ≤ firstI (eqPc 0) (partL f n)
  · have HE := Lib.hid (q1 h1)
    clear q1 q2 q3
    generalize firstI (eqPc 0) (partL f n) = x at *
    go_wp2_with fail
    go_ret2
    exact ⟨by rw [HV.out, HE.out]; rfl, HB5.out⟩
  replace q2 := q2 (by omega)
  replace q3 := q3 (by omega)
  clear q1
  have H2 := indexMany_any (some ⟨g, 0, none⟩) 40 (partL f n) V5 (HI.out.at_ (by omega)) (by rw [partL_len]; omega)
  rw [partL_len] at H2
  generalize firstI (eqPc 0) (partL f n) = x at *
  have HQ2 := Lib.hid q2
  have HQ3 := Lib.hid q3
  have HH2 := Lib.hid H2
  clear q2 q3 H2
  go_wp2_with fail
  refine HH2.out.mono ?_
  rintro e W ⟨rfl, rfl⟩
  by_cases h2 : 0 ≤ firstI manyPc (partL f n)
  · have HE := Lib.hid (HQ2.out h2)
    clear HQ2 HQ3 HH2
    generalize firstI manyPc (partL f n) = y at *
    go_wp2_with fail
    go_ret2
    exact ⟨by rw [HV.out, HE.out]; rfl, HB5.out⟩
  · have HE := Lib.hid (HQ3.out (by omega))
    clear HQ2 HQ3 HH2
    generalize firstI manyPc (partL f n) = y at *
    go_wp2_with fail
    go_ret2
    exact ⟨by rw [HV.out, HE.out]; rfl, HB5.out⟩
end Go.Proofs.Ytjlicbdnppodgaa
