import Derived.Test.YtfffhbolaimmdaaDoorC1
namespace Go.Proofs.YtfffhbolaimmdaaDoor
open Go.RowKit
theorem IBlk.span (w : World) (a b : Int) (t : TypeId) : IBlk (w.alloc (.cells #[.int .i64 a, .int .i64 b] t)) w.heap.size 2 (two a b) := ⟨by simp, fun j hj => by
    match j, hj with
    | 0, _ => simp [go_sem, two]
    | 1, _ => simp [go_sem, two], fun j => by simp [go_sem]⟩
set_option maxRecDepth 100000 in
set_option maxHeartbeats 1000000 in
theorem StockProfits_walk (s : Store) (st : Int) (w : World) (hr : StoreAt w w.heap.size s) (he : Env w) : Calls Tryd.prog 4 #[.agg #[.slice s.A1 s.sheets.length s.c1, .slice s.A2 s.lics.length s.c2, .slice s.A3 s.makes.length s.c3, .slice s.A4 s.wishes.length s.c4], .int .i64 st] w (Ret (.bool true) w) := by
  have K1 := Lib.hid (AwW.start hr he 27)
  have B1 := Lib.hid (nxA w (.cells #[.slice s.A1 s.sheets.length s.c1, .slice s.A2 s.lics.length s.c2, .slice s.A3 s.makes.length s.c3, .slice s.A4 s.wishes.length s.c4] 27))
  clear hr he
  obtain ⟨x, y, hxy⟩ : ∃ x y, profitS s st = (x, y) := ⟨_, _, rfl⟩
  have EP := Lib.hid hxy
  clear hxy
  have p0 := True.intro
  have p1 := True.intro
  have p2 := True.intro
  have p3 := True.intro
  go_enter Tryd.func4, Tryd.ntmps4
  go_wp2_with fail
  generalize (w.alloc (.cells #[.slice s.A1 s.sheets.length s.c1, .slice s.A2 s.lics.length s.c2, .slice s.A3 s.makes.length s.c3, .slice s.A4 s.wishes.length s.c4] 27)) = V1 at *
  refine (far_any s V1 K1.out.st).mono ?_
  rintro e V2 ⟨rfl, hb⟩
  have K2 := Lib.hid (K1.out.next hb)
  have B2 := Lib.hid (B1.out.trans (hb.mono B1.out.size))
  clear hb K1 B1 p0 p1 p2 p3
  obtain ⟨-, -, -, p0, p1, p2, p3⟩ := id K2.out
  cases hf : farS s
  · have hn9 := (far_no hf).1
    have hn := lenIf_le (acceptedS s st) s.sheets.length
    clear hf
    go_wp2_with fail
    refine (Lacks19_any s st V2 K2.out.st K2.out.en).mono ?_
    rintro e V3 ⟨A3, c3, rfl, hA, hb⟩
    have K3 := Lib.hid (K2.out.next hb)
    have B3 := Lib.hid (B2.out.trans (hb.mono B2.out.size))
    have T3 := Lib.hid hA
    clear hA
    clear hb K2 B2 p0 p1 p2 p3
    obtain ⟨-, -, -, p0, p1, p2, p3⟩ := id K3.out
    go_wp2_with fail
    refine (Lacks_any s st V3 K3.out.st).mono ?_
    rintro e V4 ⟨A4, c4, rfl, hA, hb⟩
    have K4 := Lib.hid (K3.out.next hb)
    have B4 := Lib.hid (B3.out.trans (hb.mono B3.out.size))
    have T4 := Lib.hid (T3.out.nextB hb)
    have U4 := Lib.hid hA
    clear hA
    clear hb K3 B3 T3 p0 p1 p2 p3
    obtain ⟨-, -, -, p0, p1, p2, p3⟩ := id K4.out
    go_wp2_with fail
    refine (Covered21_any s st V4 K4.out.st K4.out.en).mono ?_
    rintro e V5 ⟨rfl, hb⟩
    have K5 := Lib.hid (K4.out.next hb)
    have B5 := Lib.hid (B4.out.trans (hb.mono B4.out.size))
    have T5 := Lib.hid (T4.out.nextB hb)
    have U5 := Lib.hid (U4.out.nextB hb)
    clear hb K4 B4 T4 U4 p0 p1 p2 p3
    obtain ⟨-, -, -, p0, p1, p2, p3⟩ := id K5.out
    go_wp2_with fail
    refine (Covered_any s st V5 K5.out.st).mono ?_
    rintro e V6 ⟨rfl, hb⟩
    have K6 := Lib.hid (K5.out.next hb)
    have B6 := Lib.hid (B5.out.trans (hb.mono B5.out.size))
    have T6 := Lib.hid (T5.out.nextB hb)
    have U6 := Lib.hid (U5.out.nextB hb)
    clear hb K5 B5 T5 U5 p0 p1 p2 p3
    obtain ⟨-, -, -, p0, p1, p2, p3⟩ := id K6.out
    go_wp2_with fail
    have HP := Lib.hid (Profit23_any s st V6 K6.out.st K6.out.en)
    rw [EP.out] at HP
    refine HP.out.mono ?_
    rintro e V7 ⟨rfl, hb⟩
    dsimp only
    have hz7 : V7.heap.size < (V7.alloc (.cells #[.int .i64 x, .int .i64 y] 44)).heap.size := by simp
    replace hb := hb.alloc hb.size (.cells #[.int .i64 x, .int .i64 y] 44)
    have P8 := Lib.hid (IBlk.span V7 x y 44)
    have K8 := Lib.hid (K6.out.next hb)
    have B8 := Lib.hid (B6.out.trans (hb.mono B6.out.size))
    have T8 := Lib.hid (T6.out.nextB hb)
    have U8 := Lib.hid (U6.out.nextB hb)
    clear hb K6 B6 T6 U6 p0 p1 p2 p3 HP
    obtain ⟨-, -, -, p0, p1, p2, p3⟩ := id K8.out
    go_wp2_with fail
    generalize (V7.alloc (.cells #[.int .i64 x, .int .i64 y] 44)) = V8 at *
    have HP := Lib.hid (Profit_any s st V8 K8.out.st)
    rw [EP.out] at HP
    refine HP.out.mono ?_
    rintro e V9 ⟨rfl, hb⟩
    dsimp only
    have hz9 : V9.heap.size < (V9.alloc (.cells #[.int .i64 x, .int .i64 y] 44)).heap.size := by simp
    have hz89 := hb.size
    replace hb := hb.alloc hb.size (.cells #[.int .i64 x, .int .i64 y] 44)
    have Q10 := Lib.hid (IBlk.span V9 x y 44)
    have P10 := Lib.hid (P8.out.next hb)
    have K10 := Lib.hid (K8.out.next hb)
    have B10 := Lib.hid (B8.out.trans (hb.mono B8.out.size))
    have T10 := Lib.hid (T8.out.nextB hb)
    have U10 := Lib.hid (U8.out.nextB hb)
    clear hb K8 B8 T8 U8 P8 p0 p1 p2 p3 HP EP
    generalize lacksS s st.toNat = f at *
    generalize lenIf (acceptedS s st) s.sheets.length = n at *
    generalize surelyS s st = sy at *
    generalize canS s st = cy at *
    generalize acceptedS s st = ac at *
    have hq := fun W => span_eql x y x y W
    simp only [beq_self_eq_true, Bool.and_self] at hq
    have hq3 := span_eq3
    go_wp2_with fail
    generalize (V9.alloc (.cells #[.int .i64 x, .int .i64 y] 44)) = V10 at *
    refine (spans_tab n f (by omega) T10.out U10.out).mono ?_
    rintro e V11 ⟨rfl, hb⟩
    have x0 : V11.cell? ⟨V7.heap.size, 0, none⟩ = some (.int .i64 x) := (P10.out.next hb).cell 0 (by omega)
    have x1 : V11.cell? ⟨V7.heap.size, 1, none⟩ = some (.int .i64 y) := (P10.out.next hb).cell 1 (by omega)
    have y0 : V11.cell? ⟨V9.heap.size, 0, none⟩ = some (.int .i64 x) := (Q10.out.next hb).cell 0 (by omega)
    have y1 : V11.cell? ⟨V9.heap.size, 1, none⟩ = some (.int .i64 y) := (Q10.out.next hb).cell 1 (by omega)
    have B11 := Lib.hid (B10.out.trans (hb.mono B10.out.size))
    have HA := Lib.hid (awake_any V11 (K10.out.next hb).en)
    clear hb K10 B10 T10 U10 P10 Q10
    go_wp2_with fail
    refine HA.out.mono ?_
    rintro e V12 ⟨rfl, hb⟩
    have B12 := Lib.hid (B11.out.trans (hb.mono B11.out.size))
    clear hb B11 HA x0 x1 y0 y1
    go_wp2
    go_ret
    exact ⟨rfl, B12.out⟩
  · go_wp2_with fail
    refine (awake_any V2 K2.out.en).mono ?_
    rintro e V3 ⟨rfl, hb⟩
    have HB3 := Lib.hid (B2.out.trans (hb.mono B2.out.size))
    clear hb
    go_wp2
    go_ret
    exact ⟨rfl, HB3.out⟩
set_option maxRecDepth 100000 in
set_option maxHeartbeats 1000000 in
theorem StockAccepts_walk (s : Store) (w : World) (hr : StoreAt w w.heap.size s) (he : Env w) : Calls Tryd.prog 5 #[.agg #[.slice s.A1 s.sheets.length s.c1, .slice s.A2 s.lics.length s.c2, .slice s.A3 s.makes.length s.c3, .slice s.A4 s.wishes.length s.c4]] w (Ret (.bool true) w) := by
  have K1 := Lib.hid (AwW.start hr he 27)
  have B1 := Lib.hid (nxA w (.cells #[.slice s.A1 s.sheets.length s.c1, .slice s.A2 s.lics.length s.c2, .slice s.A3 s.makes.length s.c3, .slice s.A4 s.wishes.length s.c4] 27))
  clear hr he
  have p0 := True.intro
  have p1 := True.intro
  have p2 := True.intro
  have p3 := True.intro
  go_enter Tryd.func5, Tryd.ntmps5
  go_wp2_with fail
  generalize (w.alloc (.cells #[.slice s.A1 s.sheets.length s.c1, .slice s.A2 s.lics.length s.c2, .slice s.A3 s.makes.length s.c3, .slice s.A4 s.wishes.length s.c4] 27)) = V1 at *
  refine (far_any s V1 K1.out.st).mono ?_
  rintro e V2 ⟨rfl, hb⟩
  have K2 := Lib.hid (K1.out.next hb)
  have B2 := Lib.hid (B1.out.trans (hb.mono B1.out.size))
  clear hb K1 B1 p0 p1 p2 p3
  obtain ⟨-, -, -, p0, p1, p2, p3⟩ := id K2.out
  cases hf : farS s
  · have hn9 := (far_no hf).1
    have hn := lenIf_le (acS s) s.sheets.length
    clear hf
    go_wp2_with fail
    refine (Accept26_any s V2 K2.out.st).mono ?_
    rintro e V3 ⟨rfl, hb⟩
    have K3 := Lib.hid (K2.out.next hb)
    have B3 := Lib.hid (B2.out.trans (hb.mono B2.out.size))
    clear hb K2 B2 p0 p1 p2 p3
    obtain ⟨-, -, -, p0, p1, p2, p3⟩ := id K3.out
    go_wp2_with fail
    refine (Accept_any s V3 K3.out.st).mono ?_
    rintro e V4 ⟨rfl, hb⟩
    have K4 := Lib.hid (K3.out.next hb)
    have B4 := Lib.hid (B3.out.trans (hb.mono B3.out.size))
    clear hb K3 B3 p0 p1 p2 p3
    obtain ⟨-, -, -, p0, p1, p2, p3⟩ := id K4.out
    go_wp2_with fail
    refine (Spare28_any s V4 K4.out.st K4.out.en).mono ?_
    rintro e V5 ⟨A3, c3, rfl, hA, hb⟩
    have K5 := Lib.hid (K4.out.next hb)
    have B5 := Lib.hid (B4.out.trans (hb.mono B4.out.size))
    have T5 := Lib.hid hA
    clear hA
    clear hb K4 B4 p0 p1 p2 p3
    obtain ⟨-, -, -, p0, p1, p2, p3⟩ := id K5.out
    go_wp2_with fail
    refine (Spare_any s V5 K5.out.st).mono ?_
    rintro e V6 ⟨A4, c4, rfl, hA, hb⟩
    have K6 := Lib.hid (K5.out.next hb)
    have B6 := Lib.hid (B5.out.trans (hb.mono B5.out.size))
    have T6 := Lib.hid (T5.out.nextB hb)
    have U6 := Lib.hid hA
    clear hA hb K5 B5 T5 p0 p1 p2 p3
    generalize spareS s = f at *
    generalize lenIf (acS s) s.sheets.length = n at *
    generalize acSet s = sy at *
    generalize acGain s = cy at *
    generalize acS s = ac at *
    go_wp2_with fail
    refine (spans_tab n f (by omega) T6.out U6.out).mono ?_
    rintro e V11 ⟨rfl, hb⟩
    have B11 := Lib.hid (B6.out.trans (hb.mono B6.out.size))
    have HA := Lib.hid (awake_any V11 (K6.out.next hb).en)
    clear hb K6 B6 T6 U6
    go_wp2_with fail
    refine HA.out.mono ?_
    rintro e V12 ⟨rfl, hb⟩
    have B12 := Lib.hid (B11.out.trans (hb.mono B11.out.size))
    clear hb B11 HA
    go_wp2
    go_ret
    exact ⟨rfl, B12.out⟩
  · go_wp2_with fail
    refine (awake_any V2 K2.out.en).mono ?_
    rintro e V3 ⟨rfl, hb⟩
    have HB3 := Lib.hid (B2.out.trans (hb.mono B2.out.size))
    clear hb
    go_wp2
    go_ret
    exact ⟨rfl, HB3.out⟩
end Go.Proofs.YtfffhbolaimmdaaDoor
