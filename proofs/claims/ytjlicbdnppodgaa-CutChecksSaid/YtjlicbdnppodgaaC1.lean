import Derived.Test.YtjlicbdnppodgaaA3
import Derived.Test.YtjlicbdnppodgaaR8
namespace Go.Proofs.Ytjlicbdnppodgaa
open Go.RowKit
/-! The law CutChecks, walked. -/
theorem sidesL_len (c : Cut) (piece : Int) : (sidesL c piece).length ≤ 1000 := by
  unfold sidesL
  split
  · rename_i h
    have := great_bd (openE_good h).ok
    have h2 := sideTo_len c piece ((greatS c).toNat + 2)
    unfold sidesS
    omega
  · simp
theorem insideL_len (c : Cut) (piece : Int) : (insideL c piece).length ≤ 1000 := by
  unfold insideL
  split
  · rename_i h
    have := great_bd (openE_good h).ok
    have h2 := insTo_len c piece ((greatS c).toNat + 1)
    omega
  · simp
set_option maxRecDepth 100000 in
set_option maxHeartbeats 4000000 in
theorem CutChecks_walk (c : Cut) (piece : Int) (w : World) (hc : CutAt w w.heap.size c) (hp : I64 piece) : Calls Try.prog 3 #[.agg #[.int .i64 c.wide, .int .i64 c.high, .slice c.A c.piece.length c.c], .int .i64 piece] w (Ret (.bool true) w) := by
  have hb := nxA w (.cells #[.int .i64 c.wide, .int .i64 c.high, .slice c.A c.piece.length c.c] 24)
  have HX := Lib.hid (Bx.new w #[.int .i64 c.wide, .int .i64 c.high, .slice c.A c.piece.length c.c] 24)
  have HC := Lib.hid (hc.next hb)
  have HB := Lib.hid hb
  have HP := Lib.hid hp
  clear hc hb hp
  go_enter Try.func3, Try.ntmps3
  go_upto_region 1 with fail
  generalize (w.alloc (.cells #[.int .i64 c.wide, .int .i64 c.high, .slice c.A c.piece.length c.c] 24)) = V0 at *
  have c0 := HX.out.c 0 _ rfl
  have c1 := HX.out.c 1 _ rfl
  have c2 := HX.out.c 2 _ rfl
  go_wp2_with fail
  refine (large_any c V0).mono ?_
  rintro e V1 ⟨rfl, hb⟩
  replace HX := Lib.hid (HX.out.next hb)
  replace HC := Lib.hid (HC.out.next hb)
  replace HB := Lib.hid (HB.out.trans (hb.mono HB.out.size))
  clear hb c0 c1 c2
  by_cases hl : 288 < (c.piece.length : Int)
  · have e1 : decide (288 < (c.piece.length : Int)) = true := decide_eq_true hl
    rw [e1]
    clear e1 hl
    go_wp2_with fail
    refine (awake_any V1).mono ?_
    rintro e V2 ⟨rfl, hb⟩
    go_wp2_with fail
    go_ret
    exact ⟨rfl, HB.out.trans (hb.mono HB.out.size)⟩
  · have e1 : decide (288 < (c.piece.length : Int)) = false := decide_eq_false hl
    rw [e1]
    clear e1 hl
    have c0 := HX.out.c 0 _ rfl
    have c1 := HX.out.c 1 _ rfl
    have c2 := HX.out.c 2 _ rfl
    go_wp2_with fail
    refine (CheckP_any c V1 HC.out).mono ?_
    rintro e V2 ⟨rfl, hb⟩
    replace HX := Lib.hid (HX.out.next hb)
    replace HC := Lib.hid (HC.out.next hb)
    replace HB := Lib.hid (HB.out.trans (hb.mono HB.out.size))
    clear hb c0 c1 c2
    unfold checkV
    have c0 := HX.out.c 0 _ rfl
    have c1 := HX.out.c 1 _ rfl
    have c2 := HX.out.c 2 _ rfl
    go_wp2_with fail
    refine (Check_any c V2 HC.out).mono ?_
    rintro e V3 ⟨rfl, hb⟩
    replace HX := Lib.hid (HX.out.next hb)
    replace HC := Lib.hid (HC.out.next hb)
    replace HB := Lib.hid (HB.out.trans (hb.mono HB.out.size))
    clear hb c0 c1 c2
    unfold checkV
    have c0 := HX.out.c 0 _ rfl
    have c1 := HX.out.c 1 _ rfl
    have c2 := HX.out.c 2 _ rfl
    go_wp2_with fail
    refine (SidesP_any c piece V3 HP.out HC.out).mono ?_
    rintro e V4 ⟨A1, k1, rfl, hs, hb⟩
    have HS1 := Lib.hid hs
    replace HX := Lib.hid (HX.out.next hb)
    replace HC := Lib.hid (HC.out.next hb)
    replace HB := Lib.hid (HB.out.trans (hb.mono HB.out.size))
    clear hs hb c0 c1 c2
    have c0 := HX.out.c 0 _ rfl
    have c1 := HX.out.c 1 _ rfl
    have c2 := HX.out.c 2 _ rfl
    go_wp2_with fail
    refine (SidesR_any c piece V4 HC.out).mono ?_
    rintro e V5 ⟨A2, k2, rfl, hs, hb⟩
    have HS2 := Lib.hid hs
    replace HS1 := Lib.hid (HS1.out.next hb)
    replace HX := Lib.hid (HX.out.next hb)
    replace HC := Lib.hid (HC.out.next hb)
    replace HB := Lib.hid (HB.out.trans (hb.mono HB.out.size))
    clear hs hb c0 c1 c2
    have c0 := HX.out.c 0 _ rfl
    have c1 := HX.out.c 1 _ rfl
    have c2 := HX.out.c 2 _ rfl
    go_wp2_with fail
    refine (InsideP_any c piece V5 HP.out HC.out).mono ?_
    rintro e V6 ⟨A3, k3, rfl, hs, hb⟩
    have HI1 := Lib.hid hs
    replace HS1 := Lib.hid (HS1.out.next hb)
    replace HS2 := Lib.hid (HS2.out.next hb)
    replace HX := Lib.hid (HX.out.next hb)
    replace HC := Lib.hid (HC.out.next hb)
    replace HB := Lib.hid (HB.out.trans (hb.mono HB.out.size))
    clear hs hb c0 c1 c2
    have c0 := HX.out.c 0 _ rfl
    have c1 := HX.out.c 1 _ rfl
    have c2 := HX.out.c 2 _ rfl
    go_wp2_with fail
    refine (InsideR_any c piece V6 HC.out).mono ?_
    rintro e V7 ⟨A4, k4, rfl, hs, hb⟩
    have HI2 := Lib.hid hs
    replace HI1 := Lib.hid (HI1.out.next hb)
    replace HS1 := Lib.hid (HS1.out.next hb)
    replace HS2 := Lib.hid (HS2.out.next hb)
    replace HB := Lib.hid (HB.out.trans (hb.mono HB.out.size))
    clear hs hb c0 c1 c2 HX HC
    have HL1 := Lib.hid (sidesL_len c piece)
    have HL2 := Lib.hid (insideL_len c piece)
    generalize (checkS c).1 = n1 at *
    generalize (checkS c).2 = n2 at *
    generalize openE c piece = n3 at *
    generalize sidesL c piece = l1 at *
    generalize insideL c piece = l2 at *
    go_wp2_with fail
    refine (SameSides_any l1 l1 A1 A2 k1 k2 V7 HS1.out HS2.out HL1.out HL1.out).mono ?_
    rintro e V8 ⟨rfl, hb⟩
    rw [show decide (l1 = l1) = true by simp]
    replace HI1 := Lib.hid (HI1.out.next hb)
    replace HI2 := Lib.hid (HI2.out.next hb)
    replace HB := Lib.hid (HB.out.trans (hb.mono HB.out.size))
    clear hb HS1 HS2 HL1
    go_wp2_with fail
    refine (Ints_any l2 l2 A3 A4 k3 k4 V8 HI1.out HI2.out HL2.out HL2.out).mono ?_
    rintro e V9 ⟨rfl, hb⟩
    rw [show decide (l2 = l2) = true by simp]
    replace HB := Lib.hid (HB.out.trans (hb.mono HB.out.size))
    clear hb HI1 HI2 HL2
    go_wp2_with fail
    refine (awake_any V9).mono ?_
    rintro e V10 ⟨rfl, hb⟩
    go_wp2_with fail
    go_ret
    exact ⟨rfl, HB.out.trans (hb.mono HB.out.size)⟩
end Go.Proofs.Ytjlicbdnppodgaa
