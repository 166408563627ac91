import Derived.Test.YtjlicbdnppodgaaA3
import Derived.Test.YtjlicbdnppodgaaR14
namespace Go.Proofs.Ytjlicbdnppodgaa
open Go.RowKit
/-! The law CutLines, walked. -/
theorem sawL_len (c : Cut) : (sawL c).length ≤ 1000 := by
  unfold sawL
  split
  · rename_i h
    have h1 : (checkS c).2 = 0 := by
      unfold sawE at h
      by_cases h2 : (checkS c).2 ≠ 0
      · rw [if_pos h2] at h; exact h
      · exact Classical.not_not.1 h2
    have ok := (okc_iff c).1 (check_ok h1).1
    have hw := ok.w
    have hh := ok.h
    have h3 := saw_len c 24 0 0 c.wide c.high (by omega) (by omega)
    have h4 := Int.mul_le_mul hw.2 hh.2 (by omega) (by omega)
    rw [Int.sub_zero, Int.sub_zero] at h3
    omega
  · simp
set_option maxRecDepth 100000 in
set_option maxHeartbeats 4000000 in
theorem CutLines_walk (c : Cut) (w : World) (hc : CutAt w w.heap.size c) : Calls Try.prog 4 #[.agg #[.int .i64 c.wide, .int .i64 c.high, .slice c.A c.piece.length c.c]] w (Ret (.bool true) w) := by
  have hb := nxA w (.cells #[.int .i64 c.wide, .int .i64 c.high, .slice c.A c.piece.length c.c] 24)
  have HX := Lib.hid (Bx.new w #[.int .i64 c.wide, .int .i64 c.high, .slice c.A c.piece.length c.c] 24)
  have HC := Lib.hid (hc.next hb)
  have HB := Lib.hid hb
  clear hc hb
  go_enter Try.func4, Try.ntmps4
  go_upto_region 1 with fail
  generalize (w.alloc (.cells #[.int .i64 c.wide, .int .i64 c.high, .slice c.A c.piece.length c.c] 24)) = V0 at *
  have c0 := HX.out.c 0 _ rfl
  have c1 := HX.out.c 1 _ rfl
  have c2 := HX.out.c 2 _ rfl
  go_wp2_with fail
  refine (large_any c V0).mono ?_
  rintro e V1 ⟨rfl, hb⟩
  replace HX := Lib.hid (HX.out.next hb)
  replace HC := Lib.hid (HC.out.next hb)
  replace HB := Lib.hid (HB.out.trans (hb.mono HB.out.size))
  clear hb c0 c1 c2
  by_cases hl : 288 < (c.piece.length : Int)
  · have e1 : decide (288 < (c.piece.length : Int)) = true := decide_eq_true hl
    rw [e1]
    clear e1 hl
    go_wp2_with fail
    refine (awake_any V1).mono ?_
    rintro e V2 ⟨rfl, hb⟩
    go_wp2_with fail
    go_ret
    exact ⟨rfl, HB.out.trans (hb.mono HB.out.size)⟩
  · have e1 : decide (288 < (c.piece.length : Int)) = false := decide_eq_false hl
    rw [e1]
    clear e1 hl
    have c0 := HX.out.c 0 _ rfl
    have c1 := HX.out.c 1 _ rfl
    have c2 := HX.out.c 2 _ rfl
    go_wp2_with fail
    refine (LinesP_any c V1 HC.out).mono ?_
    rintro e V2 ⟨rfl, hb⟩
    replace HX := Lib.hid (HX.out.next hb)
    replace HC := Lib.hid (HC.out.next hb)
    replace HB := Lib.hid (HB.out.trans (hb.mono HB.out.size))
    clear hb
    clear c0 c1 c2
    unfold linesV
    generalize hq : linesS c = q at *
    obtain ⟨a, b, j, s⟩ := q
    dsimp only
    generalize hqe : cutE c = ce at *
    have HQ := Lib.hid hq
    have HQE := Lib.hid hqe
    clear hq hqe
    have hb := nxA V2 (.cells #[.int .i64 a, .int .i64 b, .int .i64 j, .int .i64 s] 39)
    have hx := Bx.new V2 #[.int .i64 a, .int .i64 b, .int .i64 j, .int .i64 s] 39
    obtain ⟨V3, hV3⟩ : ∃ W, W = V2.alloc (.cells #[.int .i64 a, .int .i64 b, .int .i64 j, .int .i64 s] 39) := ⟨_, rfl⟩
    obtain ⟨g3, hg3⟩ : ∃ g, g = V2.heap.size := ⟨_, rfl⟩
    rw [← hV3] at hb hx
    rw [← hg3] at hx
    have BL1 := Lib.hid hx
    clear hx
    replace HX := Lib.hid (HX.out.next hb)
    replace HC := Lib.hid (HC.out.next hb)
    replace HB := Lib.hid (HB.out.trans (hb.mono HB.out.size))
    clear hb
    have c0 := HX.out.c 0 _ rfl
    have c1 := HX.out.c 1 _ rfl
    have c2 := HX.out.c 2 _ rfl
    rw [hV3] at c0 c1 c2
    go_wp2_with fail
    rw [← hV3, ← hg3]
    clear hV3 hg3
    refine (LinesR_any c V3 HC.out).mono ?_
    rintro e V4 ⟨rfl, hb⟩
    replace HX := Lib.hid (HX.out.next hb)
    replace HC := Lib.hid (HC.out.next hb)
    replace HB := Lib.hid (HB.out.trans (hb.mono HB.out.size))
    replace BL1 := Lib.hid (BL1.out.next hb)
    clear hb
    clear c0 c1 c2
    unfold linesV
    rw [HQ.out, HQE.out]
    dsimp only
    have hb := nxA V4 (.cells #[.int .i64 a, .int .i64 b, .int .i64 j, .int .i64 s] 39)
    have hx := Bx.new V4 #[.int .i64 a, .int .i64 b, .int .i64 j, .int .i64 s] 39
    obtain ⟨V5, hV5⟩ : ∃ W, W = V4.alloc (.cells #[.int .i64 a, .int .i64 b, .int .i64 j, .int .i64 s] 39) := ⟨_, rfl⟩
    obtain ⟨g5, hg5⟩ : ∃ g, g = V4.heap.size := ⟨_, rfl⟩
    rw [← hV5] at hb hx
    rw [← hg5] at hx
    have BL2 := Lib.hid hx
    clear hx
    replace HX := Lib.hid (HX.out.next hb)
    replace HC := Lib.hid (HC.out.next hb)
    replace HB := Lib.hid (HB.out.trans (hb.mono HB.out.size))
    replace BL1 := Lib.hid (BL1.out.next hb)
    clear hb
    have c0 := HX.out.c 0 _ rfl
    have c1 := HX.out.c 1 _ rfl
    have c2 := HX.out.c 2 _ rfl
    rw [hV5] at c0 c1 c2
    go_wp2_with fail
    rw [← hV5, ← hg5]
    clear hV5 hg5
    refine (SawP_any c V5 HC.out).mono ?_
    rintro e V6 ⟨A1, k1, rfl, hs, hb⟩
    replace HX := Lib.hid (HX.out.next hb)
    replace HC := Lib.hid (HC.out.next hb)
    replace HB := Lib.hid (HB.out.trans (hb.mono HB.out.size))
    replace BL1 := Lib.hid (BL1.out.next hb)
    replace BL2 := Lib.hid (BL2.out.next hb)
    clear hb
    have HW1 := Lib.hid hs
    clear hs
    clear c0 c1 c2
    have c0 := HX.out.c 0 _ rfl
    have c1 := HX.out.c 1 _ rfl
    have c2 := HX.out.c 2 _ rfl
    go_wp2_with fail
    refine (SawR_any c V6 HC.out).mono ?_
    rintro e V7 ⟨A2, k2, rfl, hs, hb⟩
    replace HX := Lib.hid (HX.out.next hb)
    replace HC := Lib.hid (HC.out.next hb)
    replace HB := Lib.hid (HB.out.trans (hb.mono HB.out.size))
    replace BL1 := Lib.hid (BL1.out.next hb)
    replace BL2 := Lib.hid (BL2.out.next hb)
    replace HW1 := Lib.hid (HW1.out.next hb)
    clear hb
    have HW2 := Lib.hid hs
    clear hs
    clear c0 c1 c2
    clear HX HC
    have HL := Lib.hid (sawL_len c)
    generalize sawE c = se at *
    generalize sawL c = l at *
    have m10 := BL1.out.c 0 _ rfl
    have m11 := BL1.out.c 1 _ rfl
    have m12 := BL1.out.c 2 _ rfl
    have m13 := BL1.out.c 3 _ rfl
    have m20 := BL2.out.c 0 _ rfl
    have m21 := BL2.out.c 1 _ rfl
    have m22 := BL2.out.c 2 _ rfl
    have m23 := BL2.out.c 3 _ rfl
    have HEQ := lines_eql a b j s
    go_wp2_with fail
    clear HEQ m10 m11 m12 m13 m20 m21 m22 m23
    clear BL1 BL2
    refine (SameLines_any l l A1 A2 k1 k2 V7 HW1.out HW2.out HL.out HL.out).mono ?_
    rintro e V8 ⟨rfl, hb⟩
    replace HB := Lib.hid (HB.out.trans (hb.mono HB.out.size))
    replace HW1 := Lib.hid (HW1.out.next hb)
    replace HW2 := Lib.hid (HW2.out.next hb)
    clear hb
    rw [show decide (l = l) = true by simp]
    clear HW1 HW2
    clear HL
    go_wp2_with fail
    refine (awake_any V8).mono ?_
    rintro e V9 ⟨rfl, hb⟩
    replace HB := Lib.hid (HB.out.trans (hb.mono HB.out.size))
    clear hb
    go_wp2_with fail
    go_ret
    exact ⟨rfl, HB.out⟩
end Go.Proofs.Ytjlicbdnppodgaa
