import Derived.Test.YtjlicbdnppodgaaA3
import Derived.Test.YtjlicbdnppodgaaR10
namespace Go.Proofs.Ytjlicbdnppodgaa
open Go.RowKit
/-! The law CutJoins, walked. -/
theorem joinS_len (c : Cut) (a b : Int) (A : Option Addr) (k : Nat) (h : c.piece.length ≤ 1000) : (joinS c a b A k).piece.length ≤ 1000 := by
  show (joinP c a b).length ≤ 1000
  unfold joinP
  split
  · rw [List.length_map]; exact h
  · simp
theorem same_join (c : Cut) (a b : Int) (A A' : Option Addr) (k k' : Nat) : sameS (joinS c a b A k) (joinS c a b A' k') = true := by
  unfold sameS joinS
  simp
set_option maxRecDepth 100000 in
set_option maxHeartbeats 4000000 in
theorem CutJoins_walk (c : Cut) (x y : Int) (w : World) (hc : CutAt w w.heap.size c) (hx : I64 x) (hy : I64 y) : Calls Try.prog 5 #[.agg #[.int .i64 c.wide, .int .i64 c.high, .slice c.A c.piece.length c.c], .int .i64 x, .int .i64 y] w (Ret (.bool true) w) := by
  have hb := nxA w (.cells #[.int .i64 c.wide, .int .i64 c.high, .slice c.A c.piece.length c.c] 24)
  have HX := Lib.hid (Bx.new w #[.int .i64 c.wide, .int .i64 c.high, .slice c.A c.piece.length c.c] 24)
  have HC := Lib.hid (hc.next hb)
  have HB := Lib.hid hb
  have HPX := Lib.hid hx
  have HPY := Lib.hid hy
  clear hc hb hx hy
  go_enter Try.func5, Try.ntmps5
  go_upto_region 1 with fail
  generalize (w.alloc (.cells #[.int .i64 c.wide, .int .i64 c.high, .slice c.A c.piece.length c.c] 24)) = V0 at *
  have c0 := HX.out.c 0 _ rfl
  have c1 := HX.out.c 1 _ rfl
  have c2 := HX.out.c 2 _ rfl
  go_wp2_with fail
  refine (large_any c V0).mono ?_
  rintro e V1 ⟨rfl, hb⟩
  replace HX := Lib.hid (HX.out.next hb)
  replace HC := Lib.hid (HC.out.next hb)
  replace HB := Lib.hid (HB.out.trans (hb.mono HB.out.size))
  clear hb c0 c1 c2
  by_cases hl : 288 < (c.piece.length : Int)
  · have e1 : decide (288 < (c.piece.length : Int)) = true := decide_eq_true hl
    rw [e1]
    clear e1 hl
    go_wp2_with fail
    refine (awake_any V1).mono ?_
    rintro e V2 ⟨rfl, hb⟩
    go_wp2_with fail
    go_ret
    exact ⟨rfl, HB.out.trans (hb.mono HB.out.size)⟩
  · have e1 : decide (288 < (c.piece.length : Int)) = false := decide_eq_false hl
    rw [e1]
    have HLN := Lib.hid (show c.piece.length ≤ 1000 from by omega)
    clear e1 hl
    have c0 := HX.out.c 0 _ rfl
    have c1 := HX.out.c 1 _ rfl
    have c2 := HX.out.c 2 _ rfl
    go_wp2_with fail
    refine (JoinP_any c x y V1 HPX.out HPY.out HC.out).mono ?_
    rintro e V2 ⟨j1, A1, k1, hj1, rfl, hs, hb⟩
    replace HX := Lib.hid (HX.out.next hb)
    replace HC := Lib.hid (HC.out.next hb)
    replace HB := Lib.hid (HB.out.trans (hb.mono HB.out.size))
    clear hb
    have HJ1 := Lib.hid hs
    clear hs
    clear c0 c1 c2
    have HE1 := Lib.hid hj1
    clear hj1
    have hb := nxA V2 (.cells #[.int .i64 j1.wide, .int .i64 j1.high, .slice j1.A j1.piece.length j1.c] 24)
    have hx := Bx.new V2 #[.int .i64 j1.wide, .int .i64 j1.high, .slice j1.A j1.piece.length j1.c] 24
    obtain ⟨V3, hV3⟩ : ∃ W, W = V2.alloc (.cells #[.int .i64 j1.wide, .int .i64 j1.high, .slice j1.A j1.piece.length j1.c] 24) := ⟨_, rfl⟩
    obtain ⟨g3, hg3⟩ : ∃ g, g = V2.heap.size := ⟨_, rfl⟩
    rw [← hV3] at hb hx
    rw [← hg3] at hx
    have BJ1 := Lib.hid hx
    clear hx
    replace HX := Lib.hid (HX.out.next hb)
    replace HC := Lib.hid (HC.out.next hb)
    replace HB := Lib.hid (HB.out.trans (hb.mono HB.out.size))
    replace HJ1 := Lib.hid (HJ1.out.next hb)
    clear hb
    have c0 := HX.out.c 0 _ rfl
    have c1 := HX.out.c 1 _ rfl
    have c2 := HX.out.c 2 _ rfl
    rw [hV3] at c0 c1 c2
    go_wp2_with fail
    rw [← hV3, ← hg3]
    clear hV3 hg3
    refine (JoinR_any c x y V3 HPX.out HPY.out HC.out).mono ?_
    rintro e V4 ⟨j2, A2, k2, hj2, rfl, hs, hb⟩
    replace HX := Lib.hid (HX.out.next hb)
    replace HC := Lib.hid (HC.out.next hb)
    replace HB := Lib.hid (HB.out.trans (hb.mono HB.out.size))
    replace HJ1 := Lib.hid (HJ1.out.next hb)
    replace BJ1 := Lib.hid (BJ1.out.next hb)
    clear hb
    have HJ2 := Lib.hid hs
    clear hs
    clear c0 c1 c2
    have HE2 := Lib.hid hj2
    clear hj2
    have hb := nxA V4 (.cells #[.int .i64 j2.wide, .int .i64 j2.high, .slice j2.A j2.piece.length j2.c] 24)
    have hx := Bx.new V4 #[.int .i64 j2.wide, .int .i64 j2.high, .slice j2.A j2.piece.length j2.c] 24
    obtain ⟨V5, hV5⟩ : ∃ W, W = V4.alloc (.cells #[.int .i64 j2.wide, .int .i64 j2.high, .slice j2.A j2.piece.length j2.c] 24) := ⟨_, rfl⟩
    obtain ⟨g5, hg5⟩ : ∃ g, g = V4.heap.size := ⟨_, rfl⟩
    rw [← hV5] at hb hx
    rw [← hg5] at hx
    have BJ2 := Lib.hid hx
    clear hx
    replace HX := Lib.hid (HX.out.next hb)
    replace HC := Lib.hid (HC.out.next hb)
    replace HB := Lib.hid (HB.out.trans (hb.mono HB.out.size))
    replace HJ1 := Lib.hid (HJ1.out.next hb)
    replace BJ1 := Lib.hid (BJ1.out.next hb)
    replace HJ2 := Lib.hid (HJ2.out.next hb)
    clear hb
    generalize joinE c x y = je at *
    have m10 := BJ1.out.c 0 _ rfl
    have m11 := BJ1.out.c 1 _ rfl
    have m12 := BJ1.out.c 2 _ rfl
    have m20 := BJ2.out.c 0 _ rfl
    have m21 := BJ2.out.c 1 _ rfl
    have m22 := BJ2.out.c 2 _ rfl
    rw [hV5] at m10 m11 m12 m20 m21 m22
    rw [hg5] at m20 m21 m22
    go_wp2_with fail
    rw [← hV5, ← hg5]
    clear hV5 hg5
    clear m10 m11 m12 m20 m21 m22
    refine (SameCut_any j1 j2 V5 HJ1.out HJ2.out (by rw [HE1.out]; exact joinS_len _ _ _ _ _ HLN.out) (by rw [HE2.out]; exact joinS_len _ _ _ _ _ HLN.out)).mono ?_
    rintro e V6 ⟨rfl, hb⟩
    replace HX := Lib.hid (HX.out.next hb)
    replace HC := Lib.hid (HC.out.next hb)
    replace HB := Lib.hid (HB.out.trans (hb.mono HB.out.size))
    replace HJ1 := Lib.hid (HJ1.out.next hb)
    replace BJ1 := Lib.hid (BJ1.out.next hb)
    replace HJ2 := Lib.hid (HJ2.out.next hb)
    replace BJ2 := Lib.hid (BJ2.out.next hb)
    clear hb
    rw [show sameS j1 j2 = true by rw [HE1.out, HE2.out]; exact same_join _ _ _ _ _ _ _]
    clear HJ1 HJ2 BJ1 BJ2 HX HC
    go_wp2_with fail
    refine (awake_any V6).mono ?_
    rintro e V7 ⟨rfl, hb⟩
    replace HB := Lib.hid (HB.out.trans (hb.mono HB.out.size))
    clear hb
    go_wp2_with fail
    go_ret
    exact ⟨rfl, HB.out⟩
end Go.Proofs.Ytjlicbdnppodgaa
