import Derived.Test.YtkcfpnpejaekjaaDoorC3
import Derived.Test.YtkcfpnpejaekjaaDoorR10
namespace Go.Proofs.YtkcfpnpejaekjaaDoor
open Go.RowKit
/-! The law LendClashes. -/
set_option maxRecDepth 100000 in
set_option maxHeartbeats 2000000 in
theorem LendClashes_walk (m : Mt) (w : World) (hd : TaleAt w w.heap.size m) (he : Env w) : Calls Tryd.prog 5 #[.agg #[.int .i64 m.t.n, .slice m.A1 m.t.loans.length m.c1, .slice m.A2 m.t.looks.length m.c2, .slice m.A3 m.t.admits.length m.c3]] w (Ret (.bool true) w) := by
  have K := Lib.hid (show LwT m w.heap.size (w.alloc (.cells #[.int .i64 m.t.n, .slice m.A1 m.t.loans.length m.c1, .slice m.A2 m.t.looks.length m.c2, .slice m.A3 m.t.admits.length m.c3] 26)) from ⟨hd.next (nxA _ _), he.next (nxA _ _), Bx.new w #[.int .i64 m.t.n, .slice m.A1 m.t.loans.length m.c1, .slice m.A2 m.t.looks.length m.c2, .slice m.A3 m.t.admits.length m.c3] 26⟩)
  have HB := Lib.hid (nxA w (.cells #[.int .i64 m.t.n, .slice m.A1 m.t.loans.length m.c1, .slice m.A2 m.t.looks.length m.c2, .slice m.A3 m.t.admits.length m.c3] 26))
  clear hd he
  obtain ⟨cl, ec, hcl⟩ : ∃ cl ec, clashS m.t = (cl, ec) := ⟨_, _, rfl⟩
  have HCL := Lib.hid hcl
  clear hcl
  go_enter Tryd.func5, Tryd.ntmps5
  go_wp2_with fail
  generalize (w.alloc (.cells #[.int .i64 m.t.n, .slice m.A1 m.t.loans.length m.c1, .slice m.A2 m.t.looks.length m.c2, .slice m.A3 m.t.admits.length m.c3] 26)) = V1 at *
  have p0 := K.out.bx.c 0 _ rfl
  have p1 := K.out.bx.c 1 _ rfl
  have p2 := K.out.bx.c 2 _ rfl
  have p3 := K.out.bx.c 3 _ rfl
  go_wp2_with fail
  refine (far_any m V1).mono ?_
  rintro e V2 ⟨rfl, hb⟩
  replace K := Lib.hid (K.out.next hb)
  replace HB := Lib.hid (HB.out.trans (hb.mono HB.out.size))
  clear hb p0 p1 p2 p3
  have p0 := K.out.bx.c 0 _ rfl
  have p1 := K.out.bx.c 1 _ rfl
  have p2 := K.out.bx.c 2 _ rfl
  have p3 := K.out.bx.c 3 _ rfl
  cases farS m.t
  rotate_left
  ·
    go_wp2_with fail
    refine (awake_any V2 K.out.en).mono ?_
    rintro e V99 ⟨rfl, hb⟩
    go_wp2_with fail
    go_ret
    exact ⟨rfl, HB.out.trans (hb.mono HB.out.size)⟩
  · skip
    by_cases g1 : 6 < m.t.n
    · have d1 : decide (6 < m.t.n) = true := decide_eq_true g1
      by_cases g2 : m.t.n ≤ 16
      · have d2 : decide (m.t.n ≤ 16) = true := decide_eq_true g2
        go_wp2_with fail
        refine (awake_any V2 K.out.en).mono ?_
        rintro e V99 ⟨rfl, hb⟩
        go_wp2_with fail
        go_ret
        exact ⟨rfl, HB.out.trans (hb.mono HB.out.size)⟩
      · have d2 : decide (m.t.n ≤ 16) = false := decide_eq_false g2
        clear p0 p1 p2 p3
        have p0 := K.out.bx.c 0 _ rfl
        have p1 := K.out.bx.c 1 _ rfl
        have p2 := K.out.bx.c 2 _ rfl
        have p3 := K.out.bx.c 3 _ rfl
        go_wp2_with fail
        have hcon := (Clash_any m V2 K.out.ta)
        rw [HCL.out] at hcon
        refine (hcon).mono ?_
        rintro e V3 ⟨rfl, hb⟩
        replace K := Lib.hid (K.out.next hb)
        replace HB := Lib.hid (HB.out.trans (hb.mono HB.out.size))
        clear hb p0 p1 p2 p3 hcon
        dsimp only [retCl]
        go_upto_region 4 with fail
        have p0 := K.out.bx.c 0 _ rfl
        have p1 := K.out.bx.c 1 _ rfl
        have p2 := K.out.bx.c 2 _ rfl
        have p3 := K.out.bx.c 3 _ rfl
        go_wp2_with fail
        have hcon := (ClashR_any m V3 K.out.ta)
        rw [HCL.out] at hcon
        refine (hcon).mono ?_
        rintro e V4 ⟨rfl, hb⟩
        replace K := Lib.hid (K.out.next hb)
        replace HB := Lib.hid (HB.out.trans (hb.mono HB.out.size))
        clear hb p0 p1 p2 p3 hcon
        dsimp only [retCl]
        go_upto_region 5 with fail
        go_wp2_with fail
        refine (awake_any V4 K.out.en).mono ?_
        rintro e V99 ⟨rfl, hb⟩
        go_wp2_with fail
        go_ret
        exact ⟨rfl, HB.out.trans (hb.mono HB.out.size)⟩
    · have d1 : decide (6 < m.t.n) = false := decide_eq_false g1
      clear p0 p1 p2 p3
      have p0 := K.out.bx.c 0 _ rfl
      have p1 := K.out.bx.c 1 _ rfl
      have p2 := K.out.bx.c 2 _ rfl
      have p3 := K.out.bx.c 3 _ rfl
      go_wp2_with fail
      have hcon := (Clash_any m V2 K.out.ta)
      rw [HCL.out] at hcon
      refine (hcon).mono ?_
      rintro e V3 ⟨rfl, hb⟩
      replace K := Lib.hid (K.out.next hb)
      replace HB := Lib.hid (HB.out.trans (hb.mono HB.out.size))
      clear hb p0 p1 p2 p3 hcon
      dsimp only [retCl]
      go_upto_region 4 with fail
      have p0 := K.out.bx.c 0 _ rfl
      have p1 := K.out.bx.c 1 _ rfl
      have p2 := K.out.bx.c 2 _ rfl
      have p3 := K.out.bx.c 3 _ rfl
      go_wp2_with fail
      have hcon := (ClashR_any m V3 K.out.ta)
      rw [HCL.out] at hcon
      refine (hcon).mono ?_
      rintro e V4 ⟨rfl, hb⟩
      replace K := Lib.hid (K.out.next hb)
      replace HB := Lib.hid (HB.out.trans (hb.mono HB.out.size))
      clear hb p0 p1 p2 p3 hcon
      dsimp only [retCl]
      go_upto_region 5 with fail
      go_wp2_with fail
      refine (awake_any V4 K.out.en).mono ?_
      rintro e V99 ⟨rfl, hb⟩
      go_wp2_with fail
      go_ret
      exact ⟨rfl, HB.out.trans (hb.mono HB.out.size)⟩
end Go.Proofs.YtkcfpnpejaekjaaDoor
