import Derived.Test.YtkcfpnpejaekjaaDoorA2
import Derived.Test.YtkcfpnpejaekjaaDoorD2
namespace Go.Proofs.YtkcfpnpejaekjaaDoor
open Go.RowKit
/-! The law LendWindows. -/
/-- What a law's walk carries: the tale, in its own box and where it lies. -/
structure LwT (m : Mt) (bs : Nat) (W : World) : Prop where
  ta : TaleAt W W.heap.size m
  en : Env W
  bx : Bx W bs m.cells
theorem LwT.next {m : Mt} {bs : Nat} {W W' : World} (h : LwT m bs W) (hb : Below W.heap.size W W') : LwT m bs W' := ⟨h.ta.next hb, h.en.next hb, h.bx.next hb⟩
set_option maxRecDepth 100000 in
set_option maxHeartbeats 2000000 in
theorem LendWindows_walk (m : Mt) (h p : Int) (w : World) (hd : TaleAt w w.heap.size m) (he : Env w) : Calls Tryd.prog 3 #[.agg #[.int .i64 m.t.n, .slice m.A1 m.t.loans.length m.c1, .slice m.A2 m.t.looks.length m.c2, .slice m.A3 m.t.admits.length m.c3], .int .i64 h, .int .i64 p] w (Ret (.bool true) w) := by
  have K := Lib.hid (show LwT m w.heap.size (w.alloc (.cells #[.int .i64 m.t.n, .slice m.A1 m.t.loans.length m.c1, .slice m.A2 m.t.looks.length m.c2, .slice m.A3 m.t.admits.length m.c3] 26)) from ⟨hd.next (nxA _ _), he.next (nxA _ _), Bx.new w #[.int .i64 m.t.n, .slice m.A1 m.t.loans.length m.c1, .slice m.A2 m.t.looks.length m.c2, .slice m.A3 m.t.admits.length m.c3] 26⟩)
  have HB := Lib.hid (nxA w (.cells #[.int .i64 m.t.n, .slice m.A1 m.t.loans.length m.c1, .slice m.A2 m.t.looks.length m.c2, .slice m.A3 m.t.admits.length m.c3] 26))
  clear hd he
  obtain ⟨ho, eo, hhold⟩ : ∃ ho eo, holderS m.t h = (ho, eo) := ⟨_, _, rfl⟩
  obtain ⟨lo, hi, gone, ew, hwin⟩ : ∃ lo hi gone ew, winS m.t p = ⟨lo, hi, gone, ew⟩ := ⟨_, _, _, _, rfl⟩
  have HO := Lib.hid hhold
  have HWI := Lib.hid hwin
  clear hhold hwin
  go_enter Tryd.func3, Tryd.ntmps3
  go_wp2_with fail
  generalize (w.alloc (.cells #[.int .i64 m.t.n, .slice m.A1 m.t.loans.length m.c1, .slice m.A2 m.t.looks.length m.c2, .slice m.A3 m.t.admits.length m.c3] 26)) = V1 at *
  have p0 := K.out.bx.c 0 _ rfl
  have p1 := K.out.bx.c 1 _ rfl
  have p2 := K.out.bx.c 2 _ rfl
  have p3 := K.out.bx.c 3 _ rfl
  go_wp2_with fail
  refine (far_any m V1).mono ?_
  rintro e V2 ⟨rfl, hb⟩
  replace K := Lib.hid (K.out.next hb)
  replace HB := Lib.hid (HB.out.trans (hb.mono HB.out.size))
  clear hb p0 p1 p2 p3
  cases farS m.t
  rotate_left
  · go_wp2_with fail
    refine (awake_any V2 K.out.en).mono ?_
    rintro e V99 ⟨rfl, hb⟩
    go_wp2_with fail
    go_ret
    exact ⟨rfl, HB.out.trans (hb.mono HB.out.size)⟩
  · skip
    have p0 := K.out.bx.c 0 _ rfl
    have p1 := K.out.bx.c 1 _ rfl
    have p2 := K.out.bx.c 2 _ rfl
    have p3 := K.out.bx.c 3 _ rfl
    go_wp2_with fail
    have hcon := (Holder_any m h V2 K.out.ta)
    rw [HO.out] at hcon
    refine (hcon).mono ?_
    rintro e V3 ⟨rfl, hb⟩
    replace K := Lib.hid (K.out.next hb)
    replace HB := Lib.hid (HB.out.trans (hb.mono HB.out.size))
    clear hb p0 p1 p2 p3 hcon
    dsimp only [ret2]
    go_upto_region 4 with fail
    have p0 := K.out.bx.c 0 _ rfl
    have p1 := K.out.bx.c 1 _ rfl
    have p2 := K.out.bx.c 2 _ rfl
    have p3 := K.out.bx.c 3 _ rfl
    go_wp2_with fail
    have hcon := (HolderR_any m h V3 K.out.ta)
    rw [HO.out] at hcon
    refine (hcon).mono ?_
    rintro e V4 ⟨rfl, hb⟩
    replace K := Lib.hid (K.out.next hb)
    replace HB := Lib.hid (HB.out.trans (hb.mono HB.out.size))
    clear hb p0 p1 p2 p3 hcon
    dsimp only [ret2]
    go_upto_region 5 with fail
    have p0 := K.out.bx.c 0 _ rfl
    have p1 := K.out.bx.c 1 _ rfl
    have p2 := K.out.bx.c 2 _ rfl
    have p3 := K.out.bx.c 3 _ rfl
    go_wp2_with fail
    have hcon := (Window_any m p V4 K.out.ta)
    rw [HWI.out] at hcon
    refine (hcon).mono ?_
    rintro e V5 ⟨rfl, hb⟩
    replace K := Lib.hid (K.out.next hb)
    replace HB := Lib.hid (HB.out.trans (hb.mono HB.out.size))
    clear hb p0 p1 p2 p3 hcon
    dsimp only [retWin]
    have hA := nxA V5 (.cells #[.int .i64 lo, .int .i64 hi] 33)
    replace K := Lib.hid (K.out.next hA)
    replace HB := Lib.hid (HB.out.trans (hA.mono HB.out.size))
    have S1 := Lib.hid (Bx.new V5 #[.int .i64 lo, .int .i64 hi] 33)
    clear hA
    go_upto_region 6 with fail
    generalize (V5.alloc (.cells #[.int .i64 lo, .int .i64 hi] 33)) = V6 at *
    generalize V5.heap.size = b1 at *
    have p0 := K.out.bx.c 0 _ rfl
    have p1 := K.out.bx.c 1 _ rfl
    have p2 := K.out.bx.c 2 _ rfl
    have p3 := K.out.bx.c 3 _ rfl
    go_wp2_with fail
    have hcon := (WindowR_any m p V6 K.out.ta)
    rw [HWI.out] at hcon
    refine (hcon).mono ?_
    rintro e V7 ⟨rfl, hb⟩
    replace S1 := Lib.hid (S1.out.next hb)
    replace K := Lib.hid (K.out.next hb)
    replace HB := Lib.hid (HB.out.trans (hb.mono HB.out.size))
    clear hb p0 p1 p2 p3 hcon
    dsimp only [retWin]
    have hA := nxA V7 (.cells #[.int .i64 lo, .int .i64 hi] 33)
    replace S1 := Lib.hid (S1.out.next hA)
    replace K := Lib.hid (K.out.next hA)
    replace HB := Lib.hid (HB.out.trans (hA.mono HB.out.size))
    have S2 := Lib.hid (Bx.new V7 #[.int .i64 lo, .int .i64 hi] 33)
    clear hA
    go_upto_region 7 with fail
    generalize (V7.alloc (.cells #[.int .i64 lo, .int .i64 hi] 33)) = V8 at *
    generalize V7.heap.size = b2 at *
    have s0 := S1.out.c 0 _ rfl
    have s1 := S1.out.c 1 _ rfl
    have s2 := S2.out.c 0 _ rfl
    have s3 := S2.out.c 1 _ rfl
    have hq1 := fun W => span_eql lo hi lo hi W
    simp only [beq_self_eq_true, Bool.and_self] at hq1
    have hq2 := span_eq3
    go_wp2_with fail
    refine (awake_any V8 K.out.en).mono ?_
    rintro e V99 ⟨rfl, hb⟩
    go_wp2_with fail
    go_ret
    exact ⟨rfl, HB.out.trans (hb.mono HB.out.size)⟩
end Go.Proofs.YtkcfpnpejaekjaaDoor
