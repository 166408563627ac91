import Derived.Test.YtbhkglokdomajaaDoorA2
import Derived.Test.YtbhkglokdomajaaDoorC0
import Derived.Test.YtbhkglokdomajaaDoorD2
namespace Go.Proofs.YtbhkglokdomajaaDoor
open Go.RowKit
/-! The law RuleOffs. -/
/-- What a law's walk carries: the die, in its own box and where it lies. -/
structure LwD (d : Die) (bs : Nat) (W : World) : Prop where
  da : DieAt W W.heap.size d
  en : Env W
  bx : Bx W bs (dieL d)
theorem LwD.next {d : Die} {bs : Nat} {W W' : World} (h : LwD d bs W) (hb : Below W.heap.size W W') : LwD d bs W' := ⟨h.da.next hb, h.en.next hb, h.bx.next hb⟩
set_option maxRecDepth 100000 in
set_option maxHeartbeats 1000000 in
theorem RuleOffs_walk (d : Die) (k x b : Int) (w : World) (hd : DieAt w w.heap.size d) (he : Env w) : Calls Tryd.prog 3 #[.agg #[.slice d.A d.blades.length d.c, .int .i64 d.bound, .int .i64 d.stop, .int .i64 d.bend], .int .i64 k, .int .i64 x, .int .i64 b] w (Ret (.bool true) w) := by
  have K := Lib.hid (show LwD d w.heap.size (w.alloc (.cells #[.slice d.A d.blades.length d.c, .int .i64 d.bound, .int .i64 d.stop, .int .i64 d.bend] 24)) from ⟨hd.next (nxA _ _), he.next (nxA _ _), Bx.new w #[.slice d.A d.blades.length d.c, .int .i64 d.bound, .int .i64 d.stop, .int .i64 d.bend] 24⟩)
  have HB := Lib.hid (nxA w (.cells #[.slice d.A d.blades.length d.c, .int .i64 d.bound, .int .i64 d.stop, .int .i64 d.bend] 24))
  clear hd he
  obtain ⟨lo, hi, eo, hoff⟩ : ∃ lo hi eo, offS d k x = ((lo, hi), eo) := ⟨_, _, _, rfl⟩
  obtain ⟨la, lb, el, hlas⟩ : ∃ lo hi eo, lastsS d k b = ((lo, hi), eo) := ⟨_, _, _, rfl⟩
  have HO := Lib.hid hoff
  have HLA := Lib.hid hlas
  clear hoff hlas
  go_enter Tryd.func3, Tryd.ntmps3
  go_wp2_with fail
  generalize (w.alloc (.cells #[.slice d.A d.blades.length d.c, .int .i64 d.bound, .int .i64 d.stop, .int .i64 d.bend] 24)) = V1 at *
  have p0 := K.out.bx.c 0 _ rfl
  have p1 := K.out.bx.c 1 _ rfl
  have p2 := K.out.bx.c 2 _ rfl
  have p3 := K.out.bx.c 3 _ rfl
  go_wp2_with fail
  refine (far_any d none none 0 0 0 0 V1).mono ?_
  rintro e V2 ⟨bf, rfl, hb⟩
  replace K := Lib.hid (K.out.next hb)
  replace HB := Lib.hid (HB.out.trans (hb.mono HB.out.size))
  clear hb p0 p1 p2 p3
  cases bf
  rotate_left
  · go_wp2_with fail
    refine (awake_any V2 K.out.en).mono ?_
    rintro e V99 ⟨rfl, hb⟩
    go_wp2_with fail
    go_ret
    exact ⟨rfl, HB.out.trans (hb.mono HB.out.size)⟩
  · skip
    have p0 := K.out.bx.c 0 _ rfl
    have p1 := K.out.bx.c 1 _ rfl
    have p2 := K.out.bx.c 2 _ rfl
    have p3 := K.out.bx.c 3 _ rfl
    go_wp2_with fail
    have hcon := (Off_any d k x V2 K.out.da)
    rw [HO.out] at hcon
    refine (hcon).mono ?_
    rintro e V3 ⟨rfl, hb⟩
    replace K := Lib.hid (K.out.next hb)
    replace HB := Lib.hid (HB.out.trans (hb.mono HB.out.size))
    clear hb p0 p1 p2 p3 hcon
    dsimp only [retSpan]
    have hA := nxA V3 (.cells #[.int .i64 lo, .int .i64 hi] 28)
    replace K := Lib.hid (K.out.next hA)
    replace HB := Lib.hid (HB.out.trans (hA.mono HB.out.size))
    have S1 := Lib.hid (Bx.new V3 #[.int .i64 lo, .int .i64 hi] 28)
    clear hA
    go_upto_region 4 with fail
    generalize (V3.alloc (.cells #[.int .i64 lo, .int .i64 hi] 28)) = V4 at *
    generalize V3.heap.size = b1 at *
    have p0 := K.out.bx.c 0 _ rfl
    have p1 := K.out.bx.c 1 _ rfl
    have p2 := K.out.bx.c 2 _ rfl
    have p3 := K.out.bx.c 3 _ rfl
    go_wp2_with fail
    have hcon := (refOff_any d k x V4 K.out.da)
    rw [HO.out] at hcon
    refine (hcon).mono ?_
    rintro e V5 ⟨rfl, hb⟩
    replace S1 := Lib.hid (S1.out.next hb)
    replace K := Lib.hid (K.out.next hb)
    replace HB := Lib.hid (HB.out.trans (hb.mono HB.out.size))
    clear hb p0 p1 p2 p3 hcon
    dsimp only [retSpan]
    have hA := nxA V5 (.cells #[.int .i64 lo, .int .i64 hi] 28)
    replace S1 := Lib.hid (S1.out.next hA)
    replace K := Lib.hid (K.out.next hA)
    replace HB := Lib.hid (HB.out.trans (hA.mono HB.out.size))
    have S2 := Lib.hid (Bx.new V5 #[.int .i64 lo, .int .i64 hi] 28)
    clear hA
    go_upto_region 5 with fail
    generalize (V5.alloc (.cells #[.int .i64 lo, .int .i64 hi] 28)) = V6 at *
    generalize V5.heap.size = b2 at *
    have p0 := K.out.bx.c 0 _ rfl
    have p1 := K.out.bx.c 1 _ rfl
    have p2 := K.out.bx.c 2 _ rfl
    have p3 := K.out.bx.c 3 _ rfl
    go_wp2_with fail
    have hcon := (Lasts_any d k b V6 K.out.da)
    rw [HLA.out] at hcon
    refine (hcon).mono ?_
    rintro e V7 ⟨rfl, hb⟩
    replace S1 := Lib.hid (S1.out.next hb)
    replace S2 := Lib.hid (S2.out.next hb)
    replace K := Lib.hid (K.out.next hb)
    replace HB := Lib.hid (HB.out.trans (hb.mono HB.out.size))
    clear hb p0 p1 p2 p3 hcon
    dsimp only [retSpan]
    have hA := nxA V7 (.cells #[.int .i64 la, .int .i64 lb] 28)
    replace S1 := Lib.hid (S1.out.next hA)
    replace S2 := Lib.hid (S2.out.next hA)
    replace K := Lib.hid (K.out.next hA)
    replace HB := Lib.hid (HB.out.trans (hA.mono HB.out.size))
    have S3 := Lib.hid (Bx.new V7 #[.int .i64 la, .int .i64 lb] 28)
    clear hA
    go_upto_region 6 with fail
    generalize (V7.alloc (.cells #[.int .i64 la, .int .i64 lb] 28)) = V8 at *
    generalize V7.heap.size = b3 at *
    have p0 := K.out.bx.c 0 _ rfl
    have p1 := K.out.bx.c 1 _ rfl
    have p2 := K.out.bx.c 2 _ rfl
    have p3 := K.out.bx.c 3 _ rfl
    go_wp2_with fail
    have hcon := (refLasts_any d k b V8 K.out.da)
    rw [HLA.out] at hcon
    refine (hcon).mono ?_
    rintro e V9 ⟨rfl, hb⟩
    replace S1 := Lib.hid (S1.out.next hb)
    replace S2 := Lib.hid (S2.out.next hb)
    replace S3 := Lib.hid (S3.out.next hb)
    replace K := Lib.hid (K.out.next hb)
    replace HB := Lib.hid (HB.out.trans (hb.mono HB.out.size))
    clear hb p0 p1 p2 p3 hcon
    dsimp only [retSpan]
    have hA := nxA V9 (.cells #[.int .i64 la, .int .i64 lb] 28)
    replace S1 := Lib.hid (S1.out.next hA)
    replace S2 := Lib.hid (S2.out.next hA)
    replace S3 := Lib.hid (S3.out.next hA)
    replace K := Lib.hid (K.out.next hA)
    replace HB := Lib.hid (HB.out.trans (hA.mono HB.out.size))
    have S4 := Lib.hid (Bx.new V9 #[.int .i64 la, .int .i64 lb] 28)
    clear hA
    go_upto_region 7 with fail
    generalize (V9.alloc (.cells #[.int .i64 la, .int .i64 lb] 28)) = V10 at *
    generalize V9.heap.size = b4 at *
    have s0 := S1.out.c 0 _ rfl
    have s1 := S1.out.c 1 _ rfl
    have s2 := S2.out.c 0 _ rfl
    have s3 := S2.out.c 1 _ rfl
    have s4 := S3.out.c 0 _ rfl
    have s5 := S3.out.c 1 _ rfl
    have s6 := S4.out.c 0 _ rfl
    have s7 := S4.out.c 1 _ rfl
    have hq1 := fun W => span_eql lo hi lo hi W
    have hq2 := fun W => span_eql la lb la lb W
    simp only [beq_self_eq_true, Bool.and_self] at hq1 hq2
    have hq3 := span_eq3
    go_wp2_with fail
    refine (awake_any V10 K.out.en).mono ?_
    rintro e V99 ⟨rfl, hb⟩
    go_wp2_with fail
    go_ret
    exact ⟨rfl, HB.out.trans (hb.mono HB.out.size)⟩
end Go.Proofs.YtbhkglokdomajaaDoor
