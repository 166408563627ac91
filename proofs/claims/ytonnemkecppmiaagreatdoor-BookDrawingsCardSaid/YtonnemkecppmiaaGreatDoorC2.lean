import Derived.Test.YtonnemkecppmiaaGreatDoorC1
import Derived.Test.YtonnemkecppmiaaGreatDoorR7
import Derived.Test.YtonnemkecppmiaaGreatDoorR8
namespace Go.Proofs.YtonnemkecppmiaaGreatDoor
open Go.RowKit
/-! The law BookDrawings. -/
set_option maxRecDepth 100000 in
set_option maxHeartbeats 4000000 in
theorem BookDrawings_walk (m : Mp) (s : Tx) (w : World) (hE : Env w) (hr : PuAt w w.heap.size m) (_ : s.length ≤ 9223372036854775807) : Calls Tryz.prog 3 #[.agg #[.int .i64 m.d.play.len, .int .i64 m.d.play.slack, .int .i64 m.d.play.loose, .int .i64 m.d.play.damp.lo, .int .i64 m.d.play.damp.hi, .int .i64 m.d.wide, .int .i64 m.d.high, .bool m.d.turn, .slice m.A m.d.pieces.length m.c], tx s] w (Ret (.bool true) w) := by
  have HE := Lib.hid (hE.next (nxA w (.cells #[.int .i64 m.d.play.len, .int .i64 m.d.play.slack, .int .i64 m.d.play.loose, .int .i64 m.d.play.damp.lo, .int .i64 m.d.play.damp.hi, .int .i64 m.d.wide, .int .i64 m.d.high, .bool m.d.turn, .slice m.A m.d.pieces.length m.c] 28)))
  have HM := Lib.hid (hr.next (nxA w (.cells #[.int .i64 m.d.play.len, .int .i64 m.d.play.slack, .int .i64 m.d.play.loose, .int .i64 m.d.play.damp.lo, .int .i64 m.d.play.damp.hi, .int .i64 m.d.wide, .int .i64 m.d.high, .bool m.d.turn, .slice m.A m.d.pieces.length m.c] 28)))
  have HB := Lib.hid (nxA w (.cells #[.int .i64 m.d.play.len, .int .i64 m.d.play.slack, .int .i64 m.d.play.loose, .int .i64 m.d.play.damp.lo, .int .i64 m.d.play.damp.hi, .int .i64 m.d.wide, .int .i64 m.d.high, .bool m.d.turn, .slice m.A m.d.pieces.length m.c] 28))
  have HX := Lib.hid (Bx.new w #[.int .i64 m.d.play.len, .int .i64 m.d.play.slack, .int .i64 m.d.play.loose, .int .i64 m.d.play.damp.lo, .int .i64 m.d.play.damp.hi, .int .i64 m.d.wide, .int .i64 m.d.high, .bool m.d.turn, .slice m.A m.d.pieces.length m.c] 28)
  have HW := Lib.hid (fun (W : World) (h1 : Env W) (h2 : PuAt W W.heap.size m) => WriteDrawing_any m W h1 h2)
  have HR := Lib.hid (fun (W : World) (h2 : PuAt W W.heap.size m) => WriteDrawingR_any m W h2)
  generalize (wrD m.d).1 = t1 at HW HR
  generalize (wrD m.d).2 = e1 at HW HR
  have HRR := Lib.hid (fun (W : World) => ReadDrawingR_any s W)
  obtain ⟨g, hg⟩ : ∃ g, rdE s = g := ⟨_, rfl⟩
  have HG := Lib.hid hg
  clear hg
  have hs : (t1 == t1) = true := beq_self_eq_true _
  clear hE hr
  go_enter Tryz.func3, Tryz.ntmps3
  go_upto_region 1 with fail
  generalize (w.alloc (.cells #[.int .i64 m.d.play.len, .int .i64 m.d.play.slack, .int .i64 m.d.play.loose, .int .i64 m.d.play.damp.lo, .int .i64 m.d.play.damp.hi, .int .i64 m.d.wide, .int .i64 m.d.high, .bool m.d.turn, .slice m.A m.d.pieces.length m.c] 28)) = V at *
  obtain ⟨b, hb⟩ : ∃ b, b = w.heap.size := ⟨_, rfl⟩
  rw [← hb] at HX ⊢
  clear hb
  have c0 := HX.out.c 0 _ rfl
  have c1 := HX.out.c 1 _ rfl
  have c2 := HX.out.c 2 _ rfl
  have c3 := HX.out.c 3 _ rfl
  have c4 := HX.out.c 4 _ rfl
  have c5 := HX.out.c 5 _ rfl
  have c6 := HX.out.c 6 _ rfl
  have c7 := HX.out.c 7 _ rfl
  have c8 := HX.out.c 8 _ rfl
  go_upto_region 1 with fail
  go_cut [26] (fun s wx => (∃ far : Bool, s = .bool far) ∧ wx = V)
  case first =>
    go_wp2_with fail
    all_goals
      go_meet
      exact ⟨⟨_, rfl⟩, rfl⟩
  case rest =>
    obtain ⟨⟨far, rfl⟩, hw⟩ := hcut
    have hw2 := hw.symm
    clear hw
    subst hw2
    cases far
    rotate_left
    ·
      go_wp2_with fail
      refine (alive_any V HE.out).mono ?_
      rintro e W99 ⟨rfl, hb⟩
      go_wp2_with fail
      go_ret
      exact ret_bool rfl (HB.out.trans (hb.mono HB.out.size))
    · skip
      go_wp2_with fail
      refine (HW.out V HE.out HM.out).mono ?_
      rintro e W0 ⟨rfl, hb⟩
      replace HE := Lib.hid (HE.out.next hb)
      replace HB := Lib.hid (HB.out.trans (hb.mono HB.out.size))
      replace HM := Lib.hid (HM.out.next hb)
      replace HX := Lib.hid (HX.out.next hb)
      clear hb
      clear c0 c1 c2 c3 c4 c5 c6 c7 c8
      have c0 := HX.out.c 0 _ rfl
      have c1 := HX.out.c 1 _ rfl
      have c2 := HX.out.c 2 _ rfl
      have c3 := HX.out.c 3 _ rfl
      have c4 := HX.out.c 4 _ rfl
      have c5 := HX.out.c 5 _ rfl
      have c6 := HX.out.c 6 _ rfl
      have c7 := HX.out.c 7 _ rfl
      have c8 := HX.out.c 8 _ rfl
      go_wp2_with fail
      refine (HR.out W0 HM.out).mono ?_
      rintro e W1 ⟨rfl, hb⟩
      replace HE := Lib.hid (HE.out.next hb)
      replace HB := Lib.hid (HB.out.trans (hb.mono HB.out.size))
      replace HM := Lib.hid (HM.out.next hb)
      replace HX := Lib.hid (HX.out.next hb)
      clear hb
      clear c0 c1 c2 c3 c4 c5 c6 c7 c8
      go_wp2_with fail
      refine (ReadDrawing_any s W1 HE.out).mono ?_
      rintro e W2 ⟨m1, hm1, rfl, hp, -, hb⟩
      replace HE := Lib.hid (HE.out.next hb)
      replace HB := Lib.hid (HB.out.trans (hb.mono HB.out.size))
      replace HM := Lib.hid (HM.out.next hb)
      replace HX := Lib.hid (HX.out.next hb)
      have HM1 := Lib.hid hp
      have HD1 := Lib.hid hm1
      clear hp hm1
      rw [HG.out]
      clear hb
      have HN := Lib.hid (nxA W2 (.cells #[.int .i64 m1.d.play.len, .int .i64 m1.d.play.slack, .int .i64 m1.d.play.loose, .int .i64 m1.d.play.damp.lo, .int .i64 m1.d.play.damp.hi, .int .i64 m1.d.wide, .int .i64 m1.d.high, .bool m1.d.turn, .slice m1.A m1.d.pieces.length m1.c] 28))
      have HX1 := Lib.hid (Bx.new W2 #[.int .i64 m1.d.play.len, .int .i64 m1.d.play.slack, .int .i64 m1.d.play.loose, .int .i64 m1.d.play.damp.lo, .int .i64 m1.d.play.damp.hi, .int .i64 m1.d.wide, .int .i64 m1.d.high, .bool m1.d.turn, .slice m1.A m1.d.pieces.length m1.c] 28)
      go_upto_region 6 with fail
      generalize (W2.alloc (.cells #[.int .i64 m1.d.play.len, .int .i64 m1.d.play.slack, .int .i64 m1.d.play.loose, .int .i64 m1.d.play.damp.lo, .int .i64 m1.d.play.damp.hi, .int .i64 m1.d.wide, .int .i64 m1.d.high, .bool m1.d.turn, .slice m1.A m1.d.pieces.length m1.c] 28)) = V1 at *
      obtain ⟨b1, hb1⟩ : ∃ b, b = W2.heap.size := ⟨_, rfl⟩
      rw [← hb1] at HX1 ⊢
      have hb := HN.out
      replace HE := Lib.hid (HE.out.next hb)
      replace HB := Lib.hid (HB.out.trans (hb.mono HB.out.size))
      replace HM := Lib.hid (HM.out.next hb)
      replace HX := Lib.hid (HX.out.next hb)
      replace HM1 := Lib.hid (HM1.out.next hb)
      clear hb hb1 HN
      go_wp2_with fail
      refine (HRR.out V1).mono ?_
      rintro e W3 ⟨m2, hm2, rfl, hp, -, hb⟩
      replace HE := Lib.hid (HE.out.next hb)
      replace HB := Lib.hid (HB.out.trans (hb.mono HB.out.size))
      replace HM := Lib.hid (HM.out.next hb)
      replace HX := Lib.hid (HX.out.next hb)
      replace HM1 := Lib.hid (HM1.out.next hb)
      replace HX1 := Lib.hid (HX1.out.next hb)
      have HM2 := Lib.hid hp
      have HD2 := Lib.hid hm2
      clear hp hm2
      rw [HG.out]
      clear hb
      have HN := Lib.hid (nxA W3 (.cells #[.int .i64 m2.d.play.len, .int .i64 m2.d.play.slack, .int .i64 m2.d.play.loose, .int .i64 m2.d.play.damp.lo, .int .i64 m2.d.play.damp.hi, .int .i64 m2.d.wide, .int .i64 m2.d.high, .bool m2.d.turn, .slice m2.A m2.d.pieces.length m2.c] 28))
      have HX2 := Lib.hid (Bx.new W3 #[.int .i64 m2.d.play.len, .int .i64 m2.d.play.slack, .int .i64 m2.d.play.loose, .int .i64 m2.d.play.damp.lo, .int .i64 m2.d.play.damp.hi, .int .i64 m2.d.wide, .int .i64 m2.d.high, .bool m2.d.turn, .slice m2.A m2.d.pieces.length m2.c] 28)
      go_upto_region 7 with fail
      generalize (W3.alloc (.cells #[.int .i64 m2.d.play.len, .int .i64 m2.d.play.slack, .int .i64 m2.d.play.loose, .int .i64 m2.d.play.damp.lo, .int .i64 m2.d.play.damp.hi, .int .i64 m2.d.wide, .int .i64 m2.d.high, .bool m2.d.turn, .slice m2.A m2.d.pieces.length m2.c] 28)) = V2 at *
      obtain ⟨b2, hb2⟩ : ∃ b, b = W3.heap.size := ⟨_, rfl⟩
      rw [← hb2] at HX2 ⊢
      have hb := HN.out
      replace HE := Lib.hid (HE.out.next hb)
      replace HB := Lib.hid (HB.out.trans (hb.mono HB.out.size))
      replace HM := Lib.hid (HM.out.next hb)
      replace HX := Lib.hid (HX.out.next hb)
      replace HM1 := Lib.hid (HM1.out.next hb)
      replace HX1 := Lib.hid (HX1.out.next hb)
      replace HM2 := Lib.hid (HM2.out.next hb)
      clear hb hb2 HN
      have c0 := HX1.out.c 0 _ rfl
      have c1 := HX1.out.c 1 _ rfl
      have c2 := HX1.out.c 2 _ rfl
      have c3 := HX1.out.c 3 _ rfl
      have c4 := HX1.out.c 4 _ rfl
      have c5 := HX1.out.c 5 _ rfl
      have c6 := HX1.out.c 6 _ rfl
      have c7 := HX1.out.c 7 _ rfl
      have c8 := HX1.out.c 8 _ rfl
      have d0 := HX2.out.c 0 _ rfl
      have d1 := HX2.out.c 1 _ rfl
      have d2 := HX2.out.c 2 _ rfl
      have d3 := HX2.out.c 3 _ rfl
      have d4 := HX2.out.c 4 _ rfl
      have d5 := HX2.out.c 5 _ rfl
      have d6 := HX2.out.c 6 _ rfl
      have d7 := HX2.out.c 7 _ rfl
      have d8 := HX2.out.c 8 _ rfl
      go_wp2_with fail
      refine (SameDrawings_any m1 m2 V2 HM1.out HM2.out).mono ?_
      rintro e W4 ⟨rfl, hb⟩
      replace HE := Lib.hid (HE.out.next hb)
      replace HB := Lib.hid (HB.out.trans (hb.mono HB.out.size))
      replace HM := Lib.hid (HM.out.next hb)
      replace HX := Lib.hid (HX.out.next hb)
      replace HM1 := Lib.hid (HM1.out.next hb)
      replace HX1 := Lib.hid (HX1.out.next hb)
      replace HM2 := Lib.hid (HM2.out.next hb)
      replace HX2 := Lib.hid (HX2.out.next hb)
      rw [show decide (m1.d = m2.d) = true from decide_eq_true (by rw [HD1.out, HD2.out])]
      clear hb
      go_wp2_with fail
      refine (alive_any W4 HE.out).mono ?_
      rintro e W99 ⟨rfl, hb⟩
      go_wp2_with fail
      go_ret
      exact ret_bool rfl (HB.out.trans (hb.mono HB.out.size))
end Go.Proofs.YtonnemkecppmiaaGreatDoor
