import Derived.Test.YtkcfpnpejaekjaaDoorA1
namespace Go.Proofs.YtkcfpnpejaekjaaDoor
open Go.RowKit
/-! The law: awake. -/
/-- The sample, in memory. -/
structure SmAt (adm : List Int) (A1 A2 A3 : Option Addr) (W : World) : Prop where
  lo : At W W.heap.size 3 Loan.cells A1 (smp adm).loans
  lk : At W W.heap.size 3 Look.cells A2 (smp adm).looks
  ad : At W W.heap.size 1 icell A3 adm
theorem SmAt.next {adm : List Int} {A1 A2 A3 : Option Addr} {W W' : World} (h : SmAt adm A1 A2 A3 W) (hb : Below W.heap.size W W') : SmAt adm A1 A2 A3 W' := ⟨h.lo.next hb, h.lk.next hb, h.ad.next hb⟩
def smM (adm : List Int) (A1 A2 A3 : Option Addr) : Mt := ⟨smp adm, A1, 3, A2, 3, A3, 3⟩
theorem SmAt.tale {adm : List Int} {A1 A2 A3 : Option Addr} {W : World} (h : SmAt adm A1 A2 A3 W) (h3 : adm.length = 3) : TaleAt W W.heap.size (smM adm A1 A2 A3) :=
  ⟨h.lo, h.lk, h.ad, by show 3 ≤ _; decide, by show 3 ≤ _; decide, by show adm.length ≤ _; omega, by show 3 ≤ 3; decide, by show 3 ≤ 3; decide, by show adm.length ≤ 3; omega⟩
theorem span_eql (x1 x2 y1 y2 : Int) (W : World) : (binOp .eql 33 (.agg #[.int .i64 x1, .int .i64 x2]) (.agg #[.int .i64 y1, .int .i64 y2])).run Tryd.prog W = .ok (.bool (x1 == y1 && x2 == y2)) W := by
  rw [run_eql_struct, run_equalIn_struct _ _ _ _ _ span_eq1 span_eq2]
  simp [Op.eqFields, go_sem]
  by_cases h1 : x1 = y1 <;> by_cases h2 : x2 = y2 <;> simp [h1, h2]
set_option maxRecDepth 100000 in
set_option maxHeartbeats 4000000 in
theorem awake_any (w : World) (he : Env w) : Calls Tryd.prog 13 #[] w (Ret (.bool true) w) := by
  have HE := Lib.hid he
  have n1 := nxA w (.cells #[.int .i64 (-1), .int .i64 1, .int .i64 (-1)] 3)
  have y1 : At (w.alloc (.cells #[.int .i64 (-1), .int .i64 1, .int .i64 (-1)] 3)) (w.alloc (.cells #[.int .i64 (-1), .int .i64 1, .int .i64 (-1)] 3)).heap.size 1 icell (some ⟨w.heap.size, 0, none⟩) [-1, 1, -1] := row_at (fun _ => rfl) (Bx.new w #[.int .i64 (-1), .int .i64 1, .int .i64 (-1)] 3)
  clear he
  go_enter Tryd.func13, Tryd.ntmps13
  go_wp2_with fail
  generalize w.alloc (.cells #[.int .i64 (-1), .int .i64 1, .int .i64 (-1)] 3) = V at *
  have HB := Lib.hid n1
  have HY := Lib.hid y1
  clear n1 y1
  refine (sample_any [-1, 1, -1] (some ⟨w.heap.size, 0, none⟩) 3 V).mono ?_
  rintro e W1 ⟨A1, A2, rfl, hb1, h1, h2⟩
  have HB1 := Lib.hid (HB.out.trans (hb1.mono HB.out.size))
  have HS := Lib.hid (show SmAt [-1, 1, -1] A1 A2 (some ⟨w.heap.size, 0, none⟩) W1 from ⟨h1, h2, HY.out.next hb1⟩)
  clear hb1 h1 h2
  go_upto_region 2 with fail
  have n2 := nxA W1 (.cells #[.int .i64 4, .slice A1 3 3, .slice A2 3 3, .slice (some ⟨w.heap.size, 0, none⟩) 3 3] 26)
  have y2 := Bx.new W1 #[.int .i64 4, .slice A1 3 3, .slice A2 3 3, .slice (some ⟨w.heap.size, 0, none⟩) 3 3] 26
  have B2 := Lib.hid (HB1.out.trans (n2.mono HB1.out.size))
  have S2 := Lib.hid (HS.out.next n2)
  have X2 := Lib.hid y2
  clear n2 y2 HS HB1 HY HB
  generalize W1.alloc (.cells #[.int .i64 4, .slice A1 3 3, .slice A2 3 3, .slice (some ⟨w.heap.size, 0, none⟩) 3 3] 26) = W2 at *
  generalize W1.heap.size = b1 at *
  have HC := Lib.hid (show Calls Tryd.prog 14 #[.agg #[.int .i64 4, .slice A1 3 3, .slice A2 3 3, .slice (some ⟨w.heap.size, 0, none⟩) 3 3], .int .i64 25] W2 (Ret (ret2 (-1, 0)) W2) from by have := Holder_any (smM [-1, 1, -1] A1 A2 (some ⟨w.heap.size, 0, none⟩)) 25 W2 (S2.out.tale rfl); rw [show holderS (smM [-1, 1, -1] A1 A2 (some ⟨w.heap.size, 0, none⟩)).t 25 = (-1, 0) from smp1_holder] at this; exact this)
  have c0 := X2.out.c 0 _ rfl
  have c1 := X2.out.c 1 _ rfl
  have c2 := X2.out.c 2 _ rfl
  have c3 := X2.out.c 3 _ rfl
  have hl := X2.out.lt
  go_wp2_with fail
  refine HC.out.mono ?_
  rintro e W3 ⟨rfl, hb⟩
  clear c0 c1 c2 c3 hl HC
  have B3 := Lib.hid (B2.out.trans (hb.mono B2.out.size))
  have S3 := Lib.hid (S2.out.next hb)
  have X3 := Lib.hid (X2.out.next hb)
  clear B2 S2 X2 
  clear hb
  unfold ret2
  go_upto_region 3 with fail
  have HC := Lib.hid (show Calls Tryd.prog 16 #[.agg #[.int .i64 4, .slice A1 3 3, .slice A2 3 3, .slice (some ⟨w.heap.size, 0, none⟩) 3 3], .int .i64 3] W3 (Ret (retWin ⟨10, 1048575, false, 0⟩) W3) from by have := Window_any (smM [-1, 1, -1] A1 A2 (some ⟨w.heap.size, 0, none⟩)) 3 W3 (S3.out.tale rfl); rw [show winS (smM [-1, 1, -1] A1 A2 (some ⟨w.heap.size, 0, none⟩)).t 3 = ⟨10, 1048575, false, 0⟩ from smp1_win] at this; exact this)
  have c0 := X3.out.c 0 _ rfl
  have c1 := X3.out.c 1 _ rfl
  have c2 := X3.out.c 2 _ rfl
  have c3 := X3.out.c 3 _ rfl
  have hl := X3.out.lt
  go_wp2_with fail
  refine HC.out.mono ?_
  rintro e W4 ⟨rfl, hb⟩
  clear c0 c1 c2 c3 hl HC
  have B4 := Lib.hid (B3.out.trans (hb.mono B3.out.size))
  have S4 := Lib.hid (S3.out.next hb)
  have X4 := Lib.hid (X3.out.next hb)
  clear B3 S3 X3 
  clear hb
  unfold retWin
  have nb := nxA W4 (.cells #[.int .i64 10, .int .i64 1048575] 33)
  have yb := Bx.new W4 #[.int .i64 10, .int .i64 1048575] 33
  go_upto_region 4 with fail
  have B5 := Lib.hid (B4.out.trans (nb.mono B4.out.size))
  have S5 := Lib.hid (S4.out.next nb)
  have X5 := Lib.hid (X4.out.next nb)
  clear B4 S4 X4 
  have P5 := Lib.hid yb
  clear nb yb
  generalize W4.alloc (.cells #[.int .i64 10, .int .i64 1048575] 33) = W5 at *
  generalize W4.heap.size = bP at *
  have HC := Lib.hid (show Calls Tryd.prog 18 #[.agg #[.int .i64 4, .slice A1 3 3, .slice A2 3 3, .slice (some ⟨w.heap.size, 0, none⟩) 3 3], .int .i64 0] W5 (Ret (RetWho (65, 0)) W5) from by have := Who_any (smM [-1, 1, -1] A1 A2 (some ⟨w.heap.size, 0, none⟩)) 0 W5 (S5.out.tale rfl) (HE.out.next B5.out); rw [show whoS (smM [-1, 1, -1] A1 A2 (some ⟨w.heap.size, 0, none⟩)).t 0 = (65, 0) from smp1_who0] at this; exact this)
  have c0 := X5.out.c 0 _ rfl
  have c1 := X5.out.c 1 _ rfl
  have c2 := X5.out.c 2 _ rfl
  have c3 := X5.out.c 3 _ rfl
  have hl := X5.out.lt
  go_wp2_with fail
  refine HC.out.mono ?_
  rintro e W6 ⟨rfl, hb⟩
  clear c0 c1 c2 c3 hl HC
  have B6 := Lib.hid (B5.out.trans (hb.mono B5.out.size))
  have S6 := Lib.hid (S5.out.next hb)
  have X6 := Lib.hid (X5.out.next hb)
  have P6 := Lib.hid (P5.out.next hb)
  clear B5 S5 X5 P5
  clear hb
  unfold RetWho
  go_upto_region 5 with fail
  have HC := Lib.hid (show Calls Tryd.prog 18 #[.agg #[.int .i64 4, .slice A1 3 3, .slice A2 3 3, .slice (some ⟨w.heap.size, 0, none⟩) 3 3], .int .i64 3] W6 (Ret (RetWho (199, 0)) W6) from by have := Who_any (smM [-1, 1, -1] A1 A2 (some ⟨w.heap.size, 0, none⟩)) 3 W6 (S6.out.tale rfl) (HE.out.next B6.out); rw [show whoS (smM [-1, 1, -1] A1 A2 (some ⟨w.heap.size, 0, none⟩)).t 3 = (199, 0) from smp1_who3] at this; exact this)
  have c0 := X6.out.c 0 _ rfl
  have c1 := X6.out.c 1 _ rfl
  have c2 := X6.out.c 2 _ rfl
  have c3 := X6.out.c 3 _ rfl
  have hl := X6.out.lt
  go_wp2_with fail
  refine HC.out.mono ?_
  rintro e W7 ⟨rfl, hb⟩
  clear c0 c1 c2 c3 hl HC
  have B7 := Lib.hid (B6.out.trans (hb.mono B6.out.size))
  have S7 := Lib.hid (S6.out.next hb)
  have X7 := Lib.hid (X6.out.next hb)
  have P7 := Lib.hid (P6.out.next hb)
  clear B6 S6 X6 P6
  clear hb
  unfold RetWho
  go_upto_region 6 with fail
  have HC := Lib.hid (show Calls Tryd.prog 20 #[.agg #[.int .i64 4, .slice A1 3 3, .slice A2 3 3, .slice (some ⟨w.heap.size, 0, none⟩) 3 3], .int .i64 2] W7 (Ret (retLost ((0, 2), 0)) W7) from by have := Lost_any (smM [-1, 1, -1] A1 A2 (some ⟨w.heap.size, 0, none⟩)) 2 W7 (S7.out.tale rfl); rw [show lostS (smM [-1, 1, -1] A1 A2 (some ⟨w.heap.size, 0, none⟩)).t 2 = ((0, 2), 0) from smp1_lost] at this; exact this)
  have c0 := X7.out.c 0 _ rfl
  have c1 := X7.out.c 1 _ rfl
  have c2 := X7.out.c 2 _ rfl
  have c3 := X7.out.c 3 _ rfl
  have hl := X7.out.lt
  go_wp2_with fail
  refine HC.out.mono ?_
  rintro e W8 ⟨rfl, hb⟩
  clear c0 c1 c2 c3 hl HC
  have B8 := Lib.hid (B7.out.trans (hb.mono B7.out.size))
  have S8 := Lib.hid (S7.out.next hb)
  have X8 := Lib.hid (X7.out.next hb)
  have P8 := Lib.hid (P7.out.next hb)
  clear B7 S7 X7 P7
  clear hb
  unfold retLost
  have nb := nxA W8 (.cells #[.int .i64 0, .int .i64 2] 33)
  have yb := Bx.new W8 #[.int .i64 0, .int .i64 2] 33
  go_upto_region 7 with fail
  have B9 := Lib.hid (B8.out.trans (nb.mono B8.out.size))
  have S9 := Lib.hid (S8.out.next nb)
  have X9 := Lib.hid (X8.out.next nb)
  have P9 := Lib.hid (P8.out.next nb)
  clear B8 S8 X8 P8
  have Q9 := Lib.hid yb
  clear nb yb
  generalize W8.alloc (.cells #[.int .i64 0, .int .i64 2] 33) = W9 at *
  generalize W8.heap.size = bQ at *
  have nb := nxA W9 (.cells #[.int .i64 (-1), .int .i64 (4), .int .i64 (-1)] 3)
  have yb : At (W9.alloc (.cells #[.int .i64 (-1), .int .i64 (4), .int .i64 (-1)] 3)) (W9.alloc (.cells #[.int .i64 (-1), .int .i64 (4), .int .i64 (-1)] 3)).heap.size 1 icell (some ⟨W9.heap.size, 0, none⟩) [(-1 : Int), (4 : Int), (-1 : Int)] := row_at (fun _ => rfl) (Bx.new W9 #[.int .i64 (-1), .int .i64 (4), .int .i64 (-1)] 3)
  go_wp2_with fail
  have B10 := Lib.hid (B9.out.trans (nb.mono B9.out.size))
  have S10 := Lib.hid (S9.out.next nb)
  have X10 := Lib.hid (X9.out.next nb)
  have P10 := Lib.hid (P9.out.next nb)
  have Q10 := Lib.hid (Q9.out.next nb)
  clear B9 S9 X9 P9 Q9
  have HYa := Lib.hid yb
  clear nb yb
  generalize W9.alloc (.cells #[.int .i64 (-1), .int .i64 (4), .int .i64 (-1)] 3) = W10 at *
  generalize W9.heap.size = ga at *
  refine (sample_any [(-1 : Int), (4 : Int), (-1 : Int)] (some ⟨ga, 0, none⟩) 3 W10).mono ?_
  rintro e W11 ⟨D1a, D2a, rfl, hb, h1, h2⟩
  have T11 := Lib.hid (show SmAt [(-1 : Int), (4 : Int), (-1 : Int)] D1a D2a (some ⟨ga, 0, none⟩) W11 from ⟨h1, h2, HYa.out.next hb⟩)
  have B11 := Lib.hid (B10.out.trans (hb.mono B10.out.size))
  have S11 := Lib.hid (S10.out.next hb)
  have X11 := Lib.hid (X10.out.next hb)
  have P11 := Lib.hid (P10.out.next hb)
  have Q11 := Lib.hid (Q10.out.next hb)
  clear B10 S10 X10 P10 Q10
  clear hb h1 h2
  have HC := Lib.hid (show Calls Tryd.prog 22 #[.agg #[.int .i64 4, .slice D1a 3 3, .slice D2a 3 3, .slice (some ⟨ga, 0, none⟩) 3 3]] W11 (Ret (retCl (3, 0)) W11) from by have := Clash_any (smM [(-1 : Int), (4 : Int), (-1 : Int)] D1a D2a (some ⟨ga, 0, none⟩)) W11 (T11.out.tale rfl); rw [show clashS (smM [(-1 : Int), (4 : Int), (-1 : Int)] D1a D2a (some ⟨ga, 0, none⟩)).t = (3, 0) from smp2_clash] at this; exact this)
  go_wp2_with fail
  refine HC.out.mono ?_
  rintro e W12 ⟨rfl, hb⟩
  have B12 := Lib.hid (B11.out.trans (hb.mono B11.out.size))
  have S12 := Lib.hid (S11.out.next hb)
  have X12 := Lib.hid (X11.out.next hb)
  have P12 := Lib.hid (P11.out.next hb)
  have Q12 := Lib.hid (Q11.out.next hb)
  clear B11 S11 X11 P11 Q11
  clear hb HC T11 HYa
  unfold retCl
  go_upto_region 8 with fail
  have HC := Lib.hid (show Calls Tryd.prog 22 #[.agg #[.int .i64 4, .slice A1 3 3, .slice A2 3 3, .slice (some ⟨w.heap.size, 0, none⟩) 3 3]] W12 (Ret (retCl (0, 4)) W12) from by have := Clash_any (smM [-1, 1, -1] A1 A2 (some ⟨w.heap.size, 0, none⟩)) W12 (S12.out.tale rfl); rw [show clashS (smM [-1, 1, -1] A1 A2 (some ⟨w.heap.size, 0, none⟩)).t = (0, 4) from smp1_clash] at this; exact this)
  have c0 := X12.out.c 0 _ rfl
  have c1 := X12.out.c 1 _ rfl
  have c2 := X12.out.c 2 _ rfl
  have c3 := X12.out.c 3 _ rfl
  have hl := X12.out.lt
  go_wp2_with fail
  refine HC.out.mono ?_
  rintro e W13 ⟨rfl, hb⟩
  clear c0 c1 c2 c3 hl HC
  have B13 := Lib.hid (B12.out.trans (hb.mono B12.out.size))
  have S13 := Lib.hid (S12.out.next hb)
  have X13 := Lib.hid (X12.out.next hb)
  have P13 := Lib.hid (P12.out.next hb)
  have Q13 := Lib.hid (Q12.out.next hb)
  clear B12 S12 X12 P12 Q12
  clear hb
  unfold retCl
  go_upto_region 9 with fail
  have nb := nxA W13 (.cells #[.int .i64 (0), .int .i64 (0), .int .i64 (0)] 3)
  have yb : At (W13.alloc (.cells #[.int .i64 (0), .int .i64 (0), .int .i64 (0)] 3)) (W13.alloc (.cells #[.int .i64 (0), .int .i64 (0), .int .i64 (0)] 3)).heap.size 1 icell (some ⟨W13.heap.size, 0, none⟩) [(0 : Int), (0 : Int), (0 : Int)] := row_at (fun _ => rfl) (Bx.new W13 #[.int .i64 (0), .int .i64 (0), .int .i64 (0)] 3)
  go_wp2_with fail
  have B14 := Lib.hid (B13.out.trans (nb.mono B13.out.size))
  have S14 := Lib.hid (S13.out.next nb)
  have X14 := Lib.hid (X13.out.next nb)
  have P14 := Lib.hid (P13.out.next nb)
  have Q14 := Lib.hid (Q13.out.next nb)
  clear B13 S13 X13 P13 Q13
  have HYc := Lib.hid yb
  clear nb yb
  generalize W13.alloc (.cells #[.int .i64 (0), .int .i64 (0), .int .i64 (0)] 3) = W14 at *
  generalize W13.heap.size = gc at *
  refine (sample_any [(0 : Int), (0 : Int), (0 : Int)] (some ⟨gc, 0, none⟩) 3 W14).mono ?_
  rintro e W15 ⟨D1c, D2c, rfl, hb, h1, h2⟩
  have T15 := Lib.hid (show SmAt [(0 : Int), (0 : Int), (0 : Int)] D1c D2c (some ⟨gc, 0, none⟩) W15 from ⟨h1, h2, HYc.out.next hb⟩)
  have B15 := Lib.hid (B14.out.trans (hb.mono B14.out.size))
  have S15 := Lib.hid (S14.out.next hb)
  have X15 := Lib.hid (X14.out.next hb)
  have P15 := Lib.hid (P14.out.next hb)
  have Q15 := Lib.hid (Q14.out.next hb)
  clear B14 S14 X14 P14 Q14
  clear hb h1 h2
  have HC := Lib.hid (show Calls Tryd.prog 18 #[.agg #[.int .i64 4, .slice D1c 3 3, .slice D2c 3 3, .slice (some ⟨gc, 0, none⟩) 3 3], .int .i64 3] W15 (Ret (RetWho (192, 0)) W15) from by have := Who_any (smM [(0 : Int), (0 : Int), (0 : Int)] D1c D2c (some ⟨gc, 0, none⟩)) 3 W15 (T15.out.tale rfl) (HE.out.next B15.out); rw [show whoS (smM [(0 : Int), (0 : Int), (0 : Int)] D1c D2c (some ⟨gc, 0, none⟩)).t 3 = (192, 0) from smp3_who] at this; exact this)
  go_wp2_with fail
  refine HC.out.mono ?_
  rintro e W16 ⟨rfl, hb⟩
  have B16 := Lib.hid (B15.out.trans (hb.mono B15.out.size))
  have S16 := Lib.hid (S15.out.next hb)
  have X16 := Lib.hid (X15.out.next hb)
  have P16 := Lib.hid (P15.out.next hb)
  have Q16 := Lib.hid (Q15.out.next hb)
  clear B15 S15 X15 P15 Q15
  clear hb HC T15 HYc
  unfold RetWho
  have p0 := P16.out.c 0 _ rfl
  have p1 := P16.out.c 1 _ rfl
  have q0 := Q16.out.c 0 _ rfl
  have q1 := Q16.out.c 1 _ rfl
  have e1 := fun W => span_eql 10 1048575 10 1048575 W
  have e2 := fun W => span_eql 0 2 0 2 W
  go_wp2_with fail
  go_ret
  exact ⟨rfl, B16.out⟩
end Go.Proofs.YtkcfpnpejaekjaaDoor
