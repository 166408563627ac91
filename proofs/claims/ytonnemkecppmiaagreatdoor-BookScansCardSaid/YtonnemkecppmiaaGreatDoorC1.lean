import Derived.Test.YtonnemkecppmiaaGreatDoorAC
import Derived.Laws.IdiomStrings
namespace Go.Proofs.YtonnemkecppmiaaGreatDoor
open Go.RowKit
/-! The law: alive. -/
theorem bytes_of (t : Tx) (w : World) : ∃ c w', (convert 9 37 (tx t)).run Tryz.prog w = .ok (.slice (some ⟨w.heap.size, 0, none⟩) t.length c) w' ∧ BsAt w' w'.heap.size (some ⟨w.heap.size, 0, none⟩) t ∧ Below w.heap.size w w' := by
  have h := run_bytes_of_string (P := Tryz.prog) w 9 37 5 ⟨t.toArray⟩ Tryz.underlying9 Tryz.underlying37 Tryz.underlying5
  refine ⟨_, _, h, ?_, (Below.refl w.heap.size w).drew.alloc (Nat.le_refl _) _⟩
  intro k x hx
  refine ⟨w.heap.size, 0, rfl, by simp, fun j u hu => ?_⟩
  rcases j with _ | j
  · have hu' : u8v x = u := Option.some.inj (show some (u8v x) = some u from hu)
    rw [Nat.zero_add, Nat.mul_one, Nat.add_zero, ← hu']
    have hk := (List.getElem?_eq_some_iff.1 hx).1
    show World.cell? _ ⟨w.drew.heap.size, k, none⟩ = _
    rw [World.cell?_alloc_mark]
    unfold bytesRow
    rw [Array.getElem?_append_left (by simpa using hk), Array.getElem?_map]
    show (t.toArray[k]?).map _ = _
    rw [List.getElem?_toArray, hx]
    rfl
  · cases hu
theorem readA : readD sA = some puA := readD_iff.2 ⟨puA_ok, puA_text⟩
theorem readB : readS tA = some psA := readS_iff.2 ⟨psA_ok, by decide, psA_text⟩
theorem readC : readLg uA = some woA := readLg_iff.2 ⟨woA_ok, woA_text⟩
theorem wrA : wrD puA = (sA, 0) := by unfold wrD; rw [if_pos puA_ok, puA_text]
theorem wrB : wrS psA = (tA, 0) := by unfold wrS; rw [if_neg (by decide), if_neg (by rw [psA_ok]; decide), psA_text]
theorem wrC : wrL woA = (uA, 0) := by unfold wrL; rw [if_pos woA_ok, woA_text]
theorem sumA : sumB tA = 0 := by rw [← psA_text]; exact sum_scan psA
theorem rdA : rdV sA = puA ∧ rdE sA = 0 := by unfold rdV rdE; rw [if_neg (by decide), if_neg (by decide), readA]; exact ⟨rfl, rfl⟩
theorem rsA : rsV tA = psA ∧ rsE tA = 0 := by
  unfold rsV rsE
  rw [if_neg (by rw [sumA]; decide), if_neg (by decide), if_neg (by decide), if_neg (by rw [sumA]; decide), readB]
  exact ⟨rfl, rfl⟩
theorem rlA : rlV uA = woA ∧ rlE uA = 0 := by unfold rlV rlE; rw [if_neg (by decide), if_neg (by decide), readC]; exact ⟨rfl, rfl⟩
set_option maxRecDepth 100000 in
set_option maxHeartbeats 4000000 in
theorem alive_any (w : World) (hE : Env w) : Calls Tryz.prog 12 #[] w (Ret (.bool true) w) := by
  have HE := Lib.hid hE
  have HB := Lib.hid (Below.refl w.heap.size w)
  have HWD := Lib.hid (fun (m : Mp) (hm : m.d = puA) (W : World) (h1 : Env W) (h2 : PuAt W W.heap.size m) => (by have := WriteDrawing_any m W h1 h2; rw [show wrD m.d = (sA, 0) by rw [hm, wrA]] at this; exact this : Calls Tryz.prog 13 #[.agg #[.int .i64 m.d.play.len, .int .i64 m.d.play.slack, .int .i64 m.d.play.loose, .int .i64 m.d.play.damp.lo, .int .i64 m.d.play.damp.hi, .int .i64 m.d.wide, .int .i64 m.d.high, .bool m.d.turn, .slice m.A m.d.pieces.length m.c]] W (RetS sA 0 W)))
  have HRD := Lib.hid (fun (W : World) (h1 : Env W) => ReadDrawing_any sA W h1)
  have HWS := Lib.hid (fun (A : Option Addr) (c : Nat) (W : World) (h : At W W.heap.size 28 Pc.cells A psA) => (by have := WriteScans_any A c psA W h (by decide); rw [wrB] at this; exact this : Calls Tryz.prog 18 #[.slice A psA.length c] W (RetBE tA 0 W)))
  have HRS := Lib.hid (fun (A : Option Addr) (c : Nat) (W : World) (h1 : Env W) (h : BsAt W W.heap.size A tA) => (ReadScans_any A c tA W h1 h))
  have HWL := Lib.hid (fun (A : Option Addr) (c : Nat) (W : World) (h1 : Env W) (h : At W W.heap.size 4 Wo.cells A woA) => (by have := WriteLog_any A c woA W h1 h (by decide); rw [wrC] at this; exact this : Calls Tryz.prog 27 #[.slice A woA.length c] W (RetS uA 0 W)))
  have HRL := Lib.hid (fun (W : World) (h1 : Env W) => ReadLog_any uA W h1)
  have hs1 : (sA != sA) = false := bne_self_eq_false _
  have hs2 : (tA != tA) = false := bne_self_eq_false _
  have hs3 : (uA == uA) = true := beq_self_eq_true _
  clear hE
  go_enter Tryz.func12, Tryz.ntmps12
  go_wp2_with fail
  refine (drawingL_any w).mono ?_
  rintro e W0 ⟨m0, hm0, rfl, hp, hb⟩
  replace HE := Lib.hid (HE.out.next hb)
  replace HB := Lib.hid (HB.out.trans (hb.mono HB.out.size))
  have HM0 := Lib.hid hp
  have HD0 := Lib.hid hm0
  clear hp hm0
  have HN := Lib.hid (nxA W0 (.cells #[.int .i64 m0.d.play.len, .int .i64 m0.d.play.slack, .int .i64 m0.d.play.loose, .int .i64 m0.d.play.damp.lo, .int .i64 m0.d.play.damp.hi, .int .i64 m0.d.wide, .int .i64 m0.d.high, .bool m0.d.turn, .slice m0.A m0.d.pieces.length m0.c] 28))
  have HX0 := Lib.hid (Bx.new W0 #[.int .i64 m0.d.play.len, .int .i64 m0.d.play.slack, .int .i64 m0.d.play.loose, .int .i64 m0.d.play.damp.lo, .int .i64 m0.d.play.damp.hi, .int .i64 m0.d.wide, .int .i64 m0.d.high, .bool m0.d.turn, .slice m0.A m0.d.pieces.length m0.c] 28)
  clear hb
  go_upto_region 2 with fail
  generalize (W0.alloc (.cells #[.int .i64 m0.d.play.len, .int .i64 m0.d.play.slack, .int .i64 m0.d.play.loose, .int .i64 m0.d.play.damp.lo, .int .i64 m0.d.play.damp.hi, .int .i64 m0.d.wide, .int .i64 m0.d.high, .bool m0.d.turn, .slice m0.A m0.d.pieces.length m0.c] 28)) = V0 at *
  obtain ⟨b0, hb0⟩ : ∃ b0, b0 = W0.heap.size := ⟨_, rfl⟩
  rw [← hb0] at HX0 ⊢
  have hb := HN.out
  replace HE := Lib.hid (HE.out.next hb)
  replace HB := Lib.hid (HB.out.trans (hb.mono HB.out.size))
  replace HM0 := Lib.hid (HM0.out.next hb)
  clear hb hb0 HN
  have c0 := HX0.out.c 0 _ rfl
  have c1 := HX0.out.c 1 _ rfl
  have c2 := HX0.out.c 2 _ rfl
  have c3 := HX0.out.c 3 _ rfl
  have c4 := HX0.out.c 4 _ rfl
  have c5 := HX0.out.c 5 _ rfl
  have c6 := HX0.out.c 6 _ rfl
  have c7 := HX0.out.c 7 _ rfl
  have c8 := HX0.out.c 8 _ rfl
  go_wp2_with fail
  refine (HWD.out m0 HD0.out V0 HE.out HM0.out).mono ?_
  rintro e W1 ⟨rfl, hb⟩
  replace HE := Lib.hid (HE.out.next hb)
  replace HB := Lib.hid (HB.out.trans (hb.mono HB.out.size))
  replace HM0 := Lib.hid (HM0.out.next hb)
  replace HX0 := Lib.hid (HX0.out.next hb)
  clear c0 c1 c2 c3 c4 c5 c6 c7 c8
  clear hb
  go_wp2_with fail
  refine (HRD.out _ HE.out).mono ?_
  rintro e W2 ⟨m1, hm1, rfl, hp, -, hb⟩
  replace HE := Lib.hid (HE.out.next hb)
  replace HB := Lib.hid (HB.out.trans (hb.mono HB.out.size))
  replace HM0 := Lib.hid (HM0.out.next hb)
  replace HX0 := Lib.hid (HX0.out.next hb)
  rw [rdA.2]
  have HM1 := Lib.hid hp
  have HD1 := Lib.hid (hm1.trans rdA.1)
  clear hp hm1
  have HN := Lib.hid (nxA W2 (.cells #[.int .i64 m1.d.play.len, .int .i64 m1.d.play.slack, .int .i64 m1.d.play.loose, .int .i64 m1.d.play.damp.lo, .int .i64 m1.d.play.damp.hi, .int .i64 m1.d.wide, .int .i64 m1.d.high, .bool m1.d.turn, .slice m1.A m1.d.pieces.length m1.c] 28))
  have HX1 := Lib.hid (Bx.new W2 #[.int .i64 m1.d.play.len, .int .i64 m1.d.play.slack, .int .i64 m1.d.play.loose, .int .i64 m1.d.play.damp.lo, .int .i64 m1.d.play.damp.hi, .int .i64 m1.d.wide, .int .i64 m1.d.high, .bool m1.d.turn, .slice m1.A m1.d.pieces.length m1.c] 28)
  clear hb
  go_upto_region 4 with fail
  generalize (W2.alloc (.cells #[.int .i64 m1.d.play.len, .int .i64 m1.d.play.slack, .int .i64 m1.d.play.loose, .int .i64 m1.d.play.damp.lo, .int .i64 m1.d.play.damp.hi, .int .i64 m1.d.wide, .int .i64 m1.d.high, .bool m1.d.turn, .slice m1.A m1.d.pieces.length m1.c] 28)) = V1 at *
  obtain ⟨b1, hb1⟩ : ∃ b1, b1 = W2.heap.size := ⟨_, rfl⟩
  rw [← hb1] at HX1 ⊢
  have hb := HN.out
  replace HE := Lib.hid (HE.out.next hb)
  replace HB := Lib.hid (HB.out.trans (hb.mono HB.out.size))
  replace HM0 := Lib.hid (HM0.out.next hb)
  replace HX0 := Lib.hid (HX0.out.next hb)
  replace HM1 := Lib.hid (HM1.out.next hb)
  clear hb hb1 HN
  go_wp2_with fail
  refine (scanL_any _).mono ?_
  rintro e W3 ⟨Ap, cp, rfl, ha, hb⟩
  replace HE := Lib.hid (HE.out.next hb)
  replace HB := Lib.hid (HB.out.trans (hb.mono HB.out.size))
  replace HM0 := Lib.hid (HM0.out.next hb)
  replace HX0 := Lib.hid (HX0.out.next hb)
  replace HM1 := Lib.hid (HM1.out.next hb)
  replace HX1 := Lib.hid (HX1.out.next hb)
  have HAP := Lib.hid ha
  clear ha
  clear hb
  go_wp2_with fail
  refine (HWS.out Ap cp _ HAP.out).mono ?_
  rintro e W4 ⟨v9, rfl, ho, hb⟩
  replace HE := Lib.hid (HE.out.next hb)
  replace HB := Lib.hid (HB.out.trans (hb.mono HB.out.size))
  replace HM0 := Lib.hid (HM0.out.next hb)
  replace HX0 := Lib.hid (HX0.out.next hb)
  replace HM1 := Lib.hid (HM1.out.next hb)
  replace HX1 := Lib.hid (HX1.out.next hb)
  replace HAP := Lib.hid (HAP.out.next hb)
  have HO9 := Lib.hid ho
  clear ho
  obtain ⟨g9, cap9, e9, -⟩ := HO9.out.form (by decide)
  subst e9
  clear hb
  obtain ⟨cb, WB, hcv, hbs, hb⟩ := bytes_of tA W4
  replace HE := Lib.hid (HE.out.next hb)
  replace HB := Lib.hid (HB.out.trans (hb.mono HB.out.size))
  replace HM0 := Lib.hid (HM0.out.next hb)
  replace HX0 := Lib.hid (HX0.out.next hb)
  replace HM1 := Lib.hid (HM1.out.next hb)
  replace HX1 := Lib.hid (HX1.out.next hb)
  replace HAP := Lib.hid (HAP.out.next hb)
  replace HO9 := Lib.hid (own_below HO9.out hb)
  have HBS := Lib.hid hbs
  clear hbs hb
  go_wp2_with fail
  refine (HRS.out _ cb WB HE.out HBS.out).mono ?_
  rintro e W5 ⟨v10, rfl, ho, hb⟩
  replace HE := Lib.hid (HE.out.next hb)
  replace HB := Lib.hid (HB.out.trans (hb.mono HB.out.size))
  replace HM0 := Lib.hid (HM0.out.next hb)
  replace HX0 := Lib.hid (HX0.out.next hb)
  replace HM1 := Lib.hid (HM1.out.next hb)
  replace HX1 := Lib.hid (HX1.out.next hb)
  replace HAP := Lib.hid (HAP.out.next hb)
  replace HO9 := Lib.hid (own_below HO9.out hb)
  rw [rsA.1] at ho
  rw [rsA.2]
  have HO10 := Lib.hid ho
  clear ho hcv HBS
  clear hb
  go_wp2_with fail
  refine (logL_any _).mono ?_
  rintro e W6 ⟨Al, cl, rfl, ha, hb⟩
  replace HE := Lib.hid (HE.out.next hb)
  replace HB := Lib.hid (HB.out.trans (hb.mono HB.out.size))
  replace HM0 := Lib.hid (HM0.out.next hb)
  replace HX0 := Lib.hid (HX0.out.next hb)
  replace HM1 := Lib.hid (HM1.out.next hb)
  replace HX1 := Lib.hid (HX1.out.next hb)
  replace HAP := Lib.hid (HAP.out.next hb)
  replace HO9 := Lib.hid (own_below HO9.out hb)
  replace HO10 := Lib.hid (own_below HO10.out hb)
  have HAL := Lib.hid ha
  clear ha
  clear hb
  go_wp2_with fail
  refine (HWL.out Al cl _ HE.out HAL.out).mono ?_
  rintro e W7 ⟨rfl, hb⟩
  replace HE := Lib.hid (HE.out.next hb)
  replace HB := Lib.hid (HB.out.trans (hb.mono HB.out.size))
  replace HM0 := Lib.hid (HM0.out.next hb)
  replace HX0 := Lib.hid (HX0.out.next hb)
  replace HM1 := Lib.hid (HM1.out.next hb)
  replace HX1 := Lib.hid (HX1.out.next hb)
  replace HAP := Lib.hid (HAP.out.next hb)
  replace HO9 := Lib.hid (own_below HO9.out hb)
  replace HO10 := Lib.hid (own_below HO10.out hb)
  replace HAL := Lib.hid (HAL.out.next hb)
  clear hb
  go_wp2_with fail
  refine (HRL.out _ HE.out).mono ?_
  rintro e W8 ⟨v11, rfl, ho, hb⟩
  replace HE := Lib.hid (HE.out.next hb)
  replace HB := Lib.hid (HB.out.trans (hb.mono HB.out.size))
  replace HM0 := Lib.hid (HM0.out.next hb)
  replace HX0 := Lib.hid (HX0.out.next hb)
  replace HM1 := Lib.hid (HM1.out.next hb)
  replace HX1 := Lib.hid (HX1.out.next hb)
  replace HAP := Lib.hid (HAP.out.next hb)
  replace HO9 := Lib.hid (own_below HO9.out hb)
  replace HO10 := Lib.hid (own_below HO10.out hb)
  replace HAL := Lib.hid (HAL.out.next hb)
  rw [rlA.1] at ho
  rw [rlA.2]
  have HO11 := Lib.hid ho
  clear ho
  clear hb
  have hcv := cv_own (t := tA) rfl HO9.out
  have c0 := HX0.out.c 0 _ rfl
  have d0 := HX1.out.c 0 _ rfl
  have c1 := HX0.out.c 1 _ rfl
  have d1 := HX1.out.c 1 _ rfl
  have c2 := HX0.out.c 2 _ rfl
  have d2 := HX1.out.c 2 _ rfl
  have c3 := HX0.out.c 3 _ rfl
  have d3 := HX1.out.c 3 _ rfl
  have c4 := HX0.out.c 4 _ rfl
  have d4 := HX1.out.c 4 _ rfl
  have c5 := HX0.out.c 5 _ rfl
  have d5 := HX1.out.c 5 _ rfl
  have c6 := HX0.out.c 6 _ rfl
  have d6 := HX1.out.c 6 _ rfl
  have c7 := HX0.out.c 7 _ rfl
  have d7 := HX1.out.c 7 _ rfl
  have c8 := HX0.out.c 8 _ rfl
  have d8 := HX1.out.c 8 _ rfl
  obtain ⟨A10, c10, e10, ha10⟩ := own_at pc_len (by decide) HO10.out
  subst e10
  have HA10 := Lib.hid ha10
  clear ha10 HO10
  obtain ⟨A11, c11, e11, ha11⟩ := own_at wo_len (by decide) HO11.out
  subst e11
  have HA11 := Lib.hid ha11
  clear ha11 HO11
  go_wp2_with fail
  refine (SameDrawings_any m1 m0 W8 HM1.out HM0.out).mono ?_
  rintro e W9 ⟨rfl, hb⟩
  replace HE := Lib.hid (HE.out.next hb)
  replace HB := Lib.hid (HB.out.trans (hb.mono HB.out.size))
  replace HM0 := Lib.hid (HM0.out.next hb)
  replace HX0 := Lib.hid (HX0.out.next hb)
  replace HM1 := Lib.hid (HM1.out.next hb)
  replace HX1 := Lib.hid (HX1.out.next hb)
  replace HAP := Lib.hid (HAP.out.next hb)
  replace HO9 := Lib.hid (own_below HO9.out hb)
  replace HAL := Lib.hid (HAL.out.next hb)
  replace HA10 := Lib.hid (HA10.out.next hb)
  replace HA11 := Lib.hid (HA11.out.next hb)
  clear c0 c1 c2 c3 c4 c5 c6 c7 c8
  clear d0 d1 d2 d3 d4 d5 d6 d7 d8
  rw [show decide (m1.d = m0.d) = true from decide_eq_true (by rw [HD1.out, HD0.out])]
  clear hcv
  have hcv := cv_own (t := tA) rfl HO9.out
  clear hb
  go_wp2_with fail
  refine (SamePieces_any A10 Ap c10 cp psA psA W9 HA10.out HAP.out (by decide)).mono ?_
  rintro e W10 ⟨rfl, hb⟩
  replace HE := Lib.hid (HE.out.next hb)
  replace HB := Lib.hid (HB.out.trans (hb.mono HB.out.size))
  replace HM0 := Lib.hid (HM0.out.next hb)
  replace HX0 := Lib.hid (HX0.out.next hb)
  replace HM1 := Lib.hid (HM1.out.next hb)
  replace HX1 := Lib.hid (HX1.out.next hb)
  replace HAP := Lib.hid (HAP.out.next hb)
  replace HO9 := Lib.hid (own_below HO9.out hb)
  replace HAL := Lib.hid (HAL.out.next hb)
  replace HA10 := Lib.hid (HA10.out.next hb)
  replace HA11 := Lib.hid (HA11.out.next hb)
  rw [show decide (psA = psA) = true from decide_eq_true rfl]
  clear hcv
  clear hb
  go_wp2_with fail
  refine (SameWords_any A11 Al c11 cl woA woA W10 HA11.out HAL.out (by decide)).mono ?_
  rintro e W11 ⟨rfl, hb⟩
  replace HE := Lib.hid (HE.out.next hb)
  replace HB := Lib.hid (HB.out.trans (hb.mono HB.out.size))
  replace HM0 := Lib.hid (HM0.out.next hb)
  replace HX0 := Lib.hid (HX0.out.next hb)
  replace HM1 := Lib.hid (HM1.out.next hb)
  replace HX1 := Lib.hid (HX1.out.next hb)
  replace HAP := Lib.hid (HAP.out.next hb)
  replace HO9 := Lib.hid (own_below HO9.out hb)
  replace HAL := Lib.hid (HAL.out.next hb)
  replace HA10 := Lib.hid (HA10.out.next hb)
  replace HA11 := Lib.hid (HA11.out.next hb)
  rw [show decide (woA = woA) = true from decide_eq_true rfl]
  clear hb
  go_wp2_with fail
  go_ret
  exact ret_bool rfl HB.out
end Go.Proofs.YtonnemkecppmiaaGreatDoor
