import Derived.Test.YtonnemkecppmiaaGreatDoorC1
import Derived.Test.YtonnemkecppmiaaGreatDoorWx
import Derived.Test.YtonnemkecppmiaaGreatDoorR9
namespace Go.Proofs.YtonnemkecppmiaaGreatDoor
open Go.RowKit
/-! The law BookBack. -/
theorem wrD_no {d : Pu} (h : (wrD d).2 ≠ 0) : (wrD d).1 = [] ∧ (wrD d).2 = 1 ∧ okPu d = false := by
  unfold wrD at h ⊢
  by_cases k : okPu d = true
  · rw [if_pos k] at h; exact (h rfl).elim
  · rw [if_neg k]; exact ⟨rfl, rfl, by simpa using k⟩
theorem wrS_no {l : List Pc} (h : (wrS l).2 ≠ 0) : (wrS l).1 = [] ∧ ((wrS l).2 = 1 ∧ l.length ≤ 12 ∧ okPcs l = false ∨ (wrS l).2 = 3 ∧ 12 < l.length) := by
  unfold wrS at h ⊢
  by_cases a : 12 < l.length
  · rw [if_pos a]; exact ⟨rfl, .inr ⟨rfl, a⟩⟩
  · rw [if_neg a] at h ⊢
    cases b : okPcs l
    · rw [if_pos rfl]; exact ⟨rfl, .inl ⟨rfl, by omega, rfl⟩⟩
    · rw [if_neg (by rw [b]; decide)] at h; exact (h rfl).elim
theorem wrL_no {l : List Wo} (h : (wrL l).2 ≠ 0) : (wrL l).1 = [] ∧ ((wrL l).2 == 3) = decide (40 < l.length) := by
  unfold wrL at h ⊢
  by_cases a : checkW l = 0
  · rw [if_pos a] at h; exact (h rfl).elim
  · rw [if_neg a]
    refine ⟨rfl, ?_⟩
    rw [Bool.eq_iff_iff, beq_iff_eq, decide_eq_true_eq]
    show checkW l = 3 ↔ _
    unfold checkW
    constructor
    · intro e
      split at e
      · assumption
      · split at e
        · cases e
        · split at e <;> cases e
    · intro e; rw [if_pos e]
set_option maxRecDepth 100000 in
set_option maxHeartbeats 4000000 in
theorem BookBack_walk (d : Mp) (A1 : Option Addr) (c1 : Nat) (l : List Pc) (A2 : Option Addr) (c2 : Nat) (u : List Wo) (w : World) (hE : Env w) (hp : PuAt w w.heap.size d) (h1 : At w w.heap.size 28 Pc.cells A1 l) (n1 : l.length ≤ 9223372036854775807) (_ : l.length ≤ c1) (h2 : At w w.heap.size 4 Wo.cells A2 u) (n2 : u.length ≤ 9223372036854775807) (_ : u.length ≤ c2) : Calls Tryz.prog 6 #[.agg #[.int .i64 d.d.play.len, .int .i64 d.d.play.slack, .int .i64 d.d.play.loose, .int .i64 d.d.play.damp.lo, .int .i64 d.d.play.damp.hi, .int .i64 d.d.wide, .int .i64 d.d.high, .bool d.d.turn, .slice d.A d.d.pieces.length d.c], .slice A1 l.length c1, .slice A2 u.length c2] w (Ret (.bool true) w) := by
  have HWD := Lib.hid (fun (W : World) (h1 : Env W) (h2 : PuAt W W.heap.size d) => WriteDrawing_any d W h1 h2)
  have HWS := Lib.hid (fun (W : World) (h1 : At W W.heap.size 28 Pc.cells A1 l) => WriteScans_any A1 c1 l W h1 n1)
  have HWL := Lib.hid (fun (W : World) (h1 : Env W) (h2 : At W W.heap.size 4 Wo.cells A2 u) => WriteLog_any A2 c2 u W h1 h2 n2)
  have HPS := Lib.hid (fun (W : World) (h1 : At W W.heap.size 28 Pc.cells A1 l) => Pieces_any A1 c1 l W h1 n1)
  have HOS := Lib.hid (wrS_ok (l := l))
  have HOD := Lib.hid (wrD_ok (d := d.d))
  have HOL := Lib.hid (wrL_ok (l := u))
  have HNS := Lib.hid (wrS_no (l := l))
  have HND := Lib.hid (wrD_no (d := d.d))
  have HNL := Lib.hid (wrL_no (l := u))
  generalize (wrS l).1 = t at HWS HOS HNS
  generalize (wrS l).2 = e1 at HWS HOS HNS
  generalize (wrD d.d).1 = s at HWD HOD HND
  generalize (wrD d.d).2 = e0 at HWD HOD HND
  generalize (wrL u).1 = r at HWL HOL HNL
  generalize (wrL u).2 = e2 at HWL HOL HNL
  have hq := nxA w (.cells #[.int .i64 d.d.play.len, .int .i64 d.d.play.slack, .int .i64 d.d.play.loose, .int .i64 d.d.play.damp.lo, .int .i64 d.d.play.damp.hi, .int .i64 d.d.wide, .int .i64 d.d.high, .bool d.d.turn, .slice d.A d.d.pieces.length d.c] 28)
  have HX := Lib.hid (Bx.new w #[.int .i64 d.d.play.len, .int .i64 d.d.play.slack, .int .i64 d.d.play.loose, .int .i64 d.d.play.damp.lo, .int .i64 d.d.play.damp.hi, .int .i64 d.d.wide, .int .i64 d.d.high, .bool d.d.turn, .slice d.A d.d.pieces.length d.c] 28)
  have HE := Lib.hid (hE.next hq)
  have HB := Lib.hid hq
  have HM := Lib.hid (hp.next hq)
  have HL := Lib.hid (h1.next hq)
  have HU := Lib.hid (h2.next hq)
  have HN1 := Lib.hid n1
  have HN2 := Lib.hid n2
  clear hE hp h1 h2 hq n1 n2
  go_enter Tryz.func6, Tryz.ntmps6
  go_upto_region 1 with fail
  generalize (w.alloc (.cells #[.int .i64 d.d.play.len, .int .i64 d.d.play.slack, .int .i64 d.d.play.loose, .int .i64 d.d.play.damp.lo, .int .i64 d.d.play.damp.hi, .int .i64 d.d.wide, .int .i64 d.d.high, .bool d.d.turn, .slice d.A d.d.pieces.length d.c] 28)) = V at *
  obtain ⟨b, hb⟩ : ∃ b, b = w.heap.size := ⟨_, rfl⟩
  rw [← hb] at HX ⊢
  clear hb
  have p0 := HX.out.c 0 _ rfl
  have p1 := HX.out.c 1 _ rfl
  have p2 := HX.out.c 2 _ rfl
  have p3 := HX.out.c 3 _ rfl
  have p4 := HX.out.c 4 _ rfl
  have p5 := HX.out.c 5 _ rfl
  have p6 := HX.out.c 6 _ rfl
  have p7 := HX.out.c 7 _ rfl
  have p8 := HX.out.c 8 _ rfl
  go_upto_region 1 with fail
  go_cut [32] (fun s wx => (∃ far : Bool, s = .bool far) ∧ wx = V)
  case first =>
    go_wp2_with fail
    all_goals
      go_meet
      exact ⟨⟨_, rfl⟩, rfl⟩
  case rest =>
    obtain ⟨⟨far, rfl⟩, hw⟩ := hcut
    have hw2 := hw.symm
    clear hw
    subst hw2
    cases far
    rotate_left
    ·
      go_wp2_with fail
      refine (alive_any V HE.out).mono ?_
      rintro e W99 ⟨rfl, hb⟩
      go_wp2_with fail
      go_ret
      exact ret_bool rfl (HB.out.trans (hb.mono HB.out.size))
    · skip
      go_wp2_with fail
      refine (HWD.out V HE.out HM.out).mono ?_
      rintro e W0 ⟨rfl, hb⟩
      replace HE := Lib.hid (HE.out.next hb)
      replace HB := Lib.hid (HB.out.trans (hb.mono HB.out.size))
      replace HM := Lib.hid (HM.out.next hb)
      replace HL := Lib.hid (HL.out.next hb)
      replace HU := Lib.hid (HU.out.next hb)
      replace HX := Lib.hid (HX.out.next hb)
      clear hb
      clear p0 p1 p2 p3 p4 p5 p6 p7 p8
      go_upto_if 40 with fail
      go_cut [] (fun wx => Below W0.heap.size W0 wx)
      case first =>
        by_cases g0 : e0 = 0
        · skip
          obtain ⟨hok, hs⟩ := HOD.out g0
          subst g0
          subst hs
          have HRT := Lib.hid (rd_text hok)
          have hlen := dText_len hok
          have HR := Lib.hid (fun (W : World) (h : Env W) => ReadDrawing_any (dText d.d) W h)
          generalize dText d.d = s at *
          have hl2 : ¬ (65536 : Int) < (s.length : Int) := by omega
          clear hok
          have HBW := Lib.hid (Below.refl W0.heap.size W0)
          go_wp2_with fail
          refine (HR.out W0 HE.out).mono ?_
          rintro e W1 ⟨m1, hm1, rfl, hp1, -, hb⟩
          replace HE := Lib.hid (HE.out.next hb)
          replace HB := Lib.hid (HB.out.trans (hb.mono HB.out.size))
          replace HM := Lib.hid (HM.out.next hb)
          replace HL := Lib.hid (HL.out.next hb)
          replace HU := Lib.hid (HU.out.next hb)
          replace HX := Lib.hid (HX.out.next hb)
          replace HBW := Lib.hid (HBW.out.trans (hb.mono HBW.out.size))
          have HM1 := Lib.hid hp1
          have HD1 := Lib.hid (hm1.trans HRT.out.1)
          clear hm1 hp1
          rw [HRT.out.2]
          clear hb
          have HN := Lib.hid (nxA W1 (.cells #[.int .i64 m1.d.play.len, .int .i64 m1.d.play.slack, .int .i64 m1.d.play.loose, .int .i64 m1.d.play.damp.lo, .int .i64 m1.d.play.damp.hi, .int .i64 m1.d.wide, .int .i64 m1.d.high, .bool m1.d.turn, .slice m1.A m1.d.pieces.length m1.c] 28))
          have HX1 := Lib.hid (Bx.new W1 #[.int .i64 m1.d.play.len, .int .i64 m1.d.play.slack, .int .i64 m1.d.play.loose, .int .i64 m1.d.play.damp.lo, .int .i64 m1.d.play.damp.hi, .int .i64 m1.d.wide, .int .i64 m1.d.high, .bool m1.d.turn, .slice m1.A m1.d.pieces.length m1.c] 28)
          go_upto_region 6 with fail
          generalize (W1.alloc (.cells #[.int .i64 m1.d.play.len, .int .i64 m1.d.play.slack, .int .i64 m1.d.play.loose, .int .i64 m1.d.play.damp.lo, .int .i64 m1.d.play.damp.hi, .int .i64 m1.d.wide, .int .i64 m1.d.high, .bool m1.d.turn, .slice m1.A m1.d.pieces.length m1.c] 28)) = V1 at *
          obtain ⟨b1, hb1⟩ : ∃ b, b = W1.heap.size := ⟨_, rfl⟩
          rw [← hb1] at HX1 ⊢
          have hb := HN.out
          replace HE := Lib.hid (HE.out.next hb)
          replace HB := Lib.hid (HB.out.trans (hb.mono HB.out.size))
          replace HM := Lib.hid (HM.out.next hb)
          replace HL := Lib.hid (HL.out.next hb)
          replace HU := Lib.hid (HU.out.next hb)
          replace HX := Lib.hid (HX.out.next hb)
          replace HBW := Lib.hid (HBW.out.trans (hb.mono HBW.out.size))
          replace HM1 := Lib.hid (HM1.out.next hb)
          clear hb hb1 HN
          have p0 := HX.out.c 0 _ rfl
          have p1 := HX.out.c 1 _ rfl
          have p2 := HX.out.c 2 _ rfl
          have p3 := HX.out.c 3 _ rfl
          have p4 := HX.out.c 4 _ rfl
          have p5 := HX.out.c 5 _ rfl
          have p6 := HX.out.c 6 _ rfl
          have p7 := HX.out.c 7 _ rfl
          have p8 := HX.out.c 8 _ rfl
          have q0 := HX1.out.c 0 _ rfl
          have q1 := HX1.out.c 1 _ rfl
          have q2 := HX1.out.c 2 _ rfl
          have q3 := HX1.out.c 3 _ rfl
          have q4 := HX1.out.c 4 _ rfl
          have q5 := HX1.out.c 5 _ rfl
          have q6 := HX1.out.c 6 _ rfl
          have q7 := HX1.out.c 7 _ rfl
          have q8 := HX1.out.c 8 _ rfl
          go_wp2_with fail
          refine (SameDrawings_any m1 d V1 HM1.out HM.out).mono ?_
          rintro e W2 ⟨rfl, hb⟩
          replace HE := Lib.hid (HE.out.next hb)
          replace HB := Lib.hid (HB.out.trans (hb.mono HB.out.size))
          replace HM := Lib.hid (HM.out.next hb)
          replace HL := Lib.hid (HL.out.next hb)
          replace HU := Lib.hid (HU.out.next hb)
          replace HX := Lib.hid (HX.out.next hb)
          replace HBW := Lib.hid (HBW.out.trans (hb.mono HBW.out.size))
          replace HM1 := Lib.hid (HM1.out.next hb)
          replace HX1 := Lib.hid (HX1.out.next hb)
          rw [show decide (m1.d = d.d) = true from decide_eq_true HD1.out]
          clear hb
          go_wp2_with fail
          go_meet
          exact HBW.out
        · skip
          obtain ⟨hs, he, hok⟩ := HND.out g0
          have g0' : (e0 == 0) = false := by simpa using g0
          subst hs
          subst he
          have hne : (([] : Tx) != []) = false := rfl
          have p0 := HX.out.c 0 _ rfl
          have p1 := HX.out.c 1 _ rfl
          have p2 := HX.out.c 2 _ rfl
          have p3 := HX.out.c 3 _ rfl
          have p4 := HX.out.c 4 _ rfl
          have p5 := HX.out.c 5 _ rfl
          have p6 := HX.out.c 6 _ rfl
          have p7 := HX.out.c 7 _ rfl
          have p8 := HX.out.c 8 _ rfl
          go_wp2_with fail
          refine (Drawing_any d W0 HM.out).mono ?_
          rintro e W1 ⟨rfl, hb⟩
          rw [hok]
          go_wp2_with fail
          go_meet
          exact hb
      case rest =>
        have hb : Below W0.heap.size W0 wc := hcut
        clear hcut
        replace HE := Lib.hid (HE.out.next hb)
        replace HB := Lib.hid (HB.out.trans (hb.mono HB.out.size))
        replace HM := Lib.hid (HM.out.next hb)
        replace HL := Lib.hid (HL.out.next hb)
        replace HU := Lib.hid (HU.out.next hb)
        replace HX := Lib.hid (HX.out.next hb)
        clear hb HWD HOD HND HX HM
        go_wp2_with fail
        refine (HWS.out wc HL.out).mono ?_
        rintro e W3 ⟨v, rfl, ho, hb⟩
        replace HE := Lib.hid (HE.out.next hb)
        replace HB := Lib.hid (HB.out.trans (hb.mono HB.out.size))
        replace HL := Lib.hid (HL.out.next hb)
        replace HU := Lib.hid (HU.out.next hb)
        have HO := Lib.hid ho
        clear ho
        clear hb
        go_upto_if 75 with fail
        go_cut [] (fun wx => Below W3.heap.size W3 wx)
        case first =>
          by_cases g1 : e1 = 0
          · skip
            obtain ⟨n12, hok, ht⟩ := HOS.out g1
            subst g1
            subst ht
            have HRS := Lib.hid (rs_scan hok n12)
            have hsum := sum_scan l
            obtain ⟨hl1, hl2⟩ := scanB_len hok n12
            generalize scanB l = t at *
            have hlb : ¬ (65536 : Int) < (t.length : Int) := by omega
            have HUS := Lib.hid (show u8v (sumB t) = .int .u8 0 by rw [hsum]; rfl)
            clear hsum hok n12
            obtain ⟨g, cap, e, -, hg⟩ := HO.out.form (by omega)
            subst e
            have HBT := Lib.hid (bs_row HO.out hg)
            have HBW := Lib.hid (Below.refl W3.heap.size W3)
            go_wp2_with fail
            refine (ReadScans_any (some ⟨g, 0, none⟩) cap t W3 HE.out HBT.out).mono ?_
            rintro e W4 ⟨v4, rfl, ho, hb⟩
            replace HE := Lib.hid (HE.out.next hb)
            replace HB := Lib.hid (HB.out.trans (hb.mono HB.out.size))
            replace HL := Lib.hid (HL.out.next hb)
            replace HU := Lib.hid (HU.out.next hb)
            replace HBW := Lib.hid (HBW.out.trans (hb.mono HBW.out.size))
            replace HBT := Lib.hid (HBT.out.next hb)
            rw [HRS.out.2]
            rw [HRS.out.1] at ho
            obtain ⟨A4, c4, e, ha4⟩ := own_at pc_len (by decide) ho
            subst e
            have HA4 := Lib.hid ha4
            clear ho ha4
            clear hb
            go_wp2_with fail
            refine (SamePieces_any A4 A1 c4 c1 l l W4 HA4.out HL.out HN1.out).mono ?_
            rintro e W5 ⟨rfl, hb⟩
            replace HE := Lib.hid (HE.out.next hb)
            replace HB := Lib.hid (HB.out.trans (hb.mono HB.out.size))
            replace HL := Lib.hid (HL.out.next hb)
            replace HU := Lib.hid (HU.out.next hb)
            replace HBW := Lib.hid (HBW.out.trans (hb.mono HBW.out.size))
            replace HBT := Lib.hid (HBT.out.next hb)
            replace HA4 := Lib.hid (HA4.out.next hb)
            rw [show decide (l = l) = true from decide_eq_true rfl]
            clear hb
            go_wp2_with fail
            refine (SumR_any (some ⟨g, 0, none⟩) cap t W5 HBT.out (by omega)).mono ?_
            rintro e W6 ⟨rfl, hw⟩
            have hw2 := hw.symm
            clear hw
            subst hw2
            rw [HUS.out]
            go_wp2_with fail
            go_meet
            exact HBW.out
          · skip
            obtain ⟨ht, hh⟩ := HNS.out g1
            have g1' : (e1 == 0) = false := by simpa using g1
            subst ht
            obtain ⟨A5, c5, e, -⟩ := own_form HO.out
            subst e
            rcases hh with ⟨he, hn, hok⟩ | ⟨he, hn⟩
            · subst he
              have hq : (l.length : Int) ≤ 12 := by omega
              go_wp2_with fail
              refine (HPS.out W3 HL.out).mono ?_
              rintro e W4 ⟨rfl, hb⟩
              rw [hok]
              go_wp2_with fail
              go_meet
              exact hb
            · subst he
              have hq : ¬ (l.length : Int) ≤ 12 := by omega
              go_wp2_with fail
              go_meet
              exact Below.refl _ _
        case rest =>
          have hb : Below W3.heap.size W3 wc := hcut
          clear hcut HO HWS HPS HOS HNS HL
          replace HE := Lib.hid (HE.out.next hb)
          replace HB := Lib.hid (HB.out.trans (hb.mono HB.out.size))
          replace HU := Lib.hid (HU.out.next hb)
          clear hb
          go_wp2_with fail
          refine (HWL.out wc HE.out HU.out).mono ?_
          rintro e W7 ⟨rfl, hb⟩
          replace HE := Lib.hid (HE.out.next hb)
          replace HB := Lib.hid (HB.out.trans (hb.mono HB.out.size))
          replace HU := Lib.hid (HU.out.next hb)
          clear hb
          by_cases g2 : e2 = 0
          rotate_left
          · skip
            obtain ⟨hr, he⟩ := HNL.out g2
            have g2' : (e2 != 0) = true := by simpa using g2
            subst hr
            have hne : (([] : Tx) == []) = true := rfl
            by_cases hq : 40 < u.length
            · have hd : ((40 : Int) < (u.length : Int)) = True := eq_true (by omega)
              have he' : (e2 == 3) = true := by rw [he]; exact decide_eq_true hq
              clear he
              go_wp2_with fail
              refine (alive_any W7 HE.out).mono ?_
              rintro e W99 ⟨rfl, hb⟩
              go_wp2_with fail
              go_ret
              exact ret_bool rfl (HB.out.trans (hb.mono HB.out.size))
            · have hd : ((40 : Int) < (u.length : Int)) = False := eq_false (by omega)
              have he' : (e2 == 3) = false := by rw [he]; exact decide_eq_false hq
              clear he
              go_wp2_with fail
              refine (alive_any W7 HE.out).mono ?_
              rintro e W99 ⟨rfl, hb⟩
              go_wp2_with fail
              go_ret
              exact ret_bool rfl (HB.out.trans (hb.mono HB.out.size))
          · skip
            obtain ⟨hok, hr⟩ := HOL.out g2
            subst g2
            subst hr
            have HRL := Lib.hid (rl_log hok)
            have HCT := Lib.hid (log_count hok)
            generalize logT u = r at *
            clear hok
            go_wp2_with fail
            refine (ReadLog_any r W7 HE.out).mono ?_
            rintro e W8 ⟨v8, rfl, ho, hb⟩
            replace HE := Lib.hid (HE.out.next hb)
            replace HB := Lib.hid (HB.out.trans (hb.mono HB.out.size))
            replace HU := Lib.hid (HU.out.next hb)
            rw [HRL.out.2]
            rw [HRL.out.1] at ho
            obtain ⟨A8, c8, e, ha8⟩ := own_at wo_len (by decide) ho
            subst e
            have HA8 := Lib.hid ha8
            clear ho ha8
            clear hb
            go_wp2_with fail
            refine (SameWords_any A8 A2 c8 c2 u u W8 HA8.out HU.out HN2.out).mono ?_
            rintro e W9 ⟨rfl, hb⟩
            replace HE := Lib.hid (HE.out.next hb)
            replace HB := Lib.hid (HB.out.trans (hb.mono HB.out.size))
            replace HU := Lib.hid (HU.out.next hb)
            replace HA8 := Lib.hid (HA8.out.next hb)
            rw [show decide (u = u) = true from decide_eq_true rfl]
            clear hb
            go_wp2_with fail
            refine (Tryz.strings_Count_one ⟨r.toArray⟩ 10 W9).mono ?_
            rintro e W10 ⟨rfl, hw⟩
            have hw2 := hw.symm
            clear hw
            subst hw2
            rw [show Lib.countByte (⟨r.toArray⟩ : ByteArray).data.toList 10 = u.length from HCT.out]
            go_wp2_with fail
            refine (alive_any W9 HE.out).mono ?_
            rintro e W99 ⟨rfl, hb⟩
            go_wp2_with fail
            go_ret
            exact ret_bool rfl (HB.out.trans (hb.mono HB.out.size))
end Go.Proofs.YtonnemkecppmiaaGreatDoor
