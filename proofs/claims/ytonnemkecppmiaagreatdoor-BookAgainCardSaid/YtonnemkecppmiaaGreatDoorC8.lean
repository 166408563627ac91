import Derived.Test.YtonnemkecppmiaaGreatDoorC1
import Derived.Test.YtonnemkecppmiaaGreatDoorLx
import Derived.Test.YtonnemkecppmiaaGreatDoorR9
namespace Go.Proofs.YtonnemkecppmiaaGreatDoor
open Go.RowKit
/-! The law BookAgain. -/
theorem rd_yes {s : Tx} (h : rdE s = 0) : wrD (rdV s) = (s, 0) := by
  unfold rdE at h
  unfold rdV
  by_cases a : 65536 < s.length
  · rw [if_pos a] at h; cases h
  · rw [if_neg a] at h ⊢
    cases e : readD s with
    | none => rw [e] at h; cases h
    | some d =>
      obtain ⟨h1, h2⟩ := readD_iff.1 e
      show wrD d = _
      unfold wrD
      rw [if_pos h1, h2]
theorem rd_no {s : Tx} (h : rdE s ≠ 0) : rdV s = pu0 ∧ (rdE s = 3 ∧ 65536 < s.length ∨ rdE s = 8 ∧ ¬ 65536 < s.length) := by
  unfold rdE at h ⊢
  unfold rdV
  by_cases a : 65536 < s.length
  · rw [if_pos a, if_pos a]; exact ⟨rfl, .inl ⟨rfl, a⟩⟩
  · rw [if_neg a] at h
    rw [if_neg a, if_neg a]
    cases e : readD s with
    | none => exact ⟨rfl, .inr ⟨rfl, a⟩⟩
    | some d => rw [e] at h; exact (h rfl).elim
theorem rs_yes {b : Tx} (h : rsE b = 0) : wrS (rsV b) = (b, 0) ∧ 0 < b.length := by
  unfold rsE at h
  unfold rsV
  by_cases a : 65536 < b.length
  · rw [if_pos a] at h; cases h
  rw [if_neg a] at h
  by_cases c : b = []
  · rw [if_pos c] at h; cases h
  rw [if_neg c] at h
  by_cases d : sumB b ≠ 0
  · rw [if_pos d] at h; cases h
  rw [if_neg d] at h
  rw [if_neg (fun x => x.elim a (fun x => x.elim c d))]
  cases e : readS b with
  | none => rw [e] at h; cases h
  | some l =>
    obtain ⟨h1, h2, h3⟩ := readS_iff.1 e
    show wrS l = _ ∧ _
    unfold wrS
    rw [if_neg (by omega), if_neg (by rw [h1]; decide), h3]
    exact ⟨rfl, List.length_pos_iff.2 c⟩
theorem rs_no {b : Tx} (h : rsE b ≠ 0) : rsV b = [] ∧ (rsE b = 3 ∧ 65536 < b.length ∨ rsE b = 8 ∧ b = [] ∨ rsE b = 11 ∧ 0 < b.length ∧ ¬ 65536 < b.length ∧ sumB b ≠ 0 ∨ rsE b = 8 ∧ 0 < b.length ∧ ¬ 65536 < b.length ∧ sumB b = 0) := by
  unfold rsE at h ⊢
  unfold rsV
  by_cases a : 65536 < b.length
  · rw [if_pos a, if_pos (.inl a)]; exact ⟨rfl, .inl ⟨rfl, a⟩⟩
  rw [if_neg a] at h ⊢
  by_cases c : b = []
  · rw [if_pos c, if_pos (.inr (.inl c))]; exact ⟨rfl, .inr (.inl ⟨rfl, c⟩)⟩
  rw [if_neg c] at h ⊢
  have hp := List.length_pos_iff.2 c
  by_cases d : sumB b ≠ 0
  · rw [if_pos d, if_pos (.inr (.inr d))]; exact ⟨rfl, .inr (.inr (.inl ⟨rfl, hp, a, d⟩))⟩
  rw [if_neg d] at h ⊢
  rw [if_neg (fun x => x.elim a (fun x => x.elim c d))]
  cases e : readS b with
  | none => exact ⟨rfl, .inr (.inr (.inr ⟨rfl, hp, a, by simpa using d⟩))⟩
  | some l => rw [e] at h; exact (h rfl).elim
theorem rl_yes {s : Tx} (h : rlE s = 0) : wrL (rlV s) = (s, 0) := by
  unfold rlE at h
  unfold rlV
  by_cases a : 65536 < s.length
  · rw [if_pos a] at h; cases h
  · rw [if_neg a] at h ⊢
    cases e : readLg s with
    | none => rw [e] at h; cases h
    | some d =>
      obtain ⟨h1, h2⟩ := readLg_iff.1 e
      show wrL d = _
      unfold wrL
      rw [if_pos h1, h2]
theorem rl_no {s : Tx} (h : rlE s ≠ 0) : rlV s = [] ∧ (rlE s = 3 ∧ 65536 < s.length ∨ rlE s = 8 ∧ ¬ 65536 < s.length) := by
  unfold rlE at h ⊢
  unfold rlV
  by_cases a : 65536 < s.length
  · rw [if_pos a, if_pos a]; exact ⟨rfl, .inl ⟨rfl, a⟩⟩
  · rw [if_neg a] at h
    rw [if_neg a, if_neg a]
    cases e : readLg s with
    | none => exact ⟨rfl, .inr ⟨rfl, a⟩⟩
    | some d => rw [e] at h; exact (h rfl).elim
theorem cv_at {w : World} {B b off c : Nat} {t : Tx} (h : BsAt w B (some ⟨b, off, none⟩) t) : (convert 37 9 (.slice (some ⟨b, off, none⟩) t.length c)).run Tryz.prog w = .ok (tx t) w :=
  run_convert_bytes_back w _ _ _ ⟨b, off, none⟩ c t Tryz.underlying37 Tryz.underlying5 Tryz.underlying9 (fun j hj => by
    obtain ⟨q, o, e, -, hc⟩ := h j _ (List.getElem?_eq_getElem hj)
    injection e with e
    injection e with e1 e2 _
    subst e1 e2
    have := hc 0 _ rfl
    rw [Nat.mul_one, Nat.add_zero] at this
    rw [show (⟨b, off, none⟩ : Addr).add j = ⟨b, off + j, none⟩ by unfold Addr.add; split <;> simp_all]
    exact this)
theorem at_some {w : World} {B : Nat} {A : Option Addr} {t : Tx} (h : BsAt w B A t) (h0 : 0 < t.length) : ∃ b off, A = some ⟨b, off, none⟩ := by
  obtain ⟨b, off, e, -, -⟩ := h 0 _ (List.getElem?_eq_getElem h0)
  exact ⟨b, off, e⟩
set_option maxRecDepth 100000 in
set_option maxHeartbeats 4000000 in
theorem BookAgain_walk (s : Tx) (A1 : Option Addr) (c1 : Nat) (t : Tx) (r : Tx) (w : World) (hE : Env w) (_ : s.length ≤ 9223372036854775807) (h1 : BsAt w w.heap.size A1 t) (_ : t.length ≤ 9223372036854775807) (_ : t.length ≤ c1) (_ : r.length ≤ 9223372036854775807) : Calls Tryz.prog 7 #[tx s, .slice A1 t.length c1, tx r] w (Ret (.bool true) w) := by
  have HRD := Lib.hid (fun (W : World) (h : Env W) => ReadDrawing_any s W h)
  have HRS := Lib.hid (fun (W : World) (h : Env W) (h2 : BsAt W W.heap.size A1 t) => ReadScans_any A1 c1 t W h h2)
  have HRL := Lib.hid (fun (W : World) (h : Env W) => ReadLog_any r W h)
  have HE := Lib.hid hE
  have HB := Lib.hid (Below.refl w.heap.size w)
  have HT := Lib.hid h1
  clear hE h1
  go_enter Tryz.func7, Tryz.ntmps7
  go_upto_region 1 with fail
  go_cut [31] (fun s wx => (∃ far : Bool, s = .bool far) ∧ wx = w)
  case first =>
    go_wp2_with fail
    all_goals
      go_meet
      exact ⟨⟨_, rfl⟩, rfl⟩
  case rest =>
    obtain ⟨⟨far, rfl⟩, hw⟩ := hcut
    have hw2 := hw.symm
    clear hw
    subst hw2
    cases far
    rotate_left
    ·
      go_wp2_with fail
      refine (alive_any w HE.out).mono ?_
      rintro e W99 ⟨rfl, hb⟩
      go_wp2_with fail
      go_ret
      exact ret_bool rfl (HB.out.trans (hb.mono HB.out.size))
    · skip
      go_wp2_with fail
      refine (HRD.out w HE.out).mono ?_
      rintro e W0 ⟨m1, hm1, rfl, hp1, -, hb⟩
      replace HE := Lib.hid (HE.out.next hb)
      replace HB := Lib.hid (HB.out.trans (hb.mono HB.out.size))
      replace HT := Lib.hid (HT.out.next hb)
      have HM1 := Lib.hid hp1
      have HD1 := Lib.hid hm1
      clear hm1 hp1
      obtain ⟨e0, he0⟩ : ∃ e0, rdE s = e0 := ⟨_, rfl⟩
      rw [he0]
      have HE0 := Lib.hid he0
      clear he0
      clear hb
      have HN := Lib.hid (nxA W0 (.cells #[.int .i64 m1.d.play.len, .int .i64 m1.d.play.slack, .int .i64 m1.d.play.loose, .int .i64 m1.d.play.damp.lo, .int .i64 m1.d.play.damp.hi, .int .i64 m1.d.wide, .int .i64 m1.d.high, .bool m1.d.turn, .slice m1.A m1.d.pieces.length m1.c] 28))
      have HX1 := Lib.hid (Bx.new W0 #[.int .i64 m1.d.play.len, .int .i64 m1.d.play.slack, .int .i64 m1.d.play.loose, .int .i64 m1.d.play.damp.lo, .int .i64 m1.d.play.damp.hi, .int .i64 m1.d.wide, .int .i64 m1.d.high, .bool m1.d.turn, .slice m1.A m1.d.pieces.length m1.c] 28)
      go_upto_region 4 with fail
      generalize (W0.alloc (.cells #[.int .i64 m1.d.play.len, .int .i64 m1.d.play.slack, .int .i64 m1.d.play.loose, .int .i64 m1.d.play.damp.lo, .int .i64 m1.d.play.damp.hi, .int .i64 m1.d.wide, .int .i64 m1.d.high, .bool m1.d.turn, .slice m1.A m1.d.pieces.length m1.c] 28)) = V1 at *
      obtain ⟨b1, hb1⟩ : ∃ b, b = W0.heap.size := ⟨_, rfl⟩
      rw [← hb1] at HX1 ⊢
      have hb := HN.out
      replace HE := Lib.hid (HE.out.next hb)
      replace HB := Lib.hid (HB.out.trans (hb.mono HB.out.size))
      replace HT := Lib.hid (HT.out.next hb)
      replace HM1 := Lib.hid (HM1.out.next hb)
      clear hb hb1 HN
      go_upto_if 39 with fail
      go_cut [] (fun wx => Below V1.heap.size V1 wx)
      case first =>
        by_cases g0 : e0 = 0
        · subst g0
          have hw := rd_yes HE0.out
          rw [← HD1.out] at hw
          have HW := Lib.hid (by have := WriteDrawing_any m1 V1 HE.out HM1.out; rw [hw] at this; exact this : Calls Tryz.prog 13 #[.agg #[.int .i64 m1.d.play.len, .int .i64 m1.d.play.slack, .int .i64 m1.d.play.loose, .int .i64 m1.d.play.damp.lo, .int .i64 m1.d.play.damp.hi, .int .i64 m1.d.wide, .int .i64 m1.d.high, .bool m1.d.turn, .slice m1.A m1.d.pieces.length m1.c]] V1 (RetS s 0 V1))
          have hne : (s != s) = false := bne_self_eq_false _
          clear hw
          have p0 := HX1.out.c 0 _ rfl
          have p1 := HX1.out.c 1 _ rfl
          have p2 := HX1.out.c 2 _ rfl
          have p3 := HX1.out.c 3 _ rfl
          have p4 := HX1.out.c 4 _ rfl
          have p5 := HX1.out.c 5 _ rfl
          have p6 := HX1.out.c 6 _ rfl
          have p7 := HX1.out.c 7 _ rfl
          have p8 := HX1.out.c 8 _ rfl
          go_wp2_with fail
          refine HW.out.mono ?_
          rintro e W2 ⟨rfl, hb⟩
          go_wp2_with fail
          go_meet
          exact hb
        · obtain ⟨hv, hh⟩ := rd_no (s := s) (by rw [HE0.out]; exact g0)
          rw [← HD1.out] at hv
          rw [HE0.out] at hh
          have g0' : (e0 == 0) = false := by simpa using g0
          have p1 : V1.cell? ⟨b1, 5, none⟩ = some (.int .i64 0) := by have := HX1.out.c 5 _ rfl; rw [hv] at this; exact this
          have hl : m1.d.pieces.length = 0 := by rw [hv]; rfl
          have p8 : V1.cell? ⟨b1, 8, none⟩ = some (.slice m1.A 0 m1.c) := by have := HX1.out.c 8 _ rfl; rw [hl] at this; exact this
          clear hv hl
          rcases hh with ⟨he, hq⟩ | ⟨he, hq⟩
          · subst he
            have hq' : ((65536 : Int) < (s.length : Int)) = True := eq_true (by omega)
            go_wp2_with fail
            go_meet
            exact Below.refl _ _
          · subst he
            have hq' : ((65536 : Int) < (s.length : Int)) = False := eq_false (by omega)
            go_wp2_with fail
            go_meet
            exact Below.refl _ _
      case rest =>
        have hb : Below V1.heap.size V1 wc := hcut
        clear hcut HX1 HM1 HD1 HE0 HRD
        replace HE := Lib.hid (HE.out.next hb)
        replace HB := Lib.hid (HB.out.trans (hb.mono HB.out.size))
        replace HT := Lib.hid (HT.out.next hb)
        clear hb
        go_wp2_with fail
        refine (HRS.out wc HE.out HT.out).mono ?_
        rintro e W3 ⟨v, rfl, ho, hb⟩
        replace HE := Lib.hid (HE.out.next hb)
        replace HB := Lib.hid (HB.out.trans (hb.mono HB.out.size))
        replace HT := Lib.hid (HT.out.next hb)
        obtain ⟨L, hL⟩ : ∃ L, rsV t = L := ⟨_, rfl⟩
        rw [hL] at ho
        have HLV := Lib.hid hL
        clear hL
        obtain ⟨A4, c4, e, ha4⟩ := own_at pc_len (by decide) ho
        subst e
        have HA4 := Lib.hid ha4
        clear ho ha4
        obtain ⟨e1, he1⟩ : ∃ e1, rsE t = e1 := ⟨_, rfl⟩
        rw [he1]
        have HE1 := Lib.hid he1
        clear he1
        clear hb
        go_upto_if 83 with fail
        go_cut [] (fun wx => Below W3.heap.size W3 wx)
        case first =>
          by_cases g1 : e1 = 0
          · subst g1
            obtain ⟨hw, hpos⟩ := rs_yes HE1.out
            have hn12 : (rsV t).length ≤ 12 := (wrS_ok (by rw [hw])).1
            rw [HLV.out] at hn12 hw
            have HW := Lib.hid (by have := WriteScans_any A4 c4 L W3 HA4.out (by omega); rw [hw] at this; exact this : Calls Tryz.prog 18 #[.slice A4 L.length c4] W3 (RetBE t 0 W3))
            obtain ⟨q, off, hA1⟩ := at_some HT.out hpos
            subst hA1
            have hne : (t != t) = false := bne_self_eq_false _
            clear hw hn12
            go_wp2_with fail
            refine HW.out.mono ?_
            rintro e W4 ⟨v4, rfl, ho, hb⟩
            have hc1 := cv_wx ho hpos
            have hc2 := cv_at (c := c1) (HT.out.next hb)
            go_wp2_with fail
            go_meet
            exact hb
          · obtain ⟨hv, hh⟩ := rs_no (b := t) (by rw [HE1.out]; exact g1)
            rw [HE1.out] at hh
            have g1' : (e1 == 0) = false := by simpa using g1
            have hl0 : ((0 : Int) < (L.length : Int)) = False := eq_false (by rw [← HLV.out, hv]; decide)
            have hl1 : (0 < L.length) = False := eq_false (by rw [← HLV.out, hv]; decide)
            clear hv
            rcases hh with ⟨he, hq⟩ | ⟨he, hq⟩ | ⟨he, hp, hq, hs⟩ | ⟨he, hp, hq, hs⟩
            · subst he
              have hq1 : ((65536 : Int) < (t.length : Int)) = True := eq_true (by omega)
              have hq2 : ((t.length : Int) ≤ 65536) = False := eq_false (by omega)
              have hq3 : ((0 : Int) < (t.length : Int)) = True := eq_true (by omega)
              go_wp2_with fail
              go_meet
              exact Below.refl _ _
            · subst he
              have hq1 : ((65536 : Int) < (t.length : Int)) = False := eq_false (by rw [hq]; decide)
              have hq3 : ((0 : Int) < (t.length : Int)) = False := eq_false (by rw [hq]; decide)
              have hq4 : (0 < t.length) = False := eq_false (by rw [hq]; decide)
              clear hq
              go_wp2_with fail
              go_meet
              exact Below.refl _ _
            · subst he
              have hq1 : ((65536 : Int) < (t.length : Int)) = False := eq_false (by omega)
              have hq2 : ((t.length : Int) ≤ 65536) = True := eq_true (by omega)
              have hq3 : ((0 : Int) < (t.length : Int)) = True := eq_true (by omega)
              have hz : ((((sumB t).toNat : Nat) : Int) != 0) = true := by
                have : (sumB t).toNat ≠ 0 := fun e => hs (UInt8.toNat_inj.1 e)
                simpa using this
              generalize hsu : sumB t = S at *
              have HSU := Lib.hid hsu
              clear hsu hs
              go_wp2_with fail
              refine (SumR_any A1 c1 t W3 HT.out (by omega)).mono ?_
              rintro e W4 ⟨rfl, hw⟩
              have hw2 := hw.symm
              clear hw
              subst hw2
              rw [HSU.out]
              unfold u8v
              go_wp2_with fail
              go_meet
              exact Below.refl _ _
            · subst he
              have hq1 : ((65536 : Int) < (t.length : Int)) = False := eq_false (by omega)
              have hq2 : ((t.length : Int) ≤ 65536) = True := eq_true (by omega)
              have hq3 : ((0 : Int) < (t.length : Int)) = True := eq_true (by omega)
              have HUS := Lib.hid (show u8v (sumB t) = .int .u8 0 by rw [hs]; rfl)
              clear hs
              go_wp2_with fail
              refine (SumR_any A1 c1 t W3 HT.out (by omega)).mono ?_
              rintro e W4 ⟨rfl, hw⟩
              have hw2 := hw.symm
              clear hw
              subst hw2
              rw [HUS.out]
              go_wp2_with fail
              go_meet
              exact Below.refl _ _
        case rest =>
          have hb : Below W3.heap.size W3 wc := hcut
          clear hcut HA4 HE1 HRS HT HLV
          replace HE := Lib.hid (HE.out.next hb)
          replace HB := Lib.hid (HB.out.trans (hb.mono HB.out.size))
          clear hb
          go_wp2_with fail
          refine (HRL.out wc HE.out).mono ?_
          rintro e W5 ⟨v, rfl, ho, hb⟩
          replace HE := Lib.hid (HE.out.next hb)
          replace HB := Lib.hid (HB.out.trans (hb.mono HB.out.size))
          obtain ⟨L, hL⟩ : ∃ L, rlV r = L := ⟨_, rfl⟩
          rw [hL] at ho
          have HLV := Lib.hid hL
          clear hL
          obtain ⟨A6, c6, e, ha6⟩ := own_at wo_len (by decide) ho
          subst e
          have HA6 := Lib.hid ha6
          clear ho ha6
          obtain ⟨e2, he2⟩ : ∃ e2, rlE r = e2 := ⟨_, rfl⟩
          rw [he2]
          have HE2 := Lib.hid he2
          clear he2
          clear hb
          by_cases g2 : e2 = 0
          rotate_left
          · obtain ⟨hv, hh⟩ := rl_no (s := r) (by rw [HE2.out]; exact g2)
            rw [HE2.out] at hh
            have g2' : (e2 != 0) = true := by simpa using g2
            rw [HLV.out] at hv
            subst hv
            rcases hh with ⟨he, hq⟩ | ⟨he, hq⟩
            · subst he
              have hq' : ((65536 : Int) < (r.length : Int)) = True := eq_true (by omega)
              go_wp2_with fail
              refine (alive_any W5 HE.out).mono ?_
              rintro e W99 ⟨rfl, hb⟩
              go_wp2_with fail
              go_ret
              exact ret_bool rfl (HB.out.trans (hb.mono HB.out.size))
            · subst he
              have hq' : ((65536 : Int) < (r.length : Int)) = False := eq_false (by omega)
              go_wp2_with fail
              refine (alive_any W5 HE.out).mono ?_
              rintro e W99 ⟨rfl, hb⟩
              go_wp2_with fail
              go_ret
              exact ret_bool rfl (HB.out.trans (hb.mono HB.out.size))
          · subst g2
            have hw := rl_yes HE2.out
            have hn40 : (rlV r).length ≤ 40 := (check_zero.1 (wrL_ok (by rw [hw])).1).1
            rw [HLV.out] at hn40 hw
            have HW := Lib.hid (by have := WriteLog_any A6 c6 L W5 HE.out HA6.out (by omega); rw [hw] at this; exact this : Calls Tryz.prog 27 #[.slice A6 L.length c6] W5 (RetS r 0 W5))
            have hne : (r == r) = true := beq_self_eq_true _
            clear hw hn40
            go_wp2_with fail
            refine (HW.out).mono ?_
            rintro e W6 ⟨rfl, hb⟩
            replace HE := Lib.hid (HE.out.next hb)
            replace HB := Lib.hid (HB.out.trans (hb.mono HB.out.size))
            replace HA6 := Lib.hid (HA6.out.next hb)
            clear HW
            clear hb
            go_wp2_with fail
            refine (alive_any W6 HE.out).mono ?_
            rintro e W99 ⟨rfl, hb⟩
            go_wp2_with fail
            go_ret
            exact ret_bool rfl (HB.out.trans (hb.mono HB.out.size))
end Go.Proofs.YtonnemkecppmiaaGreatDoor
