import Derived.Test.YtonnemkecppmiaaGreatDoorC1
import Derived.Test.YtonnemkecppmiaaGreatDoorLx
namespace Go.Proofs.YtonnemkecppmiaaGreatDoor
open Go.RowKit
/-! The law BookApart. -/
theorem apD (c d : Pu) (hc : (wrD c).2 = 0) (hd : (wrD d).2 = 0) : ((wrD c).1 == (wrD d).1) = decide (c = d) := by
  unfold wrD at hc hd ⊢
  by_cases h : okPu c = true
  · by_cases k : okPu d = true
    · rw [if_pos h, if_pos k, Bool.eq_iff_iff, beq_iff_eq, decide_eq_true_eq]
      exact ⟨fun e => dText_inj h k e, fun e => by rw [e]⟩
    · rw [if_neg k] at hd; cases hd
  · rw [if_neg h] at hc; cases hc
theorem apS (l m : List Pc) (hl : (wrS l).2 = 0) (hm : (wrS m).2 = 0) : ((wrS l).1 == (wrS m).1) = decide (l = m) := by
  obtain ⟨a1, a2, a3⟩ := wrS_ok hl
  obtain ⟨b1, b2, b3⟩ := wrS_ok hm
  rw [a3, b3, Bool.eq_iff_iff, beq_iff_eq, decide_eq_true_eq]
  exact ⟨fun e => scanB_inj a2 b2 a1 b1 e, fun e => by rw [e]⟩
theorem apL (l m : List Wo) (hl : (wrL l).2 = 0) (hm : (wrL m).2 = 0) : ((wrL l).1 == (wrL m).1) = decide (l = m) := by
  obtain ⟨a2, a3⟩ := wrL_ok hl
  obtain ⟨b2, b3⟩ := wrL_ok hm
  rw [a3, b3, Bool.eq_iff_iff, beq_iff_eq, decide_eq_true_eq]
  exact ⟨fun e => logT_inj a2 b2 e, fun e => by rw [e]⟩
set_option maxRecDepth 100000 in
set_option maxHeartbeats 4000000 in
theorem BookApart_walk (c d : Mp) (A2 : Option Addr) (c2 : Nat) (l : List Pc) (A3 : Option Addr) (c3 : Nat) (m : List Pc) (A4 : Option Addr) (c4 : Nat) (v : List Wo) (A5 : Option Addr) (c5 : Nat) (u : List Wo) (w : World) (hE : Env w) (hp0 : PuAt w w.heap.size c) (hp1 : PuAt w w.heap.size d) (h2 : At w w.heap.size 28 Pc.cells A2 l) (n2 : l.length ≤ 9223372036854775807) (_ : l.length ≤ c2) (h3 : At w w.heap.size 28 Pc.cells A3 m) (n3 : m.length ≤ 9223372036854775807) (_ : m.length ≤ c3) (h4 : At w w.heap.size 4 Wo.cells A4 v) (n4 : v.length ≤ 9223372036854775807) (_ : v.length ≤ c4) (h5 : At w w.heap.size 4 Wo.cells A5 u) (n5 : u.length ≤ 9223372036854775807) (_ : u.length ≤ c5) : Calls Tryz.prog 9 #[.agg #[.int .i64 c.d.play.len, .int .i64 c.d.play.slack, .int .i64 c.d.play.loose, .int .i64 c.d.play.damp.lo, .int .i64 c.d.play.damp.hi, .int .i64 c.d.wide, .int .i64 c.d.high, .bool c.d.turn, .slice c.A c.d.pieces.length c.c], .agg #[.int .i64 d.d.play.len, .int .i64 d.d.play.slack, .int .i64 d.d.play.loose, .int .i64 d.d.play.damp.lo, .int .i64 d.d.play.damp.hi, .int .i64 d.d.wide, .int .i64 d.d.high, .bool d.d.turn, .slice d.A d.d.pieces.length d.c], .slice A2 l.length c2, .slice A3 m.length c3, .slice A4 v.length c4, .slice A5 u.length c5] w (Ret (.bool true) w) := by
  have HAD := Lib.hid (apD c.d d.d)
  have HAS := Lib.hid (apS l m)
  have HAL := Lib.hid (apL v u)
  have HN2 := Lib.hid (wrS_pos (l := l))
  have HN3 := Lib.hid (wrS_pos (l := m))
  have HW0 := Lib.hid (fun (W : World) (h1 : Env W) (h2 : PuAt W W.heap.size c) => WriteDrawing_any c W h1 h2)
  have HW1 := Lib.hid (fun (W : World) (h1 : Env W) (h2 : PuAt W W.heap.size d) => WriteDrawing_any d W h1 h2)
  have HW2 := Lib.hid (fun (W : World) (h1 : At W W.heap.size 28 Pc.cells A2 l) => WriteScans_any A2 c2 l W h1 n2)
  have HW3 := Lib.hid (fun (W : World) (h1 : At W W.heap.size 28 Pc.cells A3 m) => WriteScans_any A3 c3 m W h1 n3)
  have HW4 := Lib.hid (fun (W : World) (h1 : Env W) (h2 : At W W.heap.size 4 Wo.cells A4 v) => WriteLog_any A4 c4 v W h1 h2 n4)
  have HW5 := Lib.hid (fun (W : World) (h1 : Env W) (h2 : At W W.heap.size 4 Wo.cells A5 u) => WriteLog_any A5 c5 u W h1 h2 n5)
  have HSP := Lib.hid (fun (W : World) (h1 : At W W.heap.size 28 Pc.cells A2 l) (h2 : At W W.heap.size 28 Pc.cells A3 m) => SamePieces_any A2 A3 c2 c3 l m W h1 h2 n2)
  have HSW := Lib.hid (fun (W : World) (h1 : At W W.heap.size 4 Wo.cells A4 v) (h2 : At W W.heap.size 4 Wo.cells A5 u) => SameWords_any A4 A5 c4 c5 v u W h1 h2 n4)
  generalize (wrD c.d).1 = t0 at HAD HW0
  generalize (wrD c.d).2 = e0 at HAD HW0
  generalize (wrD d.d).1 = t1 at HAD HW1
  generalize (wrD d.d).2 = e1 at HAD HW1
  generalize (wrS l).1 = t2 at HAS HW2 HN2
  generalize (wrS l).2 = e2 at HAS HW2 HN2
  generalize (wrS m).1 = t3 at HAS HW3 HN3
  generalize (wrS m).2 = e3 at HAS HW3 HN3
  generalize (wrL v).1 = t4 at HAL HW4
  generalize (wrL v).2 = e4 at HAL HW4
  generalize (wrL u).1 = t5 at HAL HW5
  generalize (wrL u).2 = e5 at HAL HW5
  have hq := nxA w (.cells #[.int .i64 c.d.play.len, .int .i64 c.d.play.slack, .int .i64 c.d.play.loose, .int .i64 c.d.play.damp.lo, .int .i64 c.d.play.damp.hi, .int .i64 c.d.wide, .int .i64 c.d.high, .bool c.d.turn, .slice c.A c.d.pieces.length c.c] 28)
  have HX0 := Lib.hid (Bx.new w #[.int .i64 c.d.play.len, .int .i64 c.d.play.slack, .int .i64 c.d.play.loose, .int .i64 c.d.play.damp.lo, .int .i64 c.d.play.damp.hi, .int .i64 c.d.wide, .int .i64 c.d.high, .bool c.d.turn, .slice c.A c.d.pieces.length c.c] 28)
  have HE := Lib.hid (hE.next hq)
  have HB := Lib.hid hq
  have HM0 := Lib.hid (hp0.next hq)
  have HM1 := Lib.hid (hp1.next hq)
  have HL2 := Lib.hid (h2.next hq)
  have HL3 := Lib.hid (h3.next hq)
  have HL4 := Lib.hid (h4.next hq)
  have HL5 := Lib.hid (h5.next hq)
  have HN := Lib.hid (nxA (w.alloc (.cells #[.int .i64 c.d.play.len, .int .i64 c.d.play.slack, .int .i64 c.d.play.loose, .int .i64 c.d.play.damp.lo, .int .i64 c.d.play.damp.hi, .int .i64 c.d.wide, .int .i64 c.d.high, .bool c.d.turn, .slice c.A c.d.pieces.length c.c] 28)) (.cells #[.int .i64 d.d.play.len, .int .i64 d.d.play.slack, .int .i64 d.d.play.loose, .int .i64 d.d.play.damp.lo, .int .i64 d.d.play.damp.hi, .int .i64 d.d.wide, .int .i64 d.d.high, .bool d.d.turn, .slice d.A d.d.pieces.length d.c] 28))
  have HX1 := Lib.hid (Bx.new (w.alloc (.cells #[.int .i64 c.d.play.len, .int .i64 c.d.play.slack, .int .i64 c.d.play.loose, .int .i64 c.d.play.damp.lo, .int .i64 c.d.play.damp.hi, .int .i64 c.d.wide, .int .i64 c.d.high, .bool c.d.turn, .slice c.A c.d.pieces.length c.c] 28)) #[.int .i64 d.d.play.len, .int .i64 d.d.play.slack, .int .i64 d.d.play.loose, .int .i64 d.d.play.damp.lo, .int .i64 d.d.play.damp.hi, .int .i64 d.d.wide, .int .i64 d.d.high, .bool d.d.turn, .slice d.A d.d.pieces.length d.c] 28)
  clear hE hp0 hp1 h2 h3 h4 h5 n2 n3 n4 n5 hq
  go_enter Tryz.func9, Tryz.ntmps9
  go_upto_region 1 with fail
  have hs0 : (w.alloc (.cells #[.int .i64 c.d.play.len, .int .i64 c.d.play.slack, .int .i64 c.d.play.loose, .int .i64 c.d.play.damp.lo, .int .i64 c.d.play.damp.hi, .int .i64 c.d.wide, .int .i64 c.d.high, .bool c.d.turn, .slice c.A c.d.pieces.length c.c] 28)).heap.size = w.heap.size + 1 := by simp
  rw [hs0] at HX1
  clear hs0
  generalize (w.alloc (.cells #[.int .i64 c.d.play.len, .int .i64 c.d.play.slack, .int .i64 c.d.play.loose, .int .i64 c.d.play.damp.lo, .int .i64 c.d.play.damp.hi, .int .i64 c.d.wide, .int .i64 c.d.high, .bool c.d.turn, .slice c.A c.d.pieces.length c.c] 28)) = V0 at *
  generalize (V0.alloc (.cells #[.int .i64 d.d.play.len, .int .i64 d.d.play.slack, .int .i64 d.d.play.loose, .int .i64 d.d.play.damp.lo, .int .i64 d.d.play.damp.hi, .int .i64 d.d.wide, .int .i64 d.d.high, .bool d.d.turn, .slice d.A d.d.pieces.length d.c] 28)) = V at *
  obtain ⟨b0, hb0⟩ : ∃ b, b = w.heap.size := ⟨_, rfl⟩
  rw [← hb0] at HX0 HX1 ⊢
  clear hb0
  have hb := HN.out
  replace HE := Lib.hid (HE.out.next hb)
  replace HB := Lib.hid (HB.out.trans (hb.mono HB.out.size))
  replace HM0 := Lib.hid (HM0.out.next hb)
  replace HM1 := Lib.hid (HM1.out.next hb)
  replace HL2 := Lib.hid (HL2.out.next hb)
  replace HL3 := Lib.hid (HL3.out.next hb)
  replace HL4 := Lib.hid (HL4.out.next hb)
  replace HL5 := Lib.hid (HL5.out.next hb)
  replace HX0 := Lib.hid (HX0.out.next hb)
  clear hb HN
  have x0 := HX0.out.c 0 _ rfl
  have x1 := HX0.out.c 1 _ rfl
  have x2 := HX0.out.c 2 _ rfl
  have x3 := HX0.out.c 3 _ rfl
  have x4 := HX0.out.c 4 _ rfl
  have x5 := HX0.out.c 5 _ rfl
  have x6 := HX0.out.c 6 _ rfl
  have x7 := HX0.out.c 7 _ rfl
  have x8 := HX0.out.c 8 _ rfl
  have y0 := HX1.out.c 0 _ rfl
  have y1 := HX1.out.c 1 _ rfl
  have y2 := HX1.out.c 2 _ rfl
  have y3 := HX1.out.c 3 _ rfl
  have y4 := HX1.out.c 4 _ rfl
  have y5 := HX1.out.c 5 _ rfl
  have y6 := HX1.out.c 6 _ rfl
  have y7 := HX1.out.c 7 _ rfl
  have y8 := HX1.out.c 8 _ rfl
  go_upto_region 1 with fail
  go_cut [54] (fun s wx => (∃ far : Bool, s = .bool far) ∧ wx = V)
  case first =>
    go_wp2_with fail
    all_goals
      go_meet
      exact ⟨⟨_, rfl⟩, rfl⟩
  case rest =>
    obtain ⟨⟨far, rfl⟩, hw⟩ := hcut
    have hw2 := hw.symm
    clear hw
    subst hw2
    cases far
    rotate_left
    ·
      go_wp2_with fail
      refine (alive_any V HE.out).mono ?_
      rintro e W99 ⟨rfl, hb⟩
      go_wp2_with fail
      go_ret
      exact ret_bool rfl (HB.out.trans (hb.mono HB.out.size))
    · skip
      go_wp2_with fail
      refine (HW0.out V HE.out HM0.out).mono ?_
      rintro e W0 ⟨rfl, hb⟩
      replace HE := Lib.hid (HE.out.next hb)
      replace HB := Lib.hid (HB.out.trans (hb.mono HB.out.size))
      replace HM0 := Lib.hid (HM0.out.next hb)
      replace HM1 := Lib.hid (HM1.out.next hb)
      replace HL2 := Lib.hid (HL2.out.next hb)
      replace HL3 := Lib.hid (HL3.out.next hb)
      replace HL4 := Lib.hid (HL4.out.next hb)
      replace HL5 := Lib.hid (HL5.out.next hb)
      replace HX0 := Lib.hid (HX0.out.next hb)
      replace HX1 := Lib.hid (HX1.out.next hb)
      clear hb
      clear x0 x1 x2 x3 x4 x5 x6 x7 x8
      clear y0 y1 y2 y3 y4 y5 y6 y7 y8
      have y0 := HX1.out.c 0 _ rfl
      have y1 := HX1.out.c 1 _ rfl
      have y2 := HX1.out.c 2 _ rfl
      have y3 := HX1.out.c 3 _ rfl
      have y4 := HX1.out.c 4 _ rfl
      have y5 := HX1.out.c 5 _ rfl
      have y6 := HX1.out.c 6 _ rfl
      have y7 := HX1.out.c 7 _ rfl
      have y8 := HX1.out.c 8 _ rfl
      go_wp2_with fail
      refine (HW1.out W0 HE.out HM1.out).mono ?_
      rintro e W1 ⟨rfl, hb⟩
      replace HE := Lib.hid (HE.out.next hb)
      replace HB := Lib.hid (HB.out.trans (hb.mono HB.out.size))
      replace HM0 := Lib.hid (HM0.out.next hb)
      replace HM1 := Lib.hid (HM1.out.next hb)
      replace HL2 := Lib.hid (HL2.out.next hb)
      replace HL3 := Lib.hid (HL3.out.next hb)
      replace HL4 := Lib.hid (HL4.out.next hb)
      replace HL5 := Lib.hid (HL5.out.next hb)
      replace HX0 := Lib.hid (HX0.out.next hb)
      replace HX1 := Lib.hid (HX1.out.next hb)
      clear hb
      clear y0 y1 y2 y3 y4 y5 y6 y7 y8
      have x0 := HX0.out.c 0 _ rfl
      have x1 := HX0.out.c 1 _ rfl
      have x2 := HX0.out.c 2 _ rfl
      have x3 := HX0.out.c 3 _ rfl
      have x4 := HX0.out.c 4 _ rfl
      have x5 := HX0.out.c 5 _ rfl
      have x6 := HX0.out.c 6 _ rfl
      have x7 := HX0.out.c 7 _ rfl
      have x8 := HX0.out.c 8 _ rfl
      have y0 := HX1.out.c 0 _ rfl
      have y1 := HX1.out.c 1 _ rfl
      have y2 := HX1.out.c 2 _ rfl
      have y3 := HX1.out.c 3 _ rfl
      have y4 := HX1.out.c 4 _ rfl
      have y5 := HX1.out.c 5 _ rfl
      have y6 := HX1.out.c 6 _ rfl
      have y7 := HX1.out.c 7 _ rfl
      have y8 := HX1.out.c 8 _ rfl
      go_upto_region 5 with fail
      go_cut [80] (fun s wx => s = .bool false ∧ Below W1.heap.size W1 wx)
      case first =>
        by_cases g0 : e0 = 0
        · by_cases g1 : e1 = 0
          · have ha := HAD.out g0 g1
            subst g0 g1
            go_wp2_with fail
            refine (SameDrawings_any c d W1 HM0.out HM1.out).mono ?_
            rintro e W2 ⟨rfl, hb⟩
            generalize decide (c.d = d.d) = q at *
            have hq : (q != q) = false := bne_self_eq_false _
            go_wp2_with fail
            go_meet
            exact ⟨rfl, hb⟩
          · have g1' : (e1 == 0) = false := by simpa using g1
            go_wp2_with fail
            all_goals
              go_meet
              exact ⟨rfl, Below.refl _ _⟩
        · have g0' : (e0 == 0) = false := by simpa using g0
          go_wp2_with fail
          all_goals
            go_meet
            exact ⟨rfl, Below.refl _ _⟩
      case rest =>
        obtain ⟨rfl, hb⟩ := hcut
        clear x0 x1 x2 x3 x4 x5 x6 x7 x8
        clear y0 y1 y2 y3 y4 y5 y6 y7 y8
        replace HE := Lib.hid (HE.out.next hb)
        replace HB := Lib.hid (HB.out.trans (hb.mono HB.out.size))
        replace HM0 := Lib.hid (HM0.out.next hb)
        replace HM1 := Lib.hid (HM1.out.next hb)
        replace HL2 := Lib.hid (HL2.out.next hb)
        replace HL3 := Lib.hid (HL3.out.next hb)
        replace HL4 := Lib.hid (HL4.out.next hb)
        replace HL5 := Lib.hid (HL5.out.next hb)
        replace HX0 := Lib.hid (HX0.out.next hb)
        replace HX1 := Lib.hid (HX1.out.next hb)
        clear hb
        go_wp2_with fail
        refine (HW2.out wc HL2.out).mono ?_
        rintro e W3 ⟨v2, rfl, ho, hb⟩
        replace HE := Lib.hid (HE.out.next hb)
        replace HB := Lib.hid (HB.out.trans (hb.mono HB.out.size))
        replace HM0 := Lib.hid (HM0.out.next hb)
        replace HM1 := Lib.hid (HM1.out.next hb)
        replace HL2 := Lib.hid (HL2.out.next hb)
        replace HL3 := Lib.hid (HL3.out.next hb)
        replace HL4 := Lib.hid (HL4.out.next hb)
        replace HL5 := Lib.hid (HL5.out.next hb)
        replace HX0 := Lib.hid (HX0.out.next hb)
        replace HX1 := Lib.hid (HX1.out.next hb)
        have HO2 := Lib.hid ho
        clear ho
        clear hb
        go_wp2_with fail
        refine (HW3.out W3 HL3.out).mono ?_
        rintro e W4 ⟨v3, rfl, ho, hb⟩
        replace HE := Lib.hid (HE.out.next hb)
        replace HB := Lib.hid (HB.out.trans (hb.mono HB.out.size))
        replace HM0 := Lib.hid (HM0.out.next hb)
        replace HM1 := Lib.hid (HM1.out.next hb)
        replace HL2 := Lib.hid (HL2.out.next hb)
        replace HL3 := Lib.hid (HL3.out.next hb)
        replace HL4 := Lib.hid (HL4.out.next hb)
        replace HL5 := Lib.hid (HL5.out.next hb)
        replace HX0 := Lib.hid (HX0.out.next hb)
        replace HX1 := Lib.hid (HX1.out.next hb)
        replace HO2 := Lib.hid (own_below HO2.out hb)
        have HO3 := Lib.hid ho
        clear ho
        clear hb
        go_upto_region 9 with fail
        go_cut [107] (fun s wx => s = .bool false ∧ Below W4.heap.size W4 wx)
        case first =>
          by_cases g2 : e2 = 0
          · by_cases g3 : e3 = 0
            · have ha := HAS.out g2 g3
              have n2 := HN2.out g2
              have n3 := HN3.out g3
              subst g2 g3
              have hv2 : ∀ W' : World, Below W4.heap.size W4 W' → (convert 37 9 v2).run Tryz.prog W' = .ok (tx t2) W' := fun W' h => cv_wx (own_below HO2.out h) n2
              have hv3 : ∀ W' : World, Below W4.heap.size W4 W' → (convert 37 9 v3).run Tryz.prog W' = .ok (tx t3) W' := fun W' h => cv_wx (own_below HO3.out h) n3
              clear n2 n3
              have HDD := Lib.hid (show Below W4.heap.size W4 W4.drew from below_drewN (Below.refl _ _) 1)
              generalize hqq : decide (l = m) = q at *
              have HQQ := Lib.hid hqq
              clear hqq
              have hq : (q != q) = false := bne_self_eq_false _
              refine wp_region_noPanic ?_
              refine wp_region_held_drew (S := (fun W' => Below W4.heap.size W4 W')) (by kernel_rfl) ?_ (fun hHeld => ?_)
              · (try dsimp only); exact HDD.out
              refine htake (i := 0) (v := ?v1) rfl (by kernel_rfl) (by kernel_rfl) (by kernel_rfl) (fun _ _ _ h => h) (Or.inl ⟨by rfl, ?hy1⟩) (by assumption) ?_
              case hy1 => (intro w hSw; (try dsimp only at hSw); go_simp; try (with_reducible rfl))
              try simp only [Act.put, List.setIfInBounds_toArray, List.set_cons_zero, List.set_cons_succ]
              refine htake (i := 1) (v := ?v2) rfl (by kernel_rfl) (by kernel_rfl) (by kernel_rfl) (fun _ _ _ h => h) (Or.inl ⟨by rfl, ?hy2⟩) (by assumption) ?_
              case hy2 => (intro w hSw; (try dsimp only at hSw); go_simp; try (with_reducible rfl))
              try simp only [Act.put, List.setIfInBounds_toArray, List.set_cons_zero, List.set_cons_succ]
              refine htake (i := 2) (v := ?v3) rfl (by kernel_rfl) (by kernel_rfl) (by kernel_rfl) (fun _ _ _ h => h) (Or.inl ⟨by rfl, ?hy3⟩) (by assumption) ?_
              case hy3 => (intro w hSw; (try dsimp only at hSw); go_simp; try (with_reducible rfl))
              try simp only [Act.put, List.setIfInBounds_toArray, List.set_cons_zero, List.set_cons_succ]
              refine htake (i := 3) (v := ?v4) rfl (by kernel_rfl) (by kernel_rfl) (by kernel_rfl) (fun _ _ _ h => h) (Or.inl ⟨by rfl, ?hy4⟩) (by assumption) ?_
              case hy4 => (intro w hSw; (try dsimp only at hSw); go_simp; try (with_reducible rfl))
              try simp only [Act.put, List.setIfInBounds_toArray, List.set_cons_zero, List.set_cons_succ]
              refine htake (i := 4) (v := ?v5) rfl (by kernel_rfl) (by kernel_rfl) (by kernel_rfl) (fun _ _ _ h => h) (Or.inl ⟨by rfl, ?hy5⟩) (by assumption) ?_
              case hy5 => (intro w hSw; (try dsimp only at hSw); go_simp; try (with_reducible rfl))
              try simp only [Act.put, List.setIfInBounds_toArray, List.set_cons_zero, List.set_cons_succ]
              refine htake (i := 5) (v := ?v6) rfl (by kernel_rfl) (by kernel_rfl) (by kernel_rfl) (fun _ _ _ h => h) (Or.inl ⟨by rfl, ?hy6⟩) (by assumption) ?_
              case hy6 => (intro w hSw; (try dsimp only at hSw); go_simp; try (with_reducible rfl))
              try simp only [Act.put, List.setIfInBounds_toArray, List.set_cons_zero, List.set_cons_succ]
              refine htake (i := 6) (v := ?v7) rfl (by kernel_rfl) (by kernel_rfl) (by kernel_rfl) (fun _ _ _ h => h) (Or.inl ⟨by rfl, ?hy7⟩) (by assumption) ?_
              case hy7 => (intro w hSw; (try dsimp only at hSw); go_simp; try (with_reducible rfl))
              try simp only [Act.put, List.setIfInBounds_toArray, List.set_cons_zero, List.set_cons_succ]
              refine htake (i := 7) (v := ?v8) rfl (by kernel_rfl) (by kernel_rfl) (by kernel_rfl) (fun _ _ _ h => h) (Or.inl ⟨by rfl, ?hy8⟩) (by assumption) ?_
              case hy8 => (intro w hSw; (try dsimp only at hSw); go_simp; try (with_reducible rfl))
              try simp only [Act.put, List.setIfInBounds_toArray, List.set_cons_zero, List.set_cons_succ]
              refine htake (i := 8) (v := ?v9) rfl (by kernel_rfl) (by kernel_rfl) (by kernel_rfl) (fun _ _ _ h => h) (Or.inl ⟨by rfl, ?hy9⟩) (by assumption) ?_
              case hy9 => (intro w hSw; (try dsimp only at hSw); go_simp; try (with_reducible rfl))
              try simp only [Act.put, List.setIfInBounds_toArray, List.set_cons_zero, List.set_cons_succ]
              refine htake (i := 9) (v := ?v10) rfl (by kernel_rfl) (by kernel_rfl) (by kernel_rfl) (fun _ _ _ h => h) (Or.inl ⟨by rfl, ?hy10⟩) (by assumption) ?_
              case hy10 => (intro w hSw; (try dsimp only at hSw); go_simp; try (with_reducible rfl))
              try simp only [Act.put, List.setIfInBounds_toArray, List.set_cons_zero, List.set_cons_succ]
              refine htake (i := 10) (v := ?v11) rfl (by kernel_rfl) (by kernel_rfl) (by kernel_rfl) (fun _ _ _ h => h) (Or.inl ⟨by rfl, ?hy11⟩) (by assumption) ?_
              case hy11 => (intro w hSw; (try dsimp only at hSw); go_simp; try (with_reducible rfl))
              try simp only [Act.put, List.setIfInBounds_toArray, List.set_cons_zero, List.set_cons_succ]
              refine htake (i := 11) (v := ?v12) rfl (by kernel_rfl) (by kernel_rfl) (by kernel_rfl) (fun _ _ _ h => h) (Or.inl ⟨by rfl, ?hy12⟩) (by assumption) ?_
              case hy12 => (intro w hSw; (try dsimp only at hSw); go_simp; try (with_reducible rfl))
              try simp only [Act.put, List.setIfInBounds_toArray, List.set_cons_zero, List.set_cons_succ]
              refine htake (i := 12) (v := ?v13) rfl (by kernel_rfl) (by kernel_rfl) (by kernel_rfl) (fun _ _ _ h => h) (Or.inl ⟨by rfl, ?hy13⟩) (by assumption) ?_
              case hy13 => (intro w hSw; (try dsimp only at hSw); go_simp; try (with_reducible rfl))
              try simp only [Act.put, List.setIfInBounds_toArray, List.set_cons_zero, List.set_cons_succ]
              refine htake (i := 13) (v := ?v14) rfl (by kernel_rfl) (by kernel_rfl) (by kernel_rfl) (fun _ _ _ h => h) (Or.inl ⟨by rfl, ?hy14⟩) (by assumption) ?_
              case hy14 => (intro w hSw; (try dsimp only at hSw); go_simp; try (with_reducible rfl))
              try simp only [Act.put, List.setIfInBounds_toArray, List.set_cons_zero, List.set_cons_succ]
              refine wpAnyH_ready (rs := [14]) (by kernel_rfl) (by simp) ?_
              refine hcons rfl (fun K hK => ?_) (AllReadyH.nil)
              go_simp
              refine (HSP.out W4.drew (HL2.out.next HDD.out) (HL3.out.next HDD.out)).mono ?_; rintro e W5 ⟨rfl, hb⟩
              refine hK.out _ _ ?_ (fun hHeld => ?_)
              · (try dsimp only); exact HDD.out.trans hb
              clear hK K
              try simp only [Act.put, List.setIfInBounds_toArray, List.set_cons_zero, List.set_cons_succ]
              refine htake (i := 15) (v := ?v15) rfl (by kernel_rfl) (by kernel_rfl) (by kernel_rfl) (fun _ _ _ h => h) (Or.inl ⟨by rfl, ?hy15⟩) (by assumption) ?_
              case hy15 => (intro w hSw; (try dsimp only at hSw); go_simp; try (with_reducible rfl))
              try simp only [Act.put, List.setIfInBounds_toArray, List.set_cons_zero, List.set_cons_succ]
              refine htake (i := 16) (v := ?v16) rfl (by kernel_rfl) (by kernel_rfl) (by kernel_rfl) (fun _ _ _ h => h) (Or.inl ⟨by rfl, ?hy16⟩) (by assumption) ?_
              case hy16 => (intro w hSw; (try dsimp only at hSw); go_simp; try (with_reducible rfl))
              try simp only [Act.put, List.setIfInBounds_toArray, List.set_cons_zero, List.set_cons_succ]
              refine wpAnyH_done (by kernel_rfl) ?_ _
              refine NoPanic.normal ?_
              go_wp2_with fail
              go_meet
              exact ⟨rfl, HDD.out.trans hb⟩
            · have g3' : (e3 == 0) = false := by simpa using g3
              go_wp2_with (go_quiet (fail))
              all_goals
                go_meet
                exact ⟨rfl, below_drewN (Below.refl _ _) _⟩
          · have g2' : (e2 == 0) = false := by simpa using g2
            go_wp2_with (go_quiet (fail))
            all_goals
              go_meet
              exact ⟨rfl, below_drewN (Below.refl _ _) _⟩
        case rest =>
          obtain ⟨rfl, hb⟩ := hcut
          replace HE := Lib.hid (HE.out.next hb)
          replace HB := Lib.hid (HB.out.trans (hb.mono HB.out.size))
          replace HM0 := Lib.hid (HM0.out.next hb)
          replace HM1 := Lib.hid (HM1.out.next hb)
          replace HL2 := Lib.hid (HL2.out.next hb)
          replace HL3 := Lib.hid (HL3.out.next hb)
          replace HL4 := Lib.hid (HL4.out.next hb)
          replace HL5 := Lib.hid (HL5.out.next hb)
          replace HX0 := Lib.hid (HX0.out.next hb)
          replace HX1 := Lib.hid (HX1.out.next hb)
          clear hb HO2 HO3
          go_wp2_with fail
          refine (HW4.out wc HE.out HL4.out).mono ?_
          rintro e W5 ⟨rfl, hb⟩
          replace HE := Lib.hid (HE.out.next hb)
          replace HB := Lib.hid (HB.out.trans (hb.mono HB.out.size))
          replace HM0 := Lib.hid (HM0.out.next hb)
          replace HM1 := Lib.hid (HM1.out.next hb)
          replace HL2 := Lib.hid (HL2.out.next hb)
          replace HL3 := Lib.hid (HL3.out.next hb)
          replace HL4 := Lib.hid (HL4.out.next hb)
          replace HL5 := Lib.hid (HL5.out.next hb)
          replace HX0 := Lib.hid (HX0.out.next hb)
          replace HX1 := Lib.hid (HX1.out.next hb)
          clear hb
          go_wp2_with fail
          refine (HW5.out W5 HE.out HL5.out).mono ?_
          rintro e W6 ⟨rfl, hb⟩
          replace HE := Lib.hid (HE.out.next hb)
          replace HB := Lib.hid (HB.out.trans (hb.mono HB.out.size))
          replace HM0 := Lib.hid (HM0.out.next hb)
          replace HM1 := Lib.hid (HM1.out.next hb)
          replace HL2 := Lib.hid (HL2.out.next hb)
          replace HL3 := Lib.hid (HL3.out.next hb)
          replace HL4 := Lib.hid (HL4.out.next hb)
          replace HL5 := Lib.hid (HL5.out.next hb)
          replace HX0 := Lib.hid (HX0.out.next hb)
          replace HX1 := Lib.hid (HX1.out.next hb)
          clear hb
          by_cases g4 : e4 = 0
          · by_cases g5 : e5 = 0
            · have ha := HAL.out g4 g5
              subst g4 g5
              generalize decide (v = u) = q at *
              have hq : (q == q) = true := beq_self_eq_true _
              go_wp2_with fail
              refine (HSW.out W6 HL4.out HL5.out).mono ?_
              rintro e W7 ⟨rfl, hb⟩
              replace HE := Lib.hid (HE.out.next hb)
              replace HB := Lib.hid (HB.out.trans (hb.mono HB.out.size))
              replace HM0 := Lib.hid (HM0.out.next hb)
              replace HM1 := Lib.hid (HM1.out.next hb)
              replace HL2 := Lib.hid (HL2.out.next hb)
              replace HL3 := Lib.hid (HL3.out.next hb)
              replace HL4 := Lib.hid (HL4.out.next hb)
              replace HL5 := Lib.hid (HL5.out.next hb)
              replace HX0 := Lib.hid (HX0.out.next hb)
              replace HX1 := Lib.hid (HX1.out.next hb)
              clear hb
              go_wp2_with fail
              refine (alive_any W7 HE.out).mono ?_
              rintro e W99 ⟨rfl, hb⟩
              go_wp2_with fail
              go_ret
              exact ret_bool rfl (HB.out.trans (hb.mono HB.out.size))
            · have g5' : (e5 != 0) = true := by simpa using g5
              go_wp2_with fail
              refine (alive_any W6 HE.out).mono ?_
              rintro e W99 ⟨rfl, hb⟩
              go_wp2_with fail
              go_ret
              exact ret_bool rfl (HB.out.trans (hb.mono HB.out.size))
          · have g4' : (e4 != 0) = true := by simpa using g4
            go_wp2_with fail
            refine (alive_any W6 HE.out).mono ?_
            rintro e W99 ⟨rfl, hb⟩
            go_wp2_with fail
            go_ret
            exact ret_bool rfl (HB.out.trans (hb.mono HB.out.size))
end Go.Proofs.YtonnemkecppmiaaGreatDoor
