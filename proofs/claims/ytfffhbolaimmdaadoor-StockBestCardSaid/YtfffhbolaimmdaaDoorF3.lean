import Derived.Test.YtfffhbolaimmdaaDoorC2
import Derived.Test.YtfffhbolaimmdaaDoorQ2
namespace Go.Proofs.YtfffhbolaimmdaaDoor
open Go.RowKit
theorem shl_wish {s : Store} (ok : Ok s) : wrap64 (2 ^ s.wishes.length) = ((2 ^ s.wishes.length : Nat) : Int) := by
  have h := ok.nw
  have hp : 2 ^ s.wishes.length ≤ 2 ^ 9 := Nat.pow_le_pow_right (by omega) h
  rw [show ((2 : Int) ^ s.wishes.length) = ((2 ^ s.wishes.length : Nat) : Int) by rw [Int.natCast_pow]; rfl]
  generalize 2 ^ s.wishes.length = q at *
  simp only [wrap64]
  omega
/-- The loop: a set that may be accepted, of the first k orders. -/
def R8 (s : Store) (bs : Nat) (w0 : World) (xv kv : Value) (w : World) : Prop := ∃ (k x : Nat), k ≤ s.wishes.length ∧ kv = .int .i64 k ∧ xv = .int .i64 x ∧ x < 2 ^ k ∧ refusedS s x < 0 ∧ AwW s bs w ∧ Below w0.heap.size w0 w
set_option maxRecDepth 100000 in
set_option maxHeartbeats 2000000 in
theorem StockBest_walk (s : Store) (ot : Int) (w : World) (hr : StoreAt w w.heap.size s) (he : Env w) : Calls Tryd.prog 8 #[.agg #[.slice s.A1 s.sheets.length s.c1, .slice s.A2 s.lics.length s.c2, .slice s.A3 s.makes.length s.c3, .slice s.A4 s.wishes.length s.c4], .int .u16 ot] w (Ret (.bool true) w) := by
  have K1 := Lib.hid (AwW.start hr he 27)
  have B1 := Lib.hid (nxA w (.cells #[.slice s.A1 s.sheets.length s.c1, .slice s.A2 s.lics.length s.c2, .slice s.A3 s.makes.length s.c3, .slice s.A4 s.wishes.length s.c4] 27))
  clear hr he
  have p0 := True.intro
  have p1 := True.intro
  have p2 := True.intro
  have p3 := True.intro
  go_enter Tryd.func8, Tryd.ntmps8
  go_wp2_with fail
  generalize (w.alloc (.cells #[.slice s.A1 s.sheets.length s.c1, .slice s.A2 s.lics.length s.c2, .slice s.A3 s.makes.length s.c3, .slice s.A4 s.wishes.length s.c4] 27)) = V1 at *
  refine (far_any s V1 K1.out.st).mono ?_
  rintro e V2 ⟨rfl, hb⟩
  have K2 := Lib.hid (K1.out.next hb)
  have B2 := Lib.hid (B1.out.trans (hb.mono B1.out.size))
  clear hb K1 B1 p0 p1 p2 p3
  obtain ⟨-, -, -, p0, p1, p2, p3⟩ := id K2.out
  cases hf : farS s
  · clear hf
    cases hs : storeS s
    · have e1 : acSet s = 0 := by simp [acSet, hs]
      have e2 : acGain s = 0 := by simp [acGain, hs]
      have e3 : acS s = 1 := by simp [acS, hs]
      have HA := Lib.hid (Accept26_any s V2 K2.out.st)
      rw [e1, e2, e3] at HA
      clear e1 e2 e3
      go_wp2_with fail
      refine (HA.out).mono ?_
      rintro e V3 ⟨rfl, hb⟩
      have K3 := Lib.hid (K2.out.next hb)
      have B3 := Lib.hid (B2.out.trans (hb.mono B2.out.size))
      clear hb K2 B2 p0 p1 p2 p3
      obtain ⟨-, -, -, p0, p1, p2, p3⟩ := id K3.out
      go_wp2_with fail
      refine (Store_any s V3 K3.out.st).mono ?_
      rintro e V4 ⟨rfl, hb⟩
      have K4 := Lib.hid (K3.out.next hb)
      have B4 := Lib.hid (B3.out.trans (hb.mono B3.out.size))
      clear hb K3 B3 p0 p1 p2 p3
      go_wp2_with fail
      refine (awake_any V4 K4.out.en).mono ?_
      rintro e V5 ⟨rfl, hb⟩
      have B5 := Lib.hid (B4.out.trans (hb.mono B4.out.size))
      clear hb K4 B4
      go_wp2
      go_ret
      exact ⟨rfl, B5.out⟩
    · have e1 : acSet s = bestS s := by simp [acSet, hs]
      have e2 : acGain s = G s (bestS s) := by simp [acGain, hs, G]
      have e3 : acS s = 0 := by simp [acS, hs]
      have HA := Lib.hid (Accept26_any s V2 K2.out.st)
      rw [e1, e2, e3] at HA
      clear e1 e2 e3
      have ok := (ok_iff s).1 hs
      have sh := shl_wish ok
      have hbl := best_lt s
      have hbp := best_pos ok
      have hba : acceptedS s (bestS s : Nat) = 0 := (accepted_zero ok hbl).2 (best_ok s)
      have HBG := Lib.hid (fun (y : Nat) (h1 : y < 2 ^ s.wishes.length) (h2 : refusedS s y < 0) => best_ge s h1 h2)
      have HM := Lib.hid (fun (W : World) (h1 : StoreAt W W.heap.size s) (h2 : Env W) => (show Calls Tryd.prog 16 #[.agg #[.slice s.A1 s.sheets.length s.c1, .slice s.A2 s.lics.length s.c2, .slice s.A3 s.makes.length s.c3, .slice s.A4 s.wishes.length s.c4], .int .i64 (bestS s)] W (Ret2 (.int .i64 0) (.int .i64 0) W) from by
        have := May16_any s (bestS s) W h1 h2; rw [may_zero hba, hba] at this; exact this))
      have HP := Lib.hid (fun (y : Nat) (hy : acceptedS s (y : Int) = 0) (W : World) (h1 : StoreAt W W.heap.size s) (h2 : Env W) => (show Calls Tryd.prog 23 #[.agg #[.slice s.A1 s.sheets.length s.c1, .slice s.A2 s.lics.length s.c2, .slice s.A3 s.makes.length s.c3, .slice s.A4 s.wishes.length s.c4], .int .i64 y] W (RetP (G s y, gainS s y (hiAt s)) 0 W) from by
        have := Profit23_any s y W h1 h2; rw [profit_zero hy, hy] at this; exact this))
      have HPb := Lib.hid (HP.out (bestS s) hba)
      have hn9 := ok.nw
      obtain ⟨P2, hP2⟩ : ∃ P2 : Nat, P2 = 2 ^ s.wishes.length := ⟨_, rfl⟩
      rw [← hP2] at sh hbl
      have HP2 := Lib.hid hP2
      have Hok := Lib.hid ok
      clear hP2 hba ok
      generalize hgb : G s (bestS s) = gb at *
      generalize gainS s (bestS s) (hiAt s) = gb2 at *
      generalize bestS s = b at *
      clear hgb
      have d1 : decide (gb < 0) = false := by simpa using hbp
      have d2 : decide ((b : Int) < 0) = false := by simp
      have d3 : decide (P2 ≤ b) = false := by simp; omega
      go_wp2_with fail
      refine (HA.out).mono ?_
      rintro e V3 ⟨rfl, hb⟩
      have K3 := Lib.hid (K2.out.next hb)
      have B3 := Lib.hid (B2.out.trans (hb.mono B2.out.size))
      clear hb K2 B2 p0 p1 p2 p3
      obtain ⟨-, -, -, p0, p1, p2, p3⟩ := id K3.out
      go_wp2_with fail
      clear HA
      refine (Store_any s V3 K3.out.st).mono ?_
      rintro e V4 ⟨rfl, hb⟩
      have K4 := Lib.hid (K3.out.next hb)
      have B4 := Lib.hid (B3.out.trans (hb.mono B3.out.size))
      clear hb K3 B3 p0 p1 p2 p3
      obtain ⟨-, -, -, p0, p1, p2, p3⟩ := id K4.out
      go_wp2_with fail
      clear d1 d2 d3 sh
      refine (HM.out V4 K4.out.st K4.out.en).mono ?_
      rintro e V5 ⟨rfl, hb⟩
      have K5 := Lib.hid (K4.out.next hb)
      have B5 := Lib.hid (B4.out.trans (hb.mono B4.out.size))
      clear hb K4 B4 p0 p1 p2 p3
      obtain ⟨-, -, -, p0, p1, p2, p3⟩ := id K5.out
      go_wp2_with fail
      refine (HPb.out V5 K5.out.st K5.out.en).mono ?_
      rintro e V6 ⟨rfl, hb⟩
      dsimp only
      have hz6 : V6.heap.size < (V6.alloc (.cells #[.int .i64 gb, .int .i64 gb2] 44)).heap.size := by simp
      replace hb := hb.alloc hb.size (.cells #[.int .i64 gb, .int .i64 gb2] 44)
      have K7 := Lib.hid (K5.out.next hb)
      have B7 := Lib.hid (B5.out.trans (hb.mono B5.out.size))
      clear hb K5 B5 p0 p1 p2 p3 HM HPb
      go_wp2
      generalize (V6.alloc (.cells #[.int .i64 gb, .int .i64 gb2] 44)) = V7 at *
      go_loopw [12, 13] (fun x k wr => R8 s w.heap.size w x k wr) (fun _ k _ => s.wishes.length - (intOf k).toNat)
      case atStart => exact ⟨0, 0, by omega, rfl, rfl, by decide, refused_zero s, K7.out, B7.out⟩
      case round =>
        clear K7 B7
        obtain ⟨k, x, hk, rfl, rfl, hx, href, hK, hB⟩ := hrel
        have KK := Lib.hid hK
        have BB := Lib.hid hB
        obtain ⟨-, -, hz, p0, p1, p2, p3⟩ := id hK
        clear hK hB
        by_cases hlt : k < s.wishes.length
        · have hk9 : k < 9 := by omega
          have hpk : 2 ^ k ≤ 2 ^ 9 := Nat.pow_le_pow_right (by omega) (by omega)
          obtain ⟨X, hX⟩ : ∃ X : Nat, X = x + 2 ^ k := ⟨_, rfl⟩
          have e2k : IntKind.i64.wrap ((2 : Int) ^ k) = ((2 ^ k : Nat) : Int) := by
            rw [show ((2 : Int) ^ k) = ((2 ^ k : Nat) : Int) by rw [Int.natCast_pow]; rfl]
            exact IntWalk.i64_in _ (by omega)
          have orE : bits BinOp.or IntKind.i64 (x : Int) (IntKind.i64.wrap (2 ^ k)) = (X : Int) := by
            rw [e2k, hX]; exact i64_or_add hx (by omega)
          have orE2 : bits BinOp.or IntKind.i64 (x : Int) (wrap64 (2 ^ k)) = (X : Int) := by
            have e3 : wrap64 ((2 : Int) ^ k) = ((2 ^ k : Nat) : Int) := by
              rw [show ((2 : Int) ^ k) = ((2 ^ k : Nat) : Int) by rw [Int.natCast_pow]; rfl]
              exact IntWalk.wrap64_in _ ⟨by omega, by omega⟩
            rw [e3, hX]; exact i64_or_add hx (by omega)
          have HOR := Lib.hid orE
          have HOR2 := Lib.hid orE2
          have hx2 := add_lt_pow hx
          rw [← hX] at hx2
          have hxn : X < 2 ^ s.wishes.length := Nat.lt_of_lt_of_le hx2 (Nat.pow_le_pow_right (by omega) (by omega))
          have HX2 := Lib.hid hx2
          have HXN := Lib.hid hxn
          have HX := Lib.hid hx
          have HREF := Lib.hid href
          clear orE orE2 e2k hX hx2 hxn hpk hx href
          go_wp2_with fail
          · exact ⟨⟨k + 1, x, by omega, by go_num, rfl, lt_pow_succ HX.out, HREF.out, KK.out, BB.out⟩, by simp [intOf]; omega⟩
          · skip
            refine wp_region_noPanic ?_
            refine wp_region_held_drew (S := (fun W => W.cell? ⟨w.heap.size, 0, none⟩ = some (.slice s.A1 s.sheets.length s.c1) ∧ W.cell? ⟨w.heap.size, 1, none⟩ = some (.slice s.A2 s.lics.length s.c2) ∧ W.cell? ⟨w.heap.size, 2, none⟩ = some (.slice s.A3 s.makes.length s.c3) ∧ W.cell? ⟨w.heap.size, 3, none⟩ = some (.slice s.A4 s.wishes.length s.c4))) (by kernel_rfl) ?_ (fun hHeld => ?_)
            · (try dsimp only); exact KK.out.bx.drew.four
            refine htake (i := 0) (v := ?v1) rfl (by kernel_rfl) (by kernel_rfl) (by kernel_rfl) (fun _ _ _ h => h) (Or.inl ⟨by rfl, ?hy1⟩) (by assumption) ?_
            case hy1 => (intro w hSw; (try dsimp only at hSw); go_simp; try (with_reducible rfl))
            try simp only [Act.put, List.setIfInBounds_toArray, List.set_cons_zero, List.set_cons_succ]
            refine htake (i := 1) (v := ?v2) rfl (by kernel_rfl) (by kernel_rfl) (by kernel_rfl) (fun _ _ _ h => h) (Or.inl ⟨by rfl, ?hy2⟩) (by assumption) ?_
            case hy2 => (intro w hSw; (try dsimp only at hSw); go_simp; try (with_reducible rfl))
            try simp only [Act.put, List.setIfInBounds_toArray, List.set_cons_zero, List.set_cons_succ]
            refine htake (i := 2) (v := ?v3) rfl (by kernel_rfl) (by kernel_rfl) (by kernel_rfl) (fun _ _ _ h => h) (Or.inl ⟨by rfl, ?hy3⟩) (by assumption) ?_
            case hy3 => (intro w hSw; (try dsimp only at hSw); go_simp; try (with_reducible rfl))
            try simp only [Act.put, List.setIfInBounds_toArray, List.set_cons_zero, List.set_cons_succ]
            refine htake (i := 3) (v := ?v4) rfl (by kernel_rfl) (by kernel_rfl) (by kernel_rfl) (fun _ _ _ h => h) (Or.inl ⟨by rfl, ?hy4⟩) (by assumption) ?_
            case hy4 => (intro w hSw; (try dsimp only at hSw); go_simp; try (with_reducible rfl))
            try simp only [Act.put, List.setIfInBounds_toArray, List.set_cons_zero, List.set_cons_succ]
            refine htake (i := 4) (v := ?v5) rfl (by kernel_rfl) (by kernel_rfl) (by kernel_rfl) (fun _ _ _ h => h) (Or.inl ⟨by rfl, ?hy5⟩) (by assumption) ?_
            case hy5 => (intro w hSw; (try dsimp only at hSw); go_simp; try (with_reducible rfl))
            try simp only [Act.put, List.setIfInBounds_toArray, List.set_cons_zero, List.set_cons_succ]
            refine wpAnyH_ready (rs := [5]) (by kernel_rfl) (by simp) ?_
            refine hcons rfl (fun K hK => ?_) (AllReadyH.nil)
            go_simp
            rw [HOR.out]; (with_reducible refine (May16_any s _ _ ?_ ?_).mono ?_); (exact KK.out.st.next (Below.refl _ _).drew); (exact KK.out.en.next (Below.refl _ _).drew); rintro e w2 ⟨rfl, hb2⟩; have hk2 : Below wr.heap.size wr w2 := (Below.refl _ _).drew.trans hb2
            refine hK.out _ _ ?_ (fun hHeld => ?_)
            · (try dsimp only); exact (KK.out.next hk2).bx.four
            clear hK K
            try simp only [Act.put, List.setIfInBounds_toArray, List.set_cons_zero, List.set_cons_succ]
            refine htake (i := 6) (v := ?v6) rfl (by kernel_rfl) (by kernel_rfl) (by kernel_rfl) (fun _ _ _ h => h) (Or.inl ⟨by rfl, ?hy6⟩) (by assumption) ?_
            case hy6 => (intro w hSw; (try dsimp only at hSw); go_simp; try (with_reducible rfl))
            try simp only [Act.put, List.setIfInBounds_toArray, List.set_cons_zero, List.set_cons_succ]
            refine htake (i := 7) (v := ?v7) rfl (by kernel_rfl) (by kernel_rfl) (by kernel_rfl) (fun _ _ _ h => h) (Or.inl ⟨by rfl, ?hy7⟩) (by assumption) ?_
            case hy7 => (intro w hSw; (try dsimp only at hSw); go_simp; try (with_reducible rfl))
            try simp only [Act.put, List.setIfInBounds_toArray, List.set_cons_zero, List.set_cons_succ]
            refine htake (i := 8) (v := ?v8) rfl (by kernel_rfl) (by kernel_rfl) (by kernel_rfl) (fun _ _ _ h => h) (Or.inl ⟨by rfl, ?hy8⟩) (by assumption) ?_
            case hy8 => (intro w hSw; (try dsimp only at hSw); go_simp; try (with_reducible rfl))
            try simp only [Act.put, List.setIfInBounds_toArray, List.set_cons_zero, List.set_cons_succ]
            refine htake (i := 9) (v := ?v9) rfl (by kernel_rfl) (by kernel_rfl) (by kernel_rfl) (fun _ _ _ h => h) (Or.inl ⟨by rfl, ?hy9⟩) (by assumption) ?_
            case hy9 => (intro w hSw; (try dsimp only at hSw); go_simp; try (with_reducible rfl))
            try simp only [Act.put, List.setIfInBounds_toArray, List.set_cons_zero, List.set_cons_succ]
            refine htake (i := 10) (v := ?v10) rfl (by kernel_rfl) (by kernel_rfl) (by kernel_rfl) (fun _ _ _ h => h) (Or.inl ⟨by rfl, ?hy10⟩) (by assumption) ?_
            case hy10 => (intro w hSw; (try dsimp only at hSw); go_simp; try (with_reducible rfl))
            try simp only [Act.put, List.setIfInBounds_toArray, List.set_cons_zero, List.set_cons_succ]
            refine wpAnyH_done (by kernel_rfl) ?_ _
            refine NoPanic.normal ?_
            iterate 12 (try clear hHeld)
            have K2 := Lib.hid (KK.out.next hk2)
            have B2 := Lib.hid (BB.out.trans (hk2.mono BB.out.size))
            clear hk2 hb2 p0 p1 p2 p3
            generalize mayS s (X : Int) = my at *
            by_cases hac : acceptedS s (X : Int) = 0
            · have href2 := Lib.hid ((accepted_zero Hok.out HXN.out).1 hac)
              rw [hac]
              clear hac
              go_wp2
              exact ⟨⟨k + 1, X, by omega, by go_num, by rw [HOR2.out], HX2.out, href2.out, K2.out, B2.out⟩, by simp [intOf]; omega⟩
            · have hne : (acceptedS s (X : Int) == 0) = false := by simpa using hac
              generalize acceptedS s (X : Int) = ac at *
              go_wp2
              exact ⟨⟨k + 1, x, by omega, by go_num, rfl, lt_pow_succ HX.out, HREF.out, K2.out, B2.out⟩, by simp [intOf]; omega⟩
        · have e : k = s.wishes.length := by omega
          subst e
          have hax : acceptedS s (x : Int) = 0 := (accepted_zero Hok.out hx).2 href
          have HB2 := Lib.hid (HBG.out x hx href)
          have HPx := Lib.hid (HP.out x hax)
          clear hx href hax HP HBG
          generalize G s x = gx at *
          generalize gainS s x (hiAt s) = gx2 at *
          go_wp2_with fail
          refine (HPx.out wr KK.out.st KK.out.en).mono ?_
          rintro e V8 ⟨rfl, hb⟩
          dsimp only
          have hz8 : V8.heap.size < (V8.alloc (.cells #[.int .i64 gx, .int .i64 gx2] 44)).heap.size := by simp
          replace hb := hb.alloc hb.size (.cells #[.int .i64 gx, .int .i64 gx2] 44)
          have K9 := Lib.hid (KK.out.next hb)
          have B9 := Lib.hid (BB.out.trans (hb.mono BB.out.size))
          clear hb KK BB p0 p1 p2 p3 HPx
          rcases HB2.out with h1 | ⟨h1, h2⟩
          · have d1 : decide (gx ≤ gb) = true := by simp; omega
            have d2 : decide (gx < gb) = true := by simpa using h1
            clear h1 HB2
            go_wp2_with fail
            refine (awake_any _ K9.out.en).mono ?_
            rintro e V10 ⟨rfl, hb⟩
            have B10 := Lib.hid (B9.out.trans (hb.mono B9.out.size))
            clear hb K9 B9
            go_wp2
            go_ret
            exact ⟨rfl, B10.out⟩
          · have d1 : decide (gx ≤ gb) = true := by simp; omega
            have d2 : decide (gx < gb) = false := by simp; omega
            have d3 : decide (b ≤ x) = true := by simp; omega
            clear h1 h2 HB2
            go_wp2_with fail
            refine (awake_any _ K9.out.en).mono ?_
            rintro e V10 ⟨rfl, hb⟩
            have B10 := Lib.hid (B9.out.trans (hb.mono B9.out.size))
            clear hb K9 B9
            go_wp2
            go_ret
            exact ⟨rfl, B10.out⟩
  · go_wp2_with fail
    refine (awake_any V2 K2.out.en).mono ?_
    rintro e V3 ⟨rfl, hb⟩
    have HB3 := Lib.hid (B2.out.trans (hb.mono B2.out.size))
    clear hb
    go_wp2
    go_ret
    exact ⟨rfl, HB3.out⟩
end Go.Proofs.YtfffhbolaimmdaaDoor
