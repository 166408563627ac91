import Derived.Test.YtkcfpnpejaekjaaDoorP3
import Derived.Deep.Cut
namespace Go.Proofs.YtkcfpnpejaekjaaDoor
open Go.RowKit
/-! The program: Window. -/
theorem win_eq1 : Tryd.prog.underlying 63 = some (.struct (Tryd.prog.fieldsOf 63)) := by kernel_rfl
theorem win_eq2 : Tryd.prog.stoodInHeld 63 = false := by kernel_rfl
theorem win_eql (x1 x2 y1 y2 : Int) (W : World) : (binOp .eql 63 (.agg #[.int .i64 x1, .int .i64 x2]) (.agg #[.int .i64 y1, .int .i64 y2])).run Tryd.prog W = .ok (.bool (x1 == y1 && x2 == y2)) W := by
  rw [run_eql_struct, run_equalIn_struct _ _ _ _ _ win_eq1 win_eq2]
  simp [Op.eqFields, go_sem]
  by_cases h1 : x1 = y1 <;> by_cases h2 : x2 = y2 <;> simp [h1, h2]
set_option maxHeartbeats 1000000 in
theorem Window_any (m : Mt) (p : Int) (w : World) (hr : TaleAt w w.heap.size m) : Calls Tryd.prog 16 #[.agg #[.int .i64 m.t.n, .slice m.A1 m.t.loans.length m.c1, .slice m.A2 m.t.looks.length m.c2, .slice m.A3 m.t.admits.length m.c3], .int .i64 p] w (Ret (retWin (winS m.t p)) w) := by
  have b0 := nxA w (.cells #[.int .i64 m.t.n, .slice m.A1 m.t.loans.length m.c1, .slice m.A2 m.t.looks.length m.c2, .slice m.A3 m.t.admits.length m.c3] 26)
  have x0 := Bx.new w #[.int .i64 m.t.n, .slice m.A1 m.t.loans.length m.c1, .slice m.A2 m.t.looks.length m.c2, .slice m.A3 m.t.admits.length m.c3] 26
  have b1 := nxA (w.alloc (.cells #[.int .i64 m.t.n, .slice m.A1 m.t.loans.length m.c1, .slice m.A2 m.t.looks.length m.c2, .slice m.A3 m.t.admits.length m.c3] 26)) (.cells #[.int .i64 0, .int .i64 0] 33)
  have z0 := Bx.new (w.alloc (.cells #[.int .i64 m.t.n, .slice m.A1 m.t.loans.length m.c1, .slice m.A2 m.t.looks.length m.c2, .slice m.A3 m.t.admits.length m.c3] 26)) #[.int .i64 0, .int .i64 0] 33
  rw [World.size_alloc] at z0
  have B0 := Lib.hid (b0.trans (b1.mono b0.size))
  have HX := Lib.hid (x0.next b1)
  have HZ := Lib.hid z0
  have HR := Lib.hid (hr.next B0.out)
  clear hr b0 x0 b1 z0
  have HD := Lib.hid (show winS m.t p = if okTale m.t = false then ⟨0, 0, false, 1⟩ else if inS p 0 (m.t.n - 1) = false then ⟨0, 0, false, 2⟩ else
    if goneS m.t.looks p.toNat ≤ seenS m.t.looks p.toNat then ⟨0, 0, false, 6⟩ else if seenS m.t.looks p.toNat = mxH then ⟨0, 0, false, 0⟩ else
    ⟨seenS m.t.looks p.toNat, min (goneS m.t.looks p.toNat) mxH - 1, decide (goneS m.t.looks p.toNat ≤ mxH), 0⟩ from rfl)
  go_enter Tryd.func16, Tryd.ntmps16
  go_wp2_with fail
  generalize (w.alloc (.cells #[.int .i64 m.t.n, .slice m.A1 m.t.loans.length m.c1, .slice m.A2 m.t.looks.length m.c2, .slice m.A3 m.t.admits.length m.c3] 26)).alloc (.cells #[.int .i64 0, .int .i64 0] 33) = V at *
  refine (isTale_any m _ HR.out).mono ?_
  rintro e w1 ⟨rfl, hb1⟩
  have B1 := Lib.hid (B0.out.trans (hb1.mono B0.out.size))
  have X1 := Lib.hid (HX.out.next hb1)
  have Z1 := Lib.hid (HZ.out.next hb1)
  have R1 := Lib.hid (HR.out.next hb1)
  have c0 := X1.out.c 0 _ rfl
  have c1 := X1.out.c 1 _ rfl
  have c2 := X1.out.c 2 _ rfl
  have c3 := X1.out.c 3 _ rfl
  have hz := X1.out.lt
  have z0 := Z1.out.c 0 _ rfl
  have z1 := Z1.out.c 1 _ rfl
  have f0 := Z1.out.fr 0
  have f1 := Z1.out.fr 1
  clear hb1
  cases ht : okTale m.t
  · go_wp2
    (try simp only [Exit.inBlock, Exit.then])
    refine bodyPost_ret (results_cell3 rfl rfl (loadSp (Z1.out.setAll [.int .i64 0, .int .i64 0] rfl))) rfl ?_
    exact ⟨by rw [HD.out, ht]; rfl, below_setCells (b := w.heap.size + 1) (by omega) [.int .i64 0, .int .i64 0] 0 B1.out⟩
  · have OK := Lib.hid (okT_of ht)
    have hn1 := OK.out.n1
    have hn2 := OK.out.n2
    have hw : IntKind.i64.wrap (m.t.n - 1) = m.t.n - 1 := IntWalk.i64_in _ (by omega)
    cases hi : inS p 0 (m.t.n - 1)
    · go_wp2_with (go_at_call 31; (with_reducible refine (within_any _ _ _ _).mono ?_); rintro e w' ⟨rfl, rfl⟩)
      (try simp only [Exit.inBlock, Exit.then])
      refine bodyPost_ret (results_cell3 rfl rfl (loadSp (Z1.out.setAll [.int .i64 0, .int .i64 0] rfl))) rfl ?_
      exact ⟨by rw [HD.out, ht, hi]; rfl, below_setCells (b := w.heap.size + 1) (by omega) [.int .i64 0, .int .i64 0] 0 B1.out⟩
    · have hip := inS_iff.1 hi
      obtain ⟨q, hq⟩ : ∃ q : Nat, p = q := ⟨p.toNat, by omega⟩
      subst hq
      have HQ := Lib.hid (show ((q : Int)).toNat = q by omega)
      have hq62 : q ≤ 62 := by omega
      have hs1 := seenS_nonneg m.t.looks q
      have hs2 := seenS_le (l := m.t.looks) (k := q) fun x hx => (OK.out.look x hx).1.2
      have hg1 := goneS_le m.t.looks q
      have hg2 := goneS_nonneg (l := m.t.looks) (k := q) fun x hx => (OK.out.look x hx).1.1
      go_wp2_with (first | (go_at_call 31; (with_reducible refine (within_any _ _ _ _).mono ?_); rintro e w' ⟨rfl, rfl⟩) | fail)
      refine (windowOf_any m.A2 m.c2 m.t.looks m.t.n.toNat q _ R1.out.lk R1.out.l2 (fun x hx => ⟨(OK.out.look x hx).2.1, (OK.out.look x hx).2.2.1⟩) (by omega) hq62).mono ?_
      rintro e w2 ⟨rfl, hb2⟩
      have B2 := B1.out.trans (hb2.mono B1.out.size)
      have Z2 := Z1.out.next hb2
      have HD2 := Lib.hid (show winS m.t q = if goneS m.t.looks q ≤ seenS m.t.looks q then ⟨0, 0, false, 6⟩ else if seenS m.t.looks q = mxH then ⟨0, 0, false, 0⟩ else
        ⟨seenS m.t.looks q, min (goneS m.t.looks q) mxH - 1, decide (goneS m.t.looks q ≤ mxH), 0⟩ from by rw [HD.out, ht, hi, HQ.out]; rfl)
      clear hb2 HD
      generalize seenS m.t.looks q = sv at *
      generalize goneS m.t.looks q = gv at *
      have n3 := nxA w2 (.cells #[.int .i64 sv, .int .i64 gv] 63)
      have y3 := Bx.new w2 #[.int .i64 sv, .int .i64 gv] 63
      have hzz := Z2.lt
      have B3 := Lib.hid (B2.trans (n3.mono B2.size))
      have Z3 := Lib.hid (Z2.next n3)
      have Y3 := Lib.hid y3
      clear B2 Z2 n3 y3 z0 z1 f0 f1 c0 c1 c2 c3
      go_wp2_with fail
      generalize w2.alloc (.cells #[.int .i64 sv, .int .i64 gv] 63) = V3 at *
      refine (isEmpty_any sv gv _).mono ?_
      rintro e w4 ⟨rfl, hb4⟩
      have B4 := Lib.hid (B3.out.trans (hb4.mono B3.out.size))
      have Z4 := Lib.hid (Z3.out.next hb4)
      have Y4 := Lib.hid (Y3.out.next hb4)
      obtain ⟨gw, hgw⟩ : ∃ gw, gw = w2.heap.size := ⟨_, rfl⟩
      rw [← hgw] at Y4 ⊢
      have z0 := Z4.out.c 0 _ rfl
      have z1 := Z4.out.c 1 _ rfl
      have f0 := Z4.out.fr 0
      have f1 := Z4.out.fr 1
      have y0 := Y4.out.c 0 _ rfl
      have y1 := Y4.out.c 1 _ rfl
      have hne : ¬ gw = w.heap.size + 1 := by omega
      clear hb4 hgw
      by_cases h1 : gv ≤ sv
      · have d1 : decide (gv ≤ sv) = true := decide_eq_true h1
        rw [d1]
        go_wp2
        (try simp only [Exit.inBlock, Exit.then])
        refine bodyPost_ret (results_cell3 rfl rfl (loadSp (Z4.out.setAll [.int .i64 0, .int .i64 0] rfl))) rfl ?_
        exact ⟨by rw [HD2.out, if_pos h1]; rfl, below_setCells (b := w.heap.size + 1) (by omega) [.int .i64 0, .int .i64 0] 0 B4.out⟩
      · have d1 : decide (gv ≤ sv) = false := decide_eq_false h1
        rw [d1]
        have H1 := Lib.hid h1
        clear d1
        have hwe := win_eql sv gv 1048576 1048577
        by_cases h2 : sv = 1048576
        · have d2 : (sv == 1048576 && gv == 1048577) = true := by rw [h2, show gv = 1048577 by have : mxH = 1048576 := rfl; omega]; rfl
          rw [d2] at hwe
          have H2 := Lib.hid h2
          clear h1 h2 d2
          go_wp2
          (try simp only [Exit.inBlock, Exit.then])
          refine bodyPost_ret (results_cell3 rfl rfl (loadSp (Z4.out.setAll [.int .i64 0, .int .i64 0] rfl))) rfl ?_
          exact ⟨by rw [HD2.out, if_neg (show ¬ gv ≤ sv by have := H1.out; omega), if_pos H2.out]; rfl, below_setCells (b := w.heap.size + 1) (by omega) [.int .i64 0, .int .i64 0] 0 B4.out⟩
        · have d2 : (sv == 1048576 && gv == 1048577) = false := by rw [show (sv == 1048576) = false by simpa using h2]; rfl
          rw [d2] at hwe
          have H2 := Lib.hid h2
          clear h1 h2 d2
          go_upto_region 10 with fail
          refine wp_region_noPanic ?_
          refine wp_region_held_drew (S := (fun W => W.cell? ⟨gw, 0, none⟩ = some (.int .i64 sv) ∧ W.cell? ⟨gw, 1, none⟩ = some (.int .i64 gv))) (by kernel_rfl) ?_ (fun hHeld => ?_)
          · (try dsimp only); exact ⟨by go_simp, by go_simp⟩
          refine htake (i := 0) (v := ?v1) rfl (by kernel_rfl) (by kernel_rfl) (by kernel_rfl) (fun _ _ _ h => h) (Or.inl ⟨by rfl, ?hy1⟩) (by assumption) ?_
          case hy1 => (intro w hSw; (try dsimp only at hSw); go_simp; try (with_reducible rfl))
          try simp only [Act.put, List.setIfInBounds_toArray, List.set_cons_zero, List.set_cons_succ]
          refine htake (i := 1) (v := ?v2) rfl (by kernel_rfl) (by kernel_rfl) (by kernel_rfl) (fun _ _ _ h => h) (Or.inl ⟨by rfl, ?hy2⟩) (by assumption) ?_
          case hy2 => (intro w hSw; (try dsimp only at hSw); go_simp; try (with_reducible rfl))
          try simp only [Act.put, List.setIfInBounds_toArray, List.set_cons_zero, List.set_cons_succ]
          refine htake (i := 2) (v := ?v3) rfl (by kernel_rfl) (by kernel_rfl) (by kernel_rfl) (fun _ _ _ h => h) (Or.inl ⟨by rfl, ?hy3⟩) (by assumption) ?_
          case hy3 => (intro w hSw; (try dsimp only at hSw); go_simp; try (with_reducible rfl))
          try simp only [Act.put, List.setIfInBounds_toArray, List.set_cons_zero, List.set_cons_succ]
          refine htake (i := 3) (v := ?v4) rfl (by kernel_rfl) (by kernel_rfl) (by kernel_rfl) (fun _ _ _ h => h) (Or.inl ⟨by rfl, ?hy4⟩) (by assumption) ?_
          case hy4 => (intro w hSw; (try dsimp only at hSw); go_simp; try (with_reducible rfl))
          try simp only [Act.put, List.setIfInBounds_toArray, List.set_cons_zero, List.set_cons_succ]
          refine htake (i := 4) (v := ?v5) rfl (by kernel_rfl) (by kernel_rfl) (by kernel_rfl) (fun _ _ _ h => h) (Or.inl ⟨by rfl, ?hy5⟩) (by assumption) ?_
          case hy5 => (intro w hSw; (try dsimp only at hSw); go_simp; try (with_reducible rfl))
          try simp only [Act.put, List.setIfInBounds_toArray, List.set_cons_zero, List.set_cons_succ]
          refine htake (i := 5) (v := ?v6) rfl (by kernel_rfl) (by kernel_rfl) (by kernel_rfl) (fun _ _ _ h => h) (Or.inl ⟨by rfl, ?hy6⟩) (by assumption) ?_
          case hy6 => (intro w hSw; (try dsimp only at hSw); go_simp; try (with_reducible rfl))
          try simp only [Act.put, List.setIfInBounds_toArray, List.set_cons_zero, List.set_cons_succ]
          refine htake (i := 6) (v := ?v7) rfl (by kernel_rfl) (by kernel_rfl) (by kernel_rfl) (fun _ _ _ h => h) (Or.inl ⟨by rfl, ?hy7⟩) (by assumption) ?_
          case hy7 => (intro w hSw; (try dsimp only at hSw); go_simp; try (with_reducible rfl))
          try simp only [Act.put, List.setIfInBounds_toArray, List.set_cons_zero, List.set_cons_succ]
          refine htake (i := 7) (v := ?v8) rfl (by kernel_rfl) (by kernel_rfl) (by kernel_rfl) (fun _ _ _ h => h) (Or.inl ⟨by rfl, ?hy8⟩) (by assumption) ?_
          case hy8 => (intro w hSw; (try dsimp only at hSw); go_simp; try (with_reducible rfl))
          try simp only [Act.put, List.setIfInBounds_toArray, List.set_cons_zero, List.set_cons_succ]
          refine htake (i := 8) (v := ?v9) rfl (by kernel_rfl) (by kernel_rfl) (by kernel_rfl) (fun _ _ _ h => h) (Or.inl ⟨by rfl, ?hy9⟩) (by assumption) ?_
          case hy9 => (intro w hSw; (try dsimp only at hSw); go_simp; try (with_reducible rfl))
          try simp only [Act.put, List.setIfInBounds_toArray, List.set_cons_zero, List.set_cons_succ]
          refine htake (i := 9) (v := ?v10) rfl (by kernel_rfl) (by kernel_rfl) (by kernel_rfl) (fun _ _ _ h => h) (Or.inl ⟨by rfl, ?hy10⟩) (by assumption) ?_
          case hy10 => (intro w hSw; (try dsimp only at hSw); go_simp; try (with_reducible rfl))
          try simp only [Act.put, List.setIfInBounds_toArray, List.set_cons_zero, List.set_cons_succ]
          refine wpAnyH_ready (rs := [10]) (by kernel_rfl) (by simp) ?_
          refine hcons rfl (fun K hK => ?_) (AllReadyH.nil)
          go_simp
          refine hK.out _ _ ?_ (fun hHeld => ?_)
          · (try dsimp only); exact ⟨by go_simp, by go_simp⟩
          clear hK K
          try simp only [Act.put, List.setIfInBounds_toArray, List.set_cons_zero, List.set_cons_succ]
          refine htake (i := 11) (v := ?v11) rfl (by kernel_rfl) (by kernel_rfl) (by kernel_rfl) (fun _ _ _ h => h) (Or.inl ⟨by rfl, ?hy11⟩) (by assumption) ?_
          case hy11 => (intro w hSw; (try dsimp only at hSw); go_simp; try (with_reducible rfl))
          try simp only [Act.put, List.setIfInBounds_toArray, List.set_cons_zero, List.set_cons_succ]
          refine htake (i := 12) (v := ?v12) rfl (by kernel_rfl) (by kernel_rfl) (by kernel_rfl) (fun _ _ _ h => h) (Or.inl ⟨by rfl, ?hy12⟩) (by assumption) ?_
          case hy12 => (intro w hSw; (try dsimp only at hSw); go_simp; try (with_reducible rfl))
          try simp only [Act.put, List.setIfInBounds_toArray, List.set_cons_zero, List.set_cons_succ]
          refine wpAnyH_done (by kernel_rfl) ?_ _
          refine NoPanic.normal ?_
          obtain ⟨hv, hhv⟩ : ∃ hv, hv = IntKind.i64.wrap ((if 1048576 < gv then 1048576 else gv) - 1) := ⟨_, rfl⟩
          rw [← hhv]
          have HV := Lib.hid (show hv = min gv 1048576 - 1 from by
            have : mxH = 1048576 := rfl
            rw [hhv, show (if 1048576 < gv then 1048576 else gv) = min gv 1048576 by split <;> omega, IntKind.wrap_i64]; omega)
          have HG := Lib.hid (show (gv != 1048577) = decide (gv ≤ 1048576) from by
            have : mxH = 1048576 := rfl
            rw [Bool.eq_iff_iff]; simp; omega)
          clear hhv
          generalize (if 1048576 < gv then 1048576 else gv) = mn
          have HF := Lib.hid (Z4.out.setAll [.int .i64 sv, .int .i64 hv] rfl).drew
          go_wp2
          (try simp only [Exit.inBlock, Exit.then])
          refine bodyPost_ret (results_cell3 rfl rfl (loadSp HF.out)) rfl ?_
          refine ⟨?_, (below_setCells (b := w.heap.size + 1) (by omega) [.int .i64 sv, .int .i64 hv] 0 B4.out).drew⟩
          rw [HD2.out, if_neg (show ¬ gv ≤ sv by have := H1.out; omega), if_neg H2.out, HV.out]
          show Ending.returned (Value.tuple #[Value.agg #[Value.int .i64 sv, Value.int .i64 (min gv 1048576 - 1)], Value.bool (gv != 1048577), Value.int .i64 0]) = Ending.returned (Value.tuple #[Value.agg #[Value.int .i64 sv, Value.int .i64 (min gv 1048576 - 1)], Value.bool (decide (gv ≤ 1048576)), Value.int .i64 0])
          rw [HG.out]
end Go.Proofs.YtkcfpnpejaekjaaDoor
