import Derived.Test.YtonnemkecppmiaaGreatDoorP2
namespace Go.Proofs.YtonnemkecppmiaaGreatDoor
open Go.RowKit
/-! The program: is it a drawing? -/
/-- A drawing, and where its pieces lie. -/
structure Mp where
  d : Pu
  A : Option Addr
  c : Nat
structure PuAt (w : World) (B : Nat) (m : Mp) : Prop where
  pc : At w B 28 Pc.cells m.A m.d.pieces
  l1 : m.d.pieces.length ≤ 9223372036854775807
  k1 : m.d.pieces.length ≤ m.c
theorem PuAt.next {w w' : World} {m : Mp} (h : PuAt w w.heap.size m) (hb : Below w.heap.size w w') : PuAt w' w'.heap.size m := ⟨h.pc.next hb, h.l1, h.k1⟩
def Mp.cells (m : Mp) : List Value := [.int .i64 m.d.play.len, .int .i64 m.d.play.slack, .int .i64 m.d.play.loose, .int .i64 m.d.play.damp.lo, .int .i64 m.d.play.damp.hi, .int .i64 m.d.wide, .int .i64 m.d.high, .bool m.d.turn, .slice m.A m.d.pieces.length m.c]
def pyC (p : Py) : List Value := [.int .i64 p.len, .int .i64 p.slack, .int .i64 p.loose, .int .i64 p.damp.lo, .int .i64 p.damp.hi]
def sizesB (d : Pu) : Bool := inP d.pieces.length 1 9 && (inP d.wide 1 d.pieces.length && (inP d.high 1 d.pieces.length && decide (d.wide * d.high = d.pieces.length)))
def playB (p : Py) : Bool := inP p.len 1 10000 && (inP p.slack 0 500 && inP p.loose 0 500)
theorem okPu_parts (d : Pu) : okPu d = (sizesB d && (playB d.play && (okSp d.play.damp 0 100 && okPcs d.pieces))) := by
  unfold okPu sizesB playB okPy
  simp only [Bool.and_assoc]
set_option maxRecDepth 100000 in
set_option maxHeartbeats 2000000 in
theorem isDrawing_any (m : Mp) (w : World) (hr : PuAt w w.heap.size m) : Calls Tryz.prog 34 #[.agg #[.int .i64 m.d.play.len, .int .i64 m.d.play.slack, .int .i64 m.d.play.loose, .int .i64 m.d.play.damp.lo, .int .i64 m.d.play.damp.hi, .int .i64 m.d.wide, .int .i64 m.d.high, .bool m.d.turn, .slice m.A m.d.pieces.length m.c]] w (Ret (.bool (okPu m.d)) w) := by
  have HX := Lib.hid (Bx.new w #[.int .i64 m.d.play.len, .int .i64 m.d.play.slack, .int .i64 m.d.play.loose, .int .i64 m.d.play.damp.lo, .int .i64 m.d.play.damp.hi, .int .i64 m.d.wide, .int .i64 m.d.high, .bool m.d.turn, .slice m.A m.d.pieces.length m.c] 28)
  have HB := Lib.hid (nxA w (.cells #[.int .i64 m.d.play.len, .int .i64 m.d.play.slack, .int .i64 m.d.play.loose, .int .i64 m.d.play.damp.lo, .int .i64 m.d.play.damp.hi, .int .i64 m.d.wide, .int .i64 m.d.high, .bool m.d.turn, .slice m.A m.d.pieces.length m.c] 28))
  have HR := Lib.hid (hr.next HB.out)
  have HPA := Lib.hid (okPu_parts m.d)
  have hl1 := hr.l1
  clear hr
  go_enter Tryz.func34, Tryz.ntmps34
  go_upto_region 1 with fail
  generalize (w.alloc (.cells #[.int .i64 m.d.play.len, .int .i64 m.d.play.slack, .int .i64 m.d.play.loose, .int .i64 m.d.play.damp.lo, .int .i64 m.d.play.damp.hi, .int .i64 m.d.wide, .int .i64 m.d.high, .bool m.d.turn, .slice m.A m.d.pieces.length m.c] 28)) = V at *
  obtain ⟨b, hb⟩ : ∃ b, b = w.heap.size := ⟨_, rfl⟩
  rw [← hb] at HX ⊢
  have hbV : b < V.heap.size := HX.out.lt
  clear hb
  have HS := Lib.hid (show ∀ W : World, Below V.heap.size V W → (W.cell? ⟨b, 0, none⟩ = some (.int .i64 m.d.play.len) ∧ W.cell? ⟨b, 1, none⟩ = some (.int .i64 m.d.play.slack) ∧ W.cell? ⟨b, 2, none⟩ = some (.int .i64 m.d.play.loose) ∧ W.cell? ⟨b, 3, none⟩ = some (.int .i64 m.d.play.damp.lo) ∧ W.cell? ⟨b, 4, none⟩ = some (.int .i64 m.d.play.damp.hi) ∧ W.cell? ⟨b, 8, none⟩ = some (.slice m.A m.d.pieces.length m.c)) from fun W h => ⟨(HX.out.next h).c 0 _ rfl, (HX.out.next h).c 1 _ rfl, (HX.out.next h).c 2 _ rfl, (HX.out.next h).c 3 _ rfl, (HX.out.next h).c 4 _ rfl, (HX.out.next h).c 8 _ rfl⟩)
  go_cut [3, 4] (fun p n wx => ∃ g, p = .pointer (some ⟨g, 0, none⟩) ∧ n = .int .i64 (m.d.pieces.length : Int) ∧ Below V.heap.size V wx ∧ Bx wx g (pyC m.d.play))
  case first =>
    refine wp_region_noPanic ?_
    refine wp_region_held_drew (S := (fun W => W.cell? ⟨b, 0, none⟩ = some (.int .i64 m.d.play.len) ∧ W.cell? ⟨b, 1, none⟩ = some (.int .i64 m.d.play.slack) ∧ W.cell? ⟨b, 2, none⟩ = some (.int .i64 m.d.play.loose) ∧ W.cell? ⟨b, 3, none⟩ = some (.int .i64 m.d.play.damp.lo) ∧ W.cell? ⟨b, 4, none⟩ = some (.int .i64 m.d.play.damp.hi) ∧ W.cell? ⟨b, 8, none⟩ = some (.slice m.A m.d.pieces.length m.c))) (by kernel_rfl) ?_ (fun hHeld => ?_)
    · (try dsimp only); exact HS.out _ (Below.refl _ _).drew
    refine htake (i := 0) (v := ?v1) rfl (by kernel_rfl) (by kernel_rfl) (by kernel_rfl) (fun _ _ _ h => h) (Or.inl ⟨by rfl, ?hy1⟩) (by assumption) ?_
    case hy1 => (intro w hSw; (try dsimp only at hSw); go_simp; try (with_reducible rfl))
    try simp only [Act.put, List.setIfInBounds_toArray, List.set_cons_zero, List.set_cons_succ]
    refine htake (i := 1) (v := ?v2) rfl (by kernel_rfl) (by kernel_rfl) (by kernel_rfl) (fun _ _ _ h => h) (Or.inl ⟨by rfl, ?hy2⟩) (by assumption) ?_
    case hy2 => (intro w hSw; (try dsimp only at hSw); go_simp; try (with_reducible rfl))
    try simp only [Act.put, List.setIfInBounds_toArray, List.set_cons_zero, List.set_cons_succ]
    refine htake (i := 2) (v := ?v3) rfl (by kernel_rfl) (by kernel_rfl) (by kernel_rfl) (fun _ _ _ h => h) (Or.inl ⟨by rfl, ?hy3⟩) (by assumption) ?_
    case hy3 => (intro w hSw; (try dsimp only at hSw); go_simp; try (with_reducible rfl))
    try simp only [Act.put, List.setIfInBounds_toArray, List.set_cons_zero, List.set_cons_succ]
    refine htake (i := 3) (v := ?v4) rfl (by kernel_rfl) (by kernel_rfl) (by kernel_rfl) (fun _ _ _ h => h) (Or.inl ⟨by rfl, ?hy4⟩) (by assumption) ?_
    case hy4 => (intro w hSw; (try dsimp only at hSw); go_simp; try (with_reducible rfl))
    try simp only [Act.put, List.setIfInBounds_toArray, List.set_cons_zero, List.set_cons_succ]
    refine htake (i := 4) (v := ?v5) rfl (by kernel_rfl) (by kernel_rfl) (by kernel_rfl) (fun _ _ _ h => h) (Or.inl ⟨by rfl, ?hy5⟩) (by assumption) ?_
    case hy5 => (intro w hSw; (try dsimp only at hSw); go_simp; try (with_reducible rfl))
    try simp only [Act.put, List.setIfInBounds_toArray, List.set_cons_zero, List.set_cons_succ]
    refine wpAnyH_ready (rs := [5]) (by kernel_rfl) (by simp) ?_
    refine hcons rfl (fun K hK => ?_) (AllReadyH.nil)
    go_simp
    (first | refine hold_alloc (fun wb hq1 hq2 hq3 => ?_) | refine hold_alloc_drew (fun wb hq1 hq2 hq3 => ?_)); have hwb : Below V.heap.size V wb := (by first | exact hq1 | exact (Below.refl _ _).drew.trans hq1); have hxb : Bx wb V.heap.size [.int .i64 0, .int .i64 0, .int .i64 0, .int .i64 0, .int .i64 0] := hq2; clear hq1 hq2 hq3
    refine hK.out _ _ ?_ (fun hHeld => ?_)
    · (try dsimp only); exact HS.out _ hwb
    clear hK K
    try simp only [Act.put, List.setIfInBounds_toArray, List.set_cons_zero, List.set_cons_succ]
    refine wpAnyH_ready (rs := [6]) (by kernel_rfl) (by simp) ?_
    refine hcons rfl (fun K hK => ?_) (AllReadyH.nil)
    have z0 := hxb.c 0 _ rfl; have z1 := hxb.c 1 _ rfl; have z2 := hxb.c 2 _ rfl; have z3 := hxb.c 3 _ rfl; have z4 := hxb.c 4 _ rfl; have y0 := hxb.fr 0; have y1 := hxb.fr 1; have y2 := hxb.fr 2; have y3 := hxb.fr 3; have y4 := hxb.fr 4; go_simp; clear z0 z1 z2 z3 z4 y0 y1 y2 y3 y4
    refine hK.out _ _ ?_ (fun hHeld => ?_)
    · (try dsimp only); exact HS.out _ (below_setCells (b := V.heap.size) (Nat.le_refl _) (pyC m.d.play) 0 hwb)
    clear hK K
    try simp only [Act.put]
    refine htake (i := 7) (v := ?v6) rfl (by kernel_rfl) (by kernel_rfl) (by kernel_rfl) (fun _ _ _ h => h) (Or.inl ⟨by rfl, ?hy6⟩) (by assumption) ?_
    case hy6 => (intro w hSw; (try dsimp only at hSw); go_simp; try (with_reducible rfl))
    try simp only [Act.put, List.setIfInBounds_toArray, List.set_cons_zero, List.set_cons_succ]
    refine wpAnyH_done (by kernel_rfl) ?_ _
    refine NoPanic.normal ?_
    iterate 9 (try clear hHeld)
    all_goals (go_wp2_with fail; go_meet)
    all_goals (exact ⟨_, rfl, rfl, below_setCells (b := V.heap.size) (Nat.le_refl _) (pyC m.d.play) 0 hwb, hxb.setAll (pyC m.d.play) rfl⟩)
  case rest =>
    obtain ⟨g, rfl, rfl, hbw, hgx⟩ := hcut
    clear HS
    have HX2 := Lib.hid (HX.out.next hbw)
    have HR2 := Lib.hid (HR.out.next hbw)
    have HB2 := Lib.hid (HB.out.trans (hbw.mono HB.out.size))
    have GX := Lib.hid hgx
    clear hbw hgx
    have c5 := HX2.out.c 5 _ rfl
    have c6 := HX2.out.c 6 _ rfl
    have c8 := HX2.out.c 8 _ rfl
    have p0 := GX.out.c 0 _ rfl
    have p1 := GX.out.c 1 _ rfl
    have p2 := GX.out.c 2 _ rfl
    have p3 := GX.out.c 3 _ rfl
    have p4 := GX.out.c 4 _ rfl
    go_upto_region 2 with fail
    go_cut [5] (fun s wx => s = .bool (sizesB m.d) ∧ wx = wc)
    case first =>
      have hsz : sizesB m.d = (inP m.d.pieces.length 1 9 && (inP m.d.wide 1 m.d.pieces.length && (inP m.d.high 1 m.d.pieces.length && decide (m.d.wide * m.d.high = m.d.pieces.length)))) := rfl
      have HSZ := Lib.hid hsz
      clear hsz
      cases h1 : inP m.d.pieces.length 1 9
      · go_wp2_with (go_at_call 71; (with_reducible refine (within_any _ _ _ _).mono ?_); rintro e w' ⟨rfl, rfl⟩)
        go_meet
        exact ⟨by rw [HSZ.out, h1]; rfl, rfl⟩
      · cases h2 : inP m.d.wide 1 m.d.pieces.length
        · go_wp2_with (go_at_call 71; (with_reducible refine (within_any _ _ _ _).mono ?_); rintro e w' ⟨rfl, rfl⟩)
          go_meet
          exact ⟨by rw [HSZ.out, h1, h2]; rfl, rfl⟩
        · cases h3 : inP m.d.high 1 m.d.pieces.length
          · go_wp2_with (go_at_call 71; (with_reducible refine (within_any _ _ _ _).mono ?_); rintro e w' ⟨rfl, rfl⟩)
            go_meet
            exact ⟨by rw [HSZ.out, h1, h2, h3]; rfl, rfl⟩
          · have g1 := inP_iff.1 h1
            have g2 := inP_iff.1 h2
            have g3 := inP_iff.1 h3
            have hm1 : 0 ≤ m.d.wide * m.d.high := Int.mul_nonneg (by omega) (by omega)
            have hm2 : m.d.wide * m.d.high ≤ 9 * 9 := Int.mul_le_mul (by omega) (by omega) (by omega) (by omega)
            have hwm : IntKind.i64.wrap (m.d.wide * m.d.high) = m.d.wide * m.d.high := IntWalk.i64_in _ (by omega)
            by_cases hmn : m.d.wide * m.d.high = (m.d.pieces.length : Int)
            · have d1 : (m.d.wide * m.d.high == (m.d.pieces.length : Int)) = true := by simp [hmn]
              have HV := Lib.hid (show sizesB m.d = true by rw [HSZ.out, h1, h2, h3, decide_eq_true hmn]; rfl)
              clear hmn hm1 hm2
              go_wp2_with (go_at_call 71; (with_reducible refine (within_any _ _ _ _).mono ?_); rintro e w' ⟨rfl, rfl⟩)
              go_meet
              exact ⟨by rw [HV.out], rfl⟩
            · have d1 : (m.d.wide * m.d.high == (m.d.pieces.length : Int)) = false := by simp [hmn]
              have HV := Lib.hid (show sizesB m.d = false by rw [HSZ.out, h1, h2, h3, decide_eq_false hmn]; rfl)
              clear hmn hm1 hm2
              go_wp2_with (go_at_call 71; (with_reducible refine (within_any _ _ _ _).mono ?_); rintro e w' ⟨rfl, rfl⟩)
              go_meet
              exact ⟨by rw [HV.out], rfl⟩
    case rest =>
      obtain ⟨rfl, hw⟩ := hcut
      have hw2 := hw.symm
      clear hw
      subst hw2
      go_upto_region 3 with fail
      go_cut [6] (fun s wx => s = .bool (playB m.d.play) ∧ wx = wc)
      case first =>
        have HSZ := Lib.hid (show playB m.d.play = (inP m.d.play.len 1 10000 && (inP m.d.play.slack 0 500 && inP m.d.play.loose 0 500)) from rfl)
        rcases chain3 (inP m.d.play.len 1 10000) (inP m.d.play.slack 0 500) (inP m.d.play.loose 0 500) with h1 | ⟨h1, h2⟩ | ⟨h1, h2, h3⟩ | ⟨h1, h2, h3⟩
        all_goals
          go_wp2_with (go_at_call 71; (with_reducible refine (within_any _ _ _ _).mono ?_); rintro e w' ⟨rfl, rfl⟩)
          go_meet
          exact ⟨by rw [HSZ.out]; simp [*], rfl⟩
      case rest =>
        obtain ⟨rfl, hw⟩ := hcut
        have hw2 := hw.symm
        clear hw
        subst hw2
        cases hs : sizesB m.d
        · rw [hs] at HPA
          go_wp2_with fail
          go_ret
          exact ret_bool (by rw [HPA.out]; rfl) HB2.out
        · cases hp : playB m.d.play
          · rw [hs, hp] at HPA
            go_wp2_with fail
            go_ret
            exact ret_bool (by rw [HPA.out]; rfl) HB2.out
          · rw [hs, hp] at HPA
            go_wp2_with fail
            refine (isSpan_any m.d.play.damp 0 100 wc).mono ?_
            rintro e V3 ⟨rfl, hb⟩
            have HB3 := Lib.hid (HB2.out.trans (hb.mono HB2.out.size))
            have HR3 := Lib.hid (HR2.out.next hb)
            have HX3 := Lib.hid (HX2.out.next hb)
            clear hb c5 c6 c8 p0 p1 p2 p3 p4
            have c8 := HX3.out.c 8 _ rfl
            cases ho : okSp m.d.play.damp 0 100
            · rw [ho] at HPA
              go_wp2_with fail
              go_ret
              exact ret_bool (by rw [HPA.out]; rfl) HB3.out
            · rw [ho] at HPA
              go_wp2_with fail
              refine (arePieces_any m.A m.c m.d.pieces V3 HR3.out.pc hl1).mono ?_
              rintro e V4 ⟨rfl, hb⟩
              have HB4 := Lib.hid (HB3.out.trans (hb.mono HB3.out.size))
              clear hb
              go_wp2_with fail
              go_ret
              exact ret_bool (by rw [HPA.out]; rfl) HB4.out
end Go.Proofs.YtonnemkecppmiaaGreatDoor
