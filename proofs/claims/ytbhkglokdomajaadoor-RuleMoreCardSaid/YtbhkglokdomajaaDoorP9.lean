import Derived.Test.YtbhkglokdomajaaDoorP5
import Derived.Deep.DeepCutAuto
namespace Go.Proofs.YtbhkglokdomajaaDoor
open Go.RowKit
/-! The program: Lasts. -/
set_option maxRecDepth 100000 in
set_option maxHeartbeats 400000 in
theorem lastsE_any (F : Nat) (sel : Int → Int → Int) (hF : EndF F sel) (b : Blade) (m : Int) (w : World) (h1 : 0 ≤ sel b.fl b.fh ∧ sel b.fl b.fh ≤ m) (hm : m ≤ 200000) (h2 : 0 ≤ sel b.wl b.wh ∧ sel b.wl b.wh ≤ 10000) :
    Calls Tryd.prog 45 #[.agg #[.func (.func F) #[] #[]], .agg #[.int .i64 b.fl, .int .i64 b.fh, .int .i64 b.wl, .int .i64 b.wh], .int .i64 m] w (Ret (.int .i64 (lastsN (sel b.fl b.fh) (sel b.wl b.wh) m)) w) := by
  have hE := hF.e
  have hb0 := (nxA w (.cells #[.func (.func F) #[] #[]] 77)).trans ((nxA (w.alloc (.cells #[.func (.func F) #[] #[]] 77)) (.cells #[.int .i64 b.fl, .int .i64 b.fh, .int .i64 b.wl, .int .i64 b.wh] 53)).mono (by simp))
  have B0 := Lib.hid hb0
  have X0 := Lib.hid ((Bx.new w #[.func (.func F) #[] #[]] 77).next (nxA _ (.cells #[.int .i64 b.fl, .int .i64 b.fh, .int .i64 b.wl, .int .i64 b.wh] 53)))
  have Y0 := Lib.hid (show Bx ((w.alloc (.cells #[.func (.func F) #[] #[]] 77)).alloc (.cells #[.int .i64 b.fl, .int .i64 b.fh, .int .i64 b.wl, .int .i64 b.wh] 53)) (w.heap.size + 1) b.cells from by
    have := Bx.new (w.alloc (.cells #[.func (.func F) #[] #[]] 77)) #[.int .i64 b.fl, .int .i64 b.fh, .int .i64 b.wl, .int .i64 b.wh] 53
    rw [World.size_alloc] at this
    exact this)
  have HF1 := Lib.hid (fun W => hF.f b.fl b.fh W)
  have HF2 := Lib.hid (fun W => hF.f b.wl b.wh W)
  clear hb0 hF
  generalize sel b.fl b.fh = p at *
  generalize sel b.wl b.wh = q at *
  have HL := Lib.hid (show lastsN p q m = if q = 0 then 7000 else min 7000 ((m - p) / q) from rfl)
  go_enter Tryd.func45, Tryd.ntmps45
  go_upto_region 1 with fail
  generalize ((w.alloc (.cells #[.func (.func F) #[] #[]] 77)).alloc (.cells #[.int .i64 b.fl, .int .i64 b.fh, .int .i64 b.wl, .int .i64 b.wh] 53)) = V at *
  have x0 := X0.out.c 0 _ rfl
  have y0 := Y0.out.c 0 _ rfl
  have y1 := Y0.out.c 1 _ rfl
  have y2 := Y0.out.c 2 _ rfl
  have y3 := Y0.out.c 3 _ rfl
  go_wp2_with fail
  refine (HF2.out V).mono ?_
  rintro e V1 ⟨rfl, hb⟩
  have B1 := Lib.hid (B0.out.trans (hb.mono B0.out.size))
  have X1 := Lib.hid (X0.out.next hb)
  have Y1 := Lib.hid (Y0.out.next hb)
  clear hb B0 X0 Y0 x0 y0 y1 y2 y3
  by_cases hq : q = 0
  · subst hq
    go_wp2
    go_ret
    exact ret_int (by rw [HL.out]; rfl) B1.out
  · have dq : (q == 0) = false := by rw [beq_eq_false_iff_ne]; exact hq
    have hd1 : 0 ≤ (m - p) / q := Int.ediv_nonneg (by omega) (by omega)
    have hd2 : (m - p) / q ≤ m - p := Int.ediv_le_self _ (by omega)
    have hq1 : 1 ≤ q := by omega
    have w1 : IntKind.i64.wrap (m - p) = m - p := IntWalk.i64_in _ (by omega)
    obtain ⟨Q, hQ⟩ : ∃ Q, Q = (m - p) / q := ⟨_, rfl⟩
    have w2 : IntKind.i64.wrap ((m - p).tdiv q) = Q := by
      rw [Int.tdiv_eq_ediv_of_nonneg (by omega), hQ]; exact IntWalk.i64_in _ (by omega)
    rw [← hQ] at hd1 hd2
    have HQ := Lib.hid hQ
    clear hQ
    go_wp2_with fail
    have HS := Lib.hid (show ∀ W : World, Below V1.heap.size V1 W → (W.cell? ⟨w.heap.size, 0, none⟩ = some (.func (.func F) #[] #[]) ∧ W.cell? ⟨w.heap.size + 1, 0, none⟩ = some (.int .i64 b.fl) ∧ W.cell? ⟨w.heap.size + 1, 1, none⟩ = some (.int .i64 b.fh) ∧ W.cell? ⟨w.heap.size + 1, 2, none⟩ = some (.int .i64 b.wl) ∧ W.cell? ⟨w.heap.size + 1, 3, none⟩ = some (.int .i64 b.wh)) from fun W h =>
      ⟨(X1.out.next h).c 0 _ rfl, (Y1.out.next h).c 0 _ rfl, (Y1.out.next h).c 1 _ rfl, (Y1.out.next h).c 2 _ rfl, (Y1.out.next h).c 3 _ rfl⟩)
    have hc : Below V1.heap.size V1 V1.drew := (Below.refl _ _).drew
    refine wp_region_noPanic ?_
    refine wp_region_held_drew (S := (fun W => W.cell? ⟨w.heap.size, 0, none⟩ = some (.func (.func F) #[] #[]) ∧ W.cell? ⟨w.heap.size + 1, 0, none⟩ = some (.int .i64 b.fl) ∧ W.cell? ⟨w.heap.size + 1, 1, none⟩ = some (.int .i64 b.fh) ∧ W.cell? ⟨w.heap.size + 1, 2, none⟩ = some (.int .i64 b.wl) ∧ W.cell? ⟨w.heap.size + 1, 3, none⟩ = some (.int .i64 b.wh))) (by kernel_rfl) ?_ (fun hHeld => ?_)
    · (try dsimp only); exact HS.out _ hc
    refine htake (i := 0) (v := ?v1) rfl (by kernel_rfl) (by kernel_rfl) (by kernel_rfl) (fun _ _ _ h => h) (Or.inl ⟨by rfl, ?hy1⟩) (by assumption) ?_
    case hy1 => (intro w hSw; (try dsimp only at hSw); go_simp; try (with_reducible rfl))
    try simp only [Act.put, List.setIfInBounds_toArray, List.set_cons_zero, List.set_cons_succ]
    refine htake (i := 1) (v := ?v2) rfl (by kernel_rfl) (by kernel_rfl) (by kernel_rfl) (fun _ _ _ h => h) (Or.inl ⟨by rfl, ?hy2⟩) (by assumption) ?_
    case hy2 => (intro w hSw; (try dsimp only at hSw); go_simp; try (with_reducible rfl))
    try simp only [Act.put, List.setIfInBounds_toArray, List.set_cons_zero, List.set_cons_succ]
    refine htake (i := 2) (v := ?v3) rfl (by kernel_rfl) (by kernel_rfl) (by kernel_rfl) (fun _ _ _ h => h) (Or.inl ⟨by rfl, ?hy3⟩) (by assumption) ?_
    case hy3 => (intro w hSw; (try dsimp only at hSw); go_simp; try (with_reducible rfl))
    try simp only [Act.put, List.setIfInBounds_toArray, List.set_cons_zero, List.set_cons_succ]
    refine htake (i := 3) (v := ?v4) rfl (by kernel_rfl) (by kernel_rfl) (by kernel_rfl) (fun _ _ _ h => h) (Or.inl ⟨by rfl, ?hy4⟩) (by assumption) ?_
    case hy4 => (intro w hSw; (try dsimp only at hSw); go_simp; try (with_reducible rfl))
    try simp only [Act.put, List.setIfInBounds_toArray, List.set_cons_zero, List.set_cons_succ]
    refine htake (i := 4) (v := ?v5) rfl (by kernel_rfl) (by kernel_rfl) (by kernel_rfl) (fun _ _ _ h => h) (Or.inl ⟨by rfl, ?hy5⟩) (by assumption) ?_
    case hy5 => (intro w hSw; (try dsimp only at hSw); go_simp; try (with_reducible rfl))
    try simp only [Act.put, List.setIfInBounds_toArray, List.set_cons_zero, List.set_cons_succ]
    refine htake (i := 7) (v := ?v6) rfl (by kernel_rfl) (by kernel_rfl) (by kernel_rfl) (fun _ _ _ h => h) (Or.inl ⟨by rfl, ?hy6⟩) (by assumption) ?_
    case hy6 => (intro w hSw; (try dsimp only at hSw); go_simp; try (with_reducible rfl))
    try simp only [Act.put, List.setIfInBounds_toArray, List.set_cons_zero, List.set_cons_succ]
    refine htake (i := 8) (v := ?v7) rfl (by kernel_rfl) (by kernel_rfl) (by kernel_rfl) (fun _ _ _ h => h) (Or.inl ⟨by rfl, ?hy7⟩) (by assumption) ?_
    case hy7 => (intro w hSw; (try dsimp only at hSw); go_simp; try (with_reducible rfl))
    try simp only [Act.put, List.setIfInBounds_toArray, List.set_cons_zero, List.set_cons_succ]
    refine htake (i := 9) (v := ?v8) rfl (by kernel_rfl) (by kernel_rfl) (by kernel_rfl) (fun _ _ _ h => h) (Or.inl ⟨by rfl, ?hy8⟩) (by assumption) ?_
    case hy8 => (intro w hSw; (try dsimp only at hSw); go_simp; try (with_reducible rfl))
    try simp only [Act.put, List.setIfInBounds_toArray, List.set_cons_zero, List.set_cons_succ]
    refine htake (i := 10) (v := ?v9) rfl (by kernel_rfl) (by kernel_rfl) (by kernel_rfl) (fun _ _ _ h => h) (Or.inl ⟨by rfl, ?hy9⟩) (by assumption) ?_
    case hy9 => (intro w hSw; (try dsimp only at hSw); go_simp; try (with_reducible rfl))
    try simp only [Act.put, List.setIfInBounds_toArray, List.set_cons_zero, List.set_cons_succ]
    refine wpAnyH_ready (rs := [5]) (by kernel_rfl) (by simp) ?_
    refine hcons rfl (fun K hK => ?_) (AllReadyH.nil)
    go_simp
    (with_reducible refine (HF1.out _).mono ?_); rintro e w3 ⟨rfl, hb3⟩; replace hc := hc.trans (hb3.mono hc.size); clear hb3
    refine hK.out _ _ ?_ (fun hHeld => ?_)
    · (try dsimp only); exact HS.out _ hc
    clear hK K
    try simp only [Act.put, List.setIfInBounds_toArray, List.set_cons_zero, List.set_cons_succ]
    refine htake (i := 6) (v := ?v10) rfl (by kernel_rfl) (by kernel_rfl) (by kernel_rfl) (fun _ _ _ h => h) (Or.inl ⟨by rfl, ?hy10⟩) (by assumption) ?_
    case hy10 => (intro w hSw; (try dsimp only at hSw); go_simp; try (with_reducible rfl))
    try simp only [Act.put, List.setIfInBounds_toArray, List.set_cons_zero, List.set_cons_succ]
    refine wpAnyH_ready (rs := [11]) (by kernel_rfl) (by simp) ?_
    refine hcons rfl (fun K hK => ?_) (AllReadyH.nil)
    go_simp
    (with_reducible refine (HF2.out _).mono ?_); rintro e w4 ⟨rfl, hb4⟩; replace hc := hc.trans (hb4.mono hc.size); clear hb4
    refine hK.out _ _ ?_ (fun hHeld => ?_)
    · (try dsimp only); exact HS.out _ hc
    clear hK K
    try simp only [Act.put, List.setIfInBounds_toArray, List.set_cons_zero, List.set_cons_succ]
    refine htake (i := 12) (v := ?v11) rfl (by kernel_rfl) (by kernel_rfl) (by kernel_rfl) (fun _ _ _ h => h) (Or.inl ⟨by rfl, ?hy11⟩) (by assumption) ?_
    case hy11 => (intro w hSw; (try dsimp only at hSw); go_simp; try (with_reducible rfl))
    try simp only [Act.put, List.setIfInBounds_toArray, List.set_cons_zero, List.set_cons_succ]
    refine wpAnyH_ready (rs := [13]) (by kernel_rfl) (by simp) ?_
    refine hcons rfl (fun K hK => ?_) (AllReadyH.nil)
    go_simp
    replace hc := hc.alloc hc.size (.cells #[.int .i64 Q] 3)
    refine hK.out _ _ ?_ (fun hHeld => ?_)
    · (try dsimp only); exact HS.out _ hc
    clear hK K
    try simp only [Act.put, List.setIfInBounds_toArray, List.set_cons_zero, List.set_cons_succ]
    refine wpAnyH_ready (rs := [14]) (by kernel_rfl) (by simp) ?_
    refine hcons rfl (fun K hK => ?_) (AllReadyH.nil)
    go_simp
    (with_reducible refine (least_any 7000 Q _ 1 _ (by simp [go_sem])).mono ?_); rintro e w5 ⟨rfl, rfl⟩
    refine hK.out _ _ ?_ (fun hHeld => ?_)
    · (try dsimp only); exact HS.out _ hc
    clear hK K
    try simp only [Act.put, List.setIfInBounds_toArray, List.set_cons_zero, List.set_cons_succ]
    refine htake (i := 15) (v := ?v12) rfl (by kernel_rfl) (by kernel_rfl) (by kernel_rfl) (fun _ _ _ h => h) (Or.inl ⟨by rfl, ?hy12⟩) (by assumption) ?_
    case hy12 => (intro w hSw; (try dsimp only at hSw); go_simp; try (with_reducible rfl))
    try simp only [Act.put, List.setIfInBounds_toArray, List.set_cons_zero, List.set_cons_succ]
    refine wpAnyH_done (by kernel_rfl) ?_ _
    refine NoPanic.normal ?_
    iterate 17 (try clear hHeld)
    all_goals
      go_wp2
      go_ret
      exact ret_int (by rw [HL.out, if_neg hq, ← HQ.out]) (B1.out.trans (hc.mono B1.out.size))
end Go.Proofs.YtbhkglokdomajaaDoor
