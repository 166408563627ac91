import Derived.Test.YtbhkglokdomajaaDoorR2
namespace Go.Proofs.YtbhkglokdomajaaDoor
open Go.RowKit
/-! The reference: by how much a blade is off, and how long it lasts. -/
set_option maxHeartbeats 400000 in
theorem Worst_any (d : Die) (k : Nat) (x : Int) (w : World) (ok : OkD d) (hk : k < d.blades.length) (hx : 0 ≤ x ∧ x ≤ 7000) (hr : DieAt w w.heap.size d) :
    Calls Tryd.prog 44 #[.agg #[.slice d.A d.blades.length d.c, .int .i64 d.bound, .int .i64 d.stop, .int .i64 d.bend], .int .i64 k, .int .i64 x] w (Ret (.int .i64 (worstS (bladeAt d k) x)) w) := by
  obtain ⟨b, off, e, hbk, h0, h1, h2, h3⟩ := hr.at hk
  have okb := ok.at hk
  have b1 := okb.off_bd hx.1 hx.2
  have b2 := okb.f
  have b3 := okb.w
  have hn := ok.nb
  have HB := Lib.hid ((nxA w (.cells #[.slice d.A d.blades.length d.c, .int .i64 d.bound, .int .i64 d.stop, .int .i64 d.bend] 24)).trans ((nxA (w.alloc (.cells #[.slice d.A d.blades.length d.c, .int .i64 d.bound, .int .i64 d.stop, .int .i64 d.bend] 24)) (.cells #[.int .i64 (bladeAt d k).fl, .int .i64 (bladeAt d k).fh, .int .i64 (bladeAt d k).wl, .int .i64 (bladeAt d k).wh] 53)).mono (by simp)))
  have HW := Lib.hid (show worstS (bladeAt d k) x = (bladeAt d k).fh + (bladeAt d k).wh * x from rfl)
  rw [e] at HB ⊢
  clear hr okb ok e
  generalize bladeAt d k = s at *
  go_enter Tryd.func44, Tryd.ntmps44
  go_wp2
  go_ret
  exact ret_int (by rw [HW.out]) HB.out
theorem loadS {w : World} {b : Nat} {a0 a1 : Value} (h : Bx w b [a0, a1]) : (loadVar 28 ⟨b, 0, none⟩).run Tryd.prog w = .ok (.agg #[a0, a1]) w := by
  have c0 := h.c 0 _ rfl
  have c1 := h.c 1 _ rfl
  clear h
  go_simp
set_option maxRecDepth 100000 in
set_option maxHeartbeats 400000 in
theorem lasts_any (fresh wears most : Int) (w : World) (hf : 0 ≤ fresh ∧ fresh ≤ most) (hm : most ≤ 200000) (hw : 0 ≤ wears ∧ wears ≤ 10000) :
    Calls Tryd.prog 46 #[.int .i64 fresh, .int .i64 wears, .int .i64 most] w (RetQ (.int .i64 (lastsN fresh wears most)) w) := by
  go_enter Tryd.func46, Tryd.ntmps46
  go_wp2
  go_loop [7] (fun v => ∃ n : Nat, n ≤ 7000 ∧ v = .int .i64 n ∧ fresh + wears * n ≤ most) (fun v => 7000 - (intOf v).toNat)
  case atStart => exact ⟨0, by omega, rfl, by simp; omega⟩
  case round =>
    obtain ⟨n, hn, rfl, hle⟩ := hrel
    by_cases h7 : n < 7000
    · have hb := mul_bd hw.1 hw.2 (by omega : (0 : Int) ≤ (n : Int) + 1) (by omega : (n : Int) + 1 ≤ 7000)
      by_cases hx : fresh + wears * ((n : Int) + 1) ≤ most
      · have HX := Lib.hid hx
        have d1 : decide (fresh + wears * ((n : Int) + 1) ≤ most) = true := decide_eq_true hx
        clear hx hle
        go_wp2
        go_round
        case rel => exact ⟨n + 1, by omega, by go_num, HX.out⟩
        case measure => simp [intOf]; omega
      · have E := Lib.hid (lasts_eq hw.1 (by omega) (by omega) hle (Or.inr (by omega)))
        have d1 : decide (fresh + wears * ((n : Int) + 1) ≤ most) = false := decide_eq_false hx
        clear hx hle
        go_wp2
        go_ret
        exact retq_int E.out
    · obtain rfl : n = 7000 := by omega
      have E := Lib.hid (lasts_eq hw.1 (by omega) (by omega) hle (Or.inl rfl))
      clear hle
      go_wp2
      go_ret
      exact retq_int E.out
def zspan : List Value := [.int .i64 0, .int .i64 0]
set_option maxRecDepth 100000 in
set_option maxHeartbeats 400000 in
theorem refOff_any (d : Die) (k x : Int) (w : World) (hd : DieAt w w.heap.size d) : Calls Tryd.prog 15 #[.agg #[.slice d.A d.blades.length d.c, .int .i64 d.bound, .int .i64 d.stop, .int .i64 d.bend], .int .i64 k, .int .i64 x] w (Ret (retSpan (offS d k x)) w) := by
  have HO := Lib.hid (show offS d k x = if dieS d = false then ((0, 0), 1) else if inS k 0 (d.blades.length - 1) = false ∨ inS x 0 7000 = false then ((0, 0), 2) else ((offLo (bladeAt d k.toNat) x, worstS (bladeAt d k.toNat) x), 0) from rfl)
  have hb0 := (nxA w (.cells #[.slice d.A d.blades.length d.c, .int .i64 d.bound, .int .i64 d.stop, .int .i64 d.bend] 24)).trans ((nxA (w.alloc (.cells #[.slice d.A d.blades.length d.c, .int .i64 d.bound, .int .i64 d.stop, .int .i64 d.bend] 24)) (.cells #[.int .i64 0, .int .i64 0] 28)).mono (by simp))
  have B0 := Lib.hid hb0
  have HD := Lib.hid (hd.next hb0)
  have X0 := Lib.hid ((Bx.new w #[.slice d.A d.blades.length d.c, .int .i64 d.bound, .int .i64 d.stop, .int .i64 d.bend] 24).next (nxA _ (.cells #[.int .i64 0, .int .i64 0] 28)))
  have Z0 := Lib.hid (show Bx ((w.alloc (.cells #[.slice d.A d.blades.length d.c, .int .i64 d.bound, .int .i64 d.stop, .int .i64 d.bend] 24)).alloc (.cells #[.int .i64 0, .int .i64 0] 28)) (w.heap.size + 1) zspan from by
    have := Bx.new (w.alloc (.cells #[.slice d.A d.blades.length d.c, .int .i64 d.bound, .int .i64 d.stop, .int .i64 d.bend] 24)) #[.int .i64 0, .int .i64 0] 28
    rw [World.size_alloc] at this
    exact this)
  have l1 := hd.l1
  clear hd hb0
  go_enter Tryd.func15, Tryd.ntmps15
  go_wp2_with fail
  generalize ((w.alloc (.cells #[.slice d.A d.blades.length d.c, .int .i64 d.bound, .int .i64 d.stop, .int .i64 d.bend] 24)).alloc (.cells #[.int .i64 0, .int .i64 0] 28)) = V at *
  refine (Die_any d _ HD.out).mono ?_
  rintro e V1 ⟨rfl, hb⟩
  have B1 := Lib.hid (B0.out.trans (hb.mono B0.out.size))
  have D1 := Lib.hid (HD.out.next hb)
  have X1 := Lib.hid (X0.out.next hb)
  have Z1 := Lib.hid (Z0.out.next hb)
  clear hb B0 X0 Z0 HD
  have c0 := X1.out.c 0 _ rfl
  have c1 := X1.out.c 1 _ rfl
  have c2 := X1.out.c 2 _ rfl
  have c3 := X1.out.c 3 _ rfl
  have z0 := Z1.out.c 0 _ rfl
  have z1 := Z1.out.c 1 _ rfl
  have f0 := Z1.out.fr 0
  have f1 := Z1.out.fr 1
  cases hds : dieS d
  · have E1 := Lib.hid (show offS d k x = ((0, 0), 1) by rw [HO.out, hds]; rfl)
    go_wp2
    refine bodyPost_ret (results_cellA rfl rfl (loadS (Z1.out.setAll zspan rfl))) rfl ?_
    refine ⟨?_, below_setCells (b := w.heap.size + 1) (by omega) zspan 0 B1.out⟩
    rw [E1.out]; rfl
  · have ok := (okd_iff d).1 hds
    rcases chain2 (inS k 0 (d.blades.length - 1)) (inS x 0 7000) with a1 | ⟨a1, a2⟩ | ⟨a1, a2⟩
    · have E1 := Lib.hid (show offS d k x = ((0, 0), 2) by rw [HO.out, hds, a1]; rfl)
      go_wp2_with (go_at_call 43; (with_reducible refine (in_any _ _ _ _).mono ?_); rintro e w' ⟨rfl, rfl⟩)
      refine bodyPost_ret (results_cellA rfl rfl (loadS (Z1.out.setAll zspan rfl))) rfl ?_
      refine ⟨?_, below_setCells (b := w.heap.size + 1) (by omega) zspan 0 B1.out⟩
      rw [E1.out]; rfl
    · have E1 := Lib.hid (show offS d k x = ((0, 0), 2) by rw [HO.out, hds, a2]; simp)
      go_wp2_with (go_at_call 43; (with_reducible refine (in_any _ _ _ _).mono ?_); rintro e w' ⟨rfl, rfl⟩)
      refine bodyPost_ret (results_cellA rfl rfl (loadS (Z1.out.setAll zspan rfl))) rfl ?_
      refine ⟨?_, below_setCells (b := w.heap.size + 1) (by omega) zspan 0 B1.out⟩
      rw [E1.out]; rfl
    · have hk : 0 ≤ k ∧ k < d.blades.length := by simp [inS] at a1; omega
      have hx : 0 ≤ x ∧ x ≤ 7000 := by simpa [inS] using a2
      obtain ⟨n, rfl⟩ : ∃ n : Nat, k = (n : Int) := ⟨k.toNat, by omega⟩
      have hn : n < d.blades.length := by omega
      have E1 := Lib.hid (show offS d n x = ((offLo (bladeAt d n) x, worstS (bladeAt d n) x), 0) by rw [HO.out, hds, a1, a2]; simp)
      obtain ⟨b, off, e, hbk, h0, h1, h2, h3⟩ := D1.out.at hn
      rw [e] at c0
      have He := Lib.hid e
      go_wp2_with (first | (go_at_call 43; (with_reducible refine (in_any _ _ _ _).mono ?_); rintro e w' ⟨rfl, rfl⟩) | fail)
      have hbA := nxA V1 (.cells #[.int .i64 (bladeAt d n).fl, .int .i64 (bladeAt d n).fh, .int .i64 (bladeAt d n).wl, .int .i64 (bladeAt d n).wh] 53)
      have B2 := Lib.hid (B1.out.trans (hbA.mono B1.out.size))
      have D2 := Lib.hid (D1.out.next hbA)
      have X2 := Lib.hid (X1.out.next hbA)
      have Z2 := Lib.hid (Z1.out.next hbA)
      have Y2 := Lib.hid (Bx.new V1 #[.int .i64 (bladeAt d n).fl, .int .i64 (bladeAt d n).fh, .int .i64 (bladeAt d n).wl, .int .i64 (bladeAt d n).wh] 53)
      have hz := Z1.out.lt
      have okb := ok.at hn
      have b1 := okb.off_bd hx.1 hx.2
      have b2 := okb.f
      have b3 := okb.w
      have w1 : IntKind.i64.wrap ((bladeAt d n).wl * x) = (bladeAt d n).wl * x := IntWalk.i64_in _ (by omega)
      have w2 : IntKind.i64.wrap ((bladeAt d n).fl + (bladeAt d n).wl * x) = offLo (bladeAt d n) x := IntWalk.i64_in _ (by omega)
      have HWt := Lib.hid (fun (W : World) (h : DieAt W W.heap.size d) => Worst_any d n x W ok hn hx h)
      clear hbA B1 D1 X1 Z1 c0 c1 c2 c3 z0 z1 f0 f1 h0 h1 h2 h3 okb hbk
      generalize V1.alloc (.cells #[.int .i64 (bladeAt d n).fl, .int .i64 (bladeAt d n).fh, .int .i64 (bladeAt d n).wl, .int .i64 (bladeAt d n).wh] 53) = V2 at *
      generalize V1.heap.size = y at *
      have c0 := X2.out.c 0 _ rfl
      have c1 := X2.out.c 1 _ rfl
      have c2 := X2.out.c 2 _ rfl
      have c3 := X2.out.c 3 _ rfl
      rw [He.out] at c0
      have hxl := X2.out.lt
      have hyl := Y2.out.lt
      have HS := Lib.hid (show ∀ W : World, (∀ b o, b < V2.heap.size → b ≠ w.heap.size + 1 → W.cell? ⟨b, o, none⟩ = V2.cell? ⟨b, o, none⟩) → (W.cell? ⟨w.heap.size, 0, none⟩ = some (.slice (some ⟨b, off, none⟩) d.blades.length d.c) ∧ W.cell? ⟨w.heap.size, 1, none⟩ = some (.int .i64 d.bound) ∧ W.cell? ⟨w.heap.size, 2, none⟩ = some (.int .i64 d.stop) ∧ W.cell? ⟨w.heap.size, 3, none⟩ = some (.int .i64 d.bend) ∧ W.cell? ⟨y, 0, none⟩ = some (.int .i64 (bladeAt d n).fl) ∧ W.cell? ⟨y, 2, none⟩ = some (.int .i64 (bladeAt d n).wl)) from fun W h =>
        ⟨(h _ _ hxl (by omega)).trans c0, (h _ _ hxl (by omega)).trans c1, (h _ _ hxl (by omega)).trans c2, (h _ _ hxl (by omega)).trans c3, (h _ _ hyl (by omega)).trans (Y2.out.c 0 _ rfl), (h _ _ hyl (by omega)).trans (Y2.out.c 2 _ rfl)⟩)
      clear c0 c1 c2 c3
      generalize worstS (bladeAt d n) x = hi at *
      refine wp_region_noPanic ?_
      refine wp_region_held_drew (S := (fun W => W.cell? ⟨w.heap.size, 0, none⟩ = some (.slice (some ⟨b, off, none⟩) d.blades.length d.c) ∧ W.cell? ⟨w.heap.size, 1, none⟩ = some (.int .i64 d.bound) ∧ W.cell? ⟨w.heap.size, 2, none⟩ = some (.int .i64 d.stop) ∧ W.cell? ⟨w.heap.size, 3, none⟩ = some (.int .i64 d.bend) ∧ W.cell? ⟨y, 0, none⟩ = some (.int .i64 (bladeAt d n).fl) ∧ W.cell? ⟨y, 2, none⟩ = some (.int .i64 (bladeAt d n).wl))) (by kernel_rfl) ?_ (fun hHeld => ?_)
      · (try dsimp only); exact HS.out _ (fun _ _ _ _ => rfl)
      refine htake (i := 0) (v := ?v1) rfl (by kernel_rfl) (by kernel_rfl) (by kernel_rfl) (fun _ _ _ h => h) (Or.inl ⟨by rfl, ?hy1⟩) (by assumption) ?_
      case hy1 => (intro w hSw; (try dsimp only at hSw); go_simp; try (with_reducible rfl))
      try simp only [Act.put, List.setIfInBounds_toArray, List.set_cons_zero, List.set_cons_succ]
      refine htake (i := 1) (v := ?v2) rfl (by kernel_rfl) (by kernel_rfl) (by kernel_rfl) (fun _ _ _ h => h) (Or.inl ⟨by rfl, ?hy2⟩) (by assumption) ?_
      case hy2 => (intro w hSw; (try dsimp only at hSw); go_simp; try (with_reducible rfl))
      try simp only [Act.put, List.setIfInBounds_toArray, List.set_cons_zero, List.set_cons_succ]
      refine htake (i := 2) (v := ?v3) rfl (by kernel_rfl) (by kernel_rfl) (by kernel_rfl) (fun _ _ _ h => h) (Or.inl ⟨by rfl, ?hy3⟩) (by assumption) ?_
      case hy3 => (intro w hSw; (try dsimp only at hSw); go_simp; try (with_reducible rfl))
      try simp only [Act.put, List.setIfInBounds_toArray, List.set_cons_zero, List.set_cons_succ]
      refine htake (i := 3) (v := ?v4) rfl (by kernel_rfl) (by kernel_rfl) (by kernel_rfl) (fun _ _ _ h => h) (Or.inl ⟨by rfl, ?hy4⟩) (by assumption) ?_
      case hy4 => (intro w hSw; (try dsimp only at hSw); go_simp; try (with_reducible rfl))
      try simp only [Act.put, List.setIfInBounds_toArray, List.set_cons_zero, List.set_cons_succ]
      refine htake (i := 4) (v := ?v5) rfl (by kernel_rfl) (by kernel_rfl) (by kernel_rfl) (fun _ _ _ h => h) (Or.inl ⟨by rfl, ?hy5⟩) (by assumption) ?_
      case hy5 => (intro w hSw; (try dsimp only at hSw); go_simp; try (with_reducible rfl))
      try simp only [Act.put, List.setIfInBounds_toArray, List.set_cons_zero, List.set_cons_succ]
      refine htake (i := 5) (v := ?v6) rfl (by kernel_rfl) (by kernel_rfl) (by kernel_rfl) (fun _ _ _ h => h) (Or.inl ⟨by rfl, ?hy6⟩) (by assumption) ?_
      case hy6 => (intro w hSw; (try dsimp only at hSw); go_simp; try (with_reducible rfl))
      try simp only [Act.put, List.setIfInBounds_toArray, List.set_cons_zero, List.set_cons_succ]
      refine htake (i := 6) (v := ?v7) rfl (by kernel_rfl) (by kernel_rfl) (by kernel_rfl) (fun _ _ _ h => h) (Or.inl ⟨by rfl, ?hy7⟩) (by assumption) ?_
      case hy7 => (intro w hSw; (try dsimp only at hSw); go_simp; try (with_reducible rfl))
      try simp only [Act.put, List.setIfInBounds_toArray, List.set_cons_zero, List.set_cons_succ]
      refine htake (i := 7) (v := ?v8) rfl (by kernel_rfl) (by kernel_rfl) (by kernel_rfl) (fun _ _ _ h => h) (Or.inl ⟨by rfl, ?hy8⟩) (by assumption) ?_
      case hy8 => (intro w hSw; (try dsimp only at hSw); go_simp; try (with_reducible rfl))
      try simp only [Act.put, List.setIfInBounds_toArray, List.set_cons_zero, List.set_cons_succ]
      refine htake (i := 8) (v := ?v9) rfl (by kernel_rfl) (by kernel_rfl) (by kernel_rfl) (fun _ _ _ h => h) (Or.inl ⟨by rfl, ?hy9⟩) (by assumption) ?_
      case hy9 => (intro w hSw; (try dsimp only at hSw); go_simp; try (with_reducible rfl))
      try simp only [Act.put, List.setIfInBounds_toArray, List.set_cons_zero, List.set_cons_succ]
      refine htake (i := 9) (v := ?v10) rfl (by kernel_rfl) (by kernel_rfl) (by kernel_rfl) (fun _ _ _ h => h) (Or.inl ⟨by rfl, ?hy10⟩) (by assumption) ?_
      case hy10 => (intro w hSw; (try dsimp only at hSw); go_simp; try (with_reducible rfl))
      try simp only [Act.put, List.setIfInBounds_toArray, List.set_cons_zero, List.set_cons_succ]
      refine htake (i := 10) (v := ?v11) rfl (by kernel_rfl) (by kernel_rfl) (by kernel_rfl) (fun _ _ _ h => h) (Or.inl ⟨by rfl, ?hy11⟩) (by assumption) ?_
      case hy11 => (intro w hSw; (try dsimp only at hSw); go_simp; try (with_reducible rfl))
      try simp only [Act.put, List.setIfInBounds_toArray, List.set_cons_zero, List.set_cons_succ]
      refine htake (i := 11) (v := ?v12) rfl (by kernel_rfl) (by kernel_rfl) (by kernel_rfl) (fun _ _ _ h => h) (Or.inl ⟨by rfl, ?hy12⟩) (by assumption) ?_
      case hy12 => (intro w hSw; (try dsimp only at hSw); go_simp; try (with_reducible rfl))
      try simp only [Act.put, List.setIfInBounds_toArray, List.set_cons_zero, List.set_cons_succ]
      refine wpAnyH_ready (rs := [12]) (by kernel_rfl) (by simp) ?_
      refine hcons rfl (fun K hK => ?_) (AllReadyH.nil)
      go_simp
      rw [← He.out]; (with_reducible refine (HWt.out _ (D2.out.next (Below.refl _ _).drew)).mono ?_); rintro e w4 ⟨rfl, hb4⟩; rw [He.out]; have hk4 : Below V2.heap.size V2 w4 := (Below.refl _ _).drew.trans hb4; have Z4 := Lib.hid (Z2.out.next hk4); have z0 := Z4.out.c 0 _ rfl; have z1 := Z4.out.c 1 _ rfl; have f0 := Z4.out.fr 0; have f1 := Z4.out.fr 1
      refine hK.out _ _ ?_ (fun hHeld => ?_)
      · (try dsimp only); exact HS.out _ (fun b o h _ => (bcell hk4).1 _ _ h)
      clear hK K
      try simp only [Act.put, List.setIfInBounds_toArray, List.set_cons_zero, List.set_cons_succ]
      refine htake (i := 13) (v := ?v13) rfl (by kernel_rfl) (by kernel_rfl) (by kernel_rfl) (fun _ _ _ h => h) (Or.inl ⟨by rfl, ?hy13⟩) (by assumption) ?_
      case hy13 => (intro w hSw; (try dsimp only at hSw); go_simp; try (with_reducible rfl))
      try simp only [Act.put, List.setIfInBounds_toArray, List.set_cons_zero, List.set_cons_succ]
      refine wpAnyH_ready (rs := [14]) (by kernel_rfl) (by simp) ?_
      refine hcons rfl (fun K hK => ?_) (AllReadyH.nil)
      go_simp
      skip
      refine hK.out _ _ ?_ (fun hHeld => ?_)
      · (try dsimp only); exact HS.out _ (fun b o h hne => (World.cell?_setCell_other _ _ _ _ (by intro e; injection e with e; exact hne e.symm)).trans ((World.cell?_setCell_other _ _ _ _ (by intro e; injection e with e; exact hne e.symm)).trans ((bcell hk4).1 _ _ h)))
      clear hK K
      try simp only [Act.put, List.setIfInBounds_toArray, List.set_cons_zero, List.set_cons_succ]
      refine htake (i := 15) (v := ?v14) rfl (by kernel_rfl) (by kernel_rfl) (by kernel_rfl) (fun _ _ _ h => h) (Or.inl ⟨by rfl, ?hy14⟩) (by assumption) ?_
      case hy14 => (intro w hSw; (try dsimp only at hSw); go_simp; try (with_reducible rfl))
      try simp only [Act.put, List.setIfInBounds_toArray, List.set_cons_zero, List.set_cons_succ]
      refine wpAnyH_done (by kernel_rfl) ?_ _
      refine NoPanic.normal ?_
      iterate 17 (try clear hHeld)
      go_wp2
      refine bodyPost_ret (results_cellA rfl rfl (loadS (Z4.out.setAll [.int .i64 (offLo (bladeAt d n) x), .int .i64 hi] rfl))) rfl ?_
      refine ⟨?_, below_setCells (b := w.heap.size + 1) (by omega) [.int .i64 (offLo (bladeAt d n) x), .int .i64 hi] 0 (B2.out.trans (hk4.mono B2.out.size))⟩
      rw [E1.out]; rfl
set_option maxRecDepth 100000 in
set_option maxHeartbeats 400000 in
theorem refLasts_any (d : Die) (k x : Int) (w : World) (hd : DieAt w w.heap.size d) : Calls Tryd.prog 17 #[.agg #[.slice d.A d.blades.length d.c, .int .i64 d.bound, .int .i64 d.stop, .int .i64 d.bend], .int .i64 k, .int .i64 x] w (Ret (retSpan (lastsS d k x)) w) := by
  have HO := Lib.hid (show lastsS d k x = if dieS d = false then ((0, 0), 1) else if inS k 0 (d.blades.length - 1) = false ∨ inS x 0 200000 = false then ((0, 0), 2) else if x < (bladeAt d k.toNat).fh then ((0, 0), 4) else ((lastsN (bladeAt d k.toNat).fh (bladeAt d k.toNat).wh x, lastsN (bladeAt d k.toNat).fl (bladeAt d k.toNat).wl x), 0) from rfl)
  have hb0 := (nxA w (.cells #[.slice d.A d.blades.length d.c, .int .i64 d.bound, .int .i64 d.stop, .int .i64 d.bend] 24)).trans ((nxA (w.alloc (.cells #[.slice d.A d.blades.length d.c, .int .i64 d.bound, .int .i64 d.stop, .int .i64 d.bend] 24)) (.cells #[.int .i64 0, .int .i64 0] 28)).mono (by simp))
  have B0 := Lib.hid hb0
  have HD := Lib.hid (hd.next hb0)
  have X0 := Lib.hid ((Bx.new w #[.slice d.A d.blades.length d.c, .int .i64 d.bound, .int .i64 d.stop, .int .i64 d.bend] 24).next (nxA _ (.cells #[.int .i64 0, .int .i64 0] 28)))
  have Z0 := Lib.hid (show Bx ((w.alloc (.cells #[.slice d.A d.blades.length d.c, .int .i64 d.bound, .int .i64 d.stop, .int .i64 d.bend] 24)).alloc (.cells #[.int .i64 0, .int .i64 0] 28)) (w.heap.size + 1) zspan from by
    have := Bx.new (w.alloc (.cells #[.slice d.A d.blades.length d.c, .int .i64 d.bound, .int .i64 d.stop, .int .i64 d.bend] 24)) #[.int .i64 0, .int .i64 0] 28
    rw [World.size_alloc] at this
    exact this)
  have l1 := hd.l1
  clear hd hb0
  go_enter Tryd.func17, Tryd.ntmps17
  go_wp2_with fail
  generalize ((w.alloc (.cells #[.slice d.A d.blades.length d.c, .int .i64 d.bound, .int .i64 d.stop, .int .i64 d.bend] 24)).alloc (.cells #[.int .i64 0, .int .i64 0] 28)) = V at *
  refine (Die_any d _ HD.out).mono ?_
  rintro e V1 ⟨rfl, hb⟩
  have B1 := Lib.hid (B0.out.trans (hb.mono B0.out.size))
  have D1 := Lib.hid (HD.out.next hb)
  have X1 := Lib.hid (X0.out.next hb)
  have Z1 := Lib.hid (Z0.out.next hb)
  clear hb B0 X0 Z0 HD
  have c0 := X1.out.c 0 _ rfl
  have c1 := X1.out.c 1 _ rfl
  have c2 := X1.out.c 2 _ rfl
  have c3 := X1.out.c 3 _ rfl
  have z0 := Z1.out.c 0 _ rfl
  have z1 := Z1.out.c 1 _ rfl
  have f0 := Z1.out.fr 0
  have f1 := Z1.out.fr 1
  cases hds : dieS d
  · have E1 := Lib.hid (show lastsS d k x = ((0, 0), 1) by rw [HO.out, hds]; rfl)
    go_wp2
    refine bodyPost_ret (results_cellA rfl rfl (loadS (Z1.out.setAll zspan rfl))) rfl ?_
    refine ⟨?_, below_setCells (b := w.heap.size + 1) (by omega) zspan 0 B1.out⟩
    rw [E1.out]; rfl
  · have ok := (okd_iff d).1 hds
    rcases chain2 (inS k 0 (d.blades.length - 1)) (inS x 0 200000) with a1 | ⟨a1, a2⟩ | ⟨a1, a2⟩
    · have E1 := Lib.hid (show lastsS d k x = ((0, 0), 2) by rw [HO.out, hds, a1]; rfl)
      go_wp2_with (go_at_call 43; (with_reducible refine (in_any _ _ _ _).mono ?_); rintro e w' ⟨rfl, rfl⟩)
      refine bodyPost_ret (results_cellA rfl rfl (loadS (Z1.out.setAll zspan rfl))) rfl ?_
      refine ⟨?_, below_setCells (b := w.heap.size + 1) (by omega) zspan 0 B1.out⟩
      rw [E1.out]; rfl
    · have E1 := Lib.hid (show lastsS d k x = ((0, 0), 2) by rw [HO.out, hds, a2]; simp)
      go_wp2_with (go_at_call 43; (with_reducible refine (in_any _ _ _ _).mono ?_); rintro e w' ⟨rfl, rfl⟩)
      refine bodyPost_ret (results_cellA rfl rfl (loadS (Z1.out.setAll zspan rfl))) rfl ?_
      refine ⟨?_, below_setCells (b := w.heap.size + 1) (by omega) zspan 0 B1.out⟩
      rw [E1.out]; rfl
    · have hk : 0 ≤ k ∧ k < d.blades.length := by simp [inS] at a1; omega
      have hx : 0 ≤ x ∧ x ≤ 200000 := by simpa [inS] using a2
      obtain ⟨n, rfl⟩ : ∃ n : Nat, k = (n : Int) := ⟨k.toNat, by omega⟩
      have hn : n < d.blades.length := by omega
      have E0 := Lib.hid (show lastsS d n x = if x < (bladeAt d n).fh then ((0, 0), 4) else ((lastsN (bladeAt d n).fh (bladeAt d n).wh x, lastsN (bladeAt d n).fl (bladeAt d n).wl x), 0) by rw [HO.out, hds, a1, a2]; simp)
      obtain ⟨b, off, e, hbk, h0, h1, h2, h3⟩ := D1.out.at hn
      rw [e] at c0
      have He := Lib.hid e
      have hbA := nxA V1 (.cells #[.int .i64 (bladeAt d n).fl, .int .i64 (bladeAt d n).fh, .int .i64 (bladeAt d n).wl, .int .i64 (bladeAt d n).wh] 53)
      have B2 := Lib.hid (B1.out.trans (hbA.mono B1.out.size))
      have Z2 := Lib.hid (Z1.out.next hbA)
      have Y2 := Lib.hid (Bx.new V1 #[.int .i64 (bladeAt d n).fl, .int .i64 (bladeAt d n).fh, .int .i64 (bladeAt d n).wl, .int .i64 (bladeAt d n).wh] 53)
      have hz := Z1.out.lt
      have okb := ok.at hn
      have b2 := okb.f
      have b3 := okb.w
      by_cases hfx : x < (bladeAt d n).fh
      · have d1 : decide (x < (bladeAt d n).fh) = true := decide_eq_true hfx
        have E1 := Lib.hid (show lastsS d n x = ((0, 0), 4) by rw [E0.out, if_pos hfx])
        clear okb
        generalize bladeAt d n = s at *
        go_wp2_with (go_at_call 43; (with_reducible refine (in_any _ _ _ _).mono ?_); rintro e w' ⟨rfl, rfl⟩)
        refine bodyPost_ret (results_cellA rfl rfl (loadS ((Z1.out.setAll zspan rfl).next (nxA _ _)))) rfl ?_
        have hbe := below_setCells (b := w.heap.size + 1) (B := w.heap.size) (by omega) zspan 0 B1.out
        refine ⟨?_, hbe.trans ((nxA _ _).mono hbe.size)⟩
        rw [E1.out]; rfl
      · have d1 : decide (x < (bladeAt d n).fh) = false := decide_eq_false hfx
        have E1 := Lib.hid (show lastsS d n x = ((lastsN (bladeAt d n).fh (bladeAt d n).wh x, lastsN (bladeAt d n).fl (bladeAt d n).wl x), 0) by rw [E0.out, if_neg hfx])
        have HA := Lib.hid (fun (W : World) => lasts_any (bladeAt d n).fh (bladeAt d n).wh x W (by omega) (by omega) (by omega))
        have HB := Lib.hid (fun (W : World) => lasts_any (bladeAt d n).fl (bladeAt d n).wl x W (by omega) (by omega) (by omega))
        clear okb b2 b3 hfx
        generalize lastsN (bladeAt d n).fh (bladeAt d n).wh x = lo at *
        generalize lastsN (bladeAt d n).fl (bladeAt d n).wl x = hi at *
        generalize bladeAt d n = s at *
        go_wp2_with (first | (go_at_call 43; (with_reducible refine (in_any _ _ _ _).mono ?_); rintro e w' ⟨rfl, rfl⟩) | fail)
        clear hbA B1 D1 X1 Z1 c0 c1 c2 c3 z0 z1 f0 f1 h0 h1 h2 h3 hbk
        generalize V1.alloc (.cells #[.int .i64 s.fl, .int .i64 s.fh, .int .i64 s.wl, .int .i64 s.wh] 53) = V2 at *
        generalize V1.heap.size = y at *
        have hyl := Y2.out.lt
        have z0 := Z2.out.c 0 _ rfl
        have z1 := Z2.out.c 1 _ rfl
        have f0 := Z2.out.fr 0
        have f1 := Z2.out.fr 1
        have HS := Lib.hid (show ∀ W : World, (∀ b o, b < V2.heap.size → b ≠ w.heap.size + 1 → W.cell? ⟨b, o, none⟩ = V2.cell? ⟨b, o, none⟩) → (W.cell? ⟨y, 0, none⟩ = some (.int .i64 s.fl) ∧ W.cell? ⟨y, 1, none⟩ = some (.int .i64 s.fh) ∧ W.cell? ⟨y, 2, none⟩ = some (.int .i64 s.wl) ∧ W.cell? ⟨y, 3, none⟩ = some (.int .i64 s.wh)) from fun W h =>
          ⟨(h _ _ hyl (by omega)).trans (Y2.out.c 0 _ rfl), (h _ _ hyl (by omega)).trans (Y2.out.c 1 _ rfl), (h _ _ hyl (by omega)).trans (Y2.out.c 2 _ rfl), (h _ _ hyl (by omega)).trans (Y2.out.c 3 _ rfl)⟩)
        refine wp_region_noPanic ?_
        refine wp_region_held_drew (S := (fun W => W.cell? ⟨y, 0, none⟩ = some (.int .i64 s.fl) ∧ W.cell? ⟨y, 1, none⟩ = some (.int .i64 s.fh) ∧ W.cell? ⟨y, 2, none⟩ = some (.int .i64 s.wl) ∧ W.cell? ⟨y, 3, none⟩ = some (.int .i64 s.wh))) (by kernel_rfl) ?_ (fun hHeld => ?_)
        · (try dsimp only); exact HS.out _ (fun _ _ _ _ => rfl)
        refine htake (i := 0) (v := ?v15) rfl (by kernel_rfl) (by kernel_rfl) (by kernel_rfl) (fun _ _ _ h => h) (Or.inl ⟨by rfl, ?hy15⟩) (by assumption) ?_
        case hy15 => (intro w hSw; (try dsimp only at hSw); go_simp; try (with_reducible rfl))
        try simp only [Act.put, List.setIfInBounds_toArray, List.set_cons_zero, List.set_cons_succ]
        refine htake (i := 1) (v := ?v16) rfl (by kernel_rfl) (by kernel_rfl) (by kernel_rfl) (fun _ _ _ h => h) (Or.inl ⟨by rfl, ?hy16⟩) (by assumption) ?_
        case hy16 => (intro w hSw; (try dsimp only at hSw); go_simp; try (with_reducible rfl))
        try simp only [Act.put, List.setIfInBounds_toArray, List.set_cons_zero, List.set_cons_succ]
        refine htake (i := 2) (v := ?v17) rfl (by kernel_rfl) (by kernel_rfl) (by kernel_rfl) (fun _ _ _ h => h) (Or.inl ⟨by rfl, ?hy17⟩) (by assumption) ?_
        case hy17 => (intro w hSw; (try dsimp only at hSw); go_simp; try (with_reducible rfl))
        try simp only [Act.put, List.setIfInBounds_toArray, List.set_cons_zero, List.set_cons_succ]
        refine htake (i := 3) (v := ?v18) rfl (by kernel_rfl) (by kernel_rfl) (by kernel_rfl) (fun _ _ _ h => h) (Or.inl ⟨by rfl, ?hy18⟩) (by assumption) ?_
        case hy18 => (intro w hSw; (try dsimp only at hSw); go_simp; try (with_reducible rfl))
        try simp only [Act.put, List.setIfInBounds_toArray, List.set_cons_zero, List.set_cons_succ]
        refine htake (i := 4) (v := ?v19) rfl (by kernel_rfl) (by kernel_rfl) (by kernel_rfl) (fun _ _ _ h => h) (Or.inl ⟨by rfl, ?hy19⟩) (by assumption) ?_
        case hy19 => (intro w hSw; (try dsimp only at hSw); go_simp; try (with_reducible rfl))
        try simp only [Act.put, List.setIfInBounds_toArray, List.set_cons_zero, List.set_cons_succ]
        refine htake (i := 5) (v := ?v20) rfl (by kernel_rfl) (by kernel_rfl) (by kernel_rfl) (fun _ _ _ h => h) (Or.inl ⟨by rfl, ?hy20⟩) (by assumption) ?_
        case hy20 => (intro w hSw; (try dsimp only at hSw); go_simp; try (with_reducible rfl))
        try simp only [Act.put, List.setIfInBounds_toArray, List.set_cons_zero, List.set_cons_succ]
        refine htake (i := 6) (v := ?v21) rfl (by kernel_rfl) (by kernel_rfl) (by kernel_rfl) (fun _ _ _ h => h) (Or.inl ⟨by rfl, ?hy21⟩) (by assumption) ?_
        case hy21 => (intro w hSw; (try dsimp only at hSw); go_simp; try (with_reducible rfl))
        try simp only [Act.put, List.setIfInBounds_toArray, List.set_cons_zero, List.set_cons_succ]
        refine htake (i := 8) (v := ?v22) rfl (by kernel_rfl) (by kernel_rfl) (by kernel_rfl) (fun _ _ _ h => h) (Or.inl ⟨by rfl, ?hy22⟩) (by assumption) ?_
        case hy22 => (intro w hSw; (try dsimp only at hSw); go_simp; try (with_reducible rfl))
        try simp only [Act.put, List.setIfInBounds_toArray, List.set_cons_zero, List.set_cons_succ]
        refine htake (i := 9) (v := ?v23) rfl (by kernel_rfl) (by kernel_rfl) (by kernel_rfl) (fun _ _ _ h => h) (Or.inl ⟨by rfl, ?hy23⟩) (by assumption) ?_
        case hy23 => (intro w hSw; (try dsimp only at hSw); go_simp; try (with_reducible rfl))
        try simp only [Act.put, List.setIfInBounds_toArray, List.set_cons_zero, List.set_cons_succ]
        refine htake (i := 10) (v := ?v24) rfl (by kernel_rfl) (by kernel_rfl) (by kernel_rfl) (fun _ _ _ h => h) (Or.inl ⟨by rfl, ?hy24⟩) (by assumption) ?_
        case hy24 => (intro w hSw; (try dsimp only at hSw); go_simp; try (with_reducible rfl))
        try simp only [Act.put, List.setIfInBounds_toArray, List.set_cons_zero, List.set_cons_succ]
        refine htake (i := 11) (v := ?v25) rfl (by kernel_rfl) (by kernel_rfl) (by kernel_rfl) (fun _ _ _ h => h) (Or.inl ⟨by rfl, ?hy25⟩) (by assumption) ?_
        case hy25 => (intro w hSw; (try dsimp only at hSw); go_simp; try (with_reducible rfl))
        try simp only [Act.put, List.setIfInBounds_toArray, List.set_cons_zero, List.set_cons_succ]
        refine htake (i := 12) (v := ?v26) rfl (by kernel_rfl) (by kernel_rfl) (by kernel_rfl) (fun _ _ _ h => h) (Or.inl ⟨by rfl, ?hy26⟩) (by assumption) ?_
        case hy26 => (intro w hSw; (try dsimp only at hSw); go_simp; try (with_reducible rfl))
        try simp only [Act.put, List.setIfInBounds_toArray, List.set_cons_zero, List.set_cons_succ]
        refine htake (i := 13) (v := ?v27) rfl (by kernel_rfl) (by kernel_rfl) (by kernel_rfl) (fun _ _ _ h => h) (Or.inl ⟨by rfl, ?hy27⟩) (by assumption) ?_
        case hy27 => (intro w hSw; (try dsimp only at hSw); go_simp; try (with_reducible rfl))
        try simp only [Act.put, List.setIfInBounds_toArray, List.set_cons_zero, List.set_cons_succ]
        refine htake (i := 14) (v := ?v28) rfl (by kernel_rfl) (by kernel_rfl) (by kernel_rfl) (fun _ _ _ h => h) (Or.inl ⟨by rfl, ?hy28⟩) (by assumption) ?_
        case hy28 => (intro w hSw; (try dsimp only at hSw); go_simp; try (with_reducible rfl))
        try simp only [Act.put, List.setIfInBounds_toArray, List.set_cons_zero, List.set_cons_succ]
        refine wpAnyH_ready (rs := [7]) (by kernel_rfl) (by simp) ?_
        refine hcons rfl (fun K hK => ?_) (AllReadyH.nil)
        go_simp
        (with_reducible refine (HA.out _).mono ?_); rintro e w4 ⟨rfl, rfl⟩
        refine hK.out _ _ ?_ (fun hHeld => ?_)
        · (try dsimp only); exact HS.out _ (fun _ _ _ _ => rfl)
        clear hK K
        try simp only [Act.put, List.setIfInBounds_toArray, List.set_cons_zero, List.set_cons_succ]
        refine wpAnyH_ready (rs := [15]) (by kernel_rfl) (by simp) ?_
        refine hcons rfl (fun K hK => ?_) (AllReadyH.nil)
        go_simp
        (with_reducible refine (HB.out _).mono ?_); rintro e w4 ⟨rfl, rfl⟩
        refine hK.out _ _ ?_ (fun hHeld => ?_)
        · (try dsimp only); exact HS.out _ (fun _ _ _ _ => rfl)
        clear hK K
        try simp only [Act.put, List.setIfInBounds_toArray, List.set_cons_zero, List.set_cons_succ]
        refine htake (i := 16) (v := ?v29) rfl (by kernel_rfl) (by kernel_rfl) (by kernel_rfl) (fun _ _ _ h => h) (Or.inl ⟨by rfl, ?hy29⟩) (by assumption) ?_
        case hy29 => (intro w hSw; (try dsimp only at hSw); go_simp; try (with_reducible rfl))
        try simp only [Act.put, List.setIfInBounds_toArray, List.set_cons_zero, List.set_cons_succ]
        refine wpAnyH_ready (rs := [17]) (by kernel_rfl) (by simp) ?_
        refine hcons rfl (fun K hK => ?_) (AllReadyH.nil)
        go_simp
        skip
        refine hK.out _ _ ?_ (fun hHeld => ?_)
        · (try dsimp only); exact HS.out _ (fun b o h hne => (World.cell?_setCell_other _ _ _ _ (by intro e; injection e with e; exact hne e.symm)).trans (World.cell?_setCell_other _ _ _ _ (by intro e; injection e with e; exact hne e.symm)))
        clear hK K
        try simp only [Act.put, List.setIfInBounds_toArray, List.set_cons_zero, List.set_cons_succ]
        refine htake (i := 18) (v := ?v30) rfl (by kernel_rfl) (by kernel_rfl) (by kernel_rfl) (fun _ _ _ h => h) (Or.inl ⟨by rfl, ?hy30⟩) (by assumption) ?_
        case hy30 => (intro w hSw; (try dsimp only at hSw); go_simp; try (with_reducible rfl))
        try simp only [Act.put, List.setIfInBounds_toArray, List.set_cons_zero, List.set_cons_succ]
        refine wpAnyH_done (by kernel_rfl) ?_ _
        refine NoPanic.normal ?_
        iterate 20 (try clear hHeld)
        all_goals
          go_wp2
          refine bodyPost_ret (results_cellA rfl rfl (loadS ((Z2.out.setAll [.int .i64 lo, .int .i64 hi] rfl).drew))) rfl ?_
          refine ⟨?_, (below_setCells (b := w.heap.size + 1) (by omega) [.int .i64 lo, .int .i64 hi] 0 B2.out).drew⟩
          rw [E1.out]; rfl
end Go.Proofs.YtbhkglokdomajaaDoor
