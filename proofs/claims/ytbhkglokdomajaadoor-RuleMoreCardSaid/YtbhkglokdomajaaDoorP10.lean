import Derived.Test.YtbhkglokdomajaaDoorP9
namespace Go.Proofs.YtbhkglokdomajaaDoor
open Go.RowKit
/-! The program: Lasts. -/
set_option maxRecDepth 100000 in
set_option maxHeartbeats 400000 in
theorem Lasts_any (d : Die) (k x : Int) (w : World) (hd : DieAt w w.heap.size d) : Calls Tryd.prog 16 #[.agg #[.slice d.A d.blades.length d.c, .int .i64 d.bound, .int .i64 d.stop, .int .i64 d.bend], .int .i64 k, .int .i64 x] w (Ret (retSpan (lastsS d k x)) w) := by
  have HO := Lib.hid (show lastsS d k x = if dieS d = false then ((0, 0), 1) else if inS k 0 (d.blades.length - 1) = false ∨ inS x 0 200000 = false then ((0, 0), 2) else if x < (bladeAt d k.toNat).fh then ((0, 0), 4) else ((lastsN (bladeAt d k.toNat).fh (bladeAt d k.toNat).wh x, lastsN (bladeAt d k.toNat).fl (bladeAt d k.toNat).wl x), 0) from rfl)
  have hb0 := (nxA w (.cells #[.slice d.A d.blades.length d.c, .int .i64 d.bound, .int .i64 d.stop, .int .i64 d.bend] 24)).trans ((nxA (w.alloc (.cells #[.slice d.A d.blades.length d.c, .int .i64 d.bound, .int .i64 d.stop, .int .i64 d.bend] 24)) (.cells #[.int .i64 0, .int .i64 0] 28)).mono (by simp))
  have B0 := Lib.hid hb0
  have HD := Lib.hid (hd.next hb0)
  have X0 := Lib.hid ((Bx.new w #[.slice d.A d.blades.length d.c, .int .i64 d.bound, .int .i64 d.stop, .int .i64 d.bend] 24).next (nxA _ (.cells #[.int .i64 0, .int .i64 0] 28)))
  have Z0 := Lib.hid (show Bx ((w.alloc (.cells #[.slice d.A d.blades.length d.c, .int .i64 d.bound, .int .i64 d.stop, .int .i64 d.bend] 24)).alloc (.cells #[.int .i64 0, .int .i64 0] 28)) (w.heap.size + 1) zspan from by
    have := Bx.new (w.alloc (.cells #[.slice d.A d.blades.length d.c, .int .i64 d.bound, .int .i64 d.stop, .int .i64 d.bend] 24)) #[.int .i64 0, .int .i64 0] 28
    rw [World.size_alloc] at this
    exact this)
  have l1 := hd.l1
  have hdw := hd
  clear hd hb0
  go_enter Tryd.func16, Tryd.ntmps16
  go_wp2_with fail
  generalize ((w.alloc (.cells #[.slice d.A d.blades.length d.c, .int .i64 d.bound, .int .i64 d.stop, .int .i64 d.bend] 24)).alloc (.cells #[.int .i64 0, .int .i64 0] 28)) = V at *
  refine (isDie_any d _ HD.out).mono ?_
  rintro e V1 ⟨rfl, hb⟩
  have B1 := Lib.hid (B0.out.trans (hb.mono B0.out.size))
  have D1 := Lib.hid (HD.out.next hb)
  have X1 := Lib.hid (X0.out.next hb)
  have Z1 := Lib.hid (Z0.out.next hb)
  clear hb B0 X0 Z0 HD
  have c0 := X1.out.c 0 _ rfl
  have c1 := X1.out.c 1 _ rfl
  have c2 := X1.out.c 2 _ rfl
  have c3 := X1.out.c 3 _ rfl
  have z0 := Z1.out.c 0 _ rfl
  have z1 := Z1.out.c 1 _ rfl
  have f0 := Z1.out.fr 0
  have f1 := Z1.out.fr 1
  cases hds : dieS d
  · have E1 := Lib.hid (show lastsS d k x = ((0, 0), 1) by rw [HO.out, hds]; rfl)
    go_wp2
    refine bodyPost_ret (results_cellA rfl rfl (loadS (Z1.out.setAll zspan rfl))) rfl ?_
    refine ⟨?_, below_setCells (b := w.heap.size + 1) (by omega) zspan 0 B1.out⟩
    rw [E1.out]; rfl
  · have ok := (okd_iff d).1 hds
    rcases chain2 (inS k 0 (d.blades.length - 1)) (inS x 0 200000) with a1 | ⟨a1, a2⟩ | ⟨a1, a2⟩
    · have E1 := Lib.hid (show lastsS d k x = ((0, 0), 2) by rw [HO.out, hds, a1]; rfl)
      go_wp2_with (go_at_call 40; (with_reducible refine (within_any _ _ _ _).mono ?_); rintro e w' ⟨rfl, rfl⟩)
      refine bodyPost_ret (results_cellA rfl rfl (loadS (Z1.out.setAll zspan rfl))) rfl ?_
      refine ⟨?_, below_setCells (b := w.heap.size + 1) (by omega) zspan 0 B1.out⟩
      rw [E1.out]; rfl
    · have E1 := Lib.hid (show lastsS d k x = ((0, 0), 2) by rw [HO.out, hds, a2]; simp)
      go_wp2_with (go_at_call 40; (with_reducible refine (within_any _ _ _ _).mono ?_); rintro e w' ⟨rfl, rfl⟩)
      refine bodyPost_ret (results_cellA rfl rfl (loadS (Z1.out.setAll zspan rfl))) rfl ?_
      refine ⟨?_, below_setCells (b := w.heap.size + 1) (by omega) zspan 0 B1.out⟩
      rw [E1.out]; rfl
    · have hk : 0 ≤ k ∧ k < d.blades.length := by simp [inS] at a1; omega
      have hx : 0 ≤ x ∧ x ≤ 200000 := by simpa [inS] using a2
      obtain ⟨n, rfl⟩ : ∃ n : Nat, k = (n : Int) := ⟨k.toNat, by omega⟩
      have hn : n < d.blades.length := by omega
      have E0 := Lib.hid (show lastsS d n x = if x < (bladeAt d n).fh then ((0, 0), 4) else ((lastsN (bladeAt d n).fh (bladeAt d n).wh x, lastsN (bladeAt d n).fl (bladeAt d n).wl x), 0) by rw [HO.out, hds, a1, a2]; simp)
      obtain ⟨b, off, e, hbw, -⟩ := hdw.at hn
      rw [e] at c0
      have He := Lib.hid e
      obtain ⟨b', off', e', hbk, h0, h1, h2, h3⟩ := D1.out.at hn
      rw [e] at e'
      injection e' with e'
      injection e' with e1 e2
      subst e1 e2
      have okb := ok.at hn
      have b2 := okb.f
      have b3 := okb.w
      by_cases hfx : x < (bladeAt d n).fh
      · have d1 : decide (x < (bladeAt d n).fh) = true := decide_eq_true hfx
        have E1 := Lib.hid (show lastsS d n x = ((0, 0), 4) by rw [E0.out, if_pos hfx])
        clear okb
        generalize bladeAt d n = s at *
        go_wp2_with (go_at_call 40; (with_reducible refine (within_any _ _ _ _).mono ?_); rintro e w' ⟨rfl, rfl⟩)
        refine bodyPost_ret (results_cellA rfl rfl (loadS (Z1.out.setAll zspan rfl))) rfl ?_
        refine ⟨?_, below_setCells (b := w.heap.size + 1) (by omega) zspan 0 B1.out⟩
        rw [E1.out]; rfl
      have d1 : decide (x < (bladeAt d n).fh) = false := decide_eq_false hfx
      have E1 := Lib.hid (show lastsS d n x = ((lastsN (bladeAt d n).fh (bladeAt d n).wh x, lastsN (bladeAt d n).fl (bladeAt d n).wl x), 0) by rw [E0.out, if_neg hfx])
      go_wp2_with (first | (go_at_call 40; (with_reducible refine (within_any _ _ _ _).mono ?_); rintro e w' ⟨rfl, rfl⟩) | fail)
      refine (ends_any V1).mono ?_
      rintro e V2 ⟨rfl, hb⟩
      have hA1 := nxA V2 (.cells #[.func (.func 62) #[] #[]] 77)
      have hA := hA1.trans ((nxA (V2.alloc (.cells #[.func (.func 62) #[] #[]] 77)) (.cells #[.func (.func 63) #[] #[]] 77)).mono hA1.size)
      have hbA := hb.trans (hA.mono hb.size)
      have B3 := Lib.hid (B1.out.trans (hbA.mono B1.out.size))
      have D3 := Lib.hid (D1.out.next hbA)
      have X3 := Lib.hid (X1.out.next hbA)
      have Z3 := Lib.hid (Z1.out.next hbA)
      have L3 := Lib.hid ((Bx.new V2 #[.func (.func 62) #[] #[]] 77).next (nxA _ (.cells #[.func (.func 63) #[] #[]] 77)))
      have U3 := Lib.hid (show Bx ((V2.alloc (.cells #[.func (.func 62) #[] #[]] 77)).alloc (.cells #[.func (.func 63) #[] #[]] 77)) (V2.heap.size + 1) [.func (.func 63) #[] #[]] from by
        have := Bx.new (V2.alloc (.cells #[.func (.func 62) #[] #[]] 77)) #[.func (.func 63) #[] #[]] 77
        rw [World.size_alloc] at this
        exact this)
      have hz := Z1.out.lt
      have hz2 := hb.size
      have HOL := Lib.hid (fun W => lastsE_any 62 selLo endLo (bladeAt d n) x W (by unfold selLo; omega) (by omega) (by unfold selLo; omega))
      have HOH := Lib.hid (fun W => lastsE_any 63 selHi endHi (bladeAt d n) x W (by unfold selHi; omega) (by omega) (by unfold selHi; omega))
      have HE1 := Lib.hid (show lastsN (selLo (bladeAt d n).fl (bladeAt d n).fh) (selLo (bladeAt d n).wl (bladeAt d n).wh) x = lastsN (bladeAt d n).fl (bladeAt d n).wl x from rfl)
      have HE2 := Lib.hid (show lastsN (selHi (bladeAt d n).fl (bladeAt d n).fh) (selHi (bladeAt d n).wl (bladeAt d n).wh) x = lastsN (bladeAt d n).fh (bladeAt d n).wh x from rfl)
      rw [HE1.out] at HOL
      rw [HE2.out] at HOH
      clear hA1 hA hbA hb B1 D1 X1 Z1 c0 c1 c2 c3 z0 z1 f0 f1 okb b2 b3 HE1 HE2 h0 h1 h2 h3 hbk hfx d1 E0
      go_wp2_with fail
      generalize (V2.alloc (.cells #[.func (.func 62) #[] #[]] 77)).alloc (.cells #[.func (.func 63) #[] #[]] 77) = V3 at *
      generalize lastsN (bladeAt d n).fl (bladeAt d n).wl x = lo at *
      generalize lastsN (bladeAt d n).fh (bladeAt d n).wh x = hi at *
      obtain ⟨b', off', e', hbk, h0, h1, h2, h3⟩ := D3.out.at hn
      rw [He.out] at e'
      injection e' with e'
      injection e' with e1 e2
      subst e1 e2
      have c0 := X3.out.c 0 _ rfl
      rw [He.out] at c0
      have hl0 := L3.out.lt
      have hu0 := U3.out.lt
      have hx0 := X3.out.lt
      generalize bladeAt d n = s at *
      have H := Lib.hid (show ∀ W' : World, (∀ b o, b < V3.heap.size → b ≠ w.heap.size + 1 → W'.cell? ⟨b, o, none⟩ = V3.cell? ⟨b, o, none⟩) → (W'.cell? ⟨V2.heap.size, 0, none⟩ = some (.func (.func 62) #[] #[]) ∧ W'.cell? ⟨V2.heap.size + 1, 0, none⟩ = some (.func (.func 63) #[] #[]) ∧ W'.cell? ⟨w.heap.size, 0, none⟩ = some (.slice (some ⟨b, off, none⟩) d.blades.length d.c) ∧ W'.cell? ⟨b, off + n * 4, none⟩ = some (.int .i64 s.fl) ∧ W'.cell? ⟨b, off + n * 4 + 1, none⟩ = some (.int .i64 s.fh) ∧ W'.cell? ⟨b, off + n * 4 + 2, none⟩ = some (.int .i64 s.wl) ∧ W'.cell? ⟨b, off + n * 4 + 3, none⟩ = some (.int .i64 s.wh)) from fun W' h =>
        ⟨(h _ _ hl0 (by omega)).trans (L3.out.c 0 _ rfl), (h _ _ hu0 (by omega)).trans (U3.out.c 0 _ rfl), (h _ _ hx0 (by omega)).trans c0, (h _ _ hbk (by omega)).trans h0, (h _ _ hbk (by omega)).trans h1, (h _ _ hbk (by omega)).trans h2, (h _ _ hbk (by omega)).trans h3⟩)
      have hc : Below V3.heap.size V3 V3.drew := (Below.refl _ _).drew
      clear c0 h0 h1 h2 h3
      refine wp_region_noPanic ?_
      refine wp_region_held_drew (S := (fun W' => W'.cell? ⟨V2.heap.size, 0, none⟩ = some (.func (.func 62) #[] #[]) ∧ W'.cell? ⟨V2.heap.size + 1, 0, none⟩ = some (.func (.func 63) #[] #[]) ∧ W'.cell? ⟨w.heap.size, 0, none⟩ = some (.slice (some ⟨b, off, none⟩) d.blades.length d.c) ∧ W'.cell? ⟨b, off + n * 4, none⟩ = some (.int .i64 s.fl) ∧ W'.cell? ⟨b, off + n * 4 + 1, none⟩ = some (.int .i64 s.fh) ∧ W'.cell? ⟨b, off + n * 4 + 2, none⟩ = some (.int .i64 s.wl) ∧ W'.cell? ⟨b, off + n * 4 + 3, none⟩ = some (.int .i64 s.wh))) (by kernel_rfl) ?_ (fun hHeld => ?_)
      · (try dsimp only); exact H.out _ (fun b o h _ => (bcell hc).1 _ _ h)
      refine htake (i := 0) (v := ?v1) rfl (by kernel_rfl) (by kernel_rfl) (by kernel_rfl) (fun _ _ _ h => h) (Or.inl ⟨by rfl, ?hy1⟩) (by assumption) ?_
      case hy1 => (intro w hSw; (try dsimp only at hSw); go_simp; try (with_reducible rfl))
      try simp only [Act.put, List.setIfInBounds_toArray, List.set_cons_zero, List.set_cons_succ]
      refine htake (i := 1) (v := ?v2) rfl (by kernel_rfl) (by kernel_rfl) (by kernel_rfl) (fun _ _ _ h => h) (Or.inl ⟨by rfl, ?hy2⟩) (by assumption) ?_
      case hy2 => (intro w hSw; (try dsimp only at hSw); go_simp; try (with_reducible rfl))
      try simp only [Act.put, List.setIfInBounds_toArray, List.set_cons_zero, List.set_cons_succ]
      refine htake (i := 2) (v := ?v3) rfl (by kernel_rfl) (by kernel_rfl) (by kernel_rfl) (fun _ _ _ h => h) (Or.inl ⟨by rfl, ?hy3⟩) (by assumption) ?_
      case hy3 => (intro w hSw; (try dsimp only at hSw); go_simp; try (with_reducible rfl))
      try simp only [Act.put, List.setIfInBounds_toArray, List.set_cons_zero, List.set_cons_succ]
      refine htake (i := 3) (v := ?v4) rfl (by kernel_rfl) (by kernel_rfl) (by kernel_rfl) (fun _ _ _ h => h) (Or.inl ⟨by rfl, ?hy4⟩) (by assumption) ?_
      case hy4 => (intro w hSw; (try dsimp only at hSw); go_simp; try (with_reducible rfl))
      try simp only [Act.put, List.setIfInBounds_toArray, List.set_cons_zero, List.set_cons_succ]
      refine htake (i := 4) (v := ?v5) rfl (by kernel_rfl) (by kernel_rfl) (by kernel_rfl) (fun _ _ _ h => h) (Or.inl ⟨by rfl, ?hy5⟩) (by assumption) ?_
      case hy5 => (intro w hSw; (try dsimp only at hSw); go_simp; try (with_reducible rfl))
      try simp only [Act.put, List.setIfInBounds_toArray, List.set_cons_zero, List.set_cons_succ]
      refine htake (i := 5) (v := ?v6) rfl (by kernel_rfl) (by kernel_rfl) (by kernel_rfl) (fun _ _ _ h => h) (Or.inl ⟨by rfl, ?hy6⟩) (by assumption) ?_
      case hy6 => (intro w hSw; (try dsimp only at hSw); go_simp; try (with_reducible rfl))
      try simp only [Act.put, List.setIfInBounds_toArray, List.set_cons_zero, List.set_cons_succ]
      refine htake (i := 6) (v := ?v7) rfl (by kernel_rfl) (by kernel_rfl) (by kernel_rfl) (fun _ _ _ h => h) (Or.inl ⟨by rfl, ?hy7⟩) (by assumption) ?_
      case hy7 => (intro w hSw; (try dsimp only at hSw); go_simp; try (with_reducible rfl))
      try simp only [Act.put, List.setIfInBounds_toArray, List.set_cons_zero, List.set_cons_succ]
      refine htake (i := 8) (v := ?v8) rfl (by kernel_rfl) (by kernel_rfl) (by kernel_rfl) (fun _ _ _ h => h) (Or.inl ⟨by rfl, ?hy8⟩) (by assumption) ?_
      case hy8 => (intro w hSw; (try dsimp only at hSw); go_simp; try (with_reducible rfl))
      try simp only [Act.put, List.setIfInBounds_toArray, List.set_cons_zero, List.set_cons_succ]
      refine htake (i := 9) (v := ?v9) rfl (by kernel_rfl) (by kernel_rfl) (by kernel_rfl) (fun _ _ _ h => h) (Or.inl ⟨by rfl, ?hy9⟩) (by assumption) ?_
      case hy9 => (intro w hSw; (try dsimp only at hSw); go_simp; try (with_reducible rfl))
      try simp only [Act.put, List.setIfInBounds_toArray, List.set_cons_zero, List.set_cons_succ]
      refine htake (i := 10) (v := ?v10) rfl (by kernel_rfl) (by kernel_rfl) (by kernel_rfl) (fun _ _ _ h => h) (Or.inl ⟨by rfl, ?hy10⟩) (by assumption) ?_
      case hy10 => (intro w hSw; (try dsimp only at hSw); go_simp; try (with_reducible rfl))
      try simp only [Act.put, List.setIfInBounds_toArray, List.set_cons_zero, List.set_cons_succ]
      refine htake (i := 11) (v := ?v11) rfl (by kernel_rfl) (by kernel_rfl) (by kernel_rfl) (fun _ _ _ h => h) (Or.inl ⟨by rfl, ?hy11⟩) (by assumption) ?_
      case hy11 => (intro w hSw; (try dsimp only at hSw); go_simp; try (with_reducible rfl))
      try simp only [Act.put, List.setIfInBounds_toArray, List.set_cons_zero, List.set_cons_succ]
      refine htake (i := 12) (v := ?v12) rfl (by kernel_rfl) (by kernel_rfl) (by kernel_rfl) (fun _ _ _ h => h) (Or.inl ⟨by rfl, ?hy12⟩) (by assumption) ?_
      case hy12 => (intro w hSw; (try dsimp only at hSw); go_simp; try (with_reducible rfl))
      try simp only [Act.put, List.setIfInBounds_toArray, List.set_cons_zero, List.set_cons_succ]
      refine htake (i := 13) (v := ?v13) rfl (by kernel_rfl) (by kernel_rfl) (by kernel_rfl) (fun _ _ _ h => h) (Or.inl ⟨by rfl, ?hy13⟩) (by assumption) ?_
      case hy13 => (intro w hSw; (try dsimp only at hSw); go_simp; try (with_reducible rfl))
      try simp only [Act.put, List.setIfInBounds_toArray, List.set_cons_zero, List.set_cons_succ]
      refine htake (i := 14) (v := ?v14) rfl (by kernel_rfl) (by kernel_rfl) (by kernel_rfl) (fun _ _ _ h => h) (Or.inl ⟨by rfl, ?hy14⟩) (by assumption) ?_
      case hy14 => (intro w hSw; (try dsimp only at hSw); go_simp; try (with_reducible rfl))
      try simp only [Act.put, List.setIfInBounds_toArray, List.set_cons_zero, List.set_cons_succ]
      refine wpAnyH_ready (rs := [7]) (by kernel_rfl) (by simp) ?_
      refine hcons rfl (fun K hK => ?_) (AllReadyH.nil)
      go_simp
      (with_reducible refine (HOH.out _).mono ?_); rintro e w4 ⟨rfl, hb4⟩; replace hc := hc.trans (hb4.mono hc.size); clear hb4; have z0 := (Z3.out.next hc).c 0 _ rfl; have z1 := (Z3.out.next hc).c 1 _ rfl; have f0 := (Z3.out.next hc).fr 0; have f1 := (Z3.out.next hc).fr 1
      refine hK.out _ _ ?_ (fun hHeld => ?_)
      · (try dsimp only); exact H.out _ (fun b o h _ => (bcell hc).1 _ _ h)
      clear hK K
      try simp only [Act.put, List.setIfInBounds_toArray, List.set_cons_zero, List.set_cons_succ]
      refine wpAnyH_ready (rs := [15]) (by kernel_rfl) (by simp) ?_
      refine hcons rfl (fun K hK => ?_) (AllReadyH.nil)
      go_simp
      (with_reducible refine (HOL.out _).mono ?_); rintro e w5 ⟨rfl, hb5⟩; replace hc := hc.trans (hb5.mono hc.size); clear hb5; have z0 := (Z3.out.next hc).c 0 _ rfl; have z1 := (Z3.out.next hc).c 1 _ rfl; have f0 := (Z3.out.next hc).fr 0; have f1 := (Z3.out.next hc).fr 1
      refine hK.out _ _ ?_ (fun hHeld => ?_)
      · (try dsimp only); exact H.out _ (fun b o h _ => (bcell hc).1 _ _ h)
      clear hK K
      try simp only [Act.put, List.setIfInBounds_toArray, List.set_cons_zero, List.set_cons_succ]
      refine htake (i := 16) (v := ?v15) rfl (by kernel_rfl) (by kernel_rfl) (by kernel_rfl) (fun _ _ _ h => h) (Or.inl ⟨by rfl, ?hy15⟩) (by assumption) ?_
      case hy15 => (intro w hSw; (try dsimp only at hSw); go_simp; try (with_reducible rfl))
      try simp only [Act.put, List.setIfInBounds_toArray, List.set_cons_zero, List.set_cons_succ]
      refine wpAnyH_ready (rs := [17]) (by kernel_rfl) (by simp) ?_
      refine hcons rfl (fun K hK => ?_) (AllReadyH.nil)
      go_simp
      skip
      refine hK.out _ _ ?_ (fun hHeld => ?_)
      · (try dsimp only); exact H.out _ (fun b o h hne => (World.cell?_setCell_other _ _ _ _ (by intro e; injection e with e; exact hne e.symm)).trans ((World.cell?_setCell_other _ _ _ _ (by intro e; injection e with e; exact hne e.symm)).trans ((bcell hc).1 _ _ h)))
      clear hK K
      try simp only [Act.put, List.setIfInBounds_toArray, List.set_cons_zero, List.set_cons_succ]
      refine htake (i := 18) (v := ?v16) rfl (by kernel_rfl) (by kernel_rfl) (by kernel_rfl) (fun _ _ _ h => h) (Or.inl ⟨by rfl, ?hy16⟩) (by assumption) ?_
      case hy16 => (intro w hSw; (try dsimp only at hSw); go_simp; try (with_reducible rfl))
      try simp only [Act.put, List.setIfInBounds_toArray, List.set_cons_zero, List.set_cons_succ]
      refine wpAnyH_done (by kernel_rfl) ?_ _
      refine NoPanic.normal ?_
      iterate 20 (try clear hHeld)
      all_goals
        go_wp2
        refine bodyPost_ret (results_cellA rfl rfl (loadS ((Z3.out.next hc).setAll [.int .i64 hi, .int .i64 lo] rfl))) rfl ?_
        refine ⟨?_, below_setCells (b := w.heap.size + 1) (by omega) [.int .i64 hi, .int .i64 lo] 0 (B3.out.trans (hc.mono B3.out.size))⟩
        rw [E1.out]; rfl
end Go.Proofs.YtbhkglokdomajaaDoor
