import Derived.Test.YtfffhbolaimmdaaDoorR9
namespace Go.Proofs.YtfffhbolaimmdaaDoor
open Go.RowKit
theorem SBox.setOther {W : World} {b : Nat} {s : Store} (h : SBox W b s) {p : Addr} (hp : p.block ≠ b) (u : Value) : SBox (W.setCell p u) b s := by
  have hk : ∀ o, (W.setCell p u).cell? ⟨b, o, none⟩ = W.cell? ⟨b, o, none⟩ := fun o => World.cell?_setCell_other W p ⟨b, o, none⟩ u (fun e => hp (by rw [e]))
  exact ⟨by simpa [World.setCell] using h.lt, (hk 0).trans h.c0, (hk 1).trans h.c1, (hk 2).trans h.c2, (hk 3).trans h.c3⟩
theorem SBox.four {W : World} {b : Nat} {s : Store} (h : SBox W b s) : W.cell? ⟨b, 0, none⟩ = some (.slice s.A1 s.sheets.length s.c1) ∧ W.cell? ⟨b, 1, none⟩ = some (.slice s.A2 s.lics.length s.c2) ∧ W.cell? ⟨b, 2, none⟩ = some (.slice s.A3 s.makes.length s.c3) ∧ W.cell? ⟨b, 3, none⟩ = some (.slice s.A4 s.wishes.length s.c4) := ⟨h.c0, h.c1, h.c2, h.c3⟩
theorem SBox.drew {W : World} {b : Nat} {s : Store} (h : SBox W b s) : SBox W.drew b s := ⟨h.lt, h.c0, h.c1, h.c2, h.c3⟩
def RetP (p : Int × Int) (er : Int) (w : World) (e : Ending) (w' : World) : Prop := e = .returned (.tuple #[.agg #[.int .i64 p.1, .int .i64 p.2], .int .i64 er]) ∧ Below w.heap.size w w'
def profitS (s : Store) (st : Int) : Int × Int := if acceptedS s st = 0 then (gainS s st.toNat (loAt s), gainS s st.toNat (hiAt s)) else (0, 0)
set_option maxHeartbeats 1000000 in
set_option maxRecDepth 100000 in
theorem Profit_any (s : Store) (st : Int) (w : World) (hr : StoreAt w w.heap.size s) : Calls Tryd.prog 24 #[.agg #[.slice s.A1 s.sheets.length s.c1, .slice s.A2 s.lics.length s.c2, .slice s.A3 s.makes.length s.c3, .slice s.A4 s.wishes.length s.c4], .int .i64 st] w (RetP (profitS s st) (acceptedS s st) w) := by
  have hr' := Lib.hid (hr.next (((Below.refl _ _).alloc (Nat.le_refl _) (.cells #[.slice s.A1 s.sheets.length s.c1, .slice s.A2 s.lics.length s.c2, .slice s.A3 s.makes.length s.c3, .slice s.A4 s.wishes.length s.c4] 27)).alloc (by simp) (.cells #[.int .i64 0, .int .i64 0] 44)))
  have hx := (SBox.new w s 27).next ((Below.refl _ _).alloc (Nat.le_refl _) (.cells #[.int .i64 0, .int .i64 0] 44))
  have hsz : ((w.alloc (.cells #[.slice s.A1 s.sheets.length s.c1, .slice s.A2 s.lics.length s.c2, .slice s.A3 s.makes.length s.c3, .slice s.A4 s.wishes.length s.c4] 27)).alloc (.cells #[.int .i64 0, .int .i64 0] 44)).heap.size = w.heap.size + 2 := by simp
  have Hsz := Lib.hid hsz
  have p0 : ((w.alloc (.cells #[.slice s.A1 s.sheets.length s.c1, .slice s.A2 s.lics.length s.c2, .slice s.A3 s.makes.length s.c3, .slice s.A4 s.wishes.length s.c4] 27)).alloc (.cells #[.int .i64 0, .int .i64 0] 44)).cell? ⟨w.heap.size + 1, 0, none⟩ = some (.int .i64 0) := by simp [go_sem]
  have p1 : ((w.alloc (.cells #[.slice s.A1 s.sheets.length s.c1, .slice s.A2 s.lics.length s.c2, .slice s.A3 s.makes.length s.c3, .slice s.A4 s.wishes.length s.c4] 27)).alloc (.cells #[.int .i64 0, .int .i64 0] 44)).cell? ⟨w.heap.size + 1, 1, none⟩ = some (.int .i64 0) := by simp [go_sem]
  have pf : ∀ j, ((w.alloc (.cells #[.slice s.A1 s.sheets.length s.c1, .slice s.A2 s.lics.length s.c2, .slice s.A3 s.makes.length s.c3, .slice s.A4 s.wishes.length s.c4] 27)).alloc (.cells #[.int .i64 0, .int .i64 0] 44)).frozen? ⟨w.heap.size + 1, j, none⟩ = false := fun j => by simp [go_sem]
  have Hbw := Lib.hid (show Below w.heap.size w ((w.alloc (.cells #[.slice s.A1 s.sheets.length s.c1, .slice s.A2 s.lics.length s.c2, .slice s.A3 s.makes.length s.c3, .slice s.A4 s.wishes.length s.c4] 27)).alloc (.cells #[.int .i64 0, .int .i64 0] 44)) from by go_grown)
  clear hr hsz
  go_enter Tryd.func24, Tryd.ntmps24
  go_wp2_with fail
  generalize ((w.alloc (.cells #[.slice s.A1 s.sheets.length s.c1, .slice s.A2 s.lics.length s.c2, .slice s.A3 s.makes.length s.c3, .slice s.A4 s.wishes.length s.c4] 27)).alloc (.cells #[.int .i64 0, .int .i64 0] 44)) = V at *
  refine (accepted_any s st _ hr'.out).mono ?_
  rintro e w1 ⟨rfl, hb1⟩
  have q0 := (hb1.cell (p := ⟨w.heap.size + 1, 0, none⟩) (by rw [Hsz.out]; simp)).trans p0
  have q1 := (hb1.cell (p := ⟨w.heap.size + 1, 1, none⟩) (by rw [Hsz.out]; simp)).trans p1
  have qf := fun j => (hb1.frozen (p := ⟨w.heap.size + 1, j, none⟩) (by rw [Hsz.out]; simp)).trans (pf j)
  have hz2 : w.heap.size + 1 < w1.heap.size := by have := hb1.size; have := Hsz.out; omega
  have hx1 := hx.next hb1
  have Hbb := Lib.hid (Hbw.out.trans (hb1.mono Hbw.out.size))
  have Hr1 := Lib.hid (hr'.out.next hb1)
  have f0 := qf 0
  have f1 := qf 1
  clear hb1 hx p0 p1 pf qf
  by_cases hc : acceptedS s st = 0
  · obtain ⟨ok, h0, h1⟩ := accepted_ok (.inl hc)
    have h2 := powI_bd (n := s.wishes.length) (by have := ok.nw; omega)
    have h3 := ok.ns
    obtain ⟨set, rfl⟩ := Int.eq_ofNat_of_zero_le h0
    have He := Lib.hid (show RetP (profitS s (set : Int)) (acceptedS s (set : Int)) w = RetP (gainS s set (loAt s), gainS s set (hiAt s)) 0 w by unfold profitS; rw [hc]; rfl)
    have Hlo := Lib.hid (fun k (hk : k < s.sheets.length) => loAt_bd ok hk)
    have Hhi := Lib.hid (fun k (hk : k < s.sheets.length) => hiAt_bd ok hk)
    simp only [hc]
    have Hok := Lib.hid ok
    have hz := hx1.lt
    have HX := Lib.hid hx1
    obtain ⟨-, S0, S1, S2, S3⟩ := id hx1
    have Q0 := Lib.hid q0
    have Q1 := Lib.hid q1
    have F0 := Lib.hid f0
    have F1 := Lib.hid f1
    clear hc ok hx1 q0 q1 f0 f1
    go_wp2_with fail
    refine wp_region_noPanic ?_
    refine wp_region_held_drew (S := (fun W => W.cell? ⟨w.heap.size, 0, none⟩ = some (.slice s.A1 s.sheets.length s.c1) ∧ W.cell? ⟨w.heap.size, 1, none⟩ = some (.slice s.A2 s.lics.length s.c2) ∧ W.cell? ⟨w.heap.size, 2, none⟩ = some (.slice s.A3 s.makes.length s.c3) ∧ W.cell? ⟨w.heap.size, 3, none⟩ = some (.slice s.A4 s.wishes.length s.c4))) (by kernel_rfl) ?_ (fun hHeld => ?_)
    · (try dsimp only); exact HX.out.drew.four
    refine htake (i := 0) (v := ?v1) rfl (by kernel_rfl) (by kernel_rfl) (by kernel_rfl) (fun _ _ _ h => h) (Or.inl ⟨by rfl, ?hy1⟩) (by assumption) ?_
    case hy1 => (intro w hSw; (try dsimp only at hSw); go_simp; try (with_reducible rfl))
    try simp only [Act.put, List.setIfInBounds_toArray, List.set_cons_zero, List.set_cons_succ]
    refine htake (i := 1) (v := ?v2) rfl (by kernel_rfl) (by kernel_rfl) (by kernel_rfl) (fun _ _ _ h => h) (Or.inl ⟨by rfl, ?hy2⟩) (by assumption) ?_
    case hy2 => (intro w hSw; (try dsimp only at hSw); go_simp; try (with_reducible rfl))
    try simp only [Act.put, List.setIfInBounds_toArray, List.set_cons_zero, List.set_cons_succ]
    refine htake (i := 2) (v := ?v3) rfl (by kernel_rfl) (by kernel_rfl) (by kernel_rfl) (fun _ _ _ h => h) (Or.inl ⟨by rfl, ?hy3⟩) (by assumption) ?_
    case hy3 => (intro w hSw; (try dsimp only at hSw); go_simp; try (with_reducible rfl))
    try simp only [Act.put, List.setIfInBounds_toArray, List.set_cons_zero, List.set_cons_succ]
    refine htake (i := 5) (v := ?v4) rfl (by kernel_rfl) (by kernel_rfl) (by kernel_rfl) (fun _ _ _ h => h) (Or.inl ⟨by rfl, ?hy4⟩) (by assumption) ?_
    case hy4 => (intro w hSw; (try dsimp only at hSw); go_simp; try (with_reducible rfl))
    try simp only [Act.put, List.setIfInBounds_toArray, List.set_cons_zero, List.set_cons_succ]
    refine htake (i := 6) (v := ?v5) rfl (by kernel_rfl) (by kernel_rfl) (by kernel_rfl) (fun _ _ _ h => h) (Or.inl ⟨by rfl, ?hy5⟩) (by assumption) ?_
    case hy5 => (intro w hSw; (try dsimp only at hSw); go_simp; try (with_reducible rfl))
    try simp only [Act.put, List.setIfInBounds_toArray, List.set_cons_zero, List.set_cons_succ]
    refine htake (i := 7) (v := ?v6) rfl (by kernel_rfl) (by kernel_rfl) (by kernel_rfl) (fun _ _ _ h => h) (Or.inl ⟨by rfl, ?hy6⟩) (by assumption) ?_
    case hy6 => (intro w hSw; (try dsimp only at hSw); go_simp; try (with_reducible rfl))
    try simp only [Act.put, List.setIfInBounds_toArray, List.set_cons_zero, List.set_cons_succ]
    refine wpAnyH_ready (rs := [3]) (by kernel_rfl) (by simp) ?_
    refine hcons rfl (fun K hK => ?_) (AllReadyH.nil)
    go_simp
    (with_reducible refine (few_any s _ Hok.out ?_).mono ?_); (exact Hr1.out.next (Below.refl _ _).drew); rintro e w2 ⟨A2, d2, rfl, hA2, hb2⟩; have hk2 : Below w1.heap.size w1 w2 := (Below.refl _ _).drew.trans hb2
    refine hK.out _ _ ?_ (fun hHeld => ?_)
    · (try dsimp only); exact (HX.out.next hk2).four
    clear hK K
    try simp only [Act.put, List.setIfInBounds_toArray, List.set_cons_zero, List.set_cons_succ]
    refine wpAnyH_ready (rs := [4]) (by kernel_rfl) (by simp) ?_
    refine hcons rfl (fun K hK => ?_) (AllReadyH.nil)
    go_simp
    (with_reducible refine (Gain_any s set (loAt s) A2 d2 _ (by omega) Hok.out ?_ Hlo.out hA2).mono ?_); (exact Hr1.out.next hk2); rintro e w3 ⟨rfl, hb3⟩; have hk3 := below_step hb3 hk2 (Nat.le_refl w1.heap.size)
    refine hK.out _ _ ?_ (fun hHeld => ?_)
    · (try dsimp only); exact (HX.out.next hk3).four
    clear hK K
    try simp only [Act.put, List.setIfInBounds_toArray, List.set_cons_zero, List.set_cons_succ]
    refine wpAnyH_ready (rs := [8]) (by kernel_rfl) (by simp) ?_
    refine hcons rfl (fun K hK => ?_) (AllReadyH.nil)
    go_simp
    (with_reducible refine (all_any s _ Hok.out ?_).mono ?_); (exact Hr1.out.next hk3); rintro e w4 ⟨A4, d4, rfl, hA4, hb4⟩; have hk4 := below_step hb4 hk3 (Nat.le_refl w1.heap.size)
    refine hK.out _ _ ?_ (fun hHeld => ?_)
    · (try dsimp only); exact (HX.out.next hk4).four
    clear hK K
    try simp only [Act.put, List.setIfInBounds_toArray, List.set_cons_zero, List.set_cons_succ]
    refine wpAnyH_ready (rs := [9]) (by kernel_rfl) (by simp) ?_
    refine hcons rfl (fun K hK => ?_) (AllReadyH.nil)
    go_simp
    (with_reducible refine (Gain_any s set (hiAt s) A4 d4 _ (by omega) Hok.out ?_ Hhi.out hA4).mono ?_); (exact Hr1.out.next hk4); rintro e w5 ⟨rfl, hb5⟩; have hk5 := below_step hb5 hk4 (Nat.le_refl w1.heap.size); have y0 := ((bcell hk5).1 _ _ hz2).trans Q0.out; have y1 := ((bcell hk5).1 _ _ hz2).trans Q1.out; have z0 := ((bcell hk5).2 _ _ hz2).trans F0.out; have z1 := ((bcell hk5).2 _ _ hz2).trans F1.out
    refine hK.out _ _ ?_ (fun hHeld => ?_)
    · (try dsimp only); exact (HX.out.next hk5).four
    clear hK K
    try simp only [Act.put, List.setIfInBounds_toArray, List.set_cons_zero, List.set_cons_succ]
    refine htake (i := 10) (v := ?v7) rfl (by kernel_rfl) (by kernel_rfl) (by kernel_rfl) (fun _ _ _ h => h) (Or.inl ⟨by rfl, ?hy7⟩) (by assumption) ?_
    case hy7 => (intro w hSw; (try dsimp only at hSw); go_simp; try (with_reducible rfl))
    try simp only [Act.put, List.setIfInBounds_toArray, List.set_cons_zero, List.set_cons_succ]
    refine wpAnyH_ready (rs := [11]) (by kernel_rfl) (by simp) ?_
    refine hcons rfl (fun K hK => ?_) (AllReadyH.nil)
    go_simp
    refine hK.out _ _ ?_ (fun hHeld => ?_)
    · (try dsimp only); exact (((HX.out.next hk5).setOther (p := ⟨w.heap.size + 1, 0, none⟩) (by simp) _).setOther (p := ⟨w.heap.size + 1, 1, none⟩) (by simp) _).four
    clear hK K
    try simp only [Act.put, List.setIfInBounds_toArray, List.set_cons_zero, List.set_cons_succ]
    refine htake (i := 12) (v := ?v8) rfl (by kernel_rfl) (by kernel_rfl) (by kernel_rfl) (fun _ _ _ h => h) (Or.inl ⟨by rfl, ?hy8⟩) (by assumption) ?_
    case hy8 => (intro w hSw; (try dsimp only at hSw); go_simp; try (with_reducible rfl))
    try simp only [Act.put, List.setIfInBounds_toArray, List.set_cons_zero, List.set_cons_succ]
    refine wpAnyH_done (by kernel_rfl) ?_ _
    refine NoPanic.normal ?_
    have hbe := (((Hbb.out.trans (hk5.mono Hbb.out.size)).setCell (p := ⟨w.heap.size + 1, 0, none⟩) (by simp) (.int .i64 (gainS s set (loAt s)))).setCell (p := ⟨w.heap.size + 1, 1, none⟩) (by simp) (.int .i64 (gainS s set (hiAt s))))
    go_wp2
    refine bodyPost_ret (v := .tuple #[.agg #[.int .i64 (gainS s set (loAt s)), .int .i64 (gainS s set (hiAt s))], .int .i64 0]) (by simp [results, Tryd.results24, go_sem, y0, y1]) rfl ?_
    rw [He.out]
    exact ⟨rfl, hbe⟩
  · have hc' : (acceptedS s st != 0) = true := by simpa using hc
    have He := Lib.hid (show RetP (profitS s st) (acceptedS s st) w = RetP (0, 0) (acceptedS s st) w by rw [profitS, if_neg hc])
    go_wp2
    have hbe := ((Hbb.out.setCell (p := ⟨w.heap.size + 1, 0, none⟩) (by simp) (.int .i64 0)).setCell (p := ⟨w.heap.size + 1, 1, none⟩) (by simp) (.int .i64 0))
    refine bodyPost_ret (v := .tuple #[.agg #[.int .i64 0, .int .i64 0], .int .i64 (acceptedS s st)]) (by simp [results, Tryd.results24, go_sem, q0, q1]) rfl ?_
    rw [He.out]
    exact ⟨rfl, hbe⟩
end Go.Proofs.YtfffhbolaimmdaaDoor
