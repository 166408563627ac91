import Derived.Test.YtfffhbolaimmdaaDoorP22
namespace Go.Proofs.YtfffhbolaimmdaaDoor
open Go.RowKit
def bestP (s : Store) : Int × Int := dfsS s s.wishes.length 0 0 (0, 0)
def R53 (s : Store) (w0 : World) (i : Value) (w : World) : Prop := ∃ k : Nat, k ≤ s.lics.length ∧ i = .int .i64 k ∧ Below w0.heap.size w0 w ∧ SBox w w0.heap.size s ∧ IBlk w (w0.heap.size + 1) 2 (fun _ => 0) ∧ IBlk w (w0.heap.size + 1 + 1) 5 (fun p => if p < k then (licN s p).copies else 0)
theorem iblk2 (w : World) (t : TypeId) : IBlk (w.alloc (.cells #[.int .i64 0, .int .i64 0] t)) w.heap.size 2 (fun _ => 0) := by
  refine ⟨by simp, fun j hj => ?_, fun j => by simp [go_sem]⟩
  match j, hj with
  | 0, _ => simp [go_sem]
  | 1, _ => simp [go_sem]
theorem IBlk.nth {W : World} {g n B : Nat} {f : Nat → Int} (h : IBlk W g n f) (hne : g ≠ B) (j : Nat) (v : Value) : IBlk (W.setCell ⟨B, j, none⟩ v) g n f :=
  ⟨by simpa [World.setCell] using h.lt, fun i hi => (World.cell?_setCell_other _ _ _ _ (by intro e; injection e with e; exact hne e.symm)).trans (h.cell i hi), fun i => by rw [World.frozen?_setCell]; exact h.free i⟩
theorem IBlk.congr' {W : World} {g n : Nat} {f f' : Nat → Int} (h : IBlk W g n f) (e : ∀ k, k < n → f' k = f k) : IBlk W g n f' := ⟨h.lt, fun j hj => by rw [e j hj]; exact h.cell j hj, h.free⟩
theorem IBlk.less {W : World} {g n m : Nat} {f : Nat → Int} (h : IBlk W g n f) (hm : m ≤ n) : IBlk W g m f := ⟨h.lt, fun j hj => h.cell j (by omega), h.free⟩
theorem StoreAt.licL {w : World} {B : Nat} {s : Store} (h : StoreAt w B s) {k : Nat} (hk : k < s.lics.length) :
    ∃ b off, s.A2 = some ⟨b, off, none⟩ ∧ b < B ∧ w.cell? ⟨b, off + k * 4, none⟩ = some (.int .i64 (licN s k).copies) ∧ w.cell? ⟨b, off + k * 4 + 1, none⟩ = some (.int .i64 (licN s k).lo) ∧
      w.cell? ⟨b, off + k * 4 + 2, none⟩ = some (.int .i64 (licN s k).hi) ∧ w.cell? ⟨b, off + k * 4 + 3, none⟩ = some (.int .i64 (licN s k).fee) := by
  obtain ⟨b, off, e, hb, hc⟩ := h.lics.at hk ⟨0, 0, 0, 0⟩
  exact ⟨b, off, e, hb, hc 0 _ rfl, hc 1 _ rfl, hc 2 _ rfl, hc 3 _ rfl⟩
set_option maxRecDepth 100000 in
set_option maxHeartbeats 1000000 in
theorem best_any (s : Store) (ok : Ok s) (w : World) (hr : StoreAt w w.heap.size s) : Calls Tryd.prog 53 #[.agg #[.slice s.A1 s.sheets.length s.c1, .slice s.A2 s.lics.length s.c2, .slice s.A3 s.makes.length s.c3, .slice s.A4 s.wishes.length s.c4]] w (Ret (.agg #[.int .i64 (bestP s).1, .int .i64 (bestP s).2]) w) := by
  have hnl := ok.nl
  have hns := ok.ns
  obtain ⟨i0, hi0, hz0, hz1, hz2⟩ := info_parts vec_info
  have hmk : ∀ W : World, (Instr.makeSlice 75 (.int .i64 (s.sheets.length : Int)) (.int .i64 (s.sheets.length : Int))).run Tryd.prog W = .ok (.slice (some ⟨W.heap.size, 0, none⟩) s.sheets.length s.sheets.length) (W.alloc (.cells (zeros s.sheets.length) 3)) := fun W => by
    have := run_make (P := Tryd.prog) W 75 3 i0 (.int .i64 0) Tryd.underlying75 hi0 hz0 .i64 .i64 s.sheets.length s.sheets.length (by omega) (by omega) (by rw [hz2]; omega) (by omega)
    rw [hz1] at this
    simpa [zeros, Value.cells] using this
  have HMK := Lib.hid hmk
  have Hr := Lib.hid hr
  obtain ⟨b, off, e2, hbk, -⟩ := hr.licL (k := 0) (by omega)
  have E2 := Lib.hid e2
  have hL := Lib.hid (fun (W : World) (hW : Below w.heap.size w W) (k : Nat) (hk : k < s.lics.length) => (show W.cell? ⟨b, off + k * 4, none⟩ = some (.int .i64 (licN s k).copies) ∧ W.cell? ⟨b, off + k * 4 + 1, none⟩ = some (.int .i64 (licN s k).lo) ∧
      W.cell? ⟨b, off + k * 4 + 2, none⟩ = some (.int .i64 (licN s k).hi) ∧ W.cell? ⟨b, off + k * 4 + 3, none⟩ = some (.int .i64 (licN s k).fee) from by
    obtain ⟨b', off', e, _, x⟩ := (Hr.out.below hW).licL hk
    rw [E2.out] at e
    injection e with e
    injection e with e1 e2
    subst e1 e2
    exact x))
  have hx := (SBox.new w s 72).next (((Below.refl _ _).alloc (Nat.le_refl _) (.cells #[.int .i64 0, .int .i64 0] 95)).alloc (by simp) (.cells #[.int .i64 0, .int .i64 0, .int .i64 0, .int .i64 0, .int .i64 0] 119))
  have h2 := (iblk2 (w.alloc (.cells #[.slice s.A1 s.sheets.length s.c1, .slice s.A2 s.lics.length s.c2, .slice s.A3 s.makes.length s.c3, .slice s.A4 s.wishes.length s.c4] 72)) 95).alloc (.cells #[.int .i64 0, .int .i64 0, .int .i64 0, .int .i64 0, .int .i64 0] 119)
  have h5 := iblk5 ((w.alloc (.cells #[.slice s.A1 s.sheets.length s.c1, .slice s.A2 s.lics.length s.c2, .slice s.A3 s.makes.length s.c3, .slice s.A4 s.wishes.length s.c4] 72)).alloc (.cells #[.int .i64 0, .int .i64 0] 95)) 119
  simp only [World.size_alloc] at h2 h5
  rw [e2] at hx h2 h5 ⊢
  have HX := Lib.hid hx
  have HB2 := Lib.hid h2
  have HB5 := Lib.hid h5
  clear hi0 hz0 hz1 hz2 hmk hr e2 hx h2 h5
  go_enter Tryd.func53, Tryd.ntmps53
  go_wp2
  go_loopw [12] (fun i wr => R53 s w i wr) (fun i _ => s.lics.length - (intOf i).toNat)
  case atStart => exact ⟨0, by omega, rfl, by go_grown, HX.out, HB2.out, HB5.out⟩
  case round =>
    obtain ⟨k, hk, rfl, hb, hbox, hres, hblk⟩ := hrel
    have hz := hbox.lt
    have hzg := hblk.lt
    by_cases hlt : k < s.lics.length
    · obtain ⟨x0, x1, x2, x3⟩ := hL.out wr hb k hlt
      have hlf := hblk.free k
      have hlc := hblk.cell k (by omega)
      simp only [Nat.lt_irrefl, if_false] at hlc
      have hb5 : b < wr.heap.size := by omega
      have hk5 : k < 5 := by omega
      have H1 := Lib.hid hb
      have H2 := Lib.hid hbox
      have H3 := Lib.hid hres
      have H4 := Lib.hid hblk
      clear hb hbox hres hblk
      go_wp2
      have hst : ∀ p, p ≠ k → (if p < k + 1 then (licN s p).copies else 0) = if p < k then (licN s p).copies else 0 := fun p hp => by
        by_cases h : p < k
        · simp [h, show p < k + 1 by omega]
        · simp [h, show ¬ p < k + 1 by omega]
      all_goals (first | (refine ⟨?_, ?_⟩; (unfold R53; exact ⟨k + 1, by omega, by go_num, (H1.out.setCell (p := ⟨w.heap.size + 1 + 1, k, none⟩) (by simp; omega) _).alloc (by simp [World.setCell]; omega) _, (H2.out.nth (by omega) _ _).next ((Below.refl _ _).alloc (Nat.le_refl _) _), (H3.out.nth (by omega) _ _).alloc _, (H4.out.set_ (f' := fun p => if p < k + 1 then (licN s p).copies else 0) hk5 (by simp) hst).alloc _⟩); (simp [intOf]; omega)) | (go_roundw; (case rel => (unfold R53; exact ⟨k + 1, by omega, by go_num, (H1.out.setCell (p := ⟨w.heap.size + 1 + 1, k, none⟩) (by simp; omega) _).alloc (by simp [World.setCell]; omega) _, (H2.out.nth (by omega) _ _).next ((Below.refl _ _).alloc (Nat.le_refl _) _), (H3.out.nth (by omega) _ _).alloc _, (H4.out.set_ (f' := fun p => if p < k + 1 then (licN s p).copies else 0) hk5 (by simp) hst).alloc _⟩)); (case measure => (simp [intOf]; omega))) | (go_round; (case rel => (unfold R53; exact ⟨k + 1, by omega, by go_num, (H1.out.setCell (p := ⟨w.heap.size + 1 + 1, k, none⟩) (by simp; omega) _).alloc (by simp [World.setCell]; omega) _, (H2.out.nth (by omega) _ _).next ((Below.refl _ _).alloc (Nat.le_refl _) _), (H3.out.nth (by omega) _ _).alloc _, (H4.out.set_ (f' := fun p => if p < k + 1 then (licN s p).copies else 0) hk5 (by simp) hst).alloc _⟩)); (case measure => (simp [intOf]; omega))))
    · have e : k = s.lics.length := by omega
      subst e
      have hA := ((Below.refl wr.heap.size wr).alloc (Nat.le_refl _) (.cells #[.int .i64 0, .int .i64 0] 95)).alloc (by simp) (.cells #[.func (.func 79) #[] #[.pointer (some ⟨w.heap.size, 0, none⟩), .pointer (some ⟨wr.heap.size, 0, none⟩), .pointer (some ⟨wr.heap.size + 1, 0, none⟩), .pointer (some ⟨w.heap.size + 1 + 1, 0, none⟩)]] 120)
      have hO := (iblk2 wr 95).alloc (.cells #[.func (.func 79) #[] #[.pointer (some ⟨w.heap.size, 0, none⟩), .pointer (some ⟨wr.heap.size, 0, none⟩), .pointer (some ⟨wr.heap.size + 1, 0, none⟩), .pointer (some ⟨w.heap.size + 1 + 1, 0, none⟩)]] 120)
      have hF : ((wr.alloc (.cells #[.int .i64 0, .int .i64 0] 95)).alloc (.cells #[.func (.func 79) #[] #[.pointer (some ⟨w.heap.size, 0, none⟩), .pointer (some ⟨wr.heap.size, 0, none⟩), .pointer (some ⟨wr.heap.size + 1, 0, none⟩), .pointer (some ⟨w.heap.size + 1 + 1, 0, none⟩)]] 120)).cell? ⟨wr.heap.size + 1, 0, none⟩ = some (.func (.func 79) #[] #[.pointer (some ⟨w.heap.size, 0, none⟩), .pointer (some ⟨wr.heap.size, 0, none⟩), .pointer (some ⟨wr.heap.size + 1, 0, none⟩), .pointer (some ⟨w.heap.size + 1 + 1, 0, none⟩)]) := by simp [go_sem]
      have hV : ((wr.alloc (.cells #[.int .i64 0, .int .i64 0] 95)).alloc (.cells #[.func (.func 79) #[] #[.pointer (some ⟨w.heap.size, 0, none⟩), .pointer (some ⟨wr.heap.size, 0, none⟩), .pointer (some ⟨wr.heap.size + 1, 0, none⟩), .pointer (some ⟨w.heap.size + 1 + 1, 0, none⟩)]] 120)).heap.size = wr.heap.size + 1 + 1 := by simp
      go_wp2_with fail
      generalize ((wr.alloc (.cells #[.int .i64 0, .int .i64 0] 95)).alloc (.cells #[.func (.func 79) #[] #[.pointer (some ⟨w.heap.size, 0, none⟩), .pointer (some ⟨wr.heap.size, 0, none⟩), .pointer (some ⟨wr.heap.size + 1, 0, none⟩), .pointer (some ⟨w.heap.size + 1 + 1, 0, none⟩)]] 120)) = V at *
      have HN := Lib.hid (show OnW s w.heap.size w.heap.size (w.heap.size + 1 + 1) wr.heap.size (wr.heap.size + 1) (leftF s 0 0) (0, 0) V from
        ⟨Hr.out.below (hb.trans (hA.mono hb.size)), hbox.next hA, hF, hO.cell 0 (by omega), hO.cell 1 (by omega), hO.free, ((hblk.next hA).less (by omega) : IBlk V (w.heap.size + 1 + 1) s.lics.length _).congr' (fun p hp => by unfold leftF usedTo; rw [if_pos hp]; simp [sumTo]), Nat.le_refl _, by omega, by omega, by omega, by omega⟩)
      have HR := Lib.hid (hres.next hA)
      have HB := Lib.hid (hb.trans (hA.mono hb.size))
      have hmk := HMK.out
      have hc0 := (hbox.next hA).c0
      clear hres hblk hb hbox hA hO
      have hbz : Below V.heap.size V (V.alloc (.cells (zeros s.sheets.length) 3)).drew := ((Below.refl V.heap.size V).alloc (Nat.le_refl _) (.cells (zeros s.sheets.length) 3)).drew
      have hgz := (IBlk.zeros V s.sheets.length 3).drew
      rw [hV] at hgz
      have Hon := Lib.hid (show Calls Tryd.prog 79 #[.int .i64 0, .int .i64 0, .int .i64 0, .slice (some ⟨wr.heap.size + 1 + 1, 0, none⟩) s.sheets.length s.sheets.length, .pointer (some ⟨w.heap.size, 0, none⟩), .pointer (some ⟨wr.heap.size, 0, none⟩), .pointer (some ⟨wr.heap.size + 1, 0, none⟩), .pointer (some ⟨w.heap.size + 1 + 1, 0, none⟩)] (V.alloc (.cells (zeros s.sheets.length) 3)).drew (RetOn s w.heap.size w.heap.size (w.heap.size + 1 + 1) wr.heap.size (wr.heap.size + 1) (leftF s 0 0) (bestP s) (V.alloc (.cells (zeros s.sheets.length) 3)).drew) from
        on_any s ok w.heap.size w.heap.size (w.heap.size + 1 + 1) wr.heap.size (wr.heap.size + 1) s.wishes.length 0 0 (0, 0) (wr.heap.size + 1 + 1) s.sheets.length _ (by omega) (by decide) (HN.out.next hbz) (hgz.congr (fun _ => rfl)) (by omega) (by omega))
      have HZ := Lib.hid hbz
      clear hgz hbz
      refine wp_region_noPanic ?_
      refine wp_region_held_drew (S := (fun W' => W'.cell? ⟨wr.heap.size + 1, 0, none⟩ = some (.func (.func 79) #[] #[.pointer (some ⟨w.heap.size, 0, none⟩), .pointer (some ⟨wr.heap.size, 0, none⟩), .pointer (some ⟨wr.heap.size + 1, 0, none⟩), .pointer (some ⟨w.heap.size + 1 + 1, 0, none⟩)]) ∧ W'.cell? ⟨w.heap.size, 0, none⟩ = some (.slice s.A1 s.sheets.length s.c1))) (by kernel_rfl) ?_ (fun hHeld => ?_)
      · (try dsimp only); exact ⟨hF, hc0⟩
      refine htake (i := 0) (v := ?v1) rfl (by kernel_rfl) (by kernel_rfl) (by kernel_rfl) (fun _ _ _ h => h) (Or.inl ⟨by rfl, ?hy1⟩) (by assumption) ?_
      case hy1 => (intro w hSw; (try dsimp only at hSw); go_simp; try (with_reducible rfl))
      try simp only [Act.put, List.setIfInBounds_toArray, List.set_cons_zero, List.set_cons_succ]
      refine htake (i := 1) (v := ?v2) rfl (by kernel_rfl) (by kernel_rfl) (by kernel_rfl) (fun _ _ _ h => h) (Or.inl ⟨by rfl, ?hy2⟩) (by assumption) ?_
      case hy2 => (intro w hSw; (try dsimp only at hSw); go_simp; try (with_reducible rfl))
      try simp only [Act.put, List.setIfInBounds_toArray, List.set_cons_zero, List.set_cons_succ]
      refine htake (i := 2) (v := ?v3) rfl (by kernel_rfl) (by kernel_rfl) (by kernel_rfl) (fun _ _ _ h => h) (Or.inl ⟨by rfl, ?hy3⟩) (by assumption) ?_
      case hy3 => (intro w hSw; (try dsimp only at hSw); go_simp; try (with_reducible rfl))
      try simp only [Act.put, List.setIfInBounds_toArray, List.set_cons_zero, List.set_cons_succ]
      refine htake (i := 3) (v := ?v4) rfl (by kernel_rfl) (by kernel_rfl) (by kernel_rfl) (fun _ _ _ h => h) (Or.inl ⟨by rfl, ?hy4⟩) (by assumption) ?_
      case hy4 => (intro w hSw; (try dsimp only at hSw); go_simp; try (with_reducible rfl))
      try simp only [Act.put, List.setIfInBounds_toArray, List.set_cons_zero, List.set_cons_succ]
      refine htake (i := 4) (v := ?v5) rfl (by kernel_rfl) (by kernel_rfl) (by kernel_rfl) (fun _ _ _ h => h) (Or.inl ⟨by rfl, ?hy5⟩) (by assumption) ?_
      case hy5 => (intro w hSw; (try dsimp only at hSw); go_simp; try (with_reducible rfl))
      try simp only [Act.put, List.setIfInBounds_toArray, List.set_cons_zero, List.set_cons_succ]
      refine wpAnyH_ready (rs := [5]) (by kernel_rfl) (by simp) ?_
      refine hcons rfl (fun K hK => ?_) (AllReadyH.nil)
      go_simp
      refine hK.out _ _ ?_ (fun hHeld => ?_)
      · (try dsimp only); exact ⟨(HN.out.next HZ.out).fn, (HN.out.next HZ.out).box.c0⟩
      clear hK K
      try simp only [Act.put, List.setIfInBounds_toArray, List.set_cons_zero, List.set_cons_succ]
      refine wpAnyH_ready (rs := [6]) (by kernel_rfl) (by simp) ?_
      refine hcons rfl (fun K hK => ?_) (AllReadyH.nil)
      go_simp
      (with_reducible refine Hon.out.mono ?_); rintro e w4 ⟨rfl, h4, k4⟩
      refine hK.out _ _ ?_ (fun hHeld => ?_)
      · (try dsimp only); exact ⟨h4.fn, h4.box.c0⟩
      clear hK K
      try simp only [Act.put, List.setIfInBounds_toArray, List.set_cons_zero, List.set_cons_succ]
      refine wpAnyH_done (by kernel_rfl) ?_ _
      refine NoPanic.normal ?_
      iterate 8 (try clear hHeld)
      have y0 := h4.o0
      have y1 := h4.o1
      have hl4 := h4.lt
      have hRR := (HR.out.next HZ.out).onk k4 (by omega) (by omega)
      have z0 := hRR.cell 0 (by omega)
      have z1 := hRR.cell 1 (by omega)
      have f0 := hRR.free 0
      have f1 := hRR.free 1
      have HB4 := Lib.hid ((HB.out.trans (HZ.out.mono HB.out.size)).trans k4.below)
      have hN4 : w.heap.size + 1 < w4.heap.size := hRR.lt
      clear h4 k4 hRR hc0 hF hmk
      go_wp2
      refine bodyPost_ret (results_cell1 rfl rfl (load95 (x := (bestP s).1) (y := (bestP s).2) ?_ ?_)) rfl ⟨rfl, (HB4.out.setCell (p := ⟨w.heap.size + 1, 0, none⟩) (by simp) _).setCell (p := ⟨w.heap.size + 1, 1, none⟩) (by simp) _⟩
      · rw [World.cell?_setCell_other _ _ _ _ (by simp)]; exact World.cell?_setCell_same' _ _ _ (by rw [z0]; rfl)
      · exact World.cell?_setCell_same' _ _ _ (by rw [World.cell?_setCell_other _ _ _ _ (by simp), z1]; rfl)
end Go.Proofs.YtfffhbolaimmdaaDoor
