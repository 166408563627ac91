import Derived.Test.YtfffhbolaimmdaaDoorP10
namespace Go.Proofs.YtfffhbolaimmdaaDoor
open Go.RowKit
theorem SBox.otherk {W : World} {b B : Nat} {s : Store} (h : SBox W b s) (hne : b ≠ B) (j : Nat) (v : Value) : SBox (W.setCell ⟨B, j, none⟩ v) b s :=
  have k : ∀ o, (W.setCell ⟨B, j, none⟩ v).cell? ⟨b, o, none⟩ = W.cell? ⟨b, o, none⟩ := fun o => World.cell?_setCell_other _ _ _ _ (by intro e; injection e with e; exact hne e.symm)
  ⟨by simpa [World.setCell] using h.lt, (k 0).trans h.c0, (k 1).trans h.c1, (k 2).trans h.c2, (k 3).trans h.c3⟩
def lackF (s : Store) (sel : Sheet → Int) (f : Nat → Int) (k : Nat) : Int := max 0 (f k - sel (sheetAt s k))
def R41 (s : Store) (sel : Sheet → Int) (f : Nat → Int) (F : Nat) (w0 : World) (i : Value) (w : World) : Prop := ∃ k : Nat, k ≤ s.sheets.length ∧ i = .int .i64 k ∧ Below w0.heap.size w0 w ∧ SBox w w0.heap.size s ∧ w.cell? ⟨w0.heap.size + 1, 0, none⟩ = some (.func (.func F) #[] #[]) ∧ IBlk w (w0.heap.size + 1 + 1) s.sheets.length (fun j => if j < k then lackF s sel f j else 0)
set_option maxRecDepth 100000 in
set_option maxHeartbeats 400000 in
theorem lacking_any (s : Store) (F : Nat) (sel : Sheet → Int) (b off c : Nat) (f : Nat → Int) (w : World) (ok : Ok s) (hr : StoreAt w w.heap.size s)
    (hE : ∀ args W, (callFunc F args).run Tryd.prog W = .ok (.enter F args) W) (hF : ∀ (x : Sheet) (W : World), Calls Tryd.prog F #[.agg #[.int .i64 x.lo, .int .i64 x.hi]] W (Ret (.int .i64 (sel x)) W)) (hsel : ∀ k, k < s.sheets.length → 0 ≤ sel (sheetAt s k) ∧ sel (sheetAt s k) ≤ 100000)
    (hf : At w w.heap.size 1 icell (some ⟨b, off, none⟩) (tab s.sheets.length f)) (bf : ∀ k, k < s.sheets.length → 0 ≤ f k ∧ f k ≤ 1000000) :
    Calls Tryd.prog 41 #[.agg #[.slice s.A1 s.sheets.length s.c1, .slice s.A2 s.lics.length s.c2, .slice s.A3 s.makes.length s.c3, .slice s.A4 s.wishes.length s.c4], .slice (some ⟨b, off, none⟩) s.sheets.length c, .agg #[.func (.func F) #[] #[]]] w (RetB s.sheets.length (lackF s sel f) w) := by
  have hn := ok.ns
  have l1 := hr.l1
  obtain ⟨i0, hi0, hz0, hz1, hz2⟩ := info_parts vec_info
  have hmk : ∀ W : World, (Instr.makeSlice 75 (.int .i64 (s.sheets.length : Int)) (.int .i64 (s.sheets.length : Int))).run Tryd.prog W = .ok (.slice (some ⟨W.heap.size, 0, none⟩) s.sheets.length s.sheets.length) (W.alloc (.cells (zeros s.sheets.length) 3)) := fun W => by
    have := run_make (P := Tryd.prog) W 75 3 i0 (.int .i64 0) Tryd.underlying75 hi0 hz0 .i64 .i64 s.sheets.length s.sheets.length (by omega) (by omega) (by rw [hz2]; omega) (by omega)
    rw [hz1] at this
    simpa [zeros, Value.cells] using this
  have Hr := Lib.hid hr
  have HF := Lib.hid hF
  have Hs := Lib.hid hsel
  have Hf := Lib.hid hf
  have Hbf := Lib.hid bf
  have Hok := Lib.hid ok
  clear hi0 hz0 hz1 hz2 hr hF hsel hf bf ok
  go_enter Tryd.func41, Tryd.ntmps41
  go_wp2
  clear hmk
  go_loopw [15] (fun i wr => R41 s sel f F w i wr) (fun i _ => s.sheets.length - (intOf i).toNat)
  case atStart =>
    refine ⟨0, by omega, rfl, by go_grown, (SBox.new w s 72).next (by go_grown), by simp [go_sem], ?_⟩
    have := IBlk.zeros ((w.alloc (.cells #[.slice s.A1 s.sheets.length s.c1, .slice s.A2 s.lics.length s.c2, .slice s.A3 s.makes.length s.c3, .slice s.A4 s.wishes.length s.c4] 72)).alloc (.cells #[.func (.func F) #[] #[]] 83)) s.sheets.length 3
    simp only [World.size_alloc] at this
    simpa using this
  case round =>
    obtain ⟨k, hk, rfl, hb, hbox, hfn, hblk⟩ := hrel
    have hz := hbox.lt
    have hg := hblk.lt
    by_cases hlt : k < s.sheets.length
    · obtain ⟨b', off', e, hb2, hc2⟩ := (Hf.out.below hb).int (k := k) (by rw [length_tab]; exact hlt)
      injection e with e
      injection e with e1 e2
      subst e1 e2
      have e3 : (tab s.sheets.length f).getD k 0 = f k := by simp [tab, hlt]
      rw [e3] at hc2
      obtain ⟨bs, os, q0, hbs, q1, q2, q3⟩ := hbox.sheetC (Hr.out.below hb) hlt
      have b1 := Hbf.out k hlt
      have b2 := Hs.out k hlt
      have hck := hblk.cell k hlt
      simp only [Nat.lt_irrefl, if_false] at hck
      have hfk := hblk.free k
      have HS := Lib.hid (show ∀ W', Below wr.heap.size wr W' → (W'.cell? ⟨w.heap.size + 1, 0, none⟩ = some (.func (.func F) #[] #[]) ∧ W'.cell? ⟨w.heap.size, 0, none⟩ = some (.slice (some ⟨bs, os, none⟩) s.sheets.length s.c1) ∧ W'.cell? ⟨bs, os + k * 3, none⟩ = some (.int .i64 (sheetAt s k).lo) ∧ W'.cell? ⟨bs, os + k * 3 + 1, none⟩ = some (.int .i64 (sheetAt s k).hi)) from fun W' h =>
        ⟨((bcell h).1 _ _ (by omega)).trans hfn, ((bcell h).1 _ _ hz).trans q0, ((bcell h).1 _ _ (by omega)).trans q1, ((bcell h).1 _ _ (by omega)).trans q2⟩)
      have HS2 := Lib.hid (show ∀ W' v, Below wr.heap.size wr W' → ((W'.setCell ⟨w.heap.size + 1 + 1, k, none⟩ v).cell? ⟨w.heap.size + 1, 0, none⟩ = some (.func (.func F) #[] #[]) ∧ (W'.setCell ⟨w.heap.size + 1 + 1, k, none⟩ v).cell? ⟨w.heap.size, 0, none⟩ = some (.slice (some ⟨bs, os, none⟩) s.sheets.length s.c1) ∧ (W'.setCell ⟨w.heap.size + 1 + 1, k, none⟩ v).cell? ⟨bs, os + k * 3, none⟩ = some (.int .i64 (sheetAt s k).lo) ∧ (W'.setCell ⟨w.heap.size + 1 + 1, k, none⟩ v).cell? ⟨bs, os + k * 3 + 1, none⟩ = some (.int .i64 (sheetAt s k).hi)) from fun W' v h => by
        obtain ⟨f1, f2, f3, f4⟩ := HS.out W' h
        exact ⟨by rw [World.cell?_setCell_other _ _ _ _ (by intro e; injection e with e; omega)]; exact f1, by rw [World.cell?_setCell_other _ _ _ _ (by intro e; injection e with e; omega)]; exact f2, by rw [World.cell?_setCell_other _ _ _ _ (by intro e; injection e with e; omega)]; exact f3, by rw [World.cell?_setCell_other _ _ _ _ (by intro e; injection e with e; omega)]; exact f4⟩)
      have Hfin := Lib.hid (show ∀ W' i v, i = .int .i64 ((k + 1 : Nat) : Int) → Below wr.heap.size wr W' → lackF s sel f k = v → R41 s sel f F w i (W'.setCell ⟨w.heap.size + 1 + 1, k, none⟩ (.int .i64 v)) from fun W' i v hi h hv => by
        refine ⟨k + 1, by omega, hi, (hb.trans (h.mono hb.size)).setCell (p := ⟨w.heap.size + 1 + 1, k, none⟩) (by simp; omega) _, (hbox.next h).otherk (by omega) _ _, ?_, (hblk.next h).set_ hlt (by simp [hv]) (fun i hi => ?_)⟩
        · rw [World.cell?_setCell_other _ _ _ _ (by intro e; injection e with e; omega)]; exact ((bcell h).1 _ _ (by omega)).trans hfn
        · by_cases h1 : i < k
          · simp [h1, show i < k + 1 by omega]
          · simp [h1, show ¬ i < k + 1 by omega])
      have Hfn := Lib.hid hfn
      clear hb hbox hblk e3
      go_wp2
      have hwr : IntKind.i64.wrap (f k - sel (sheetAt s k)) = f k - sel (sheetAt s k) := by rw [IntKind.wrap_i64]; omega
      have hv := Lib.hid (show lackF s sel f k = if 0 < IntKind.i64.wrap (f k - sel (sheetAt s k)) then IntKind.i64.wrap (f k - sel (sheetAt s k)) else 0 by rw [hwr]; unfold lackF; split <;> omega)
      clear hwr
      refine wp_region_noPanic ?_
      refine wp_region_held_drew (S := (fun W' => W'.cell? ⟨w.heap.size + 1, 0, none⟩ = some (.func (.func F) #[] #[]) ∧ W'.cell? ⟨w.heap.size, 0, none⟩ = some (.slice (some ⟨bs, os, none⟩) s.sheets.length s.c1) ∧ W'.cell? ⟨bs, os + k * 3, none⟩ = some (.int .i64 (sheetAt s k).lo) ∧ W'.cell? ⟨bs, os + k * 3 + 1, none⟩ = some (.int .i64 (sheetAt s k).hi))) (by kernel_rfl) ?_ (fun hHeld => ?_)
      · (try dsimp only); exact HS.out _ (Below.refl _ _).drew
      refine htake (i := 0) (v := ?v1) rfl (by kernel_rfl) (by kernel_rfl) (by kernel_rfl) (fun _ _ _ h => h) (Or.inl ⟨by rfl, ?hy1⟩) (by assumption) ?_
      case hy1 => (intro w hSw; (try dsimp only at hSw); go_simp; try (with_reducible rfl))
      try simp only [Act.put, List.setIfInBounds_toArray, List.set_cons_zero, List.set_cons_succ]
      refine htake (i := 1) (v := ?v2) rfl (by kernel_rfl) (by kernel_rfl) (by kernel_rfl) (fun _ _ _ h => h) (Or.inl ⟨by rfl, ?hy2⟩) (by assumption) ?_
      case hy2 => (intro w hSw; (try dsimp only at hSw); go_simp; try (with_reducible rfl))
      try simp only [Act.put, List.setIfInBounds_toArray, List.set_cons_zero, List.set_cons_succ]
      refine htake (i := 2) (v := ?v3) rfl (by kernel_rfl) (by kernel_rfl) (by kernel_rfl) (fun _ _ _ h => h) (Or.inl ⟨by rfl, ?hy3⟩) (by assumption) ?_
      case hy3 => (intro w hSw; (try dsimp only at hSw); go_simp; try (with_reducible rfl))
      try simp only [Act.put, List.setIfInBounds_toArray, List.set_cons_zero, List.set_cons_succ]
      refine htake (i := 3) (v := ?v4) rfl (by kernel_rfl) (by kernel_rfl) (by kernel_rfl) (fun _ _ _ h => h) (Or.inl ⟨by rfl, ?hy4⟩) (by assumption) ?_
      case hy4 => (intro w hSw; (try dsimp only at hSw); go_simp; try (with_reducible rfl))
      try simp only [Act.put, List.setIfInBounds_toArray, List.set_cons_zero, List.set_cons_succ]
      refine htake (i := 4) (v := ?v5) rfl (by kernel_rfl) (by kernel_rfl) (by kernel_rfl) (fun _ _ _ h => h) (Or.inl ⟨by rfl, ?hy5⟩) (by assumption) ?_
      case hy5 => (intro w hSw; (try dsimp only at hSw); go_simp; try (with_reducible rfl))
      try simp only [Act.put, List.setIfInBounds_toArray, List.set_cons_zero, List.set_cons_succ]
      refine htake (i := 5) (v := ?v6) rfl (by kernel_rfl) (by kernel_rfl) (by kernel_rfl) (fun _ _ _ h => h) (Or.inl ⟨by rfl, ?hy6⟩) (by assumption) ?_
      case hy6 => (intro w hSw; (try dsimp only at hSw); go_simp; try (with_reducible rfl))
      try simp only [Act.put, List.setIfInBounds_toArray, List.set_cons_zero, List.set_cons_succ]
      refine htake (i := 6) (v := ?v7) rfl (by kernel_rfl) (by kernel_rfl) (by kernel_rfl) (fun _ _ _ h => h) (Or.inl ⟨by rfl, ?hy7⟩) (by assumption) ?_
      case hy7 => (intro w hSw; (try dsimp only at hSw); go_simp; try (with_reducible rfl))
      try simp only [Act.put, List.setIfInBounds_toArray, List.set_cons_zero, List.set_cons_succ]
      refine htake (i := 7) (v := ?v8) rfl (by kernel_rfl) (by kernel_rfl) (by kernel_rfl) (fun _ _ _ h => h) (Or.inl ⟨by rfl, ?hy8⟩) (by assumption) ?_
      case hy8 => (intro w hSw; (try dsimp only at hSw); go_simp; try (with_reducible rfl))
      try simp only [Act.put, List.setIfInBounds_toArray, List.set_cons_zero, List.set_cons_succ]
      refine htake (i := 8) (v := ?v9) rfl (by kernel_rfl) (by kernel_rfl) (by kernel_rfl) (fun _ _ _ h => h) (Or.inl ⟨by rfl, ?hy9⟩) (by assumption) ?_
      case hy9 => (intro w hSw; (try dsimp only at hSw); go_simp; try (with_reducible rfl))
      try simp only [Act.put, List.setIfInBounds_toArray, List.set_cons_zero, List.set_cons_succ]
      refine htake (i := 9) (v := ?v10) rfl (by kernel_rfl) (by kernel_rfl) (by kernel_rfl) (fun _ _ _ h => h) (Or.inl ⟨by rfl, ?hy10⟩) (by assumption) ?_
      case hy10 => (intro w hSw; (try dsimp only at hSw); go_simp; try (with_reducible rfl))
      try simp only [Act.put, List.setIfInBounds_toArray, List.set_cons_zero, List.set_cons_succ]
      refine htake (i := 10) (v := ?v11) rfl (by kernel_rfl) (by kernel_rfl) (by kernel_rfl) (fun _ _ _ h => h) (Or.inl ⟨by rfl, ?hy11⟩) (by assumption) ?_
      case hy11 => (intro w hSw; (try dsimp only at hSw); go_simp; try (with_reducible rfl))
      try simp only [Act.put, List.setIfInBounds_toArray, List.set_cons_zero, List.set_cons_succ]
      refine htake (i := 11) (v := ?v12) rfl (by kernel_rfl) (by kernel_rfl) (by kernel_rfl) (fun _ _ _ h => h) (Or.inl ⟨by rfl, ?hy12⟩) (by assumption) ?_
      case hy12 => (intro w hSw; (try dsimp only at hSw); go_simp; try (with_reducible rfl))
      try simp only [Act.put, List.setIfInBounds_toArray, List.set_cons_zero, List.set_cons_succ]
      refine wpAnyH_ready (rs := [12]) (by kernel_rfl) (by simp) ?_
      refine hcons rfl (fun K hK => ?_) (AllReadyH.nil)
      go_simp
      (with_reducible refine (HF.out (sheetAt s k) _).mono ?_); rintro e w1 ⟨rfl, hb1⟩; have hk1 : Below wr.heap.size wr w1 := (Below.refl _ _).drew.trans hb1; have ho1 := ((bcell hk1).1 (w.heap.size + 1 + 1) k hg).trans hck; have hof1 := ((bcell hk1).2 (w.heap.size + 1 + 1) k hg).trans hfk
      refine hK.out _ _ ?_ (fun hHeld => ?_)
      · (try dsimp only); exact HS.out _ hk1
      clear hK K
      try simp only [Act.put, List.setIfInBounds_toArray, List.set_cons_zero, List.set_cons_succ]
      refine htake (i := 13) (v := ?v13) rfl (by kernel_rfl) (by kernel_rfl) (by kernel_rfl) (fun _ _ _ h => h) (Or.inl ⟨by rfl, ?hy13⟩) (by assumption) ?_
      case hy13 => (intro w hSw; (try dsimp only at hSw); go_simp; try (with_reducible rfl))
      try simp only [Act.put, List.setIfInBounds_toArray, List.set_cons_zero, List.set_cons_succ]
      refine htake (i := 14) (v := ?v14) rfl (by kernel_rfl) (by kernel_rfl) (by kernel_rfl) (fun _ _ _ h => h) (Or.inl ⟨by rfl, ?hy14⟩) (by assumption) ?_
      case hy14 => (intro w hSw; (try dsimp only at hSw); go_simp; try (with_reducible rfl))
      try simp only [Act.put, List.setIfInBounds_toArray, List.set_cons_zero, List.set_cons_succ]
      refine htake (i := 15) (v := ?v15) rfl (by kernel_rfl) (by kernel_rfl) (by kernel_rfl) (fun _ _ _ h => h) (Or.inl ⟨by rfl, ?hy15⟩) (by assumption) ?_
      case hy15 => (intro w hSw; (try dsimp only at hSw); go_simp; try (with_reducible rfl))
      try simp only [Act.put, List.setIfInBounds_toArray, List.set_cons_zero, List.set_cons_succ]
      refine wpAnyH_ready (rs := [16]) (by kernel_rfl) (by simp) ?_
      refine hcons rfl (fun K hK => ?_) (AllReadyH.nil)
      go_simp
      refine hK.out _ _ ?_ (fun hHeld => ?_)
      · (try dsimp only); exact HS2.out _ _ hk1
      clear hK K
      try simp only [Act.put, List.setIfInBounds_toArray, List.set_cons_zero, List.set_cons_succ]
      refine wpAnyH_done (by kernel_rfl) ?_ _
      refine NoPanic.normal ?_
      have Hx := Lib.hid (fun i hi => Hfin.out w1 i _ hi hk1 hv.out)
      clear hHeld
      simp only [Exit.inBlock, Exit.then]
      generalize (if 0 < IntKind.i64.wrap (f k - sel (sheetAt s k)) then IntKind.i64.wrap (f k - sel (sheetAt s k)) else 0) = vv at *
      go_wp2
      all_goals (first
        | (refine ⟨?_, ?_⟩; (exact Hx.out _ (by go_num)); (simp [intOf]; omega))
        | (go_roundw; (case rel => exact Hx.out _ (by go_num)); (case measure => simp [intOf]; omega)))
    · go_wp2
      go_ret
      refine ⟨_, _, rfl, Nat.le_refl _, by omega, ⟨hblk.lt, fun j hj => ?_, hblk.free⟩, hb⟩
      rw [hblk.cell j hj, if_pos (by omega)]
end Go.Proofs.YtfffhbolaimmdaaDoor
