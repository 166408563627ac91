import Derived.Test.YtfffhbolaimmdaaDoorR10
namespace Go.Proofs.YtfffhbolaimmdaaDoor
open Go.RowKit
def spareS (s : Store) (k : Nat) : Int × Int := (max 0 (loAt s k - takeS s (bestS s) k), max 0 (hiAt s k - takeS s (bestS s) k))
theorem max_mk (a b : Int) : (if a ≤ b then Value.int .i64 b else .int .i64 a) = .int .i64 (max a b) := by split <;> congr 1 <;> omega
structure SpF (wr V : World) (bx : Nat) (lo hi : Int) : Prop where
  below : Below wr.heap.size wr V
  ge : wr.heap.size ≤ bx
  lt : bx < V.heap.size
  c0 : V.cell? ⟨bx, 0, none⟩ = some (.int .i64 lo)
  c1 : V.cell? ⟨bx, 1, none⟩ = some (.int .i64 hi)
theorem SpF.a {wr w2 : World} {lo hi : Int} {t : TypeId} (h : Below wr.heap.size wr w2) : SpF wr (w2.alloc (.cells #[.int .i64 lo, .int .i64 hi] t)) w2.heap.size lo hi :=
  ⟨h.alloc h.size _, h.size, by simp, by simp [go_sem], by simp [go_sem]⟩
theorem SpF.b {wr w2 : World} {lo hi : Int} {t : TypeId} (h : Below wr.heap.size wr w2) (hb : Below (wr.drew.alloc (.cells #[.int .i64 0, .int .i64 0] t)).heap.size (wr.drew.alloc (.cells #[.int .i64 0, .int .i64 0] t)) w2) :
    SpF wr ((w2.setCell ⟨wr.heap.size, 0, none⟩ (.int .i64 lo)).setCell ⟨wr.heap.size, 1, none⟩ (.int .i64 hi)) wr.heap.size lo hi := by
  have y0 : w2.cell? ⟨wr.heap.size, 0, none⟩ = some (.int .i64 0) := (hb.cell (p := ⟨wr.heap.size, 0, none⟩) (by simp)).trans (by simp [go_sem])
  have y1 : w2.cell? ⟨wr.heap.size, 1, none⟩ = some (.int .i64 0) := (hb.cell (p := ⟨wr.heap.size, 1, none⟩) (by simp)).trans (by simp [go_sem])
  have hz : wr.heap.size < w2.heap.size := by have := hb.size; simp at this; omega
  refine ⟨(h.setCell (p := ⟨wr.heap.size, 0, none⟩) (Nat.le_refl _) _).setCell (p := ⟨wr.heap.size, 1, none⟩) (Nat.le_refl _) _, Nat.le_refl _, by simpa [World.setCell] using hz, ?_, ?_⟩
  · rw [World.cell?_setCell_other _ _ _ _ (by simp)]
    exact World.cell?_setCell_same' _ _ _ (by rw [y0]; rfl)
  · exact World.cell?_setCell_same' _ _ _ (by rw [World.cell?_setCell_other _ _ _ _ (by simp), y1]; rfl)
def R29 (s : Store) (w0 : World) (v i : Value) (w : World) : Prop := ∃ n : Nat, n ≤ s.sheets.length ∧ i = .int .i64 n ∧ w.ownsRow (w0.heap.size + 1) 44 2 v n (tab2V n (spareS s)) ∧ Below w0.heap.size w0 w ∧ SBox w w0.heap.size s
set_option maxHeartbeats 1000000 in
set_option maxRecDepth 100000 in
theorem Spare_any (s : Store) (w : World) (hr : StoreAt w w.heap.size s) : Calls Tryd.prog 29 #[.agg #[.slice s.A1 s.sheets.length s.c1, .slice s.A2 s.lics.length s.c2, .slice s.A3 s.makes.length s.c3, .slice s.A4 s.wishes.length s.c4]] w (RetL2 (lenIf (acS s) s.sheets.length) (spareS s) (acS s) w) := by
  obtain ⟨i0, hi, hz0, hz1, hz2⟩ := info_parts span_info
  have hr' := Lib.hid (hr.next ((Below.refl _ _).alloc (Nat.le_refl _) (.cells #[.slice s.A1 s.sheets.length s.c1, .slice s.A2 s.lics.length s.c2, .slice s.A3 s.makes.length s.c3, .slice s.A4 s.wishes.length s.c4] 27)))
  have hx := SBox.new w s 27
  have Hr := Lib.hid hr
  clear hr
  go_enter Tryd.func29, Tryd.ntmps29
  go_wp2_with fail
  refine (Accept_any s _ hr'.out).mono ?_
  rintro e w1 ⟨rfl, hb1⟩
  have Hx1 := Lib.hid (hx.next hb1)
  have Hbb := Lib.hid (show Below w.heap.size w w1 from ((Below.refl _ _).alloc (Nat.le_refl _) _).trans (hb1.mono (by simp)))
  clear hb1 hx
  cases hs : storeS s
  · have hc : acS s = 1 := by simp [acS, hs]
    have He := Lib.hid (show RetL2 (lenIf (acS s) s.sheets.length) (spareS s) (acS s) w = RetL2 0 (spareS s) 1 w by rw [hc]; rfl)
    simp only [hc]
    clear hc
    go_wp2
    go_ret2
    rw [He.out]
    exact ret_l2_none Hbb.out
  · have hc : acS s = 0 := by simp [acS, hs]
    have hd : acSet s = (bestS s : Int) := by simp [acSet, hs]
    have He := Lib.hid (show RetL2 (lenIf (acS s) s.sheets.length) (spareS s) (acS s) w = RetL2 s.sheets.length (spareS s) 0 w by rw [hc]; rfl)
    have ok := (ok_iff s).1 hs
    have h1 := ok.nw
    have h3 := ok.ns
    obtain ⟨hp1, -⟩ := pow9 h1
    have hbest : bestS s ≤ setsN s := bestTo_le s (setsN s)
    have Hok := Lib.hid ok
    simp only [hc, hd]
    clear ok hs hc hd
    go_wp2
    go_loopw [7, 8] (fun v i wr => R29 s w v i wr) (fun _ i _ => s.sheets.length - (intOf i).toNat)
    case atStart => exact ⟨0, by omega, rfl, World.ownsRow_nil _ _ _ _, Hbb.out, Hx1.out⟩
    case round =>
      obtain ⟨n, hn, rfl, hown, hb, hbox⟩ := hrel
      have hz := hbox.lt
      by_cases hlt : n < s.sheets.length
      · obtain ⟨b, off, e1, hbk, x0, x1, -⟩ := (Hr.out.below hb).sheetL hlt
        obtain ⟨-, c0, c1, c2, c3⟩ := id hbox
        rw [e1] at c0
        have E1 := Lib.hid e1
        have hs1 := Nat.lt_trans hbk hz
        have hlo := loAt_bd Hok.out hlt
        have hhi := hiAt_bd Hok.out hlt
        have htk := takeTo_bd Hok.out (bestS s) n (Nat.le_refl _)
        change 0 ≤ takeS s (bestS s) n ∧ takeS s (bestS s) n ≤ 180000 at htk
        have Hbox := Lib.hid hbox
        have Hb := Lib.hid hb
        have Hown := Lib.hid hown
        have Hrr := Lib.hid (Hr.out.next hb)
        have HKS := Lib.hid (show ∀ W, Below wr.heap.size wr W → (Below wr.heap.size wr W ∧ W.cell? ⟨w.heap.size, 0, none⟩ = some (.slice (some ⟨b, off, none⟩) s.sheets.length s.c1) ∧ W.cell? ⟨w.heap.size, 1, none⟩ = some (.slice s.A2 s.lics.length s.c2) ∧ W.cell? ⟨w.heap.size, 2, none⟩ = some (.slice s.A3 s.makes.length s.c3) ∧ W.cell? ⟨w.heap.size, 3, none⟩ = some (.slice s.A4 s.wishes.length s.c4) ∧ W.cell? ⟨b, off + n * 3, none⟩ = some (.int .i64 (loAt s n)) ∧ W.cell? ⟨b, off + n * 3 + 1, none⟩ = some (.int .i64 (hiAt s n))) from fun W h =>
          ⟨h, ((bcell h).1 _ _ hz).trans c0, ((bcell h).1 _ _ hz).trans c1, ((bcell h).1 _ _ hz).trans c2, ((bcell h).1 _ _ hz).trans c3, ((bcell h).1 _ _ hs1).trans x0, ((bcell h).1 _ _ hs1).trans x1⟩)
        clear hbox hb hown e1 c1 c2 c3
        go_wp2_with fail
        refine wp_region_noPanic ?_
        refine wp_region_held_drew (S := (fun W => Below wr.heap.size wr W ∧ W.cell? ⟨w.heap.size, 0, none⟩ = some (.slice (some ⟨b, off, none⟩) s.sheets.length s.c1) ∧ W.cell? ⟨w.heap.size, 1, none⟩ = some (.slice s.A2 s.lics.length s.c2) ∧ W.cell? ⟨w.heap.size, 2, none⟩ = some (.slice s.A3 s.makes.length s.c3) ∧ W.cell? ⟨w.heap.size, 3, none⟩ = some (.slice s.A4 s.wishes.length s.c4) ∧ W.cell? ⟨b, off + n * 3, none⟩ = some (.int .i64 (loAt s n)) ∧ W.cell? ⟨b, off + n * 3 + 1, none⟩ = some (.int .i64 (hiAt s n)))) (by kernel_rfl) ?_ (fun hHeld => ?_)
        · (try dsimp only); exact HKS.out _ (by go_grown)
        refine htake (i := 0) (v := ?v1) rfl (by kernel_rfl) (by kernel_rfl) (by kernel_rfl) (fun _ _ _ h => h) (Or.inl ⟨by rfl, ?hy1⟩) (by assumption) ?_
        case hy1 => (intro w hSw; (try dsimp only at hSw); go_simp; try (with_reducible rfl))
        try simp only [Act.put, List.setIfInBounds_toArray, List.set_cons_zero, List.set_cons_succ]
        refine htake (i := 1) (v := ?v2) rfl (by kernel_rfl) (by kernel_rfl) (by kernel_rfl) (fun _ _ _ h => h) (Or.inl ⟨by rfl, ?hy2⟩) (by assumption) ?_
        case hy2 => (intro w hSw; (try dsimp only at hSw); go_simp; try (with_reducible rfl))
        try simp only [Act.put, List.setIfInBounds_toArray, List.set_cons_zero, List.set_cons_succ]
        refine htake (i := 2) (v := ?v3) rfl (by kernel_rfl) (by kernel_rfl) (by kernel_rfl) (fun _ _ _ h => h) (Or.inl ⟨by rfl, ?hy3⟩) (by assumption) ?_
        case hy3 => (intro w hSw; (try dsimp only at hSw); go_simp; try (with_reducible rfl))
        try simp only [Act.put, List.setIfInBounds_toArray, List.set_cons_zero, List.set_cons_succ]
        refine htake (i := 3) (v := ?v4) rfl (by kernel_rfl) (by kernel_rfl) (by kernel_rfl) (fun _ _ _ h => h) (Or.inl ⟨by rfl, ?hy4⟩) (by assumption) ?_
        case hy4 => (intro w hSw; (try dsimp only at hSw); go_simp; try (with_reducible rfl))
        try simp only [Act.put, List.setIfInBounds_toArray, List.set_cons_zero, List.set_cons_succ]
        refine htake (i := 4) (v := ?v5) rfl (by kernel_rfl) (by kernel_rfl) (by kernel_rfl) (fun _ _ _ h => h) (Or.inl ⟨by rfl, ?hy5⟩) (by assumption) ?_
        case hy5 => (intro w hSw; (try dsimp only at hSw); go_simp; try (with_reducible rfl))
        try simp only [Act.put, List.setIfInBounds_toArray, List.set_cons_zero, List.set_cons_succ]
        refine htake (i := 5) (v := ?v6) rfl (by kernel_rfl) (by kernel_rfl) (by kernel_rfl) (fun _ _ _ h => h) (Or.inl ⟨by rfl, ?hy6⟩) (by assumption) ?_
        case hy6 => (intro w hSw; (try dsimp only at hSw); go_simp; try (with_reducible rfl))
        try simp only [Act.put, List.setIfInBounds_toArray, List.set_cons_zero, List.set_cons_succ]
        refine htake (i := 6) (v := ?v7) rfl (by kernel_rfl) (by kernel_rfl) (by kernel_rfl) (fun _ _ _ h => h) (Or.inl ⟨by rfl, ?hy7⟩) (by assumption) ?_
        case hy7 => (intro w hSw; (try dsimp only at hSw); go_simp; try (with_reducible rfl))
        try simp only [Act.put, List.setIfInBounds_toArray, List.set_cons_zero, List.set_cons_succ]
        refine htake (i := 7) (v := ?v8) rfl (by kernel_rfl) (by kernel_rfl) (by kernel_rfl) (fun _ _ _ h => h) (Or.inl ⟨by rfl, ?hy8⟩) (by assumption) ?_
        case hy8 => (intro w hSw; (try dsimp only at hSw); go_simp; try (with_reducible rfl))
        try simp only [Act.put, List.setIfInBounds_toArray, List.set_cons_zero, List.set_cons_succ]
        refine htake (i := 8) (v := ?v9) rfl (by kernel_rfl) (by kernel_rfl) (by kernel_rfl) (fun _ _ _ h => h) (Or.inl ⟨by rfl, ?hy9⟩) (by assumption) ?_
        case hy9 => (intro w hSw; (try dsimp only at hSw); go_simp; try (with_reducible rfl))
        try simp only [Act.put, List.setIfInBounds_toArray, List.set_cons_zero, List.set_cons_succ]
        refine wpAnyH_ready (rs := [9, 10]) (by kernel_rfl) (by simp) ?_
        refine hcons rfl (fun K hK => ?_) (hcons rfl (fun K hK => ?_) (AllReadyH.nil))
        go_simp
        rw [← E1.out]; (with_reducible refine (Take_any s (bestS s) n _ (by omega) hlt Hok.out ?_).mono ?_); (exact Hrr.out.next (by go_grown)); rintro e w2 ⟨rfl, hb2⟩; have hk2 : Below wr.heap.size wr w2 := below_step hb2 (by go_grown) (Nat.le_refl _); obtain ⟨hc2, hf2⟩ := bcell hb2; have hzk := hk2.size
        refine hK.out _ _ ?_ (fun hHeld => ?_)
        · (try dsimp only); exact HKS.out _ (by go_grown)
        clear hK K
        try simp only [Act.put, List.setIfInBounds_toArray, List.set_cons_zero, List.set_cons_succ]
        refine wpAnyH_ready (rs := [10]) (by kernel_rfl) (by simp) ?_
        refine hcons rfl (fun K hK => ?_) (AllReadyH.nil)
        go_simp
        refine hK.out _ _ ?_ (fun hHeld => ?_)
        · (try dsimp only); exact HKS.out _ (by go_grown)
        clear hK K
        try simp only [Act.put, List.setIfInBounds_toArray, List.set_cons_zero, List.set_cons_succ]
        refine wpAnyH_ready (rs := [11]) (by kernel_rfl) (by simp) ?_
        refine hcons rfl (fun K hK => ?_) (AllReadyH.nil)
        go_simp
        refine hK.out _ _ ?_ (fun hHeld => ?_)
        · (try dsimp only); exact HKS.out _ (by go_grown)
        clear hK K
        try simp only [Act.put, List.setIfInBounds_toArray, List.set_cons_zero, List.set_cons_succ]
        refine htake (i := 12) (v := ?v10) rfl (by kernel_rfl) (by kernel_rfl) (by kernel_rfl) (fun _ _ _ h => h) (Or.inl ⟨by rfl, ?hy10⟩) (by assumption) ?_
        case hy10 => (intro w hSw; (try dsimp only at hSw); go_simp; try (with_reducible rfl))
        try simp only [Act.put, List.setIfInBounds_toArray, List.set_cons_zero, List.set_cons_succ]
        refine wpAnyH_done (by kernel_rfl) ?_ _
        refine NoPanic.normal ?_
        (have F := SpF.a (lo := loAt s n) (hi := hiAt s n) (t := 44) hk2); clear hHeld hb2 hc2 hf2 hk2 hzk; clear hHeld; generalize World.alloc w2 _ = V at F ⊢; obtain ⟨bx, hbx⟩ : ∃ bx, bx = w2.heap.size := ⟨_, rfl⟩; rw [← hbx]; have F' : SpF wr V bx (loAt s n) (hiAt s n) := hbx ▸ F; clear F hbx
        rotate_left
        go_simp
        refine hK.out _ _ ?_ (fun hHeld => ?_)
        · (try dsimp only); exact HKS.out _ (by go_grown)
        clear hK K
        try simp only [Act.put, List.setIfInBounds_toArray, List.set_cons_zero, List.set_cons_succ]
        refine wpAnyH_ready (rs := [9]) (by kernel_rfl) (by simp) ?_
        refine hcons rfl (fun K hK => ?_) (AllReadyH.nil)
        go_simp
        rw [← E1.out]; (with_reducible refine (Take_any s (bestS s) n _ (by omega) hlt Hok.out ?_).mono ?_); (exact Hrr.out.next (by go_grown)); rintro e w2 ⟨rfl, hb2⟩; have hk2 : Below wr.heap.size wr w2 := below_step hb2 (by go_grown) (Nat.le_refl _); obtain ⟨hc2, hf2⟩ := bcell hb2; have hzk := hk2.size
        refine hK.out _ _ ?_ (fun hHeld => ?_)
        · (try dsimp only); exact HKS.out _ (by go_grown)
        clear hK K
        try simp only [Act.put, List.setIfInBounds_toArray, List.set_cons_zero, List.set_cons_succ]
        refine wpAnyH_ready (rs := [11]) (by kernel_rfl) (by simp) ?_
        refine hcons rfl (fun K hK => ?_) (AllReadyH.nil)
        go_simp
        refine hK.out _ _ ?_ (fun hHeld => ?_)
        · (try dsimp only); exact HKS.out _ (by go_grown)
        clear hK K
        try simp only [Act.put, List.setIfInBounds_toArray, List.set_cons_zero, List.set_cons_succ]
        refine htake (i := 12) (v := ?v11) rfl (by kernel_rfl) (by kernel_rfl) (by kernel_rfl) (fun _ _ _ h => h) (Or.inl ⟨by rfl, ?hy11⟩) (by assumption) ?_
        case hy11 => (intro w hSw; (try dsimp only at hSw); go_simp; try (with_reducible rfl))
        try simp only [Act.put, List.setIfInBounds_toArray, List.set_cons_zero, List.set_cons_succ]
        refine wpAnyH_done (by kernel_rfl) ?_ _
        refine NoPanic.normal ?_
        (have F := SpF.b (lo := loAt s n) (hi := hiAt s n) (t := 44) hk2 hb2); clear hHeld hb2 hc2 hf2 hk2 hzk; clear hHeld; generalize World.setCell (World.setCell w2 _ _) _ _ = V at F ⊢; obtain ⟨bx, hbx⟩ : ∃ bx, bx = wr.heap.size := ⟨_, rfl⟩; rw [← hbx]; have F' : SpF wr V bx (loAt s n) (hiAt s n) := hbx ▸ F; clear F hbx
        all_goals
          obtain ⟨fb, fge, flt, f0, f1⟩ := F'
          have hown := own_below Hown.out fb
          have hbwV := Lib.hid (Hb.out.trans (fb.mono Hb.out.size))
          have hbxV := Lib.hid (Hbox.out.next fb)
          have hVz := fb.size
          clear hHeld fb x0 x1 c0
          have Hsp := Lib.hid (show spareS s n = (max 0 (loAt s n - takeS s (bestS s) n), max 0 (hiAt s n - takeS s (bestS s) n)) from rfl)
          by_cases m1 : 0 ≤ loAt s n - takeS s (bestS s) n <;> by_cases m2 : 0 ≤ hiAt s n - takeS s (bestS s) n
          all_goals
            go_wp2_with (at_builtin; refine wpList_append_own _ rfl (.tmp 37) (.tmp 49) 38 rfl (w.heap.size + 1) 44 i0 (.agg #[.int .i64 0, .int .i64 0]) 2 16 Tryd.underlying38 hi hz0 hz1 hz2 rfl (by decide) _ _ _ rfl (hown.alloc _) ⟨V.heap.size, 0, none⟩ 1 1 [_, _] rfl rfl (cell_two_new _ _ _ _) (by simp [Value.oneCell']) (by unfold maxLen; omega) (by omega) (by simp; omega) ?_; intro v' w' hown' hgrow _)
            have hown2 : w'.ownsRow (w.heap.size + 1) 44 2 v' (n + 1) (tab2V (n + 1) (spareS s)) := by
              rw [tab2V_succ, Hsp.out]
              refine (congrArg (fun xs => w'.ownsRow (w.heap.size + 1) 44 2 v' (n + 1) (tab2V n (spareS s) ++ xs)) ?_).mp hown'
              simp; omega
            have hbb : Below w.heap.size w w' := (hbwV.out.alloc hbwV.out.size _).grown hgrow (by simp; omega) (fun k hk => by have := hown.lt k hk; omega)
            have hbx : SBox w' w.heap.size s := (hbxV.out.next ((Below.refl _ _).alloc (Nat.le_refl _) _)).grown hgrow (fun k hk => by have := hown.lt k hk; omega)
            clear hown hown' hgrow
            go_wp2
            all_goals (first | (refine ⟨?_, ?_⟩; (unfold R29; exact ⟨n + 1, by omega, by go_num, hown2, hbb, hbx⟩); (simp [intOf]; omega)) | (go_roundw; (case rel => (unfold R29; exact ⟨n + 1, by omega, by go_num, hown2, hbb, hbx⟩)); (case measure => (simp [intOf]; omega))) | (go_round; (case rel => (unfold R29; exact ⟨n + 1, by omega, by go_num, hown2, hbb, hbx⟩)); (case measure => (simp [intOf]; omega))))
      · have e : n = s.sheets.length := by omega
        have c0 := hbox.c0
        go_wp2
        go_ret2
        subst e
        rw [He.out]
        exact ret_l2 hown hb
end Go.Proofs.YtfffhbolaimmdaaDoor
