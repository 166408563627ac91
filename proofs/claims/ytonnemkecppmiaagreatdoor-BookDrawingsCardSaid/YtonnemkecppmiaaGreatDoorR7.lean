import Derived.Test.YtonnemkecppmiaaGreatDoorR6
import Derived.Test.YtonnemkecppmiaaGreatDoorQ7
namespace Go.Proofs.YtonnemkecppmiaaGreatDoor
open Go.RowKit
/-! The reference: ReadDrawing. -/
theorem rd_big {s : Tx} (h : 65536 < s.length) : rdV s = pu0 ∧ rdE s = 3 := by unfold rdV rdE; rw [if_pos h, if_pos h]; exact ⟨rfl, rfl⟩
theorem rd_none {s : Tx} (h : ¬ 65536 < s.length) (hr : readD s = none) : rdV s = pu0 ∧ rdE s = 8 := by unfold rdV rdE; rw [if_neg h, if_neg h, hr]; exact ⟨rfl, rfl⟩
theorem rd_some {s : Tx} {d : Pu} (h : ¬ 65536 < s.length) (hr : readD s = some d) : rdV s = d ∧ rdE s = 0 := by unfold rdV rdE; rw [if_neg h, if_neg h, hr]; exact ⟨rfl, rfl⟩
theorem pcsR_succ (ps : List Tx) (n : Nat) : pcsR ps (n + 1) = pcsR ps n ++ [pcR ps (2 + 5 * n)] := by unfold pcsR; rw [List.range_succ, List.map_append]; rfl
theorem pcsR_len (ps : List Tx) (n : Nat) : (pcsR ps n).length = n := by unfold pcsR; simp
def puR0 (ps : List Tx) : Pu := ⟨⟨0, 0, 0, sp0⟩, numR (wordR (ps.getD 0 []) 1), numR (wordR (ps.getD 0 []) 2), decide (wordR (ps.getD 0 []) 0 = wTurning), []⟩
def puC' (d : Pu) (v : Value) : List Value := [.int .i64 d.play.len, .int .i64 d.play.slack, .int .i64 d.play.loose, .int .i64 d.play.damp.lo, .int .i64 d.play.damp.hi, .int .i64 d.wide, .int .i64 d.high, .bool d.turn, v]
def RRd (ps : List Tx) (B : Nat) (V : World) (g : Nat) (i : Value) (W : World) : Prop := ∃ (j : Nat) (v : Value), i = .int .i64 ((2 + 5 * j : Nat) : Int) ∧ j ≤ min 10 ((ps.length - 2) / 5) ∧ Bx W g (puC' (puR ps 0) v) ∧ W.ownsRow (g + 1) 51 28 v (pcsR ps j).length ((pcsR ps j).flatMap Pc.cells) ∧ Below B V W
theorem getD_mem {l : List Tx} {n : Nat} (h : n < l.length) : l.getD n [] ∈ l := by rw [List.getD_eq_getElem?_getD, List.getElem?_eq_getElem h]; exact List.getElem_mem h
theorem pu_of_own {W : World} {B : Nat} {l : List Pc} {v : Value} (h : W.ownsRow B 51 28 v l.length (l.flatMap Pc.cells)) :
    ∃ A c, v = .slice A l.length c ∧ At W W.heap.size 28 Pc.cells A l ∧ l.length ≤ c ∧ ∀ a, A = some a → B ≤ a.block := by
  obtain ⟨A, c, rfl, hat⟩ := own_at pc_len (by decide) h
  refine ⟨A, c, rfl, hat, ?_, ?_⟩
  · by_cases h0 : 0 < l.length
    · exact own_le h h0
    · omega
  · intro a ha
    subst ha
    rcases h.2 with ⟨hv, -⟩ | ⟨g, cap, cur, hv, hb, -⟩
    · cases hv
    · injection hv with e1
      injection e1 with e1
      subst e1
      exact hb
set_option maxRecDepth 100000 in
set_option maxHeartbeats 8000000 in
theorem ReadDrawingR_any (s : Tx) (w : World) : Calls Tryz.prog 16 #[tx s] w (RetRd s w) := by
  have HX0 := Lib.hid (Bx.new w puZ.toArray 28)
  have HB0 := Lib.hid (nxA w (.cells puZ.toArray 28))
  obtain ⟨R, hR⟩ : ∃ R, RetRd s w = R := ⟨_, rfl⟩
  rw [hR]
  have HRR := Lib.hid hR
  clear hR
  obtain ⟨i0, hi, hz0, hz1, hz2⟩ := info_parts pc_info
  go_enter Tryz.func16, Tryz.ntmps16
  go_upto_region 1 with fail
  change Code.wp _ _ _ _ (w.alloc (.cells puZ.toArray 28))
  generalize (w.alloc (.cells puZ.toArray 28)) = V at *
  obtain ⟨b, hb⟩ : ∃ b, b = w.heap.size := ⟨_, rfl⟩
  rw [← hb] at HX0 ⊢
  have HBW := Lib.hid (show w.heap.size ≤ b by rw [hb]; omega)
  clear hb
  by_cases hl : 65536 < s.length
  · have hli : (65536 : Int) < (s.length : Int) := by omega
    have HV := Lib.hid (rd_big hl)
    clear hl
    have z0 := HX0.out.c 0 _ rfl
    have z1 := HX0.out.c 1 _ rfl
    have z2 := HX0.out.c 2 _ rfl
    have z3 := HX0.out.c 3 _ rfl
    have z4 := HX0.out.c 4 _ rfl
    have z5 := HX0.out.c 5 _ rfl
    have z6 := HX0.out.c 6 _ rfl
    have z7 := HX0.out.c 7 _ rfl
    have z8 := HX0.out.c 8 _ rfl
    have y0 := HX0.out.fr 0
    have y1 := HX0.out.fr 1
    have y2 := HX0.out.fr 2
    have y3 := HX0.out.fr 3
    have y4 := HX0.out.fr 4
    have y5 := HX0.out.fr 5
    have y6 := HX0.out.fr 6
    have y7 := HX0.out.fr 7
    have y8 := HX0.out.fr 8
    go_wp2_with fail
    ((try simp only [Exit.inBlock, Exit.then]); refine bodyPost_ret (results_cellA rfl rfl (loadPu (HX0.out.setAll puZ rfl))) rfl ?_)
    rw [← HRR.out]
    exact ⟨⟨pu0, none, 0⟩, HV.out.1.symm, by rw [HV.out.2]; rfl, ⟨At.nil, by simp [pu0], by simp [pu0]⟩, (fun a ha => by cases ha), below_setCells HBW.out puZ 0 HB0.out⟩
  · have HC := Lib.hid (Cut_any 10 s (by omega) V)
    go_upto_region 3 with fail
    go_wp2_with fail
    refine HC.out.mono ?_
    rintro e V1 ⟨v, rfl, hown, hb⟩
    obtain ⟨A, lc, rfl, hcc⟩ := own_form hown
    have HRS := Lib.hid (show readD s = if (splitC 10 s).length < 2 then none else if okPu (puR (splitC 10 s) (min 10 (((splitC 10 s).length - 2) / 5))) = true ∧ dText (puR (splitC 10 s) (min 10 (((splitC 10 s).length - 2) / 5))) = s then some (puR (splitC 10 s) (min 10 (((splitC 10 s).length - 2) / 5))) else none from (read_same s).symm)
    have HPL := Lib.hid (fun (x : Tx) (h : x ∈ splitC 10 s) => (Nat.le_trans (splitC_len 10 s x h) (by omega) : x.length ≤ 70000))
    have hpl := splitC_count 10 s
    have hne := splitC_ne 10 s
    generalize splitC 10 s = ps at *
    obtain ⟨bl, hA, -, hbl, -⟩ := hcc 0 (tx (ps[0]'(List.length_pos_iff.2 hne))) (by rw [List.getElem?_map, List.getElem?_eq_getElem (List.length_pos_iff.2 hne)]; rfl)
    subst hA
    have HPS := Lib.hid (show ∀ W, Below V1.heap.size V1 W → ∀ k, k < ps.length → W.cell? ⟨bl, k, none⟩ = some (tx (ps.getD k [])) from fun W h k hk => by
      obtain ⟨b', e', -, -, hcell⟩ := hcc k (tx (ps.getD k [])) (by rw [List.getElem?_map, List.getD_eq_getElem?_getD, List.getElem?_eq_getElem hk]; rfl)
      injection e' with e'
      injection e' with e'
      subst e'
      exact (h.cell (p := ⟨bl, k, none⟩) hbl).trans hcell)
    have HX1 := Lib.hid (HX0.out.next hb)
    have HB1 := Lib.hid (HB0.out.trans (hb.mono HB0.out.size))
    have HBL := Lib.hid hbl
    have HLE := Lib.hid hl
    have hps0 : 0 < ps.length := List.length_pos_iff.2 hne
    have hpb : ps.length ≤ 65537 := by omega
    clear hb hown hcc HC HX0 HB0 hbl hne hl hpl
    by_cases h2 : ps.length < 2
    · have HV := Lib.hid (rd_none HLE.out (by rw [HRS.out, if_pos h2]))
      have h2i : (ps.length : Int) < 2 := by omega
      clear h2
      have z0 := HX1.out.c 0 _ rfl
      have z1 := HX1.out.c 1 _ rfl
      have z2 := HX1.out.c 2 _ rfl
      have z3 := HX1.out.c 3 _ rfl
      have z4 := HX1.out.c 4 _ rfl
      have z5 := HX1.out.c 5 _ rfl
      have z6 := HX1.out.c 6 _ rfl
      have z7 := HX1.out.c 7 _ rfl
      have z8 := HX1.out.c 8 _ rfl
      have y0 := HX1.out.fr 0
      have y1 := HX1.out.fr 1
      have y2 := HX1.out.fr 2
      have y3 := HX1.out.fr 3
      have y4 := HX1.out.fr 4
      have y5 := HX1.out.fr 5
      have y6 := HX1.out.fr 6
      have y7 := HX1.out.fr 7
      have y8 := HX1.out.fr 8
      go_wp2_with fail
      ((try simp only [Exit.inBlock, Exit.then]); refine bodyPost_ret (results_cellA rfl rfl (loadPu (HX1.out.setAll puZ rfl))) rfl ?_)
      rw [← HRR.out]
      exact ⟨⟨pu0, none, 0⟩, HV.out.1.symm, by rw [HV.out.2]; rfl, ⟨At.nil, by simp [pu0], by simp [pu0]⟩, (fun a ha => by cases ha), below_setCells HBW.out puZ 0 HB1.out⟩
    · rw [if_neg h2] at HRS
      have h2i : ¬ (ps.length : Int) < 2 := by omega
      have HP0 := Lib.hid (show ∀ W, Below V1.heap.size V1 W → W.cell? ⟨bl, 0, none⟩ = some (tx (ps.getD 0 [])) from fun W h => HPS.out W h 0 hps0)
      have HP1 := Lib.hid (show ∀ W, Below V1.heap.size V1 W → W.cell? ⟨bl, 1, none⟩ = some (tx (ps.getD 1 [])) from fun W h => HPS.out W h 1 (by omega))
      have hp0 : (ps.getD 0 []).length ≤ 70000 := HPL.out _ (getD_mem (by omega))
      have hp1 : (ps.getD 1 []).length ≤ 70000 := HPL.out _ (getD_mem (by omega))
      have HPU := Lib.hid (show ∀ v, puC' (puR ps 0) v = [.int .i64 (numR (wordR (ps.getD 1 []) 1)), .int .i64 (numR (wordR (ps.getD 1 []) 2)), .int .i64 (numR (wordR (ps.getD 1 []) 3)), .int .i64 (spanR (wordR (ps.getD 1 []) 4)).lo, .int .i64 (spanR (wordR (ps.getD 1 []) 4)).hi, .int .i64 (numR (wordR (ps.getD 0 []) 1)), .int .i64 (numR (wordR (ps.getD 0 []) 2)), .bool (decide (wordR (ps.getD 0 []) 0 = wTurning)), v] from fun v => rfl)
      generalize ps.getD 0 [] = p0 at *
      generalize ps.getD 1 [] = p1 at *
      have W00 := Lib.hid (fun W => word_any p0 0 hp0 W)
      have W01 := Lib.hid (fun W => word_any p0 1 hp0 W)
      have W02 := Lib.hid (fun W => word_any p0 2 hp0 W)
      have W11 := Lib.hid (fun W => word_any p1 1 hp1 W)
      have W12 := Lib.hid (fun W => word_any p1 2 hp1 W)
      have W13 := Lib.hid (fun W => word_any p1 3 hp1 W)
      have W14 := Lib.hid (fun W => word_any p1 4 hp1 W)
      have N01 := Lib.hid (fun W => numberR_any (wordR p0 1) (wordR_len hp0) W)
      have N02 := Lib.hid (fun W => numberR_any (wordR p0 2) (wordR_len hp0) W)
      have N11 := Lib.hid (fun W => numberR_any (wordR p1 1) (wordR_len hp1) W)
      have N12 := Lib.hid (fun W => numberR_any (wordR p1 2) (wordR_len hp1) W)
      have N13 := Lib.hid (fun W => numberR_any (wordR p1 3) (wordR_len hp1) W)
      have S14 := Lib.hid (fun W => spanR_any (wordR p1 4) (wordR_len hp1) W)
      have hqt : (wordR p0 0 == [116, 117, 114, 110, 105, 110, 103]) = decide (wordR p0 0 = wTurning) := by
        by_cases h : wordR p0 0 = wTurning
        · rw [h]; rfl
        · rw [decide_eq_false h]; exact beq_eq_false_iff_ne.2 h
      generalize decide (wordR p0 0 = wTurning) = tB at *
      generalize numR (wordR p0 1) = a1 at *
      generalize numR (wordR p0 2) = a2 at *
      generalize numR (wordR p1 1) = b1 at *
      generalize numR (wordR p1 2) = b2 at *
      generalize numR (wordR p1 3) = b3 at *
      generalize spanR (wordR p1 4) = s4 at *
      generalize wordR p0 0 = q00 at *
      generalize wordR p0 1 = q01 at *
      generalize wordR p0 2 = q02 at *
      generalize wordR p1 1 = q11 at *
      generalize wordR p1 2 = q12 at *
      generalize wordR p1 3 = q13 at *
      generalize wordR p1 4 = q14 at *
      clear hp0 hp1 h2
      have hbound : ∀ W : World, Below V1.heap.size V1 W → V1.heap.size ≤ W.heap.size := fun W h => h.size
      have HBD := Lib.hid hbound
      clear hbound
      go_upto_region 6 with fail
      go_cut [5] (fun gv wx => ∃ g : Nat, gv = .pointer (some ⟨g, 0, none⟩) ∧ V1.heap.size ≤ g ∧ Bx wx g [.int .i64 0, .int .i64 0, .int .i64 0, .int .i64 0, .int .i64 0, .int .i64 a1, .int .i64 a2, .bool tB, .slice none 0 0] ∧ Below V1.heap.size V1 wx)
      case first =>
        have HC := Lib.hid ((Below.refl V1.heap.size V1).drew)
        refine wp_region_noPanic ?_
        refine wp_region_held_drew (S := (fun W => W.cell? ⟨bl, 0, none⟩ = some (tx p0))) (by kernel_rfl) ?_ (fun hHeld => ?_)
        · (try dsimp only); exact HP0.out _ HC.out
        refine htake (i := 0) (v := ?v1) rfl (by kernel_rfl) (by kernel_rfl) (by kernel_rfl) (fun _ _ _ h => h) (Or.inl ⟨by rfl, ?hy1⟩) (by assumption) ?_
        case hy1 => (intro w hSw; (try dsimp only at hSw); go_simp; try (with_reducible rfl))
        try simp only [Act.put, List.setIfInBounds_toArray, List.set_cons_zero, List.set_cons_succ]
        refine htake (i := 1) (v := ?v2) rfl (by kernel_rfl) (by kernel_rfl) (by kernel_rfl) (fun _ _ _ h => h) (Or.inl ⟨by rfl, ?hy2⟩) (by assumption) ?_
        case hy2 => (intro w hSw; (try dsimp only at hSw); go_simp; try (with_reducible rfl))
        try simp only [Act.put, List.setIfInBounds_toArray, List.set_cons_zero, List.set_cons_succ]
        refine htake (i := 2) (v := ?v3) rfl (by kernel_rfl) (by kernel_rfl) (by kernel_rfl) (fun _ _ _ h => h) (Or.inl ⟨by rfl, ?hy3⟩) (by assumption) ?_
        case hy3 => (intro w hSw; (try dsimp only at hSw); go_simp; try (with_reducible rfl))
        try simp only [Act.put, List.setIfInBounds_toArray, List.set_cons_zero, List.set_cons_succ]
        refine htake (i := 5) (v := ?v4) rfl (by kernel_rfl) (by kernel_rfl) (by kernel_rfl) (fun _ _ _ h => h) (Or.inl ⟨by rfl, ?hy4⟩) (by assumption) ?_
        case hy4 => (intro w hSw; (try dsimp only at hSw); go_simp; try (with_reducible rfl))
        try simp only [Act.put, List.setIfInBounds_toArray, List.set_cons_zero, List.set_cons_succ]
        refine htake (i := 6) (v := ?v5) rfl (by kernel_rfl) (by kernel_rfl) (by kernel_rfl) (fun _ _ _ h => h) (Or.inl ⟨by rfl, ?hy5⟩) (by assumption) ?_
        case hy5 => (intro w hSw; (try dsimp only at hSw); go_simp; try (with_reducible rfl))
        try simp only [Act.put, List.setIfInBounds_toArray, List.set_cons_zero, List.set_cons_succ]
        refine htake (i := 7) (v := ?v6) rfl (by kernel_rfl) (by kernel_rfl) (by kernel_rfl) (fun _ _ _ h => h) (Or.inl ⟨by rfl, ?hy6⟩) (by assumption) ?_
        case hy6 => (intro w hSw; (try dsimp only at hSw); go_simp; try (with_reducible rfl))
        try simp only [Act.put, List.setIfInBounds_toArray, List.set_cons_zero, List.set_cons_succ]
        refine htake (i := 10) (v := ?v7) rfl (by kernel_rfl) (by kernel_rfl) (by kernel_rfl) (fun _ _ _ h => h) (Or.inl ⟨by rfl, ?hy7⟩) (by assumption) ?_
        case hy7 => (intro w hSw; (try dsimp only at hSw); go_simp; try (with_reducible rfl))
        try simp only [Act.put, List.setIfInBounds_toArray, List.set_cons_zero, List.set_cons_succ]
        refine htake (i := 11) (v := ?v8) rfl (by kernel_rfl) (by kernel_rfl) (by kernel_rfl) (fun _ _ _ h => h) (Or.inl ⟨by rfl, ?hy8⟩) (by assumption) ?_
        case hy8 => (intro w hSw; (try dsimp only at hSw); go_simp; try (with_reducible rfl))
        try simp only [Act.put, List.setIfInBounds_toArray, List.set_cons_zero, List.set_cons_succ]
        refine htake (i := 12) (v := ?v9) rfl (by kernel_rfl) (by kernel_rfl) (by kernel_rfl) (fun _ _ _ h => h) (Or.inl ⟨by rfl, ?hy9⟩) (by assumption) ?_
        case hy9 => (intro w hSw; (try dsimp only at hSw); go_simp; try (with_reducible rfl))
        try simp only [Act.put, List.setIfInBounds_toArray, List.set_cons_zero, List.set_cons_succ]
        refine wpAnyH_ready (rs := [3, 16]) (by kernel_rfl) (by simp) ?_
        refine hcons rfl (fun K hK => ?_) (hcons rfl (fun K hK => ?_) (AllReadyH.nil))
        go_simp
        refine (W01.out _).mono ?_; rintro e0 V3 ⟨rfl, hb⟩; (try replace HG := Lib.hid (HG.out.next hb)); replace HC := Lib.hid (HC.out.trans (hb.mono HC.out.size)); clear hb
        refine hK.out _ _ ?_ (fun hHeld => ?_)
        · (try dsimp only); exact HP0.out _ HC.out
        clear hK K
        try simp only [Act.put, List.setIfInBounds_toArray, List.set_cons_zero, List.set_cons_succ]
        refine wpAnyH_ready (rs := [4, 16]) (by kernel_rfl) (by simp) ?_
        refine hcons rfl (fun K hK => ?_) (hcons rfl (fun K hK => ?_) (AllReadyH.nil))
        go_simp
        refine (N01.out _).mono ?_; rintro e0 V4 ⟨rfl, rfl⟩
        refine hK.out _ _ ?_ (fun hHeld => ?_)
        · (try dsimp only); exact HP0.out _ HC.out
        clear hK K
        try simp only [Act.put, List.setIfInBounds_toArray, List.set_cons_zero, List.set_cons_succ]
        refine wpAnyH_ready (rs := [8, 16]) (by kernel_rfl) (by simp) ?_
        refine hcons rfl (fun K hK => ?_) (hcons rfl (fun K hK => ?_) (AllReadyH.nil))
        go_simp
        refine (W02.out _).mono ?_; rintro e0 V8 ⟨rfl, hb⟩; (try replace HG := Lib.hid (HG.out.next hb)); replace HC := Lib.hid (HC.out.trans (hb.mono HC.out.size)); clear hb
        refine hK.out _ _ ?_ (fun hHeld => ?_)
        · (try dsimp only); exact HP0.out _ HC.out
        clear hK K
        try simp only [Act.put, List.setIfInBounds_toArray, List.set_cons_zero, List.set_cons_succ]
        refine wpAnyH_ready (rs := [9, 16]) (by kernel_rfl) (by simp) ?_
        refine hcons rfl (fun K hK => ?_) (hcons rfl (fun K hK => ?_) (AllReadyH.nil))
        go_simp
        refine (N02.out _).mono ?_; rintro e0 V9 ⟨rfl, rfl⟩
        refine hK.out _ _ ?_ (fun hHeld => ?_)
        · (try dsimp only); exact HP0.out _ HC.out
        clear hK K
        try simp only [Act.put, List.setIfInBounds_toArray, List.set_cons_zero, List.set_cons_succ]
        refine wpAnyH_ready (rs := [13, 16]) (by kernel_rfl) (by simp) ?_
        refine hcons rfl (fun K hK => ?_) (hcons rfl (fun K hK => ?_) (AllReadyH.nil))
        go_simp
        refine (W00.out _).mono ?_; rintro e0 V13 ⟨rfl, hb⟩; (try replace HG := Lib.hid (HG.out.next hb)); replace HC := Lib.hid (HC.out.trans (hb.mono HC.out.size)); clear hb
        refine hK.out _ _ ?_ (fun hHeld => ?_)
        · (try dsimp only); exact HP0.out _ HC.out
        clear hK K
        try simp only [Act.put, List.setIfInBounds_toArray, List.set_cons_zero, List.set_cons_succ]
        refine htake (i := 14) (v := ?v10) rfl (by kernel_rfl) (by kernel_rfl) (by kernel_rfl) (fun _ _ _ h => h) (Or.inl ⟨by rfl, ?hy10⟩) (by assumption) ?_
        case hy10 => (intro w hSw; (try dsimp only at hSw); go_simp; try (with_reducible rfl))
        try simp only [Act.put, List.setIfInBounds_toArray, List.set_cons_zero, List.set_cons_succ]
        refine htake (i := 15) (v := ?v11) rfl (by kernel_rfl) (by kernel_rfl) (by kernel_rfl) (fun _ _ _ h => h) (Or.inl ⟨by rfl, ?hy11⟩) (by assumption) ?_
        case hy11 => (intro w hSw; (try dsimp only at hSw); go_simp; try (with_reducible rfl))
        try simp only [Act.put, List.setIfInBounds_toArray, List.set_cons_zero, List.set_cons_succ]
        refine wpAnyH_ready (rs := [16]) (by kernel_rfl) (by simp) ?_
        refine hcons rfl (fun K hK => ?_) (AllReadyH.nil)
        go_simp
        (first | refine hold_alloc (fun Wa q1 q2 q3 => ?_) | refine hold_alloc_drew (fun Wa q1 q2 q3 => ?_)); have HG := Lib.hid q2; have HGB := Lib.hid HC.out.size; (have HCn : Below V1.heap.size V1 Wa := by first | exact HC.out.trans (q1.mono HC.out.size) | exact q1); replace HC := Lib.hid HCn; clear HCn q1 q2 q3
        refine hK.out _ _ ?_ (fun hHeld => ?_)
        · (try dsimp only); exact HP0.out _ HC.out
        clear hK K
        try simp only [Act.put, List.setIfInBounds_toArray, List.set_cons_zero, List.set_cons_succ]
        refine wpAnyH_ready (rs := [17]) (by kernel_rfl) (by simp) ?_
        refine hcons rfl (fun K hK => ?_) (AllReadyH.nil)
        have z0 := HG.out.c 0 _ rfl; have z1 := HG.out.c 1 _ rfl; have z2 := HG.out.c 2 _ rfl; have z3 := HG.out.c 3 _ rfl; have z4 := HG.out.c 4 _ rfl; have z5 := HG.out.c 5 _ rfl; have z6 := HG.out.c 6 _ rfl; have z7 := HG.out.c 7 _ rfl; have z8 := HG.out.c 8 _ rfl; have y0 := HG.out.fr 0; have y1 := HG.out.fr 1; have y2 := HG.out.fr 2; have y3 := HG.out.fr 3; have y4 := HG.out.fr 4; have y5 := HG.out.fr 5; have y6 := HG.out.fr 6; have y7 := HG.out.fr 7; have y8 := HG.out.fr 8; go_simp; clear z0 z1 z2 z3 z4 z5 z6 z7 z8 y0 y1 y2 y3 y4 y5 y6 y7 y8; replace HG := Lib.hid (HG.out.setAll [.int .i64 0, .int .i64 0, .int .i64 0, .int .i64 0, .int .i64 0, .int .i64 a1, .int .i64 a2, .bool tB, .slice none 0 0] rfl); replace HC := Lib.hid (below_setCells HGB.out [.int .i64 0, .int .i64 0, .int .i64 0, .int .i64 0, .int .i64 0, .int .i64 a1, .int .i64 a2, .bool tB, .slice none 0 0] 0 HC.out)
        refine hK.out _ _ ?_ (fun hHeld => ?_)
        · (try dsimp only); exact HP0.out _ HC.out
        clear hK K
        try simp only [Act.put]
        refine wpAnyH_done (by kernel_rfl) ?_ _
        refine NoPanic.normal ?_
        rotate_left
        go_simp
        (first | refine hold_alloc (fun Wa q1 q2 q3 => ?_) | refine hold_alloc_drew (fun Wa q1 q2 q3 => ?_)); have HG := Lib.hid q2; have HGB := Lib.hid HC.out.size; (have HCn : Below V1.heap.size V1 Wa := by first | exact HC.out.trans (q1.mono HC.out.size) | exact q1); replace HC := Lib.hid HCn; clear HCn q1 q2 q3
        refine hK.out _ _ ?_ (fun hHeld => ?_)
        · (try dsimp only); exact HP0.out _ HC.out
        clear hK K
        try simp only [Act.put, List.setIfInBounds_toArray, List.set_cons_zero, List.set_cons_succ]
        refine wpAnyH_ready (rs := [13]) (by kernel_rfl) (by simp) ?_
        refine hcons rfl (fun K hK => ?_) (AllReadyH.nil)
        go_simp
        refine (W00.out _).mono ?_; rintro e0 V13 ⟨rfl, hb⟩; (try replace HG := Lib.hid (HG.out.next hb)); replace HC := Lib.hid (HC.out.trans (hb.mono HC.out.size)); clear hb
        refine hK.out _ _ ?_ (fun hHeld => ?_)
        · (try dsimp only); exact HP0.out _ HC.out
        clear hK K
        try simp only [Act.put, List.setIfInBounds_toArray, List.set_cons_zero, List.set_cons_succ]
        refine htake (i := 14) (v := ?v12) rfl (by kernel_rfl) (by kernel_rfl) (by kernel_rfl) (fun _ _ _ h => h) (Or.inl ⟨by rfl, ?hy12⟩) (by assumption) ?_
        case hy12 => (intro w hSw; (try dsimp only at hSw); go_simp; try (with_reducible rfl))
        try simp only [Act.put, List.setIfInBounds_toArray, List.set_cons_zero, List.set_cons_succ]
        refine htake (i := 15) (v := ?v13) rfl (by kernel_rfl) (by kernel_rfl) (by kernel_rfl) (fun _ _ _ h => h) (Or.inl ⟨by rfl, ?hy13⟩) (by assumption) ?_
        case hy13 => (intro w hSw; (try dsimp only at hSw); go_simp; try (with_reducible rfl))
        try simp only [Act.put, List.setIfInBounds_toArray, List.set_cons_zero, List.set_cons_succ]
        refine wpAnyH_ready (rs := [17]) (by kernel_rfl) (by simp) ?_
        refine hcons rfl (fun K hK => ?_) (AllReadyH.nil)
        have z0 := HG.out.c 0 _ rfl; have z1 := HG.out.c 1 _ rfl; have z2 := HG.out.c 2 _ rfl; have z3 := HG.out.c 3 _ rfl; have z4 := HG.out.c 4 _ rfl; have z5 := HG.out.c 5 _ rfl; have z6 := HG.out.c 6 _ rfl; have z7 := HG.out.c 7 _ rfl; have z8 := HG.out.c 8 _ rfl; have y0 := HG.out.fr 0; have y1 := HG.out.fr 1; have y2 := HG.out.fr 2; have y3 := HG.out.fr 3; have y4 := HG.out.fr 4; have y5 := HG.out.fr 5; have y6 := HG.out.fr 6; have y7 := HG.out.fr 7; have y8 := HG.out.fr 8; go_simp; clear z0 z1 z2 z3 z4 z5 z6 z7 z8 y0 y1 y2 y3 y4 y5 y6 y7 y8; replace HG := Lib.hid (HG.out.setAll [.int .i64 0, .int .i64 0, .int .i64 0, .int .i64 0, .int .i64 0, .int .i64 a1, .int .i64 a2, .bool tB, .slice none 0 0] rfl); replace HC := Lib.hid (below_setCells HGB.out [.int .i64 0, .int .i64 0, .int .i64 0, .int .i64 0, .int .i64 0, .int .i64 a1, .int .i64 a2, .bool tB, .slice none 0 0] 0 HC.out)
        refine hK.out _ _ ?_ (fun hHeld => ?_)
        · (try dsimp only); exact HP0.out _ HC.out
        clear hK K
        try simp only [Act.put]
        refine wpAnyH_done (by kernel_rfl) ?_ _
        refine NoPanic.normal ?_
        rotate_left
        go_simp
        (first | refine hold_alloc (fun Wa q1 q2 q3 => ?_) | refine hold_alloc_drew (fun Wa q1 q2 q3 => ?_)); have HG := Lib.hid q2; have HGB := Lib.hid HC.out.size; (have HCn : Below V1.heap.size V1 Wa := by first | exact HC.out.trans (q1.mono HC.out.size) | exact q1); replace HC := Lib.hid HCn; clear HCn q1 q2 q3
        refine hK.out _ _ ?_ (fun hHeld => ?_)
        · (try dsimp only); exact HP0.out _ HC.out
        clear hK K
        try simp only [Act.put, List.setIfInBounds_toArray, List.set_cons_zero, List.set_cons_succ]
        refine wpAnyH_ready (rs := [9]) (by kernel_rfl) (by simp) ?_
        refine hcons rfl (fun K hK => ?_) (AllReadyH.nil)
        go_simp
        refine (N02.out _).mono ?_; rintro e0 V9 ⟨rfl, rfl⟩
        refine hK.out _ _ ?_ (fun hHeld => ?_)
        · (try dsimp only); exact HP0.out _ HC.out
        clear hK K
        try simp only [Act.put, List.setIfInBounds_toArray, List.set_cons_zero, List.set_cons_succ]
        refine wpAnyH_ready (rs := [13]) (by kernel_rfl) (by simp) ?_
        refine hcons rfl (fun K hK => ?_) (AllReadyH.nil)
        go_simp
        refine (W00.out _).mono ?_; rintro e0 V13 ⟨rfl, hb⟩; (try replace HG := Lib.hid (HG.out.next hb)); replace HC := Lib.hid (HC.out.trans (hb.mono HC.out.size)); clear hb
        refine hK.out _ _ ?_ (fun hHeld => ?_)
        · (try dsimp only); exact HP0.out _ HC.out
        clear hK K
        try simp only [Act.put, List.setIfInBounds_toArray, List.set_cons_zero, List.set_cons_succ]
        refine htake (i := 14) (v := ?v14) rfl (by kernel_rfl) (by kernel_rfl) (by kernel_rfl) (fun _ _ _ h => h) (Or.inl ⟨by rfl, ?hy14⟩) (by assumption) ?_
        case hy14 => (intro w hSw; (try dsimp only at hSw); go_simp; try (with_reducible rfl))
        try simp only [Act.put, List.setIfInBounds_toArray, List.set_cons_zero, List.set_cons_succ]
        refine htake (i := 15) (v := ?v15) rfl (by kernel_rfl) (by kernel_rfl) (by kernel_rfl) (fun _ _ _ h => h) (Or.inl ⟨by rfl, ?hy15⟩) (by assumption) ?_
        case hy15 => (intro w hSw; (try dsimp only at hSw); go_simp; try (with_reducible rfl))
        try simp only [Act.put, List.setIfInBounds_toArray, List.set_cons_zero, List.set_cons_succ]
        refine wpAnyH_ready (rs := [17]) (by kernel_rfl) (by simp) ?_
        refine hcons rfl (fun K hK => ?_) (AllReadyH.nil)
        have z0 := HG.out.c 0 _ rfl; have z1 := HG.out.c 1 _ rfl; have z2 := HG.out.c 2 _ rfl; have z3 := HG.out.c 3 _ rfl; have z4 := HG.out.c 4 _ rfl; have z5 := HG.out.c 5 _ rfl; have z6 := HG.out.c 6 _ rfl; have z7 := HG.out.c 7 _ rfl; have z8 := HG.out.c 8 _ rfl; have y0 := HG.out.fr 0; have y1 := HG.out.fr 1; have y2 := HG.out.fr 2; have y3 := HG.out.fr 3; have y4 := HG.out.fr 4; have y5 := HG.out.fr 5; have y6 := HG.out.fr 6; have y7 := HG.out.fr 7; have y8 := HG.out.fr 8; go_simp; clear z0 z1 z2 z3 z4 z5 z6 z7 z8 y0 y1 y2 y3 y4 y5 y6 y7 y8; replace HG := Lib.hid (HG.out.setAll [.int .i64 0, .int .i64 0, .int .i64 0, .int .i64 0, .int .i64 0, .int .i64 a1, .int .i64 a2, .bool tB, .slice none 0 0] rfl); replace HC := Lib.hid (below_setCells HGB.out [.int .i64 0, .int .i64 0, .int .i64 0, .int .i64 0, .int .i64 0, .int .i64 a1, .int .i64 a2, .bool tB, .slice none 0 0] 0 HC.out)
        refine hK.out _ _ ?_ (fun hHeld => ?_)
        · (try dsimp only); exact HP0.out _ HC.out
        clear hK K
        try simp only [Act.put]
        refine wpAnyH_done (by kernel_rfl) ?_ _
        refine NoPanic.normal ?_
        rotate_left
        go_simp
        (first | refine hold_alloc (fun Wa q1 q2 q3 => ?_) | refine hold_alloc_drew (fun Wa q1 q2 q3 => ?_)); have HG := Lib.hid q2; have HGB := Lib.hid HC.out.size; (have HCn : Below V1.heap.size V1 Wa := by first | exact HC.out.trans (q1.mono HC.out.size) | exact q1); replace HC := Lib.hid HCn; clear HCn q1 q2 q3
        refine hK.out _ _ ?_ (fun hHeld => ?_)
        · (try dsimp only); exact HP0.out _ HC.out
        clear hK K
        try simp only [Act.put, List.setIfInBounds_toArray, List.set_cons_zero, List.set_cons_succ]
        refine wpAnyH_ready (rs := [8]) (by kernel_rfl) (by simp) ?_
        refine hcons rfl (fun K hK => ?_) (AllReadyH.nil)
        go_simp
        refine (W02.out _).mono ?_; rintro e0 V8 ⟨rfl, hb⟩; (try replace HG := Lib.hid (HG.out.next hb)); replace HC := Lib.hid (HC.out.trans (hb.mono HC.out.size)); clear hb
        refine hK.out _ _ ?_ (fun hHeld => ?_)
        · (try dsimp only); exact HP0.out _ HC.out
        clear hK K
        try simp only [Act.put, List.setIfInBounds_toArray, List.set_cons_zero, List.set_cons_succ]
        refine wpAnyH_ready (rs := [9]) (by kernel_rfl) (by simp) ?_
        refine hcons rfl (fun K hK => ?_) (AllReadyH.nil)
        go_simp
        refine (N02.out _).mono ?_; rintro e0 V9 ⟨rfl, rfl⟩
        refine hK.out _ _ ?_ (fun hHeld => ?_)
        · (try dsimp only); exact HP0.out _ HC.out
        clear hK K
        try simp only [Act.put, List.setIfInBounds_toArray, List.set_cons_zero, List.set_cons_succ]
        refine wpAnyH_ready (rs := [13]) (by kernel_rfl) (by simp) ?_
        refine hcons rfl (fun K hK => ?_) (AllReadyH.nil)
        go_simp
        refine (W00.out _).mono ?_; rintro e0 V13 ⟨rfl, hb⟩; (try replace HG := Lib.hid (HG.out.next hb)); replace HC := Lib.hid (HC.out.trans (hb.mono HC.out.size)); clear hb
        refine hK.out _ _ ?_ (fun hHeld => ?_)
        · (try dsimp only); exact HP0.out _ HC.out
        clear hK K
        try simp only [Act.put, List.setIfInBounds_toArray, List.set_cons_zero, List.set_cons_succ]
        refine htake (i := 14) (v := ?v16) rfl (by kernel_rfl) (by kernel_rfl) (by kernel_rfl) (fun _ _ _ h => h) (Or.inl ⟨by rfl, ?hy16⟩) (by assumption) ?_
        case hy16 => (intro w hSw; (try dsimp only at hSw); go_simp; try (with_reducible rfl))
        try simp only [Act.put, List.setIfInBounds_toArray, List.set_cons_zero, List.set_cons_succ]
        refine htake (i := 15) (v := ?v17) rfl (by kernel_rfl) (by kernel_rfl) (by kernel_rfl) (fun _ _ _ h => h) (Or.inl ⟨by rfl, ?hy17⟩) (by assumption) ?_
        case hy17 => (intro w hSw; (try dsimp only at hSw); go_simp; try (with_reducible rfl))
        try simp only [Act.put, List.setIfInBounds_toArray, List.set_cons_zero, List.set_cons_succ]
        refine wpAnyH_ready (rs := [17]) (by kernel_rfl) (by simp) ?_
        refine hcons rfl (fun K hK => ?_) (AllReadyH.nil)
        have z0 := HG.out.c 0 _ rfl; have z1 := HG.out.c 1 _ rfl; have z2 := HG.out.c 2 _ rfl; have z3 := HG.out.c 3 _ rfl; have z4 := HG.out.c 4 _ rfl; have z5 := HG.out.c 5 _ rfl; have z6 := HG.out.c 6 _ rfl; have z7 := HG.out.c 7 _ rfl; have z8 := HG.out.c 8 _ rfl; have y0 := HG.out.fr 0; have y1 := HG.out.fr 1; have y2 := HG.out.fr 2; have y3 := HG.out.fr 3; have y4 := HG.out.fr 4; have y5 := HG.out.fr 5; have y6 := HG.out.fr 6; have y7 := HG.out.fr 7; have y8 := HG.out.fr 8; go_simp; clear z0 z1 z2 z3 z4 z5 z6 z7 z8 y0 y1 y2 y3 y4 y5 y6 y7 y8; replace HG := Lib.hid (HG.out.setAll [.int .i64 0, .int .i64 0, .int .i64 0, .int .i64 0, .int .i64 0, .int .i64 a1, .int .i64 a2, .bool tB, .slice none 0 0] rfl); replace HC := Lib.hid (below_setCells HGB.out [.int .i64 0, .int .i64 0, .int .i64 0, .int .i64 0, .int .i64 0, .int .i64 a1, .int .i64 a2, .bool tB, .slice none 0 0] 0 HC.out)
        refine hK.out _ _ ?_ (fun hHeld => ?_)
        · (try dsimp only); exact HP0.out _ HC.out
        clear hK K
        try simp only [Act.put]
        refine wpAnyH_done (by kernel_rfl) ?_ _
        refine NoPanic.normal ?_
        rotate_left
        go_simp
        (first | refine hold_alloc (fun Wa q1 q2 q3 => ?_) | refine hold_alloc_drew (fun Wa q1 q2 q3 => ?_)); have HG := Lib.hid q2; have HGB := Lib.hid HC.out.size; (have HCn : Below V1.heap.size V1 Wa := by first | exact HC.out.trans (q1.mono HC.out.size) | exact q1); replace HC := Lib.hid HCn; clear HCn q1 q2 q3
        refine hK.out _ _ ?_ (fun hHeld => ?_)
        · (try dsimp only); exact HP0.out _ HC.out
        clear hK K
        try simp only [Act.put, List.setIfInBounds_toArray, List.set_cons_zero, List.set_cons_succ]
        refine wpAnyH_ready (rs := [4]) (by kernel_rfl) (by simp) ?_
        refine hcons rfl (fun K hK => ?_) (AllReadyH.nil)
        go_simp
        refine (N01.out _).mono ?_; rintro e0 V4 ⟨rfl, rfl⟩
        refine hK.out _ _ ?_ (fun hHeld => ?_)
        · (try dsimp only); exact HP0.out _ HC.out
        clear hK K
        try simp only [Act.put, List.setIfInBounds_toArray, List.set_cons_zero, List.set_cons_succ]
        refine wpAnyH_ready (rs := [8]) (by kernel_rfl) (by simp) ?_
        refine hcons rfl (fun K hK => ?_) (AllReadyH.nil)
        go_simp
        refine (W02.out _).mono ?_; rintro e0 V8 ⟨rfl, hb⟩; (try replace HG := Lib.hid (HG.out.next hb)); replace HC := Lib.hid (HC.out.trans (hb.mono HC.out.size)); clear hb
        refine hK.out _ _ ?_ (fun hHeld => ?_)
        · (try dsimp only); exact HP0.out _ HC.out
        clear hK K
        try simp only [Act.put, List.setIfInBounds_toArray, List.set_cons_zero, List.set_cons_succ]
        refine wpAnyH_ready (rs := [9]) (by kernel_rfl) (by simp) ?_
        refine hcons rfl (fun K hK => ?_) (AllReadyH.nil)
        go_simp
        refine (N02.out _).mono ?_; rintro e0 V9 ⟨rfl, rfl⟩
        refine hK.out _ _ ?_ (fun hHeld => ?_)
        · (try dsimp only); exact HP0.out _ HC.out
        clear hK K
        try simp only [Act.put, List.setIfInBounds_toArray, List.set_cons_zero, List.set_cons_succ]
        refine wpAnyH_ready (rs := [13]) (by kernel_rfl) (by simp) ?_
        refine hcons rfl (fun K hK => ?_) (AllReadyH.nil)
        go_simp
        refine (W00.out _).mono ?_; rintro e0 V13 ⟨rfl, hb⟩; (try replace HG := Lib.hid (HG.out.next hb)); replace HC := Lib.hid (HC.out.trans (hb.mono HC.out.size)); clear hb
        refine hK.out _ _ ?_ (fun hHeld => ?_)
        · (try dsimp only); exact HP0.out _ HC.out
        clear hK K
        try simp only [Act.put, List.setIfInBounds_toArray, List.set_cons_zero, List.set_cons_succ]
        refine htake (i := 14) (v := ?v18) rfl (by kernel_rfl) (by kernel_rfl) (by kernel_rfl) (fun _ _ _ h => h) (Or.inl ⟨by rfl, ?hy18⟩) (by assumption) ?_
        case hy18 => (intro w hSw; (try dsimp only at hSw); go_simp; try (with_reducible rfl))
        try simp only [Act.put, List.setIfInBounds_toArray, List.set_cons_zero, List.set_cons_succ]
        refine htake (i := 15) (v := ?v19) rfl (by kernel_rfl) (by kernel_rfl) (by kernel_rfl) (fun _ _ _ h => h) (Or.inl ⟨by rfl, ?hy19⟩) (by assumption) ?_
        case hy19 => (intro w hSw; (try dsimp only at hSw); go_simp; try (with_reducible rfl))
        try simp only [Act.put, List.setIfInBounds_toArray, List.set_cons_zero, List.set_cons_succ]
        refine wpAnyH_ready (rs := [17]) (by kernel_rfl) (by simp) ?_
        refine hcons rfl (fun K hK => ?_) (AllReadyH.nil)
        have z0 := HG.out.c 0 _ rfl; have z1 := HG.out.c 1 _ rfl; have z2 := HG.out.c 2 _ rfl; have z3 := HG.out.c 3 _ rfl; have z4 := HG.out.c 4 _ rfl; have z5 := HG.out.c 5 _ rfl; have z6 := HG.out.c 6 _ rfl; have z7 := HG.out.c 7 _ rfl; have z8 := HG.out.c 8 _ rfl; have y0 := HG.out.fr 0; have y1 := HG.out.fr 1; have y2 := HG.out.fr 2; have y3 := HG.out.fr 3; have y4 := HG.out.fr 4; have y5 := HG.out.fr 5; have y6 := HG.out.fr 6; have y7 := HG.out.fr 7; have y8 := HG.out.fr 8; go_simp; clear z0 z1 z2 z3 z4 z5 z6 z7 z8 y0 y1 y2 y3 y4 y5 y6 y7 y8; replace HG := Lib.hid (HG.out.setAll [.int .i64 0, .int .i64 0, .int .i64 0, .int .i64 0, .int .i64 0, .int .i64 a1, .int .i64 a2, .bool tB, .slice none 0 0] rfl); replace HC := Lib.hid (below_setCells HGB.out [.int .i64 0, .int .i64 0, .int .i64 0, .int .i64 0, .int .i64 0, .int .i64 a1, .int .i64 a2, .bool tB, .slice none 0 0] 0 HC.out)
        refine hK.out _ _ ?_ (fun hHeld => ?_)
        · (try dsimp only); exact HP0.out _ HC.out
        clear hK K
        try simp only [Act.put]
        refine wpAnyH_done (by kernel_rfl) ?_ _
        refine NoPanic.normal ?_
        rotate_left
        go_simp
        (first | refine hold_alloc (fun Wa q1 q2 q3 => ?_) | refine hold_alloc_drew (fun Wa q1 q2 q3 => ?_)); have HG := Lib.hid q2; have HGB := Lib.hid HC.out.size; (have HCn : Below V1.heap.size V1 Wa := by first | exact HC.out.trans (q1.mono HC.out.size) | exact q1); replace HC := Lib.hid HCn; clear HCn q1 q2 q3
        refine hK.out _ _ ?_ (fun hHeld => ?_)
        · (try dsimp only); exact HP0.out _ HC.out
        clear hK K
        try simp only [Act.put, List.setIfInBounds_toArray, List.set_cons_zero, List.set_cons_succ]
        refine wpAnyH_ready (rs := [3]) (by kernel_rfl) (by simp) ?_
        refine hcons rfl (fun K hK => ?_) (AllReadyH.nil)
        go_simp
        refine (W01.out _).mono ?_; rintro e0 V3 ⟨rfl, hb⟩; (try replace HG := Lib.hid (HG.out.next hb)); replace HC := Lib.hid (HC.out.trans (hb.mono HC.out.size)); clear hb
        refine hK.out _ _ ?_ (fun hHeld => ?_)
        · (try dsimp only); exact HP0.out _ HC.out
        clear hK K
        try simp only [Act.put, List.setIfInBounds_toArray, List.set_cons_zero, List.set_cons_succ]
        refine wpAnyH_ready (rs := [4]) (by kernel_rfl) (by simp) ?_
        refine hcons rfl (fun K hK => ?_) (AllReadyH.nil)
        go_simp
        refine (N01.out _).mono ?_; rintro e0 V4 ⟨rfl, rfl⟩
        refine hK.out _ _ ?_ (fun hHeld => ?_)
        · (try dsimp only); exact HP0.out _ HC.out
        clear hK K
        try simp only [Act.put, List.setIfInBounds_toArray, List.set_cons_zero, List.set_cons_succ]
        refine wpAnyH_ready (rs := [8]) (by kernel_rfl) (by simp) ?_
        refine hcons rfl (fun K hK => ?_) (AllReadyH.nil)
        go_simp
        refine (W02.out _).mono ?_; rintro e0 V8 ⟨rfl, hb⟩; (try replace HG := Lib.hid (HG.out.next hb)); replace HC := Lib.hid (HC.out.trans (hb.mono HC.out.size)); clear hb
        refine hK.out _ _ ?_ (fun hHeld => ?_)
        · (try dsimp only); exact HP0.out _ HC.out
        clear hK K
        try simp only [Act.put, List.setIfInBounds_toArray, List.set_cons_zero, List.set_cons_succ]
        refine wpAnyH_ready (rs := [9]) (by kernel_rfl) (by simp) ?_
        refine hcons rfl (fun K hK => ?_) (AllReadyH.nil)
        go_simp
        refine (N02.out _).mono ?_; rintro e0 V9 ⟨rfl, rfl⟩
        refine hK.out _ _ ?_ (fun hHeld => ?_)
        · (try dsimp only); exact HP0.out _ HC.out
        clear hK K
        try simp only [Act.put, List.setIfInBounds_toArray, List.set_cons_zero, List.set_cons_succ]
        refine wpAnyH_ready (rs := [13]) (by kernel_rfl) (by simp) ?_
        refine hcons rfl (fun K hK => ?_) (AllReadyH.nil)
        go_simp
        refine (W00.out _).mono ?_; rintro e0 V13 ⟨rfl, hb⟩; (try replace HG := Lib.hid (HG.out.next hb)); replace HC := Lib.hid (HC.out.trans (hb.mono HC.out.size)); clear hb
        refine hK.out _ _ ?_ (fun hHeld => ?_)
        · (try dsimp only); exact HP0.out _ HC.out
        clear hK K
        try simp only [Act.put, List.setIfInBounds_toArray, List.set_cons_zero, List.set_cons_succ]
        refine htake (i := 14) (v := ?v20) rfl (by kernel_rfl) (by kernel_rfl) (by kernel_rfl) (fun _ _ _ h => h) (Or.inl ⟨by rfl, ?hy20⟩) (by assumption) ?_
        case hy20 => (intro w hSw; (try dsimp only at hSw); go_simp; try (with_reducible rfl))
        try simp only [Act.put, List.setIfInBounds_toArray, List.set_cons_zero, List.set_cons_succ]
        refine htake (i := 15) (v := ?v21) rfl (by kernel_rfl) (by kernel_rfl) (by kernel_rfl) (fun _ _ _ h => h) (Or.inl ⟨by rfl, ?hy21⟩) (by assumption) ?_
        case hy21 => (intro w hSw; (try dsimp only at hSw); go_simp; try (with_reducible rfl))
        try simp only [Act.put, List.setIfInBounds_toArray, List.set_cons_zero, List.set_cons_succ]
        refine wpAnyH_ready (rs := [17]) (by kernel_rfl) (by simp) ?_
        refine hcons rfl (fun K hK => ?_) (AllReadyH.nil)
        have z0 := HG.out.c 0 _ rfl; have z1 := HG.out.c 1 _ rfl; have z2 := HG.out.c 2 _ rfl; have z3 := HG.out.c 3 _ rfl; have z4 := HG.out.c 4 _ rfl; have z5 := HG.out.c 5 _ rfl; have z6 := HG.out.c 6 _ rfl; have z7 := HG.out.c 7 _ rfl; have z8 := HG.out.c 8 _ rfl; have y0 := HG.out.fr 0; have y1 := HG.out.fr 1; have y2 := HG.out.fr 2; have y3 := HG.out.fr 3; have y4 := HG.out.fr 4; have y5 := HG.out.fr 5; have y6 := HG.out.fr 6; have y7 := HG.out.fr 7; have y8 := HG.out.fr 8; go_simp; clear z0 z1 z2 z3 z4 z5 z6 z7 z8 y0 y1 y2 y3 y4 y5 y6 y7 y8; replace HG := Lib.hid (HG.out.setAll [.int .i64 0, .int .i64 0, .int .i64 0, .int .i64 0, .int .i64 0, .int .i64 a1, .int .i64 a2, .bool tB, .slice none 0 0] rfl); replace HC := Lib.hid (below_setCells HGB.out [.int .i64 0, .int .i64 0, .int .i64 0, .int .i64 0, .int .i64 0, .int .i64 a1, .int .i64 a2, .bool tB, .slice none 0 0] 0 HC.out)
        refine hK.out _ _ ?_ (fun hHeld => ?_)
        · (try dsimp only); exact HP0.out _ HC.out
        clear hK K
        try simp only [Act.put]
        refine wpAnyH_done (by kernel_rfl) ?_ _
        refine NoPanic.normal ?_
        iterate 19 (try clear hHeld)
        all_goals (go_wp2_with fail; go_meet)
        all_goals exact ⟨_, rfl, HGB.out, HG.out, HC.out⟩
      case rest =>
        obtain ⟨g, rfl, hgb, hx, hb⟩ := hcut
        have HGB := Lib.hid hgb
        have HG0 := Lib.hid hx
        have HC0 := Lib.hid hb
        clear hgb hx hb W00 W01 W02 N01 N02 hqt
        go_upto_region 7 with fail
        have HC := Lib.hid (HC0.out.drew)
        have HG := Lib.hid (HG0.out.drew)
        clear HC0 HG0
        have hps1 : 1 < ps.length := by omega
        have hps1i : (1 : Int) < (ps.length : Int) := by omega
        refine wp_region_noPanic ?_
        refine wp_region_held_drew (S := (fun W => W.cell? ⟨bl, 1, none⟩ = some (tx p1))) (by kernel_rfl) ?_ (fun hHeld => ?_)
        · (try dsimp only); exact HP1.out _ HC.out
        refine htake (i := 0) (v := ?v22) rfl (by kernel_rfl) (by kernel_rfl) (by kernel_rfl) (fun _ _ _ h => h) (Or.inl ⟨by rfl, ?hy22⟩) (by assumption) ?_
        case hy22 => (intro w hSw; (try dsimp only at hSw); go_simp; try (with_reducible rfl))
        try simp only [Act.put, List.setIfInBounds_toArray, List.set_cons_zero, List.set_cons_succ]
        refine htake (i := 1) (v := ?v23) rfl (by kernel_rfl) (by kernel_rfl) (by kernel_rfl) (fun _ _ _ h => h) (Or.inl ⟨by rfl, ?hy23⟩) (by assumption) ?_
        case hy23 => (intro w hSw; (try dsimp only at hSw); go_simp; try (with_reducible rfl))
        try simp only [Act.put, List.setIfInBounds_toArray, List.set_cons_zero, List.set_cons_succ]
        refine htake (i := 2) (v := ?v24) rfl (by kernel_rfl) (by kernel_rfl) (by kernel_rfl) (fun _ _ _ h => h) (Or.inl ⟨by rfl, ?hy24⟩) (by assumption) ?_
        case hy24 => (intro w hSw; (try dsimp only at hSw); go_simp; try (with_reducible rfl))
        try simp only [Act.put, List.setIfInBounds_toArray, List.set_cons_zero, List.set_cons_succ]
        refine htake (i := 5) (v := ?v25) rfl (by kernel_rfl) (by kernel_rfl) (by kernel_rfl) (fun _ _ _ h => h) (Or.inl ⟨by rfl, ?hy25⟩) (by assumption) ?_
        case hy25 => (intro w hSw; (try dsimp only at hSw); go_simp; try (with_reducible rfl))
        try simp only [Act.put, List.setIfInBounds_toArray, List.set_cons_zero, List.set_cons_succ]
        refine htake (i := 6) (v := ?v26) rfl (by kernel_rfl) (by kernel_rfl) (by kernel_rfl) (fun _ _ _ h => h) (Or.inl ⟨by rfl, ?hy26⟩) (by assumption) ?_
        case hy26 => (intro w hSw; (try dsimp only at hSw); go_simp; try (with_reducible rfl))
        try simp only [Act.put, List.setIfInBounds_toArray, List.set_cons_zero, List.set_cons_succ]
        refine htake (i := 7) (v := ?v27) rfl (by kernel_rfl) (by kernel_rfl) (by kernel_rfl) (fun _ _ _ h => h) (Or.inl ⟨by rfl, ?hy27⟩) (by assumption) ?_
        case hy27 => (intro w hSw; (try dsimp only at hSw); go_simp; try (with_reducible rfl))
        try simp only [Act.put, List.setIfInBounds_toArray, List.set_cons_zero, List.set_cons_succ]
        refine htake (i := 10) (v := ?v28) rfl (by kernel_rfl) (by kernel_rfl) (by kernel_rfl) (fun _ _ _ h => h) (Or.inl ⟨by rfl, ?hy28⟩) (by assumption) ?_
        case hy28 => (intro w hSw; (try dsimp only at hSw); go_simp; try (with_reducible rfl))
        try simp only [Act.put, List.setIfInBounds_toArray, List.set_cons_zero, List.set_cons_succ]
        refine htake (i := 11) (v := ?v29) rfl (by kernel_rfl) (by kernel_rfl) (by kernel_rfl) (fun _ _ _ h => h) (Or.inl ⟨by rfl, ?hy29⟩) (by assumption) ?_
        case hy29 => (intro w hSw; (try dsimp only at hSw); go_simp; try (with_reducible rfl))
        try simp only [Act.put, List.setIfInBounds_toArray, List.set_cons_zero, List.set_cons_succ]
        refine htake (i := 12) (v := ?v30) rfl (by kernel_rfl) (by kernel_rfl) (by kernel_rfl) (fun _ _ _ h => h) (Or.inl ⟨by rfl, ?hy30⟩) (by assumption) ?_
        case hy30 => (intro w hSw; (try dsimp only at hSw); go_simp; try (with_reducible rfl))
        try simp only [Act.put, List.setIfInBounds_toArray, List.set_cons_zero, List.set_cons_succ]
        refine htake (i := 15) (v := ?v31) rfl (by kernel_rfl) (by kernel_rfl) (by kernel_rfl) (fun _ _ _ h => h) (Or.inl ⟨by rfl, ?hy31⟩) (by assumption) ?_
        case hy31 => (intro w hSw; (try dsimp only at hSw); go_simp; try (with_reducible rfl))
        try simp only [Act.put, List.setIfInBounds_toArray, List.set_cons_zero, List.set_cons_succ]
        refine htake (i := 16) (v := ?v32) rfl (by kernel_rfl) (by kernel_rfl) (by kernel_rfl) (fun _ _ _ h => h) (Or.inl ⟨by rfl, ?hy32⟩) (by assumption) ?_
        case hy32 => (intro w hSw; (try dsimp only at hSw); go_simp; try (with_reducible rfl))
        try simp only [Act.put, List.setIfInBounds_toArray, List.set_cons_zero, List.set_cons_succ]
        refine htake (i := 17) (v := ?v33) rfl (by kernel_rfl) (by kernel_rfl) (by kernel_rfl) (fun _ _ _ h => h) (Or.inl ⟨by rfl, ?hy33⟩) (by assumption) ?_
        case hy33 => (intro w hSw; (try dsimp only at hSw); go_simp; try (with_reducible rfl))
        try simp only [Act.put, List.setIfInBounds_toArray, List.set_cons_zero, List.set_cons_succ]
        refine wpAnyH_ready (rs := [3]) (by kernel_rfl) (by simp) ?_
        refine hcons rfl (fun K hK => ?_) (AllReadyH.nil)
        go_simp
        refine (W11.out _).mono ?_; rintro e0 V3 ⟨rfl, hb⟩; (try unfold spv); replace HG := Lib.hid (HG.out.next hb); replace HC := Lib.hid (HC.out.trans (hb.mono HC.out.size)); clear hb
        refine hK.out _ _ ?_ (fun hHeld => ?_)
        · (try dsimp only); exact HP1.out _ HC.out
        clear hK K
        try simp only [Act.put, List.setIfInBounds_toArray, List.set_cons_zero, List.set_cons_succ]
        refine wpAnyH_ready (rs := [4]) (by kernel_rfl) (by simp) ?_
        refine hcons rfl (fun K hK => ?_) (AllReadyH.nil)
        go_simp
        refine (N11.out _).mono ?_; rintro e0 V4 ⟨rfl, rfl⟩
        refine hK.out _ _ ?_ (fun hHeld => ?_)
        · (try dsimp only); exact HP1.out _ HC.out
        clear hK K
        try simp only [Act.put, List.setIfInBounds_toArray, List.set_cons_zero, List.set_cons_succ]
        refine wpAnyH_ready (rs := [8]) (by kernel_rfl) (by simp) ?_
        refine hcons rfl (fun K hK => ?_) (AllReadyH.nil)
        go_simp
        refine (W12.out _).mono ?_; rintro e0 V8 ⟨rfl, hb⟩; (try unfold spv); replace HG := Lib.hid (HG.out.next hb); replace HC := Lib.hid (HC.out.trans (hb.mono HC.out.size)); clear hb
        refine hK.out _ _ ?_ (fun hHeld => ?_)
        · (try dsimp only); exact HP1.out _ HC.out
        clear hK K
        try simp only [Act.put, List.setIfInBounds_toArray, List.set_cons_zero, List.set_cons_succ]
        refine wpAnyH_ready (rs := [9]) (by kernel_rfl) (by simp) ?_
        refine hcons rfl (fun K hK => ?_) (AllReadyH.nil)
        go_simp
        refine (N12.out _).mono ?_; rintro e0 V9 ⟨rfl, rfl⟩
        refine hK.out _ _ ?_ (fun hHeld => ?_)
        · (try dsimp only); exact HP1.out _ HC.out
        clear hK K
        try simp only [Act.put, List.setIfInBounds_toArray, List.set_cons_zero, List.set_cons_succ]
        refine wpAnyH_ready (rs := [13]) (by kernel_rfl) (by simp) ?_
        refine hcons rfl (fun K hK => ?_) (AllReadyH.nil)
        go_simp
        refine (W13.out _).mono ?_; rintro e0 V13 ⟨rfl, hb⟩; (try unfold spv); replace HG := Lib.hid (HG.out.next hb); replace HC := Lib.hid (HC.out.trans (hb.mono HC.out.size)); clear hb
        refine hK.out _ _ ?_ (fun hHeld => ?_)
        · (try dsimp only); exact HP1.out _ HC.out
        clear hK K
        try simp only [Act.put, List.setIfInBounds_toArray, List.set_cons_zero, List.set_cons_succ]
        refine wpAnyH_ready (rs := [14]) (by kernel_rfl) (by simp) ?_
        refine hcons rfl (fun K hK => ?_) (AllReadyH.nil)
        go_simp
        refine (N13.out _).mono ?_; rintro e0 V14 ⟨rfl, rfl⟩
        refine hK.out _ _ ?_ (fun hHeld => ?_)
        · (try dsimp only); exact HP1.out _ HC.out
        clear hK K
        try simp only [Act.put, List.setIfInBounds_toArray, List.set_cons_zero, List.set_cons_succ]
        refine wpAnyH_ready (rs := [18]) (by kernel_rfl) (by simp) ?_
        refine hcons rfl (fun K hK => ?_) (AllReadyH.nil)
        go_simp
        refine (W14.out _).mono ?_; rintro e0 V18 ⟨rfl, hb⟩; (try unfold spv); replace HG := Lib.hid (HG.out.next hb); replace HC := Lib.hid (HC.out.trans (hb.mono HC.out.size)); clear hb
        refine hK.out _ _ ?_ (fun hHeld => ?_)
        · (try dsimp only); exact HP1.out _ HC.out
        clear hK K
        try simp only [Act.put, List.setIfInBounds_toArray, List.set_cons_zero, List.set_cons_succ]
        refine wpAnyH_ready (rs := [19]) (by kernel_rfl) (by simp) ?_
        refine hcons rfl (fun K hK => ?_) (AllReadyH.nil)
        go_simp
        refine (S14.out _).mono ?_; rintro e0 V19 ⟨rfl, hb⟩; (try unfold spv); replace HG := Lib.hid (HG.out.next hb); replace HC := Lib.hid (HC.out.trans (hb.mono HC.out.size)); clear hb
        refine hK.out _ _ ?_ (fun hHeld => ?_)
        · (try dsimp only); exact HP1.out _ HC.out
        clear hK K
        try simp only [Act.put, List.setIfInBounds_toArray, List.set_cons_zero, List.set_cons_succ]
        refine htake (i := 20) (v := ?v34) rfl (by kernel_rfl) (by kernel_rfl) (by kernel_rfl) (fun _ _ _ h => h) (Or.inl ⟨by rfl, ?hy34⟩) (by assumption) ?_
        case hy34 => (intro w hSw; (try dsimp only at hSw); go_simp; try (with_reducible rfl))
        try simp only [Act.put, List.setIfInBounds_toArray, List.set_cons_zero, List.set_cons_succ]
        refine htake (i := 21) (v := ?v35) rfl (by kernel_rfl) (by kernel_rfl) (by kernel_rfl) (fun _ _ _ h => h) (Or.inl ⟨by rfl, ?hy35⟩) (by assumption) ?_
        case hy35 => (intro w hSw; (try dsimp only at hSw); go_simp; try (with_reducible rfl))
        try simp only [Act.put, List.setIfInBounds_toArray, List.set_cons_zero, List.set_cons_succ]
        refine wpAnyH_ready (rs := [22]) (by kernel_rfl) (by simp) ?_
        refine hcons rfl (fun K hK => ?_) (AllReadyH.nil)
        have z0 := HG.out.c 0 _ rfl; have z1 := HG.out.c 1 _ rfl; have z2 := HG.out.c 2 _ rfl; have z3 := HG.out.c 3 _ rfl; have z4 := HG.out.c 4 _ rfl; have y0 := HG.out.fr 0; have y1 := HG.out.fr 1; have y2 := HG.out.fr 2; have y3 := HG.out.fr 3; have y4 := HG.out.fr 4; go_simp; clear z0 z1 z2 z3 z4 y0 y1 y2 y3 y4; replace HG := Lib.hid (((((HG.out.set (k := 0) (by simp) (.int .i64 b1)).set (k := 1) (by simp) (.int .i64 b2)).set (k := 2) (by simp) (.int .i64 b3)).set (k := 3) (by simp) (.int .i64 s4.lo)).set (k := 4) (by simp) (.int .i64 s4.hi)); replace HC := Lib.hid (below_setCells HGB.out [.int .i64 b1, .int .i64 b2, .int .i64 b3, .int .i64 s4.lo, .int .i64 s4.hi] 0 HC.out)
        refine hK.out _ _ ?_ (fun hHeld => ?_)
        · (try dsimp only); exact HP1.out _ HC.out
        clear hK K
        try simp only [Act.put]
        refine wpAnyH_done (by kernel_rfl) ?_ _
        refine NoPanic.normal ?_
        iterate 24 (try clear hHeld)
        have HG2 := Lib.hid (show Bx _ g (puC' (puR ps 0) (.slice none 0 0)) by rw [HPU.out]; exact HG.out)
        have HG3 := Lib.hid (show Bx (((((V19.setCell ⟨g, 0, none⟩ (.int .i64 b1)).setCell ⟨g, 1, none⟩ (.int .i64 b2)).setCell ⟨g, 2, none⟩ (.int .i64 b3)).setCell ⟨g, 3, none⟩ (.int .i64 s4.lo)).setCell ⟨g, 4, none⟩ (.int .i64 s4.hi)) g (puC' (puR ps 0) (.slice none 0 0)) from HG2.out)
        have HC3 := Lib.hid (show Below V1.heap.size V1 (((((V19.setCell ⟨g, 0, none⟩ (.int .i64 b1)).setCell ⟨g, 1, none⟩ (.int .i64 b2)).setCell ⟨g, 2, none⟩ (.int .i64 b3)).setCell ⟨g, 3, none⟩ (.int .i64 s4.lo)).setCell ⟨g, 4, none⟩ (.int .i64 s4.hi)) from HC.out)
        clear HG2 HG HC W11 W12 W13 W14 N11 N12 N13 S14 HP0 HP1 HPU hps1 hps1i hps0 h2i
        generalize (((((V19.setCell ⟨g, 0, none⟩ (.int .i64 b1)).setCell ⟨g, 1, none⟩ (.int .i64 b2)).setCell ⟨g, 2, none⟩ (.int .i64 b3)).setCell ⟨g, 3, none⟩ (.int .i64 s4.lo)).setCell ⟨g, 4, none⟩ (.int .i64 s4.hi)) = W2 at *
        go_wp2_with fail
        go_loopw [6] (fun i wr => RRd ps V1.heap.size V1 g i wr) (fun i _ => 100 - (intOf i).toNat)
        case atStart => exact ⟨0, .slice none 0 0, rfl, Nat.zero_le _, HG3.out, World.ownsRow_nil _ _ _ _, HC3.out⟩
        case round =>
          obtain ⟨j, v, rfl, hj, hx, hown, hb⟩ := hrel
          have HG4 := Lib.hid hx
          have HC4 := Lib.hid hb
          have HOWN := Lib.hid hown
          have HPC := Lib.hid (pcsR_succ ps j)
          have HLJ := Lib.hid (pcsR_len ps j)
          have hj10 : j ≤ 10 := Nat.le_trans hj (Nat.min_le_left _ _)
          obtain ⟨i, hij⟩ : ∃ i, 2 + 5 * j = i := ⟨_, rfl⟩
          have hi52 : i ≤ 52 := by omega
          rw [hij] at HPC ⊢
          have HIJ := Lib.hid hij
          have hwi4 : IntKind.i64.wrap ((i : Int) + 4) = (i : Int) + 4 := IntWalk.i64_in _ (by omega)
          clear hx hb hown
          by_cases hc : i + 4 < ps.length ∧ j < 10
          · obtain ⟨hc1, hc2⟩ := hc
            have HJ1 := Lib.hid (show j + 1 ≤ min 10 ((ps.length - 2) / 5) by omega)
            have d1 : decide ((i : Int) + 4 < (ps.length : Int)) = true := decide_eq_true (by omega)
            have d2 : decide ((j : Int) < 10) = true := decide_eq_true (by omega)
            have HS := Lib.hid (show ∀ W, Below V1.heap.size V1 W → (W.cell? ⟨bl, i + 1, none⟩ = some (tx (ps.getD (i + 1) [])) ∧ W.cell? ⟨bl, i + 2, none⟩ = some (tx (ps.getD (i + 2) [])) ∧ W.cell? ⟨bl, i + 3, none⟩ = some (tx (ps.getD (i + 3) [])) ∧ W.cell? ⟨bl, i + 4, none⟩ = some (tx (ps.getD (i + 4) []))) from fun W h => ⟨HPS.out W h _ (by omega), HPS.out W h _ (by omega), HPS.out W h _ (by omega), HPS.out W h _ (by omega)⟩)
            have S1 := Lib.hid (fun W => sideR_any (ps.getD (i + 1) []) (HPL.out _ (getD_mem (by omega))) W)
            have S2 := Lib.hid (fun W => sideR_any (ps.getD (i + 2) []) (HPL.out _ (getD_mem (by omega))) W)
            have S3 := Lib.hid (fun W => sideR_any (ps.getD (i + 3) []) (HPL.out _ (getD_mem (by omega))) W)
            have S4 := Lib.hid (fun W => sideR_any (ps.getD (i + 4) []) (HPL.out _ (getD_mem (by omega))) W)
            change Hid (pcsR ps (j + 1) = pcsR ps j ++ [⟨sideR (ps.getD (i + 1) []), sideR (ps.getD (i + 2) []), sideR (ps.getD (i + 3) []), sideR (ps.getD (i + 4) [])⟩]) at HPC
            generalize sideR (ps.getD (i + 1) []) = x1 at *
            generalize sideR (ps.getD (i + 2) []) = x2 at *
            generalize sideR (ps.getD (i + 3) []) = x3 at *
            generalize sideR (ps.getD (i + 4) []) = x4 at *
            generalize ps.getD (i + 1) [] = l1 at *
            generalize ps.getD (i + 2) [] = l2 at *
            generalize ps.getD (i + 3) [] = l3 at *
            generalize ps.getD (i + 4) [] = l4 at *
            have hwi1 : IntKind.i64.wrap ((i : Int) + 1) = (i : Int) + 1 := IntWalk.i64_in _ (by omega)
            have hwi2 : IntKind.i64.wrap ((i : Int) + 2) = (i : Int) + 2 := IntWalk.i64_in _ (by omega)
            have hwi3 : IntKind.i64.wrap ((i : Int) + 3) = (i : Int) + 3 := IntWalk.i64_in _ (by omega)
            have hwi5 : IntKind.i64.wrap ((i : Int) + 5) = (i : Int) + 5 := IntWalk.i64_in _ (by omega)
            have hn1 : (0 ≤ (i : Int) + 1 ∧ (i : Int) + 1 < (ps.length : Int)) = True := by simp; omega
            have hn2 : (0 ≤ (i : Int) + 2 ∧ (i : Int) + 2 < (ps.length : Int)) = True := by simp; omega
            have hn3 : (0 ≤ (i : Int) + 3 ∧ (i : Int) + 3 < (ps.length : Int)) = True := by simp; omega
            have hn4 : (0 ≤ (i : Int) + 4 ∧ (i : Int) + 4 < (ps.length : Int)) = True := by simp; omega
            have ht1 : ((i : Int) + 1).toNat = i + 1 := by omega
            have ht2 : ((i : Int) + 2).toNat = i + 2 := by omega
            have ht3 : ((i : Int) + 3).toNat = i + 3 := by omega
            have ht4 : ((i : Int) + 4).toNat = i + 4 := by omega
            obtain ⟨A0, c0, hv0, -⟩ := own_form HOWN.out
            have hlj := HLJ.out
            have z8 := HG4.out.c 8 _ rfl
            rw [hv0, hlj] at z8
            have HV0 := Lib.hid hv0
            clear hv0
            go_upto_region 11 with fail
            clear z8
            have HG := Lib.hid (HG4.out.drew)
            have HC := Lib.hid (HC4.out.drew)
            replace HOWN := Lib.hid (own_below HOWN.out ((Below.refl _ _).drew))
            have HLJ2 := Lib.hid hlj
            clear hc1 hc2 hlj d1 d2 HLJ HG4 HC4 HPS HPL HRS hj hij
            refine wp_region_noPanic ?_
            refine wp_region_held_drew (S := (fun W => W.cell? ⟨bl, i + 1, none⟩ = some (tx l1) ∧ W.cell? ⟨bl, i + 2, none⟩ = some (tx l2) ∧ W.cell? ⟨bl, i + 3, none⟩ = some (tx l3) ∧ W.cell? ⟨bl, i + 4, none⟩ = some (tx l4))) (by kernel_rfl) ?_ (fun hHeld => ?_)
            · (try dsimp only); exact HS.out _ HC.out
            refine htake (i := 0) (v := ?v36) rfl (by kernel_rfl) (by kernel_rfl) (by kernel_rfl) (fun _ _ _ h => h) (Or.inl ⟨by rfl, ?hy36⟩) (by assumption) ?_
            case hy36 => (intro w hSw; (try dsimp only at hSw); go_simp; try (with_reducible rfl))
            try simp only [Act.put, List.setIfInBounds_toArray, List.set_cons_zero, List.set_cons_succ]
            refine htake (i := 2) (v := ?v37) rfl (by kernel_rfl) (by kernel_rfl) (by kernel_rfl) (fun _ _ _ h => h) (Or.inl ⟨by rfl, ?hy37⟩) (by assumption) ?_
            case hy37 => (intro w hSw; (try dsimp only at hSw); go_simp; try (with_reducible rfl))
            try simp only [Act.put, List.setIfInBounds_toArray, List.set_cons_zero, List.set_cons_succ]
            refine htake (i := 3) (v := ?v38) rfl (by kernel_rfl) (by kernel_rfl) (by kernel_rfl) (fun _ _ _ h => h) (Or.inl ⟨by rfl, ?hy38⟩) (by assumption) ?_
            case hy38 => (intro w hSw; (try dsimp only at hSw); go_simp; try (with_reducible rfl))
            try simp only [Act.put, List.setIfInBounds_toArray, List.set_cons_zero, List.set_cons_succ]
            refine htake (i := 4) (v := ?v39) rfl (by kernel_rfl) (by kernel_rfl) (by kernel_rfl) (fun _ _ _ h => h) (Or.inl ⟨by rfl, ?hy39⟩) (by assumption) ?_
            case hy39 => (intro w hSw; (try dsimp only at hSw); go_simp; try (with_reducible rfl))
            try simp only [Act.put, List.setIfInBounds_toArray, List.set_cons_zero, List.set_cons_succ]
            refine htake (i := 5) (v := ?v40) rfl (by kernel_rfl) (by kernel_rfl) (by kernel_rfl) (fun _ _ _ h => h) (Or.inl ⟨by rfl, ?hy40⟩) (by assumption) ?_
            case hy40 => (intro w hSw; (try dsimp only at hSw); go_simp; try (with_reducible rfl))
            try simp only [Act.put, List.setIfInBounds_toArray, List.set_cons_zero, List.set_cons_succ]
            refine htake (i := 6) (v := ?v41) rfl (by kernel_rfl) (by kernel_rfl) (by kernel_rfl) (fun _ _ _ h => h) (Or.inl ⟨by rfl, ?hy41⟩) (by assumption) ?_
            case hy41 => (intro w hSw; (try dsimp only at hSw); go_simp; try (with_reducible rfl))
            try simp only [Act.put, List.setIfInBounds_toArray, List.set_cons_zero, List.set_cons_succ]
            refine htake (i := 8) (v := ?v42) rfl (by kernel_rfl) (by kernel_rfl) (by kernel_rfl) (fun _ _ _ h => h) (Or.inl ⟨by rfl, ?hy42⟩) (by assumption) ?_
            case hy42 => (intro w hSw; (try dsimp only at hSw); go_simp; try (with_reducible rfl))
            try simp only [Act.put, List.setIfInBounds_toArray, List.set_cons_zero, List.set_cons_succ]
            refine htake (i := 9) (v := ?v43) rfl (by kernel_rfl) (by kernel_rfl) (by kernel_rfl) (fun _ _ _ h => h) (Or.inl ⟨by rfl, ?hy43⟩) (by assumption) ?_
            case hy43 => (intro w hSw; (try dsimp only at hSw); go_simp; try (with_reducible rfl))
            try simp only [Act.put, List.setIfInBounds_toArray, List.set_cons_zero, List.set_cons_succ]
            refine htake (i := 10) (v := ?v44) rfl (by kernel_rfl) (by kernel_rfl) (by kernel_rfl) (fun _ _ _ h => h) (Or.inl ⟨by rfl, ?hy44⟩) (by assumption) ?_
            case hy44 => (intro w hSw; (try dsimp only at hSw); go_simp; try (with_reducible rfl))
            try simp only [Act.put, List.setIfInBounds_toArray, List.set_cons_zero, List.set_cons_succ]
            refine htake (i := 11) (v := ?v45) rfl (by kernel_rfl) (by kernel_rfl) (by kernel_rfl) (fun _ _ _ h => h) (Or.inl ⟨by rfl, ?hy45⟩) (by assumption) ?_
            case hy45 => (intro w hSw; (try dsimp only at hSw); go_simp; try (with_reducible rfl))
            try simp only [Act.put, List.setIfInBounds_toArray, List.set_cons_zero, List.set_cons_succ]
            refine htake (i := 12) (v := ?v46) rfl (by kernel_rfl) (by kernel_rfl) (by kernel_rfl) (fun _ _ _ h => h) (Or.inl ⟨by rfl, ?hy46⟩) (by assumption) ?_
            case hy46 => (intro w hSw; (try dsimp only at hSw); go_simp; try (with_reducible rfl))
            try simp only [Act.put, List.setIfInBounds_toArray, List.set_cons_zero, List.set_cons_succ]
            refine htake (i := 14) (v := ?v47) rfl (by kernel_rfl) (by kernel_rfl) (by kernel_rfl) (fun _ _ _ h => h) (Or.inl ⟨by rfl, ?hy47⟩) (by assumption) ?_
            case hy47 => (intro w hSw; (try dsimp only at hSw); go_simp; try (with_reducible rfl))
            try simp only [Act.put, List.setIfInBounds_toArray, List.set_cons_zero, List.set_cons_succ]
            refine htake (i := 15) (v := ?v48) rfl (by kernel_rfl) (by kernel_rfl) (by kernel_rfl) (fun _ _ _ h => h) (Or.inl ⟨by rfl, ?hy48⟩) (by assumption) ?_
            case hy48 => (intro w hSw; (try dsimp only at hSw); go_simp; try (with_reducible rfl))
            try simp only [Act.put, List.setIfInBounds_toArray, List.set_cons_zero, List.set_cons_succ]
            refine htake (i := 16) (v := ?v49) rfl (by kernel_rfl) (by kernel_rfl) (by kernel_rfl) (fun _ _ _ h => h) (Or.inl ⟨by rfl, ?hy49⟩) (by assumption) ?_
            case hy49 => (intro w hSw; (try dsimp only at hSw); go_simp; try (with_reducible rfl))
            try simp only [Act.put, List.setIfInBounds_toArray, List.set_cons_zero, List.set_cons_succ]
            refine htake (i := 17) (v := ?v50) rfl (by kernel_rfl) (by kernel_rfl) (by kernel_rfl) (fun _ _ _ h => h) (Or.inl ⟨by rfl, ?hy50⟩) (by assumption) ?_
            case hy50 => (intro w hSw; (try dsimp only at hSw); go_simp; try (with_reducible rfl))
            try simp only [Act.put, List.setIfInBounds_toArray, List.set_cons_zero, List.set_cons_succ]
            refine htake (i := 18) (v := ?v51) rfl (by kernel_rfl) (by kernel_rfl) (by kernel_rfl) (fun _ _ _ h => h) (Or.inl ⟨by rfl, ?hy51⟩) (by assumption) ?_
            case hy51 => (intro w hSw; (try dsimp only at hSw); go_simp; try (with_reducible rfl))
            try simp only [Act.put, List.setIfInBounds_toArray, List.set_cons_zero, List.set_cons_succ]
            refine htake (i := 20) (v := ?v52) rfl (by kernel_rfl) (by kernel_rfl) (by kernel_rfl) (fun _ _ _ h => h) (Or.inl ⟨by rfl, ?hy52⟩) (by assumption) ?_
            case hy52 => (intro w hSw; (try dsimp only at hSw); go_simp; try (with_reducible rfl))
            try simp only [Act.put, List.setIfInBounds_toArray, List.set_cons_zero, List.set_cons_succ]
            refine htake (i := 21) (v := ?v53) rfl (by kernel_rfl) (by kernel_rfl) (by kernel_rfl) (fun _ _ _ h => h) (Or.inl ⟨by rfl, ?hy53⟩) (by assumption) ?_
            case hy53 => (intro w hSw; (try dsimp only at hSw); go_simp; try (with_reducible rfl))
            try simp only [Act.put, List.setIfInBounds_toArray, List.set_cons_zero, List.set_cons_succ]
            refine htake (i := 22) (v := ?v54) rfl (by kernel_rfl) (by kernel_rfl) (by kernel_rfl) (fun _ _ _ h => h) (Or.inl ⟨by rfl, ?hy54⟩) (by assumption) ?_
            case hy54 => (intro w hSw; (try dsimp only at hSw); go_simp; try (with_reducible rfl))
            try simp only [Act.put, List.setIfInBounds_toArray, List.set_cons_zero, List.set_cons_succ]
            refine htake (i := 23) (v := ?v55) rfl (by kernel_rfl) (by kernel_rfl) (by kernel_rfl) (fun _ _ _ h => h) (Or.inl ⟨by rfl, ?hy55⟩) (by assumption) ?_
            case hy55 => (intro w hSw; (try dsimp only at hSw); go_simp; try (with_reducible rfl))
            try simp only [Act.put, List.setIfInBounds_toArray, List.set_cons_zero, List.set_cons_succ]
            refine htake (i := 24) (v := ?v56) rfl (by kernel_rfl) (by kernel_rfl) (by kernel_rfl) (fun _ _ _ h => h) (Or.inl ⟨by rfl, ?hy56⟩) (by assumption) ?_
            case hy56 => (intro w hSw; (try dsimp only at hSw); go_simp; try (with_reducible rfl))
            try simp only [Act.put, List.setIfInBounds_toArray, List.set_cons_zero, List.set_cons_succ]
            refine wpAnyH_ready (rs := [1, 7]) (by kernel_rfl) (by simp) ?_
            refine hcons rfl (fun K hK => ?_) (hcons rfl (fun K hK => ?_) (AllReadyH.nil))
            have z8 := HG.out.c 8 _ rfl; go_simp; clear z8
            refine hK.out _ _ ?_ (fun hHeld => ?_)
            · (try dsimp only); exact HS.out _ HC.out
            clear hK K
            try simp only [Act.put, List.setIfInBounds_toArray, List.set_cons_zero, List.set_cons_succ]
            refine wpAnyH_ready (rs := [7]) (by kernel_rfl) (by simp) ?_
            refine hcons rfl (fun K hK => ?_) (AllReadyH.nil)
            go_simp
            refine (S1.out _).mono ?_; rintro e0 V7 ⟨rfl, hb⟩; unfold edv; replace HG := Lib.hid (HG.out.next hb); replace HOWN := Lib.hid (own_below HOWN.out hb); replace HC := Lib.hid (HC.out.trans (hb.mono HC.out.size)); clear hb
            refine hK.out _ _ ?_ (fun hHeld => ?_)
            · (try dsimp only); exact HS.out _ HC.out
            clear hK K
            try simp only [Act.put, List.setIfInBounds_toArray, List.set_cons_zero, List.set_cons_succ]
            refine wpAnyH_ready (rs := [13]) (by kernel_rfl) (by simp) ?_
            refine hcons rfl (fun K hK => ?_) (AllReadyH.nil)
            go_simp
            refine (S2.out _).mono ?_; rintro e0 V13 ⟨rfl, hb⟩; unfold edv; replace HG := Lib.hid (HG.out.next hb); replace HOWN := Lib.hid (own_below HOWN.out hb); replace HC := Lib.hid (HC.out.trans (hb.mono HC.out.size)); clear hb
            refine hK.out _ _ ?_ (fun hHeld => ?_)
            · (try dsimp only); exact HS.out _ HC.out
            clear hK K
            try simp only [Act.put, List.setIfInBounds_toArray, List.set_cons_zero, List.set_cons_succ]
            refine wpAnyH_ready (rs := [19]) (by kernel_rfl) (by simp) ?_
            refine hcons rfl (fun K hK => ?_) (AllReadyH.nil)
            go_simp
            refine (S3.out _).mono ?_; rintro e0 V19 ⟨rfl, hb⟩; unfold edv; replace HG := Lib.hid (HG.out.next hb); replace HOWN := Lib.hid (own_below HOWN.out hb); replace HC := Lib.hid (HC.out.trans (hb.mono HC.out.size)); clear hb
            refine hK.out _ _ ?_ (fun hHeld => ?_)
            · (try dsimp only); exact HS.out _ HC.out
            clear hK K
            try simp only [Act.put, List.setIfInBounds_toArray, List.set_cons_zero, List.set_cons_succ]
            refine wpAnyH_ready (rs := [25]) (by kernel_rfl) (by simp) ?_
            refine hcons rfl (fun K hK => ?_) (AllReadyH.nil)
            go_simp
            refine (S4.out _).mono ?_; rintro e0 V25 ⟨rfl, hb⟩; unfold edv; replace HG := Lib.hid (HG.out.next hb); replace HOWN := Lib.hid (own_below HOWN.out hb); replace HC := Lib.hid (HC.out.trans (hb.mono HC.out.size)); clear hb
            refine hK.out _ _ ?_ (fun hHeld => ?_)
            · (try dsimp only); exact HS.out _ HC.out
            clear hK K
            try simp only [Act.put, List.setIfInBounds_toArray, List.set_cons_zero, List.set_cons_succ]
            refine htake (i := 26) (v := ?v57) rfl (by kernel_rfl) (by kernel_rfl) (by kernel_rfl) (fun _ _ _ h => h) (Or.inl ⟨by rfl, ?hy57⟩) (by assumption) ?_
            case hy57 => (intro w hSw; (try dsimp only at hSw); go_simp; try (with_reducible rfl))
            try simp only [Act.put, List.setIfInBounds_toArray, List.set_cons_zero, List.set_cons_succ]
            refine htake (i := 27) (v := ?v58) rfl (by kernel_rfl) (by kernel_rfl) (by kernel_rfl) (fun _ _ _ h => h) (Or.inl ⟨by rfl, ?hy58⟩) (by assumption) ?_
            case hy58 => (intro w hSw; (try dsimp only at hSw); go_simp; try (with_reducible rfl))
            try simp only [Act.put, List.setIfInBounds_toArray, List.set_cons_zero, List.set_cons_succ]
            refine wpAnyH_ready (rs := [28]) (by kernel_rfl) (by simp) ?_
            refine hcons rfl (fun K hK => ?_) (AllReadyH.nil)
            go_simp
            (first | refine hold_alloc (fun Wa q1 q2 q3 => ?_) | refine hold_alloc_drew (fun Wa q1 q2 q3 => ?_)); have HN := Lib.hid (show Bx _ _ (Pc.cells ⟨x1, x2, x3, x4⟩) from q2); replace HG := Lib.hid (HG.out.next q1); replace HOWN := Lib.hid (own_below HOWN.out q1); replace HC := Lib.hid (HC.out.trans (q1.mono HC.out.size)); clear q1 q2 q3
            refine hK.out _ _ ?_ (fun hHeld => ?_)
            · (try dsimp only); exact HS.out _ HC.out
            clear hK K
            try simp only [Act.put, List.setIfInBounds_toArray, List.set_cons_zero, List.set_cons_succ]
            refine wpAnyH_ready (rs := [29]) (by kernel_rfl) (by simp) ?_
            refine hcons rfl (fun K hK => ?_) (AllReadyH.nil)
            refine step_append_any rfl (.tmp 69) (.tmp 96) 26 rfl (g + 1) 51 i0 _ 28 224 Tryz.underlying26 hi hz0 hz1 hz2 rfl (by decide) v (pcsR ps j).length _ rfl HOWN.out ⟨_, 0, none⟩ 1 1 (Pc.cells ⟨x1, x2, x3, x4⟩) rfl rfl HN.out.news (pc_one _) (by have := HLJ2.out; unfold maxLen; omega) (by have := HLJ2.out; omega) (Nat.succ_le_of_lt HG.out.lt) ?_; intro v' w' hown' hgrow; replace HC := Lib.hid (grown_from HC.out hgrow HC.out.size (fun q e => by have h1 := (HOWN.out.lt q e).1; have h2 := HGB.out; omega)); replace HG := Lib.hid (HG.out.grown hgrow (own_far HOWN.out (by omega))); replace HOWN := Lib.hid (show w'.ownsRow (g + 1) 51 28 v' (pcsR ps (j + 1)).length ((pcsR ps (j + 1)).flatMap Pc.cells) by rw [HPC.out, List.length_append, List.flatMap_append]; simpa using hown'); clear hown' hgrow HN; obtain ⟨A6, c6, e6, -⟩ := own_form HOWN.out; subst e6
            refine hK.out _ _ ?_ (fun hHeld => ?_)
            · (try dsimp only); exact HS.out _ HC.out
            clear hK K
            try simp only [Act.put, List.setIfInBounds_toArray, List.set_cons_zero, List.set_cons_succ]
            refine htake (i := 30) (v := ?v59) rfl (by kernel_rfl) (by kernel_rfl) (by kernel_rfl) (fun _ _ _ h => h) (Or.inl ⟨by rfl, ?hy59⟩) (by assumption) ?_
            case hy59 => (intro w hSw; (try dsimp only at hSw); go_simp; try (with_reducible rfl))
            try simp only [Act.put, List.setIfInBounds_toArray, List.set_cons_zero, List.set_cons_succ]
            refine wpAnyH_ready (rs := [31]) (by kernel_rfl) (by simp) ?_
            refine hcons rfl (fun K hK => ?_) (AllReadyH.nil)
            have z8 := HG.out.c 8 _ rfl; have y8 := HG.out.fr 8; go_simp; clear z8 y8; replace HOWN := Lib.hid (HOWN.out.kept (set_grown _ g 8 (.slice A6 (pcsR ps (j + 1)).length c6)) (.inr (own_far HOWN.out (by omega)))); replace HG := Lib.hid (HG.out.set (k := 8) (by simp [puC']) (.slice A6 (pcsR ps (j + 1)).length c6)); replace HC := Lib.hid (HC.out.setCell (p := ⟨g, 8, none⟩) HGB.out (.slice A6 (pcsR ps (j + 1)).length c6))
            refine hK.out _ _ ?_ (fun hHeld => ?_)
            · (try dsimp only); exact HS.out _ HC.out
            clear hK K
            try simp only [Act.put]
            refine wpAnyH_done (by kernel_rfl) ?_ _
            refine NoPanic.normal ?_
            rotate_left
            go_simp
            refine (S1.out _).mono ?_; rintro e0 V7 ⟨rfl, hb⟩; unfold edv; replace HG := Lib.hid (HG.out.next hb); replace HOWN := Lib.hid (own_below HOWN.out hb); replace HC := Lib.hid (HC.out.trans (hb.mono HC.out.size)); clear hb
            refine hK.out _ _ ?_ (fun hHeld => ?_)
            · (try dsimp only); exact HS.out _ HC.out
            clear hK K
            try simp only [Act.put, List.setIfInBounds_toArray, List.set_cons_zero, List.set_cons_succ]
            refine wpAnyH_ready (rs := [1, 13]) (by kernel_rfl) (by simp) ?_
            refine hcons rfl (fun K hK => ?_) (hcons rfl (fun K hK => ?_) (AllReadyH.nil))
            have z8 := HG.out.c 8 _ rfl; go_simp; clear z8
            refine hK.out _ _ ?_ (fun hHeld => ?_)
            · (try dsimp only); exact HS.out _ HC.out
            clear hK K
            try simp only [Act.put, List.setIfInBounds_toArray, List.set_cons_zero, List.set_cons_succ]
            refine wpAnyH_ready (rs := [13]) (by kernel_rfl) (by simp) ?_
            refine hcons rfl (fun K hK => ?_) (AllReadyH.nil)
            go_simp
            refine (S2.out _).mono ?_; rintro e0 V13 ⟨rfl, hb⟩; unfold edv; replace HG := Lib.hid (HG.out.next hb); replace HOWN := Lib.hid (own_below HOWN.out hb); replace HC := Lib.hid (HC.out.trans (hb.mono HC.out.size)); clear hb
            refine hK.out _ _ ?_ (fun hHeld => ?_)
            · (try dsimp only); exact HS.out _ HC.out
            clear hK K
            try simp only [Act.put, List.setIfInBounds_toArray, List.set_cons_zero, List.set_cons_succ]
            refine wpAnyH_ready (rs := [19]) (by kernel_rfl) (by simp) ?_
            refine hcons rfl (fun K hK => ?_) (AllReadyH.nil)
            go_simp
            refine (S3.out _).mono ?_; rintro e0 V19 ⟨rfl, hb⟩; unfold edv; replace HG := Lib.hid (HG.out.next hb); replace HOWN := Lib.hid (own_below HOWN.out hb); replace HC := Lib.hid (HC.out.trans (hb.mono HC.out.size)); clear hb
            refine hK.out _ _ ?_ (fun hHeld => ?_)
            · (try dsimp only); exact HS.out _ HC.out
            clear hK K
            try simp only [Act.put, List.setIfInBounds_toArray, List.set_cons_zero, List.set_cons_succ]
            refine wpAnyH_ready (rs := [25]) (by kernel_rfl) (by simp) ?_
            refine hcons rfl (fun K hK => ?_) (AllReadyH.nil)
            go_simp
            refine (S4.out _).mono ?_; rintro e0 V25 ⟨rfl, hb⟩; unfold edv; replace HG := Lib.hid (HG.out.next hb); replace HOWN := Lib.hid (own_below HOWN.out hb); replace HC := Lib.hid (HC.out.trans (hb.mono HC.out.size)); clear hb
            refine hK.out _ _ ?_ (fun hHeld => ?_)
            · (try dsimp only); exact HS.out _ HC.out
            clear hK K
            try simp only [Act.put, List.setIfInBounds_toArray, List.set_cons_zero, List.set_cons_succ]
            refine htake (i := 26) (v := ?v60) rfl (by kernel_rfl) (by kernel_rfl) (by kernel_rfl) (fun _ _ _ h => h) (Or.inl ⟨by rfl, ?hy60⟩) (by assumption) ?_
            case hy60 => (intro w hSw; (try dsimp only at hSw); go_simp; try (with_reducible rfl))
            try simp only [Act.put, List.setIfInBounds_toArray, List.set_cons_zero, List.set_cons_succ]
            refine htake (i := 27) (v := ?v61) rfl (by kernel_rfl) (by kernel_rfl) (by kernel_rfl) (fun _ _ _ h => h) (Or.inl ⟨by rfl, ?hy61⟩) (by assumption) ?_
            case hy61 => (intro w hSw; (try dsimp only at hSw); go_simp; try (with_reducible rfl))
            try simp only [Act.put, List.setIfInBounds_toArray, List.set_cons_zero, List.set_cons_succ]
            refine wpAnyH_ready (rs := [28]) (by kernel_rfl) (by simp) ?_
            refine hcons rfl (fun K hK => ?_) (AllReadyH.nil)
            go_simp
            (first | refine hold_alloc (fun Wa q1 q2 q3 => ?_) | refine hold_alloc_drew (fun Wa q1 q2 q3 => ?_)); have HN := Lib.hid (show Bx _ _ (Pc.cells ⟨x1, x2, x3, x4⟩) from q2); replace HG := Lib.hid (HG.out.next q1); replace HOWN := Lib.hid (own_below HOWN.out q1); replace HC := Lib.hid (HC.out.trans (q1.mono HC.out.size)); clear q1 q2 q3
            refine hK.out _ _ ?_ (fun hHeld => ?_)
            · (try dsimp only); exact HS.out _ HC.out
            clear hK K
            try simp only [Act.put, List.setIfInBounds_toArray, List.set_cons_zero, List.set_cons_succ]
            refine wpAnyH_ready (rs := [29]) (by kernel_rfl) (by simp) ?_
            refine hcons rfl (fun K hK => ?_) (AllReadyH.nil)
            refine step_append_any rfl (.tmp 69) (.tmp 96) 26 rfl (g + 1) 51 i0 _ 28 224 Tryz.underlying26 hi hz0 hz1 hz2 rfl (by decide) v (pcsR ps j).length _ rfl HOWN.out ⟨_, 0, none⟩ 1 1 (Pc.cells ⟨x1, x2, x3, x4⟩) rfl rfl HN.out.news (pc_one _) (by have := HLJ2.out; unfold maxLen; omega) (by have := HLJ2.out; omega) (Nat.succ_le_of_lt HG.out.lt) ?_; intro v' w' hown' hgrow; replace HC := Lib.hid (grown_from HC.out hgrow HC.out.size (fun q e => by have h1 := (HOWN.out.lt q e).1; have h2 := HGB.out; omega)); replace HG := Lib.hid (HG.out.grown hgrow (own_far HOWN.out (by omega))); replace HOWN := Lib.hid (show w'.ownsRow (g + 1) 51 28 v' (pcsR ps (j + 1)).length ((pcsR ps (j + 1)).flatMap Pc.cells) by rw [HPC.out, List.length_append, List.flatMap_append]; simpa using hown'); clear hown' hgrow HN; obtain ⟨A6, c6, e6, -⟩ := own_form HOWN.out; subst e6
            refine hK.out _ _ ?_ (fun hHeld => ?_)
            · (try dsimp only); exact HS.out _ HC.out
            clear hK K
            try simp only [Act.put, List.setIfInBounds_toArray, List.set_cons_zero, List.set_cons_succ]
            refine htake (i := 30) (v := ?v62) rfl (by kernel_rfl) (by kernel_rfl) (by kernel_rfl) (fun _ _ _ h => h) (Or.inl ⟨by rfl, ?hy62⟩) (by assumption) ?_
            case hy62 => (intro w hSw; (try dsimp only at hSw); go_simp; try (with_reducible rfl))
            try simp only [Act.put, List.setIfInBounds_toArray, List.set_cons_zero, List.set_cons_succ]
            refine wpAnyH_ready (rs := [31]) (by kernel_rfl) (by simp) ?_
            refine hcons rfl (fun K hK => ?_) (AllReadyH.nil)
            have z8 := HG.out.c 8 _ rfl; have y8 := HG.out.fr 8; go_simp; clear z8 y8; replace HOWN := Lib.hid (HOWN.out.kept (set_grown _ g 8 (.slice A6 (pcsR ps (j + 1)).length c6)) (.inr (own_far HOWN.out (by omega)))); replace HG := Lib.hid (HG.out.set (k := 8) (by simp [puC']) (.slice A6 (pcsR ps (j + 1)).length c6)); replace HC := Lib.hid (HC.out.setCell (p := ⟨g, 8, none⟩) HGB.out (.slice A6 (pcsR ps (j + 1)).length c6))
            refine hK.out _ _ ?_ (fun hHeld => ?_)
            · (try dsimp only); exact HS.out _ HC.out
            clear hK K
            try simp only [Act.put]
            refine wpAnyH_done (by kernel_rfl) ?_ _
            refine NoPanic.normal ?_
            rotate_left
            go_simp
            refine (S2.out _).mono ?_; rintro e0 V13 ⟨rfl, hb⟩; unfold edv; replace HG := Lib.hid (HG.out.next hb); replace HOWN := Lib.hid (own_below HOWN.out hb); replace HC := Lib.hid (HC.out.trans (hb.mono HC.out.size)); clear hb
            refine hK.out _ _ ?_ (fun hHeld => ?_)
            · (try dsimp only); exact HS.out _ HC.out
            clear hK K
            try simp only [Act.put, List.setIfInBounds_toArray, List.set_cons_zero, List.set_cons_succ]
            refine wpAnyH_ready (rs := [1, 19]) (by kernel_rfl) (by simp) ?_
            refine hcons rfl (fun K hK => ?_) (hcons rfl (fun K hK => ?_) (AllReadyH.nil))
            have z8 := HG.out.c 8 _ rfl; go_simp; clear z8
            refine hK.out _ _ ?_ (fun hHeld => ?_)
            · (try dsimp only); exact HS.out _ HC.out
            clear hK K
            try simp only [Act.put, List.setIfInBounds_toArray, List.set_cons_zero, List.set_cons_succ]
            refine wpAnyH_ready (rs := [19]) (by kernel_rfl) (by simp) ?_
            refine hcons rfl (fun K hK => ?_) (AllReadyH.nil)
            go_simp
            refine (S3.out _).mono ?_; rintro e0 V19 ⟨rfl, hb⟩; unfold edv; replace HG := Lib.hid (HG.out.next hb); replace HOWN := Lib.hid (own_below HOWN.out hb); replace HC := Lib.hid (HC.out.trans (hb.mono HC.out.size)); clear hb
            refine hK.out _ _ ?_ (fun hHeld => ?_)
            · (try dsimp only); exact HS.out _ HC.out
            clear hK K
            try simp only [Act.put, List.setIfInBounds_toArray, List.set_cons_zero, List.set_cons_succ]
            refine wpAnyH_ready (rs := [25]) (by kernel_rfl) (by simp) ?_
            refine hcons rfl (fun K hK => ?_) (AllReadyH.nil)
            go_simp
            refine (S4.out _).mono ?_; rintro e0 V25 ⟨rfl, hb⟩; unfold edv; replace HG := Lib.hid (HG.out.next hb); replace HOWN := Lib.hid (own_below HOWN.out hb); replace HC := Lib.hid (HC.out.trans (hb.mono HC.out.size)); clear hb
            refine hK.out _ _ ?_ (fun hHeld => ?_)
            · (try dsimp only); exact HS.out _ HC.out
            clear hK K
            try simp only [Act.put, List.setIfInBounds_toArray, List.set_cons_zero, List.set_cons_succ]
            refine htake (i := 26) (v := ?v63) rfl (by kernel_rfl) (by kernel_rfl) (by kernel_rfl) (fun _ _ _ h => h) (Or.inl ⟨by rfl, ?hy63⟩) (by assumption) ?_
            case hy63 => (intro w hSw; (try dsimp only at hSw); go_simp; try (with_reducible rfl))
            try simp only [Act.put, List.setIfInBounds_toArray, List.set_cons_zero, List.set_cons_succ]
            refine htake (i := 27) (v := ?v64) rfl (by kernel_rfl) (by kernel_rfl) (by kernel_rfl) (fun _ _ _ h => h) (Or.inl ⟨by rfl, ?hy64⟩) (by assumption) ?_
            case hy64 => (intro w hSw; (try dsimp only at hSw); go_simp; try (with_reducible rfl))
            try simp only [Act.put, List.setIfInBounds_toArray, List.set_cons_zero, List.set_cons_succ]
            refine wpAnyH_ready (rs := [28]) (by kernel_rfl) (by simp) ?_
            refine hcons rfl (fun K hK => ?_) (AllReadyH.nil)
            go_simp
            (first | refine hold_alloc (fun Wa q1 q2 q3 => ?_) | refine hold_alloc_drew (fun Wa q1 q2 q3 => ?_)); have HN := Lib.hid (show Bx _ _ (Pc.cells ⟨x1, x2, x3, x4⟩) from q2); replace HG := Lib.hid (HG.out.next q1); replace HOWN := Lib.hid (own_below HOWN.out q1); replace HC := Lib.hid (HC.out.trans (q1.mono HC.out.size)); clear q1 q2 q3
            refine hK.out _ _ ?_ (fun hHeld => ?_)
            · (try dsimp only); exact HS.out _ HC.out
            clear hK K
            try simp only [Act.put, List.setIfInBounds_toArray, List.set_cons_zero, List.set_cons_succ]
            refine wpAnyH_ready (rs := [29]) (by kernel_rfl) (by simp) ?_
            refine hcons rfl (fun K hK => ?_) (AllReadyH.nil)
            refine step_append_any rfl (.tmp 69) (.tmp 96) 26 rfl (g + 1) 51 i0 _ 28 224 Tryz.underlying26 hi hz0 hz1 hz2 rfl (by decide) v (pcsR ps j).length _ rfl HOWN.out ⟨_, 0, none⟩ 1 1 (Pc.cells ⟨x1, x2, x3, x4⟩) rfl rfl HN.out.news (pc_one _) (by have := HLJ2.out; unfold maxLen; omega) (by have := HLJ2.out; omega) (Nat.succ_le_of_lt HG.out.lt) ?_; intro v' w' hown' hgrow; replace HC := Lib.hid (grown_from HC.out hgrow HC.out.size (fun q e => by have h1 := (HOWN.out.lt q e).1; have h2 := HGB.out; omega)); replace HG := Lib.hid (HG.out.grown hgrow (own_far HOWN.out (by omega))); replace HOWN := Lib.hid (show w'.ownsRow (g + 1) 51 28 v' (pcsR ps (j + 1)).length ((pcsR ps (j + 1)).flatMap Pc.cells) by rw [HPC.out, List.length_append, List.flatMap_append]; simpa using hown'); clear hown' hgrow HN; obtain ⟨A6, c6, e6, -⟩ := own_form HOWN.out; subst e6
            refine hK.out _ _ ?_ (fun hHeld => ?_)
            · (try dsimp only); exact HS.out _ HC.out
            clear hK K
            try simp only [Act.put, List.setIfInBounds_toArray, List.set_cons_zero, List.set_cons_succ]
            refine htake (i := 30) (v := ?v65) rfl (by kernel_rfl) (by kernel_rfl) (by kernel_rfl) (fun _ _ _ h => h) (Or.inl ⟨by rfl, ?hy65⟩) (by assumption) ?_
            case hy65 => (intro w hSw; (try dsimp only at hSw); go_simp; try (with_reducible rfl))
            try simp only [Act.put, List.setIfInBounds_toArray, List.set_cons_zero, List.set_cons_succ]
            refine wpAnyH_ready (rs := [31]) (by kernel_rfl) (by simp) ?_
            refine hcons rfl (fun K hK => ?_) (AllReadyH.nil)
            have z8 := HG.out.c 8 _ rfl; have y8 := HG.out.fr 8; go_simp; clear z8 y8; replace HOWN := Lib.hid (HOWN.out.kept (set_grown _ g 8 (.slice A6 (pcsR ps (j + 1)).length c6)) (.inr (own_far HOWN.out (by omega)))); replace HG := Lib.hid (HG.out.set (k := 8) (by simp [puC']) (.slice A6 (pcsR ps (j + 1)).length c6)); replace HC := Lib.hid (HC.out.setCell (p := ⟨g, 8, none⟩) HGB.out (.slice A6 (pcsR ps (j + 1)).length c6))
            refine hK.out _ _ ?_ (fun hHeld => ?_)
            · (try dsimp only); exact HS.out _ HC.out
            clear hK K
            try simp only [Act.put]
            refine wpAnyH_done (by kernel_rfl) ?_ _
            refine NoPanic.normal ?_
            rotate_left
            go_simp
            refine (S3.out _).mono ?_; rintro e0 V19 ⟨rfl, hb⟩; unfold edv; replace HG := Lib.hid (HG.out.next hb); replace HOWN := Lib.hid (own_below HOWN.out hb); replace HC := Lib.hid (HC.out.trans (hb.mono HC.out.size)); clear hb
            refine hK.out _ _ ?_ (fun hHeld => ?_)
            · (try dsimp only); exact HS.out _ HC.out
            clear hK K
            try simp only [Act.put, List.setIfInBounds_toArray, List.set_cons_zero, List.set_cons_succ]
            refine wpAnyH_ready (rs := [1, 25]) (by kernel_rfl) (by simp) ?_
            refine hcons rfl (fun K hK => ?_) (hcons rfl (fun K hK => ?_) (AllReadyH.nil))
            have z8 := HG.out.c 8 _ rfl; go_simp; clear z8
            refine hK.out _ _ ?_ (fun hHeld => ?_)
            · (try dsimp only); exact HS.out _ HC.out
            clear hK K
            try simp only [Act.put, List.setIfInBounds_toArray, List.set_cons_zero, List.set_cons_succ]
            refine wpAnyH_ready (rs := [25]) (by kernel_rfl) (by simp) ?_
            refine hcons rfl (fun K hK => ?_) (AllReadyH.nil)
            go_simp
            refine (S4.out _).mono ?_; rintro e0 V25 ⟨rfl, hb⟩; unfold edv; replace HG := Lib.hid (HG.out.next hb); replace HOWN := Lib.hid (own_below HOWN.out hb); replace HC := Lib.hid (HC.out.trans (hb.mono HC.out.size)); clear hb
            refine hK.out _ _ ?_ (fun hHeld => ?_)
            · (try dsimp only); exact HS.out _ HC.out
            clear hK K
            try simp only [Act.put, List.setIfInBounds_toArray, List.set_cons_zero, List.set_cons_succ]
            refine htake (i := 26) (v := ?v66) rfl (by kernel_rfl) (by kernel_rfl) (by kernel_rfl) (fun _ _ _ h => h) (Or.inl ⟨by rfl, ?hy66⟩) (by assumption) ?_
            case hy66 => (intro w hSw; (try dsimp only at hSw); go_simp; try (with_reducible rfl))
            try simp only [Act.put, List.setIfInBounds_toArray, List.set_cons_zero, List.set_cons_succ]
            refine htake (i := 27) (v := ?v67) rfl (by kernel_rfl) (by kernel_rfl) (by kernel_rfl) (fun _ _ _ h => h) (Or.inl ⟨by rfl, ?hy67⟩) (by assumption) ?_
            case hy67 => (intro w hSw; (try dsimp only at hSw); go_simp; try (with_reducible rfl))
            try simp only [Act.put, List.setIfInBounds_toArray, List.set_cons_zero, List.set_cons_succ]
            refine wpAnyH_ready (rs := [28]) (by kernel_rfl) (by simp) ?_
            refine hcons rfl (fun K hK => ?_) (AllReadyH.nil)
            go_simp
            (first | refine hold_alloc (fun Wa q1 q2 q3 => ?_) | refine hold_alloc_drew (fun Wa q1 q2 q3 => ?_)); have HN := Lib.hid (show Bx _ _ (Pc.cells ⟨x1, x2, x3, x4⟩) from q2); replace HG := Lib.hid (HG.out.next q1); replace HOWN := Lib.hid (own_below HOWN.out q1); replace HC := Lib.hid (HC.out.trans (q1.mono HC.out.size)); clear q1 q2 q3
            refine hK.out _ _ ?_ (fun hHeld => ?_)
            · (try dsimp only); exact HS.out _ HC.out
            clear hK K
            try simp only [Act.put, List.setIfInBounds_toArray, List.set_cons_zero, List.set_cons_succ]
            refine wpAnyH_ready (rs := [29]) (by kernel_rfl) (by simp) ?_
            refine hcons rfl (fun K hK => ?_) (AllReadyH.nil)
            refine step_append_any rfl (.tmp 69) (.tmp 96) 26 rfl (g + 1) 51 i0 _ 28 224 Tryz.underlying26 hi hz0 hz1 hz2 rfl (by decide) v (pcsR ps j).length _ rfl HOWN.out ⟨_, 0, none⟩ 1 1 (Pc.cells ⟨x1, x2, x3, x4⟩) rfl rfl HN.out.news (pc_one _) (by have := HLJ2.out; unfold maxLen; omega) (by have := HLJ2.out; omega) (Nat.succ_le_of_lt HG.out.lt) ?_; intro v' w' hown' hgrow; replace HC := Lib.hid (grown_from HC.out hgrow HC.out.size (fun q e => by have h1 := (HOWN.out.lt q e).1; have h2 := HGB.out; omega)); replace HG := Lib.hid (HG.out.grown hgrow (own_far HOWN.out (by omega))); replace HOWN := Lib.hid (show w'.ownsRow (g + 1) 51 28 v' (pcsR ps (j + 1)).length ((pcsR ps (j + 1)).flatMap Pc.cells) by rw [HPC.out, List.length_append, List.flatMap_append]; simpa using hown'); clear hown' hgrow HN; obtain ⟨A6, c6, e6, -⟩ := own_form HOWN.out; subst e6
            refine hK.out _ _ ?_ (fun hHeld => ?_)
            · (try dsimp only); exact HS.out _ HC.out
            clear hK K
            try simp only [Act.put, List.setIfInBounds_toArray, List.set_cons_zero, List.set_cons_succ]
            refine htake (i := 30) (v := ?v68) rfl (by kernel_rfl) (by kernel_rfl) (by kernel_rfl) (fun _ _ _ h => h) (Or.inl ⟨by rfl, ?hy68⟩) (by assumption) ?_
            case hy68 => (intro w hSw; (try dsimp only at hSw); go_simp; try (with_reducible rfl))
            try simp only [Act.put, List.setIfInBounds_toArray, List.set_cons_zero, List.set_cons_succ]
            refine wpAnyH_ready (rs := [31]) (by kernel_rfl) (by simp) ?_
            refine hcons rfl (fun K hK => ?_) (AllReadyH.nil)
            have z8 := HG.out.c 8 _ rfl; have y8 := HG.out.fr 8; go_simp; clear z8 y8; replace HOWN := Lib.hid (HOWN.out.kept (set_grown _ g 8 (.slice A6 (pcsR ps (j + 1)).length c6)) (.inr (own_far HOWN.out (by omega)))); replace HG := Lib.hid (HG.out.set (k := 8) (by simp [puC']) (.slice A6 (pcsR ps (j + 1)).length c6)); replace HC := Lib.hid (HC.out.setCell (p := ⟨g, 8, none⟩) HGB.out (.slice A6 (pcsR ps (j + 1)).length c6))
            refine hK.out _ _ ?_ (fun hHeld => ?_)
            · (try dsimp only); exact HS.out _ HC.out
            clear hK K
            try simp only [Act.put]
            refine wpAnyH_done (by kernel_rfl) ?_ _
            refine NoPanic.normal ?_
            rotate_left
            go_simp
            refine (S4.out _).mono ?_; rintro e0 V25 ⟨rfl, hb⟩; unfold edv; replace HG := Lib.hid (HG.out.next hb); replace HOWN := Lib.hid (own_below HOWN.out hb); replace HC := Lib.hid (HC.out.trans (hb.mono HC.out.size)); clear hb
            refine hK.out _ _ ?_ (fun hHeld => ?_)
            · (try dsimp only); exact HS.out _ HC.out
            clear hK K
            try simp only [Act.put, List.setIfInBounds_toArray, List.set_cons_zero, List.set_cons_succ]
            refine htake (i := 26) (v := ?v69) rfl (by kernel_rfl) (by kernel_rfl) (by kernel_rfl) (fun _ _ _ h => h) (Or.inl ⟨by rfl, ?hy69⟩) (by assumption) ?_
            case hy69 => (intro w hSw; (try dsimp only at hSw); go_simp; try (with_reducible rfl))
            try simp only [Act.put, List.setIfInBounds_toArray, List.set_cons_zero, List.set_cons_succ]
            refine htake (i := 27) (v := ?v70) rfl (by kernel_rfl) (by kernel_rfl) (by kernel_rfl) (fun _ _ _ h => h) (Or.inl ⟨by rfl, ?hy70⟩) (by assumption) ?_
            case hy70 => (intro w hSw; (try dsimp only at hSw); go_simp; try (with_reducible rfl))
            try simp only [Act.put, List.setIfInBounds_toArray, List.set_cons_zero, List.set_cons_succ]
            refine wpAnyH_ready (rs := [1, 28]) (by kernel_rfl) (by simp) ?_
            refine hcons rfl (fun K hK => ?_) (hcons rfl (fun K hK => ?_) (AllReadyH.nil))
            have z8 := HG.out.c 8 _ rfl; go_simp; clear z8
            refine hK.out _ _ ?_ (fun hHeld => ?_)
            · (try dsimp only); exact HS.out _ HC.out
            clear hK K
            try simp only [Act.put, List.setIfInBounds_toArray, List.set_cons_zero, List.set_cons_succ]
            refine wpAnyH_ready (rs := [28]) (by kernel_rfl) (by simp) ?_
            refine hcons rfl (fun K hK => ?_) (AllReadyH.nil)
            go_simp
            (first | refine hold_alloc (fun Wa q1 q2 q3 => ?_) | refine hold_alloc_drew (fun Wa q1 q2 q3 => ?_)); have HN := Lib.hid (show Bx _ _ (Pc.cells ⟨x1, x2, x3, x4⟩) from q2); replace HG := Lib.hid (HG.out.next q1); replace HOWN := Lib.hid (own_below HOWN.out q1); replace HC := Lib.hid (HC.out.trans (q1.mono HC.out.size)); clear q1 q2 q3
            refine hK.out _ _ ?_ (fun hHeld => ?_)
            · (try dsimp only); exact HS.out _ HC.out
            clear hK K
            try simp only [Act.put, List.setIfInBounds_toArray, List.set_cons_zero, List.set_cons_succ]
            refine wpAnyH_ready (rs := [29]) (by kernel_rfl) (by simp) ?_
            refine hcons rfl (fun K hK => ?_) (AllReadyH.nil)
            refine step_append_any rfl (.tmp 69) (.tmp 96) 26 rfl (g + 1) 51 i0 _ 28 224 Tryz.underlying26 hi hz0 hz1 hz2 rfl (by decide) v (pcsR ps j).length _ rfl HOWN.out ⟨_, 0, none⟩ 1 1 (Pc.cells ⟨x1, x2, x3, x4⟩) rfl rfl HN.out.news (pc_one _) (by have := HLJ2.out; unfold maxLen; omega) (by have := HLJ2.out; omega) (Nat.succ_le_of_lt HG.out.lt) ?_; intro v' w' hown' hgrow; replace HC := Lib.hid (grown_from HC.out hgrow HC.out.size (fun q e => by have h1 := (HOWN.out.lt q e).1; have h2 := HGB.out; omega)); replace HG := Lib.hid (HG.out.grown hgrow (own_far HOWN.out (by omega))); replace HOWN := Lib.hid (show w'.ownsRow (g + 1) 51 28 v' (pcsR ps (j + 1)).length ((pcsR ps (j + 1)).flatMap Pc.cells) by rw [HPC.out, List.length_append, List.flatMap_append]; simpa using hown'); clear hown' hgrow HN; obtain ⟨A6, c6, e6, -⟩ := own_form HOWN.out; subst e6
            refine hK.out _ _ ?_ (fun hHeld => ?_)
            · (try dsimp only); exact HS.out _ HC.out
            clear hK K
            try simp only [Act.put, List.setIfInBounds_toArray, List.set_cons_zero, List.set_cons_succ]
            refine htake (i := 30) (v := ?v71) rfl (by kernel_rfl) (by kernel_rfl) (by kernel_rfl) (fun _ _ _ h => h) (Or.inl ⟨by rfl, ?hy71⟩) (by assumption) ?_
            case hy71 => (intro w hSw; (try dsimp only at hSw); go_simp; try (with_reducible rfl))
            try simp only [Act.put, List.setIfInBounds_toArray, List.set_cons_zero, List.set_cons_succ]
            refine wpAnyH_ready (rs := [31]) (by kernel_rfl) (by simp) ?_
            refine hcons rfl (fun K hK => ?_) (AllReadyH.nil)
            have z8 := HG.out.c 8 _ rfl; have y8 := HG.out.fr 8; go_simp; clear z8 y8; replace HOWN := Lib.hid (HOWN.out.kept (set_grown _ g 8 (.slice A6 (pcsR ps (j + 1)).length c6)) (.inr (own_far HOWN.out (by omega)))); replace HG := Lib.hid (HG.out.set (k := 8) (by simp [puC']) (.slice A6 (pcsR ps (j + 1)).length c6)); replace HC := Lib.hid (HC.out.setCell (p := ⟨g, 8, none⟩) HGB.out (.slice A6 (pcsR ps (j + 1)).length c6))
            refine hK.out _ _ ?_ (fun hHeld => ?_)
            · (try dsimp only); exact HS.out _ HC.out
            clear hK K
            try simp only [Act.put]
            refine wpAnyH_done (by kernel_rfl) ?_ _
            refine NoPanic.normal ?_
            rotate_left
            go_simp
            (first | refine hold_alloc (fun Wa q1 q2 q3 => ?_) | refine hold_alloc_drew (fun Wa q1 q2 q3 => ?_)); have HN := Lib.hid (show Bx _ _ (Pc.cells ⟨x1, x2, x3, x4⟩) from q2); replace HG := Lib.hid (HG.out.next q1); replace HOWN := Lib.hid (own_below HOWN.out q1); replace HC := Lib.hid (HC.out.trans (q1.mono HC.out.size)); clear q1 q2 q3
            refine hK.out _ _ ?_ (fun hHeld => ?_)
            · (try dsimp only); exact HS.out _ HC.out
            clear hK K
            try simp only [Act.put, List.setIfInBounds_toArray, List.set_cons_zero, List.set_cons_succ]
            refine wpAnyH_ready (rs := [1]) (by kernel_rfl) (by simp) ?_
            refine hcons rfl (fun K hK => ?_) (AllReadyH.nil)
            have z8 := HG.out.c 8 _ rfl; go_simp; clear z8
            refine hK.out _ _ ?_ (fun hHeld => ?_)
            · (try dsimp only); exact HS.out _ HC.out
            clear hK K
            try simp only [Act.put, List.setIfInBounds_toArray, List.set_cons_zero, List.set_cons_succ]
            refine wpAnyH_ready (rs := [29]) (by kernel_rfl) (by simp) ?_
            refine hcons rfl (fun K hK => ?_) (AllReadyH.nil)
            refine step_append_any rfl (.tmp 69) (.tmp 96) 26 rfl (g + 1) 51 i0 _ 28 224 Tryz.underlying26 hi hz0 hz1 hz2 rfl (by decide) v (pcsR ps j).length _ rfl HOWN.out ⟨_, 0, none⟩ 1 1 (Pc.cells ⟨x1, x2, x3, x4⟩) rfl rfl HN.out.news (pc_one _) (by have := HLJ2.out; unfold maxLen; omega) (by have := HLJ2.out; omega) (Nat.succ_le_of_lt HG.out.lt) ?_; intro v' w' hown' hgrow; replace HC := Lib.hid (grown_from HC.out hgrow HC.out.size (fun q e => by have h1 := (HOWN.out.lt q e).1; have h2 := HGB.out; omega)); replace HG := Lib.hid (HG.out.grown hgrow (own_far HOWN.out (by omega))); replace HOWN := Lib.hid (show w'.ownsRow (g + 1) 51 28 v' (pcsR ps (j + 1)).length ((pcsR ps (j + 1)).flatMap Pc.cells) by rw [HPC.out, List.length_append, List.flatMap_append]; simpa using hown'); clear hown' hgrow HN; obtain ⟨A6, c6, e6, -⟩ := own_form HOWN.out; subst e6
            refine hK.out _ _ ?_ (fun hHeld => ?_)
            · (try dsimp only); exact HS.out _ HC.out
            clear hK K
            try simp only [Act.put, List.setIfInBounds_toArray, List.set_cons_zero, List.set_cons_succ]
            refine htake (i := 30) (v := ?v72) rfl (by kernel_rfl) (by kernel_rfl) (by kernel_rfl) (fun _ _ _ h => h) (Or.inl ⟨by rfl, ?hy72⟩) (by assumption) ?_
            case hy72 => (intro w hSw; (try dsimp only at hSw); go_simp; try (with_reducible rfl))
            try simp only [Act.put, List.setIfInBounds_toArray, List.set_cons_zero, List.set_cons_succ]
            refine wpAnyH_ready (rs := [31]) (by kernel_rfl) (by simp) ?_
            refine hcons rfl (fun K hK => ?_) (AllReadyH.nil)
            have z8 := HG.out.c 8 _ rfl; have y8 := HG.out.fr 8; go_simp; clear z8 y8; replace HOWN := Lib.hid (HOWN.out.kept (set_grown _ g 8 (.slice A6 (pcsR ps (j + 1)).length c6)) (.inr (own_far HOWN.out (by omega)))); replace HG := Lib.hid (HG.out.set (k := 8) (by simp [puC']) (.slice A6 (pcsR ps (j + 1)).length c6)); replace HC := Lib.hid (HC.out.setCell (p := ⟨g, 8, none⟩) HGB.out (.slice A6 (pcsR ps (j + 1)).length c6))
            refine hK.out _ _ ?_ (fun hHeld => ?_)
            · (try dsimp only); exact HS.out _ HC.out
            clear hK K
            try simp only [Act.put]
            refine wpAnyH_done (by kernel_rfl) ?_ _
            refine NoPanic.normal ?_
            iterate 33 (try clear hHeld)
            all_goals
              go_wp2_with fail
              exact ⟨⟨j + 1, _, congrArg (Value.int .i64) (by have := HIJ.out; omega), HJ1.out, HG.out, HOWN.out, HC.out⟩, by simp [intOf]; omega⟩
          · have HJN := Lib.hid (show j = min 10 ((ps.length - 2) / 5) by omega)
            have hd : (decide ((i : Int) + 4 < (ps.length : Int)) = false) ∨ (decide ((i : Int) + 4 < (ps.length : Int)) = true ∧ decide ((j : Int) < 10) = false) := by
              by_cases h1 : i + 4 < ps.length
              · right; exact ⟨decide_eq_true (by omega), decide_eq_false (by omega)⟩
              · left; exact decide_eq_false (by omega)
            clear hc hj hij
            obtain ⟨A, c, rfl, hat, hlc, hfr⟩ := pu_of_own HOWN.out
            obtain ⟨m, hm⟩ : ∃ m : Mp, m = ⟨puR ps j, A, c⟩ := ⟨_, rfl⟩
            have HMC := Lib.hid (show Bx wr g m.cells by rw [hm]; exact HG4.out)
            have HPA := Lib.hid (show PuAt wr wr.heap.size m by rw [hm]; exact ⟨hat, by show (pcsR ps j).length ≤ _; rw [HLJ.out]; omega, hlc⟩)
            have HFR := Lib.hid (show ∀ a, m.A = some a → V1.heap.size ≤ a.block from fun a ha => by rw [hm] at ha; have h1 := hfr a ha; have h2 := HGB.out; omega)
            have HRM := Lib.hid (show readD s = if okPu m.d = true ∧ dText m.d = s then some m.d else none by rw [HRS.out, hm, ← HJN.out])
            have HML := Lib.hid (show m.d.pieces.length = j by rw [hm]; exact HLJ.out)
            have HXB := Lib.hid (HX1.out.next HC4.out)
            have HBB := Lib.hid (HB1.out.trans (HC4.out.mono HB1.out.size))
            have HBV := Lib.hid (HX1.out.lt)
            have HWV := Lib.hid (HB1.out.size)
            clear hat hlc hfr hm HOWN HG4 HC4 HRS HPC HLJ HJN HX1 HB1 HG3 HC3 HPS HPL
            have hd2 : (decide ((i : Int) + 4 < (ps.length : Int)) = false) ∨ (decide ((i : Int) + 4 < (ps.length : Int)) = true ∧ decide ((m.d.pieces.length : Int) < 10) = false) := by rw [HML.out]; exact hd
            clear hd
            go_upto_region 9 with fail
            have c0 := HMC.out.c 0 _ rfl
            have c1 := HMC.out.c 1 _ rfl
            have c2 := HMC.out.c 2 _ rfl
            have c3 := HMC.out.c 3 _ rfl
            have c4 := HMC.out.c 4 _ rfl
            have c5 := HMC.out.c 5 _ rfl
            have c6 := HMC.out.c 6 _ rfl
            have c7 := HMC.out.c 7 _ rfl
            have c8 := HMC.out.c 8 _ rfl
            rcases hd2 with d1 | ⟨d1, d2⟩
            all_goals
              go_upto_region 12 with fail
              go_wp2_with fail
              refine (Drawing_any m wr HPA.out).mono ?_
              rintro e V3 ⟨rfl, hb⟩
              have HMC3 := Lib.hid (HMC.out.next hb)
              have HPA3 := Lib.hid (HPA.out.next hb)
              have HXB3 := Lib.hid (HXB.out.next hb)
              have HBB3 := Lib.hid (HBB.out.trans (hb.mono HBB.out.size))
              clear hb c0 c1 c2 c3 c4 c5 c6 c7 c8
              rcases Bool.eq_false_or_eq_true (okPu m.d) with ho | ho
              · have HO := Lib.hid ho
                rw [ho]
                clear ho
                have c0 := HMC3.out.c 0 _ rfl
                have c1 := HMC3.out.c 1 _ rfl
                have c2 := HMC3.out.c 2 _ rfl
                have c3 := HMC3.out.c 3 _ rfl
                have c4 := HMC3.out.c 4 _ rfl
                have c5 := HMC3.out.c 5 _ rfl
                have c6 := HMC3.out.c 6 _ rfl
                have c7 := HMC3.out.c 7 _ rfl
                have c8 := HMC3.out.c 8 _ rfl
                go_wp2_with fail
                refine (drawingR_any m V3 HPA3.out HO.out).mono ?_
                rintro e V4 ⟨rfl, hb⟩
                have HMC4 := Lib.hid (HMC3.out.next hb)
                have HPA4 := Lib.hid (HPA3.out.next hb)
                have HXB4 := Lib.hid (HXB3.out.next hb)
                have HBB4 := Lib.hid (HBB3.out.trans (hb.mono HBB3.out.size))
                clear hb c0 c1 c2 c3 c4 c5 c6 c7 c8
                have z0 := HXB4.out.c 0 _ rfl
                have z1 := HXB4.out.c 1 _ rfl
                have z2 := HXB4.out.c 2 _ rfl
                have z3 := HXB4.out.c 3 _ rfl
                have z4 := HXB4.out.c 4 _ rfl
                have z5 := HXB4.out.c 5 _ rfl
                have z6 := HXB4.out.c 6 _ rfl
                have z7 := HXB4.out.c 7 _ rfl
                have z8 := HXB4.out.c 8 _ rfl
                have y0 := HXB4.out.fr 0
                have y1 := HXB4.out.fr 1
                have y2 := HXB4.out.fr 2
                have y3 := HXB4.out.fr 3
                have y4 := HXB4.out.fr 4
                have y5 := HXB4.out.fr 5
                have y6 := HXB4.out.fr 6
                have y7 := HXB4.out.fr 7
                have y8 := HXB4.out.fr 8
                obtain ⟨T, hT⟩ : ∃ T, dText m.d = T := ⟨_, rfl⟩
                rw [hT] at HRM ⊢
                clear hT
                by_cases hTs : T = s
                · have hts : (T == s) = true := by rw [hTs]; exact beq_self_eq_true s
                  have hts2 : (T != s) = false := by rw [hTs]; simp
                  have HV := Lib.hid (rd_some HLE.out (show readD s = some m.d by rw [HRM.out, if_pos ⟨HO.out, hTs⟩]))
                  clear hTs HRM
                  have c0 := HMC4.out.c 0 _ rfl
                  have c1 := HMC4.out.c 1 _ rfl
                  have c2 := HMC4.out.c 2 _ rfl
                  have c3 := HMC4.out.c 3 _ rfl
                  have c4 := HMC4.out.c 4 _ rfl
                  have c5 := HMC4.out.c 5 _ rfl
                  have c6 := HMC4.out.c 6 _ rfl
                  have c7 := HMC4.out.c 7 _ rfl
                  have c8 := HMC4.out.c 8 _ rfl
                  go_wp2_with fail
                  ((try simp only [Exit.inBlock, Exit.then]); refine bodyPost_ret (results_cellA rfl rfl (loadPu (HXB4.out.setAll m.cells rfl))) rfl ?_)
                  rw [← HRR.out]
                  exact ⟨m, HV.out.1.symm, by rw [HV.out.2]; rfl, HPA4.out.sets m.cells (fun a ha => by have h1 := HFR.out a ha; have h2 := HBV.out; omega), (fun a ha => Nat.le_trans HWV.out (HFR.out a ha)), below_setCells HBW.out m.cells 0 HBB4.out⟩
                · have hts : (T == s) = false := beq_eq_false_iff_ne.2 hTs
                  have hts2 : (T != s) = true := by simp [hTs]
                  have HV := Lib.hid (rd_none HLE.out (by rw [HRM.out, if_neg (fun h => hTs h.2)]))
                  clear hTs HRM
                  go_wp2_with fail
                  ((try simp only [Exit.inBlock, Exit.then]); refine bodyPost_ret (results_cellA rfl rfl (loadPu (HXB4.out.setAll puZ rfl))) rfl ?_)
                  rw [← HRR.out]
                  exact ⟨⟨pu0, none, 0⟩, HV.out.1.symm, by rw [HV.out.2]; rfl, ⟨At.nil, by simp [pu0], by simp [pu0]⟩, (fun a ha => by cases ha), below_setCells HBW.out puZ 0 HBB4.out⟩
              · have HV := Lib.hid (rd_none HLE.out (by rw [HRM.out, if_neg (fun h => by rw [ho] at h; cases h.1)]))
                rw [ho]
                clear ho HRM
                have z0 := HXB3.out.c 0 _ rfl
                have z1 := HXB3.out.c 1 _ rfl
                have z2 := HXB3.out.c 2 _ rfl
                have z3 := HXB3.out.c 3 _ rfl
                have z4 := HXB3.out.c 4 _ rfl
                have z5 := HXB3.out.c 5 _ rfl
                have z6 := HXB3.out.c 6 _ rfl
                have z7 := HXB3.out.c 7 _ rfl
                have z8 := HXB3.out.c 8 _ rfl
                have y0 := HXB3.out.fr 0
                have y1 := HXB3.out.fr 1
                have y2 := HXB3.out.fr 2
                have y3 := HXB3.out.fr 3
                have y4 := HXB3.out.fr 4
                have y5 := HXB3.out.fr 5
                have y6 := HXB3.out.fr 6
                have y7 := HXB3.out.fr 7
                have y8 := HXB3.out.fr 8
                go_wp2_with fail
                ((try simp only [Exit.inBlock, Exit.then]); refine bodyPost_ret (results_cellA rfl rfl (loadPu (HXB3.out.setAll puZ rfl))) rfl ?_)
                rw [← HRR.out]
                exact ⟨⟨pu0, none, 0⟩, HV.out.1.symm, by rw [HV.out.2]; rfl, ⟨At.nil, by simp [pu0], by simp [pu0]⟩, (fun a ha => by cases ha), below_setCells HBW.out puZ 0 HBB3.out⟩
end Go.Proofs.YtonnemkecppmiaaGreatDoor
