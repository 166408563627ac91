import Derived.Test.YtonnemkecppmiaaGreatDoorQ13
namespace Go.Proofs.YtonnemkecppmiaaGreatDoor
open Go.RowKit
attribute [local go_sem] Oper.semAt_some
/-! The program: what ReadLog reads: the walk. -/
theorem own_ne_kd {W : World} {base size n q : Nat} {v : Value} {xs : List Value} (h : W.ownsRow base 66 size v n xs) (hk : Kd W q 9) : v.ownBlock ≠ some q := fun e => by
  obtain ⟨c, fz, hk⟩ := hk
  rcases h.2 with ⟨rfl, -⟩ | ⟨g', cap, cur, rfl, -, hh, -⟩
  · cases e
  · injection e with e
    simp only at e
    subst e
    rw [hh] at hk
    injection hk with hk
    injection hk with _ h2 _
    exact absurd h2 (by decide)
set_option maxRecDepth 100000 in
set_option maxHeartbeats 8000000 in
theorem ReadLog1_any (s : Tx) (hlen : s.length ≤ 65536) (w : World) (hE : Env w) : Calls Tryz.prog 59 #[tx s] w (RetLg (parseL s) w) := by
  have HE := Lib.hid hE
  clear hE
  refine (callsIn_wide (n := 6)).1 ?_
  refine callsIn_of_wpAt Tryz.func59 rfl trivial ?_ rfl
  simp only [Tryz.ntmps59, List.size_toArray, List.length_cons, List.length_nil, Nat.reduceAdd, Nat.reduceSub, Array.replicate_succ, Array.replicate_zero, List.push_toArray, List.append_toArray, List.nil_append, List.cons_append]
  refine wpAt_seq trivial (wpAt_of_wpIn trivial ?_)
  have HX0 := Lib.hid (Bx.new w #[.slice none 0 0] 44)
  have HB0 := Lib.hid (nxA w (.cells #[.slice none 0 0] 44))
  gi_wp2_with fail
  generalize (w.alloc (.cells #[.slice none 0 0] 44)) = V0 at *
  obtain ⟨bd, hbd⟩ : ∃ b, b = w.heap.size := ⟨_, rfl⟩
  rw [← hbd] at HX0 ⊢
  have HBD := Lib.hid hbd
  clear hbd
  refine wpAt_seq trivial (wpAt_of_wpIn trivial ?_)
  have HX1 := Lib.hid (Bx.new V0 #[.int .i64 0] 3)
  have HB1 := Lib.hid (nxA V0 (.cells #[.int .i64 0] 3))
  gi_wp2_with fail
  have HB2 := Lib.hid (HB0.out.trans (HB1.out.mono HB0.out.size))
  have HX2 := Lib.hid (HX0.out.next HB1.out)
  generalize hV1 : (V0.alloc (.cells #[.int .i64 0] 3)) = V1 at *
  obtain ⟨ba, hba⟩ : ∃ b, b = V0.heap.size := ⟨_, rfl⟩
  rw [← hba] at HX1 ⊢
  have HBA := Lib.hid (show bd ≠ ba by have := HX0.out.lt; omega)
  have HBA2 := Lib.hid (show w.heap.size ≤ ba by rw [hba]; exact HB0.out.size)
  clear hV1 hba HX0 HB0 HB1
  refine wpAt_seq trivial ?_
  refine wpAt_seq trivial (wpAt_of_wpIn trivial ?_)
  gi_wp2_with fail
  refine ⟨trivial, (callsIn_wide.2 (bookLines_any ⟨s.toArray⟩ V1)).mono ?_⟩
  rintro e w' ⟨rfl, rfl⟩
  have HB3 := Lib.hid (nxA V1 (.cells #[tx s] 9))
  have HXS := Lib.hid (Bx.new V1 #[tx s] 9)
  have HKS := Lib.hid (Kd.new V1 #[tx s] 9)
  gi_wp2_with fail
  have HB4 := Lib.hid (HB2.out.trans (HB3.out.mono HB2.out.size))
  have HX4 := Lib.hid (HX2.out.next HB3.out)
  have HA4 := Lib.hid (HX1.out.next HB3.out)
  generalize hV2 : (V1.alloc (.cells #[tx s] 9)) = V2 at *
  obtain ⟨bs, hbs⟩ : ∃ b, b = V1.heap.size := ⟨_, rfl⟩
  rw [← hbs] at HXS HKS ⊢
  have HE4 := Lib.hid (HE.out.next HB4.out)
  clear hV2 hbs HX1 HX2 HB2 HB3 HKS
  obtain ⟨B, hB⟩ : ∃ B, V2.heap.size = B := ⟨_, rfl⟩
  have hbdB : bd < B := by rw [← hB]; exact HX4.out.lt
  have hbaB : ba < B := by rw [← hB]; exact HA4.out.lt
  have h9B : 9 ≤ B := by rw [← hB]; exact HE4.out.sz
  have hwB : w.heap.size ≤ B := by rw [← hB]; exact HB4.out.size
  refine wpAt_block trivial (fun _ _ _ h => h) (fun _ _ _ h => h) ?_
  refine wpAt_rangeFunc_x (fn₀ := Tryz.f59) Tryz.func59 trivial rfl (by omega) (gf := 81) (lb := #[.pointer (some ⟨bs, 0, none⟩)]) rfl trivial (enters_of Tryz.func81 (by kernel_rfl) rfl)
    (fun W hW hs => bookLines1_x (6 - 1) (by omega) s (by omega) bs W (HE4.out.next hW) (HXS.out.next hW) (B + 2) (by omega))
    (fun A r h => by have := h.1; omega) (fun h k => h.trans k) (fun W o' => by rw [hB]; exact KMineE.put h9B) (fun _ => rfl)
    (ILg w B bd ba) (fun _ _ _ => False) (LPn w s) ?hI ?hIx ?hR ?tI ?tIx ?tIp ⟨0, [], rfl, by simp, _, HX4.out, HA4.out, World.ownsRow_nil _ _ _ _, HE4.out, HB4.out⟩
    (fun x => { tmps := (tx s :: undef :: .pointer (some ⟨bd, 0, none⟩) :: .pointer (some ⟨ba, 0, none⟩) :: .slice x.A x.ws.length x.c :: undef :: undef :: tx s :: .func (.func 81) #[] #[.pointer (some ⟨bs, 0, none⟩)] :: .slice x.A x.ws.length x.c :: undef :: undef :: undef :: undef :: undef :: undef :: undef :: undef :: undef :: undef :: undef :: undef :: undef :: undef :: undef :: undef :: undef :: undef :: undef :: undef :: undef :: undef :: undef :: undef :: undef :: undef :: undef :: undef :: undef :: undef :: undef :: undef :: undef :: undef :: undef :: []).toArray, defers := [] }) ?assign ?body ?done ?stop ?pan
  case assign =>
    intro l x W K hK
    dsimp only [encW]
    gi_wp2
    exact hK
  case hI =>
    rw [hB]
    intro pre A A' row h hg hr
    exact ILg.turn h hbdB hbaB h9B hwB hg (fun r e => by obtain ⟨h1, ⟨o, h2, h3⟩, -⟩ := hr r e; exact ⟨h1, o, h2, not_mine h3⟩)
  case hIx => exact fun _ _ _ _ _ h _ _ => h
  case hR =>
    rw [hB]
    exact WlAt.ownX
  case tI =>
    intro pre A A' row h hg hr
    exact ILg.turn h hbdB hbaB h9B hwB hg (fun r e => by obtain ⟨⟨h1, h2⟩, -⟩ := hr r e; exact ⟨by omega, h2⟩)
  case tIx => exact fun _ _ _ _ _ h _ _ => h
  case tIp =>
    intro ch A A' row h hg hr
    exact LPn.turn h hwB hg (fun r e => by obtain ⟨⟨h1, -⟩, -⟩ := hr r e; omega)
  case stop => rintro D c pre W _ _ h _; exact h.elim
  case pan =>
    rintro D ch W hD h hK
    rw [hB] at hD
    refine ⟨by simp, .inl ⟨_, _, rfl, run_takeDeferred hK, ?_⟩⟩
    obtain ⟨rfl, h2, h3⟩ := LPn.turn h hwB (grownBy_putObj' W D (.deferred none)) (fun r e => by cases e; exact hD)
    show RetLg (parseL s) w _ _
    rw [h2]
    exact ⟨rfl, h3⟩
  case done =>
    rintro D xs W hD hxs ⟨last, out, hrd, -, hdi⟩ hK
    rw [hB] at hD
    have HP := Lib.hid (show parseL s = some out by unfold parseL; rw [readL_s, ← show xs.map (·.ws) = (linesP s).map (splitC 32) from hxs, hrd]; rfl)
    obtain ⟨v, hxd, hxa, hown, hEn, hbw⟩ := hdi
    obtain ⟨A, c, rfl, hat⟩ := own_at wo_len (by decide) hown
    have HXD := Lib.hid hxd
    have HOW := Lib.hid hown
    have HBW := Lib.hid hbw
    have HK := Lib.hid hK
    clear hxd hown hbw hK hrd hxs hat hxa
    have c0 := HXD.out.c 0 _ rfl
    have f0 := HXD.out.fr 0
    rw [HP.out]
    refine wpAt_of_wpIn trivial ?_
    gi_wp2_with fail
    have HG9 := Lib.hid (set_grown W bd 0 (.slice A out.length c))
    have HX9 := Lib.hid (HXD.out.set (k := 0) (by simp) (.slice A out.length c))
    have HB9 := Lib.hid (HBW.out.setCell (p := ⟨bd, 0, none⟩) (by rw [HBD.out]; exact Nat.le_refl _) (.slice A out.length c))
    have HO9 := Lib.hid (HOW.out.kept HG9.out (.inr (own_far HOW.out hbdB)))
    have HK9 := Lib.hid (show (W.setCell ⟨bd, 0, none⟩ (.slice A out.length c)).heap[D]? = some (.deferred (some [])) from (HG9.out.block D (Array.getElem?_eq_some_iff.1 HK.out).1 (fun e => by injection e with e; omega)).trans HK.out)
    generalize (W.setCell ⟨bd, 0, none⟩ (.slice A out.length c)) = W9 at *
    have hG := grownBy_putObj' W9 D (.deferred none)
    refine ⟨by simp, .inl ⟨_, _, rfl, run_takeDeferred HK9.out, ?_⟩⟩
    have HXF := Lib.hid (HX9.out.grown hG (fun e => by injection e with e; omega))
    refine ⟨_, results_cell1 rfl rfl (loadLg HXF.out), _, rfl, own_base (HO9.out.kept hG (own_not_obj HO9.out HK9.out)) hwB, ⟨hG.os.trans HB9.out.os, hG.tape.trans HB9.out.tape, hG.output.trans HB9.out.output, Nat.le_trans HB9.out.size hG.size, fun k hk => (hG.block k (Nat.lt_of_lt_of_le hk HB9.out.size) (fun e => by injection e with e; omega)).trans (HB9.out.block k hk)⟩⟩
  case body =>
    rintro l' pre ⟨ws, A, c⟩ W ⟨last, out, hrd, hbn, v, hxd, hxa, hown, hEn, hbw⟩ hsp ⟨hat, hne, hc, hfar, hkd⟩
    dsimp only at hat hne hc hfar hkd ⊢
    obtain ⟨q, off, rfl, hq, hcs⟩ := tx_at hat hne
    obtain ⟨i, hi⟩ : ∃ i, pre.length = i := ⟨_, rfl⟩
    have HLW := Lib.hid (show ∀ k, (ws.getD k []).length ≤ 70000 from fun k => by
      rw [List.getD_eq_getElem?_getD]
      cases hk : ws[k]? with
      | none => exact Nat.zero_le _
      | some t => exact Nat.le_trans (words_len (List.IsPrefix.mem (by simp) hsp) t (List.mem_of_getElem? hk)) (by omega))
    have hib : i ≤ 65537 := by
      have h1 := hsp.length_le
      have h2 := words_count s
      rw [List.length_map, List.length_append, hi] at h1
      omega
    have HBS := Lib.hid (show B ≤ W.heap.size by have h1 : B + 2 ≤ q := hfar _ rfl; omega)
    have HWS := Lib.hid (show ∀ W' : World, Below W.heap.size W W' → ∀ k, k < ws.length → W'.cell? ⟨q, off + k, none⟩ = some (tx (ws.getD k [])) from fun W' hb k hk => (hb.cell (p := ⟨q, off + k, none⟩) hq).trans (hcs k hk))
    have HKQ := Lib.hid (show ∀ W' : World, Below W.heap.size W W' → Kd W' q 9 ∧ q < W'.heap.size from fun W' hb => ⟨(hkd _ rfl).next hb, Nat.lt_of_lt_of_le hq hb.size⟩)
    have hqbd : bd ≠ q := by have h1 : B + 2 ≤ q := hfar _ rfl; omega
    have hqba : ba ≠ q := by have h1 : B + 2 ≤ q := hfar _ rfl; omega
    rw [hi] at hbn
    obtain ⟨hbn1, hbn2⟩ := hbn
    have HFIN := Lib.hid (show ∀ v' last' out' W', stepL last out ws = some (last', out') → (-100000 * ((i : Int) + 1) ≤ last' ∧ last' ≤ 100000 * ((i : Int) + 1)) → LV w W B bd ba v' last' out' W' → KeepsFrom V2.heap.size W W' ∧ KMineE (B + 2) W W' ∧ ILg w B bd ba (pre ++ [⟨ws, some ⟨q, off, none⟩, c⟩]) W' from fun v' last' out' W' h1 hbd' h3 => by
      obtain ⟨g1, g2, g3, g4, g5, h2⟩ := h3
      refine ⟨h2.from' (by omega), ⟨h2.more (by omega), fun _ => g4⟩, last', out', ?_, ?_, v', g1, g2, g3, g4, g5⟩
      · rw [List.map_append]
        exact readLs_go hrd h1
      · rw [List.length_append, hi]
        push_cast
        exact hbd')
    have HPAN := Lib.hid (show ∀ W', stepL last out ws = none → KMine B W W' → Env W' → Below w.heap.size w W' → KeepsFrom V2.heap.size W W' ∧ KMineE (B + 2) W W' ∧ LPn w s [{ v := .iface 129 (.agg #[]), recovered := false }] W' from fun W' h1 h2 h3 h4 =>
      ⟨h2.from' (by omega), ⟨h2.more (by omega), fun _ => h3⟩, rfl, by
        unfold parseL
        unfold LSp at hsp
        rw [List.map_append] at hsp
        exact readLs_stop hsp hrd h1, h4⟩)
    obtain ⟨A, cp, rfl, -⟩ := own_form hown
    have HLV := Lib.hid (show LV w W B bd ba (.slice A out.length cp) last out W from ⟨hxd, hxa, hown, hEn, hbw, KMine.next (Below.refl _ _)⟩)
    have HEN := Lib.hid hEn
    have hbd9 : 9 ≤ bd := by rw [HBD.out]; exact HE.out.sz
    have hba9 : 9 ≤ ba := Nat.le_trans HE.out.sz HBA2.out
    have hbdw : w.heap.size ≤ bd := by rw [HBD.out]; exact Nat.le_refl _
    have hbda := HBA.out
    have HBW := Lib.hid hbw
    have HPO := Lib.hid (List.length_pos_iff.2 hne)
    have HCL := Lib.hid hc
    clear hat hne hc hfar hcs hrd hxd hxa hown hEn hbw hsp hq hi hkd
    have hn1 : 1 ≤ 6 - 1 - 1 := by decide
    have c0 := HLV.out.1.c 0 _ rfl
    by_cases h3 : ws.length = 3 ∧ out.length < 40
    · obtain ⟨h3, h40⟩ := h3
      have h3i : ((ws.length : Int) == 3) = true := by rw [h3]; rfl
      have h40i : decide ((out.length : Int) < 40) = true := decide_eq_true (by omega)
      have HST := Lib.hid (stepL_eq (last := last) (out := out) ⟨h3, h40⟩)
      have HS := Lib.hid (show ∀ W' : World, Below W.heap.size W W' → W'.cell? ⟨q, off + 1, none⟩ = some (tx (ws.getD 1 [])) ∧ W'.cell? ⟨q, off + 2, none⟩ = some (tx (ws.getD 2 [])) from fun W' hb => ⟨HWS.out W' hb 1 (by omega), HWS.out W' hb 2 (by omega)⟩)
      have x0 : W.cell? ⟨q, off, none⟩ = some (tx (ws.getD 0 [])) := HWS.out W (Below.refl _ _) 0 (by omega)
      have HL0 := Lib.hid (HLW.out 0)
      have HN1 := Lib.hid (fun W' hW => number_any (ws.getD 1 []) W' hW (HLW.out 1))
      have HN2 := Lib.hid (fun W' hW => span_any (ws.getD 2 []) W' hW (HLW.out 2))
      unfold addT at HST
      generalize ws.getD 0 [] = w0 at HST x0 HL0
      generalize ws.getD 1 [] = w1 at HST HS HN1
      generalize ws.getD 2 [] = w2 at HST HS HN2
      generalize numP w1 = p1 at HST HN1
      generalize spanP w2 = p2 at HST HN2
      have h3n : (ws.length : Int) = 3 := by omega
      have hnl0 : (0 : Int) < (ws.length : Int) := by omega
      generalize hnl : ws.length = nl at *
      subst h3
      gi_wp2_with fail
      refine ⟨trivial, CallsIn.inRound l' (callsIn_wide.2 ((need_true W).mono ?_))⟩
      rintro e W' ⟨rfl, rfl⟩
      gi_wp2_with fail
      refine ⟨trivial, CallsIn.inRound l' (callsIn_wide.2 ((cutp_any w0 [43] W).mono ?_))⟩
      rintro e W' ⟨rfl, hww⟩
      have hw2 := hww.symm
      clear hww
      subst hw2
      cases hpx : Lib.hasPrefix w0 [43]
      · rw [hpx, if_neg (by decide)] at HST
        clear hpx c0 x0
        gi_wp2_with fail
        have HC := Lib.hid ((Below.refl W.heap.size W).drew)
        replace HLV := Lib.hid (HLV.out.next HC.out)
        rcases p1 with _ | a1
        · have HNO := Lib.hid (show stepL last out ws = none from HST.out)
          refine region_inX (S := (fun W' => W'.cell? ⟨q, off + 1, none⟩ = some (tx w1) ∧ W'.cell? ⟨q, off + 2, none⟩ = some (tx w2))) (fun ch W' => ch = [{ v := .iface 129 (.agg #[]), recovered := false }] ∧ stepL last out ws = none ∧ KMine B W W' ∧ Env W' ∧ Below w.heap.size w W') (by kernel_rfl) (by kernel_rfl) (fun ch a' w' hd h => by obtain ⟨rfl, h1, h2, h3, h4⟩ := h; exact ⟨hd, HPAN.out w' h1 h2 h3 h4⟩) ?_ (fun hHeld => ?_)
          · (try dsimp only); exact HS.out _ HC.out
          refine htake (i := 1) (v := ?v1) rfl (by kernel_rfl) (by kernel_rfl) (by kernel_rfl) (fun _ _ _ h => pan_put h) (Or.inl ⟨by rfl, ?hy1⟩) (by assumption) ?_
          case hy1 => (intro w hSw; (try dsimp only at hSw); go_simp; try (with_reducible rfl))
          try simp only [Act.put, List.setIfInBounds_toArray, List.set_cons_zero, List.set_cons_succ]
          refine htake (i := 2) (v := ?v2) rfl (by kernel_rfl) (by kernel_rfl) (by kernel_rfl) (fun _ _ _ h => pan_put h) (Or.inl ⟨by rfl, ?hy2⟩) (by assumption) ?_
          case hy2 => (intro w hSw; (try dsimp only at hSw); go_simp; try (with_reducible rfl))
          try simp only [Act.put, List.setIfInBounds_toArray, List.set_cons_zero, List.set_cons_succ]
          refine htake (i := 3) (v := ?v3) rfl (by kernel_rfl) (by kernel_rfl) (by kernel_rfl) (fun _ _ _ h => pan_put h) (Or.inl ⟨by rfl, ?hy3⟩) (by assumption) ?_
          case hy3 => (intro w hSw; (try dsimp only at hSw); go_simp; try (with_reducible rfl))
          try simp only [Act.put, List.setIfInBounds_toArray, List.set_cons_zero, List.set_cons_succ]
          refine htake (i := 6) (v := ?v4) rfl (by kernel_rfl) (by kernel_rfl) (by kernel_rfl) (fun _ _ _ h => pan_put h) (Or.inl ⟨by rfl, ?hy4⟩) (by assumption) ?_
          case hy4 => (intro w hSw; (try dsimp only at hSw); go_simp; try (with_reducible rfl))
          try simp only [Act.put, List.setIfInBounds_toArray, List.set_cons_zero, List.set_cons_succ]
          refine htake (i := 7) (v := ?v5) rfl (by kernel_rfl) (by kernel_rfl) (by kernel_rfl) (fun _ _ _ h => pan_put h) (Or.inl ⟨by rfl, ?hy5⟩) (by assumption) ?_
          case hy5 => (intro w hSw; (try dsimp only at hSw); go_simp; try (with_reducible rfl))
          try simp only [Act.put, List.setIfInBounds_toArray, List.set_cons_zero, List.set_cons_succ]
          refine htake (i := 8) (v := ?v6) rfl (by kernel_rfl) (by kernel_rfl) (by kernel_rfl) (fun _ _ _ h => pan_put h) (Or.inl ⟨by rfl, ?hy6⟩) (by assumption) ?_
          case hy6 => (intro w hSw; (try dsimp only at hSw); go_simp; try (with_reducible rfl))
          try simp only [Act.put, List.setIfInBounds_toArray, List.set_cons_zero, List.set_cons_succ]
          refine wpAnyH_ready (rs := [0, 4, 5]) (by kernel_rfl) (by simp) ?_
          refine hcons rfl (fun K hK => ?_) (hcons rfl (fun K hK => ?_) (hcons rfl (fun K hK => ?_) (AllReadyH.nil)))
          have z0 := HLV.out.1.c 0 _ rfl; go_simp; clear z0
          refine hK.out _ _ ?_ (fun hHeld => ?_)
          · (try dsimp only); exact HS.out _ HC.out
          clear hK K
          try simp only [Act.put, List.setIfInBounds_toArray, List.set_cons_zero, List.set_cons_succ]
          refine wpAnyH_ready (rs := [4, 5]) (by kernel_rfl) (by simp) ?_
          refine hcons rfl (fun K hK => ?_) (hcons rfl (fun K hK => ?_) (AllReadyH.nil))
          go_simp
          refine (HN1.out _ HLV.out.2.2.2.1).mono ?_; rintro e9 U9 ⟨rfl, hb⟩; exact ⟨rfl, rfl, HNO.out, HLV.out.2.2.2.2.2.trans (KMine.next hb), HLV.out.2.2.2.1.next hb, HLV.out.2.2.2.2.1.trans (hb.mono HLV.out.2.2.2.2.1.size)⟩
          have z5 := HLV.out.2.1.c 0 _ rfl; go_simp; clear z5
          refine hK.out _ _ ?_ (fun hHeld => ?_)
          · (try dsimp only); exact HS.out _ HC.out
          clear hK K
          try simp only [Act.put, List.setIfInBounds_toArray, List.set_cons_zero, List.set_cons_succ]
          refine wpAnyH_ready (rs := [4]) (by kernel_rfl) (by simp) ?_
          refine hcons rfl (fun K hK => ?_) (AllReadyH.nil)
          go_simp
          refine (HN1.out _ HLV.out.2.2.2.1).mono ?_; rintro e9 U9 ⟨rfl, hb⟩; exact ⟨rfl, rfl, HNO.out, HLV.out.2.2.2.2.2.trans (KMine.next hb), HLV.out.2.2.2.1.next hb, HLV.out.2.2.2.2.1.trans (hb.mono HLV.out.2.2.2.2.1.size)⟩
          go_simp
          refine (HN1.out _ HLV.out.2.2.2.1).mono ?_; rintro e9 U9 ⟨rfl, hb⟩; exact ⟨rfl, rfl, HNO.out, HLV.out.2.2.2.2.2.trans (KMine.next hb), HLV.out.2.2.2.1.next hb, HLV.out.2.2.2.2.1.trans (hb.mono HLV.out.2.2.2.2.1.size)⟩
          have z5 := HLV.out.2.1.c 0 _ rfl; go_simp; clear z5
          refine hK.out _ _ ?_ (fun hHeld => ?_)
          · (try dsimp only); exact HS.out _ HC.out
          clear hK K
          try simp only [Act.put, List.setIfInBounds_toArray, List.set_cons_zero, List.set_cons_succ]
          refine wpAnyH_ready (rs := [0, 4]) (by kernel_rfl) (by simp) ?_
          refine hcons rfl (fun K hK => ?_) (hcons rfl (fun K hK => ?_) (AllReadyH.nil))
          have z0 := HLV.out.1.c 0 _ rfl; go_simp; clear z0
          refine hK.out _ _ ?_ (fun hHeld => ?_)
          · (try dsimp only); exact HS.out _ HC.out
          clear hK K
          try simp only [Act.put, List.setIfInBounds_toArray, List.set_cons_zero, List.set_cons_succ]
          refine wpAnyH_ready (rs := [4]) (by kernel_rfl) (by simp) ?_
          refine hcons rfl (fun K hK => ?_) (AllReadyH.nil)
          go_simp
          refine (HN1.out _ HLV.out.2.2.2.1).mono ?_; rintro e9 U9 ⟨rfl, hb⟩; exact ⟨rfl, rfl, HNO.out, HLV.out.2.2.2.2.2.trans (KMine.next hb), HLV.out.2.2.2.1.next hb, HLV.out.2.2.2.2.1.trans (hb.mono HLV.out.2.2.2.2.1.size)⟩
          go_simp
          refine (HN1.out _ HLV.out.2.2.2.1).mono ?_; rintro e9 U9 ⟨rfl, hb⟩; exact ⟨rfl, rfl, HNO.out, HLV.out.2.2.2.2.2.trans (KMine.next hb), HLV.out.2.2.2.1.next hb, HLV.out.2.2.2.2.1.trans (hb.mono HLV.out.2.2.2.2.1.size)⟩
        · rcases p2 with _ | s2
          · have HNO := Lib.hid (show stepL last out ws = none from HST.out)
            refine region_inX (S := (fun W' => W'.cell? ⟨q, off + 1, none⟩ = some (tx w1) ∧ W'.cell? ⟨q, off + 2, none⟩ = some (tx w2))) (fun ch W' => ch = [{ v := .iface 129 (.agg #[]), recovered := false }] ∧ stepL last out ws = none ∧ KMine B W W' ∧ Env W' ∧ Below w.heap.size w W') (by kernel_rfl) (by kernel_rfl) (fun ch a' w' hd h => by obtain ⟨rfl, h1, h2, h3, h4⟩ := h; exact ⟨hd, HPAN.out w' h1 h2 h3 h4⟩) ?_ (fun hHeld => ?_)
            · (try dsimp only); exact HS.out _ HC.out
            refine htake (i := 1) (v := ?v7) rfl (by kernel_rfl) (by kernel_rfl) (by kernel_rfl) (fun _ _ _ h => pan_put h) (Or.inl ⟨by rfl, ?hy7⟩) (by assumption) ?_
            case hy7 => (intro w hSw; (try dsimp only at hSw); go_simp; try (with_reducible rfl))
            try simp only [Act.put, List.setIfInBounds_toArray, List.set_cons_zero, List.set_cons_succ]
            refine htake (i := 2) (v := ?v8) rfl (by kernel_rfl) (by kernel_rfl) (by kernel_rfl) (fun _ _ _ h => pan_put h) (Or.inl ⟨by rfl, ?hy8⟩) (by assumption) ?_
            case hy8 => (intro w hSw; (try dsimp only at hSw); go_simp; try (with_reducible rfl))
            try simp only [Act.put, List.setIfInBounds_toArray, List.set_cons_zero, List.set_cons_succ]
            refine htake (i := 3) (v := ?v9) rfl (by kernel_rfl) (by kernel_rfl) (by kernel_rfl) (fun _ _ _ h => pan_put h) (Or.inl ⟨by rfl, ?hy9⟩) (by assumption) ?_
            case hy9 => (intro w hSw; (try dsimp only at hSw); go_simp; try (with_reducible rfl))
            try simp only [Act.put, List.setIfInBounds_toArray, List.set_cons_zero, List.set_cons_succ]
            refine htake (i := 6) (v := ?v10) rfl (by kernel_rfl) (by kernel_rfl) (by kernel_rfl) (fun _ _ _ h => pan_put h) (Or.inl ⟨by rfl, ?hy10⟩) (by assumption) ?_
            case hy10 => (intro w hSw; (try dsimp only at hSw); go_simp; try (with_reducible rfl))
            try simp only [Act.put, List.setIfInBounds_toArray, List.set_cons_zero, List.set_cons_succ]
            refine htake (i := 7) (v := ?v11) rfl (by kernel_rfl) (by kernel_rfl) (by kernel_rfl) (fun _ _ _ h => pan_put h) (Or.inl ⟨by rfl, ?hy11⟩) (by assumption) ?_
            case hy11 => (intro w hSw; (try dsimp only at hSw); go_simp; try (with_reducible rfl))
            try simp only [Act.put, List.setIfInBounds_toArray, List.set_cons_zero, List.set_cons_succ]
            refine htake (i := 8) (v := ?v12) rfl (by kernel_rfl) (by kernel_rfl) (by kernel_rfl) (fun _ _ _ h => pan_put h) (Or.inl ⟨by rfl, ?hy12⟩) (by assumption) ?_
            case hy12 => (intro w hSw; (try dsimp only at hSw); go_simp; try (with_reducible rfl))
            try simp only [Act.put, List.setIfInBounds_toArray, List.set_cons_zero, List.set_cons_succ]
            refine wpAnyH_ready (rs := [0, 4, 5]) (by kernel_rfl) (by simp) ?_
            refine hcons rfl (fun K hK => ?_) (hcons rfl (fun K hK => ?_) (hcons rfl (fun K hK => ?_) (AllReadyH.nil)))
            have z0 := HLV.out.1.c 0 _ rfl; go_simp; clear z0
            refine hK.out _ _ ?_ (fun hHeld => ?_)
            · (try dsimp only); exact HS.out _ HC.out
            clear hK K
            try simp only [Act.put, List.setIfInBounds_toArray, List.set_cons_zero, List.set_cons_succ]
            refine wpAnyH_ready (rs := [4, 5]) (by kernel_rfl) (by simp) ?_
            refine hcons rfl (fun K hK => ?_) (hcons rfl (fun K hK => ?_) (AllReadyH.nil))
            go_simp
            refine (HN1.out _ HLV.out.2.2.2.1).mono ?_; rintro e4 U4 ⟨rfl, hb⟩; replace HLV := Lib.hid (HLV.out.next hb); replace HC := Lib.hid (HC.out.trans (hb.mono HC.out.size)); clear hb
            refine hK.out _ _ ?_ (fun hHeld => ?_)
            · (try dsimp only); exact HS.out _ HC.out
            clear hK K
            try simp only [Act.put, List.setIfInBounds_toArray, List.set_cons_zero, List.set_cons_succ]
            refine wpAnyH_ready (rs := [5, 9]) (by kernel_rfl) (by simp) ?_
            refine hcons rfl (fun K hK => ?_) (hcons rfl (fun K hK => ?_) (AllReadyH.nil))
            have z5 := HLV.out.2.1.c 0 _ rfl; go_simp; clear z5
            refine hK.out _ _ ?_ (fun hHeld => ?_)
            · (try dsimp only); exact HS.out _ HC.out
            clear hK K
            try simp only [Act.put, List.setIfInBounds_toArray, List.set_cons_zero, List.set_cons_succ]
            refine wpAnyH_ready (rs := [9]) (by kernel_rfl) (by simp) ?_
            refine hcons rfl (fun K hK => ?_) (AllReadyH.nil)
            go_simp
            refine (HN2.out _ HLV.out.2.2.2.1).mono ?_; rintro e9 U9 ⟨rfl, hb⟩; exact ⟨rfl, rfl, HNO.out, HLV.out.2.2.2.2.2.trans (KMine.next hb), HLV.out.2.2.2.1.next hb, HLV.out.2.2.2.2.1.trans (hb.mono HLV.out.2.2.2.2.1.size)⟩
            go_simp
            refine (HN2.out _ HLV.out.2.2.2.1).mono ?_; rintro e9 U9 ⟨rfl, hb⟩; exact ⟨rfl, rfl, HNO.out, HLV.out.2.2.2.2.2.trans (KMine.next hb), HLV.out.2.2.2.1.next hb, HLV.out.2.2.2.2.1.trans (hb.mono HLV.out.2.2.2.2.1.size)⟩
            have z5 := HLV.out.2.1.c 0 _ rfl; go_simp; clear z5
            refine hK.out _ _ ?_ (fun hHeld => ?_)
            · (try dsimp only); exact HS.out _ HC.out
            clear hK K
            try simp only [Act.put, List.setIfInBounds_toArray, List.set_cons_zero, List.set_cons_succ]
            refine wpAnyH_ready (rs := [4]) (by kernel_rfl) (by simp) ?_
            refine hcons rfl (fun K hK => ?_) (AllReadyH.nil)
            go_simp
            refine (HN1.out _ HLV.out.2.2.2.1).mono ?_; rintro e4 U4 ⟨rfl, hb⟩; replace HLV := Lib.hid (HLV.out.next hb); replace HC := Lib.hid (HC.out.trans (hb.mono HC.out.size)); clear hb
            refine hK.out _ _ ?_ (fun hHeld => ?_)
            · (try dsimp only); exact HS.out _ HC.out
            clear hK K
            try simp only [Act.put, List.setIfInBounds_toArray, List.set_cons_zero, List.set_cons_succ]
            refine wpAnyH_ready (rs := [9]) (by kernel_rfl) (by simp) ?_
            refine hcons rfl (fun K hK => ?_) (AllReadyH.nil)
            go_simp
            refine (HN2.out _ HLV.out.2.2.2.1).mono ?_; rintro e9 U9 ⟨rfl, hb⟩; exact ⟨rfl, rfl, HNO.out, HLV.out.2.2.2.2.2.trans (KMine.next hb), HLV.out.2.2.2.1.next hb, HLV.out.2.2.2.2.1.trans (hb.mono HLV.out.2.2.2.2.1.size)⟩
            go_simp
            refine (HN1.out _ HLV.out.2.2.2.1).mono ?_; rintro e4 U4 ⟨rfl, hb⟩; replace HLV := Lib.hid (HLV.out.next hb); replace HC := Lib.hid (HC.out.trans (hb.mono HC.out.size)); clear hb
            refine hK.out _ _ ?_ (fun hHeld => ?_)
            · (try dsimp only); exact HS.out _ HC.out
            clear hK K
            try simp only [Act.put, List.setIfInBounds_toArray, List.set_cons_zero, List.set_cons_succ]
            refine wpAnyH_ready (rs := [0, 5, 9]) (by kernel_rfl) (by simp) ?_
            refine hcons rfl (fun K hK => ?_) (hcons rfl (fun K hK => ?_) (hcons rfl (fun K hK => ?_) (AllReadyH.nil)))
            have z0 := HLV.out.1.c 0 _ rfl; go_simp; clear z0
            refine hK.out _ _ ?_ (fun hHeld => ?_)
            · (try dsimp only); exact HS.out _ HC.out
            clear hK K
            try simp only [Act.put, List.setIfInBounds_toArray, List.set_cons_zero, List.set_cons_succ]
            refine wpAnyH_ready (rs := [5, 9]) (by kernel_rfl) (by simp) ?_
            refine hcons rfl (fun K hK => ?_) (hcons rfl (fun K hK => ?_) (AllReadyH.nil))
            have z5 := HLV.out.2.1.c 0 _ rfl; go_simp; clear z5
            refine hK.out _ _ ?_ (fun hHeld => ?_)
            · (try dsimp only); exact HS.out _ HC.out
            clear hK K
            try simp only [Act.put, List.setIfInBounds_toArray, List.set_cons_zero, List.set_cons_succ]
            refine wpAnyH_ready (rs := [9]) (by kernel_rfl) (by simp) ?_
            refine hcons rfl (fun K hK => ?_) (AllReadyH.nil)
            go_simp
            refine (HN2.out _ HLV.out.2.2.2.1).mono ?_; rintro e9 U9 ⟨rfl, hb⟩; exact ⟨rfl, rfl, HNO.out, HLV.out.2.2.2.2.2.trans (KMine.next hb), HLV.out.2.2.2.1.next hb, HLV.out.2.2.2.2.1.trans (hb.mono HLV.out.2.2.2.2.1.size)⟩
            go_simp
            refine (HN2.out _ HLV.out.2.2.2.1).mono ?_; rintro e9 U9 ⟨rfl, hb⟩; exact ⟨rfl, rfl, HNO.out, HLV.out.2.2.2.2.2.trans (KMine.next hb), HLV.out.2.2.2.1.next hb, HLV.out.2.2.2.2.1.trans (hb.mono HLV.out.2.2.2.2.1.size)⟩
            have z5 := HLV.out.2.1.c 0 _ rfl; go_simp; clear z5
            refine hK.out _ _ ?_ (fun hHeld => ?_)
            · (try dsimp only); exact HS.out _ HC.out
            clear hK K
            try simp only [Act.put, List.setIfInBounds_toArray, List.set_cons_zero, List.set_cons_succ]
            refine wpAnyH_ready (rs := [0, 9]) (by kernel_rfl) (by simp) ?_
            refine hcons rfl (fun K hK => ?_) (hcons rfl (fun K hK => ?_) (AllReadyH.nil))
            have z0 := HLV.out.1.c 0 _ rfl; go_simp; clear z0
            refine hK.out _ _ ?_ (fun hHeld => ?_)
            · (try dsimp only); exact HS.out _ HC.out
            clear hK K
            try simp only [Act.put, List.setIfInBounds_toArray, List.set_cons_zero, List.set_cons_succ]
            refine wpAnyH_ready (rs := [9]) (by kernel_rfl) (by simp) ?_
            refine hcons rfl (fun K hK => ?_) (AllReadyH.nil)
            go_simp
            refine (HN2.out _ HLV.out.2.2.2.1).mono ?_; rintro e9 U9 ⟨rfl, hb⟩; exact ⟨rfl, rfl, HNO.out, HLV.out.2.2.2.2.2.trans (KMine.next hb), HLV.out.2.2.2.1.next hb, HLV.out.2.2.2.2.1.trans (hb.mono HLV.out.2.2.2.2.1.size)⟩
            go_simp
            refine (HN2.out _ HLV.out.2.2.2.1).mono ?_; rintro e9 U9 ⟨rfl, hb⟩; exact ⟨rfl, rfl, HNO.out, HLV.out.2.2.2.2.2.trans (KMine.next hb), HLV.out.2.2.2.1.next hb, HLV.out.2.2.2.2.1.trans (hb.mono HLV.out.2.2.2.2.1.size)⟩
            go_simp
            refine (HN2.out _ HLV.out.2.2.2.1).mono ?_; rintro e9 U9 ⟨rfl, hb⟩; exact ⟨rfl, rfl, HNO.out, HLV.out.2.2.2.2.2.trans (KMine.next hb), HLV.out.2.2.2.1.next hb, HLV.out.2.2.2.2.1.trans (hb.mono HLV.out.2.2.2.2.1.size)⟩
            have z5 := HLV.out.2.1.c 0 _ rfl; go_simp; clear z5
            refine hK.out _ _ ?_ (fun hHeld => ?_)
            · (try dsimp only); exact HS.out _ HC.out
            clear hK K
            try simp only [Act.put, List.setIfInBounds_toArray, List.set_cons_zero, List.set_cons_succ]
            refine wpAnyH_ready (rs := [0, 4]) (by kernel_rfl) (by simp) ?_
            refine hcons rfl (fun K hK => ?_) (hcons rfl (fun K hK => ?_) (AllReadyH.nil))
            have z0 := HLV.out.1.c 0 _ rfl; go_simp; clear z0
            refine hK.out _ _ ?_ (fun hHeld => ?_)
            · (try dsimp only); exact HS.out _ HC.out
            clear hK K
            try simp only [Act.put, List.setIfInBounds_toArray, List.set_cons_zero, List.set_cons_succ]
            refine wpAnyH_ready (rs := [4]) (by kernel_rfl) (by simp) ?_
            refine hcons rfl (fun K hK => ?_) (AllReadyH.nil)
            go_simp
            refine (HN1.out _ HLV.out.2.2.2.1).mono ?_; rintro e4 U4 ⟨rfl, hb⟩; replace HLV := Lib.hid (HLV.out.next hb); replace HC := Lib.hid (HC.out.trans (hb.mono HC.out.size)); clear hb
            refine hK.out _ _ ?_ (fun hHeld => ?_)
            · (try dsimp only); exact HS.out _ HC.out
            clear hK K
            try simp only [Act.put, List.setIfInBounds_toArray, List.set_cons_zero, List.set_cons_succ]
            refine wpAnyH_ready (rs := [9]) (by kernel_rfl) (by simp) ?_
            refine hcons rfl (fun K hK => ?_) (AllReadyH.nil)
            go_simp
            refine (HN2.out _ HLV.out.2.2.2.1).mono ?_; rintro e9 U9 ⟨rfl, hb⟩; exact ⟨rfl, rfl, HNO.out, HLV.out.2.2.2.2.2.trans (KMine.next hb), HLV.out.2.2.2.1.next hb, HLV.out.2.2.2.2.1.trans (hb.mono HLV.out.2.2.2.2.1.size)⟩
            go_simp
            refine (HN1.out _ HLV.out.2.2.2.1).mono ?_; rintro e4 U4 ⟨rfl, hb⟩; replace HLV := Lib.hid (HLV.out.next hb); replace HC := Lib.hid (HC.out.trans (hb.mono HC.out.size)); clear hb
            refine hK.out _ _ ?_ (fun hHeld => ?_)
            · (try dsimp only); exact HS.out _ HC.out
            clear hK K
            try simp only [Act.put, List.setIfInBounds_toArray, List.set_cons_zero, List.set_cons_succ]
            refine wpAnyH_ready (rs := [0, 9]) (by kernel_rfl) (by simp) ?_
            refine hcons rfl (fun K hK => ?_) (hcons rfl (fun K hK => ?_) (AllReadyH.nil))
            have z0 := HLV.out.1.c 0 _ rfl; go_simp; clear z0
            refine hK.out _ _ ?_ (fun hHeld => ?_)
            · (try dsimp only); exact HS.out _ HC.out
            clear hK K
            try simp only [Act.put, List.setIfInBounds_toArray, List.set_cons_zero, List.set_cons_succ]
            refine wpAnyH_ready (rs := [9]) (by kernel_rfl) (by simp) ?_
            refine hcons rfl (fun K hK => ?_) (AllReadyH.nil)
            go_simp
            refine (HN2.out _ HLV.out.2.2.2.1).mono ?_; rintro e9 U9 ⟨rfl, hb⟩; exact ⟨rfl, rfl, HNO.out, HLV.out.2.2.2.2.2.trans (KMine.next hb), HLV.out.2.2.2.1.next hb, HLV.out.2.2.2.2.1.trans (hb.mono HLV.out.2.2.2.2.1.size)⟩
            go_simp
            refine (HN2.out _ HLV.out.2.2.2.1).mono ?_; rintro e9 U9 ⟨rfl, hb⟩; exact ⟨rfl, rfl, HNO.out, HLV.out.2.2.2.2.2.trans (KMine.next hb), HLV.out.2.2.2.1.next hb, HLV.out.2.2.2.2.1.trans (hb.mono HLV.out.2.2.2.2.1.size)⟩
          · have HGO := Lib.hid (show stepL last out ws = some (last, out ++ [⟨a1, last, s2⟩]) from HST.out)
            replace HN1 := Lib.hid (show ∀ W' : World, Env W' → Calls Tryz.prog 41 #[tx w1] W' (Got (some (.int .i64 a1)) W') from HN1.out)
            replace HN2 := Lib.hid (show ∀ W' : World, Env W' → Calls Tryz.prog 42 #[tx w2] W' (Got (some (.agg #[.int .i64 s2.lo, .int .i64 s2.hi])) W') from HN2.out)
            obtain ⟨i0, hi, hz0, hz1, hz2⟩ := info_parts wo_info
            refine region_inX (S := (fun W' => W'.cell? ⟨q, off + 1, none⟩ = some (tx w1) ∧ W'.cell? ⟨q, off + 2, none⟩ = some (tx w2))) (fun ch W' => ch = [{ v := .iface 129 (.agg #[]), recovered := false }] ∧ stepL last out ws = none ∧ KMine B W W' ∧ Env W' ∧ Below w.heap.size w W') (by kernel_rfl) (by kernel_rfl) (fun ch a' w' hd h => by obtain ⟨rfl, h1, h2, h3, h4⟩ := h; exact ⟨hd, HPAN.out w' h1 h2 h3 h4⟩) ?_ (fun hHeld => ?_)
            · (try dsimp only); exact HS.out _ HC.out
            refine htake (i := 1) (v := ?v13) rfl (by kernel_rfl) (by kernel_rfl) (by kernel_rfl) (fun _ _ _ h => pan_put h) (Or.inl ⟨by rfl, ?hy13⟩) (by assumption) ?_
            case hy13 => (intro w hSw; (try dsimp only at hSw); go_simp; try (with_reducible rfl))
            try simp only [Act.put, List.setIfInBounds_toArray, List.set_cons_zero, List.set_cons_succ]
            refine htake (i := 2) (v := ?v14) rfl (by kernel_rfl) (by kernel_rfl) (by kernel_rfl) (fun _ _ _ h => pan_put h) (Or.inl ⟨by rfl, ?hy14⟩) (by assumption) ?_
            case hy14 => (intro w hSw; (try dsimp only at hSw); go_simp; try (with_reducible rfl))
            try simp only [Act.put, List.setIfInBounds_toArray, List.set_cons_zero, List.set_cons_succ]
            refine htake (i := 3) (v := ?v15) rfl (by kernel_rfl) (by kernel_rfl) (by kernel_rfl) (fun _ _ _ h => pan_put h) (Or.inl ⟨by rfl, ?hy15⟩) (by assumption) ?_
            case hy15 => (intro w hSw; (try dsimp only at hSw); go_simp; try (with_reducible rfl))
            try simp only [Act.put, List.setIfInBounds_toArray, List.set_cons_zero, List.set_cons_succ]
            refine htake (i := 6) (v := ?v16) rfl (by kernel_rfl) (by kernel_rfl) (by kernel_rfl) (fun _ _ _ h => pan_put h) (Or.inl ⟨by rfl, ?hy16⟩) (by assumption) ?_
            case hy16 => (intro w hSw; (try dsimp only at hSw); go_simp; try (with_reducible rfl))
            try simp only [Act.put, List.setIfInBounds_toArray, List.set_cons_zero, List.set_cons_succ]
            refine htake (i := 7) (v := ?v17) rfl (by kernel_rfl) (by kernel_rfl) (by kernel_rfl) (fun _ _ _ h => pan_put h) (Or.inl ⟨by rfl, ?hy17⟩) (by assumption) ?_
            case hy17 => (intro w hSw; (try dsimp only at hSw); go_simp; try (with_reducible rfl))
            try simp only [Act.put, List.setIfInBounds_toArray, List.set_cons_zero, List.set_cons_succ]
            refine htake (i := 8) (v := ?v18) rfl (by kernel_rfl) (by kernel_rfl) (by kernel_rfl) (fun _ _ _ h => pan_put h) (Or.inl ⟨by rfl, ?hy18⟩) (by assumption) ?_
            case hy18 => (intro w hSw; (try dsimp only at hSw); go_simp; try (with_reducible rfl))
            try simp only [Act.put, List.setIfInBounds_toArray, List.set_cons_zero, List.set_cons_succ]
            refine wpAnyH_ready (rs := [0, 4, 5]) (by kernel_rfl) (by simp) ?_
            refine hcons rfl (fun K hK => ?_) (hcons rfl (fun K hK => ?_) (hcons rfl (fun K hK => ?_) (AllReadyH.nil)))
            have z0 := HLV.out.1.c 0 _ rfl; go_simp; clear z0
            refine hK.out _ _ ?_ (fun hHeld => ?_)
            · (try dsimp only); exact HS.out _ HC.out
            clear hK K
            try simp only [Act.put, List.setIfInBounds_toArray, List.set_cons_zero, List.set_cons_succ]
            refine wpAnyH_ready (rs := [4, 5]) (by kernel_rfl) (by simp) ?_
            refine hcons rfl (fun K hK => ?_) (hcons rfl (fun K hK => ?_) (AllReadyH.nil))
            go_simp
            refine (HN1.out _ HLV.out.2.2.2.1).mono ?_; rintro e4 U4 ⟨rfl, hb⟩; replace HLV := Lib.hid (HLV.out.next hb); replace HC := Lib.hid (HC.out.trans (hb.mono HC.out.size)); clear hb
            refine hK.out _ _ ?_ (fun hHeld => ?_)
            · (try dsimp only); exact HS.out _ HC.out
            clear hK K
            try simp only [Act.put, List.setIfInBounds_toArray, List.set_cons_zero, List.set_cons_succ]
            refine wpAnyH_ready (rs := [5, 9]) (by kernel_rfl) (by simp) ?_
            refine hcons rfl (fun K hK => ?_) (hcons rfl (fun K hK => ?_) (AllReadyH.nil))
            have z5 := HLV.out.2.1.c 0 _ rfl; go_simp; clear z5
            refine hK.out _ _ ?_ (fun hHeld => ?_)
            · (try dsimp only); exact HS.out _ HC.out
            clear hK K
            try simp only [Act.put, List.setIfInBounds_toArray, List.set_cons_zero, List.set_cons_succ]
            refine wpAnyH_ready (rs := [9]) (by kernel_rfl) (by simp) ?_
            refine hcons rfl (fun K hK => ?_) (AllReadyH.nil)
            go_simp
            refine (HN2.out _ HLV.out.2.2.2.1).mono ?_; rintro e9 U9 ⟨rfl, hb⟩; replace HLV := Lib.hid (HLV.out.next hb); replace HC := Lib.hid (HC.out.trans (hb.mono HC.out.size)); clear hb
            refine hK.out _ _ ?_ (fun hHeld => ?_)
            · (try dsimp only); exact HS.out _ HC.out
            clear hK K
            try simp only [Act.put, List.setIfInBounds_toArray, List.set_cons_zero, List.set_cons_succ]
            refine htake (i := 10) (v := ?v19) rfl (by kernel_rfl) (by kernel_rfl) (by kernel_rfl) (fun _ _ _ h => pan_put h) (Or.inl ⟨by rfl, ?hy19⟩) (by assumption) ?_
            case hy19 => (intro w hSw; (try dsimp only at hSw); go_simp; try (with_reducible rfl))
            try simp only [Act.put, List.setIfInBounds_toArray, List.set_cons_zero, List.set_cons_succ]
            refine wpAnyH_ready (rs := [11]) (by kernel_rfl) (by simp) ?_
            refine hcons rfl (fun K hK => ?_) (AllReadyH.nil)
            go_simp
            (first | refine hold_alloc (fun Wa q1 q2 q3 => ?_) | refine hold_alloc_drew (fun Wa q1 q2 q3 => ?_)); have HN := Lib.hid (show Bx _ _ (Wo.cells ⟨a1, last, s2⟩) from q2); replace HLV := Lib.hid (HLV.out.next q1); replace HC := Lib.hid (HC.out.trans (q1.mono HC.out.size)); clear q1 q2 q3
            refine hK.out _ _ ?_ (fun hHeld => ?_)
            · (try dsimp only); exact HS.out _ HC.out
            clear hK K
            try simp only [Act.put, List.setIfInBounds_toArray, List.set_cons_zero, List.set_cons_succ]
            refine wpAnyH_ready (rs := [12]) (by kernel_rfl) (by simp) ?_
            refine hcons rfl (fun K hK => ?_) (AllReadyH.nil)
            refine step_append_any rfl (.tmp 31) (.tmp 42) 44 rfl B 66 i0 _ 4 32 Tryz.underlying44 hi hz0 hz1 hz2 rfl (by decide) (.slice A out.length cp) out.length _ rfl HLV.out.2.2.1 ⟨_, 0, none⟩ 1 1 (Wo.cells ⟨a1, last, s2⟩) rfl rfl HN.out.news (wo_one _) (by unfold maxLen; omega) (by omega) (Nat.le_trans HBS.out HC.out.size) ?_; intro v' w' hown' hgrow; have hqn := own_ne_kd HLV.out.2.2.1 (HKQ.out _ HC.out).1; have HS12 := Lib.hid (And.intro ((grown_cell hgrow (HKQ.out _ HC.out).2 hqn (off + 1)).trans (HS.out _ HC.out).1) ((grown_cell hgrow (HKQ.out _ HC.out).2 hqn (off + 2)).trans (HS.out _ HC.out).2)); have z13 := (HLV.out.1.grown hgrow (own_far HLV.out.2.2.1 hbdB)).c 0 _ rfl; have y13 := (HLV.out.1.grown hgrow (own_far HLV.out.2.2.1 hbdB)).fr 0; replace HLV := Lib.hid (HLV.out.add hbdB hbaB hbd9 hbdw hbda hown' hgrow); obtain ⟨A6, c6, e6, -⟩ := own_form hown'; subst e6; clear hown' hgrow HN hqn
            refine hK.out _ _ ?_ (fun hHeld => ?_)
            · (try dsimp only); exact HS12.out
            clear hK K
            try simp only [Act.put, List.setIfInBounds_toArray, List.set_cons_zero, List.set_cons_succ]
            refine wpAnyH_ready (rs := [13]) (by kernel_rfl) (by simp) ?_
            refine hcons rfl (fun K hK => ?_) (AllReadyH.nil)
            go_simp; clear z13 y13
            refine hK.out _ _ ?_ (fun hHeld => ?_)
            · (try dsimp only); exact ⟨(World.cell?_setCell_other _ _ _ _ (by intro e; injection e with e; exact hqbd e)).trans HS12.out.1, (World.cell?_setCell_other _ _ _ _ (by intro e; injection e with e; exact hqbd e)).trans HS12.out.2⟩
            clear hK K
            try simp only [Act.put]
            refine wpAnyH_done (by kernel_rfl) ?_ _
            dsimp only [PanTo]
            rotate_left
            go_simp
            refine (HN2.out _ HLV.out.2.2.2.1).mono ?_; rintro e9 U9 ⟨rfl, hb⟩; replace HLV := Lib.hid (HLV.out.next hb); replace HC := Lib.hid (HC.out.trans (hb.mono HC.out.size)); clear hb
            refine hK.out _ _ ?_ (fun hHeld => ?_)
            · (try dsimp only); exact HS.out _ HC.out
            clear hK K
            try simp only [Act.put, List.setIfInBounds_toArray, List.set_cons_zero, List.set_cons_succ]
            refine wpAnyH_ready (rs := [5]) (by kernel_rfl) (by simp) ?_
            refine hcons rfl (fun K hK => ?_) (AllReadyH.nil)
            have z5 := HLV.out.2.1.c 0 _ rfl; go_simp; clear z5
            refine hK.out _ _ ?_ (fun hHeld => ?_)
            · (try dsimp only); exact HS.out _ HC.out
            clear hK K
            try simp only [Act.put, List.setIfInBounds_toArray, List.set_cons_zero, List.set_cons_succ]
            refine htake (i := 10) (v := ?v20) rfl (by kernel_rfl) (by kernel_rfl) (by kernel_rfl) (fun _ _ _ h => pan_put h) (Or.inl ⟨by rfl, ?hy20⟩) (by assumption) ?_
            case hy20 => (intro w hSw; (try dsimp only at hSw); go_simp; try (with_reducible rfl))
            try simp only [Act.put, List.setIfInBounds_toArray, List.set_cons_zero, List.set_cons_succ]
            refine wpAnyH_ready (rs := [11]) (by kernel_rfl) (by simp) ?_
            refine hcons rfl (fun K hK => ?_) (AllReadyH.nil)
            go_simp
            (first | refine hold_alloc (fun Wa q1 q2 q3 => ?_) | refine hold_alloc_drew (fun Wa q1 q2 q3 => ?_)); have HN := Lib.hid (show Bx _ _ (Wo.cells ⟨a1, last, s2⟩) from q2); replace HLV := Lib.hid (HLV.out.next q1); replace HC := Lib.hid (HC.out.trans (q1.mono HC.out.size)); clear q1 q2 q3
            refine hK.out _ _ ?_ (fun hHeld => ?_)
            · (try dsimp only); exact HS.out _ HC.out
            clear hK K
            try simp only [Act.put, List.setIfInBounds_toArray, List.set_cons_zero, List.set_cons_succ]
            refine wpAnyH_ready (rs := [12]) (by kernel_rfl) (by simp) ?_
            refine hcons rfl (fun K hK => ?_) (AllReadyH.nil)
            refine step_append_any rfl (.tmp 31) (.tmp 42) 44 rfl B 66 i0 _ 4 32 Tryz.underlying44 hi hz0 hz1 hz2 rfl (by decide) (.slice A out.length cp) out.length _ rfl HLV.out.2.2.1 ⟨_, 0, none⟩ 1 1 (Wo.cells ⟨a1, last, s2⟩) rfl rfl HN.out.news (wo_one _) (by unfold maxLen; omega) (by omega) (Nat.le_trans HBS.out HC.out.size) ?_; intro v' w' hown' hgrow; have hqn := own_ne_kd HLV.out.2.2.1 (HKQ.out _ HC.out).1; have HS12 := Lib.hid (And.intro ((grown_cell hgrow (HKQ.out _ HC.out).2 hqn (off + 1)).trans (HS.out _ HC.out).1) ((grown_cell hgrow (HKQ.out _ HC.out).2 hqn (off + 2)).trans (HS.out _ HC.out).2)); have z13 := (HLV.out.1.grown hgrow (own_far HLV.out.2.2.1 hbdB)).c 0 _ rfl; have y13 := (HLV.out.1.grown hgrow (own_far HLV.out.2.2.1 hbdB)).fr 0; replace HLV := Lib.hid (HLV.out.add hbdB hbaB hbd9 hbdw hbda hown' hgrow); obtain ⟨A6, c6, e6, -⟩ := own_form hown'; subst e6; clear hown' hgrow HN hqn
            refine hK.out _ _ ?_ (fun hHeld => ?_)
            · (try dsimp only); exact HS12.out
            clear hK K
            try simp only [Act.put, List.setIfInBounds_toArray, List.set_cons_zero, List.set_cons_succ]
            refine wpAnyH_ready (rs := [13]) (by kernel_rfl) (by simp) ?_
            refine hcons rfl (fun K hK => ?_) (AllReadyH.nil)
            go_simp; clear z13 y13
            refine hK.out _ _ ?_ (fun hHeld => ?_)
            · (try dsimp only); exact ⟨(World.cell?_setCell_other _ _ _ _ (by intro e; injection e with e; exact hqbd e)).trans HS12.out.1, (World.cell?_setCell_other _ _ _ _ (by intro e; injection e with e; exact hqbd e)).trans HS12.out.2⟩
            clear hK K
            try simp only [Act.put]
            refine wpAnyH_done (by kernel_rfl) ?_ _
            dsimp only [PanTo]
            rotate_left
            have z5 := HLV.out.2.1.c 0 _ rfl; go_simp; clear z5
            refine hK.out _ _ ?_ (fun hHeld => ?_)
            · (try dsimp only); exact HS.out _ HC.out
            clear hK K
            try simp only [Act.put, List.setIfInBounds_toArray, List.set_cons_zero, List.set_cons_succ]
            refine wpAnyH_ready (rs := [4]) (by kernel_rfl) (by simp) ?_
            refine hcons rfl (fun K hK => ?_) (AllReadyH.nil)
            go_simp
            refine (HN1.out _ HLV.out.2.2.2.1).mono ?_; rintro e4 U4 ⟨rfl, hb⟩; replace HLV := Lib.hid (HLV.out.next hb); replace HC := Lib.hid (HC.out.trans (hb.mono HC.out.size)); clear hb
            refine hK.out _ _ ?_ (fun hHeld => ?_)
            · (try dsimp only); exact HS.out _ HC.out
            clear hK K
            try simp only [Act.put, List.setIfInBounds_toArray, List.set_cons_zero, List.set_cons_succ]
            refine wpAnyH_ready (rs := [9]) (by kernel_rfl) (by simp) ?_
            refine hcons rfl (fun K hK => ?_) (AllReadyH.nil)
            go_simp
            refine (HN2.out _ HLV.out.2.2.2.1).mono ?_; rintro e9 U9 ⟨rfl, hb⟩; replace HLV := Lib.hid (HLV.out.next hb); replace HC := Lib.hid (HC.out.trans (hb.mono HC.out.size)); clear hb
            refine hK.out _ _ ?_ (fun hHeld => ?_)
            · (try dsimp only); exact HS.out _ HC.out
            clear hK K
            try simp only [Act.put, List.setIfInBounds_toArray, List.set_cons_zero, List.set_cons_succ]
            refine htake (i := 10) (v := ?v21) rfl (by kernel_rfl) (by kernel_rfl) (by kernel_rfl) (fun _ _ _ h => pan_put h) (Or.inl ⟨by rfl, ?hy21⟩) (by assumption) ?_
            case hy21 => (intro w hSw; (try dsimp only at hSw); go_simp; try (with_reducible rfl))
            try simp only [Act.put, List.setIfInBounds_toArray, List.set_cons_zero, List.set_cons_succ]
            refine wpAnyH_ready (rs := [11]) (by kernel_rfl) (by simp) ?_
            refine hcons rfl (fun K hK => ?_) (AllReadyH.nil)
            go_simp
            (first | refine hold_alloc (fun Wa q1 q2 q3 => ?_) | refine hold_alloc_drew (fun Wa q1 q2 q3 => ?_)); have HN := Lib.hid (show Bx _ _ (Wo.cells ⟨a1, last, s2⟩) from q2); replace HLV := Lib.hid (HLV.out.next q1); replace HC := Lib.hid (HC.out.trans (q1.mono HC.out.size)); clear q1 q2 q3
            refine hK.out _ _ ?_ (fun hHeld => ?_)
            · (try dsimp only); exact HS.out _ HC.out
            clear hK K
            try simp only [Act.put, List.setIfInBounds_toArray, List.set_cons_zero, List.set_cons_succ]
            refine wpAnyH_ready (rs := [12]) (by kernel_rfl) (by simp) ?_
            refine hcons rfl (fun K hK => ?_) (AllReadyH.nil)
            refine step_append_any rfl (.tmp 31) (.tmp 42) 44 rfl B 66 i0 _ 4 32 Tryz.underlying44 hi hz0 hz1 hz2 rfl (by decide) (.slice A out.length cp) out.length _ rfl HLV.out.2.2.1 ⟨_, 0, none⟩ 1 1 (Wo.cells ⟨a1, last, s2⟩) rfl rfl HN.out.news (wo_one _) (by unfold maxLen; omega) (by omega) (Nat.le_trans HBS.out HC.out.size) ?_; intro v' w' hown' hgrow; have hqn := own_ne_kd HLV.out.2.2.1 (HKQ.out _ HC.out).1; have HS12 := Lib.hid (And.intro ((grown_cell hgrow (HKQ.out _ HC.out).2 hqn (off + 1)).trans (HS.out _ HC.out).1) ((grown_cell hgrow (HKQ.out _ HC.out).2 hqn (off + 2)).trans (HS.out _ HC.out).2)); have z13 := (HLV.out.1.grown hgrow (own_far HLV.out.2.2.1 hbdB)).c 0 _ rfl; have y13 := (HLV.out.1.grown hgrow (own_far HLV.out.2.2.1 hbdB)).fr 0; replace HLV := Lib.hid (HLV.out.add hbdB hbaB hbd9 hbdw hbda hown' hgrow); obtain ⟨A6, c6, e6, -⟩ := own_form hown'; subst e6; clear hown' hgrow HN hqn
            refine hK.out _ _ ?_ (fun hHeld => ?_)
            · (try dsimp only); exact HS12.out
            clear hK K
            try simp only [Act.put, List.setIfInBounds_toArray, List.set_cons_zero, List.set_cons_succ]
            refine wpAnyH_ready (rs := [13]) (by kernel_rfl) (by simp) ?_
            refine hcons rfl (fun K hK => ?_) (AllReadyH.nil)
            go_simp; clear z13 y13
            refine hK.out _ _ ?_ (fun hHeld => ?_)
            · (try dsimp only); exact ⟨(World.cell?_setCell_other _ _ _ _ (by intro e; injection e with e; exact hqbd e)).trans HS12.out.1, (World.cell?_setCell_other _ _ _ _ (by intro e; injection e with e; exact hqbd e)).trans HS12.out.2⟩
            clear hK K
            try simp only [Act.put]
            refine wpAnyH_done (by kernel_rfl) ?_ _
            dsimp only [PanTo]
            rotate_left
            go_simp
            refine (HN1.out _ HLV.out.2.2.2.1).mono ?_; rintro e4 U4 ⟨rfl, hb⟩; replace HLV := Lib.hid (HLV.out.next hb); replace HC := Lib.hid (HC.out.trans (hb.mono HC.out.size)); clear hb
            refine hK.out _ _ ?_ (fun hHeld => ?_)
            · (try dsimp only); exact HS.out _ HC.out
            clear hK K
            try simp only [Act.put, List.setIfInBounds_toArray, List.set_cons_zero, List.set_cons_succ]
            refine wpAnyH_ready (rs := [0, 5, 9]) (by kernel_rfl) (by simp) ?_
            refine hcons rfl (fun K hK => ?_) (hcons rfl (fun K hK => ?_) (hcons rfl (fun K hK => ?_) (AllReadyH.nil)))
            have z0 := HLV.out.1.c 0 _ rfl; go_simp; clear z0
            refine hK.out _ _ ?_ (fun hHeld => ?_)
            · (try dsimp only); exact HS.out _ HC.out
            clear hK K
            try simp only [Act.put, List.setIfInBounds_toArray, List.set_cons_zero, List.set_cons_succ]
            refine wpAnyH_ready (rs := [5, 9]) (by kernel_rfl) (by simp) ?_
            refine hcons rfl (fun K hK => ?_) (hcons rfl (fun K hK => ?_) (AllReadyH.nil))
            have z5 := HLV.out.2.1.c 0 _ rfl; go_simp; clear z5
            refine hK.out _ _ ?_ (fun hHeld => ?_)
            · (try dsimp only); exact HS.out _ HC.out
            clear hK K
            try simp only [Act.put, List.setIfInBounds_toArray, List.set_cons_zero, List.set_cons_succ]
            refine wpAnyH_ready (rs := [9]) (by kernel_rfl) (by simp) ?_
            refine hcons rfl (fun K hK => ?_) (AllReadyH.nil)
            go_simp
            refine (HN2.out _ HLV.out.2.2.2.1).mono ?_; rintro e9 U9 ⟨rfl, hb⟩; replace HLV := Lib.hid (HLV.out.next hb); replace HC := Lib.hid (HC.out.trans (hb.mono HC.out.size)); clear hb
            refine hK.out _ _ ?_ (fun hHeld => ?_)
            · (try dsimp only); exact HS.out _ HC.out
            clear hK K
            try simp only [Act.put, List.setIfInBounds_toArray, List.set_cons_zero, List.set_cons_succ]
            refine htake (i := 10) (v := ?v22) rfl (by kernel_rfl) (by kernel_rfl) (by kernel_rfl) (fun _ _ _ h => pan_put h) (Or.inl ⟨by rfl, ?hy22⟩) (by assumption) ?_
            case hy22 => (intro w hSw; (try dsimp only at hSw); go_simp; try (with_reducible rfl))
            try simp only [Act.put, List.setIfInBounds_toArray, List.set_cons_zero, List.set_cons_succ]
            refine wpAnyH_ready (rs := [11]) (by kernel_rfl) (by simp) ?_
            refine hcons rfl (fun K hK => ?_) (AllReadyH.nil)
            go_simp
            (first | refine hold_alloc (fun Wa q1 q2 q3 => ?_) | refine hold_alloc_drew (fun Wa q1 q2 q3 => ?_)); have HN := Lib.hid (show Bx _ _ (Wo.cells ⟨a1, last, s2⟩) from q2); replace HLV := Lib.hid (HLV.out.next q1); replace HC := Lib.hid (HC.out.trans (q1.mono HC.out.size)); clear q1 q2 q3
            refine hK.out _ _ ?_ (fun hHeld => ?_)
            · (try dsimp only); exact HS.out _ HC.out
            clear hK K
            try simp only [Act.put, List.setIfInBounds_toArray, List.set_cons_zero, List.set_cons_succ]
            refine wpAnyH_ready (rs := [12]) (by kernel_rfl) (by simp) ?_
            refine hcons rfl (fun K hK => ?_) (AllReadyH.nil)
            refine step_append_any rfl (.tmp 31) (.tmp 42) 44 rfl B 66 i0 _ 4 32 Tryz.underlying44 hi hz0 hz1 hz2 rfl (by decide) (.slice A out.length cp) out.length _ rfl HLV.out.2.2.1 ⟨_, 0, none⟩ 1 1 (Wo.cells ⟨a1, last, s2⟩) rfl rfl HN.out.news (wo_one _) (by unfold maxLen; omega) (by omega) (Nat.le_trans HBS.out HC.out.size) ?_; intro v' w' hown' hgrow; have hqn := own_ne_kd HLV.out.2.2.1 (HKQ.out _ HC.out).1; have HS12 := Lib.hid (And.intro ((grown_cell hgrow (HKQ.out _ HC.out).2 hqn (off + 1)).trans (HS.out _ HC.out).1) ((grown_cell hgrow (HKQ.out _ HC.out).2 hqn (off + 2)).trans (HS.out _ HC.out).2)); have z13 := (HLV.out.1.grown hgrow (own_far HLV.out.2.2.1 hbdB)).c 0 _ rfl; have y13 := (HLV.out.1.grown hgrow (own_far HLV.out.2.2.1 hbdB)).fr 0; replace HLV := Lib.hid (HLV.out.add hbdB hbaB hbd9 hbdw hbda hown' hgrow); obtain ⟨A6, c6, e6, -⟩ := own_form hown'; subst e6; clear hown' hgrow HN hqn
            refine hK.out _ _ ?_ (fun hHeld => ?_)
            · (try dsimp only); exact HS12.out
            clear hK K
            try simp only [Act.put, List.setIfInBounds_toArray, List.set_cons_zero, List.set_cons_succ]
            refine wpAnyH_ready (rs := [13]) (by kernel_rfl) (by simp) ?_
            refine hcons rfl (fun K hK => ?_) (AllReadyH.nil)
            go_simp; clear z13 y13
            refine hK.out _ _ ?_ (fun hHeld => ?_)
            · (try dsimp only); exact ⟨(World.cell?_setCell_other _ _ _ _ (by intro e; injection e with e; exact hqbd e)).trans HS12.out.1, (World.cell?_setCell_other _ _ _ _ (by intro e; injection e with e; exact hqbd e)).trans HS12.out.2⟩
            clear hK K
            try simp only [Act.put]
            refine wpAnyH_done (by kernel_rfl) ?_ _
            dsimp only [PanTo]
            rotate_left
            go_simp
            refine (HN2.out _ HLV.out.2.2.2.1).mono ?_; rintro e9 U9 ⟨rfl, hb⟩; replace HLV := Lib.hid (HLV.out.next hb); replace HC := Lib.hid (HC.out.trans (hb.mono HC.out.size)); clear hb
            refine hK.out _ _ ?_ (fun hHeld => ?_)
            · (try dsimp only); exact HS.out _ HC.out
            clear hK K
            try simp only [Act.put, List.setIfInBounds_toArray, List.set_cons_zero, List.set_cons_succ]
            refine wpAnyH_ready (rs := [5]) (by kernel_rfl) (by simp) ?_
            refine hcons rfl (fun K hK => ?_) (AllReadyH.nil)
            have z5 := HLV.out.2.1.c 0 _ rfl; go_simp; clear z5
            refine hK.out _ _ ?_ (fun hHeld => ?_)
            · (try dsimp only); exact HS.out _ HC.out
            clear hK K
            try simp only [Act.put, List.setIfInBounds_toArray, List.set_cons_zero, List.set_cons_succ]
            refine htake (i := 10) (v := ?v23) rfl (by kernel_rfl) (by kernel_rfl) (by kernel_rfl) (fun _ _ _ h => pan_put h) (Or.inl ⟨by rfl, ?hy23⟩) (by assumption) ?_
            case hy23 => (intro w hSw; (try dsimp only at hSw); go_simp; try (with_reducible rfl))
            try simp only [Act.put, List.setIfInBounds_toArray, List.set_cons_zero, List.set_cons_succ]
            refine wpAnyH_ready (rs := [11]) (by kernel_rfl) (by simp) ?_
            refine hcons rfl (fun K hK => ?_) (AllReadyH.nil)
            go_simp
            (first | refine hold_alloc (fun Wa q1 q2 q3 => ?_) | refine hold_alloc_drew (fun Wa q1 q2 q3 => ?_)); have HN := Lib.hid (show Bx _ _ (Wo.cells ⟨a1, last, s2⟩) from q2); replace HLV := Lib.hid (HLV.out.next q1); replace HC := Lib.hid (HC.out.trans (q1.mono HC.out.size)); clear q1 q2 q3
            refine hK.out _ _ ?_ (fun hHeld => ?_)
            · (try dsimp only); exact HS.out _ HC.out
            clear hK K
            try simp only [Act.put, List.setIfInBounds_toArray, List.set_cons_zero, List.set_cons_succ]
            refine wpAnyH_ready (rs := [12]) (by kernel_rfl) (by simp) ?_
            refine hcons rfl (fun K hK => ?_) (AllReadyH.nil)
            refine step_append_any rfl (.tmp 31) (.tmp 42) 44 rfl B 66 i0 _ 4 32 Tryz.underlying44 hi hz0 hz1 hz2 rfl (by decide) (.slice A out.length cp) out.length _ rfl HLV.out.2.2.1 ⟨_, 0, none⟩ 1 1 (Wo.cells ⟨a1, last, s2⟩) rfl rfl HN.out.news (wo_one _) (by unfold maxLen; omega) (by omega) (Nat.le_trans HBS.out HC.out.size) ?_; intro v' w' hown' hgrow; have hqn := own_ne_kd HLV.out.2.2.1 (HKQ.out _ HC.out).1; have HS12 := Lib.hid (And.intro ((grown_cell hgrow (HKQ.out _ HC.out).2 hqn (off + 1)).trans (HS.out _ HC.out).1) ((grown_cell hgrow (HKQ.out _ HC.out).2 hqn (off + 2)).trans (HS.out _ HC.out).2)); have z13 := (HLV.out.1.grown hgrow (own_far HLV.out.2.2.1 hbdB)).c 0 _ rfl; have y13 := (HLV.out.1.grown hgrow (own_far HLV.out.2.2.1 hbdB)).fr 0; replace HLV := Lib.hid (HLV.out.add hbdB hbaB hbd9 hbdw hbda hown' hgrow); obtain ⟨A6, c6, e6, -⟩ := own_form hown'; subst e6; clear hown' hgrow HN hqn
            refine hK.out _ _ ?_ (fun hHeld => ?_)
            · (try dsimp only); exact HS12.out
            clear hK K
            try simp only [Act.put, List.setIfInBounds_toArray, List.set_cons_zero, List.set_cons_succ]
            refine wpAnyH_ready (rs := [13]) (by kernel_rfl) (by simp) ?_
            refine hcons rfl (fun K hK => ?_) (AllReadyH.nil)
            go_simp; clear z13 y13
            refine hK.out _ _ ?_ (fun hHeld => ?_)
            · (try dsimp only); exact ⟨(World.cell?_setCell_other _ _ _ _ (by intro e; injection e with e; exact hqbd e)).trans HS12.out.1, (World.cell?_setCell_other _ _ _ _ (by intro e; injection e with e; exact hqbd e)).trans HS12.out.2⟩
            clear hK K
            try simp only [Act.put]
            refine wpAnyH_done (by kernel_rfl) ?_ _
            dsimp only [PanTo]
            rotate_left
            have z5 := HLV.out.2.1.c 0 _ rfl; go_simp; clear z5
            refine hK.out _ _ ?_ (fun hHeld => ?_)
            · (try dsimp only); exact HS.out _ HC.out
            clear hK K
            try simp only [Act.put, List.setIfInBounds_toArray, List.set_cons_zero, List.set_cons_succ]
            refine wpAnyH_ready (rs := [0, 9]) (by kernel_rfl) (by simp) ?_
            refine hcons rfl (fun K hK => ?_) (hcons rfl (fun K hK => ?_) (AllReadyH.nil))
            have z0 := HLV.out.1.c 0 _ rfl; go_simp; clear z0
            refine hK.out _ _ ?_ (fun hHeld => ?_)
            · (try dsimp only); exact HS.out _ HC.out
            clear hK K
            try simp only [Act.put, List.setIfInBounds_toArray, List.set_cons_zero, List.set_cons_succ]
            refine wpAnyH_ready (rs := [9]) (by kernel_rfl) (by simp) ?_
            refine hcons rfl (fun K hK => ?_) (AllReadyH.nil)
            go_simp
            refine (HN2.out _ HLV.out.2.2.2.1).mono ?_; rintro e9 U9 ⟨rfl, hb⟩; replace HLV := Lib.hid (HLV.out.next hb); replace HC := Lib.hid (HC.out.trans (hb.mono HC.out.size)); clear hb
            refine hK.out _ _ ?_ (fun hHeld => ?_)
            · (try dsimp only); exact HS.out _ HC.out
            clear hK K
            try simp only [Act.put, List.setIfInBounds_toArray, List.set_cons_zero, List.set_cons_succ]
            refine htake (i := 10) (v := ?v24) rfl (by kernel_rfl) (by kernel_rfl) (by kernel_rfl) (fun _ _ _ h => pan_put h) (Or.inl ⟨by rfl, ?hy24⟩) (by assumption) ?_
            case hy24 => (intro w hSw; (try dsimp only at hSw); go_simp; try (with_reducible rfl))
            try simp only [Act.put, List.setIfInBounds_toArray, List.set_cons_zero, List.set_cons_succ]
            refine wpAnyH_ready (rs := [11]) (by kernel_rfl) (by simp) ?_
            refine hcons rfl (fun K hK => ?_) (AllReadyH.nil)
            go_simp
            (first | refine hold_alloc (fun Wa q1 q2 q3 => ?_) | refine hold_alloc_drew (fun Wa q1 q2 q3 => ?_)); have HN := Lib.hid (show Bx _ _ (Wo.cells ⟨a1, last, s2⟩) from q2); replace HLV := Lib.hid (HLV.out.next q1); replace HC := Lib.hid (HC.out.trans (q1.mono HC.out.size)); clear q1 q2 q3
            refine hK.out _ _ ?_ (fun hHeld => ?_)
            · (try dsimp only); exact HS.out _ HC.out
            clear hK K
            try simp only [Act.put, List.setIfInBounds_toArray, List.set_cons_zero, List.set_cons_succ]
            refine wpAnyH_ready (rs := [12]) (by kernel_rfl) (by simp) ?_
            refine hcons rfl (fun K hK => ?_) (AllReadyH.nil)
            refine step_append_any rfl (.tmp 31) (.tmp 42) 44 rfl B 66 i0 _ 4 32 Tryz.underlying44 hi hz0 hz1 hz2 rfl (by decide) (.slice A out.length cp) out.length _ rfl HLV.out.2.2.1 ⟨_, 0, none⟩ 1 1 (Wo.cells ⟨a1, last, s2⟩) rfl rfl HN.out.news (wo_one _) (by unfold maxLen; omega) (by omega) (Nat.le_trans HBS.out HC.out.size) ?_; intro v' w' hown' hgrow; have hqn := own_ne_kd HLV.out.2.2.1 (HKQ.out _ HC.out).1; have HS12 := Lib.hid (And.intro ((grown_cell hgrow (HKQ.out _ HC.out).2 hqn (off + 1)).trans (HS.out _ HC.out).1) ((grown_cell hgrow (HKQ.out _ HC.out).2 hqn (off + 2)).trans (HS.out _ HC.out).2)); have z13 := (HLV.out.1.grown hgrow (own_far HLV.out.2.2.1 hbdB)).c 0 _ rfl; have y13 := (HLV.out.1.grown hgrow (own_far HLV.out.2.2.1 hbdB)).fr 0; replace HLV := Lib.hid (HLV.out.add hbdB hbaB hbd9 hbdw hbda hown' hgrow); obtain ⟨A6, c6, e6, -⟩ := own_form hown'; subst e6; clear hown' hgrow HN hqn
            refine hK.out _ _ ?_ (fun hHeld => ?_)
            · (try dsimp only); exact HS12.out
            clear hK K
            try simp only [Act.put, List.setIfInBounds_toArray, List.set_cons_zero, List.set_cons_succ]
            refine wpAnyH_ready (rs := [13]) (by kernel_rfl) (by simp) ?_
            refine hcons rfl (fun K hK => ?_) (AllReadyH.nil)
            go_simp; clear z13 y13
            refine hK.out _ _ ?_ (fun hHeld => ?_)
            · (try dsimp only); exact ⟨(World.cell?_setCell_other _ _ _ _ (by intro e; injection e with e; exact hqbd e)).trans HS12.out.1, (World.cell?_setCell_other _ _ _ _ (by intro e; injection e with e; exact hqbd e)).trans HS12.out.2⟩
            clear hK K
            try simp only [Act.put]
            refine wpAnyH_done (by kernel_rfl) ?_ _
            dsimp only [PanTo]
            rotate_left
            go_simp
            refine (HN2.out _ HLV.out.2.2.2.1).mono ?_; rintro e9 U9 ⟨rfl, hb⟩; replace HLV := Lib.hid (HLV.out.next hb); replace HC := Lib.hid (HC.out.trans (hb.mono HC.out.size)); clear hb
            refine hK.out _ _ ?_ (fun hHeld => ?_)
            · (try dsimp only); exact HS.out _ HC.out
            clear hK K
            try simp only [Act.put, List.setIfInBounds_toArray, List.set_cons_zero, List.set_cons_succ]
            refine htake (i := 10) (v := ?v25) rfl (by kernel_rfl) (by kernel_rfl) (by kernel_rfl) (fun _ _ _ h => pan_put h) (Or.inl ⟨by rfl, ?hy25⟩) (by assumption) ?_
            case hy25 => (intro w hSw; (try dsimp only at hSw); go_simp; try (with_reducible rfl))
            try simp only [Act.put, List.setIfInBounds_toArray, List.set_cons_zero, List.set_cons_succ]
            refine wpAnyH_ready (rs := [0, 11]) (by kernel_rfl) (by simp) ?_
            refine hcons rfl (fun K hK => ?_) (hcons rfl (fun K hK => ?_) (AllReadyH.nil))
            have z0 := HLV.out.1.c 0 _ rfl; go_simp; clear z0
            refine hK.out _ _ ?_ (fun hHeld => ?_)
            · (try dsimp only); exact HS.out _ HC.out
            clear hK K
            try simp only [Act.put, List.setIfInBounds_toArray, List.set_cons_zero, List.set_cons_succ]
            refine wpAnyH_ready (rs := [11]) (by kernel_rfl) (by simp) ?_
            refine hcons rfl (fun K hK => ?_) (AllReadyH.nil)
            go_simp
            (first | refine hold_alloc (fun Wa q1 q2 q3 => ?_) | refine hold_alloc_drew (fun Wa q1 q2 q3 => ?_)); have HN := Lib.hid (show Bx _ _ (Wo.cells ⟨a1, last, s2⟩) from q2); replace HLV := Lib.hid (HLV.out.next q1); replace HC := Lib.hid (HC.out.trans (q1.mono HC.out.size)); clear q1 q2 q3
            refine hK.out _ _ ?_ (fun hHeld => ?_)
            · (try dsimp only); exact HS.out _ HC.out
            clear hK K
            try simp only [Act.put, List.setIfInBounds_toArray, List.set_cons_zero, List.set_cons_succ]
            refine wpAnyH_ready (rs := [12]) (by kernel_rfl) (by simp) ?_
            refine hcons rfl (fun K hK => ?_) (AllReadyH.nil)
            refine step_append_any rfl (.tmp 31) (.tmp 42) 44 rfl B 66 i0 _ 4 32 Tryz.underlying44 hi hz0 hz1 hz2 rfl (by decide) (.slice A out.length cp) out.length _ rfl HLV.out.2.2.1 ⟨_, 0, none⟩ 1 1 (Wo.cells ⟨a1, last, s2⟩) rfl rfl HN.out.news (wo_one _) (by unfold maxLen; omega) (by omega) (Nat.le_trans HBS.out HC.out.size) ?_; intro v' w' hown' hgrow; have hqn := own_ne_kd HLV.out.2.2.1 (HKQ.out _ HC.out).1; have HS12 := Lib.hid (And.intro ((grown_cell hgrow (HKQ.out _ HC.out).2 hqn (off + 1)).trans (HS.out _ HC.out).1) ((grown_cell hgrow (HKQ.out _ HC.out).2 hqn (off + 2)).trans (HS.out _ HC.out).2)); have z13 := (HLV.out.1.grown hgrow (own_far HLV.out.2.2.1 hbdB)).c 0 _ rfl; have y13 := (HLV.out.1.grown hgrow (own_far HLV.out.2.2.1 hbdB)).fr 0; replace HLV := Lib.hid (HLV.out.add hbdB hbaB hbd9 hbdw hbda hown' hgrow); obtain ⟨A6, c6, e6, -⟩ := own_form hown'; subst e6; clear hown' hgrow HN hqn
            refine hK.out _ _ ?_ (fun hHeld => ?_)
            · (try dsimp only); exact HS12.out
            clear hK K
            try simp only [Act.put, List.setIfInBounds_toArray, List.set_cons_zero, List.set_cons_succ]
            refine wpAnyH_ready (rs := [13]) (by kernel_rfl) (by simp) ?_
            refine hcons rfl (fun K hK => ?_) (AllReadyH.nil)
            go_simp; clear z13 y13
            refine hK.out _ _ ?_ (fun hHeld => ?_)
            · (try dsimp only); exact ⟨(World.cell?_setCell_other _ _ _ _ (by intro e; injection e with e; exact hqbd e)).trans HS12.out.1, (World.cell?_setCell_other _ _ _ _ (by intro e; injection e with e; exact hqbd e)).trans HS12.out.2⟩
            clear hK K
            try simp only [Act.put]
            refine wpAnyH_done (by kernel_rfl) ?_ _
            dsimp only [PanTo]
            rotate_left
            go_simp
            (first | refine hold_alloc (fun Wa q1 q2 q3 => ?_) | refine hold_alloc_drew (fun Wa q1 q2 q3 => ?_)); have HN := Lib.hid (show Bx _ _ (Wo.cells ⟨a1, last, s2⟩) from q2); replace HLV := Lib.hid (HLV.out.next q1); replace HC := Lib.hid (HC.out.trans (q1.mono HC.out.size)); clear q1 q2 q3
            refine hK.out _ _ ?_ (fun hHeld => ?_)
            · (try dsimp only); exact HS.out _ HC.out
            clear hK K
            try simp only [Act.put, List.setIfInBounds_toArray, List.set_cons_zero, List.set_cons_succ]
            refine wpAnyH_ready (rs := [0]) (by kernel_rfl) (by simp) ?_
            refine hcons rfl (fun K hK => ?_) (AllReadyH.nil)
            have z0 := HLV.out.1.c 0 _ rfl; go_simp; clear z0
            refine hK.out _ _ ?_ (fun hHeld => ?_)
            · (try dsimp only); exact HS.out _ HC.out
            clear hK K
            try simp only [Act.put, List.setIfInBounds_toArray, List.set_cons_zero, List.set_cons_succ]
            refine wpAnyH_ready (rs := [12]) (by kernel_rfl) (by simp) ?_
            refine hcons rfl (fun K hK => ?_) (AllReadyH.nil)
            refine step_append_any rfl (.tmp 31) (.tmp 42) 44 rfl B 66 i0 _ 4 32 Tryz.underlying44 hi hz0 hz1 hz2 rfl (by decide) (.slice A out.length cp) out.length _ rfl HLV.out.2.2.1 ⟨_, 0, none⟩ 1 1 (Wo.cells ⟨a1, last, s2⟩) rfl rfl HN.out.news (wo_one _) (by unfold maxLen; omega) (by omega) (Nat.le_trans HBS.out HC.out.size) ?_; intro v' w' hown' hgrow; have hqn := own_ne_kd HLV.out.2.2.1 (HKQ.out _ HC.out).1; have HS12 := Lib.hid (And.intro ((grown_cell hgrow (HKQ.out _ HC.out).2 hqn (off + 1)).trans (HS.out _ HC.out).1) ((grown_cell hgrow (HKQ.out _ HC.out).2 hqn (off + 2)).trans (HS.out _ HC.out).2)); have z13 := (HLV.out.1.grown hgrow (own_far HLV.out.2.2.1 hbdB)).c 0 _ rfl; have y13 := (HLV.out.1.grown hgrow (own_far HLV.out.2.2.1 hbdB)).fr 0; replace HLV := Lib.hid (HLV.out.add hbdB hbaB hbd9 hbdw hbda hown' hgrow); obtain ⟨A6, c6, e6, -⟩ := own_form hown'; subst e6; clear hown' hgrow HN hqn
            refine hK.out _ _ ?_ (fun hHeld => ?_)
            · (try dsimp only); exact HS12.out
            clear hK K
            try simp only [Act.put, List.setIfInBounds_toArray, List.set_cons_zero, List.set_cons_succ]
            refine wpAnyH_ready (rs := [13]) (by kernel_rfl) (by simp) ?_
            refine hcons rfl (fun K hK => ?_) (AllReadyH.nil)
            go_simp; clear z13 y13
            refine hK.out _ _ ?_ (fun hHeld => ?_)
            · (try dsimp only); exact ⟨(World.cell?_setCell_other _ _ _ _ (by intro e; injection e with e; exact hqbd e)).trans HS12.out.1, (World.cell?_setCell_other _ _ _ _ (by intro e; injection e with e; exact hqbd e)).trans HS12.out.2⟩
            clear hK K
            try simp only [Act.put]
            refine wpAnyH_done (by kernel_rfl) ?_ _
            dsimp only [PanTo]
            rotate_left
            go_simp
            refine (HN2.out _ HLV.out.2.2.2.1).mono ?_; rintro e9 U9 ⟨rfl, hb⟩; replace HLV := Lib.hid (HLV.out.next hb); replace HC := Lib.hid (HC.out.trans (hb.mono HC.out.size)); clear hb
            refine hK.out _ _ ?_ (fun hHeld => ?_)
            · (try dsimp only); exact HS.out _ HC.out
            clear hK K
            try simp only [Act.put, List.setIfInBounds_toArray, List.set_cons_zero, List.set_cons_succ]
            refine wpAnyH_ready (rs := [0, 5]) (by kernel_rfl) (by simp) ?_
            refine hcons rfl (fun K hK => ?_) (hcons rfl (fun K hK => ?_) (AllReadyH.nil))
            have z0 := HLV.out.1.c 0 _ rfl; go_simp; clear z0
            refine hK.out _ _ ?_ (fun hHeld => ?_)
            · (try dsimp only); exact HS.out _ HC.out
            clear hK K
            try simp only [Act.put, List.setIfInBounds_toArray, List.set_cons_zero, List.set_cons_succ]
            refine wpAnyH_ready (rs := [5]) (by kernel_rfl) (by simp) ?_
            refine hcons rfl (fun K hK => ?_) (AllReadyH.nil)
            have z5 := HLV.out.2.1.c 0 _ rfl; go_simp; clear z5
            refine hK.out _ _ ?_ (fun hHeld => ?_)
            · (try dsimp only); exact HS.out _ HC.out
            clear hK K
            try simp only [Act.put, List.setIfInBounds_toArray, List.set_cons_zero, List.set_cons_succ]
            refine htake (i := 10) (v := ?v26) rfl (by kernel_rfl) (by kernel_rfl) (by kernel_rfl) (fun _ _ _ h => pan_put h) (Or.inl ⟨by rfl, ?hy26⟩) (by assumption) ?_
            case hy26 => (intro w hSw; (try dsimp only at hSw); go_simp; try (with_reducible rfl))
            try simp only [Act.put, List.setIfInBounds_toArray, List.set_cons_zero, List.set_cons_succ]
            refine wpAnyH_ready (rs := [11]) (by kernel_rfl) (by simp) ?_
            refine hcons rfl (fun K hK => ?_) (AllReadyH.nil)
            go_simp
            (first | refine hold_alloc (fun Wa q1 q2 q3 => ?_) | refine hold_alloc_drew (fun Wa q1 q2 q3 => ?_)); have HN := Lib.hid (show Bx _ _ (Wo.cells ⟨a1, last, s2⟩) from q2); replace HLV := Lib.hid (HLV.out.next q1); replace HC := Lib.hid (HC.out.trans (q1.mono HC.out.size)); clear q1 q2 q3
            refine hK.out _ _ ?_ (fun hHeld => ?_)
            · (try dsimp only); exact HS.out _ HC.out
            clear hK K
            try simp only [Act.put, List.setIfInBounds_toArray, List.set_cons_zero, List.set_cons_succ]
            refine wpAnyH_ready (rs := [12]) (by kernel_rfl) (by simp) ?_
            refine hcons rfl (fun K hK => ?_) (AllReadyH.nil)
            refine step_append_any rfl (.tmp 31) (.tmp 42) 44 rfl B 66 i0 _ 4 32 Tryz.underlying44 hi hz0 hz1 hz2 rfl (by decide) (.slice A out.length cp) out.length _ rfl HLV.out.2.2.1 ⟨_, 0, none⟩ 1 1 (Wo.cells ⟨a1, last, s2⟩) rfl rfl HN.out.news (wo_one _) (by unfold maxLen; omega) (by omega) (Nat.le_trans HBS.out HC.out.size) ?_; intro v' w' hown' hgrow; have hqn := own_ne_kd HLV.out.2.2.1 (HKQ.out _ HC.out).1; have HS12 := Lib.hid (And.intro ((grown_cell hgrow (HKQ.out _ HC.out).2 hqn (off + 1)).trans (HS.out _ HC.out).1) ((grown_cell hgrow (HKQ.out _ HC.out).2 hqn (off + 2)).trans (HS.out _ HC.out).2)); have z13 := (HLV.out.1.grown hgrow (own_far HLV.out.2.2.1 hbdB)).c 0 _ rfl; have y13 := (HLV.out.1.grown hgrow (own_far HLV.out.2.2.1 hbdB)).fr 0; replace HLV := Lib.hid (HLV.out.add hbdB hbaB hbd9 hbdw hbda hown' hgrow); obtain ⟨A6, c6, e6, -⟩ := own_form hown'; subst e6; clear hown' hgrow HN hqn
            refine hK.out _ _ ?_ (fun hHeld => ?_)
            · (try dsimp only); exact HS12.out
            clear hK K
            try simp only [Act.put, List.setIfInBounds_toArray, List.set_cons_zero, List.set_cons_succ]
            refine wpAnyH_ready (rs := [13]) (by kernel_rfl) (by simp) ?_
            refine hcons rfl (fun K hK => ?_) (AllReadyH.nil)
            go_simp; clear z13 y13
            refine hK.out _ _ ?_ (fun hHeld => ?_)
            · (try dsimp only); exact ⟨(World.cell?_setCell_other _ _ _ _ (by intro e; injection e with e; exact hqbd e)).trans HS12.out.1, (World.cell?_setCell_other _ _ _ _ (by intro e; injection e with e; exact hqbd e)).trans HS12.out.2⟩
            clear hK K
            try simp only [Act.put]
            refine wpAnyH_done (by kernel_rfl) ?_ _
            dsimp only [PanTo]
            rotate_left
            have z5 := HLV.out.2.1.c 0 _ rfl; go_simp; clear z5
            refine hK.out _ _ ?_ (fun hHeld => ?_)
            · (try dsimp only); exact HS.out _ HC.out
            clear hK K
            try simp only [Act.put, List.setIfInBounds_toArray, List.set_cons_zero, List.set_cons_succ]
            refine htake (i := 10) (v := ?v27) rfl (by kernel_rfl) (by kernel_rfl) (by kernel_rfl) (fun _ _ _ h => pan_put h) (Or.inl ⟨by rfl, ?hy27⟩) (by assumption) ?_
            case hy27 => (intro w hSw; (try dsimp only at hSw); go_simp; try (with_reducible rfl))
            try simp only [Act.put, List.setIfInBounds_toArray, List.set_cons_zero, List.set_cons_succ]
            refine wpAnyH_ready (rs := [0, 11]) (by kernel_rfl) (by simp) ?_
            refine hcons rfl (fun K hK => ?_) (hcons rfl (fun K hK => ?_) (AllReadyH.nil))
            have z0 := HLV.out.1.c 0 _ rfl; go_simp; clear z0
            refine hK.out _ _ ?_ (fun hHeld => ?_)
            · (try dsimp only); exact HS.out _ HC.out
            clear hK K
            try simp only [Act.put, List.setIfInBounds_toArray, List.set_cons_zero, List.set_cons_succ]
            refine wpAnyH_ready (rs := [11]) (by kernel_rfl) (by simp) ?_
            refine hcons rfl (fun K hK => ?_) (AllReadyH.nil)
            go_simp
            (first | refine hold_alloc (fun Wa q1 q2 q3 => ?_) | refine hold_alloc_drew (fun Wa q1 q2 q3 => ?_)); have HN := Lib.hid (show Bx _ _ (Wo.cells ⟨a1, last, s2⟩) from q2); replace HLV := Lib.hid (HLV.out.next q1); replace HC := Lib.hid (HC.out.trans (q1.mono HC.out.size)); clear q1 q2 q3
            refine hK.out _ _ ?_ (fun hHeld => ?_)
            · (try dsimp only); exact HS.out _ HC.out
            clear hK K
            try simp only [Act.put, List.setIfInBounds_toArray, List.set_cons_zero, List.set_cons_succ]
            refine wpAnyH_ready (rs := [12]) (by kernel_rfl) (by simp) ?_
            refine hcons rfl (fun K hK => ?_) (AllReadyH.nil)
            refine step_append_any rfl (.tmp 31) (.tmp 42) 44 rfl B 66 i0 _ 4 32 Tryz.underlying44 hi hz0 hz1 hz2 rfl (by decide) (.slice A out.length cp) out.length _ rfl HLV.out.2.2.1 ⟨_, 0, none⟩ 1 1 (Wo.cells ⟨a1, last, s2⟩) rfl rfl HN.out.news (wo_one _) (by unfold maxLen; omega) (by omega) (Nat.le_trans HBS.out HC.out.size) ?_; intro v' w' hown' hgrow; have hqn := own_ne_kd HLV.out.2.2.1 (HKQ.out _ HC.out).1; have HS12 := Lib.hid (And.intro ((grown_cell hgrow (HKQ.out _ HC.out).2 hqn (off + 1)).trans (HS.out _ HC.out).1) ((grown_cell hgrow (HKQ.out _ HC.out).2 hqn (off + 2)).trans (HS.out _ HC.out).2)); have z13 := (HLV.out.1.grown hgrow (own_far HLV.out.2.2.1 hbdB)).c 0 _ rfl; have y13 := (HLV.out.1.grown hgrow (own_far HLV.out.2.2.1 hbdB)).fr 0; replace HLV := Lib.hid (HLV.out.add hbdB hbaB hbd9 hbdw hbda hown' hgrow); obtain ⟨A6, c6, e6, -⟩ := own_form hown'; subst e6; clear hown' hgrow HN hqn
            refine hK.out _ _ ?_ (fun hHeld => ?_)
            · (try dsimp only); exact HS12.out
            clear hK K
            try simp only [Act.put, List.setIfInBounds_toArray, List.set_cons_zero, List.set_cons_succ]
            refine wpAnyH_ready (rs := [13]) (by kernel_rfl) (by simp) ?_
            refine hcons rfl (fun K hK => ?_) (AllReadyH.nil)
            go_simp; clear z13 y13
            refine hK.out _ _ ?_ (fun hHeld => ?_)
            · (try dsimp only); exact ⟨(World.cell?_setCell_other _ _ _ _ (by intro e; injection e with e; exact hqbd e)).trans HS12.out.1, (World.cell?_setCell_other _ _ _ _ (by intro e; injection e with e; exact hqbd e)).trans HS12.out.2⟩
            clear hK K
            try simp only [Act.put]
            refine wpAnyH_done (by kernel_rfl) ?_ _
            dsimp only [PanTo]
            rotate_left
            go_simp
            (first | refine hold_alloc (fun Wa q1 q2 q3 => ?_) | refine hold_alloc_drew (fun Wa q1 q2 q3 => ?_)); have HN := Lib.hid (show Bx _ _ (Wo.cells ⟨a1, last, s2⟩) from q2); replace HLV := Lib.hid (HLV.out.next q1); replace HC := Lib.hid (HC.out.trans (q1.mono HC.out.size)); clear q1 q2 q3
            refine hK.out _ _ ?_ (fun hHeld => ?_)
            · (try dsimp only); exact HS.out _ HC.out
            clear hK K
            try simp only [Act.put, List.setIfInBounds_toArray, List.set_cons_zero, List.set_cons_succ]
            refine wpAnyH_ready (rs := [0]) (by kernel_rfl) (by simp) ?_
            refine hcons rfl (fun K hK => ?_) (AllReadyH.nil)
            have z0 := HLV.out.1.c 0 _ rfl; go_simp; clear z0
            refine hK.out _ _ ?_ (fun hHeld => ?_)
            · (try dsimp only); exact HS.out _ HC.out
            clear hK K
            try simp only [Act.put, List.setIfInBounds_toArray, List.set_cons_zero, List.set_cons_succ]
            refine wpAnyH_ready (rs := [12]) (by kernel_rfl) (by simp) ?_
            refine hcons rfl (fun K hK => ?_) (AllReadyH.nil)
            refine step_append_any rfl (.tmp 31) (.tmp 42) 44 rfl B 66 i0 _ 4 32 Tryz.underlying44 hi hz0 hz1 hz2 rfl (by decide) (.slice A out.length cp) out.length _ rfl HLV.out.2.2.1 ⟨_, 0, none⟩ 1 1 (Wo.cells ⟨a1, last, s2⟩) rfl rfl HN.out.news (wo_one _) (by unfold maxLen; omega) (by omega) (Nat.le_trans HBS.out HC.out.size) ?_; intro v' w' hown' hgrow; have hqn := own_ne_kd HLV.out.2.2.1 (HKQ.out _ HC.out).1; have HS12 := Lib.hid (And.intro ((grown_cell hgrow (HKQ.out _ HC.out).2 hqn (off + 1)).trans (HS.out _ HC.out).1) ((grown_cell hgrow (HKQ.out _ HC.out).2 hqn (off + 2)).trans (HS.out _ HC.out).2)); have z13 := (HLV.out.1.grown hgrow (own_far HLV.out.2.2.1 hbdB)).c 0 _ rfl; have y13 := (HLV.out.1.grown hgrow (own_far HLV.out.2.2.1 hbdB)).fr 0; replace HLV := Lib.hid (HLV.out.add hbdB hbaB hbd9 hbdw hbda hown' hgrow); obtain ⟨A6, c6, e6, -⟩ := own_form hown'; subst e6; clear hown' hgrow HN hqn
            refine hK.out _ _ ?_ (fun hHeld => ?_)
            · (try dsimp only); exact HS12.out
            clear hK K
            try simp only [Act.put, List.setIfInBounds_toArray, List.set_cons_zero, List.set_cons_succ]
            refine wpAnyH_ready (rs := [13]) (by kernel_rfl) (by simp) ?_
            refine hcons rfl (fun K hK => ?_) (AllReadyH.nil)
            go_simp; clear z13 y13
            refine hK.out _ _ ?_ (fun hHeld => ?_)
            · (try dsimp only); exact ⟨(World.cell?_setCell_other _ _ _ _ (by intro e; injection e with e; exact hqbd e)).trans HS12.out.1, (World.cell?_setCell_other _ _ _ _ (by intro e; injection e with e; exact hqbd e)).trans HS12.out.2⟩
            clear hK K
            try simp only [Act.put]
            refine wpAnyH_done (by kernel_rfl) ?_ _
            dsimp only [PanTo]
            rotate_left
            have z5 := HLV.out.2.1.c 0 _ rfl; go_simp; clear z5
            refine hK.out _ _ ?_ (fun hHeld => ?_)
            · (try dsimp only); exact HS.out _ HC.out
            clear hK K
            try simp only [Act.put, List.setIfInBounds_toArray, List.set_cons_zero, List.set_cons_succ]
            refine wpAnyH_ready (rs := [0, 4]) (by kernel_rfl) (by simp) ?_
            refine hcons rfl (fun K hK => ?_) (hcons rfl (fun K hK => ?_) (AllReadyH.nil))
            have z0 := HLV.out.1.c 0 _ rfl; go_simp; clear z0
            refine hK.out _ _ ?_ (fun hHeld => ?_)
            · (try dsimp only); exact HS.out _ HC.out
            clear hK K
            try simp only [Act.put, List.setIfInBounds_toArray, List.set_cons_zero, List.set_cons_succ]
            refine wpAnyH_ready (rs := [4]) (by kernel_rfl) (by simp) ?_
            refine hcons rfl (fun K hK => ?_) (AllReadyH.nil)
            go_simp
            refine (HN1.out _ HLV.out.2.2.2.1).mono ?_; rintro e4 U4 ⟨rfl, hb⟩; replace HLV := Lib.hid (HLV.out.next hb); replace HC := Lib.hid (HC.out.trans (hb.mono HC.out.size)); clear hb
            refine hK.out _ _ ?_ (fun hHeld => ?_)
            · (try dsimp only); exact HS.out _ HC.out
            clear hK K
            try simp only [Act.put, List.setIfInBounds_toArray, List.set_cons_zero, List.set_cons_succ]
            refine wpAnyH_ready (rs := [9]) (by kernel_rfl) (by simp) ?_
            refine hcons rfl (fun K hK => ?_) (AllReadyH.nil)
            go_simp
            refine (HN2.out _ HLV.out.2.2.2.1).mono ?_; rintro e9 U9 ⟨rfl, hb⟩; replace HLV := Lib.hid (HLV.out.next hb); replace HC := Lib.hid (HC.out.trans (hb.mono HC.out.size)); clear hb
            refine hK.out _ _ ?_ (fun hHeld => ?_)
            · (try dsimp only); exact HS.out _ HC.out
            clear hK K
            try simp only [Act.put, List.setIfInBounds_toArray, List.set_cons_zero, List.set_cons_succ]
            refine htake (i := 10) (v := ?v28) rfl (by kernel_rfl) (by kernel_rfl) (by kernel_rfl) (fun _ _ _ h => pan_put h) (Or.inl ⟨by rfl, ?hy28⟩) (by assumption) ?_
            case hy28 => (intro w hSw; (try dsimp only at hSw); go_simp; try (with_reducible rfl))
            try simp only [Act.put, List.setIfInBounds_toArray, List.set_cons_zero, List.set_cons_succ]
            refine wpAnyH_ready (rs := [11]) (by kernel_rfl) (by simp) ?_
            refine hcons rfl (fun K hK => ?_) (AllReadyH.nil)
            go_simp
            (first | refine hold_alloc (fun Wa q1 q2 q3 => ?_) | refine hold_alloc_drew (fun Wa q1 q2 q3 => ?_)); have HN := Lib.hid (show Bx _ _ (Wo.cells ⟨a1, last, s2⟩) from q2); replace HLV := Lib.hid (HLV.out.next q1); replace HC := Lib.hid (HC.out.trans (q1.mono HC.out.size)); clear q1 q2 q3
            refine hK.out _ _ ?_ (fun hHeld => ?_)
            · (try dsimp only); exact HS.out _ HC.out
            clear hK K
            try simp only [Act.put, List.setIfInBounds_toArray, List.set_cons_zero, List.set_cons_succ]
            refine wpAnyH_ready (rs := [12]) (by kernel_rfl) (by simp) ?_
            refine hcons rfl (fun K hK => ?_) (AllReadyH.nil)
            refine step_append_any rfl (.tmp 31) (.tmp 42) 44 rfl B 66 i0 _ 4 32 Tryz.underlying44 hi hz0 hz1 hz2 rfl (by decide) (.slice A out.length cp) out.length _ rfl HLV.out.2.2.1 ⟨_, 0, none⟩ 1 1 (Wo.cells ⟨a1, last, s2⟩) rfl rfl HN.out.news (wo_one _) (by unfold maxLen; omega) (by omega) (Nat.le_trans HBS.out HC.out.size) ?_; intro v' w' hown' hgrow; have hqn := own_ne_kd HLV.out.2.2.1 (HKQ.out _ HC.out).1; have HS12 := Lib.hid (And.intro ((grown_cell hgrow (HKQ.out _ HC.out).2 hqn (off + 1)).trans (HS.out _ HC.out).1) ((grown_cell hgrow (HKQ.out _ HC.out).2 hqn (off + 2)).trans (HS.out _ HC.out).2)); have z13 := (HLV.out.1.grown hgrow (own_far HLV.out.2.2.1 hbdB)).c 0 _ rfl; have y13 := (HLV.out.1.grown hgrow (own_far HLV.out.2.2.1 hbdB)).fr 0; replace HLV := Lib.hid (HLV.out.add hbdB hbaB hbd9 hbdw hbda hown' hgrow); obtain ⟨A6, c6, e6, -⟩ := own_form hown'; subst e6; clear hown' hgrow HN hqn
            refine hK.out _ _ ?_ (fun hHeld => ?_)
            · (try dsimp only); exact HS12.out
            clear hK K
            try simp only [Act.put, List.setIfInBounds_toArray, List.set_cons_zero, List.set_cons_succ]
            refine wpAnyH_ready (rs := [13]) (by kernel_rfl) (by simp) ?_
            refine hcons rfl (fun K hK => ?_) (AllReadyH.nil)
            go_simp; clear z13 y13
            refine hK.out _ _ ?_ (fun hHeld => ?_)
            · (try dsimp only); exact ⟨(World.cell?_setCell_other _ _ _ _ (by intro e; injection e with e; exact hqbd e)).trans HS12.out.1, (World.cell?_setCell_other _ _ _ _ (by intro e; injection e with e; exact hqbd e)).trans HS12.out.2⟩
            clear hK K
            try simp only [Act.put]
            refine wpAnyH_done (by kernel_rfl) ?_ _
            dsimp only [PanTo]
            rotate_left
            go_simp
            refine (HN1.out _ HLV.out.2.2.2.1).mono ?_; rintro e4 U4 ⟨rfl, hb⟩; replace HLV := Lib.hid (HLV.out.next hb); replace HC := Lib.hid (HC.out.trans (hb.mono HC.out.size)); clear hb
            refine hK.out _ _ ?_ (fun hHeld => ?_)
            · (try dsimp only); exact HS.out _ HC.out
            clear hK K
            try simp only [Act.put, List.setIfInBounds_toArray, List.set_cons_zero, List.set_cons_succ]
            refine wpAnyH_ready (rs := [0, 9]) (by kernel_rfl) (by simp) ?_
            refine hcons rfl (fun K hK => ?_) (hcons rfl (fun K hK => ?_) (AllReadyH.nil))
            have z0 := HLV.out.1.c 0 _ rfl; go_simp; clear z0
            refine hK.out _ _ ?_ (fun hHeld => ?_)
            · (try dsimp only); exact HS.out _ HC.out
            clear hK K
            try simp only [Act.put, List.setIfInBounds_toArray, List.set_cons_zero, List.set_cons_succ]
            refine wpAnyH_ready (rs := [9]) (by kernel_rfl) (by simp) ?_
            refine hcons rfl (fun K hK => ?_) (AllReadyH.nil)
            go_simp
            refine (HN2.out _ HLV.out.2.2.2.1).mono ?_; rintro e9 U9 ⟨rfl, hb⟩; replace HLV := Lib.hid (HLV.out.next hb); replace HC := Lib.hid (HC.out.trans (hb.mono HC.out.size)); clear hb
            refine hK.out _ _ ?_ (fun hHeld => ?_)
            · (try dsimp only); exact HS.out _ HC.out
            clear hK K
            try simp only [Act.put, List.setIfInBounds_toArray, List.set_cons_zero, List.set_cons_succ]
            refine htake (i := 10) (v := ?v29) rfl (by kernel_rfl) (by kernel_rfl) (by kernel_rfl) (fun _ _ _ h => pan_put h) (Or.inl ⟨by rfl, ?hy29⟩) (by assumption) ?_
            case hy29 => (intro w hSw; (try dsimp only at hSw); go_simp; try (with_reducible rfl))
            try simp only [Act.put, List.setIfInBounds_toArray, List.set_cons_zero, List.set_cons_succ]
            refine wpAnyH_ready (rs := [11]) (by kernel_rfl) (by simp) ?_
            refine hcons rfl (fun K hK => ?_) (AllReadyH.nil)
            go_simp
            (first | refine hold_alloc (fun Wa q1 q2 q3 => ?_) | refine hold_alloc_drew (fun Wa q1 q2 q3 => ?_)); have HN := Lib.hid (show Bx _ _ (Wo.cells ⟨a1, last, s2⟩) from q2); replace HLV := Lib.hid (HLV.out.next q1); replace HC := Lib.hid (HC.out.trans (q1.mono HC.out.size)); clear q1 q2 q3
            refine hK.out _ _ ?_ (fun hHeld => ?_)
            · (try dsimp only); exact HS.out _ HC.out
            clear hK K
            try simp only [Act.put, List.setIfInBounds_toArray, List.set_cons_zero, List.set_cons_succ]
            refine wpAnyH_ready (rs := [12]) (by kernel_rfl) (by simp) ?_
            refine hcons rfl (fun K hK => ?_) (AllReadyH.nil)
            refine step_append_any rfl (.tmp 31) (.tmp 42) 44 rfl B 66 i0 _ 4 32 Tryz.underlying44 hi hz0 hz1 hz2 rfl (by decide) (.slice A out.length cp) out.length _ rfl HLV.out.2.2.1 ⟨_, 0, none⟩ 1 1 (Wo.cells ⟨a1, last, s2⟩) rfl rfl HN.out.news (wo_one _) (by unfold maxLen; omega) (by omega) (Nat.le_trans HBS.out HC.out.size) ?_; intro v' w' hown' hgrow; have hqn := own_ne_kd HLV.out.2.2.1 (HKQ.out _ HC.out).1; have HS12 := Lib.hid (And.intro ((grown_cell hgrow (HKQ.out _ HC.out).2 hqn (off + 1)).trans (HS.out _ HC.out).1) ((grown_cell hgrow (HKQ.out _ HC.out).2 hqn (off + 2)).trans (HS.out _ HC.out).2)); have z13 := (HLV.out.1.grown hgrow (own_far HLV.out.2.2.1 hbdB)).c 0 _ rfl; have y13 := (HLV.out.1.grown hgrow (own_far HLV.out.2.2.1 hbdB)).fr 0; replace HLV := Lib.hid (HLV.out.add hbdB hbaB hbd9 hbdw hbda hown' hgrow); obtain ⟨A6, c6, e6, -⟩ := own_form hown'; subst e6; clear hown' hgrow HN hqn
            refine hK.out _ _ ?_ (fun hHeld => ?_)
            · (try dsimp only); exact HS12.out
            clear hK K
            try simp only [Act.put, List.setIfInBounds_toArray, List.set_cons_zero, List.set_cons_succ]
            refine wpAnyH_ready (rs := [13]) (by kernel_rfl) (by simp) ?_
            refine hcons rfl (fun K hK => ?_) (AllReadyH.nil)
            go_simp; clear z13 y13
            refine hK.out _ _ ?_ (fun hHeld => ?_)
            · (try dsimp only); exact ⟨(World.cell?_setCell_other _ _ _ _ (by intro e; injection e with e; exact hqbd e)).trans HS12.out.1, (World.cell?_setCell_other _ _ _ _ (by intro e; injection e with e; exact hqbd e)).trans HS12.out.2⟩
            clear hK K
            try simp only [Act.put]
            refine wpAnyH_done (by kernel_rfl) ?_ _
            dsimp only [PanTo]
            rotate_left
            go_simp
            refine (HN2.out _ HLV.out.2.2.2.1).mono ?_; rintro e9 U9 ⟨rfl, hb⟩; replace HLV := Lib.hid (HLV.out.next hb); replace HC := Lib.hid (HC.out.trans (hb.mono HC.out.size)); clear hb
            refine hK.out _ _ ?_ (fun hHeld => ?_)
            · (try dsimp only); exact HS.out _ HC.out
            clear hK K
            try simp only [Act.put, List.setIfInBounds_toArray, List.set_cons_zero, List.set_cons_succ]
            refine htake (i := 10) (v := ?v30) rfl (by kernel_rfl) (by kernel_rfl) (by kernel_rfl) (fun _ _ _ h => pan_put h) (Or.inl ⟨by rfl, ?hy30⟩) (by assumption) ?_
            case hy30 => (intro w hSw; (try dsimp only at hSw); go_simp; try (with_reducible rfl))
            try simp only [Act.put, List.setIfInBounds_toArray, List.set_cons_zero, List.set_cons_succ]
            refine wpAnyH_ready (rs := [0, 11]) (by kernel_rfl) (by simp) ?_
            refine hcons rfl (fun K hK => ?_) (hcons rfl (fun K hK => ?_) (AllReadyH.nil))
            have z0 := HLV.out.1.c 0 _ rfl; go_simp; clear z0
            refine hK.out _ _ ?_ (fun hHeld => ?_)
            · (try dsimp only); exact HS.out _ HC.out
            clear hK K
            try simp only [Act.put, List.setIfInBounds_toArray, List.set_cons_zero, List.set_cons_succ]
            refine wpAnyH_ready (rs := [11]) (by kernel_rfl) (by simp) ?_
            refine hcons rfl (fun K hK => ?_) (AllReadyH.nil)
            go_simp
            (first | refine hold_alloc (fun Wa q1 q2 q3 => ?_) | refine hold_alloc_drew (fun Wa q1 q2 q3 => ?_)); have HN := Lib.hid (show Bx _ _ (Wo.cells ⟨a1, last, s2⟩) from q2); replace HLV := Lib.hid (HLV.out.next q1); replace HC := Lib.hid (HC.out.trans (q1.mono HC.out.size)); clear q1 q2 q3
            refine hK.out _ _ ?_ (fun hHeld => ?_)
            · (try dsimp only); exact HS.out _ HC.out
            clear hK K
            try simp only [Act.put, List.setIfInBounds_toArray, List.set_cons_zero, List.set_cons_succ]
            refine wpAnyH_ready (rs := [12]) (by kernel_rfl) (by simp) ?_
            refine hcons rfl (fun K hK => ?_) (AllReadyH.nil)
            refine step_append_any rfl (.tmp 31) (.tmp 42) 44 rfl B 66 i0 _ 4 32 Tryz.underlying44 hi hz0 hz1 hz2 rfl (by decide) (.slice A out.length cp) out.length _ rfl HLV.out.2.2.1 ⟨_, 0, none⟩ 1 1 (Wo.cells ⟨a1, last, s2⟩) rfl rfl HN.out.news (wo_one _) (by unfold maxLen; omega) (by omega) (Nat.le_trans HBS.out HC.out.size) ?_; intro v' w' hown' hgrow; have hqn := own_ne_kd HLV.out.2.2.1 (HKQ.out _ HC.out).1; have HS12 := Lib.hid (And.intro ((grown_cell hgrow (HKQ.out _ HC.out).2 hqn (off + 1)).trans (HS.out _ HC.out).1) ((grown_cell hgrow (HKQ.out _ HC.out).2 hqn (off + 2)).trans (HS.out _ HC.out).2)); have z13 := (HLV.out.1.grown hgrow (own_far HLV.out.2.2.1 hbdB)).c 0 _ rfl; have y13 := (HLV.out.1.grown hgrow (own_far HLV.out.2.2.1 hbdB)).fr 0; replace HLV := Lib.hid (HLV.out.add hbdB hbaB hbd9 hbdw hbda hown' hgrow); obtain ⟨A6, c6, e6, -⟩ := own_form hown'; subst e6; clear hown' hgrow HN hqn
            refine hK.out _ _ ?_ (fun hHeld => ?_)
            · (try dsimp only); exact HS12.out
            clear hK K
            try simp only [Act.put, List.setIfInBounds_toArray, List.set_cons_zero, List.set_cons_succ]
            refine wpAnyH_ready (rs := [13]) (by kernel_rfl) (by simp) ?_
            refine hcons rfl (fun K hK => ?_) (AllReadyH.nil)
            go_simp; clear z13 y13
            refine hK.out _ _ ?_ (fun hHeld => ?_)
            · (try dsimp only); exact ⟨(World.cell?_setCell_other _ _ _ _ (by intro e; injection e with e; exact hqbd e)).trans HS12.out.1, (World.cell?_setCell_other _ _ _ _ (by intro e; injection e with e; exact hqbd e)).trans HS12.out.2⟩
            clear hK K
            try simp only [Act.put]
            refine wpAnyH_done (by kernel_rfl) ?_ _
            dsimp only [PanTo]
            rotate_left
            go_simp
            (first | refine hold_alloc (fun Wa q1 q2 q3 => ?_) | refine hold_alloc_drew (fun Wa q1 q2 q3 => ?_)); have HN := Lib.hid (show Bx _ _ (Wo.cells ⟨a1, last, s2⟩) from q2); replace HLV := Lib.hid (HLV.out.next q1); replace HC := Lib.hid (HC.out.trans (q1.mono HC.out.size)); clear q1 q2 q3
            refine hK.out _ _ ?_ (fun hHeld => ?_)
            · (try dsimp only); exact HS.out _ HC.out
            clear hK K
            try simp only [Act.put, List.setIfInBounds_toArray, List.set_cons_zero, List.set_cons_succ]
            refine wpAnyH_ready (rs := [0]) (by kernel_rfl) (by simp) ?_
            refine hcons rfl (fun K hK => ?_) (AllReadyH.nil)
            have z0 := HLV.out.1.c 0 _ rfl; go_simp; clear z0
            refine hK.out _ _ ?_ (fun hHeld => ?_)
            · (try dsimp only); exact HS.out _ HC.out
            clear hK K
            try simp only [Act.put, List.setIfInBounds_toArray, List.set_cons_zero, List.set_cons_succ]
            refine wpAnyH_ready (rs := [12]) (by kernel_rfl) (by simp) ?_
            refine hcons rfl (fun K hK => ?_) (AllReadyH.nil)
            refine step_append_any rfl (.tmp 31) (.tmp 42) 44 rfl B 66 i0 _ 4 32 Tryz.underlying44 hi hz0 hz1 hz2 rfl (by decide) (.slice A out.length cp) out.length _ rfl HLV.out.2.2.1 ⟨_, 0, none⟩ 1 1 (Wo.cells ⟨a1, last, s2⟩) rfl rfl HN.out.news (wo_one _) (by unfold maxLen; omega) (by omega) (Nat.le_trans HBS.out HC.out.size) ?_; intro v' w' hown' hgrow; have hqn := own_ne_kd HLV.out.2.2.1 (HKQ.out _ HC.out).1; have HS12 := Lib.hid (And.intro ((grown_cell hgrow (HKQ.out _ HC.out).2 hqn (off + 1)).trans (HS.out _ HC.out).1) ((grown_cell hgrow (HKQ.out _ HC.out).2 hqn (off + 2)).trans (HS.out _ HC.out).2)); have z13 := (HLV.out.1.grown hgrow (own_far HLV.out.2.2.1 hbdB)).c 0 _ rfl; have y13 := (HLV.out.1.grown hgrow (own_far HLV.out.2.2.1 hbdB)).fr 0; replace HLV := Lib.hid (HLV.out.add hbdB hbaB hbd9 hbdw hbda hown' hgrow); obtain ⟨A6, c6, e6, -⟩ := own_form hown'; subst e6; clear hown' hgrow HN hqn
            refine hK.out _ _ ?_ (fun hHeld => ?_)
            · (try dsimp only); exact HS12.out
            clear hK K
            try simp only [Act.put, List.setIfInBounds_toArray, List.set_cons_zero, List.set_cons_succ]
            refine wpAnyH_ready (rs := [13]) (by kernel_rfl) (by simp) ?_
            refine hcons rfl (fun K hK => ?_) (AllReadyH.nil)
            go_simp; clear z13 y13
            refine hK.out _ _ ?_ (fun hHeld => ?_)
            · (try dsimp only); exact ⟨(World.cell?_setCell_other _ _ _ _ (by intro e; injection e with e; exact hqbd e)).trans HS12.out.1, (World.cell?_setCell_other _ _ _ _ (by intro e; injection e with e; exact hqbd e)).trans HS12.out.2⟩
            clear hK K
            try simp only [Act.put]
            refine wpAnyH_done (by kernel_rfl) ?_ _
            dsimp only [PanTo]
            iterate 15 (try clear hHeld)
            all_goals
              have HFF := Lib.hid (HFIN.out _ _ _ _ HGO.out (by constructor <;> omega) HLV.out)
              gi_wp2_with fail
              have hff := HFF.out
              first | exact hff | (rw [hB] at hff; exact hff)
      · rw [hpx, if_pos rfl] at HST
        have htd := trimp_drop hpx
        rw [htd]
        have HN0 := Lib.hid (fun W' hW => number_any (w0.drop 1) W' hW (Nat.le_trans (by rw [List.length_drop]; omega) HL0.out))
        have HNB := Lib.hid (fun v => numP_bound (l := w0.drop 1) (v := v))
        clear hpx c0 x0 htd
        generalize w0.drop 1 = m0 at *
        generalize numP m0 = p0 at *
        gi_wp2_with fail
        have HC := Lib.hid ((Below.refl W.heap.size W).drew)
        replace HLV := Lib.hid (HLV.out.next HC.out)
        rcases p0 with _ | a0
        · have HNO := Lib.hid (show stepL last out ws = none from HST.out)
          refine region_inX (S := (fun W' => W'.cell? ⟨q, off + 1, none⟩ = some (tx w1) ∧ W'.cell? ⟨q, off + 2, none⟩ = some (tx w2))) (fun ch W' => ch = [{ v := .iface 129 (.agg #[]), recovered := false }] ∧ stepL last out ws = none ∧ KMine B W W' ∧ Env W' ∧ Below w.heap.size w W') (by kernel_rfl) (by kernel_rfl) (fun ch a' w' hd h => by obtain ⟨rfl, h1, h2, h3, h4⟩ := h; exact ⟨hd, HPAN.out w' h1 h2 h3 h4⟩) ?_ (fun hHeld => ?_)
          · (try dsimp only); exact HS.out _ HC.out
          refine htake (i := 1) (v := ?v31) rfl (by kernel_rfl) (by kernel_rfl) (by kernel_rfl) (fun _ _ _ h => pan_put h) (Or.inl ⟨by rfl, ?hy31⟩) (by assumption) ?_
          case hy31 => (intro w hSw; (try dsimp only at hSw); go_simp; try (with_reducible rfl))
          try simp only [Act.put, List.setIfInBounds_toArray, List.set_cons_zero, List.set_cons_succ]
          refine wpAnyH_ready (rs := [0, 2]) (by kernel_rfl) (by simp) ?_
          refine hcons rfl (fun K hK => ?_) (hcons rfl (fun K hK => ?_) (AllReadyH.nil))
          have z5 := HLV.out.2.1.c 0 _ rfl; go_simp; clear z5
          refine hK.out _ _ ?_ (fun hHeld => ?_)
          · (try dsimp only); exact HS.out _ HC.out
          clear hK K
          try simp only [Act.put, List.setIfInBounds_toArray, List.set_cons_zero, List.set_cons_succ]
          refine wpAnyH_ready (rs := [2]) (by kernel_rfl) (by simp) ?_
          refine hcons rfl (fun K hK => ?_) (AllReadyH.nil)
          go_simp
          refine (HN0.out _ HLV.out.2.2.2.1).mono ?_; rintro e9 U9 ⟨rfl, hb⟩; exact ⟨rfl, rfl, HNO.out, HLV.out.2.2.2.2.2.trans (KMine.next hb), HLV.out.2.2.2.1.next hb, HLV.out.2.2.2.2.1.trans (hb.mono HLV.out.2.2.2.2.1.size)⟩
          go_simp
          refine (HN0.out _ HLV.out.2.2.2.1).mono ?_; rintro e9 U9 ⟨rfl, hb⟩; exact ⟨rfl, rfl, HNO.out, HLV.out.2.2.2.2.2.trans (KMine.next hb), HLV.out.2.2.2.1.next hb, HLV.out.2.2.2.2.1.trans (hb.mono HLV.out.2.2.2.2.1.size)⟩
        · have hab := HNB.out a0 rfl
          have hwl : IntKind.i64.wrap (last + a0) = last + a0 := IntWalk.i64_in _ (by omega)
          replace HN0 := Lib.hid (show ∀ W' : World, Env W' → Calls Tryz.prog 41 #[tx m0] W' (Got (some (.int .i64 a0)) W') from HN0.out)
          replace HST := Lib.hid HST.out
          dsimp only at HST
          refine region_inX (S := (fun W' => W'.cell? ⟨q, off + 1, none⟩ = some (tx w1) ∧ W'.cell? ⟨q, off + 2, none⟩ = some (tx w2))) (fun ch W' => ch = [{ v := .iface 129 (.agg #[]), recovered := false }] ∧ stepL last out ws = none ∧ KMine B W W' ∧ Env W' ∧ Below w.heap.size w W') (by kernel_rfl) (by kernel_rfl) (fun ch a' w' hd h => by obtain ⟨rfl, h1, h2, h3, h4⟩ := h; exact ⟨hd, HPAN.out w' h1 h2 h3 h4⟩) ?_ (fun hHeld => ?_)
          · (try dsimp only); exact HS.out _ HC.out
          refine htake (i := 1) (v := ?v32) rfl (by kernel_rfl) (by kernel_rfl) (by kernel_rfl) (fun _ _ _ h => pan_put h) (Or.inl ⟨by rfl, ?hy32⟩) (by assumption) ?_
          case hy32 => (intro w hSw; (try dsimp only at hSw); go_simp; try (with_reducible rfl))
          try simp only [Act.put, List.setIfInBounds_toArray, List.set_cons_zero, List.set_cons_succ]
          refine wpAnyH_ready (rs := [0, 2]) (by kernel_rfl) (by simp) ?_
          refine hcons rfl (fun K hK => ?_) (hcons rfl (fun K hK => ?_) (AllReadyH.nil))
          have z5 := HLV.out.2.1.c 0 _ rfl; go_simp; clear z5
          refine hK.out _ _ ?_ (fun hHeld => ?_)
          · (try dsimp only); exact HS.out _ HC.out
          clear hK K
          try simp only [Act.put, List.setIfInBounds_toArray, List.set_cons_zero, List.set_cons_succ]
          refine wpAnyH_ready (rs := [2]) (by kernel_rfl) (by simp) ?_
          refine hcons rfl (fun K hK => ?_) (AllReadyH.nil)
          go_simp
          refine (HN0.out _ HLV.out.2.2.2.1).mono ?_; rintro e2 U2 ⟨rfl, hb⟩; replace HLV := Lib.hid (HLV.out.next hb); replace HC := Lib.hid (HC.out.trans (hb.mono HC.out.size)); clear hb
          refine hK.out _ _ ?_ (fun hHeld => ?_)
          · (try dsimp only); exact HS.out _ HC.out
          clear hK K
          try simp only [Act.put, List.setIfInBounds_toArray, List.set_cons_zero, List.set_cons_succ]
          refine htake (i := 3) (v := ?v33) rfl (by kernel_rfl) (by kernel_rfl) (by kernel_rfl) (fun _ _ _ h => pan_put h) (Or.inl ⟨by rfl, ?hy33⟩) (by assumption) ?_
          case hy33 => (intro w hSw; (try dsimp only at hSw); go_simp; try (with_reducible rfl))
          try simp only [Act.put, List.setIfInBounds_toArray, List.set_cons_zero, List.set_cons_succ]
          refine wpAnyH_ready (rs := [4]) (by kernel_rfl) (by simp) ?_
          refine hcons rfl (fun K hK => ?_) (AllReadyH.nil)
          have z5 := HLV.out.2.1.c 0 _ rfl; have y5 := HLV.out.2.1.fr 0; go_simp; clear z5 y5; have HS4 := Lib.hid (HS.out _ HC.out); replace HLV := Lib.hid (HLV.out.setA hbaB HBA2.out hba9 hbda (last + a0))
          refine hK.out _ _ ?_ (fun hHeld => ?_)
          · (try dsimp only); exact ⟨(World.cell?_setCell_other _ _ _ _ (by intro e; injection e with e; exact hqba e)).trans HS4.out.1, (World.cell?_setCell_other _ _ _ _ (by intro e; injection e with e; exact hqba e)).trans HS4.out.2⟩
          clear hK K
          try simp only [Act.put]
          refine wpAnyH_done (by kernel_rfl) ?_ _
          dsimp only [PanTo]
          rotate_left
          go_simp
          refine (HN0.out _ HLV.out.2.2.2.1).mono ?_; rintro e2 U2 ⟨rfl, hb⟩; replace HLV := Lib.hid (HLV.out.next hb); replace HC := Lib.hid (HC.out.trans (hb.mono HC.out.size)); clear hb
          refine hK.out _ _ ?_ (fun hHeld => ?_)
          · (try dsimp only); exact HS.out _ HC.out
          clear hK K
          try simp only [Act.put, List.setIfInBounds_toArray, List.set_cons_zero, List.set_cons_succ]
          refine wpAnyH_ready (rs := [0]) (by kernel_rfl) (by simp) ?_
          refine hcons rfl (fun K hK => ?_) (AllReadyH.nil)
          have z5 := HLV.out.2.1.c 0 _ rfl; go_simp; clear z5
          refine hK.out _ _ ?_ (fun hHeld => ?_)
          · (try dsimp only); exact HS.out _ HC.out
          clear hK K
          try simp only [Act.put, List.setIfInBounds_toArray, List.set_cons_zero, List.set_cons_succ]
          refine htake (i := 3) (v := ?v34) rfl (by kernel_rfl) (by kernel_rfl) (by kernel_rfl) (fun _ _ _ h => pan_put h) (Or.inl ⟨by rfl, ?hy34⟩) (by assumption) ?_
          case hy34 => (intro w hSw; (try dsimp only at hSw); go_simp; try (with_reducible rfl))
          try simp only [Act.put, List.setIfInBounds_toArray, List.set_cons_zero, List.set_cons_succ]
          refine wpAnyH_ready (rs := [4]) (by kernel_rfl) (by simp) ?_
          refine hcons rfl (fun K hK => ?_) (AllReadyH.nil)
          have z5 := HLV.out.2.1.c 0 _ rfl; have y5 := HLV.out.2.1.fr 0; go_simp; clear z5 y5; have HS4 := Lib.hid (HS.out _ HC.out); replace HLV := Lib.hid (HLV.out.setA hbaB HBA2.out hba9 hbda (last + a0))
          refine hK.out _ _ ?_ (fun hHeld => ?_)
          · (try dsimp only); exact ⟨(World.cell?_setCell_other _ _ _ _ (by intro e; injection e with e; exact hqba e)).trans HS4.out.1, (World.cell?_setCell_other _ _ _ _ (by intro e; injection e with e; exact hqba e)).trans HS4.out.2⟩
          clear hK K
          try simp only [Act.put]
          refine wpAnyH_done (by kernel_rfl) ?_ _
          dsimp only [PanTo]
          iterate 6 (try clear hHeld)
          · have HS5 := Lib.hid (show (U2.setCell ⟨ba, 0, none⟩ (.int .i64 (last + a0))).cell? ⟨q, off + 1, none⟩ = some (tx w1) ∧ (U2.setCell ⟨ba, 0, none⟩ (.int .i64 (last + a0))).cell? ⟨q, off + 2, none⟩ = some (tx w2) from ⟨(World.cell?_setCell_other _ _ _ _ (by intro e; injection e with e; exact hqba e)).trans HS4.out.1, (World.cell?_setCell_other _ _ _ _ (by intro e; injection e with e; exact hqba e)).trans HS4.out.2⟩)
            have HK5 := Lib.hid (show Kd (U2.setCell ⟨ba, 0, none⟩ (.int .i64 (last + a0))) q 9 ∧ q < (U2.setCell ⟨ba, 0, none⟩ (.int .i64 (last + a0))).heap.size from ⟨(HKQ.out _ HC.out).1.setCell _ _, by rw [World.size_setCell]; exact (HKQ.out _ HC.out).2⟩)
            have HB5 := Lib.hid (show B ≤ (U2.setCell ⟨ba, 0, none⟩ (.int .i64 (last + a0))).heap.size by rw [World.size_setCell]; exact Nat.le_trans HBS.out HC.out.size)
            generalize U2.setCell ⟨ba, 0, none⟩ (.int .i64 (last + a0)) = W7 at *
            clear HC HS HKQ HBS HS4 HWS
            have HS := Lib.hid (show ∀ W' : World, Below W7.heap.size W7 W' → W'.cell? ⟨q, off + 1, none⟩ = some (tx w1) ∧ W'.cell? ⟨q, off + 2, none⟩ = some (tx w2) from fun W' hb => ⟨(hb.cell (p := ⟨q, off + 1, none⟩) HK5.out.2).trans HS5.out.1, (hb.cell (p := ⟨q, off + 2, none⟩) HK5.out.2).trans HS5.out.2⟩)
            have HKQ := Lib.hid (show ∀ W' : World, Below W7.heap.size W7 W' → Kd W' q 9 ∧ q < W'.heap.size from fun W' hb => ⟨HK5.out.1.next hb, Nat.lt_of_lt_of_le HK5.out.2 hb.size⟩)
            have HBS := HB5
            clear HS5 HK5 HB5 hwl
            gi_wp2_with fail
            have HC := Lib.hid ((Below.refl W7.heap.size W7).drew)
            replace HLV := Lib.hid (HLV.out.next HC.out)
            rcases p1 with _ | a1
            · have HNO := Lib.hid (show stepL last out ws = none from HST.out)
              refine region_inX (S := (fun W' => W'.cell? ⟨q, off + 1, none⟩ = some (tx w1) ∧ W'.cell? ⟨q, off + 2, none⟩ = some (tx w2))) (fun ch W' => ch = [{ v := .iface 129 (.agg #[]), recovered := false }] ∧ stepL last out ws = none ∧ KMine B W W' ∧ Env W' ∧ Below w.heap.size w W') (by kernel_rfl) (by kernel_rfl) (fun ch a' w' hd h => by obtain ⟨rfl, h1, h2, h3, h4⟩ := h; exact ⟨hd, HPAN.out w' h1 h2 h3 h4⟩) ?_ (fun hHeld => ?_)
              · (try dsimp only); exact HS.out _ HC.out
              refine htake (i := 1) (v := ?v35) rfl (by kernel_rfl) (by kernel_rfl) (by kernel_rfl) (fun _ _ _ h => pan_put h) (Or.inl ⟨by rfl, ?hy35⟩) (by assumption) ?_
              case hy35 => (intro w hSw; (try dsimp only at hSw); go_simp; try (with_reducible rfl))
              try simp only [Act.put, List.setIfInBounds_toArray, List.set_cons_zero, List.set_cons_succ]
              refine htake (i := 2) (v := ?v36) rfl (by kernel_rfl) (by kernel_rfl) (by kernel_rfl) (fun _ _ _ h => pan_put h) (Or.inl ⟨by rfl, ?hy36⟩) (by assumption) ?_
              case hy36 => (intro w hSw; (try dsimp only at hSw); go_simp; try (with_reducible rfl))
              try simp only [Act.put, List.setIfInBounds_toArray, List.set_cons_zero, List.set_cons_succ]
              refine htake (i := 3) (v := ?v37) rfl (by kernel_rfl) (by kernel_rfl) (by kernel_rfl) (fun _ _ _ h => pan_put h) (Or.inl ⟨by rfl, ?hy37⟩) (by assumption) ?_
              case hy37 => (intro w hSw; (try dsimp only at hSw); go_simp; try (with_reducible rfl))
              try simp only [Act.put, List.setIfInBounds_toArray, List.set_cons_zero, List.set_cons_succ]
              refine htake (i := 6) (v := ?v38) rfl (by kernel_rfl) (by kernel_rfl) (by kernel_rfl) (fun _ _ _ h => pan_put h) (Or.inl ⟨by rfl, ?hy38⟩) (by assumption) ?_
              case hy38 => (intro w hSw; (try dsimp only at hSw); go_simp; try (with_reducible rfl))
              try simp only [Act.put, List.setIfInBounds_toArray, List.set_cons_zero, List.set_cons_succ]
              refine htake (i := 7) (v := ?v39) rfl (by kernel_rfl) (by kernel_rfl) (by kernel_rfl) (fun _ _ _ h => pan_put h) (Or.inl ⟨by rfl, ?hy39⟩) (by assumption) ?_
              case hy39 => (intro w hSw; (try dsimp only at hSw); go_simp; try (with_reducible rfl))
              try simp only [Act.put, List.setIfInBounds_toArray, List.set_cons_zero, List.set_cons_succ]
              refine htake (i := 8) (v := ?v40) rfl (by kernel_rfl) (by kernel_rfl) (by kernel_rfl) (fun _ _ _ h => pan_put h) (Or.inl ⟨by rfl, ?hy40⟩) (by assumption) ?_
              case hy40 => (intro w hSw; (try dsimp only at hSw); go_simp; try (with_reducible rfl))
              try simp only [Act.put, List.setIfInBounds_toArray, List.set_cons_zero, List.set_cons_succ]
              refine wpAnyH_ready (rs := [0, 4, 5]) (by kernel_rfl) (by simp) ?_
              refine hcons rfl (fun K hK => ?_) (hcons rfl (fun K hK => ?_) (hcons rfl (fun K hK => ?_) (AllReadyH.nil)))
              have z0 := HLV.out.1.c 0 _ rfl; go_simp; clear z0
              refine hK.out _ _ ?_ (fun hHeld => ?_)
              · (try dsimp only); exact HS.out _ HC.out
              clear hK K
              try simp only [Act.put, List.setIfInBounds_toArray, List.set_cons_zero, List.set_cons_succ]
              refine wpAnyH_ready (rs := [4, 5]) (by kernel_rfl) (by simp) ?_
              refine hcons rfl (fun K hK => ?_) (hcons rfl (fun K hK => ?_) (AllReadyH.nil))
              go_simp
              refine (HN1.out _ HLV.out.2.2.2.1).mono ?_; rintro e9 U9 ⟨rfl, hb⟩; exact ⟨rfl, rfl, HNO.out, HLV.out.2.2.2.2.2.trans (KMine.next hb), HLV.out.2.2.2.1.next hb, HLV.out.2.2.2.2.1.trans (hb.mono HLV.out.2.2.2.2.1.size)⟩
              have z5 := HLV.out.2.1.c 0 _ rfl; go_simp; clear z5
              refine hK.out _ _ ?_ (fun hHeld => ?_)
              · (try dsimp only); exact HS.out _ HC.out
              clear hK K
              try simp only [Act.put, List.setIfInBounds_toArray, List.set_cons_zero, List.set_cons_succ]
              refine wpAnyH_ready (rs := [4]) (by kernel_rfl) (by simp) ?_
              refine hcons rfl (fun K hK => ?_) (AllReadyH.nil)
              go_simp
              refine (HN1.out _ HLV.out.2.2.2.1).mono ?_; rintro e9 U9 ⟨rfl, hb⟩; exact ⟨rfl, rfl, HNO.out, HLV.out.2.2.2.2.2.trans (KMine.next hb), HLV.out.2.2.2.1.next hb, HLV.out.2.2.2.2.1.trans (hb.mono HLV.out.2.2.2.2.1.size)⟩
              go_simp
              refine (HN1.out _ HLV.out.2.2.2.1).mono ?_; rintro e9 U9 ⟨rfl, hb⟩; exact ⟨rfl, rfl, HNO.out, HLV.out.2.2.2.2.2.trans (KMine.next hb), HLV.out.2.2.2.1.next hb, HLV.out.2.2.2.2.1.trans (hb.mono HLV.out.2.2.2.2.1.size)⟩
              have z5 := HLV.out.2.1.c 0 _ rfl; go_simp; clear z5
              refine hK.out _ _ ?_ (fun hHeld => ?_)
              · (try dsimp only); exact HS.out _ HC.out
              clear hK K
              try simp only [Act.put, List.setIfInBounds_toArray, List.set_cons_zero, List.set_cons_succ]
              refine wpAnyH_ready (rs := [0, 4]) (by kernel_rfl) (by simp) ?_
              refine hcons rfl (fun K hK => ?_) (hcons rfl (fun K hK => ?_) (AllReadyH.nil))
              have z0 := HLV.out.1.c 0 _ rfl; go_simp; clear z0
              refine hK.out _ _ ?_ (fun hHeld => ?_)
              · (try dsimp only); exact HS.out _ HC.out
              clear hK K
              try simp only [Act.put, List.setIfInBounds_toArray, List.set_cons_zero, List.set_cons_succ]
              refine wpAnyH_ready (rs := [4]) (by kernel_rfl) (by simp) ?_
              refine hcons rfl (fun K hK => ?_) (AllReadyH.nil)
              go_simp
              refine (HN1.out _ HLV.out.2.2.2.1).mono ?_; rintro e9 U9 ⟨rfl, hb⟩; exact ⟨rfl, rfl, HNO.out, HLV.out.2.2.2.2.2.trans (KMine.next hb), HLV.out.2.2.2.1.next hb, HLV.out.2.2.2.2.1.trans (hb.mono HLV.out.2.2.2.2.1.size)⟩
              go_simp
              refine (HN1.out _ HLV.out.2.2.2.1).mono ?_; rintro e9 U9 ⟨rfl, hb⟩; exact ⟨rfl, rfl, HNO.out, HLV.out.2.2.2.2.2.trans (KMine.next hb), HLV.out.2.2.2.1.next hb, HLV.out.2.2.2.2.1.trans (hb.mono HLV.out.2.2.2.2.1.size)⟩
            · rcases p2 with _ | s2
              · have HNO := Lib.hid (show stepL last out ws = none from HST.out)
                refine region_inX (S := (fun W' => W'.cell? ⟨q, off + 1, none⟩ = some (tx w1) ∧ W'.cell? ⟨q, off + 2, none⟩ = some (tx w2))) (fun ch W' => ch = [{ v := .iface 129 (.agg #[]), recovered := false }] ∧ stepL last out ws = none ∧ KMine B W W' ∧ Env W' ∧ Below w.heap.size w W') (by kernel_rfl) (by kernel_rfl) (fun ch a' w' hd h => by obtain ⟨rfl, h1, h2, h3, h4⟩ := h; exact ⟨hd, HPAN.out w' h1 h2 h3 h4⟩) ?_ (fun hHeld => ?_)
                · (try dsimp only); exact HS.out _ HC.out
                refine htake (i := 1) (v := ?v41) rfl (by kernel_rfl) (by kernel_rfl) (by kernel_rfl) (fun _ _ _ h => pan_put h) (Or.inl ⟨by rfl, ?hy41⟩) (by assumption) ?_
                case hy41 => (intro w hSw; (try dsimp only at hSw); go_simp; try (with_reducible rfl))
                try simp only [Act.put, List.setIfInBounds_toArray, List.set_cons_zero, List.set_cons_succ]
                refine htake (i := 2) (v := ?v42) rfl (by kernel_rfl) (by kernel_rfl) (by kernel_rfl) (fun _ _ _ h => pan_put h) (Or.inl ⟨by rfl, ?hy42⟩) (by assumption) ?_
                case hy42 => (intro w hSw; (try dsimp only at hSw); go_simp; try (with_reducible rfl))
                try simp only [Act.put, List.setIfInBounds_toArray, List.set_cons_zero, List.set_cons_succ]
                refine htake (i := 3) (v := ?v43) rfl (by kernel_rfl) (by kernel_rfl) (by kernel_rfl) (fun _ _ _ h => pan_put h) (Or.inl ⟨by rfl, ?hy43⟩) (by assumption) ?_
                case hy43 => (intro w hSw; (try dsimp only at hSw); go_simp; try (with_reducible rfl))
                try simp only [Act.put, List.setIfInBounds_toArray, List.set_cons_zero, List.set_cons_succ]
                refine htake (i := 6) (v := ?v44) rfl (by kernel_rfl) (by kernel_rfl) (by kernel_rfl) (fun _ _ _ h => pan_put h) (Or.inl ⟨by rfl, ?hy44⟩) (by assumption) ?_
                case hy44 => (intro w hSw; (try dsimp only at hSw); go_simp; try (with_reducible rfl))
                try simp only [Act.put, List.setIfInBounds_toArray, List.set_cons_zero, List.set_cons_succ]
                refine htake (i := 7) (v := ?v45) rfl (by kernel_rfl) (by kernel_rfl) (by kernel_rfl) (fun _ _ _ h => pan_put h) (Or.inl ⟨by rfl, ?hy45⟩) (by assumption) ?_
                case hy45 => (intro w hSw; (try dsimp only at hSw); go_simp; try (with_reducible rfl))
                try simp only [Act.put, List.setIfInBounds_toArray, List.set_cons_zero, List.set_cons_succ]
                refine htake (i := 8) (v := ?v46) rfl (by kernel_rfl) (by kernel_rfl) (by kernel_rfl) (fun _ _ _ h => pan_put h) (Or.inl ⟨by rfl, ?hy46⟩) (by assumption) ?_
                case hy46 => (intro w hSw; (try dsimp only at hSw); go_simp; try (with_reducible rfl))
                try simp only [Act.put, List.setIfInBounds_toArray, List.set_cons_zero, List.set_cons_succ]
                refine wpAnyH_ready (rs := [0, 4, 5]) (by kernel_rfl) (by simp) ?_
                refine hcons rfl (fun K hK => ?_) (hcons rfl (fun K hK => ?_) (hcons rfl (fun K hK => ?_) (AllReadyH.nil)))
                have z0 := HLV.out.1.c 0 _ rfl; go_simp; clear z0
                refine hK.out _ _ ?_ (fun hHeld => ?_)
                · (try dsimp only); exact HS.out _ HC.out
                clear hK K
                try simp only [Act.put, List.setIfInBounds_toArray, List.set_cons_zero, List.set_cons_succ]
                refine wpAnyH_ready (rs := [4, 5]) (by kernel_rfl) (by simp) ?_
                refine hcons rfl (fun K hK => ?_) (hcons rfl (fun K hK => ?_) (AllReadyH.nil))
                go_simp
                refine (HN1.out _ HLV.out.2.2.2.1).mono ?_; rintro e4 U4 ⟨rfl, hb⟩; replace HLV := Lib.hid (HLV.out.next hb); replace HC := Lib.hid (HC.out.trans (hb.mono HC.out.size)); clear hb
                refine hK.out _ _ ?_ (fun hHeld => ?_)
                · (try dsimp only); exact HS.out _ HC.out
                clear hK K
                try simp only [Act.put, List.setIfInBounds_toArray, List.set_cons_zero, List.set_cons_succ]
                refine wpAnyH_ready (rs := [5, 9]) (by kernel_rfl) (by simp) ?_
                refine hcons rfl (fun K hK => ?_) (hcons rfl (fun K hK => ?_) (AllReadyH.nil))
                have z5 := HLV.out.2.1.c 0 _ rfl; go_simp; clear z5
                refine hK.out _ _ ?_ (fun hHeld => ?_)
                · (try dsimp only); exact HS.out _ HC.out
                clear hK K
                try simp only [Act.put, List.setIfInBounds_toArray, List.set_cons_zero, List.set_cons_succ]
                refine wpAnyH_ready (rs := [9]) (by kernel_rfl) (by simp) ?_
                refine hcons rfl (fun K hK => ?_) (AllReadyH.nil)
                go_simp
                refine (HN2.out _ HLV.out.2.2.2.1).mono ?_; rintro e9 U9 ⟨rfl, hb⟩; exact ⟨rfl, rfl, HNO.out, HLV.out.2.2.2.2.2.trans (KMine.next hb), HLV.out.2.2.2.1.next hb, HLV.out.2.2.2.2.1.trans (hb.mono HLV.out.2.2.2.2.1.size)⟩
                go_simp
                refine (HN2.out _ HLV.out.2.2.2.1).mono ?_; rintro e9 U9 ⟨rfl, hb⟩; exact ⟨rfl, rfl, HNO.out, HLV.out.2.2.2.2.2.trans (KMine.next hb), HLV.out.2.2.2.1.next hb, HLV.out.2.2.2.2.1.trans (hb.mono HLV.out.2.2.2.2.1.size)⟩
                have z5 := HLV.out.2.1.c 0 _ rfl; go_simp; clear z5
                refine hK.out _ _ ?_ (fun hHeld => ?_)
                · (try dsimp only); exact HS.out _ HC.out
                clear hK K
                try simp only [Act.put, List.setIfInBounds_toArray, List.set_cons_zero, List.set_cons_succ]
                refine wpAnyH_ready (rs := [4]) (by kernel_rfl) (by simp) ?_
                refine hcons rfl (fun K hK => ?_) (AllReadyH.nil)
                go_simp
                refine (HN1.out _ HLV.out.2.2.2.1).mono ?_; rintro e4 U4 ⟨rfl, hb⟩; replace HLV := Lib.hid (HLV.out.next hb); replace HC := Lib.hid (HC.out.trans (hb.mono HC.out.size)); clear hb
                refine hK.out _ _ ?_ (fun hHeld => ?_)
                · (try dsimp only); exact HS.out _ HC.out
                clear hK K
                try simp only [Act.put, List.setIfInBounds_toArray, List.set_cons_zero, List.set_cons_succ]
                refine wpAnyH_ready (rs := [9]) (by kernel_rfl) (by simp) ?_
                refine hcons rfl (fun K hK => ?_) (AllReadyH.nil)
                go_simp
                refine (HN2.out _ HLV.out.2.2.2.1).mono ?_; rintro e9 U9 ⟨rfl, hb⟩; exact ⟨rfl, rfl, HNO.out, HLV.out.2.2.2.2.2.trans (KMine.next hb), HLV.out.2.2.2.1.next hb, HLV.out.2.2.2.2.1.trans (hb.mono HLV.out.2.2.2.2.1.size)⟩
                go_simp
                refine (HN1.out _ HLV.out.2.2.2.1).mono ?_; rintro e4 U4 ⟨rfl, hb⟩; replace HLV := Lib.hid (HLV.out.next hb); replace HC := Lib.hid (HC.out.trans (hb.mono HC.out.size)); clear hb
                refine hK.out _ _ ?_ (fun hHeld => ?_)
                · (try dsimp only); exact HS.out _ HC.out
                clear hK K
                try simp only [Act.put, List.setIfInBounds_toArray, List.set_cons_zero, List.set_cons_succ]
                refine wpAnyH_ready (rs := [0, 5, 9]) (by kernel_rfl) (by simp) ?_
                refine hcons rfl (fun K hK => ?_) (hcons rfl (fun K hK => ?_) (hcons rfl (fun K hK => ?_) (AllReadyH.nil)))
                have z0 := HLV.out.1.c 0 _ rfl; go_simp; clear z0
                refine hK.out _ _ ?_ (fun hHeld => ?_)
                · (try dsimp only); exact HS.out _ HC.out
                clear hK K
                try simp only [Act.put, List.setIfInBounds_toArray, List.set_cons_zero, List.set_cons_succ]
                refine wpAnyH_ready (rs := [5, 9]) (by kernel_rfl) (by simp) ?_
                refine hcons rfl (fun K hK => ?_) (hcons rfl (fun K hK => ?_) (AllReadyH.nil))
                have z5 := HLV.out.2.1.c 0 _ rfl; go_simp; clear z5
                refine hK.out _ _ ?_ (fun hHeld => ?_)
                · (try dsimp only); exact HS.out _ HC.out
                clear hK K
                try simp only [Act.put, List.setIfInBounds_toArray, List.set_cons_zero, List.set_cons_succ]
                refine wpAnyH_ready (rs := [9]) (by kernel_rfl) (by simp) ?_
                refine hcons rfl (fun K hK => ?_) (AllReadyH.nil)
                go_simp
                refine (HN2.out _ HLV.out.2.2.2.1).mono ?_; rintro e9 U9 ⟨rfl, hb⟩; exact ⟨rfl, rfl, HNO.out, HLV.out.2.2.2.2.2.trans (KMine.next hb), HLV.out.2.2.2.1.next hb, HLV.out.2.2.2.2.1.trans (hb.mono HLV.out.2.2.2.2.1.size)⟩
                go_simp
                refine (HN2.out _ HLV.out.2.2.2.1).mono ?_; rintro e9 U9 ⟨rfl, hb⟩; exact ⟨rfl, rfl, HNO.out, HLV.out.2.2.2.2.2.trans (KMine.next hb), HLV.out.2.2.2.1.next hb, HLV.out.2.2.2.2.1.trans (hb.mono HLV.out.2.2.2.2.1.size)⟩
                have z5 := HLV.out.2.1.c 0 _ rfl; go_simp; clear z5
                refine hK.out _ _ ?_ (fun hHeld => ?_)
                · (try dsimp only); exact HS.out _ HC.out
                clear hK K
                try simp only [Act.put, List.setIfInBounds_toArray, List.set_cons_zero, List.set_cons_succ]
                refine wpAnyH_ready (rs := [0, 9]) (by kernel_rfl) (by simp) ?_
                refine hcons rfl (fun K hK => ?_) (hcons rfl (fun K hK => ?_) (AllReadyH.nil))
                have z0 := HLV.out.1.c 0 _ rfl; go_simp; clear z0
                refine hK.out _ _ ?_ (fun hHeld => ?_)
                · (try dsimp only); exact HS.out _ HC.out
                clear hK K
                try simp only [Act.put, List.setIfInBounds_toArray, List.set_cons_zero, List.set_cons_succ]
                refine wpAnyH_ready (rs := [9]) (by kernel_rfl) (by simp) ?_
                refine hcons rfl (fun K hK => ?_) (AllReadyH.nil)
                go_simp
                refine (HN2.out _ HLV.out.2.2.2.1).mono ?_; rintro e9 U9 ⟨rfl, hb⟩; exact ⟨rfl, rfl, HNO.out, HLV.out.2.2.2.2.2.trans (KMine.next hb), HLV.out.2.2.2.1.next hb, HLV.out.2.2.2.2.1.trans (hb.mono HLV.out.2.2.2.2.1.size)⟩
                go_simp
                refine (HN2.out _ HLV.out.2.2.2.1).mono ?_; rintro e9 U9 ⟨rfl, hb⟩; exact ⟨rfl, rfl, HNO.out, HLV.out.2.2.2.2.2.trans (KMine.next hb), HLV.out.2.2.2.1.next hb, HLV.out.2.2.2.2.1.trans (hb.mono HLV.out.2.2.2.2.1.size)⟩
                go_simp
                refine (HN2.out _ HLV.out.2.2.2.1).mono ?_; rintro e9 U9 ⟨rfl, hb⟩; exact ⟨rfl, rfl, HNO.out, HLV.out.2.2.2.2.2.trans (KMine.next hb), HLV.out.2.2.2.1.next hb, HLV.out.2.2.2.2.1.trans (hb.mono HLV.out.2.2.2.2.1.size)⟩
                have z5 := HLV.out.2.1.c 0 _ rfl; go_simp; clear z5
                refine hK.out _ _ ?_ (fun hHeld => ?_)
                · (try dsimp only); exact HS.out _ HC.out
                clear hK K
                try simp only [Act.put, List.setIfInBounds_toArray, List.set_cons_zero, List.set_cons_succ]
                refine wpAnyH_ready (rs := [0, 4]) (by kernel_rfl) (by simp) ?_
                refine hcons rfl (fun K hK => ?_) (hcons rfl (fun K hK => ?_) (AllReadyH.nil))
                have z0 := HLV.out.1.c 0 _ rfl; go_simp; clear z0
                refine hK.out _ _ ?_ (fun hHeld => ?_)
                · (try dsimp only); exact HS.out _ HC.out
                clear hK K
                try simp only [Act.put, List.setIfInBounds_toArray, List.set_cons_zero, List.set_cons_succ]
                refine wpAnyH_ready (rs := [4]) (by kernel_rfl) (by simp) ?_
                refine hcons rfl (fun K hK => ?_) (AllReadyH.nil)
                go_simp
                refine (HN1.out _ HLV.out.2.2.2.1).mono ?_; rintro e4 U4 ⟨rfl, hb⟩; replace HLV := Lib.hid (HLV.out.next hb); replace HC := Lib.hid (HC.out.trans (hb.mono HC.out.size)); clear hb
                refine hK.out _ _ ?_ (fun hHeld => ?_)
                · (try dsimp only); exact HS.out _ HC.out
                clear hK K
                try simp only [Act.put, List.setIfInBounds_toArray, List.set_cons_zero, List.set_cons_succ]
                refine wpAnyH_ready (rs := [9]) (by kernel_rfl) (by simp) ?_
                refine hcons rfl (fun K hK => ?_) (AllReadyH.nil)
                go_simp
                refine (HN2.out _ HLV.out.2.2.2.1).mono ?_; rintro e9 U9 ⟨rfl, hb⟩; exact ⟨rfl, rfl, HNO.out, HLV.out.2.2.2.2.2.trans (KMine.next hb), HLV.out.2.2.2.1.next hb, HLV.out.2.2.2.2.1.trans (hb.mono HLV.out.2.2.2.2.1.size)⟩
                go_simp
                refine (HN1.out _ HLV.out.2.2.2.1).mono ?_; rintro e4 U4 ⟨rfl, hb⟩; replace HLV := Lib.hid (HLV.out.next hb); replace HC := Lib.hid (HC.out.trans (hb.mono HC.out.size)); clear hb
                refine hK.out _ _ ?_ (fun hHeld => ?_)
                · (try dsimp only); exact HS.out _ HC.out
                clear hK K
                try simp only [Act.put, List.setIfInBounds_toArray, List.set_cons_zero, List.set_cons_succ]
                refine wpAnyH_ready (rs := [0, 9]) (by kernel_rfl) (by simp) ?_
                refine hcons rfl (fun K hK => ?_) (hcons rfl (fun K hK => ?_) (AllReadyH.nil))
                have z0 := HLV.out.1.c 0 _ rfl; go_simp; clear z0
                refine hK.out _ _ ?_ (fun hHeld => ?_)
                · (try dsimp only); exact HS.out _ HC.out
                clear hK K
                try simp only [Act.put, List.setIfInBounds_toArray, List.set_cons_zero, List.set_cons_succ]
                refine wpAnyH_ready (rs := [9]) (by kernel_rfl) (by simp) ?_
                refine hcons rfl (fun K hK => ?_) (AllReadyH.nil)
                go_simp
                refine (HN2.out _ HLV.out.2.2.2.1).mono ?_; rintro e9 U9 ⟨rfl, hb⟩; exact ⟨rfl, rfl, HNO.out, HLV.out.2.2.2.2.2.trans (KMine.next hb), HLV.out.2.2.2.1.next hb, HLV.out.2.2.2.2.1.trans (hb.mono HLV.out.2.2.2.2.1.size)⟩
                go_simp
                refine (HN2.out _ HLV.out.2.2.2.1).mono ?_; rintro e9 U9 ⟨rfl, hb⟩; exact ⟨rfl, rfl, HNO.out, HLV.out.2.2.2.2.2.trans (KMine.next hb), HLV.out.2.2.2.1.next hb, HLV.out.2.2.2.2.1.trans (hb.mono HLV.out.2.2.2.2.1.size)⟩
              · have HGO := Lib.hid (show stepL last out ws = some ((last + a0), out ++ [⟨a1, (last + a0), s2⟩]) from HST.out)
                replace HN1 := Lib.hid (show ∀ W' : World, Env W' → Calls Tryz.prog 41 #[tx w1] W' (Got (some (.int .i64 a1)) W') from HN1.out)
                replace HN2 := Lib.hid (show ∀ W' : World, Env W' → Calls Tryz.prog 42 #[tx w2] W' (Got (some (.agg #[.int .i64 s2.lo, .int .i64 s2.hi])) W') from HN2.out)
                obtain ⟨i0, hi, hz0, hz1, hz2⟩ := info_parts wo_info
                refine region_inX (S := (fun W' => W'.cell? ⟨q, off + 1, none⟩ = some (tx w1) ∧ W'.cell? ⟨q, off + 2, none⟩ = some (tx w2))) (fun ch W' => ch = [{ v := .iface 129 (.agg #[]), recovered := false }] ∧ stepL last out ws = none ∧ KMine B W W' ∧ Env W' ∧ Below w.heap.size w W') (by kernel_rfl) (by kernel_rfl) (fun ch a' w' hd h => by obtain ⟨rfl, h1, h2, h3, h4⟩ := h; exact ⟨hd, HPAN.out w' h1 h2 h3 h4⟩) ?_ (fun hHeld => ?_)
                · (try dsimp only); exact HS.out _ HC.out
                refine htake (i := 1) (v := ?v47) rfl (by kernel_rfl) (by kernel_rfl) (by kernel_rfl) (fun _ _ _ h => pan_put h) (Or.inl ⟨by rfl, ?hy47⟩) (by assumption) ?_
                case hy47 => (intro w hSw; (try dsimp only at hSw); go_simp; try (with_reducible rfl))
                try simp only [Act.put, List.setIfInBounds_toArray, List.set_cons_zero, List.set_cons_succ]
                refine htake (i := 2) (v := ?v48) rfl (by kernel_rfl) (by kernel_rfl) (by kernel_rfl) (fun _ _ _ h => pan_put h) (Or.inl ⟨by rfl, ?hy48⟩) (by assumption) ?_
                case hy48 => (intro w hSw; (try dsimp only at hSw); go_simp; try (with_reducible rfl))
                try simp only [Act.put, List.setIfInBounds_toArray, List.set_cons_zero, List.set_cons_succ]
                refine htake (i := 3) (v := ?v49) rfl (by kernel_rfl) (by kernel_rfl) (by kernel_rfl) (fun _ _ _ h => pan_put h) (Or.inl ⟨by rfl, ?hy49⟩) (by assumption) ?_
                case hy49 => (intro w hSw; (try dsimp only at hSw); go_simp; try (with_reducible rfl))
                try simp only [Act.put, List.setIfInBounds_toArray, List.set_cons_zero, List.set_cons_succ]
                refine htake (i := 6) (v := ?v50) rfl (by kernel_rfl) (by kernel_rfl) (by kernel_rfl) (fun _ _ _ h => pan_put h) (Or.inl ⟨by rfl, ?hy50⟩) (by assumption) ?_
                case hy50 => (intro w hSw; (try dsimp only at hSw); go_simp; try (with_reducible rfl))
                try simp only [Act.put, List.setIfInBounds_toArray, List.set_cons_zero, List.set_cons_succ]
                refine htake (i := 7) (v := ?v51) rfl (by kernel_rfl) (by kernel_rfl) (by kernel_rfl) (fun _ _ _ h => pan_put h) (Or.inl ⟨by rfl, ?hy51⟩) (by assumption) ?_
                case hy51 => (intro w hSw; (try dsimp only at hSw); go_simp; try (with_reducible rfl))
                try simp only [Act.put, List.setIfInBounds_toArray, List.set_cons_zero, List.set_cons_succ]
                refine htake (i := 8) (v := ?v52) rfl (by kernel_rfl) (by kernel_rfl) (by kernel_rfl) (fun _ _ _ h => pan_put h) (Or.inl ⟨by rfl, ?hy52⟩) (by assumption) ?_
                case hy52 => (intro w hSw; (try dsimp only at hSw); go_simp; try (with_reducible rfl))
                try simp only [Act.put, List.setIfInBounds_toArray, List.set_cons_zero, List.set_cons_succ]
                refine wpAnyH_ready (rs := [0, 4, 5]) (by kernel_rfl) (by simp) ?_
                refine hcons rfl (fun K hK => ?_) (hcons rfl (fun K hK => ?_) (hcons rfl (fun K hK => ?_) (AllReadyH.nil)))
                have z0 := HLV.out.1.c 0 _ rfl; go_simp; clear z0
                refine hK.out _ _ ?_ (fun hHeld => ?_)
                · (try dsimp only); exact HS.out _ HC.out
                clear hK K
                try simp only [Act.put, List.setIfInBounds_toArray, List.set_cons_zero, List.set_cons_succ]
                refine wpAnyH_ready (rs := [4, 5]) (by kernel_rfl) (by simp) ?_
                refine hcons rfl (fun K hK => ?_) (hcons rfl (fun K hK => ?_) (AllReadyH.nil))
                go_simp
                refine (HN1.out _ HLV.out.2.2.2.1).mono ?_; rintro e4 U4 ⟨rfl, hb⟩; replace HLV := Lib.hid (HLV.out.next hb); replace HC := Lib.hid (HC.out.trans (hb.mono HC.out.size)); clear hb
                refine hK.out _ _ ?_ (fun hHeld => ?_)
                · (try dsimp only); exact HS.out _ HC.out
                clear hK K
                try simp only [Act.put, List.setIfInBounds_toArray, List.set_cons_zero, List.set_cons_succ]
                refine wpAnyH_ready (rs := [5, 9]) (by kernel_rfl) (by simp) ?_
                refine hcons rfl (fun K hK => ?_) (hcons rfl (fun K hK => ?_) (AllReadyH.nil))
                have z5 := HLV.out.2.1.c 0 _ rfl; go_simp; clear z5
                refine hK.out _ _ ?_ (fun hHeld => ?_)
                · (try dsimp only); exact HS.out _ HC.out
                clear hK K
                try simp only [Act.put, List.setIfInBounds_toArray, List.set_cons_zero, List.set_cons_succ]
                refine wpAnyH_ready (rs := [9]) (by kernel_rfl) (by simp) ?_
                refine hcons rfl (fun K hK => ?_) (AllReadyH.nil)
                go_simp
                refine (HN2.out _ HLV.out.2.2.2.1).mono ?_; rintro e9 U9 ⟨rfl, hb⟩; replace HLV := Lib.hid (HLV.out.next hb); replace HC := Lib.hid (HC.out.trans (hb.mono HC.out.size)); clear hb
                refine hK.out _ _ ?_ (fun hHeld => ?_)
                · (try dsimp only); exact HS.out _ HC.out
                clear hK K
                try simp only [Act.put, List.setIfInBounds_toArray, List.set_cons_zero, List.set_cons_succ]
                refine htake (i := 10) (v := ?v53) rfl (by kernel_rfl) (by kernel_rfl) (by kernel_rfl) (fun _ _ _ h => pan_put h) (Or.inl ⟨by rfl, ?hy53⟩) (by assumption) ?_
                case hy53 => (intro w hSw; (try dsimp only at hSw); go_simp; try (with_reducible rfl))
                try simp only [Act.put, List.setIfInBounds_toArray, List.set_cons_zero, List.set_cons_succ]
                refine wpAnyH_ready (rs := [11]) (by kernel_rfl) (by simp) ?_
                refine hcons rfl (fun K hK => ?_) (AllReadyH.nil)
                go_simp
                (first | refine hold_alloc (fun Wa q1 q2 q3 => ?_) | refine hold_alloc_drew (fun Wa q1 q2 q3 => ?_)); have HN := Lib.hid (show Bx _ _ (Wo.cells ⟨a1, (last + a0), s2⟩) from q2); replace HLV := Lib.hid (HLV.out.next q1); replace HC := Lib.hid (HC.out.trans (q1.mono HC.out.size)); clear q1 q2 q3
                refine hK.out _ _ ?_ (fun hHeld => ?_)
                · (try dsimp only); exact HS.out _ HC.out
                clear hK K
                try simp only [Act.put, List.setIfInBounds_toArray, List.set_cons_zero, List.set_cons_succ]
                refine wpAnyH_ready (rs := [12]) (by kernel_rfl) (by simp) ?_
                refine hcons rfl (fun K hK => ?_) (AllReadyH.nil)
                refine step_append_any rfl (.tmp 31) (.tmp 42) 44 rfl B 66 i0 _ 4 32 Tryz.underlying44 hi hz0 hz1 hz2 rfl (by decide) (.slice A out.length cp) out.length _ rfl HLV.out.2.2.1 ⟨_, 0, none⟩ 1 1 (Wo.cells ⟨a1, (last + a0), s2⟩) rfl rfl HN.out.news (wo_one _) (by unfold maxLen; omega) (by omega) (Nat.le_trans HBS.out HC.out.size) ?_; intro v' w' hown' hgrow; have hqn := own_ne_kd HLV.out.2.2.1 (HKQ.out _ HC.out).1; have HS12 := Lib.hid (And.intro ((grown_cell hgrow (HKQ.out _ HC.out).2 hqn (off + 1)).trans (HS.out _ HC.out).1) ((grown_cell hgrow (HKQ.out _ HC.out).2 hqn (off + 2)).trans (HS.out _ HC.out).2)); have z13 := (HLV.out.1.grown hgrow (own_far HLV.out.2.2.1 hbdB)).c 0 _ rfl; have y13 := (HLV.out.1.grown hgrow (own_far HLV.out.2.2.1 hbdB)).fr 0; replace HLV := Lib.hid (HLV.out.add hbdB hbaB hbd9 hbdw hbda hown' hgrow); obtain ⟨A6, c6, e6, -⟩ := own_form hown'; subst e6; clear hown' hgrow HN hqn
                refine hK.out _ _ ?_ (fun hHeld => ?_)
                · (try dsimp only); exact HS12.out
                clear hK K
                try simp only [Act.put, List.setIfInBounds_toArray, List.set_cons_zero, List.set_cons_succ]
                refine wpAnyH_ready (rs := [13]) (by kernel_rfl) (by simp) ?_
                refine hcons rfl (fun K hK => ?_) (AllReadyH.nil)
                go_simp; clear z13 y13
                refine hK.out _ _ ?_ (fun hHeld => ?_)
                · (try dsimp only); exact ⟨(World.cell?_setCell_other _ _ _ _ (by intro e; injection e with e; exact hqbd e)).trans HS12.out.1, (World.cell?_setCell_other _ _ _ _ (by intro e; injection e with e; exact hqbd e)).trans HS12.out.2⟩
                clear hK K
                try simp only [Act.put]
                refine wpAnyH_done (by kernel_rfl) ?_ _
                dsimp only [PanTo]
                rotate_left
                go_simp
                refine (HN2.out _ HLV.out.2.2.2.1).mono ?_; rintro e9 U9 ⟨rfl, hb⟩; replace HLV := Lib.hid (HLV.out.next hb); replace HC := Lib.hid (HC.out.trans (hb.mono HC.out.size)); clear hb
                refine hK.out _ _ ?_ (fun hHeld => ?_)
                · (try dsimp only); exact HS.out _ HC.out
                clear hK K
                try simp only [Act.put, List.setIfInBounds_toArray, List.set_cons_zero, List.set_cons_succ]
                refine wpAnyH_ready (rs := [5]) (by kernel_rfl) (by simp) ?_
                refine hcons rfl (fun K hK => ?_) (AllReadyH.nil)
                have z5 := HLV.out.2.1.c 0 _ rfl; go_simp; clear z5
                refine hK.out _ _ ?_ (fun hHeld => ?_)
                · (try dsimp only); exact HS.out _ HC.out
                clear hK K
                try simp only [Act.put, List.setIfInBounds_toArray, List.set_cons_zero, List.set_cons_succ]
                refine htake (i := 10) (v := ?v54) rfl (by kernel_rfl) (by kernel_rfl) (by kernel_rfl) (fun _ _ _ h => pan_put h) (Or.inl ⟨by rfl, ?hy54⟩) (by assumption) ?_
                case hy54 => (intro w hSw; (try dsimp only at hSw); go_simp; try (with_reducible rfl))
                try simp only [Act.put, List.setIfInBounds_toArray, List.set_cons_zero, List.set_cons_succ]
                refine wpAnyH_ready (rs := [11]) (by kernel_rfl) (by simp) ?_
                refine hcons rfl (fun K hK => ?_) (AllReadyH.nil)
                go_simp
                (first | refine hold_alloc (fun Wa q1 q2 q3 => ?_) | refine hold_alloc_drew (fun Wa q1 q2 q3 => ?_)); have HN := Lib.hid (show Bx _ _ (Wo.cells ⟨a1, (last + a0), s2⟩) from q2); replace HLV := Lib.hid (HLV.out.next q1); replace HC := Lib.hid (HC.out.trans (q1.mono HC.out.size)); clear q1 q2 q3
                refine hK.out _ _ ?_ (fun hHeld => ?_)
                · (try dsimp only); exact HS.out _ HC.out
                clear hK K
                try simp only [Act.put, List.setIfInBounds_toArray, List.set_cons_zero, List.set_cons_succ]
                refine wpAnyH_ready (rs := [12]) (by kernel_rfl) (by simp) ?_
                refine hcons rfl (fun K hK => ?_) (AllReadyH.nil)
                refine step_append_any rfl (.tmp 31) (.tmp 42) 44 rfl B 66 i0 _ 4 32 Tryz.underlying44 hi hz0 hz1 hz2 rfl (by decide) (.slice A out.length cp) out.length _ rfl HLV.out.2.2.1 ⟨_, 0, none⟩ 1 1 (Wo.cells ⟨a1, (last + a0), s2⟩) rfl rfl HN.out.news (wo_one _) (by unfold maxLen; omega) (by omega) (Nat.le_trans HBS.out HC.out.size) ?_; intro v' w' hown' hgrow; have hqn := own_ne_kd HLV.out.2.2.1 (HKQ.out _ HC.out).1; have HS12 := Lib.hid (And.intro ((grown_cell hgrow (HKQ.out _ HC.out).2 hqn (off + 1)).trans (HS.out _ HC.out).1) ((grown_cell hgrow (HKQ.out _ HC.out).2 hqn (off + 2)).trans (HS.out _ HC.out).2)); have z13 := (HLV.out.1.grown hgrow (own_far HLV.out.2.2.1 hbdB)).c 0 _ rfl; have y13 := (HLV.out.1.grown hgrow (own_far HLV.out.2.2.1 hbdB)).fr 0; replace HLV := Lib.hid (HLV.out.add hbdB hbaB hbd9 hbdw hbda hown' hgrow); obtain ⟨A6, c6, e6, -⟩ := own_form hown'; subst e6; clear hown' hgrow HN hqn
                refine hK.out _ _ ?_ (fun hHeld => ?_)
                · (try dsimp only); exact HS12.out
                clear hK K
                try simp only [Act.put, List.setIfInBounds_toArray, List.set_cons_zero, List.set_cons_succ]
                refine wpAnyH_ready (rs := [13]) (by kernel_rfl) (by simp) ?_
                refine hcons rfl (fun K hK => ?_) (AllReadyH.nil)
                go_simp; clear z13 y13
                refine hK.out _ _ ?_ (fun hHeld => ?_)
                · (try dsimp only); exact ⟨(World.cell?_setCell_other _ _ _ _ (by intro e; injection e with e; exact hqbd e)).trans HS12.out.1, (World.cell?_setCell_other _ _ _ _ (by intro e; injection e with e; exact hqbd e)).trans HS12.out.2⟩
                clear hK K
                try simp only [Act.put]
                refine wpAnyH_done (by kernel_rfl) ?_ _
                dsimp only [PanTo]
                rotate_left
                have z5 := HLV.out.2.1.c 0 _ rfl; go_simp; clear z5
                refine hK.out _ _ ?_ (fun hHeld => ?_)
                · (try dsimp only); exact HS.out _ HC.out
                clear hK K
                try simp only [Act.put, List.setIfInBounds_toArray, List.set_cons_zero, List.set_cons_succ]
                refine wpAnyH_ready (rs := [4]) (by kernel_rfl) (by simp) ?_
                refine hcons rfl (fun K hK => ?_) (AllReadyH.nil)
                go_simp
                refine (HN1.out _ HLV.out.2.2.2.1).mono ?_; rintro e4 U4 ⟨rfl, hb⟩; replace HLV := Lib.hid (HLV.out.next hb); replace HC := Lib.hid (HC.out.trans (hb.mono HC.out.size)); clear hb
                refine hK.out _ _ ?_ (fun hHeld => ?_)
                · (try dsimp only); exact HS.out _ HC.out
                clear hK K
                try simp only [Act.put, List.setIfInBounds_toArray, List.set_cons_zero, List.set_cons_succ]
                refine wpAnyH_ready (rs := [9]) (by kernel_rfl) (by simp) ?_
                refine hcons rfl (fun K hK => ?_) (AllReadyH.nil)
                go_simp
                refine (HN2.out _ HLV.out.2.2.2.1).mono ?_; rintro e9 U9 ⟨rfl, hb⟩; replace HLV := Lib.hid (HLV.out.next hb); replace HC := Lib.hid (HC.out.trans (hb.mono HC.out.size)); clear hb
                refine hK.out _ _ ?_ (fun hHeld => ?_)
                · (try dsimp only); exact HS.out _ HC.out
                clear hK K
                try simp only [Act.put, List.setIfInBounds_toArray, List.set_cons_zero, List.set_cons_succ]
                refine htake (i := 10) (v := ?v55) rfl (by kernel_rfl) (by kernel_rfl) (by kernel_rfl) (fun _ _ _ h => pan_put h) (Or.inl ⟨by rfl, ?hy55⟩) (by assumption) ?_
                case hy55 => (intro w hSw; (try dsimp only at hSw); go_simp; try (with_reducible rfl))
                try simp only [Act.put, List.setIfInBounds_toArray, List.set_cons_zero, List.set_cons_succ]
                refine wpAnyH_ready (rs := [11]) (by kernel_rfl) (by simp) ?_
                refine hcons rfl (fun K hK => ?_) (AllReadyH.nil)
                go_simp
                (first | refine hold_alloc (fun Wa q1 q2 q3 => ?_) | refine hold_alloc_drew (fun Wa q1 q2 q3 => ?_)); have HN := Lib.hid (show Bx _ _ (Wo.cells ⟨a1, (last + a0), s2⟩) from q2); replace HLV := Lib.hid (HLV.out.next q1); replace HC := Lib.hid (HC.out.trans (q1.mono HC.out.size)); clear q1 q2 q3
                refine hK.out _ _ ?_ (fun hHeld => ?_)
                · (try dsimp only); exact HS.out _ HC.out
                clear hK K
                try simp only [Act.put, List.setIfInBounds_toArray, List.set_cons_zero, List.set_cons_succ]
                refine wpAnyH_ready (rs := [12]) (by kernel_rfl) (by simp) ?_
                refine hcons rfl (fun K hK => ?_) (AllReadyH.nil)
                refine step_append_any rfl (.tmp 31) (.tmp 42) 44 rfl B 66 i0 _ 4 32 Tryz.underlying44 hi hz0 hz1 hz2 rfl (by decide) (.slice A out.length cp) out.length _ rfl HLV.out.2.2.1 ⟨_, 0, none⟩ 1 1 (Wo.cells ⟨a1, (last + a0), s2⟩) rfl rfl HN.out.news (wo_one _) (by unfold maxLen; omega) (by omega) (Nat.le_trans HBS.out HC.out.size) ?_; intro v' w' hown' hgrow; have hqn := own_ne_kd HLV.out.2.2.1 (HKQ.out _ HC.out).1; have HS12 := Lib.hid (And.intro ((grown_cell hgrow (HKQ.out _ HC.out).2 hqn (off + 1)).trans (HS.out _ HC.out).1) ((grown_cell hgrow (HKQ.out _ HC.out).2 hqn (off + 2)).trans (HS.out _ HC.out).2)); have z13 := (HLV.out.1.grown hgrow (own_far HLV.out.2.2.1 hbdB)).c 0 _ rfl; have y13 := (HLV.out.1.grown hgrow (own_far HLV.out.2.2.1 hbdB)).fr 0; replace HLV := Lib.hid (HLV.out.add hbdB hbaB hbd9 hbdw hbda hown' hgrow); obtain ⟨A6, c6, e6, -⟩ := own_form hown'; subst e6; clear hown' hgrow HN hqn
                refine hK.out _ _ ?_ (fun hHeld => ?_)
                · (try dsimp only); exact HS12.out
                clear hK K
                try simp only [Act.put, List.setIfInBounds_toArray, List.set_cons_zero, List.set_cons_succ]
                refine wpAnyH_ready (rs := [13]) (by kernel_rfl) (by simp) ?_
                refine hcons rfl (fun K hK => ?_) (AllReadyH.nil)
                go_simp; clear z13 y13
                refine hK.out _ _ ?_ (fun hHeld => ?_)
                · (try dsimp only); exact ⟨(World.cell?_setCell_other _ _ _ _ (by intro e; injection e with e; exact hqbd e)).trans HS12.out.1, (World.cell?_setCell_other _ _ _ _ (by intro e; injection e with e; exact hqbd e)).trans HS12.out.2⟩
                clear hK K
                try simp only [Act.put]
                refine wpAnyH_done (by kernel_rfl) ?_ _
                dsimp only [PanTo]
                rotate_left
                go_simp
                refine (HN1.out _ HLV.out.2.2.2.1).mono ?_; rintro e4 U4 ⟨rfl, hb⟩; replace HLV := Lib.hid (HLV.out.next hb); replace HC := Lib.hid (HC.out.trans (hb.mono HC.out.size)); clear hb
                refine hK.out _ _ ?_ (fun hHeld => ?_)
                · (try dsimp only); exact HS.out _ HC.out
                clear hK K
                try simp only [Act.put, List.setIfInBounds_toArray, List.set_cons_zero, List.set_cons_succ]
                refine wpAnyH_ready (rs := [0, 5, 9]) (by kernel_rfl) (by simp) ?_
                refine hcons rfl (fun K hK => ?_) (hcons rfl (fun K hK => ?_) (hcons rfl (fun K hK => ?_) (AllReadyH.nil)))
                have z0 := HLV.out.1.c 0 _ rfl; go_simp; clear z0
                refine hK.out _ _ ?_ (fun hHeld => ?_)
                · (try dsimp only); exact HS.out _ HC.out
                clear hK K
                try simp only [Act.put, List.setIfInBounds_toArray, List.set_cons_zero, List.set_cons_succ]
                refine wpAnyH_ready (rs := [5, 9]) (by kernel_rfl) (by simp) ?_
                refine hcons rfl (fun K hK => ?_) (hcons rfl (fun K hK => ?_) (AllReadyH.nil))
                have z5 := HLV.out.2.1.c 0 _ rfl; go_simp; clear z5
                refine hK.out _ _ ?_ (fun hHeld => ?_)
                · (try dsimp only); exact HS.out _ HC.out
                clear hK K
                try simp only [Act.put, List.setIfInBounds_toArray, List.set_cons_zero, List.set_cons_succ]
                refine wpAnyH_ready (rs := [9]) (by kernel_rfl) (by simp) ?_
                refine hcons rfl (fun K hK => ?_) (AllReadyH.nil)
                go_simp
                refine (HN2.out _ HLV.out.2.2.2.1).mono ?_; rintro e9 U9 ⟨rfl, hb⟩; replace HLV := Lib.hid (HLV.out.next hb); replace HC := Lib.hid (HC.out.trans (hb.mono HC.out.size)); clear hb
                refine hK.out _ _ ?_ (fun hHeld => ?_)
                · (try dsimp only); exact HS.out _ HC.out
                clear hK K
                try simp only [Act.put, List.setIfInBounds_toArray, List.set_cons_zero, List.set_cons_succ]
                refine htake (i := 10) (v := ?v56) rfl (by kernel_rfl) (by kernel_rfl) (by kernel_rfl) (fun _ _ _ h => pan_put h) (Or.inl ⟨by rfl, ?hy56⟩) (by assumption) ?_
                case hy56 => (intro w hSw; (try dsimp only at hSw); go_simp; try (with_reducible rfl))
                try simp only [Act.put, List.setIfInBounds_toArray, List.set_cons_zero, List.set_cons_succ]
                refine wpAnyH_ready (rs := [11]) (by kernel_rfl) (by simp) ?_
                refine hcons rfl (fun K hK => ?_) (AllReadyH.nil)
                go_simp
                (first | refine hold_alloc (fun Wa q1 q2 q3 => ?_) | refine hold_alloc_drew (fun Wa q1 q2 q3 => ?_)); have HN := Lib.hid (show Bx _ _ (Wo.cells ⟨a1, (last + a0), s2⟩) from q2); replace HLV := Lib.hid (HLV.out.next q1); replace HC := Lib.hid (HC.out.trans (q1.mono HC.out.size)); clear q1 q2 q3
                refine hK.out _ _ ?_ (fun hHeld => ?_)
                · (try dsimp only); exact HS.out _ HC.out
                clear hK K
                try simp only [Act.put, List.setIfInBounds_toArray, List.set_cons_zero, List.set_cons_succ]
                refine wpAnyH_ready (rs := [12]) (by kernel_rfl) (by simp) ?_
                refine hcons rfl (fun K hK => ?_) (AllReadyH.nil)
                refine step_append_any rfl (.tmp 31) (.tmp 42) 44 rfl B 66 i0 _ 4 32 Tryz.underlying44 hi hz0 hz1 hz2 rfl (by decide) (.slice A out.length cp) out.length _ rfl HLV.out.2.2.1 ⟨_, 0, none⟩ 1 1 (Wo.cells ⟨a1, (last + a0), s2⟩) rfl rfl HN.out.news (wo_one _) (by unfold maxLen; omega) (by omega) (Nat.le_trans HBS.out HC.out.size) ?_; intro v' w' hown' hgrow; have hqn := own_ne_kd HLV.out.2.2.1 (HKQ.out _ HC.out).1; have HS12 := Lib.hid (And.intro ((grown_cell hgrow (HKQ.out _ HC.out).2 hqn (off + 1)).trans (HS.out _ HC.out).1) ((grown_cell hgrow (HKQ.out _ HC.out).2 hqn (off + 2)).trans (HS.out _ HC.out).2)); have z13 := (HLV.out.1.grown hgrow (own_far HLV.out.2.2.1 hbdB)).c 0 _ rfl; have y13 := (HLV.out.1.grown hgrow (own_far HLV.out.2.2.1 hbdB)).fr 0; replace HLV := Lib.hid (HLV.out.add hbdB hbaB hbd9 hbdw hbda hown' hgrow); obtain ⟨A6, c6, e6, -⟩ := own_form hown'; subst e6; clear hown' hgrow HN hqn
                refine hK.out _ _ ?_ (fun hHeld => ?_)
                · (try dsimp only); exact HS12.out
                clear hK K
                try simp only [Act.put, List.setIfInBounds_toArray, List.set_cons_zero, List.set_cons_succ]
                refine wpAnyH_ready (rs := [13]) (by kernel_rfl) (by simp) ?_
                refine hcons rfl (fun K hK => ?_) (AllReadyH.nil)
                go_simp; clear z13 y13
                refine hK.out _ _ ?_ (fun hHeld => ?_)
                · (try dsimp only); exact ⟨(World.cell?_setCell_other _ _ _ _ (by intro e; injection e with e; exact hqbd e)).trans HS12.out.1, (World.cell?_setCell_other _ _ _ _ (by intro e; injection e with e; exact hqbd e)).trans HS12.out.2⟩
                clear hK K
                try simp only [Act.put]
                refine wpAnyH_done (by kernel_rfl) ?_ _
                dsimp only [PanTo]
                rotate_left
                go_simp
                refine (HN2.out _ HLV.out.2.2.2.1).mono ?_; rintro e9 U9 ⟨rfl, hb⟩; replace HLV := Lib.hid (HLV.out.next hb); replace HC := Lib.hid (HC.out.trans (hb.mono HC.out.size)); clear hb
                refine hK.out _ _ ?_ (fun hHeld => ?_)
                · (try dsimp only); exact HS.out _ HC.out
                clear hK K
                try simp only [Act.put, List.setIfInBounds_toArray, List.set_cons_zero, List.set_cons_succ]
                refine wpAnyH_ready (rs := [5]) (by kernel_rfl) (by simp) ?_
                refine hcons rfl (fun K hK => ?_) (AllReadyH.nil)
                have z5 := HLV.out.2.1.c 0 _ rfl; go_simp; clear z5
                refine hK.out _ _ ?_ (fun hHeld => ?_)
                · (try dsimp only); exact HS.out _ HC.out
                clear hK K
                try simp only [Act.put, List.setIfInBounds_toArray, List.set_cons_zero, List.set_cons_succ]
                refine htake (i := 10) (v := ?v57) rfl (by kernel_rfl) (by kernel_rfl) (by kernel_rfl) (fun _ _ _ h => pan_put h) (Or.inl ⟨by rfl, ?hy57⟩) (by assumption) ?_
                case hy57 => (intro w hSw; (try dsimp only at hSw); go_simp; try (with_reducible rfl))
                try simp only [Act.put, List.setIfInBounds_toArray, List.set_cons_zero, List.set_cons_succ]
                refine wpAnyH_ready (rs := [11]) (by kernel_rfl) (by simp) ?_
                refine hcons rfl (fun K hK => ?_) (AllReadyH.nil)
                go_simp
                (first | refine hold_alloc (fun Wa q1 q2 q3 => ?_) | refine hold_alloc_drew (fun Wa q1 q2 q3 => ?_)); have HN := Lib.hid (show Bx _ _ (Wo.cells ⟨a1, (last + a0), s2⟩) from q2); replace HLV := Lib.hid (HLV.out.next q1); replace HC := Lib.hid (HC.out.trans (q1.mono HC.out.size)); clear q1 q2 q3
                refine hK.out _ _ ?_ (fun hHeld => ?_)
                · (try dsimp only); exact HS.out _ HC.out
                clear hK K
                try simp only [Act.put, List.setIfInBounds_toArray, List.set_cons_zero, List.set_cons_succ]
                refine wpAnyH_ready (rs := [12]) (by kernel_rfl) (by simp) ?_
                refine hcons rfl (fun K hK => ?_) (AllReadyH.nil)
                refine step_append_any rfl (.tmp 31) (.tmp 42) 44 rfl B 66 i0 _ 4 32 Tryz.underlying44 hi hz0 hz1 hz2 rfl (by decide) (.slice A out.length cp) out.length _ rfl HLV.out.2.2.1 ⟨_, 0, none⟩ 1 1 (Wo.cells ⟨a1, (last + a0), s2⟩) rfl rfl HN.out.news (wo_one _) (by unfold maxLen; omega) (by omega) (Nat.le_trans HBS.out HC.out.size) ?_; intro v' w' hown' hgrow; have hqn := own_ne_kd HLV.out.2.2.1 (HKQ.out _ HC.out).1; have HS12 := Lib.hid (And.intro ((grown_cell hgrow (HKQ.out _ HC.out).2 hqn (off + 1)).trans (HS.out _ HC.out).1) ((grown_cell hgrow (HKQ.out _ HC.out).2 hqn (off + 2)).trans (HS.out _ HC.out).2)); have z13 := (HLV.out.1.grown hgrow (own_far HLV.out.2.2.1 hbdB)).c 0 _ rfl; have y13 := (HLV.out.1.grown hgrow (own_far HLV.out.2.2.1 hbdB)).fr 0; replace HLV := Lib.hid (HLV.out.add hbdB hbaB hbd9 hbdw hbda hown' hgrow); obtain ⟨A6, c6, e6, -⟩ := own_form hown'; subst e6; clear hown' hgrow HN hqn
                refine hK.out _ _ ?_ (fun hHeld => ?_)
                · (try dsimp only); exact HS12.out
                clear hK K
                try simp only [Act.put, List.setIfInBounds_toArray, List.set_cons_zero, List.set_cons_succ]
                refine wpAnyH_ready (rs := [13]) (by kernel_rfl) (by simp) ?_
                refine hcons rfl (fun K hK => ?_) (AllReadyH.nil)
                go_simp; clear z13 y13
                refine hK.out _ _ ?_ (fun hHeld => ?_)
                · (try dsimp only); exact ⟨(World.cell?_setCell_other _ _ _ _ (by intro e; injection e with e; exact hqbd e)).trans HS12.out.1, (World.cell?_setCell_other _ _ _ _ (by intro e; injection e with e; exact hqbd e)).trans HS12.out.2⟩
                clear hK K
                try simp only [Act.put]
                refine wpAnyH_done (by kernel_rfl) ?_ _
                dsimp only [PanTo]
                rotate_left
                have z5 := HLV.out.2.1.c 0 _ rfl; go_simp; clear z5
                refine hK.out _ _ ?_ (fun hHeld => ?_)
                · (try dsimp only); exact HS.out _ HC.out
                clear hK K
                try simp only [Act.put, List.setIfInBounds_toArray, List.set_cons_zero, List.set_cons_succ]
                refine wpAnyH_ready (rs := [0, 9]) (by kernel_rfl) (by simp) ?_
                refine hcons rfl (fun K hK => ?_) (hcons rfl (fun K hK => ?_) (AllReadyH.nil))
                have z0 := HLV.out.1.c 0 _ rfl; go_simp; clear z0
                refine hK.out _ _ ?_ (fun hHeld => ?_)
                · (try dsimp only); exact HS.out _ HC.out
                clear hK K
                try simp only [Act.put, List.setIfInBounds_toArray, List.set_cons_zero, List.set_cons_succ]
                refine wpAnyH_ready (rs := [9]) (by kernel_rfl) (by simp) ?_
                refine hcons rfl (fun K hK => ?_) (AllReadyH.nil)
                go_simp
                refine (HN2.out _ HLV.out.2.2.2.1).mono ?_; rintro e9 U9 ⟨rfl, hb⟩; replace HLV := Lib.hid (HLV.out.next hb); replace HC := Lib.hid (HC.out.trans (hb.mono HC.out.size)); clear hb
                refine hK.out _ _ ?_ (fun hHeld => ?_)
                · (try dsimp only); exact HS.out _ HC.out
                clear hK K
                try simp only [Act.put, List.setIfInBounds_toArray, List.set_cons_zero, List.set_cons_succ]
                refine htake (i := 10) (v := ?v58) rfl (by kernel_rfl) (by kernel_rfl) (by kernel_rfl) (fun _ _ _ h => pan_put h) (Or.inl ⟨by rfl, ?hy58⟩) (by assumption) ?_
                case hy58 => (intro w hSw; (try dsimp only at hSw); go_simp; try (with_reducible rfl))
                try simp only [Act.put, List.setIfInBounds_toArray, List.set_cons_zero, List.set_cons_succ]
                refine wpAnyH_ready (rs := [11]) (by kernel_rfl) (by simp) ?_
                refine hcons rfl (fun K hK => ?_) (AllReadyH.nil)
                go_simp
                (first | refine hold_alloc (fun Wa q1 q2 q3 => ?_) | refine hold_alloc_drew (fun Wa q1 q2 q3 => ?_)); have HN := Lib.hid (show Bx _ _ (Wo.cells ⟨a1, (last + a0), s2⟩) from q2); replace HLV := Lib.hid (HLV.out.next q1); replace HC := Lib.hid (HC.out.trans (q1.mono HC.out.size)); clear q1 q2 q3
                refine hK.out _ _ ?_ (fun hHeld => ?_)
                · (try dsimp only); exact HS.out _ HC.out
                clear hK K
                try simp only [Act.put, List.setIfInBounds_toArray, List.set_cons_zero, List.set_cons_succ]
                refine wpAnyH_ready (rs := [12]) (by kernel_rfl) (by simp) ?_
                refine hcons rfl (fun K hK => ?_) (AllReadyH.nil)
                refine step_append_any rfl (.tmp 31) (.tmp 42) 44 rfl B 66 i0 _ 4 32 Tryz.underlying44 hi hz0 hz1 hz2 rfl (by decide) (.slice A out.length cp) out.length _ rfl HLV.out.2.2.1 ⟨_, 0, none⟩ 1 1 (Wo.cells ⟨a1, (last + a0), s2⟩) rfl rfl HN.out.news (wo_one _) (by unfold maxLen; omega) (by omega) (Nat.le_trans HBS.out HC.out.size) ?_; intro v' w' hown' hgrow; have hqn := own_ne_kd HLV.out.2.2.1 (HKQ.out _ HC.out).1; have HS12 := Lib.hid (And.intro ((grown_cell hgrow (HKQ.out _ HC.out).2 hqn (off + 1)).trans (HS.out _ HC.out).1) ((grown_cell hgrow (HKQ.out _ HC.out).2 hqn (off + 2)).trans (HS.out _ HC.out).2)); have z13 := (HLV.out.1.grown hgrow (own_far HLV.out.2.2.1 hbdB)).c 0 _ rfl; have y13 := (HLV.out.1.grown hgrow (own_far HLV.out.2.2.1 hbdB)).fr 0; replace HLV := Lib.hid (HLV.out.add hbdB hbaB hbd9 hbdw hbda hown' hgrow); obtain ⟨A6, c6, e6, -⟩ := own_form hown'; subst e6; clear hown' hgrow HN hqn
                refine hK.out _ _ ?_ (fun hHeld => ?_)
                · (try dsimp only); exact HS12.out
                clear hK K
                try simp only [Act.put, List.setIfInBounds_toArray, List.set_cons_zero, List.set_cons_succ]
                refine wpAnyH_ready (rs := [13]) (by kernel_rfl) (by simp) ?_
                refine hcons rfl (fun K hK => ?_) (AllReadyH.nil)
                go_simp; clear z13 y13
                refine hK.out _ _ ?_ (fun hHeld => ?_)
                · (try dsimp only); exact ⟨(World.cell?_setCell_other _ _ _ _ (by intro e; injection e with e; exact hqbd e)).trans HS12.out.1, (World.cell?_setCell_other _ _ _ _ (by intro e; injection e with e; exact hqbd e)).trans HS12.out.2⟩
                clear hK K
                try simp only [Act.put]
                refine wpAnyH_done (by kernel_rfl) ?_ _
                dsimp only [PanTo]
                rotate_left
                go_simp
                refine (HN2.out _ HLV.out.2.2.2.1).mono ?_; rintro e9 U9 ⟨rfl, hb⟩; replace HLV := Lib.hid (HLV.out.next hb); replace HC := Lib.hid (HC.out.trans (hb.mono HC.out.size)); clear hb
                refine hK.out _ _ ?_ (fun hHeld => ?_)
                · (try dsimp only); exact HS.out _ HC.out
                clear hK K
                try simp only [Act.put, List.setIfInBounds_toArray, List.set_cons_zero, List.set_cons_succ]
                refine htake (i := 10) (v := ?v59) rfl (by kernel_rfl) (by kernel_rfl) (by kernel_rfl) (fun _ _ _ h => pan_put h) (Or.inl ⟨by rfl, ?hy59⟩) (by assumption) ?_
                case hy59 => (intro w hSw; (try dsimp only at hSw); go_simp; try (with_reducible rfl))
                try simp only [Act.put, List.setIfInBounds_toArray, List.set_cons_zero, List.set_cons_succ]
                refine wpAnyH_ready (rs := [0, 11]) (by kernel_rfl) (by simp) ?_
                refine hcons rfl (fun K hK => ?_) (hcons rfl (fun K hK => ?_) (AllReadyH.nil))
                have z0 := HLV.out.1.c 0 _ rfl; go_simp; clear z0
                refine hK.out _ _ ?_ (fun hHeld => ?_)
                · (try dsimp only); exact HS.out _ HC.out
                clear hK K
                try simp only [Act.put, List.setIfInBounds_toArray, List.set_cons_zero, List.set_cons_succ]
                refine wpAnyH_ready (rs := [11]) (by kernel_rfl) (by simp) ?_
                refine hcons rfl (fun K hK => ?_) (AllReadyH.nil)
                go_simp
                (first | refine hold_alloc (fun Wa q1 q2 q3 => ?_) | refine hold_alloc_drew (fun Wa q1 q2 q3 => ?_)); have HN := Lib.hid (show Bx _ _ (Wo.cells ⟨a1, (last + a0), s2⟩) from q2); replace HLV := Lib.hid (HLV.out.next q1); replace HC := Lib.hid (HC.out.trans (q1.mono HC.out.size)); clear q1 q2 q3
                refine hK.out _ _ ?_ (fun hHeld => ?_)
                · (try dsimp only); exact HS.out _ HC.out
                clear hK K
                try simp only [Act.put, List.setIfInBounds_toArray, List.set_cons_zero, List.set_cons_succ]
                refine wpAnyH_ready (rs := [12]) (by kernel_rfl) (by simp) ?_
                refine hcons rfl (fun K hK => ?_) (AllReadyH.nil)
                refine step_append_any rfl (.tmp 31) (.tmp 42) 44 rfl B 66 i0 _ 4 32 Tryz.underlying44 hi hz0 hz1 hz2 rfl (by decide) (.slice A out.length cp) out.length _ rfl HLV.out.2.2.1 ⟨_, 0, none⟩ 1 1 (Wo.cells ⟨a1, (last + a0), s2⟩) rfl rfl HN.out.news (wo_one _) (by unfold maxLen; omega) (by omega) (Nat.le_trans HBS.out HC.out.size) ?_; intro v' w' hown' hgrow; have hqn := own_ne_kd HLV.out.2.2.1 (HKQ.out _ HC.out).1; have HS12 := Lib.hid (And.intro ((grown_cell hgrow (HKQ.out _ HC.out).2 hqn (off + 1)).trans (HS.out _ HC.out).1) ((grown_cell hgrow (HKQ.out _ HC.out).2 hqn (off + 2)).trans (HS.out _ HC.out).2)); have z13 := (HLV.out.1.grown hgrow (own_far HLV.out.2.2.1 hbdB)).c 0 _ rfl; have y13 := (HLV.out.1.grown hgrow (own_far HLV.out.2.2.1 hbdB)).fr 0; replace HLV := Lib.hid (HLV.out.add hbdB hbaB hbd9 hbdw hbda hown' hgrow); obtain ⟨A6, c6, e6, -⟩ := own_form hown'; subst e6; clear hown' hgrow HN hqn
                refine hK.out _ _ ?_ (fun hHeld => ?_)
                · (try dsimp only); exact HS12.out
                clear hK K
                try simp only [Act.put, List.setIfInBounds_toArray, List.set_cons_zero, List.set_cons_succ]
                refine wpAnyH_ready (rs := [13]) (by kernel_rfl) (by simp) ?_
                refine hcons rfl (fun K hK => ?_) (AllReadyH.nil)
                go_simp; clear z13 y13
                refine hK.out _ _ ?_ (fun hHeld => ?_)
                · (try dsimp only); exact ⟨(World.cell?_setCell_other _ _ _ _ (by intro e; injection e with e; exact hqbd e)).trans HS12.out.1, (World.cell?_setCell_other _ _ _ _ (by intro e; injection e with e; exact hqbd e)).trans HS12.out.2⟩
                clear hK K
                try simp only [Act.put]
                refine wpAnyH_done (by kernel_rfl) ?_ _
                dsimp only [PanTo]
                rotate_left
                go_simp
                (first | refine hold_alloc (fun Wa q1 q2 q3 => ?_) | refine hold_alloc_drew (fun Wa q1 q2 q3 => ?_)); have HN := Lib.hid (show Bx _ _ (Wo.cells ⟨a1, (last + a0), s2⟩) from q2); replace HLV := Lib.hid (HLV.out.next q1); replace HC := Lib.hid (HC.out.trans (q1.mono HC.out.size)); clear q1 q2 q3
                refine hK.out _ _ ?_ (fun hHeld => ?_)
                · (try dsimp only); exact HS.out _ HC.out
                clear hK K
                try simp only [Act.put, List.setIfInBounds_toArray, List.set_cons_zero, List.set_cons_succ]
                refine wpAnyH_ready (rs := [0]) (by kernel_rfl) (by simp) ?_
                refine hcons rfl (fun K hK => ?_) (AllReadyH.nil)
                have z0 := HLV.out.1.c 0 _ rfl; go_simp; clear z0
                refine hK.out _ _ ?_ (fun hHeld => ?_)
                · (try dsimp only); exact HS.out _ HC.out
                clear hK K
                try simp only [Act.put, List.setIfInBounds_toArray, List.set_cons_zero, List.set_cons_succ]
                refine wpAnyH_ready (rs := [12]) (by kernel_rfl) (by simp) ?_
                refine hcons rfl (fun K hK => ?_) (AllReadyH.nil)
                refine step_append_any rfl (.tmp 31) (.tmp 42) 44 rfl B 66 i0 _ 4 32 Tryz.underlying44 hi hz0 hz1 hz2 rfl (by decide) (.slice A out.length cp) out.length _ rfl HLV.out.2.2.1 ⟨_, 0, none⟩ 1 1 (Wo.cells ⟨a1, (last + a0), s2⟩) rfl rfl HN.out.news (wo_one _) (by unfold maxLen; omega) (by omega) (Nat.le_trans HBS.out HC.out.size) ?_; intro v' w' hown' hgrow; have hqn := own_ne_kd HLV.out.2.2.1 (HKQ.out _ HC.out).1; have HS12 := Lib.hid (And.intro ((grown_cell hgrow (HKQ.out _ HC.out).2 hqn (off + 1)).trans (HS.out _ HC.out).1) ((grown_cell hgrow (HKQ.out _ HC.out).2 hqn (off + 2)).trans (HS.out _ HC.out).2)); have z13 := (HLV.out.1.grown hgrow (own_far HLV.out.2.2.1 hbdB)).c 0 _ rfl; have y13 := (HLV.out.1.grown hgrow (own_far HLV.out.2.2.1 hbdB)).fr 0; replace HLV := Lib.hid (HLV.out.add hbdB hbaB hbd9 hbdw hbda hown' hgrow); obtain ⟨A6, c6, e6, -⟩ := own_form hown'; subst e6; clear hown' hgrow HN hqn
                refine hK.out _ _ ?_ (fun hHeld => ?_)
                · (try dsimp only); exact HS12.out
                clear hK K
                try simp only [Act.put, List.setIfInBounds_toArray, List.set_cons_zero, List.set_cons_succ]
                refine wpAnyH_ready (rs := [13]) (by kernel_rfl) (by simp) ?_
                refine hcons rfl (fun K hK => ?_) (AllReadyH.nil)
                go_simp; clear z13 y13
                refine hK.out _ _ ?_ (fun hHeld => ?_)
                · (try dsimp only); exact ⟨(World.cell?_setCell_other _ _ _ _ (by intro e; injection e with e; exact hqbd e)).trans HS12.out.1, (World.cell?_setCell_other _ _ _ _ (by intro e; injection e with e; exact hqbd e)).trans HS12.out.2⟩
                clear hK K
                try simp only [Act.put]
                refine wpAnyH_done (by kernel_rfl) ?_ _
                dsimp only [PanTo]
                rotate_left
                go_simp
                refine (HN2.out _ HLV.out.2.2.2.1).mono ?_; rintro e9 U9 ⟨rfl, hb⟩; replace HLV := Lib.hid (HLV.out.next hb); replace HC := Lib.hid (HC.out.trans (hb.mono HC.out.size)); clear hb
                refine hK.out _ _ ?_ (fun hHeld => ?_)
                · (try dsimp only); exact HS.out _ HC.out
                clear hK K
                try simp only [Act.put, List.setIfInBounds_toArray, List.set_cons_zero, List.set_cons_succ]
                refine wpAnyH_ready (rs := [0, 5]) (by kernel_rfl) (by simp) ?_
                refine hcons rfl (fun K hK => ?_) (hcons rfl (fun K hK => ?_) (AllReadyH.nil))
                have z0 := HLV.out.1.c 0 _ rfl; go_simp; clear z0
                refine hK.out _ _ ?_ (fun hHeld => ?_)
                · (try dsimp only); exact HS.out _ HC.out
                clear hK K
                try simp only [Act.put, List.setIfInBounds_toArray, List.set_cons_zero, List.set_cons_succ]
                refine wpAnyH_ready (rs := [5]) (by kernel_rfl) (by simp) ?_
                refine hcons rfl (fun K hK => ?_) (AllReadyH.nil)
                have z5 := HLV.out.2.1.c 0 _ rfl; go_simp; clear z5
                refine hK.out _ _ ?_ (fun hHeld => ?_)
                · (try dsimp only); exact HS.out _ HC.out
                clear hK K
                try simp only [Act.put, List.setIfInBounds_toArray, List.set_cons_zero, List.set_cons_succ]
                refine htake (i := 10) (v := ?v60) rfl (by kernel_rfl) (by kernel_rfl) (by kernel_rfl) (fun _ _ _ h => pan_put h) (Or.inl ⟨by rfl, ?hy60⟩) (by assumption) ?_
                case hy60 => (intro w hSw; (try dsimp only at hSw); go_simp; try (with_reducible rfl))
                try simp only [Act.put, List.setIfInBounds_toArray, List.set_cons_zero, List.set_cons_succ]
                refine wpAnyH_ready (rs := [11]) (by kernel_rfl) (by simp) ?_
                refine hcons rfl (fun K hK => ?_) (AllReadyH.nil)
                go_simp
                (first | refine hold_alloc (fun Wa q1 q2 q3 => ?_) | refine hold_alloc_drew (fun Wa q1 q2 q3 => ?_)); have HN := Lib.hid (show Bx _ _ (Wo.cells ⟨a1, (last + a0), s2⟩) from q2); replace HLV := Lib.hid (HLV.out.next q1); replace HC := Lib.hid (HC.out.trans (q1.mono HC.out.size)); clear q1 q2 q3
                refine hK.out _ _ ?_ (fun hHeld => ?_)
                · (try dsimp only); exact HS.out _ HC.out
                clear hK K
                try simp only [Act.put, List.setIfInBounds_toArray, List.set_cons_zero, List.set_cons_succ]
                refine wpAnyH_ready (rs := [12]) (by kernel_rfl) (by simp) ?_
                refine hcons rfl (fun K hK => ?_) (AllReadyH.nil)
                refine step_append_any rfl (.tmp 31) (.tmp 42) 44 rfl B 66 i0 _ 4 32 Tryz.underlying44 hi hz0 hz1 hz2 rfl (by decide) (.slice A out.length cp) out.length _ rfl HLV.out.2.2.1 ⟨_, 0, none⟩ 1 1 (Wo.cells ⟨a1, (last + a0), s2⟩) rfl rfl HN.out.news (wo_one _) (by unfold maxLen; omega) (by omega) (Nat.le_trans HBS.out HC.out.size) ?_; intro v' w' hown' hgrow; have hqn := own_ne_kd HLV.out.2.2.1 (HKQ.out _ HC.out).1; have HS12 := Lib.hid (And.intro ((grown_cell hgrow (HKQ.out _ HC.out).2 hqn (off + 1)).trans (HS.out _ HC.out).1) ((grown_cell hgrow (HKQ.out _ HC.out).2 hqn (off + 2)).trans (HS.out _ HC.out).2)); have z13 := (HLV.out.1.grown hgrow (own_far HLV.out.2.2.1 hbdB)).c 0 _ rfl; have y13 := (HLV.out.1.grown hgrow (own_far HLV.out.2.2.1 hbdB)).fr 0; replace HLV := Lib.hid (HLV.out.add hbdB hbaB hbd9 hbdw hbda hown' hgrow); obtain ⟨A6, c6, e6, -⟩ := own_form hown'; subst e6; clear hown' hgrow HN hqn
                refine hK.out _ _ ?_ (fun hHeld => ?_)
                · (try dsimp only); exact HS12.out
                clear hK K
                try simp only [Act.put, List.setIfInBounds_toArray, List.set_cons_zero, List.set_cons_succ]
                refine wpAnyH_ready (rs := [13]) (by kernel_rfl) (by simp) ?_
                refine hcons rfl (fun K hK => ?_) (AllReadyH.nil)
                go_simp; clear z13 y13
                refine hK.out _ _ ?_ (fun hHeld => ?_)
                · (try dsimp only); exact ⟨(World.cell?_setCell_other _ _ _ _ (by intro e; injection e with e; exact hqbd e)).trans HS12.out.1, (World.cell?_setCell_other _ _ _ _ (by intro e; injection e with e; exact hqbd e)).trans HS12.out.2⟩
                clear hK K
                try simp only [Act.put]
                refine wpAnyH_done (by kernel_rfl) ?_ _
                dsimp only [PanTo]
                rotate_left
                have z5 := HLV.out.2.1.c 0 _ rfl; go_simp; clear z5
                refine hK.out _ _ ?_ (fun hHeld => ?_)
                · (try dsimp only); exact HS.out _ HC.out
                clear hK K
                try simp only [Act.put, List.setIfInBounds_toArray, List.set_cons_zero, List.set_cons_succ]
                refine htake (i := 10) (v := ?v61) rfl (by kernel_rfl) (by kernel_rfl) (by kernel_rfl) (fun _ _ _ h => pan_put h) (Or.inl ⟨by rfl, ?hy61⟩) (by assumption) ?_
                case hy61 => (intro w hSw; (try dsimp only at hSw); go_simp; try (with_reducible rfl))
                try simp only [Act.put, List.setIfInBounds_toArray, List.set_cons_zero, List.set_cons_succ]
                refine wpAnyH_ready (rs := [0, 11]) (by kernel_rfl) (by simp) ?_
                refine hcons rfl (fun K hK => ?_) (hcons rfl (fun K hK => ?_) (AllReadyH.nil))
                have z0 := HLV.out.1.c 0 _ rfl; go_simp; clear z0
                refine hK.out _ _ ?_ (fun hHeld => ?_)
                · (try dsimp only); exact HS.out _ HC.out
                clear hK K
                try simp only [Act.put, List.setIfInBounds_toArray, List.set_cons_zero, List.set_cons_succ]
                refine wpAnyH_ready (rs := [11]) (by kernel_rfl) (by simp) ?_
                refine hcons rfl (fun K hK => ?_) (AllReadyH.nil)
                go_simp
                (first | refine hold_alloc (fun Wa q1 q2 q3 => ?_) | refine hold_alloc_drew (fun Wa q1 q2 q3 => ?_)); have HN := Lib.hid (show Bx _ _ (Wo.cells ⟨a1, (last + a0), s2⟩) from q2); replace HLV := Lib.hid (HLV.out.next q1); replace HC := Lib.hid (HC.out.trans (q1.mono HC.out.size)); clear q1 q2 q3
                refine hK.out _ _ ?_ (fun hHeld => ?_)
                · (try dsimp only); exact HS.out _ HC.out
                clear hK K
                try simp only [Act.put, List.setIfInBounds_toArray, List.set_cons_zero, List.set_cons_succ]
                refine wpAnyH_ready (rs := [12]) (by kernel_rfl) (by simp) ?_
                refine hcons rfl (fun K hK => ?_) (AllReadyH.nil)
                refine step_append_any rfl (.tmp 31) (.tmp 42) 44 rfl B 66 i0 _ 4 32 Tryz.underlying44 hi hz0 hz1 hz2 rfl (by decide) (.slice A out.length cp) out.length _ rfl HLV.out.2.2.1 ⟨_, 0, none⟩ 1 1 (Wo.cells ⟨a1, (last + a0), s2⟩) rfl rfl HN.out.news (wo_one _) (by unfold maxLen; omega) (by omega) (Nat.le_trans HBS.out HC.out.size) ?_; intro v' w' hown' hgrow; have hqn := own_ne_kd HLV.out.2.2.1 (HKQ.out _ HC.out).1; have HS12 := Lib.hid (And.intro ((grown_cell hgrow (HKQ.out _ HC.out).2 hqn (off + 1)).trans (HS.out _ HC.out).1) ((grown_cell hgrow (HKQ.out _ HC.out).2 hqn (off + 2)).trans (HS.out _ HC.out).2)); have z13 := (HLV.out.1.grown hgrow (own_far HLV.out.2.2.1 hbdB)).c 0 _ rfl; have y13 := (HLV.out.1.grown hgrow (own_far HLV.out.2.2.1 hbdB)).fr 0; replace HLV := Lib.hid (HLV.out.add hbdB hbaB hbd9 hbdw hbda hown' hgrow); obtain ⟨A6, c6, e6, -⟩ := own_form hown'; subst e6; clear hown' hgrow HN hqn
                refine hK.out _ _ ?_ (fun hHeld => ?_)
                · (try dsimp only); exact HS12.out
                clear hK K
                try simp only [Act.put, List.setIfInBounds_toArray, List.set_cons_zero, List.set_cons_succ]
                refine wpAnyH_ready (rs := [13]) (by kernel_rfl) (by simp) ?_
                refine hcons rfl (fun K hK => ?_) (AllReadyH.nil)
                go_simp; clear z13 y13
                refine hK.out _ _ ?_ (fun hHeld => ?_)
                · (try dsimp only); exact ⟨(World.cell?_setCell_other _ _ _ _ (by intro e; injection e with e; exact hqbd e)).trans HS12.out.1, (World.cell?_setCell_other _ _ _ _ (by intro e; injection e with e; exact hqbd e)).trans HS12.out.2⟩
                clear hK K
                try simp only [Act.put]
                refine wpAnyH_done (by kernel_rfl) ?_ _
                dsimp only [PanTo]
                rotate_left
                go_simp
                (first | refine hold_alloc (fun Wa q1 q2 q3 => ?_) | refine hold_alloc_drew (fun Wa q1 q2 q3 => ?_)); have HN := Lib.hid (show Bx _ _ (Wo.cells ⟨a1, (last + a0), s2⟩) from q2); replace HLV := Lib.hid (HLV.out.next q1); replace HC := Lib.hid (HC.out.trans (q1.mono HC.out.size)); clear q1 q2 q3
                refine hK.out _ _ ?_ (fun hHeld => ?_)
                · (try dsimp only); exact HS.out _ HC.out
                clear hK K
                try simp only [Act.put, List.setIfInBounds_toArray, List.set_cons_zero, List.set_cons_succ]
                refine wpAnyH_ready (rs := [0]) (by kernel_rfl) (by simp) ?_
                refine hcons rfl (fun K hK => ?_) (AllReadyH.nil)
                have z0 := HLV.out.1.c 0 _ rfl; go_simp; clear z0
                refine hK.out _ _ ?_ (fun hHeld => ?_)
                · (try dsimp only); exact HS.out _ HC.out
                clear hK K
                try simp only [Act.put, List.setIfInBounds_toArray, List.set_cons_zero, List.set_cons_succ]
                refine wpAnyH_ready (rs := [12]) (by kernel_rfl) (by simp) ?_
                refine hcons rfl (fun K hK => ?_) (AllReadyH.nil)
                refine step_append_any rfl (.tmp 31) (.tmp 42) 44 rfl B 66 i0 _ 4 32 Tryz.underlying44 hi hz0 hz1 hz2 rfl (by decide) (.slice A out.length cp) out.length _ rfl HLV.out.2.2.1 ⟨_, 0, none⟩ 1 1 (Wo.cells ⟨a1, (last + a0), s2⟩) rfl rfl HN.out.news (wo_one _) (by unfold maxLen; omega) (by omega) (Nat.le_trans HBS.out HC.out.size) ?_; intro v' w' hown' hgrow; have hqn := own_ne_kd HLV.out.2.2.1 (HKQ.out _ HC.out).1; have HS12 := Lib.hid (And.intro ((grown_cell hgrow (HKQ.out _ HC.out).2 hqn (off + 1)).trans (HS.out _ HC.out).1) ((grown_cell hgrow (HKQ.out _ HC.out).2 hqn (off + 2)).trans (HS.out _ HC.out).2)); have z13 := (HLV.out.1.grown hgrow (own_far HLV.out.2.2.1 hbdB)).c 0 _ rfl; have y13 := (HLV.out.1.grown hgrow (own_far HLV.out.2.2.1 hbdB)).fr 0; replace HLV := Lib.hid (HLV.out.add hbdB hbaB hbd9 hbdw hbda hown' hgrow); obtain ⟨A6, c6, e6, -⟩ := own_form hown'; subst e6; clear hown' hgrow HN hqn
                refine hK.out _ _ ?_ (fun hHeld => ?_)
                · (try dsimp only); exact HS12.out
                clear hK K
                try simp only [Act.put, List.setIfInBounds_toArray, List.set_cons_zero, List.set_cons_succ]
                refine wpAnyH_ready (rs := [13]) (by kernel_rfl) (by simp) ?_
                refine hcons rfl (fun K hK => ?_) (AllReadyH.nil)
                go_simp; clear z13 y13
                refine hK.out _ _ ?_ (fun hHeld => ?_)
                · (try dsimp only); exact ⟨(World.cell?_setCell_other _ _ _ _ (by intro e; injection e with e; exact hqbd e)).trans HS12.out.1, (World.cell?_setCell_other _ _ _ _ (by intro e; injection e with e; exact hqbd e)).trans HS12.out.2⟩
                clear hK K
                try simp only [Act.put]
                refine wpAnyH_done (by kernel_rfl) ?_ _
                dsimp only [PanTo]
                rotate_left
                have z5 := HLV.out.2.1.c 0 _ rfl; go_simp; clear z5
                refine hK.out _ _ ?_ (fun hHeld => ?_)
                · (try dsimp only); exact HS.out _ HC.out
                clear hK K
                try simp only [Act.put, List.setIfInBounds_toArray, List.set_cons_zero, List.set_cons_succ]
                refine wpAnyH_ready (rs := [0, 4]) (by kernel_rfl) (by simp) ?_
                refine hcons rfl (fun K hK => ?_) (hcons rfl (fun K hK => ?_) (AllReadyH.nil))
                have z0 := HLV.out.1.c 0 _ rfl; go_simp; clear z0
                refine hK.out _ _ ?_ (fun hHeld => ?_)
                · (try dsimp only); exact HS.out _ HC.out
                clear hK K
                try simp only [Act.put, List.setIfInBounds_toArray, List.set_cons_zero, List.set_cons_succ]
                refine wpAnyH_ready (rs := [4]) (by kernel_rfl) (by simp) ?_
                refine hcons rfl (fun K hK => ?_) (AllReadyH.nil)
                go_simp
                refine (HN1.out _ HLV.out.2.2.2.1).mono ?_; rintro e4 U4 ⟨rfl, hb⟩; replace HLV := Lib.hid (HLV.out.next hb); replace HC := Lib.hid (HC.out.trans (hb.mono HC.out.size)); clear hb
                refine hK.out _ _ ?_ (fun hHeld => ?_)
                · (try dsimp only); exact HS.out _ HC.out
                clear hK K
                try simp only [Act.put, List.setIfInBounds_toArray, List.set_cons_zero, List.set_cons_succ]
                refine wpAnyH_ready (rs := [9]) (by kernel_rfl) (by simp) ?_
                refine hcons rfl (fun K hK => ?_) (AllReadyH.nil)
                go_simp
                refine (HN2.out _ HLV.out.2.2.2.1).mono ?_; rintro e9 U9 ⟨rfl, hb⟩; replace HLV := Lib.hid (HLV.out.next hb); replace HC := Lib.hid (HC.out.trans (hb.mono HC.out.size)); clear hb
                refine hK.out _ _ ?_ (fun hHeld => ?_)
                · (try dsimp only); exact HS.out _ HC.out
                clear hK K
                try simp only [Act.put, List.setIfInBounds_toArray, List.set_cons_zero, List.set_cons_succ]
                refine htake (i := 10) (v := ?v62) rfl (by kernel_rfl) (by kernel_rfl) (by kernel_rfl) (fun _ _ _ h => pan_put h) (Or.inl ⟨by rfl, ?hy62⟩) (by assumption) ?_
                case hy62 => (intro w hSw; (try dsimp only at hSw); go_simp; try (with_reducible rfl))
                try simp only [Act.put, List.setIfInBounds_toArray, List.set_cons_zero, List.set_cons_succ]
                refine wpAnyH_ready (rs := [11]) (by kernel_rfl) (by simp) ?_
                refine hcons rfl (fun K hK => ?_) (AllReadyH.nil)
                go_simp
                (first | refine hold_alloc (fun Wa q1 q2 q3 => ?_) | refine hold_alloc_drew (fun Wa q1 q2 q3 => ?_)); have HN := Lib.hid (show Bx _ _ (Wo.cells ⟨a1, (last + a0), s2⟩) from q2); replace HLV := Lib.hid (HLV.out.next q1); replace HC := Lib.hid (HC.out.trans (q1.mono HC.out.size)); clear q1 q2 q3
                refine hK.out _ _ ?_ (fun hHeld => ?_)
                · (try dsimp only); exact HS.out _ HC.out
                clear hK K
                try simp only [Act.put, List.setIfInBounds_toArray, List.set_cons_zero, List.set_cons_succ]
                refine wpAnyH_ready (rs := [12]) (by kernel_rfl) (by simp) ?_
                refine hcons rfl (fun K hK => ?_) (AllReadyH.nil)
                refine step_append_any rfl (.tmp 31) (.tmp 42) 44 rfl B 66 i0 _ 4 32 Tryz.underlying44 hi hz0 hz1 hz2 rfl (by decide) (.slice A out.length cp) out.length _ rfl HLV.out.2.2.1 ⟨_, 0, none⟩ 1 1 (Wo.cells ⟨a1, (last + a0), s2⟩) rfl rfl HN.out.news (wo_one _) (by unfold maxLen; omega) (by omega) (Nat.le_trans HBS.out HC.out.size) ?_; intro v' w' hown' hgrow; have hqn := own_ne_kd HLV.out.2.2.1 (HKQ.out _ HC.out).1; have HS12 := Lib.hid (And.intro ((grown_cell hgrow (HKQ.out _ HC.out).2 hqn (off + 1)).trans (HS.out _ HC.out).1) ((grown_cell hgrow (HKQ.out _ HC.out).2 hqn (off + 2)).trans (HS.out _ HC.out).2)); have z13 := (HLV.out.1.grown hgrow (own_far HLV.out.2.2.1 hbdB)).c 0 _ rfl; have y13 := (HLV.out.1.grown hgrow (own_far HLV.out.2.2.1 hbdB)).fr 0; replace HLV := Lib.hid (HLV.out.add hbdB hbaB hbd9 hbdw hbda hown' hgrow); obtain ⟨A6, c6, e6, -⟩ := own_form hown'; subst e6; clear hown' hgrow HN hqn
                refine hK.out _ _ ?_ (fun hHeld => ?_)
                · (try dsimp only); exact HS12.out
                clear hK K
                try simp only [Act.put, List.setIfInBounds_toArray, List.set_cons_zero, List.set_cons_succ]
                refine wpAnyH_ready (rs := [13]) (by kernel_rfl) (by simp) ?_
                refine hcons rfl (fun K hK => ?_) (AllReadyH.nil)
                go_simp; clear z13 y13
                refine hK.out _ _ ?_ (fun hHeld => ?_)
                · (try dsimp only); exact ⟨(World.cell?_setCell_other _ _ _ _ (by intro e; injection e with e; exact hqbd e)).trans HS12.out.1, (World.cell?_setCell_other _ _ _ _ (by intro e; injection e with e; exact hqbd e)).trans HS12.out.2⟩
                clear hK K
                try simp only [Act.put]
                refine wpAnyH_done (by kernel_rfl) ?_ _
                dsimp only [PanTo]
                rotate_left
                go_simp
                refine (HN1.out _ HLV.out.2.2.2.1).mono ?_; rintro e4 U4 ⟨rfl, hb⟩; replace HLV := Lib.hid (HLV.out.next hb); replace HC := Lib.hid (HC.out.trans (hb.mono HC.out.size)); clear hb
                refine hK.out _ _ ?_ (fun hHeld => ?_)
                · (try dsimp only); exact HS.out _ HC.out
                clear hK K
                try simp only [Act.put, List.setIfInBounds_toArray, List.set_cons_zero, List.set_cons_succ]
                refine wpAnyH_ready (rs := [0, 9]) (by kernel_rfl) (by simp) ?_
                refine hcons rfl (fun K hK => ?_) (hcons rfl (fun K hK => ?_) (AllReadyH.nil))
                have z0 := HLV.out.1.c 0 _ rfl; go_simp; clear z0
                refine hK.out _ _ ?_ (fun hHeld => ?_)
                · (try dsimp only); exact HS.out _ HC.out
                clear hK K
                try simp only [Act.put, List.setIfInBounds_toArray, List.set_cons_zero, List.set_cons_succ]
                refine wpAnyH_ready (rs := [9]) (by kernel_rfl) (by simp) ?_
                refine hcons rfl (fun K hK => ?_) (AllReadyH.nil)
                go_simp
                refine (HN2.out _ HLV.out.2.2.2.1).mono ?_; rintro e9 U9 ⟨rfl, hb⟩; replace HLV := Lib.hid (HLV.out.next hb); replace HC := Lib.hid (HC.out.trans (hb.mono HC.out.size)); clear hb
                refine hK.out _ _ ?_ (fun hHeld => ?_)
                · (try dsimp only); exact HS.out _ HC.out
                clear hK K
                try simp only [Act.put, List.setIfInBounds_toArray, List.set_cons_zero, List.set_cons_succ]
                refine htake (i := 10) (v := ?v63) rfl (by kernel_rfl) (by kernel_rfl) (by kernel_rfl) (fun _ _ _ h => pan_put h) (Or.inl ⟨by rfl, ?hy63⟩) (by assumption) ?_
                case hy63 => (intro w hSw; (try dsimp only at hSw); go_simp; try (with_reducible rfl))
                try simp only [Act.put, List.setIfInBounds_toArray, List.set_cons_zero, List.set_cons_succ]
                refine wpAnyH_ready (rs := [11]) (by kernel_rfl) (by simp) ?_
                refine hcons rfl (fun K hK => ?_) (AllReadyH.nil)
                go_simp
                (first | refine hold_alloc (fun Wa q1 q2 q3 => ?_) | refine hold_alloc_drew (fun Wa q1 q2 q3 => ?_)); have HN := Lib.hid (show Bx _ _ (Wo.cells ⟨a1, (last + a0), s2⟩) from q2); replace HLV := Lib.hid (HLV.out.next q1); replace HC := Lib.hid (HC.out.trans (q1.mono HC.out.size)); clear q1 q2 q3
                refine hK.out _ _ ?_ (fun hHeld => ?_)
                · (try dsimp only); exact HS.out _ HC.out
                clear hK K
                try simp only [Act.put, List.setIfInBounds_toArray, List.set_cons_zero, List.set_cons_succ]
                refine wpAnyH_ready (rs := [12]) (by kernel_rfl) (by simp) ?_
                refine hcons rfl (fun K hK => ?_) (AllReadyH.nil)
                refine step_append_any rfl (.tmp 31) (.tmp 42) 44 rfl B 66 i0 _ 4 32 Tryz.underlying44 hi hz0 hz1 hz2 rfl (by decide) (.slice A out.length cp) out.length _ rfl HLV.out.2.2.1 ⟨_, 0, none⟩ 1 1 (Wo.cells ⟨a1, (last + a0), s2⟩) rfl rfl HN.out.news (wo_one _) (by unfold maxLen; omega) (by omega) (Nat.le_trans HBS.out HC.out.size) ?_; intro v' w' hown' hgrow; have hqn := own_ne_kd HLV.out.2.2.1 (HKQ.out _ HC.out).1; have HS12 := Lib.hid (And.intro ((grown_cell hgrow (HKQ.out _ HC.out).2 hqn (off + 1)).trans (HS.out _ HC.out).1) ((grown_cell hgrow (HKQ.out _ HC.out).2 hqn (off + 2)).trans (HS.out _ HC.out).2)); have z13 := (HLV.out.1.grown hgrow (own_far HLV.out.2.2.1 hbdB)).c 0 _ rfl; have y13 := (HLV.out.1.grown hgrow (own_far HLV.out.2.2.1 hbdB)).fr 0; replace HLV := Lib.hid (HLV.out.add hbdB hbaB hbd9 hbdw hbda hown' hgrow); obtain ⟨A6, c6, e6, -⟩ := own_form hown'; subst e6; clear hown' hgrow HN hqn
                refine hK.out _ _ ?_ (fun hHeld => ?_)
                · (try dsimp only); exact HS12.out
                clear hK K
                try simp only [Act.put, List.setIfInBounds_toArray, List.set_cons_zero, List.set_cons_succ]
                refine wpAnyH_ready (rs := [13]) (by kernel_rfl) (by simp) ?_
                refine hcons rfl (fun K hK => ?_) (AllReadyH.nil)
                go_simp; clear z13 y13
                refine hK.out _ _ ?_ (fun hHeld => ?_)
                · (try dsimp only); exact ⟨(World.cell?_setCell_other _ _ _ _ (by intro e; injection e with e; exact hqbd e)).trans HS12.out.1, (World.cell?_setCell_other _ _ _ _ (by intro e; injection e with e; exact hqbd e)).trans HS12.out.2⟩
                clear hK K
                try simp only [Act.put]
                refine wpAnyH_done (by kernel_rfl) ?_ _
                dsimp only [PanTo]
                rotate_left
                go_simp
                refine (HN2.out _ HLV.out.2.2.2.1).mono ?_; rintro e9 U9 ⟨rfl, hb⟩; replace HLV := Lib.hid (HLV.out.next hb); replace HC := Lib.hid (HC.out.trans (hb.mono HC.out.size)); clear hb
                refine hK.out _ _ ?_ (fun hHeld => ?_)
                · (try dsimp only); exact HS.out _ HC.out
                clear hK K
                try simp only [Act.put, List.setIfInBounds_toArray, List.set_cons_zero, List.set_cons_succ]
                refine htake (i := 10) (v := ?v64) rfl (by kernel_rfl) (by kernel_rfl) (by kernel_rfl) (fun _ _ _ h => pan_put h) (Or.inl ⟨by rfl, ?hy64⟩) (by assumption) ?_
                case hy64 => (intro w hSw; (try dsimp only at hSw); go_simp; try (with_reducible rfl))
                try simp only [Act.put, List.setIfInBounds_toArray, List.set_cons_zero, List.set_cons_succ]
                refine wpAnyH_ready (rs := [0, 11]) (by kernel_rfl) (by simp) ?_
                refine hcons rfl (fun K hK => ?_) (hcons rfl (fun K hK => ?_) (AllReadyH.nil))
                have z0 := HLV.out.1.c 0 _ rfl; go_simp; clear z0
                refine hK.out _ _ ?_ (fun hHeld => ?_)
                · (try dsimp only); exact HS.out _ HC.out
                clear hK K
                try simp only [Act.put, List.setIfInBounds_toArray, List.set_cons_zero, List.set_cons_succ]
                refine wpAnyH_ready (rs := [11]) (by kernel_rfl) (by simp) ?_
                refine hcons rfl (fun K hK => ?_) (AllReadyH.nil)
                go_simp
                (first | refine hold_alloc (fun Wa q1 q2 q3 => ?_) | refine hold_alloc_drew (fun Wa q1 q2 q3 => ?_)); have HN := Lib.hid (show Bx _ _ (Wo.cells ⟨a1, (last + a0), s2⟩) from q2); replace HLV := Lib.hid (HLV.out.next q1); replace HC := Lib.hid (HC.out.trans (q1.mono HC.out.size)); clear q1 q2 q3
                refine hK.out _ _ ?_ (fun hHeld => ?_)
                · (try dsimp only); exact HS.out _ HC.out
                clear hK K
                try simp only [Act.put, List.setIfInBounds_toArray, List.set_cons_zero, List.set_cons_succ]
                refine wpAnyH_ready (rs := [12]) (by kernel_rfl) (by simp) ?_
                refine hcons rfl (fun K hK => ?_) (AllReadyH.nil)
                refine step_append_any rfl (.tmp 31) (.tmp 42) 44 rfl B 66 i0 _ 4 32 Tryz.underlying44 hi hz0 hz1 hz2 rfl (by decide) (.slice A out.length cp) out.length _ rfl HLV.out.2.2.1 ⟨_, 0, none⟩ 1 1 (Wo.cells ⟨a1, (last + a0), s2⟩) rfl rfl HN.out.news (wo_one _) (by unfold maxLen; omega) (by omega) (Nat.le_trans HBS.out HC.out.size) ?_; intro v' w' hown' hgrow; have hqn := own_ne_kd HLV.out.2.2.1 (HKQ.out _ HC.out).1; have HS12 := Lib.hid (And.intro ((grown_cell hgrow (HKQ.out _ HC.out).2 hqn (off + 1)).trans (HS.out _ HC.out).1) ((grown_cell hgrow (HKQ.out _ HC.out).2 hqn (off + 2)).trans (HS.out _ HC.out).2)); have z13 := (HLV.out.1.grown hgrow (own_far HLV.out.2.2.1 hbdB)).c 0 _ rfl; have y13 := (HLV.out.1.grown hgrow (own_far HLV.out.2.2.1 hbdB)).fr 0; replace HLV := Lib.hid (HLV.out.add hbdB hbaB hbd9 hbdw hbda hown' hgrow); obtain ⟨A6, c6, e6, -⟩ := own_form hown'; subst e6; clear hown' hgrow HN hqn
                refine hK.out _ _ ?_ (fun hHeld => ?_)
                · (try dsimp only); exact HS12.out
                clear hK K
                try simp only [Act.put, List.setIfInBounds_toArray, List.set_cons_zero, List.set_cons_succ]
                refine wpAnyH_ready (rs := [13]) (by kernel_rfl) (by simp) ?_
                refine hcons rfl (fun K hK => ?_) (AllReadyH.nil)
                go_simp; clear z13 y13
                refine hK.out _ _ ?_ (fun hHeld => ?_)
                · (try dsimp only); exact ⟨(World.cell?_setCell_other _ _ _ _ (by intro e; injection e with e; exact hqbd e)).trans HS12.out.1, (World.cell?_setCell_other _ _ _ _ (by intro e; injection e with e; exact hqbd e)).trans HS12.out.2⟩
                clear hK K
                try simp only [Act.put]
                refine wpAnyH_done (by kernel_rfl) ?_ _
                dsimp only [PanTo]
                rotate_left
                go_simp
                (first | refine hold_alloc (fun Wa q1 q2 q3 => ?_) | refine hold_alloc_drew (fun Wa q1 q2 q3 => ?_)); have HN := Lib.hid (show Bx _ _ (Wo.cells ⟨a1, (last + a0), s2⟩) from q2); replace HLV := Lib.hid (HLV.out.next q1); replace HC := Lib.hid (HC.out.trans (q1.mono HC.out.size)); clear q1 q2 q3
                refine hK.out _ _ ?_ (fun hHeld => ?_)
                · (try dsimp only); exact HS.out _ HC.out
                clear hK K
                try simp only [Act.put, List.setIfInBounds_toArray, List.set_cons_zero, List.set_cons_succ]
                refine wpAnyH_ready (rs := [0]) (by kernel_rfl) (by simp) ?_
                refine hcons rfl (fun K hK => ?_) (AllReadyH.nil)
                have z0 := HLV.out.1.c 0 _ rfl; go_simp; clear z0
                refine hK.out _ _ ?_ (fun hHeld => ?_)
                · (try dsimp only); exact HS.out _ HC.out
                clear hK K
                try simp only [Act.put, List.setIfInBounds_toArray, List.set_cons_zero, List.set_cons_succ]
                refine wpAnyH_ready (rs := [12]) (by kernel_rfl) (by simp) ?_
                refine hcons rfl (fun K hK => ?_) (AllReadyH.nil)
                refine step_append_any rfl (.tmp 31) (.tmp 42) 44 rfl B 66 i0 _ 4 32 Tryz.underlying44 hi hz0 hz1 hz2 rfl (by decide) (.slice A out.length cp) out.length _ rfl HLV.out.2.2.1 ⟨_, 0, none⟩ 1 1 (Wo.cells ⟨a1, (last + a0), s2⟩) rfl rfl HN.out.news (wo_one _) (by unfold maxLen; omega) (by omega) (Nat.le_trans HBS.out HC.out.size) ?_; intro v' w' hown' hgrow; have hqn := own_ne_kd HLV.out.2.2.1 (HKQ.out _ HC.out).1; have HS12 := Lib.hid (And.intro ((grown_cell hgrow (HKQ.out _ HC.out).2 hqn (off + 1)).trans (HS.out _ HC.out).1) ((grown_cell hgrow (HKQ.out _ HC.out).2 hqn (off + 2)).trans (HS.out _ HC.out).2)); have z13 := (HLV.out.1.grown hgrow (own_far HLV.out.2.2.1 hbdB)).c 0 _ rfl; have y13 := (HLV.out.1.grown hgrow (own_far HLV.out.2.2.1 hbdB)).fr 0; replace HLV := Lib.hid (HLV.out.add hbdB hbaB hbd9 hbdw hbda hown' hgrow); obtain ⟨A6, c6, e6, -⟩ := own_form hown'; subst e6; clear hown' hgrow HN hqn
                refine hK.out _ _ ?_ (fun hHeld => ?_)
                · (try dsimp only); exact HS12.out
                clear hK K
                try simp only [Act.put, List.setIfInBounds_toArray, List.set_cons_zero, List.set_cons_succ]
                refine wpAnyH_ready (rs := [13]) (by kernel_rfl) (by simp) ?_
                refine hcons rfl (fun K hK => ?_) (AllReadyH.nil)
                go_simp; clear z13 y13
                refine hK.out _ _ ?_ (fun hHeld => ?_)
                · (try dsimp only); exact ⟨(World.cell?_setCell_other _ _ _ _ (by intro e; injection e with e; exact hqbd e)).trans HS12.out.1, (World.cell?_setCell_other _ _ _ _ (by intro e; injection e with e; exact hqbd e)).trans HS12.out.2⟩
                clear hK K
                try simp only [Act.put]
                refine wpAnyH_done (by kernel_rfl) ?_ _
                dsimp only [PanTo]
                iterate 15 (try clear hHeld)
                all_goals
                  have HFF := Lib.hid (HFIN.out _ _ _ _ HGO.out (by constructor <;> omega) HLV.out)
                  gi_wp2_with fail
                  have hff := HFF.out
                  first | exact hff | (rw [hB] at hff; exact hff)
          · have HS5 := Lib.hid (show (U2.setCell ⟨ba, 0, none⟩ (.int .i64 (last + a0))).cell? ⟨q, off + 1, none⟩ = some (tx w1) ∧ (U2.setCell ⟨ba, 0, none⟩ (.int .i64 (last + a0))).cell? ⟨q, off + 2, none⟩ = some (tx w2) from ⟨(World.cell?_setCell_other _ _ _ _ (by intro e; injection e with e; exact hqba e)).trans HS4.out.1, (World.cell?_setCell_other _ _ _ _ (by intro e; injection e with e; exact hqba e)).trans HS4.out.2⟩)
            have HK5 := Lib.hid (show Kd (U2.setCell ⟨ba, 0, none⟩ (.int .i64 (last + a0))) q 9 ∧ q < (U2.setCell ⟨ba, 0, none⟩ (.int .i64 (last + a0))).heap.size from ⟨(HKQ.out _ HC.out).1.setCell _ _, by rw [World.size_setCell]; exact (HKQ.out _ HC.out).2⟩)
            have HB5 := Lib.hid (show B ≤ (U2.setCell ⟨ba, 0, none⟩ (.int .i64 (last + a0))).heap.size by rw [World.size_setCell]; exact Nat.le_trans HBS.out HC.out.size)
            generalize U2.setCell ⟨ba, 0, none⟩ (.int .i64 (last + a0)) = W7 at *
            clear HC HS HKQ HBS HS4 HWS
            have HS := Lib.hid (show ∀ W' : World, Below W7.heap.size W7 W' → W'.cell? ⟨q, off + 1, none⟩ = some (tx w1) ∧ W'.cell? ⟨q, off + 2, none⟩ = some (tx w2) from fun W' hb => ⟨(hb.cell (p := ⟨q, off + 1, none⟩) HK5.out.2).trans HS5.out.1, (hb.cell (p := ⟨q, off + 2, none⟩) HK5.out.2).trans HS5.out.2⟩)
            have HKQ := Lib.hid (show ∀ W' : World, Below W7.heap.size W7 W' → Kd W' q 9 ∧ q < W'.heap.size from fun W' hb => ⟨HK5.out.1.next hb, Nat.lt_of_lt_of_le HK5.out.2 hb.size⟩)
            have HBS := HB5
            clear HS5 HK5 HB5 hwl
            gi_wp2_with fail
            have HC := Lib.hid ((Below.refl W7.heap.size W7).drew)
            replace HLV := Lib.hid (HLV.out.next HC.out)
            rcases p1 with _ | a1
            · have HNO := Lib.hid (show stepL last out ws = none from HST.out)
              refine region_inX (S := (fun W' => W'.cell? ⟨q, off + 1, none⟩ = some (tx w1) ∧ W'.cell? ⟨q, off + 2, none⟩ = some (tx w2))) (fun ch W' => ch = [{ v := .iface 129 (.agg #[]), recovered := false }] ∧ stepL last out ws = none ∧ KMine B W W' ∧ Env W' ∧ Below w.heap.size w W') (by kernel_rfl) (by kernel_rfl) (fun ch a' w' hd h => by obtain ⟨rfl, h1, h2, h3, h4⟩ := h; exact ⟨hd, HPAN.out w' h1 h2 h3 h4⟩) ?_ (fun hHeld => ?_)
              · (try dsimp only); exact HS.out _ HC.out
              refine htake (i := 1) (v := ?v65) rfl (by kernel_rfl) (by kernel_rfl) (by kernel_rfl) (fun _ _ _ h => pan_put h) (Or.inl ⟨by rfl, ?hy65⟩) (by assumption) ?_
              case hy65 => (intro w hSw; (try dsimp only at hSw); go_simp; try (with_reducible rfl))
              try simp only [Act.put, List.setIfInBounds_toArray, List.set_cons_zero, List.set_cons_succ]
              refine htake (i := 2) (v := ?v66) rfl (by kernel_rfl) (by kernel_rfl) (by kernel_rfl) (fun _ _ _ h => pan_put h) (Or.inl ⟨by rfl, ?hy66⟩) (by assumption) ?_
              case hy66 => (intro w hSw; (try dsimp only at hSw); go_simp; try (with_reducible rfl))
              try simp only [Act.put, List.setIfInBounds_toArray, List.set_cons_zero, List.set_cons_succ]
              refine htake (i := 3) (v := ?v67) rfl (by kernel_rfl) (by kernel_rfl) (by kernel_rfl) (fun _ _ _ h => pan_put h) (Or.inl ⟨by rfl, ?hy67⟩) (by assumption) ?_
              case hy67 => (intro w hSw; (try dsimp only at hSw); go_simp; try (with_reducible rfl))
              try simp only [Act.put, List.setIfInBounds_toArray, List.set_cons_zero, List.set_cons_succ]
              refine htake (i := 6) (v := ?v68) rfl (by kernel_rfl) (by kernel_rfl) (by kernel_rfl) (fun _ _ _ h => pan_put h) (Or.inl ⟨by rfl, ?hy68⟩) (by assumption) ?_
              case hy68 => (intro w hSw; (try dsimp only at hSw); go_simp; try (with_reducible rfl))
              try simp only [Act.put, List.setIfInBounds_toArray, List.set_cons_zero, List.set_cons_succ]
              refine htake (i := 7) (v := ?v69) rfl (by kernel_rfl) (by kernel_rfl) (by kernel_rfl) (fun _ _ _ h => pan_put h) (Or.inl ⟨by rfl, ?hy69⟩) (by assumption) ?_
              case hy69 => (intro w hSw; (try dsimp only at hSw); go_simp; try (with_reducible rfl))
              try simp only [Act.put, List.setIfInBounds_toArray, List.set_cons_zero, List.set_cons_succ]
              refine htake (i := 8) (v := ?v70) rfl (by kernel_rfl) (by kernel_rfl) (by kernel_rfl) (fun _ _ _ h => pan_put h) (Or.inl ⟨by rfl, ?hy70⟩) (by assumption) ?_
              case hy70 => (intro w hSw; (try dsimp only at hSw); go_simp; try (with_reducible rfl))
              try simp only [Act.put, List.setIfInBounds_toArray, List.set_cons_zero, List.set_cons_succ]
              refine wpAnyH_ready (rs := [0, 4, 5]) (by kernel_rfl) (by simp) ?_
              refine hcons rfl (fun K hK => ?_) (hcons rfl (fun K hK => ?_) (hcons rfl (fun K hK => ?_) (AllReadyH.nil)))
              have z0 := HLV.out.1.c 0 _ rfl; go_simp; clear z0
              refine hK.out _ _ ?_ (fun hHeld => ?_)
              · (try dsimp only); exact HS.out _ HC.out
              clear hK K
              try simp only [Act.put, List.setIfInBounds_toArray, List.set_cons_zero, List.set_cons_succ]
              refine wpAnyH_ready (rs := [4, 5]) (by kernel_rfl) (by simp) ?_
              refine hcons rfl (fun K hK => ?_) (hcons rfl (fun K hK => ?_) (AllReadyH.nil))
              go_simp
              refine (HN1.out _ HLV.out.2.2.2.1).mono ?_; rintro e9 U9 ⟨rfl, hb⟩; exact ⟨rfl, rfl, HNO.out, HLV.out.2.2.2.2.2.trans (KMine.next hb), HLV.out.2.2.2.1.next hb, HLV.out.2.2.2.2.1.trans (hb.mono HLV.out.2.2.2.2.1.size)⟩
              have z5 := HLV.out.2.1.c 0 _ rfl; go_simp; clear z5
              refine hK.out _ _ ?_ (fun hHeld => ?_)
              · (try dsimp only); exact HS.out _ HC.out
              clear hK K
              try simp only [Act.put, List.setIfInBounds_toArray, List.set_cons_zero, List.set_cons_succ]
              refine wpAnyH_ready (rs := [4]) (by kernel_rfl) (by simp) ?_
              refine hcons rfl (fun K hK => ?_) (AllReadyH.nil)
              go_simp
              refine (HN1.out _ HLV.out.2.2.2.1).mono ?_; rintro e9 U9 ⟨rfl, hb⟩; exact ⟨rfl, rfl, HNO.out, HLV.out.2.2.2.2.2.trans (KMine.next hb), HLV.out.2.2.2.1.next hb, HLV.out.2.2.2.2.1.trans (hb.mono HLV.out.2.2.2.2.1.size)⟩
              go_simp
              refine (HN1.out _ HLV.out.2.2.2.1).mono ?_; rintro e9 U9 ⟨rfl, hb⟩; exact ⟨rfl, rfl, HNO.out, HLV.out.2.2.2.2.2.trans (KMine.next hb), HLV.out.2.2.2.1.next hb, HLV.out.2.2.2.2.1.trans (hb.mono HLV.out.2.2.2.2.1.size)⟩
              have z5 := HLV.out.2.1.c 0 _ rfl; go_simp; clear z5
              refine hK.out _ _ ?_ (fun hHeld => ?_)
              · (try dsimp only); exact HS.out _ HC.out
              clear hK K
              try simp only [Act.put, List.setIfInBounds_toArray, List.set_cons_zero, List.set_cons_succ]
              refine wpAnyH_ready (rs := [0, 4]) (by kernel_rfl) (by simp) ?_
              refine hcons rfl (fun K hK => ?_) (hcons rfl (fun K hK => ?_) (AllReadyH.nil))
              have z0 := HLV.out.1.c 0 _ rfl; go_simp; clear z0
              refine hK.out _ _ ?_ (fun hHeld => ?_)
              · (try dsimp only); exact HS.out _ HC.out
              clear hK K
              try simp only [Act.put, List.setIfInBounds_toArray, List.set_cons_zero, List.set_cons_succ]
              refine wpAnyH_ready (rs := [4]) (by kernel_rfl) (by simp) ?_
              refine hcons rfl (fun K hK => ?_) (AllReadyH.nil)
              go_simp
              refine (HN1.out _ HLV.out.2.2.2.1).mono ?_; rintro e9 U9 ⟨rfl, hb⟩; exact ⟨rfl, rfl, HNO.out, HLV.out.2.2.2.2.2.trans (KMine.next hb), HLV.out.2.2.2.1.next hb, HLV.out.2.2.2.2.1.trans (hb.mono HLV.out.2.2.2.2.1.size)⟩
              go_simp
              refine (HN1.out _ HLV.out.2.2.2.1).mono ?_; rintro e9 U9 ⟨rfl, hb⟩; exact ⟨rfl, rfl, HNO.out, HLV.out.2.2.2.2.2.trans (KMine.next hb), HLV.out.2.2.2.1.next hb, HLV.out.2.2.2.2.1.trans (hb.mono HLV.out.2.2.2.2.1.size)⟩
            · rcases p2 with _ | s2
              · have HNO := Lib.hid (show stepL last out ws = none from HST.out)
                refine region_inX (S := (fun W' => W'.cell? ⟨q, off + 1, none⟩ = some (tx w1) ∧ W'.cell? ⟨q, off + 2, none⟩ = some (tx w2))) (fun ch W' => ch = [{ v := .iface 129 (.agg #[]), recovered := false }] ∧ stepL last out ws = none ∧ KMine B W W' ∧ Env W' ∧ Below w.heap.size w W') (by kernel_rfl) (by kernel_rfl) (fun ch a' w' hd h => by obtain ⟨rfl, h1, h2, h3, h4⟩ := h; exact ⟨hd, HPAN.out w' h1 h2 h3 h4⟩) ?_ (fun hHeld => ?_)
                · (try dsimp only); exact HS.out _ HC.out
                refine htake (i := 1) (v := ?v71) rfl (by kernel_rfl) (by kernel_rfl) (by kernel_rfl) (fun _ _ _ h => pan_put h) (Or.inl ⟨by rfl, ?hy71⟩) (by assumption) ?_
                case hy71 => (intro w hSw; (try dsimp only at hSw); go_simp; try (with_reducible rfl))
                try simp only [Act.put, List.setIfInBounds_toArray, List.set_cons_zero, List.set_cons_succ]
                refine htake (i := 2) (v := ?v72) rfl (by kernel_rfl) (by kernel_rfl) (by kernel_rfl) (fun _ _ _ h => pan_put h) (Or.inl ⟨by rfl, ?hy72⟩) (by assumption) ?_
                case hy72 => (intro w hSw; (try dsimp only at hSw); go_simp; try (with_reducible rfl))
                try simp only [Act.put, List.setIfInBounds_toArray, List.set_cons_zero, List.set_cons_succ]
                refine htake (i := 3) (v := ?v73) rfl (by kernel_rfl) (by kernel_rfl) (by kernel_rfl) (fun _ _ _ h => pan_put h) (Or.inl ⟨by rfl, ?hy73⟩) (by assumption) ?_
                case hy73 => (intro w hSw; (try dsimp only at hSw); go_simp; try (with_reducible rfl))
                try simp only [Act.put, List.setIfInBounds_toArray, List.set_cons_zero, List.set_cons_succ]
                refine htake (i := 6) (v := ?v74) rfl (by kernel_rfl) (by kernel_rfl) (by kernel_rfl) (fun _ _ _ h => pan_put h) (Or.inl ⟨by rfl, ?hy74⟩) (by assumption) ?_
                case hy74 => (intro w hSw; (try dsimp only at hSw); go_simp; try (with_reducible rfl))
                try simp only [Act.put, List.setIfInBounds_toArray, List.set_cons_zero, List.set_cons_succ]
                refine htake (i := 7) (v := ?v75) rfl (by kernel_rfl) (by kernel_rfl) (by kernel_rfl) (fun _ _ _ h => pan_put h) (Or.inl ⟨by rfl, ?hy75⟩) (by assumption) ?_
                case hy75 => (intro w hSw; (try dsimp only at hSw); go_simp; try (with_reducible rfl))
                try simp only [Act.put, List.setIfInBounds_toArray, List.set_cons_zero, List.set_cons_succ]
                refine htake (i := 8) (v := ?v76) rfl (by kernel_rfl) (by kernel_rfl) (by kernel_rfl) (fun _ _ _ h => pan_put h) (Or.inl ⟨by rfl, ?hy76⟩) (by assumption) ?_
                case hy76 => (intro w hSw; (try dsimp only at hSw); go_simp; try (with_reducible rfl))
                try simp only [Act.put, List.setIfInBounds_toArray, List.set_cons_zero, List.set_cons_succ]
                refine wpAnyH_ready (rs := [0, 4, 5]) (by kernel_rfl) (by simp) ?_
                refine hcons rfl (fun K hK => ?_) (hcons rfl (fun K hK => ?_) (hcons rfl (fun K hK => ?_) (AllReadyH.nil)))
                have z0 := HLV.out.1.c 0 _ rfl; go_simp; clear z0
                refine hK.out _ _ ?_ (fun hHeld => ?_)
                · (try dsimp only); exact HS.out _ HC.out
                clear hK K
                try simp only [Act.put, List.setIfInBounds_toArray, List.set_cons_zero, List.set_cons_succ]
                refine wpAnyH_ready (rs := [4, 5]) (by kernel_rfl) (by simp) ?_
                refine hcons rfl (fun K hK => ?_) (hcons rfl (fun K hK => ?_) (AllReadyH.nil))
                go_simp
                refine (HN1.out _ HLV.out.2.2.2.1).mono ?_; rintro e4 U4 ⟨rfl, hb⟩; replace HLV := Lib.hid (HLV.out.next hb); replace HC := Lib.hid (HC.out.trans (hb.mono HC.out.size)); clear hb
                refine hK.out _ _ ?_ (fun hHeld => ?_)
                · (try dsimp only); exact HS.out _ HC.out
                clear hK K
                try simp only [Act.put, List.setIfInBounds_toArray, List.set_cons_zero, List.set_cons_succ]
                refine wpAnyH_ready (rs := [5, 9]) (by kernel_rfl) (by simp) ?_
                refine hcons rfl (fun K hK => ?_) (hcons rfl (fun K hK => ?_) (AllReadyH.nil))
                have z5 := HLV.out.2.1.c 0 _ rfl; go_simp; clear z5
                refine hK.out _ _ ?_ (fun hHeld => ?_)
                · (try dsimp only); exact HS.out _ HC.out
                clear hK K
                try simp only [Act.put, List.setIfInBounds_toArray, List.set_cons_zero, List.set_cons_succ]
                refine wpAnyH_ready (rs := [9]) (by kernel_rfl) (by simp) ?_
                refine hcons rfl (fun K hK => ?_) (AllReadyH.nil)
                go_simp
                refine (HN2.out _ HLV.out.2.2.2.1).mono ?_; rintro e9 U9 ⟨rfl, hb⟩; exact ⟨rfl, rfl, HNO.out, HLV.out.2.2.2.2.2.trans (KMine.next hb), HLV.out.2.2.2.1.next hb, HLV.out.2.2.2.2.1.trans (hb.mono HLV.out.2.2.2.2.1.size)⟩
                go_simp
                refine (HN2.out _ HLV.out.2.2.2.1).mono ?_; rintro e9 U9 ⟨rfl, hb⟩; exact ⟨rfl, rfl, HNO.out, HLV.out.2.2.2.2.2.trans (KMine.next hb), HLV.out.2.2.2.1.next hb, HLV.out.2.2.2.2.1.trans (hb.mono HLV.out.2.2.2.2.1.size)⟩
                have z5 := HLV.out.2.1.c 0 _ rfl; go_simp; clear z5
                refine hK.out _ _ ?_ (fun hHeld => ?_)
                · (try dsimp only); exact HS.out _ HC.out
                clear hK K
                try simp only [Act.put, List.setIfInBounds_toArray, List.set_cons_zero, List.set_cons_succ]
                refine wpAnyH_ready (rs := [4]) (by kernel_rfl) (by simp) ?_
                refine hcons rfl (fun K hK => ?_) (AllReadyH.nil)
                go_simp
                refine (HN1.out _ HLV.out.2.2.2.1).mono ?_; rintro e4 U4 ⟨rfl, hb⟩; replace HLV := Lib.hid (HLV.out.next hb); replace HC := Lib.hid (HC.out.trans (hb.mono HC.out.size)); clear hb
                refine hK.out _ _ ?_ (fun hHeld => ?_)
                · (try dsimp only); exact HS.out _ HC.out
                clear hK K
                try simp only [Act.put, List.setIfInBounds_toArray, List.set_cons_zero, List.set_cons_succ]
                refine wpAnyH_ready (rs := [9]) (by kernel_rfl) (by simp) ?_
                refine hcons rfl (fun K hK => ?_) (AllReadyH.nil)
                go_simp
                refine (HN2.out _ HLV.out.2.2.2.1).mono ?_; rintro e9 U9 ⟨rfl, hb⟩; exact ⟨rfl, rfl, HNO.out, HLV.out.2.2.2.2.2.trans (KMine.next hb), HLV.out.2.2.2.1.next hb, HLV.out.2.2.2.2.1.trans (hb.mono HLV.out.2.2.2.2.1.size)⟩
                go_simp
                refine (HN1.out _ HLV.out.2.2.2.1).mono ?_; rintro e4 U4 ⟨rfl, hb⟩; replace HLV := Lib.hid (HLV.out.next hb); replace HC := Lib.hid (HC.out.trans (hb.mono HC.out.size)); clear hb
                refine hK.out _ _ ?_ (fun hHeld => ?_)
                · (try dsimp only); exact HS.out _ HC.out
                clear hK K
                try simp only [Act.put, List.setIfInBounds_toArray, List.set_cons_zero, List.set_cons_succ]
                refine wpAnyH_ready (rs := [0, 5, 9]) (by kernel_rfl) (by simp) ?_
                refine hcons rfl (fun K hK => ?_) (hcons rfl (fun K hK => ?_) (hcons rfl (fun K hK => ?_) (AllReadyH.nil)))
                have z0 := HLV.out.1.c 0 _ rfl; go_simp; clear z0
                refine hK.out _ _ ?_ (fun hHeld => ?_)
                · (try dsimp only); exact HS.out _ HC.out
                clear hK K
                try simp only [Act.put, List.setIfInBounds_toArray, List.set_cons_zero, List.set_cons_succ]
                refine wpAnyH_ready (rs := [5, 9]) (by kernel_rfl) (by simp) ?_
                refine hcons rfl (fun K hK => ?_) (hcons rfl (fun K hK => ?_) (AllReadyH.nil))
                have z5 := HLV.out.2.1.c 0 _ rfl; go_simp; clear z5
                refine hK.out _ _ ?_ (fun hHeld => ?_)
                · (try dsimp only); exact HS.out _ HC.out
                clear hK K
                try simp only [Act.put, List.setIfInBounds_toArray, List.set_cons_zero, List.set_cons_succ]
                refine wpAnyH_ready (rs := [9]) (by kernel_rfl) (by simp) ?_
                refine hcons rfl (fun K hK => ?_) (AllReadyH.nil)
                go_simp
                refine (HN2.out _ HLV.out.2.2.2.1).mono ?_; rintro e9 U9 ⟨rfl, hb⟩; exact ⟨rfl, rfl, HNO.out, HLV.out.2.2.2.2.2.trans (KMine.next hb), HLV.out.2.2.2.1.next hb, HLV.out.2.2.2.2.1.trans (hb.mono HLV.out.2.2.2.2.1.size)⟩
                go_simp
                refine (HN2.out _ HLV.out.2.2.2.1).mono ?_; rintro e9 U9 ⟨rfl, hb⟩; exact ⟨rfl, rfl, HNO.out, HLV.out.2.2.2.2.2.trans (KMine.next hb), HLV.out.2.2.2.1.next hb, HLV.out.2.2.2.2.1.trans (hb.mono HLV.out.2.2.2.2.1.size)⟩
                have z5 := HLV.out.2.1.c 0 _ rfl; go_simp; clear z5
                refine hK.out _ _ ?_ (fun hHeld => ?_)
                · (try dsimp only); exact HS.out _ HC.out
                clear hK K
                try simp only [Act.put, List.setIfInBounds_toArray, List.set_cons_zero, List.set_cons_succ]
                refine wpAnyH_ready (rs := [0, 9]) (by kernel_rfl) (by simp) ?_
                refine hcons rfl (fun K hK => ?_) (hcons rfl (fun K hK => ?_) (AllReadyH.nil))
                have z0 := HLV.out.1.c 0 _ rfl; go_simp; clear z0
                refine hK.out _ _ ?_ (fun hHeld => ?_)
                · (try dsimp only); exact HS.out _ HC.out
                clear hK K
                try simp only [Act.put, List.setIfInBounds_toArray, List.set_cons_zero, List.set_cons_succ]
                refine wpAnyH_ready (rs := [9]) (by kernel_rfl) (by simp) ?_
                refine hcons rfl (fun K hK => ?_) (AllReadyH.nil)
                go_simp
                refine (HN2.out _ HLV.out.2.2.2.1).mono ?_; rintro e9 U9 ⟨rfl, hb⟩; exact ⟨rfl, rfl, HNO.out, HLV.out.2.2.2.2.2.trans (KMine.next hb), HLV.out.2.2.2.1.next hb, HLV.out.2.2.2.2.1.trans (hb.mono HLV.out.2.2.2.2.1.size)⟩
                go_simp
                refine (HN2.out _ HLV.out.2.2.2.1).mono ?_; rintro e9 U9 ⟨rfl, hb⟩; exact ⟨rfl, rfl, HNO.out, HLV.out.2.2.2.2.2.trans (KMine.next hb), HLV.out.2.2.2.1.next hb, HLV.out.2.2.2.2.1.trans (hb.mono HLV.out.2.2.2.2.1.size)⟩
                go_simp
                refine (HN2.out _ HLV.out.2.2.2.1).mono ?_; rintro e9 U9 ⟨rfl, hb⟩; exact ⟨rfl, rfl, HNO.out, HLV.out.2.2.2.2.2.trans (KMine.next hb), HLV.out.2.2.2.1.next hb, HLV.out.2.2.2.2.1.trans (hb.mono HLV.out.2.2.2.2.1.size)⟩
                have z5 := HLV.out.2.1.c 0 _ rfl; go_simp; clear z5
                refine hK.out _ _ ?_ (fun hHeld => ?_)
                · (try dsimp only); exact HS.out _ HC.out
                clear hK K
                try simp only [Act.put, List.setIfInBounds_toArray, List.set_cons_zero, List.set_cons_succ]
                refine wpAnyH_ready (rs := [0, 4]) (by kernel_rfl) (by simp) ?_
                refine hcons rfl (fun K hK => ?_) (hcons rfl (fun K hK => ?_) (AllReadyH.nil))
                have z0 := HLV.out.1.c 0 _ rfl; go_simp; clear z0
                refine hK.out _ _ ?_ (fun hHeld => ?_)
                · (try dsimp only); exact HS.out _ HC.out
                clear hK K
                try simp only [Act.put, List.setIfInBounds_toArray, List.set_cons_zero, List.set_cons_succ]
                refine wpAnyH_ready (rs := [4]) (by kernel_rfl) (by simp) ?_
                refine hcons rfl (fun K hK => ?_) (AllReadyH.nil)
                go_simp
                refine (HN1.out _ HLV.out.2.2.2.1).mono ?_; rintro e4 U4 ⟨rfl, hb⟩; replace HLV := Lib.hid (HLV.out.next hb); replace HC := Lib.hid (HC.out.trans (hb.mono HC.out.size)); clear hb
                refine hK.out _ _ ?_ (fun hHeld => ?_)
                · (try dsimp only); exact HS.out _ HC.out
                clear hK K
                try simp only [Act.put, List.setIfInBounds_toArray, List.set_cons_zero, List.set_cons_succ]
                refine wpAnyH_ready (rs := [9]) (by kernel_rfl) (by simp) ?_
                refine hcons rfl (fun K hK => ?_) (AllReadyH.nil)
                go_simp
                refine (HN2.out _ HLV.out.2.2.2.1).mono ?_; rintro e9 U9 ⟨rfl, hb⟩; exact ⟨rfl, rfl, HNO.out, HLV.out.2.2.2.2.2.trans (KMine.next hb), HLV.out.2.2.2.1.next hb, HLV.out.2.2.2.2.1.trans (hb.mono HLV.out.2.2.2.2.1.size)⟩
                go_simp
                refine (HN1.out _ HLV.out.2.2.2.1).mono ?_; rintro e4 U4 ⟨rfl, hb⟩; replace HLV := Lib.hid (HLV.out.next hb); replace HC := Lib.hid (HC.out.trans (hb.mono HC.out.size)); clear hb
                refine hK.out _ _ ?_ (fun hHeld => ?_)
                · (try dsimp only); exact HS.out _ HC.out
                clear hK K
                try simp only [Act.put, List.setIfInBounds_toArray, List.set_cons_zero, List.set_cons_succ]
                refine wpAnyH_ready (rs := [0, 9]) (by kernel_rfl) (by simp) ?_
                refine hcons rfl (fun K hK => ?_) (hcons rfl (fun K hK => ?_) (AllReadyH.nil))
                have z0 := HLV.out.1.c 0 _ rfl; go_simp; clear z0
                refine hK.out _ _ ?_ (fun hHeld => ?_)
                · (try dsimp only); exact HS.out _ HC.out
                clear hK K
                try simp only [Act.put, List.setIfInBounds_toArray, List.set_cons_zero, List.set_cons_succ]
                refine wpAnyH_ready (rs := [9]) (by kernel_rfl) (by simp) ?_
                refine hcons rfl (fun K hK => ?_) (AllReadyH.nil)
                go_simp
                refine (HN2.out _ HLV.out.2.2.2.1).mono ?_; rintro e9 U9 ⟨rfl, hb⟩; exact ⟨rfl, rfl, HNO.out, HLV.out.2.2.2.2.2.trans (KMine.next hb), HLV.out.2.2.2.1.next hb, HLV.out.2.2.2.2.1.trans (hb.mono HLV.out.2.2.2.2.1.size)⟩
                go_simp
                refine (HN2.out _ HLV.out.2.2.2.1).mono ?_; rintro e9 U9 ⟨rfl, hb⟩; exact ⟨rfl, rfl, HNO.out, HLV.out.2.2.2.2.2.trans (KMine.next hb), HLV.out.2.2.2.1.next hb, HLV.out.2.2.2.2.1.trans (hb.mono HLV.out.2.2.2.2.1.size)⟩
              · have HGO := Lib.hid (show stepL last out ws = some ((last + a0), out ++ [⟨a1, (last + a0), s2⟩]) from HST.out)
                replace HN1 := Lib.hid (show ∀ W' : World, Env W' → Calls Tryz.prog 41 #[tx w1] W' (Got (some (.int .i64 a1)) W') from HN1.out)
                replace HN2 := Lib.hid (show ∀ W' : World, Env W' → Calls Tryz.prog 42 #[tx w2] W' (Got (some (.agg #[.int .i64 s2.lo, .int .i64 s2.hi])) W') from HN2.out)
                obtain ⟨i0, hi, hz0, hz1, hz2⟩ := info_parts wo_info
                refine region_inX (S := (fun W' => W'.cell? ⟨q, off + 1, none⟩ = some (tx w1) ∧ W'.cell? ⟨q, off + 2, none⟩ = some (tx w2))) (fun ch W' => ch = [{ v := .iface 129 (.agg #[]), recovered := false }] ∧ stepL last out ws = none ∧ KMine B W W' ∧ Env W' ∧ Below w.heap.size w W') (by kernel_rfl) (by kernel_rfl) (fun ch a' w' hd h => by obtain ⟨rfl, h1, h2, h3, h4⟩ := h; exact ⟨hd, HPAN.out w' h1 h2 h3 h4⟩) ?_ (fun hHeld => ?_)
                · (try dsimp only); exact HS.out _ HC.out
                refine htake (i := 1) (v := ?v77) rfl (by kernel_rfl) (by kernel_rfl) (by kernel_rfl) (fun _ _ _ h => pan_put h) (Or.inl ⟨by rfl, ?hy77⟩) (by assumption) ?_
                case hy77 => (intro w hSw; (try dsimp only at hSw); go_simp; try (with_reducible rfl))
                try simp only [Act.put, List.setIfInBounds_toArray, List.set_cons_zero, List.set_cons_succ]
                refine htake (i := 2) (v := ?v78) rfl (by kernel_rfl) (by kernel_rfl) (by kernel_rfl) (fun _ _ _ h => pan_put h) (Or.inl ⟨by rfl, ?hy78⟩) (by assumption) ?_
                case hy78 => (intro w hSw; (try dsimp only at hSw); go_simp; try (with_reducible rfl))
                try simp only [Act.put, List.setIfInBounds_toArray, List.set_cons_zero, List.set_cons_succ]
                refine htake (i := 3) (v := ?v79) rfl (by kernel_rfl) (by kernel_rfl) (by kernel_rfl) (fun _ _ _ h => pan_put h) (Or.inl ⟨by rfl, ?hy79⟩) (by assumption) ?_
                case hy79 => (intro w hSw; (try dsimp only at hSw); go_simp; try (with_reducible rfl))
                try simp only [Act.put, List.setIfInBounds_toArray, List.set_cons_zero, List.set_cons_succ]
                refine htake (i := 6) (v := ?v80) rfl (by kernel_rfl) (by kernel_rfl) (by kernel_rfl) (fun _ _ _ h => pan_put h) (Or.inl ⟨by rfl, ?hy80⟩) (by assumption) ?_
                case hy80 => (intro w hSw; (try dsimp only at hSw); go_simp; try (with_reducible rfl))
                try simp only [Act.put, List.setIfInBounds_toArray, List.set_cons_zero, List.set_cons_succ]
                refine htake (i := 7) (v := ?v81) rfl (by kernel_rfl) (by kernel_rfl) (by kernel_rfl) (fun _ _ _ h => pan_put h) (Or.inl ⟨by rfl, ?hy81⟩) (by assumption) ?_
                case hy81 => (intro w hSw; (try dsimp only at hSw); go_simp; try (with_reducible rfl))
                try simp only [Act.put, List.setIfInBounds_toArray, List.set_cons_zero, List.set_cons_succ]
                refine htake (i := 8) (v := ?v82) rfl (by kernel_rfl) (by kernel_rfl) (by kernel_rfl) (fun _ _ _ h => pan_put h) (Or.inl ⟨by rfl, ?hy82⟩) (by assumption) ?_
                case hy82 => (intro w hSw; (try dsimp only at hSw); go_simp; try (with_reducible rfl))
                try simp only [Act.put, List.setIfInBounds_toArray, List.set_cons_zero, List.set_cons_succ]
                refine wpAnyH_ready (rs := [0, 4, 5]) (by kernel_rfl) (by simp) ?_
                refine hcons rfl (fun K hK => ?_) (hcons rfl (fun K hK => ?_) (hcons rfl (fun K hK => ?_) (AllReadyH.nil)))
                have z0 := HLV.out.1.c 0 _ rfl; go_simp; clear z0
                refine hK.out _ _ ?_ (fun hHeld => ?_)
                · (try dsimp only); exact HS.out _ HC.out
                clear hK K
                try simp only [Act.put, List.setIfInBounds_toArray, List.set_cons_zero, List.set_cons_succ]
                refine wpAnyH_ready (rs := [4, 5]) (by kernel_rfl) (by simp) ?_
                refine hcons rfl (fun K hK => ?_) (hcons rfl (fun K hK => ?_) (AllReadyH.nil))
                go_simp
                refine (HN1.out _ HLV.out.2.2.2.1).mono ?_; rintro e4 U4 ⟨rfl, hb⟩; replace HLV := Lib.hid (HLV.out.next hb); replace HC := Lib.hid (HC.out.trans (hb.mono HC.out.size)); clear hb
                refine hK.out _ _ ?_ (fun hHeld => ?_)
                · (try dsimp only); exact HS.out _ HC.out
                clear hK K
                try simp only [Act.put, List.setIfInBounds_toArray, List.set_cons_zero, List.set_cons_succ]
                refine wpAnyH_ready (rs := [5, 9]) (by kernel_rfl) (by simp) ?_
                refine hcons rfl (fun K hK => ?_) (hcons rfl (fun K hK => ?_) (AllReadyH.nil))
                have z5 := HLV.out.2.1.c 0 _ rfl; go_simp; clear z5
                refine hK.out _ _ ?_ (fun hHeld => ?_)
                · (try dsimp only); exact HS.out _ HC.out
                clear hK K
                try simp only [Act.put, List.setIfInBounds_toArray, List.set_cons_zero, List.set_cons_succ]
                refine wpAnyH_ready (rs := [9]) (by kernel_rfl) (by simp) ?_
                refine hcons rfl (fun K hK => ?_) (AllReadyH.nil)
                go_simp
                refine (HN2.out _ HLV.out.2.2.2.1).mono ?_; rintro e9 U9 ⟨rfl, hb⟩; replace HLV := Lib.hid (HLV.out.next hb); replace HC := Lib.hid (HC.out.trans (hb.mono HC.out.size)); clear hb
                refine hK.out _ _ ?_ (fun hHeld => ?_)
                · (try dsimp only); exact HS.out _ HC.out
                clear hK K
                try simp only [Act.put, List.setIfInBounds_toArray, List.set_cons_zero, List.set_cons_succ]
                refine htake (i := 10) (v := ?v83) rfl (by kernel_rfl) (by kernel_rfl) (by kernel_rfl) (fun _ _ _ h => pan_put h) (Or.inl ⟨by rfl, ?hy83⟩) (by assumption) ?_
                case hy83 => (intro w hSw; (try dsimp only at hSw); go_simp; try (with_reducible rfl))
                try simp only [Act.put, List.setIfInBounds_toArray, List.set_cons_zero, List.set_cons_succ]
                refine wpAnyH_ready (rs := [11]) (by kernel_rfl) (by simp) ?_
                refine hcons rfl (fun K hK => ?_) (AllReadyH.nil)
                go_simp
                (first | refine hold_alloc (fun Wa q1 q2 q3 => ?_) | refine hold_alloc_drew (fun Wa q1 q2 q3 => ?_)); have HN := Lib.hid (show Bx _ _ (Wo.cells ⟨a1, (last + a0), s2⟩) from q2); replace HLV := Lib.hid (HLV.out.next q1); replace HC := Lib.hid (HC.out.trans (q1.mono HC.out.size)); clear q1 q2 q3
                refine hK.out _ _ ?_ (fun hHeld => ?_)
                · (try dsimp only); exact HS.out _ HC.out
                clear hK K
                try simp only [Act.put, List.setIfInBounds_toArray, List.set_cons_zero, List.set_cons_succ]
                refine wpAnyH_ready (rs := [12]) (by kernel_rfl) (by simp) ?_
                refine hcons rfl (fun K hK => ?_) (AllReadyH.nil)
                refine step_append_any rfl (.tmp 31) (.tmp 42) 44 rfl B 66 i0 _ 4 32 Tryz.underlying44 hi hz0 hz1 hz2 rfl (by decide) (.slice A out.length cp) out.length _ rfl HLV.out.2.2.1 ⟨_, 0, none⟩ 1 1 (Wo.cells ⟨a1, (last + a0), s2⟩) rfl rfl HN.out.news (wo_one _) (by unfold maxLen; omega) (by omega) (Nat.le_trans HBS.out HC.out.size) ?_; intro v' w' hown' hgrow; have hqn := own_ne_kd HLV.out.2.2.1 (HKQ.out _ HC.out).1; have HS12 := Lib.hid (And.intro ((grown_cell hgrow (HKQ.out _ HC.out).2 hqn (off + 1)).trans (HS.out _ HC.out).1) ((grown_cell hgrow (HKQ.out _ HC.out).2 hqn (off + 2)).trans (HS.out _ HC.out).2)); have z13 := (HLV.out.1.grown hgrow (own_far HLV.out.2.2.1 hbdB)).c 0 _ rfl; have y13 := (HLV.out.1.grown hgrow (own_far HLV.out.2.2.1 hbdB)).fr 0; replace HLV := Lib.hid (HLV.out.add hbdB hbaB hbd9 hbdw hbda hown' hgrow); obtain ⟨A6, c6, e6, -⟩ := own_form hown'; subst e6; clear hown' hgrow HN hqn
                refine hK.out _ _ ?_ (fun hHeld => ?_)
                · (try dsimp only); exact HS12.out
                clear hK K
                try simp only [Act.put, List.setIfInBounds_toArray, List.set_cons_zero, List.set_cons_succ]
                refine wpAnyH_ready (rs := [13]) (by kernel_rfl) (by simp) ?_
                refine hcons rfl (fun K hK => ?_) (AllReadyH.nil)
                go_simp; clear z13 y13
                refine hK.out _ _ ?_ (fun hHeld => ?_)
                · (try dsimp only); exact ⟨(World.cell?_setCell_other _ _ _ _ (by intro e; injection e with e; exact hqbd e)).trans HS12.out.1, (World.cell?_setCell_other _ _ _ _ (by intro e; injection e with e; exact hqbd e)).trans HS12.out.2⟩
                clear hK K
                try simp only [Act.put]
                refine wpAnyH_done (by kernel_rfl) ?_ _
                dsimp only [PanTo]
                rotate_left
                go_simp
                refine (HN2.out _ HLV.out.2.2.2.1).mono ?_; rintro e9 U9 ⟨rfl, hb⟩; replace HLV := Lib.hid (HLV.out.next hb); replace HC := Lib.hid (HC.out.trans (hb.mono HC.out.size)); clear hb
                refine hK.out _ _ ?_ (fun hHeld => ?_)
                · (try dsimp only); exact HS.out _ HC.out
                clear hK K
                try simp only [Act.put, List.setIfInBounds_toArray, List.set_cons_zero, List.set_cons_succ]
                refine wpAnyH_ready (rs := [5]) (by kernel_rfl) (by simp) ?_
                refine hcons rfl (fun K hK => ?_) (AllReadyH.nil)
                have z5 := HLV.out.2.1.c 0 _ rfl; go_simp; clear z5
                refine hK.out _ _ ?_ (fun hHeld => ?_)
                · (try dsimp only); exact HS.out _ HC.out
                clear hK K
                try simp only [Act.put, List.setIfInBounds_toArray, List.set_cons_zero, List.set_cons_succ]
                refine htake (i := 10) (v := ?v84) rfl (by kernel_rfl) (by kernel_rfl) (by kernel_rfl) (fun _ _ _ h => pan_put h) (Or.inl ⟨by rfl, ?hy84⟩) (by assumption) ?_
                case hy84 => (intro w hSw; (try dsimp only at hSw); go_simp; try (with_reducible rfl))
                try simp only [Act.put, List.setIfInBounds_toArray, List.set_cons_zero, List.set_cons_succ]
                refine wpAnyH_ready (rs := [11]) (by kernel_rfl) (by simp) ?_
                refine hcons rfl (fun K hK => ?_) (AllReadyH.nil)
                go_simp
                (first | refine hold_alloc (fun Wa q1 q2 q3 => ?_) | refine hold_alloc_drew (fun Wa q1 q2 q3 => ?_)); have HN := Lib.hid (show Bx _ _ (Wo.cells ⟨a1, (last + a0), s2⟩) from q2); replace HLV := Lib.hid (HLV.out.next q1); replace HC := Lib.hid (HC.out.trans (q1.mono HC.out.size)); clear q1 q2 q3
                refine hK.out _ _ ?_ (fun hHeld => ?_)
                · (try dsimp only); exact HS.out _ HC.out
                clear hK K
                try simp only [Act.put, List.setIfInBounds_toArray, List.set_cons_zero, List.set_cons_succ]
                refine wpAnyH_ready (rs := [12]) (by kernel_rfl) (by simp) ?_
                refine hcons rfl (fun K hK => ?_) (AllReadyH.nil)
                refine step_append_any rfl (.tmp 31) (.tmp 42) 44 rfl B 66 i0 _ 4 32 Tryz.underlying44 hi hz0 hz1 hz2 rfl (by decide) (.slice A out.length cp) out.length _ rfl HLV.out.2.2.1 ⟨_, 0, none⟩ 1 1 (Wo.cells ⟨a1, (last + a0), s2⟩) rfl rfl HN.out.news (wo_one _) (by unfold maxLen; omega) (by omega) (Nat.le_trans HBS.out HC.out.size) ?_; intro v' w' hown' hgrow; have hqn := own_ne_kd HLV.out.2.2.1 (HKQ.out _ HC.out).1; have HS12 := Lib.hid (And.intro ((grown_cell hgrow (HKQ.out _ HC.out).2 hqn (off + 1)).trans (HS.out _ HC.out).1) ((grown_cell hgrow (HKQ.out _ HC.out).2 hqn (off + 2)).trans (HS.out _ HC.out).2)); have z13 := (HLV.out.1.grown hgrow (own_far HLV.out.2.2.1 hbdB)).c 0 _ rfl; have y13 := (HLV.out.1.grown hgrow (own_far HLV.out.2.2.1 hbdB)).fr 0; replace HLV := Lib.hid (HLV.out.add hbdB hbaB hbd9 hbdw hbda hown' hgrow); obtain ⟨A6, c6, e6, -⟩ := own_form hown'; subst e6; clear hown' hgrow HN hqn
                refine hK.out _ _ ?_ (fun hHeld => ?_)
                · (try dsimp only); exact HS12.out
                clear hK K
                try simp only [Act.put, List.setIfInBounds_toArray, List.set_cons_zero, List.set_cons_succ]
                refine wpAnyH_ready (rs := [13]) (by kernel_rfl) (by simp) ?_
                refine hcons rfl (fun K hK => ?_) (AllReadyH.nil)
                go_simp; clear z13 y13
                refine hK.out _ _ ?_ (fun hHeld => ?_)
                · (try dsimp only); exact ⟨(World.cell?_setCell_other _ _ _ _ (by intro e; injection e with e; exact hqbd e)).trans HS12.out.1, (World.cell?_setCell_other _ _ _ _ (by intro e; injection e with e; exact hqbd e)).trans HS12.out.2⟩
                clear hK K
                try simp only [Act.put]
                refine wpAnyH_done (by kernel_rfl) ?_ _
                dsimp only [PanTo]
                rotate_left
                have z5 := HLV.out.2.1.c 0 _ rfl; go_simp; clear z5
                refine hK.out _ _ ?_ (fun hHeld => ?_)
                · (try dsimp only); exact HS.out _ HC.out
                clear hK K
                try simp only [Act.put, List.setIfInBounds_toArray, List.set_cons_zero, List.set_cons_succ]
                refine wpAnyH_ready (rs := [4]) (by kernel_rfl) (by simp) ?_
                refine hcons rfl (fun K hK => ?_) (AllReadyH.nil)
                go_simp
                refine (HN1.out _ HLV.out.2.2.2.1).mono ?_; rintro e4 U4 ⟨rfl, hb⟩; replace HLV := Lib.hid (HLV.out.next hb); replace HC := Lib.hid (HC.out.trans (hb.mono HC.out.size)); clear hb
                refine hK.out _ _ ?_ (fun hHeld => ?_)
                · (try dsimp only); exact HS.out _ HC.out
                clear hK K
                try simp only [Act.put, List.setIfInBounds_toArray, List.set_cons_zero, List.set_cons_succ]
                refine wpAnyH_ready (rs := [9]) (by kernel_rfl) (by simp) ?_
                refine hcons rfl (fun K hK => ?_) (AllReadyH.nil)
                go_simp
                refine (HN2.out _ HLV.out.2.2.2.1).mono ?_; rintro e9 U9 ⟨rfl, hb⟩; replace HLV := Lib.hid (HLV.out.next hb); replace HC := Lib.hid (HC.out.trans (hb.mono HC.out.size)); clear hb
                refine hK.out _ _ ?_ (fun hHeld => ?_)
                · (try dsimp only); exact HS.out _ HC.out
                clear hK K
                try simp only [Act.put, List.setIfInBounds_toArray, List.set_cons_zero, List.set_cons_succ]
                refine htake (i := 10) (v := ?v85) rfl (by kernel_rfl) (by kernel_rfl) (by kernel_rfl) (fun _ _ _ h => pan_put h) (Or.inl ⟨by rfl, ?hy85⟩) (by assumption) ?_
                case hy85 => (intro w hSw; (try dsimp only at hSw); go_simp; try (with_reducible rfl))
                try simp only [Act.put, List.setIfInBounds_toArray, List.set_cons_zero, List.set_cons_succ]
                refine wpAnyH_ready (rs := [11]) (by kernel_rfl) (by simp) ?_
                refine hcons rfl (fun K hK => ?_) (AllReadyH.nil)
                go_simp
                (first | refine hold_alloc (fun Wa q1 q2 q3 => ?_) | refine hold_alloc_drew (fun Wa q1 q2 q3 => ?_)); have HN := Lib.hid (show Bx _ _ (Wo.cells ⟨a1, (last + a0), s2⟩) from q2); replace HLV := Lib.hid (HLV.out.next q1); replace HC := Lib.hid (HC.out.trans (q1.mono HC.out.size)); clear q1 q2 q3
                refine hK.out _ _ ?_ (fun hHeld => ?_)
                · (try dsimp only); exact HS.out _ HC.out
                clear hK K
                try simp only [Act.put, List.setIfInBounds_toArray, List.set_cons_zero, List.set_cons_succ]
                refine wpAnyH_ready (rs := [12]) (by kernel_rfl) (by simp) ?_
                refine hcons rfl (fun K hK => ?_) (AllReadyH.nil)
                refine step_append_any rfl (.tmp 31) (.tmp 42) 44 rfl B 66 i0 _ 4 32 Tryz.underlying44 hi hz0 hz1 hz2 rfl (by decide) (.slice A out.length cp) out.length _ rfl HLV.out.2.2.1 ⟨_, 0, none⟩ 1 1 (Wo.cells ⟨a1, (last + a0), s2⟩) rfl rfl HN.out.news (wo_one _) (by unfold maxLen; omega) (by omega) (Nat.le_trans HBS.out HC.out.size) ?_; intro v' w' hown' hgrow; have hqn := own_ne_kd HLV.out.2.2.1 (HKQ.out _ HC.out).1; have HS12 := Lib.hid (And.intro ((grown_cell hgrow (HKQ.out _ HC.out).2 hqn (off + 1)).trans (HS.out _ HC.out).1) ((grown_cell hgrow (HKQ.out _ HC.out).2 hqn (off + 2)).trans (HS.out _ HC.out).2)); have z13 := (HLV.out.1.grown hgrow (own_far HLV.out.2.2.1 hbdB)).c 0 _ rfl; have y13 := (HLV.out.1.grown hgrow (own_far HLV.out.2.2.1 hbdB)).fr 0; replace HLV := Lib.hid (HLV.out.add hbdB hbaB hbd9 hbdw hbda hown' hgrow); obtain ⟨A6, c6, e6, -⟩ := own_form hown'; subst e6; clear hown' hgrow HN hqn
                refine hK.out _ _ ?_ (fun hHeld => ?_)
                · (try dsimp only); exact HS12.out
                clear hK K
                try simp only [Act.put, List.setIfInBounds_toArray, List.set_cons_zero, List.set_cons_succ]
                refine wpAnyH_ready (rs := [13]) (by kernel_rfl) (by simp) ?_
                refine hcons rfl (fun K hK => ?_) (AllReadyH.nil)
                go_simp; clear z13 y13
                refine hK.out _ _ ?_ (fun hHeld => ?_)
                · (try dsimp only); exact ⟨(World.cell?_setCell_other _ _ _ _ (by intro e; injection e with e; exact hqbd e)).trans HS12.out.1, (World.cell?_setCell_other _ _ _ _ (by intro e; injection e with e; exact hqbd e)).trans HS12.out.2⟩
                clear hK K
                try simp only [Act.put]
                refine wpAnyH_done (by kernel_rfl) ?_ _
                dsimp only [PanTo]
                rotate_left
                go_simp
                refine (HN1.out _ HLV.out.2.2.2.1).mono ?_; rintro e4 U4 ⟨rfl, hb⟩; replace HLV := Lib.hid (HLV.out.next hb); replace HC := Lib.hid (HC.out.trans (hb.mono HC.out.size)); clear hb
                refine hK.out _ _ ?_ (fun hHeld => ?_)
                · (try dsimp only); exact HS.out _ HC.out
                clear hK K
                try simp only [Act.put, List.setIfInBounds_toArray, List.set_cons_zero, List.set_cons_succ]
                refine wpAnyH_ready (rs := [0, 5, 9]) (by kernel_rfl) (by simp) ?_
                refine hcons rfl (fun K hK => ?_) (hcons rfl (fun K hK => ?_) (hcons rfl (fun K hK => ?_) (AllReadyH.nil)))
                have z0 := HLV.out.1.c 0 _ rfl; go_simp; clear z0
                refine hK.out _ _ ?_ (fun hHeld => ?_)
                · (try dsimp only); exact HS.out _ HC.out
                clear hK K
                try simp only [Act.put, List.setIfInBounds_toArray, List.set_cons_zero, List.set_cons_succ]
                refine wpAnyH_ready (rs := [5, 9]) (by kernel_rfl) (by simp) ?_
                refine hcons rfl (fun K hK => ?_) (hcons rfl (fun K hK => ?_) (AllReadyH.nil))
                have z5 := HLV.out.2.1.c 0 _ rfl; go_simp; clear z5
                refine hK.out _ _ ?_ (fun hHeld => ?_)
                · (try dsimp only); exact HS.out _ HC.out
                clear hK K
                try simp only [Act.put, List.setIfInBounds_toArray, List.set_cons_zero, List.set_cons_succ]
                refine wpAnyH_ready (rs := [9]) (by kernel_rfl) (by simp) ?_
                refine hcons rfl (fun K hK => ?_) (AllReadyH.nil)
                go_simp
                refine (HN2.out _ HLV.out.2.2.2.1).mono ?_; rintro e9 U9 ⟨rfl, hb⟩; replace HLV := Lib.hid (HLV.out.next hb); replace HC := Lib.hid (HC.out.trans (hb.mono HC.out.size)); clear hb
                refine hK.out _ _ ?_ (fun hHeld => ?_)
                · (try dsimp only); exact HS.out _ HC.out
                clear hK K
                try simp only [Act.put, List.setIfInBounds_toArray, List.set_cons_zero, List.set_cons_succ]
                refine htake (i := 10) (v := ?v86) rfl (by kernel_rfl) (by kernel_rfl) (by kernel_rfl) (fun _ _ _ h => pan_put h) (Or.inl ⟨by rfl, ?hy86⟩) (by assumption) ?_
                case hy86 => (intro w hSw; (try dsimp only at hSw); go_simp; try (with_reducible rfl))
                try simp only [Act.put, List.setIfInBounds_toArray, List.set_cons_zero, List.set_cons_succ]
                refine wpAnyH_ready (rs := [11]) (by kernel_rfl) (by simp) ?_
                refine hcons rfl (fun K hK => ?_) (AllReadyH.nil)
                go_simp
                (first | refine hold_alloc (fun Wa q1 q2 q3 => ?_) | refine hold_alloc_drew (fun Wa q1 q2 q3 => ?_)); have HN := Lib.hid (show Bx _ _ (Wo.cells ⟨a1, (last + a0), s2⟩) from q2); replace HLV := Lib.hid (HLV.out.next q1); replace HC := Lib.hid (HC.out.trans (q1.mono HC.out.size)); clear q1 q2 q3
                refine hK.out _ _ ?_ (fun hHeld => ?_)
                · (try dsimp only); exact HS.out _ HC.out
                clear hK K
                try simp only [Act.put, List.setIfInBounds_toArray, List.set_cons_zero, List.set_cons_succ]
                refine wpAnyH_ready (rs := [12]) (by kernel_rfl) (by simp) ?_
                refine hcons rfl (fun K hK => ?_) (AllReadyH.nil)
                refine step_append_any rfl (.tmp 31) (.tmp 42) 44 rfl B 66 i0 _ 4 32 Tryz.underlying44 hi hz0 hz1 hz2 rfl (by decide) (.slice A out.length cp) out.length _ rfl HLV.out.2.2.1 ⟨_, 0, none⟩ 1 1 (Wo.cells ⟨a1, (last + a0), s2⟩) rfl rfl HN.out.news (wo_one _) (by unfold maxLen; omega) (by omega) (Nat.le_trans HBS.out HC.out.size) ?_; intro v' w' hown' hgrow; have hqn := own_ne_kd HLV.out.2.2.1 (HKQ.out _ HC.out).1; have HS12 := Lib.hid (And.intro ((grown_cell hgrow (HKQ.out _ HC.out).2 hqn (off + 1)).trans (HS.out _ HC.out).1) ((grown_cell hgrow (HKQ.out _ HC.out).2 hqn (off + 2)).trans (HS.out _ HC.out).2)); have z13 := (HLV.out.1.grown hgrow (own_far HLV.out.2.2.1 hbdB)).c 0 _ rfl; have y13 := (HLV.out.1.grown hgrow (own_far HLV.out.2.2.1 hbdB)).fr 0; replace HLV := Lib.hid (HLV.out.add hbdB hbaB hbd9 hbdw hbda hown' hgrow); obtain ⟨A6, c6, e6, -⟩ := own_form hown'; subst e6; clear hown' hgrow HN hqn
                refine hK.out _ _ ?_ (fun hHeld => ?_)
                · (try dsimp only); exact HS12.out
                clear hK K
                try simp only [Act.put, List.setIfInBounds_toArray, List.set_cons_zero, List.set_cons_succ]
                refine wpAnyH_ready (rs := [13]) (by kernel_rfl) (by simp) ?_
                refine hcons rfl (fun K hK => ?_) (AllReadyH.nil)
                go_simp; clear z13 y13
                refine hK.out _ _ ?_ (fun hHeld => ?_)
                · (try dsimp only); exact ⟨(World.cell?_setCell_other _ _ _ _ (by intro e; injection e with e; exact hqbd e)).trans HS12.out.1, (World.cell?_setCell_other _ _ _ _ (by intro e; injection e with e; exact hqbd e)).trans HS12.out.2⟩
                clear hK K
                try simp only [Act.put]
                refine wpAnyH_done (by kernel_rfl) ?_ _
                dsimp only [PanTo]
                rotate_left
                go_simp
                refine (HN2.out _ HLV.out.2.2.2.1).mono ?_; rintro e9 U9 ⟨rfl, hb⟩; replace HLV := Lib.hid (HLV.out.next hb); replace HC := Lib.hid (HC.out.trans (hb.mono HC.out.size)); clear hb
                refine hK.out _ _ ?_ (fun hHeld => ?_)
                · (try dsimp only); exact HS.out _ HC.out
                clear hK K
                try simp only [Act.put, List.setIfInBounds_toArray, List.set_cons_zero, List.set_cons_succ]
                refine wpAnyH_ready (rs := [5]) (by kernel_rfl) (by simp) ?_
                refine hcons rfl (fun K hK => ?_) (AllReadyH.nil)
                have z5 := HLV.out.2.1.c 0 _ rfl; go_simp; clear z5
                refine hK.out _ _ ?_ (fun hHeld => ?_)
                · (try dsimp only); exact HS.out _ HC.out
                clear hK K
                try simp only [Act.put, List.setIfInBounds_toArray, List.set_cons_zero, List.set_cons_succ]
                refine htake (i := 10) (v := ?v87) rfl (by kernel_rfl) (by kernel_rfl) (by kernel_rfl) (fun _ _ _ h => pan_put h) (Or.inl ⟨by rfl, ?hy87⟩) (by assumption) ?_
                case hy87 => (intro w hSw; (try dsimp only at hSw); go_simp; try (with_reducible rfl))
                try simp only [Act.put, List.setIfInBounds_toArray, List.set_cons_zero, List.set_cons_succ]
                refine wpAnyH_ready (rs := [11]) (by kernel_rfl) (by simp) ?_
                refine hcons rfl (fun K hK => ?_) (AllReadyH.nil)
                go_simp
                (first | refine hold_alloc (fun Wa q1 q2 q3 => ?_) | refine hold_alloc_drew (fun Wa q1 q2 q3 => ?_)); have HN := Lib.hid (show Bx _ _ (Wo.cells ⟨a1, (last + a0), s2⟩) from q2); replace HLV := Lib.hid (HLV.out.next q1); replace HC := Lib.hid (HC.out.trans (q1.mono HC.out.size)); clear q1 q2 q3
                refine hK.out _ _ ?_ (fun hHeld => ?_)
                · (try dsimp only); exact HS.out _ HC.out
                clear hK K
                try simp only [Act.put, List.setIfInBounds_toArray, List.set_cons_zero, List.set_cons_succ]
                refine wpAnyH_ready (rs := [12]) (by kernel_rfl) (by simp) ?_
                refine hcons rfl (fun K hK => ?_) (AllReadyH.nil)
                refine step_append_any rfl (.tmp 31) (.tmp 42) 44 rfl B 66 i0 _ 4 32 Tryz.underlying44 hi hz0 hz1 hz2 rfl (by decide) (.slice A out.length cp) out.length _ rfl HLV.out.2.2.1 ⟨_, 0, none⟩ 1 1 (Wo.cells ⟨a1, (last + a0), s2⟩) rfl rfl HN.out.news (wo_one _) (by unfold maxLen; omega) (by omega) (Nat.le_trans HBS.out HC.out.size) ?_; intro v' w' hown' hgrow; have hqn := own_ne_kd HLV.out.2.2.1 (HKQ.out _ HC.out).1; have HS12 := Lib.hid (And.intro ((grown_cell hgrow (HKQ.out _ HC.out).2 hqn (off + 1)).trans (HS.out _ HC.out).1) ((grown_cell hgrow (HKQ.out _ HC.out).2 hqn (off + 2)).trans (HS.out _ HC.out).2)); have z13 := (HLV.out.1.grown hgrow (own_far HLV.out.2.2.1 hbdB)).c 0 _ rfl; have y13 := (HLV.out.1.grown hgrow (own_far HLV.out.2.2.1 hbdB)).fr 0; replace HLV := Lib.hid (HLV.out.add hbdB hbaB hbd9 hbdw hbda hown' hgrow); obtain ⟨A6, c6, e6, -⟩ := own_form hown'; subst e6; clear hown' hgrow HN hqn
                refine hK.out _ _ ?_ (fun hHeld => ?_)
                · (try dsimp only); exact HS12.out
                clear hK K
                try simp only [Act.put, List.setIfInBounds_toArray, List.set_cons_zero, List.set_cons_succ]
                refine wpAnyH_ready (rs := [13]) (by kernel_rfl) (by simp) ?_
                refine hcons rfl (fun K hK => ?_) (AllReadyH.nil)
                go_simp; clear z13 y13
                refine hK.out _ _ ?_ (fun hHeld => ?_)
                · (try dsimp only); exact ⟨(World.cell?_setCell_other _ _ _ _ (by intro e; injection e with e; exact hqbd e)).trans HS12.out.1, (World.cell?_setCell_other _ _ _ _ (by intro e; injection e with e; exact hqbd e)).trans HS12.out.2⟩
                clear hK K
                try simp only [Act.put]
                refine wpAnyH_done (by kernel_rfl) ?_ _
                dsimp only [PanTo]
                rotate_left
                have z5 := HLV.out.2.1.c 0 _ rfl; go_simp; clear z5
                refine hK.out _ _ ?_ (fun hHeld => ?_)
                · (try dsimp only); exact HS.out _ HC.out
                clear hK K
                try simp only [Act.put, List.setIfInBounds_toArray, List.set_cons_zero, List.set_cons_succ]
                refine wpAnyH_ready (rs := [0, 9]) (by kernel_rfl) (by simp) ?_
                refine hcons rfl (fun K hK => ?_) (hcons rfl (fun K hK => ?_) (AllReadyH.nil))
                have z0 := HLV.out.1.c 0 _ rfl; go_simp; clear z0
                refine hK.out _ _ ?_ (fun hHeld => ?_)
                · (try dsimp only); exact HS.out _ HC.out
                clear hK K
                try simp only [Act.put, List.setIfInBounds_toArray, List.set_cons_zero, List.set_cons_succ]
                refine wpAnyH_ready (rs := [9]) (by kernel_rfl) (by simp) ?_
                refine hcons rfl (fun K hK => ?_) (AllReadyH.nil)
                go_simp
                refine (HN2.out _ HLV.out.2.2.2.1).mono ?_; rintro e9 U9 ⟨rfl, hb⟩; replace HLV := Lib.hid (HLV.out.next hb); replace HC := Lib.hid (HC.out.trans (hb.mono HC.out.size)); clear hb
                refine hK.out _ _ ?_ (fun hHeld => ?_)
                · (try dsimp only); exact HS.out _ HC.out
                clear hK K
                try simp only [Act.put, List.setIfInBounds_toArray, List.set_cons_zero, List.set_cons_succ]
                refine htake (i := 10) (v := ?v88) rfl (by kernel_rfl) (by kernel_rfl) (by kernel_rfl) (fun _ _ _ h => pan_put h) (Or.inl ⟨by rfl, ?hy88⟩) (by assumption) ?_
                case hy88 => (intro w hSw; (try dsimp only at hSw); go_simp; try (with_reducible rfl))
                try simp only [Act.put, List.setIfInBounds_toArray, List.set_cons_zero, List.set_cons_succ]
                refine wpAnyH_ready (rs := [11]) (by kernel_rfl) (by simp) ?_
                refine hcons rfl (fun K hK => ?_) (AllReadyH.nil)
                go_simp
                (first | refine hold_alloc (fun Wa q1 q2 q3 => ?_) | refine hold_alloc_drew (fun Wa q1 q2 q3 => ?_)); have HN := Lib.hid (show Bx _ _ (Wo.cells ⟨a1, (last + a0), s2⟩) from q2); replace HLV := Lib.hid (HLV.out.next q1); replace HC := Lib.hid (HC.out.trans (q1.mono HC.out.size)); clear q1 q2 q3
                refine hK.out _ _ ?_ (fun hHeld => ?_)
                · (try dsimp only); exact HS.out _ HC.out
                clear hK K
                try simp only [Act.put, List.setIfInBounds_toArray, List.set_cons_zero, List.set_cons_succ]
                refine wpAnyH_ready (rs := [12]) (by kernel_rfl) (by simp) ?_
                refine hcons rfl (fun K hK => ?_) (AllReadyH.nil)
                refine step_append_any rfl (.tmp 31) (.tmp 42) 44 rfl B 66 i0 _ 4 32 Tryz.underlying44 hi hz0 hz1 hz2 rfl (by decide) (.slice A out.length cp) out.length _ rfl HLV.out.2.2.1 ⟨_, 0, none⟩ 1 1 (Wo.cells ⟨a1, (last + a0), s2⟩) rfl rfl HN.out.news (wo_one _) (by unfold maxLen; omega) (by omega) (Nat.le_trans HBS.out HC.out.size) ?_; intro v' w' hown' hgrow; have hqn := own_ne_kd HLV.out.2.2.1 (HKQ.out _ HC.out).1; have HS12 := Lib.hid (And.intro ((grown_cell hgrow (HKQ.out _ HC.out).2 hqn (off + 1)).trans (HS.out _ HC.out).1) ((grown_cell hgrow (HKQ.out _ HC.out).2 hqn (off + 2)).trans (HS.out _ HC.out).2)); have z13 := (HLV.out.1.grown hgrow (own_far HLV.out.2.2.1 hbdB)).c 0 _ rfl; have y13 := (HLV.out.1.grown hgrow (own_far HLV.out.2.2.1 hbdB)).fr 0; replace HLV := Lib.hid (HLV.out.add hbdB hbaB hbd9 hbdw hbda hown' hgrow); obtain ⟨A6, c6, e6, -⟩ := own_form hown'; subst e6; clear hown' hgrow HN hqn
                refine hK.out _ _ ?_ (fun hHeld => ?_)
                · (try dsimp only); exact HS12.out
                clear hK K
                try simp only [Act.put, List.setIfInBounds_toArray, List.set_cons_zero, List.set_cons_succ]
                refine wpAnyH_ready (rs := [13]) (by kernel_rfl) (by simp) ?_
                refine hcons rfl (fun K hK => ?_) (AllReadyH.nil)
                go_simp; clear z13 y13
                refine hK.out _ _ ?_ (fun hHeld => ?_)
                · (try dsimp only); exact ⟨(World.cell?_setCell_other _ _ _ _ (by intro e; injection e with e; exact hqbd e)).trans HS12.out.1, (World.cell?_setCell_other _ _ _ _ (by intro e; injection e with e; exact hqbd e)).trans HS12.out.2⟩
                clear hK K
                try simp only [Act.put]
                refine wpAnyH_done (by kernel_rfl) ?_ _
                dsimp only [PanTo]
                rotate_left
                go_simp
                refine (HN2.out _ HLV.out.2.2.2.1).mono ?_; rintro e9 U9 ⟨rfl, hb⟩; replace HLV := Lib.hid (HLV.out.next hb); replace HC := Lib.hid (HC.out.trans (hb.mono HC.out.size)); clear hb
                refine hK.out _ _ ?_ (fun hHeld => ?_)
                · (try dsimp only); exact HS.out _ HC.out
                clear hK K
                try simp only [Act.put, List.setIfInBounds_toArray, List.set_cons_zero, List.set_cons_succ]
                refine htake (i := 10) (v := ?v89) rfl (by kernel_rfl) (by kernel_rfl) (by kernel_rfl) (fun _ _ _ h => pan_put h) (Or.inl ⟨by rfl, ?hy89⟩) (by assumption) ?_
                case hy89 => (intro w hSw; (try dsimp only at hSw); go_simp; try (with_reducible rfl))
                try simp only [Act.put, List.setIfInBounds_toArray, List.set_cons_zero, List.set_cons_succ]
                refine wpAnyH_ready (rs := [0, 11]) (by kernel_rfl) (by simp) ?_
                refine hcons rfl (fun K hK => ?_) (hcons rfl (fun K hK => ?_) (AllReadyH.nil))
                have z0 := HLV.out.1.c 0 _ rfl; go_simp; clear z0
                refine hK.out _ _ ?_ (fun hHeld => ?_)
                · (try dsimp only); exact HS.out _ HC.out
                clear hK K
                try simp only [Act.put, List.setIfInBounds_toArray, List.set_cons_zero, List.set_cons_succ]
                refine wpAnyH_ready (rs := [11]) (by kernel_rfl) (by simp) ?_
                refine hcons rfl (fun K hK => ?_) (AllReadyH.nil)
                go_simp
                (first | refine hold_alloc (fun Wa q1 q2 q3 => ?_) | refine hold_alloc_drew (fun Wa q1 q2 q3 => ?_)); have HN := Lib.hid (show Bx _ _ (Wo.cells ⟨a1, (last + a0), s2⟩) from q2); replace HLV := Lib.hid (HLV.out.next q1); replace HC := Lib.hid (HC.out.trans (q1.mono HC.out.size)); clear q1 q2 q3
                refine hK.out _ _ ?_ (fun hHeld => ?_)
                · (try dsimp only); exact HS.out _ HC.out
                clear hK K
                try simp only [Act.put, List.setIfInBounds_toArray, List.set_cons_zero, List.set_cons_succ]
                refine wpAnyH_ready (rs := [12]) (by kernel_rfl) (by simp) ?_
                refine hcons rfl (fun K hK => ?_) (AllReadyH.nil)
                refine step_append_any rfl (.tmp 31) (.tmp 42) 44 rfl B 66 i0 _ 4 32 Tryz.underlying44 hi hz0 hz1 hz2 rfl (by decide) (.slice A out.length cp) out.length _ rfl HLV.out.2.2.1 ⟨_, 0, none⟩ 1 1 (Wo.cells ⟨a1, (last + a0), s2⟩) rfl rfl HN.out.news (wo_one _) (by unfold maxLen; omega) (by omega) (Nat.le_trans HBS.out HC.out.size) ?_; intro v' w' hown' hgrow; have hqn := own_ne_kd HLV.out.2.2.1 (HKQ.out _ HC.out).1; have HS12 := Lib.hid (And.intro ((grown_cell hgrow (HKQ.out _ HC.out).2 hqn (off + 1)).trans (HS.out _ HC.out).1) ((grown_cell hgrow (HKQ.out _ HC.out).2 hqn (off + 2)).trans (HS.out _ HC.out).2)); have z13 := (HLV.out.1.grown hgrow (own_far HLV.out.2.2.1 hbdB)).c 0 _ rfl; have y13 := (HLV.out.1.grown hgrow (own_far HLV.out.2.2.1 hbdB)).fr 0; replace HLV := Lib.hid (HLV.out.add hbdB hbaB hbd9 hbdw hbda hown' hgrow); obtain ⟨A6, c6, e6, -⟩ := own_form hown'; subst e6; clear hown' hgrow HN hqn
                refine hK.out _ _ ?_ (fun hHeld => ?_)
                · (try dsimp only); exact HS12.out
                clear hK K
                try simp only [Act.put, List.setIfInBounds_toArray, List.set_cons_zero, List.set_cons_succ]
                refine wpAnyH_ready (rs := [13]) (by kernel_rfl) (by simp) ?_
                refine hcons rfl (fun K hK => ?_) (AllReadyH.nil)
                go_simp; clear z13 y13
                refine hK.out _ _ ?_ (fun hHeld => ?_)
                · (try dsimp only); exact ⟨(World.cell?_setCell_other _ _ _ _ (by intro e; injection e with e; exact hqbd e)).trans HS12.out.1, (World.cell?_setCell_other _ _ _ _ (by intro e; injection e with e; exact hqbd e)).trans HS12.out.2⟩
                clear hK K
                try simp only [Act.put]
                refine wpAnyH_done (by kernel_rfl) ?_ _
                dsimp only [PanTo]
                rotate_left
                go_simp
                (first | refine hold_alloc (fun Wa q1 q2 q3 => ?_) | refine hold_alloc_drew (fun Wa q1 q2 q3 => ?_)); have HN := Lib.hid (show Bx _ _ (Wo.cells ⟨a1, (last + a0), s2⟩) from q2); replace HLV := Lib.hid (HLV.out.next q1); replace HC := Lib.hid (HC.out.trans (q1.mono HC.out.size)); clear q1 q2 q3
                refine hK.out _ _ ?_ (fun hHeld => ?_)
                · (try dsimp only); exact HS.out _ HC.out
                clear hK K
                try simp only [Act.put, List.setIfInBounds_toArray, List.set_cons_zero, List.set_cons_succ]
                refine wpAnyH_ready (rs := [0]) (by kernel_rfl) (by simp) ?_
                refine hcons rfl (fun K hK => ?_) (AllReadyH.nil)
                have z0 := HLV.out.1.c 0 _ rfl; go_simp; clear z0
                refine hK.out _ _ ?_ (fun hHeld => ?_)
                · (try dsimp only); exact HS.out _ HC.out
                clear hK K
                try simp only [Act.put, List.setIfInBounds_toArray, List.set_cons_zero, List.set_cons_succ]
                refine wpAnyH_ready (rs := [12]) (by kernel_rfl) (by simp) ?_
                refine hcons rfl (fun K hK => ?_) (AllReadyH.nil)
                refine step_append_any rfl (.tmp 31) (.tmp 42) 44 rfl B 66 i0 _ 4 32 Tryz.underlying44 hi hz0 hz1 hz2 rfl (by decide) (.slice A out.length cp) out.length _ rfl HLV.out.2.2.1 ⟨_, 0, none⟩ 1 1 (Wo.cells ⟨a1, (last + a0), s2⟩) rfl rfl HN.out.news (wo_one _) (by unfold maxLen; omega) (by omega) (Nat.le_trans HBS.out HC.out.size) ?_; intro v' w' hown' hgrow; have hqn := own_ne_kd HLV.out.2.2.1 (HKQ.out _ HC.out).1; have HS12 := Lib.hid (And.intro ((grown_cell hgrow (HKQ.out _ HC.out).2 hqn (off + 1)).trans (HS.out _ HC.out).1) ((grown_cell hgrow (HKQ.out _ HC.out).2 hqn (off + 2)).trans (HS.out _ HC.out).2)); have z13 := (HLV.out.1.grown hgrow (own_far HLV.out.2.2.1 hbdB)).c 0 _ rfl; have y13 := (HLV.out.1.grown hgrow (own_far HLV.out.2.2.1 hbdB)).fr 0; replace HLV := Lib.hid (HLV.out.add hbdB hbaB hbd9 hbdw hbda hown' hgrow); obtain ⟨A6, c6, e6, -⟩ := own_form hown'; subst e6; clear hown' hgrow HN hqn
                refine hK.out _ _ ?_ (fun hHeld => ?_)
                · (try dsimp only); exact HS12.out
                clear hK K
                try simp only [Act.put, List.setIfInBounds_toArray, List.set_cons_zero, List.set_cons_succ]
                refine wpAnyH_ready (rs := [13]) (by kernel_rfl) (by simp) ?_
                refine hcons rfl (fun K hK => ?_) (AllReadyH.nil)
                go_simp; clear z13 y13
                refine hK.out _ _ ?_ (fun hHeld => ?_)
                · (try dsimp only); exact ⟨(World.cell?_setCell_other _ _ _ _ (by intro e; injection e with e; exact hqbd e)).trans HS12.out.1, (World.cell?_setCell_other _ _ _ _ (by intro e; injection e with e; exact hqbd e)).trans HS12.out.2⟩
                clear hK K
                try simp only [Act.put]
                refine wpAnyH_done (by kernel_rfl) ?_ _
                dsimp only [PanTo]
                rotate_left
                go_simp
                refine (HN2.out _ HLV.out.2.2.2.1).mono ?_; rintro e9 U9 ⟨rfl, hb⟩; replace HLV := Lib.hid (HLV.out.next hb); replace HC := Lib.hid (HC.out.trans (hb.mono HC.out.size)); clear hb
                refine hK.out _ _ ?_ (fun hHeld => ?_)
                · (try dsimp only); exact HS.out _ HC.out
                clear hK K
                try simp only [Act.put, List.setIfInBounds_toArray, List.set_cons_zero, List.set_cons_succ]
                refine wpAnyH_ready (rs := [0, 5]) (by kernel_rfl) (by simp) ?_
                refine hcons rfl (fun K hK => ?_) (hcons rfl (fun K hK => ?_) (AllReadyH.nil))
                have z0 := HLV.out.1.c 0 _ rfl; go_simp; clear z0
                refine hK.out _ _ ?_ (fun hHeld => ?_)
                · (try dsimp only); exact HS.out _ HC.out
                clear hK K
                try simp only [Act.put, List.setIfInBounds_toArray, List.set_cons_zero, List.set_cons_succ]
                refine wpAnyH_ready (rs := [5]) (by kernel_rfl) (by simp) ?_
                refine hcons rfl (fun K hK => ?_) (AllReadyH.nil)
                have z5 := HLV.out.2.1.c 0 _ rfl; go_simp; clear z5
                refine hK.out _ _ ?_ (fun hHeld => ?_)
                · (try dsimp only); exact HS.out _ HC.out
                clear hK K
                try simp only [Act.put, List.setIfInBounds_toArray, List.set_cons_zero, List.set_cons_succ]
                refine htake (i := 10) (v := ?v90) rfl (by kernel_rfl) (by kernel_rfl) (by kernel_rfl) (fun _ _ _ h => pan_put h) (Or.inl ⟨by rfl, ?hy90⟩) (by assumption) ?_
                case hy90 => (intro w hSw; (try dsimp only at hSw); go_simp; try (with_reducible rfl))
                try simp only [Act.put, List.setIfInBounds_toArray, List.set_cons_zero, List.set_cons_succ]
                refine wpAnyH_ready (rs := [11]) (by kernel_rfl) (by simp) ?_
                refine hcons rfl (fun K hK => ?_) (AllReadyH.nil)
                go_simp
                (first | refine hold_alloc (fun Wa q1 q2 q3 => ?_) | refine hold_alloc_drew (fun Wa q1 q2 q3 => ?_)); have HN := Lib.hid (show Bx _ _ (Wo.cells ⟨a1, (last + a0), s2⟩) from q2); replace HLV := Lib.hid (HLV.out.next q1); replace HC := Lib.hid (HC.out.trans (q1.mono HC.out.size)); clear q1 q2 q3
                refine hK.out _ _ ?_ (fun hHeld => ?_)
                · (try dsimp only); exact HS.out _ HC.out
                clear hK K
                try simp only [Act.put, List.setIfInBounds_toArray, List.set_cons_zero, List.set_cons_succ]
                refine wpAnyH_ready (rs := [12]) (by kernel_rfl) (by simp) ?_
                refine hcons rfl (fun K hK => ?_) (AllReadyH.nil)
                refine step_append_any rfl (.tmp 31) (.tmp 42) 44 rfl B 66 i0 _ 4 32 Tryz.underlying44 hi hz0 hz1 hz2 rfl (by decide) (.slice A out.length cp) out.length _ rfl HLV.out.2.2.1 ⟨_, 0, none⟩ 1 1 (Wo.cells ⟨a1, (last + a0), s2⟩) rfl rfl HN.out.news (wo_one _) (by unfold maxLen; omega) (by omega) (Nat.le_trans HBS.out HC.out.size) ?_; intro v' w' hown' hgrow; have hqn := own_ne_kd HLV.out.2.2.1 (HKQ.out _ HC.out).1; have HS12 := Lib.hid (And.intro ((grown_cell hgrow (HKQ.out _ HC.out).2 hqn (off + 1)).trans (HS.out _ HC.out).1) ((grown_cell hgrow (HKQ.out _ HC.out).2 hqn (off + 2)).trans (HS.out _ HC.out).2)); have z13 := (HLV.out.1.grown hgrow (own_far HLV.out.2.2.1 hbdB)).c 0 _ rfl; have y13 := (HLV.out.1.grown hgrow (own_far HLV.out.2.2.1 hbdB)).fr 0; replace HLV := Lib.hid (HLV.out.add hbdB hbaB hbd9 hbdw hbda hown' hgrow); obtain ⟨A6, c6, e6, -⟩ := own_form hown'; subst e6; clear hown' hgrow HN hqn
                refine hK.out _ _ ?_ (fun hHeld => ?_)
                · (try dsimp only); exact HS12.out
                clear hK K
                try simp only [Act.put, List.setIfInBounds_toArray, List.set_cons_zero, List.set_cons_succ]
                refine wpAnyH_ready (rs := [13]) (by kernel_rfl) (by simp) ?_
                refine hcons rfl (fun K hK => ?_) (AllReadyH.nil)
                go_simp; clear z13 y13
                refine hK.out _ _ ?_ (fun hHeld => ?_)
                · (try dsimp only); exact ⟨(World.cell?_setCell_other _ _ _ _ (by intro e; injection e with e; exact hqbd e)).trans HS12.out.1, (World.cell?_setCell_other _ _ _ _ (by intro e; injection e with e; exact hqbd e)).trans HS12.out.2⟩
                clear hK K
                try simp only [Act.put]
                refine wpAnyH_done (by kernel_rfl) ?_ _
                dsimp only [PanTo]
                rotate_left
                have z5 := HLV.out.2.1.c 0 _ rfl; go_simp; clear z5
                refine hK.out _ _ ?_ (fun hHeld => ?_)
                · (try dsimp only); exact HS.out _ HC.out
                clear hK K
                try simp only [Act.put, List.setIfInBounds_toArray, List.set_cons_zero, List.set_cons_succ]
                refine htake (i := 10) (v := ?v91) rfl (by kernel_rfl) (by kernel_rfl) (by kernel_rfl) (fun _ _ _ h => pan_put h) (Or.inl ⟨by rfl, ?hy91⟩) (by assumption) ?_
                case hy91 => (intro w hSw; (try dsimp only at hSw); go_simp; try (with_reducible rfl))
                try simp only [Act.put, List.setIfInBounds_toArray, List.set_cons_zero, List.set_cons_succ]
                refine wpAnyH_ready (rs := [0, 11]) (by kernel_rfl) (by simp) ?_
                refine hcons rfl (fun K hK => ?_) (hcons rfl (fun K hK => ?_) (AllReadyH.nil))
                have z0 := HLV.out.1.c 0 _ rfl; go_simp; clear z0
                refine hK.out _ _ ?_ (fun hHeld => ?_)
                · (try dsimp only); exact HS.out _ HC.out
                clear hK K
                try simp only [Act.put, List.setIfInBounds_toArray, List.set_cons_zero, List.set_cons_succ]
                refine wpAnyH_ready (rs := [11]) (by kernel_rfl) (by simp) ?_
                refine hcons rfl (fun K hK => ?_) (AllReadyH.nil)
                go_simp
                (first | refine hold_alloc (fun Wa q1 q2 q3 => ?_) | refine hold_alloc_drew (fun Wa q1 q2 q3 => ?_)); have HN := Lib.hid (show Bx _ _ (Wo.cells ⟨a1, (last + a0), s2⟩) from q2); replace HLV := Lib.hid (HLV.out.next q1); replace HC := Lib.hid (HC.out.trans (q1.mono HC.out.size)); clear q1 q2 q3
                refine hK.out _ _ ?_ (fun hHeld => ?_)
                · (try dsimp only); exact HS.out _ HC.out
                clear hK K
                try simp only [Act.put, List.setIfInBounds_toArray, List.set_cons_zero, List.set_cons_succ]
                refine wpAnyH_ready (rs := [12]) (by kernel_rfl) (by simp) ?_
                refine hcons rfl (fun K hK => ?_) (AllReadyH.nil)
                refine step_append_any rfl (.tmp 31) (.tmp 42) 44 rfl B 66 i0 _ 4 32 Tryz.underlying44 hi hz0 hz1 hz2 rfl (by decide) (.slice A out.length cp) out.length _ rfl HLV.out.2.2.1 ⟨_, 0, none⟩ 1 1 (Wo.cells ⟨a1, (last + a0), s2⟩) rfl rfl HN.out.news (wo_one _) (by unfold maxLen; omega) (by omega) (Nat.le_trans HBS.out HC.out.size) ?_; intro v' w' hown' hgrow; have hqn := own_ne_kd HLV.out.2.2.1 (HKQ.out _ HC.out).1; have HS12 := Lib.hid (And.intro ((grown_cell hgrow (HKQ.out _ HC.out).2 hqn (off + 1)).trans (HS.out _ HC.out).1) ((grown_cell hgrow (HKQ.out _ HC.out).2 hqn (off + 2)).trans (HS.out _ HC.out).2)); have z13 := (HLV.out.1.grown hgrow (own_far HLV.out.2.2.1 hbdB)).c 0 _ rfl; have y13 := (HLV.out.1.grown hgrow (own_far HLV.out.2.2.1 hbdB)).fr 0; replace HLV := Lib.hid (HLV.out.add hbdB hbaB hbd9 hbdw hbda hown' hgrow); obtain ⟨A6, c6, e6, -⟩ := own_form hown'; subst e6; clear hown' hgrow HN hqn
                refine hK.out _ _ ?_ (fun hHeld => ?_)
                · (try dsimp only); exact HS12.out
                clear hK K
                try simp only [Act.put, List.setIfInBounds_toArray, List.set_cons_zero, List.set_cons_succ]
                refine wpAnyH_ready (rs := [13]) (by kernel_rfl) (by simp) ?_
                refine hcons rfl (fun K hK => ?_) (AllReadyH.nil)
                go_simp; clear z13 y13
                refine hK.out _ _ ?_ (fun hHeld => ?_)
                · (try dsimp only); exact ⟨(World.cell?_setCell_other _ _ _ _ (by intro e; injection e with e; exact hqbd e)).trans HS12.out.1, (World.cell?_setCell_other _ _ _ _ (by intro e; injection e with e; exact hqbd e)).trans HS12.out.2⟩
                clear hK K
                try simp only [Act.put]
                refine wpAnyH_done (by kernel_rfl) ?_ _
                dsimp only [PanTo]
                rotate_left
                go_simp
                (first | refine hold_alloc (fun Wa q1 q2 q3 => ?_) | refine hold_alloc_drew (fun Wa q1 q2 q3 => ?_)); have HN := Lib.hid (show Bx _ _ (Wo.cells ⟨a1, (last + a0), s2⟩) from q2); replace HLV := Lib.hid (HLV.out.next q1); replace HC := Lib.hid (HC.out.trans (q1.mono HC.out.size)); clear q1 q2 q3
                refine hK.out _ _ ?_ (fun hHeld => ?_)
                · (try dsimp only); exact HS.out _ HC.out
                clear hK K
                try simp only [Act.put, List.setIfInBounds_toArray, List.set_cons_zero, List.set_cons_succ]
                refine wpAnyH_ready (rs := [0]) (by kernel_rfl) (by simp) ?_
                refine hcons rfl (fun K hK => ?_) (AllReadyH.nil)
                have z0 := HLV.out.1.c 0 _ rfl; go_simp; clear z0
                refine hK.out _ _ ?_ (fun hHeld => ?_)
                · (try dsimp only); exact HS.out _ HC.out
                clear hK K
                try simp only [Act.put, List.setIfInBounds_toArray, List.set_cons_zero, List.set_cons_succ]
                refine wpAnyH_ready (rs := [12]) (by kernel_rfl) (by simp) ?_
                refine hcons rfl (fun K hK => ?_) (AllReadyH.nil)
                refine step_append_any rfl (.tmp 31) (.tmp 42) 44 rfl B 66 i0 _ 4 32 Tryz.underlying44 hi hz0 hz1 hz2 rfl (by decide) (.slice A out.length cp) out.length _ rfl HLV.out.2.2.1 ⟨_, 0, none⟩ 1 1 (Wo.cells ⟨a1, (last + a0), s2⟩) rfl rfl HN.out.news (wo_one _) (by unfold maxLen; omega) (by omega) (Nat.le_trans HBS.out HC.out.size) ?_; intro v' w' hown' hgrow; have hqn := own_ne_kd HLV.out.2.2.1 (HKQ.out _ HC.out).1; have HS12 := Lib.hid (And.intro ((grown_cell hgrow (HKQ.out _ HC.out).2 hqn (off + 1)).trans (HS.out _ HC.out).1) ((grown_cell hgrow (HKQ.out _ HC.out).2 hqn (off + 2)).trans (HS.out _ HC.out).2)); have z13 := (HLV.out.1.grown hgrow (own_far HLV.out.2.2.1 hbdB)).c 0 _ rfl; have y13 := (HLV.out.1.grown hgrow (own_far HLV.out.2.2.1 hbdB)).fr 0; replace HLV := Lib.hid (HLV.out.add hbdB hbaB hbd9 hbdw hbda hown' hgrow); obtain ⟨A6, c6, e6, -⟩ := own_form hown'; subst e6; clear hown' hgrow HN hqn
                refine hK.out _ _ ?_ (fun hHeld => ?_)
                · (try dsimp only); exact HS12.out
                clear hK K
                try simp only [Act.put, List.setIfInBounds_toArray, List.set_cons_zero, List.set_cons_succ]
                refine wpAnyH_ready (rs := [13]) (by kernel_rfl) (by simp) ?_
                refine hcons rfl (fun K hK => ?_) (AllReadyH.nil)
                go_simp; clear z13 y13
                refine hK.out _ _ ?_ (fun hHeld => ?_)
                · (try dsimp only); exact ⟨(World.cell?_setCell_other _ _ _ _ (by intro e; injection e with e; exact hqbd e)).trans HS12.out.1, (World.cell?_setCell_other _ _ _ _ (by intro e; injection e with e; exact hqbd e)).trans HS12.out.2⟩
                clear hK K
                try simp only [Act.put]
                refine wpAnyH_done (by kernel_rfl) ?_ _
                dsimp only [PanTo]
                rotate_left
                have z5 := HLV.out.2.1.c 0 _ rfl; go_simp; clear z5
                refine hK.out _ _ ?_ (fun hHeld => ?_)
                · (try dsimp only); exact HS.out _ HC.out
                clear hK K
                try simp only [Act.put, List.setIfInBounds_toArray, List.set_cons_zero, List.set_cons_succ]
                refine wpAnyH_ready (rs := [0, 4]) (by kernel_rfl) (by simp) ?_
                refine hcons rfl (fun K hK => ?_) (hcons rfl (fun K hK => ?_) (AllReadyH.nil))
                have z0 := HLV.out.1.c 0 _ rfl; go_simp; clear z0
                refine hK.out _ _ ?_ (fun hHeld => ?_)
                · (try dsimp only); exact HS.out _ HC.out
                clear hK K
                try simp only [Act.put, List.setIfInBounds_toArray, List.set_cons_zero, List.set_cons_succ]
                refine wpAnyH_ready (rs := [4]) (by kernel_rfl) (by simp) ?_
                refine hcons rfl (fun K hK => ?_) (AllReadyH.nil)
                go_simp
                refine (HN1.out _ HLV.out.2.2.2.1).mono ?_; rintro e4 U4 ⟨rfl, hb⟩; replace HLV := Lib.hid (HLV.out.next hb); replace HC := Lib.hid (HC.out.trans (hb.mono HC.out.size)); clear hb
                refine hK.out _ _ ?_ (fun hHeld => ?_)
                · (try dsimp only); exact HS.out _ HC.out
                clear hK K
                try simp only [Act.put, List.setIfInBounds_toArray, List.set_cons_zero, List.set_cons_succ]
                refine wpAnyH_ready (rs := [9]) (by kernel_rfl) (by simp) ?_
                refine hcons rfl (fun K hK => ?_) (AllReadyH.nil)
                go_simp
                refine (HN2.out _ HLV.out.2.2.2.1).mono ?_; rintro e9 U9 ⟨rfl, hb⟩; replace HLV := Lib.hid (HLV.out.next hb); replace HC := Lib.hid (HC.out.trans (hb.mono HC.out.size)); clear hb
                refine hK.out _ _ ?_ (fun hHeld => ?_)
                · (try dsimp only); exact HS.out _ HC.out
                clear hK K
                try simp only [Act.put, List.setIfInBounds_toArray, List.set_cons_zero, List.set_cons_succ]
                refine htake (i := 10) (v := ?v92) rfl (by kernel_rfl) (by kernel_rfl) (by kernel_rfl) (fun _ _ _ h => pan_put h) (Or.inl ⟨by rfl, ?hy92⟩) (by assumption) ?_
                case hy92 => (intro w hSw; (try dsimp only at hSw); go_simp; try (with_reducible rfl))
                try simp only [Act.put, List.setIfInBounds_toArray, List.set_cons_zero, List.set_cons_succ]
                refine wpAnyH_ready (rs := [11]) (by kernel_rfl) (by simp) ?_
                refine hcons rfl (fun K hK => ?_) (AllReadyH.nil)
                go_simp
                (first | refine hold_alloc (fun Wa q1 q2 q3 => ?_) | refine hold_alloc_drew (fun Wa q1 q2 q3 => ?_)); have HN := Lib.hid (show Bx _ _ (Wo.cells ⟨a1, (last + a0), s2⟩) from q2); replace HLV := Lib.hid (HLV.out.next q1); replace HC := Lib.hid (HC.out.trans (q1.mono HC.out.size)); clear q1 q2 q3
                refine hK.out _ _ ?_ (fun hHeld => ?_)
                · (try dsimp only); exact HS.out _ HC.out
                clear hK K
                try simp only [Act.put, List.setIfInBounds_toArray, List.set_cons_zero, List.set_cons_succ]
                refine wpAnyH_ready (rs := [12]) (by kernel_rfl) (by simp) ?_
                refine hcons rfl (fun K hK => ?_) (AllReadyH.nil)
                refine step_append_any rfl (.tmp 31) (.tmp 42) 44 rfl B 66 i0 _ 4 32 Tryz.underlying44 hi hz0 hz1 hz2 rfl (by decide) (.slice A out.length cp) out.length _ rfl HLV.out.2.2.1 ⟨_, 0, none⟩ 1 1 (Wo.cells ⟨a1, (last + a0), s2⟩) rfl rfl HN.out.news (wo_one _) (by unfold maxLen; omega) (by omega) (Nat.le_trans HBS.out HC.out.size) ?_; intro v' w' hown' hgrow; have hqn := own_ne_kd HLV.out.2.2.1 (HKQ.out _ HC.out).1; have HS12 := Lib.hid (And.intro ((grown_cell hgrow (HKQ.out _ HC.out).2 hqn (off + 1)).trans (HS.out _ HC.out).1) ((grown_cell hgrow (HKQ.out _ HC.out).2 hqn (off + 2)).trans (HS.out _ HC.out).2)); have z13 := (HLV.out.1.grown hgrow (own_far HLV.out.2.2.1 hbdB)).c 0 _ rfl; have y13 := (HLV.out.1.grown hgrow (own_far HLV.out.2.2.1 hbdB)).fr 0; replace HLV := Lib.hid (HLV.out.add hbdB hbaB hbd9 hbdw hbda hown' hgrow); obtain ⟨A6, c6, e6, -⟩ := own_form hown'; subst e6; clear hown' hgrow HN hqn
                refine hK.out _ _ ?_ (fun hHeld => ?_)
                · (try dsimp only); exact HS12.out
                clear hK K
                try simp only [Act.put, List.setIfInBounds_toArray, List.set_cons_zero, List.set_cons_succ]
                refine wpAnyH_ready (rs := [13]) (by kernel_rfl) (by simp) ?_
                refine hcons rfl (fun K hK => ?_) (AllReadyH.nil)
                go_simp; clear z13 y13
                refine hK.out _ _ ?_ (fun hHeld => ?_)
                · (try dsimp only); exact ⟨(World.cell?_setCell_other _ _ _ _ (by intro e; injection e with e; exact hqbd e)).trans HS12.out.1, (World.cell?_setCell_other _ _ _ _ (by intro e; injection e with e; exact hqbd e)).trans HS12.out.2⟩
                clear hK K
                try simp only [Act.put]
                refine wpAnyH_done (by kernel_rfl) ?_ _
                dsimp only [PanTo]
                rotate_left
                go_simp
                refine (HN1.out _ HLV.out.2.2.2.1).mono ?_; rintro e4 U4 ⟨rfl, hb⟩; replace HLV := Lib.hid (HLV.out.next hb); replace HC := Lib.hid (HC.out.trans (hb.mono HC.out.size)); clear hb
                refine hK.out _ _ ?_ (fun hHeld => ?_)
                · (try dsimp only); exact HS.out _ HC.out
                clear hK K
                try simp only [Act.put, List.setIfInBounds_toArray, List.set_cons_zero, List.set_cons_succ]
                refine wpAnyH_ready (rs := [0, 9]) (by kernel_rfl) (by simp) ?_
                refine hcons rfl (fun K hK => ?_) (hcons rfl (fun K hK => ?_) (AllReadyH.nil))
                have z0 := HLV.out.1.c 0 _ rfl; go_simp; clear z0
                refine hK.out _ _ ?_ (fun hHeld => ?_)
                · (try dsimp only); exact HS.out _ HC.out
                clear hK K
                try simp only [Act.put, List.setIfInBounds_toArray, List.set_cons_zero, List.set_cons_succ]
                refine wpAnyH_ready (rs := [9]) (by kernel_rfl) (by simp) ?_
                refine hcons rfl (fun K hK => ?_) (AllReadyH.nil)
                go_simp
                refine (HN2.out _ HLV.out.2.2.2.1).mono ?_; rintro e9 U9 ⟨rfl, hb⟩; replace HLV := Lib.hid (HLV.out.next hb); replace HC := Lib.hid (HC.out.trans (hb.mono HC.out.size)); clear hb
                refine hK.out _ _ ?_ (fun hHeld => ?_)
                · (try dsimp only); exact HS.out _ HC.out
                clear hK K
                try simp only [Act.put, List.setIfInBounds_toArray, List.set_cons_zero, List.set_cons_succ]
                refine htake (i := 10) (v := ?v93) rfl (by kernel_rfl) (by kernel_rfl) (by kernel_rfl) (fun _ _ _ h => pan_put h) (Or.inl ⟨by rfl, ?hy93⟩) (by assumption) ?_
                case hy93 => (intro w hSw; (try dsimp only at hSw); go_simp; try (with_reducible rfl))
                try simp only [Act.put, List.setIfInBounds_toArray, List.set_cons_zero, List.set_cons_succ]
                refine wpAnyH_ready (rs := [11]) (by kernel_rfl) (by simp) ?_
                refine hcons rfl (fun K hK => ?_) (AllReadyH.nil)
                go_simp
                (first | refine hold_alloc (fun Wa q1 q2 q3 => ?_) | refine hold_alloc_drew (fun Wa q1 q2 q3 => ?_)); have HN := Lib.hid (show Bx _ _ (Wo.cells ⟨a1, (last + a0), s2⟩) from q2); replace HLV := Lib.hid (HLV.out.next q1); replace HC := Lib.hid (HC.out.trans (q1.mono HC.out.size)); clear q1 q2 q3
                refine hK.out _ _ ?_ (fun hHeld => ?_)
                · (try dsimp only); exact HS.out _ HC.out
                clear hK K
                try simp only [Act.put, List.setIfInBounds_toArray, List.set_cons_zero, List.set_cons_succ]
                refine wpAnyH_ready (rs := [12]) (by kernel_rfl) (by simp) ?_
                refine hcons rfl (fun K hK => ?_) (AllReadyH.nil)
                refine step_append_any rfl (.tmp 31) (.tmp 42) 44 rfl B 66 i0 _ 4 32 Tryz.underlying44 hi hz0 hz1 hz2 rfl (by decide) (.slice A out.length cp) out.length _ rfl HLV.out.2.2.1 ⟨_, 0, none⟩ 1 1 (Wo.cells ⟨a1, (last + a0), s2⟩) rfl rfl HN.out.news (wo_one _) (by unfold maxLen; omega) (by omega) (Nat.le_trans HBS.out HC.out.size) ?_; intro v' w' hown' hgrow; have hqn := own_ne_kd HLV.out.2.2.1 (HKQ.out _ HC.out).1; have HS12 := Lib.hid (And.intro ((grown_cell hgrow (HKQ.out _ HC.out).2 hqn (off + 1)).trans (HS.out _ HC.out).1) ((grown_cell hgrow (HKQ.out _ HC.out).2 hqn (off + 2)).trans (HS.out _ HC.out).2)); have z13 := (HLV.out.1.grown hgrow (own_far HLV.out.2.2.1 hbdB)).c 0 _ rfl; have y13 := (HLV.out.1.grown hgrow (own_far HLV.out.2.2.1 hbdB)).fr 0; replace HLV := Lib.hid (HLV.out.add hbdB hbaB hbd9 hbdw hbda hown' hgrow); obtain ⟨A6, c6, e6, -⟩ := own_form hown'; subst e6; clear hown' hgrow HN hqn
                refine hK.out _ _ ?_ (fun hHeld => ?_)
                · (try dsimp only); exact HS12.out
                clear hK K
                try simp only [Act.put, List.setIfInBounds_toArray, List.set_cons_zero, List.set_cons_succ]
                refine wpAnyH_ready (rs := [13]) (by kernel_rfl) (by simp) ?_
                refine hcons rfl (fun K hK => ?_) (AllReadyH.nil)
                go_simp; clear z13 y13
                refine hK.out _ _ ?_ (fun hHeld => ?_)
                · (try dsimp only); exact ⟨(World.cell?_setCell_other _ _ _ _ (by intro e; injection e with e; exact hqbd e)).trans HS12.out.1, (World.cell?_setCell_other _ _ _ _ (by intro e; injection e with e; exact hqbd e)).trans HS12.out.2⟩
                clear hK K
                try simp only [Act.put]
                refine wpAnyH_done (by kernel_rfl) ?_ _
                dsimp only [PanTo]
                rotate_left
                go_simp
                refine (HN2.out _ HLV.out.2.2.2.1).mono ?_; rintro e9 U9 ⟨rfl, hb⟩; replace HLV := Lib.hid (HLV.out.next hb); replace HC := Lib.hid (HC.out.trans (hb.mono HC.out.size)); clear hb
                refine hK.out _ _ ?_ (fun hHeld => ?_)
                · (try dsimp only); exact HS.out _ HC.out
                clear hK K
                try simp only [Act.put, List.setIfInBounds_toArray, List.set_cons_zero, List.set_cons_succ]
                refine htake (i := 10) (v := ?v94) rfl (by kernel_rfl) (by kernel_rfl) (by kernel_rfl) (fun _ _ _ h => pan_put h) (Or.inl ⟨by rfl, ?hy94⟩) (by assumption) ?_
                case hy94 => (intro w hSw; (try dsimp only at hSw); go_simp; try (with_reducible rfl))
                try simp only [Act.put, List.setIfInBounds_toArray, List.set_cons_zero, List.set_cons_succ]
                refine wpAnyH_ready (rs := [0, 11]) (by kernel_rfl) (by simp) ?_
                refine hcons rfl (fun K hK => ?_) (hcons rfl (fun K hK => ?_) (AllReadyH.nil))
                have z0 := HLV.out.1.c 0 _ rfl; go_simp; clear z0
                refine hK.out _ _ ?_ (fun hHeld => ?_)
                · (try dsimp only); exact HS.out _ HC.out
                clear hK K
                try simp only [Act.put, List.setIfInBounds_toArray, List.set_cons_zero, List.set_cons_succ]
                refine wpAnyH_ready (rs := [11]) (by kernel_rfl) (by simp) ?_
                refine hcons rfl (fun K hK => ?_) (AllReadyH.nil)
                go_simp
                (first | refine hold_alloc (fun Wa q1 q2 q3 => ?_) | refine hold_alloc_drew (fun Wa q1 q2 q3 => ?_)); have HN := Lib.hid (show Bx _ _ (Wo.cells ⟨a1, (last + a0), s2⟩) from q2); replace HLV := Lib.hid (HLV.out.next q1); replace HC := Lib.hid (HC.out.trans (q1.mono HC.out.size)); clear q1 q2 q3
                refine hK.out _ _ ?_ (fun hHeld => ?_)
                · (try dsimp only); exact HS.out _ HC.out
                clear hK K
                try simp only [Act.put, List.setIfInBounds_toArray, List.set_cons_zero, List.set_cons_succ]
                refine wpAnyH_ready (rs := [12]) (by kernel_rfl) (by simp) ?_
                refine hcons rfl (fun K hK => ?_) (AllReadyH.nil)
                refine step_append_any rfl (.tmp 31) (.tmp 42) 44 rfl B 66 i0 _ 4 32 Tryz.underlying44 hi hz0 hz1 hz2 rfl (by decide) (.slice A out.length cp) out.length _ rfl HLV.out.2.2.1 ⟨_, 0, none⟩ 1 1 (Wo.cells ⟨a1, (last + a0), s2⟩) rfl rfl HN.out.news (wo_one _) (by unfold maxLen; omega) (by omega) (Nat.le_trans HBS.out HC.out.size) ?_; intro v' w' hown' hgrow; have hqn := own_ne_kd HLV.out.2.2.1 (HKQ.out _ HC.out).1; have HS12 := Lib.hid (And.intro ((grown_cell hgrow (HKQ.out _ HC.out).2 hqn (off + 1)).trans (HS.out _ HC.out).1) ((grown_cell hgrow (HKQ.out _ HC.out).2 hqn (off + 2)).trans (HS.out _ HC.out).2)); have z13 := (HLV.out.1.grown hgrow (own_far HLV.out.2.2.1 hbdB)).c 0 _ rfl; have y13 := (HLV.out.1.grown hgrow (own_far HLV.out.2.2.1 hbdB)).fr 0; replace HLV := Lib.hid (HLV.out.add hbdB hbaB hbd9 hbdw hbda hown' hgrow); obtain ⟨A6, c6, e6, -⟩ := own_form hown'; subst e6; clear hown' hgrow HN hqn
                refine hK.out _ _ ?_ (fun hHeld => ?_)
                · (try dsimp only); exact HS12.out
                clear hK K
                try simp only [Act.put, List.setIfInBounds_toArray, List.set_cons_zero, List.set_cons_succ]
                refine wpAnyH_ready (rs := [13]) (by kernel_rfl) (by simp) ?_
                refine hcons rfl (fun K hK => ?_) (AllReadyH.nil)
                go_simp; clear z13 y13
                refine hK.out _ _ ?_ (fun hHeld => ?_)
                · (try dsimp only); exact ⟨(World.cell?_setCell_other _ _ _ _ (by intro e; injection e with e; exact hqbd e)).trans HS12.out.1, (World.cell?_setCell_other _ _ _ _ (by intro e; injection e with e; exact hqbd e)).trans HS12.out.2⟩
                clear hK K
                try simp only [Act.put]
                refine wpAnyH_done (by kernel_rfl) ?_ _
                dsimp only [PanTo]
                rotate_left
                go_simp
                (first | refine hold_alloc (fun Wa q1 q2 q3 => ?_) | refine hold_alloc_drew (fun Wa q1 q2 q3 => ?_)); have HN := Lib.hid (show Bx _ _ (Wo.cells ⟨a1, (last + a0), s2⟩) from q2); replace HLV := Lib.hid (HLV.out.next q1); replace HC := Lib.hid (HC.out.trans (q1.mono HC.out.size)); clear q1 q2 q3
                refine hK.out _ _ ?_ (fun hHeld => ?_)
                · (try dsimp only); exact HS.out _ HC.out
                clear hK K
                try simp only [Act.put, List.setIfInBounds_toArray, List.set_cons_zero, List.set_cons_succ]
                refine wpAnyH_ready (rs := [0]) (by kernel_rfl) (by simp) ?_
                refine hcons rfl (fun K hK => ?_) (AllReadyH.nil)
                have z0 := HLV.out.1.c 0 _ rfl; go_simp; clear z0
                refine hK.out _ _ ?_ (fun hHeld => ?_)
                · (try dsimp only); exact HS.out _ HC.out
                clear hK K
                try simp only [Act.put, List.setIfInBounds_toArray, List.set_cons_zero, List.set_cons_succ]
                refine wpAnyH_ready (rs := [12]) (by kernel_rfl) (by simp) ?_
                refine hcons rfl (fun K hK => ?_) (AllReadyH.nil)
                refine step_append_any rfl (.tmp 31) (.tmp 42) 44 rfl B 66 i0 _ 4 32 Tryz.underlying44 hi hz0 hz1 hz2 rfl (by decide) (.slice A out.length cp) out.length _ rfl HLV.out.2.2.1 ⟨_, 0, none⟩ 1 1 (Wo.cells ⟨a1, (last + a0), s2⟩) rfl rfl HN.out.news (wo_one _) (by unfold maxLen; omega) (by omega) (Nat.le_trans HBS.out HC.out.size) ?_; intro v' w' hown' hgrow; have hqn := own_ne_kd HLV.out.2.2.1 (HKQ.out _ HC.out).1; have HS12 := Lib.hid (And.intro ((grown_cell hgrow (HKQ.out _ HC.out).2 hqn (off + 1)).trans (HS.out _ HC.out).1) ((grown_cell hgrow (HKQ.out _ HC.out).2 hqn (off + 2)).trans (HS.out _ HC.out).2)); have z13 := (HLV.out.1.grown hgrow (own_far HLV.out.2.2.1 hbdB)).c 0 _ rfl; have y13 := (HLV.out.1.grown hgrow (own_far HLV.out.2.2.1 hbdB)).fr 0; replace HLV := Lib.hid (HLV.out.add hbdB hbaB hbd9 hbdw hbda hown' hgrow); obtain ⟨A6, c6, e6, -⟩ := own_form hown'; subst e6; clear hown' hgrow HN hqn
                refine hK.out _ _ ?_ (fun hHeld => ?_)
                · (try dsimp only); exact HS12.out
                clear hK K
                try simp only [Act.put, List.setIfInBounds_toArray, List.set_cons_zero, List.set_cons_succ]
                refine wpAnyH_ready (rs := [13]) (by kernel_rfl) (by simp) ?_
                refine hcons rfl (fun K hK => ?_) (AllReadyH.nil)
                go_simp; clear z13 y13
                refine hK.out _ _ ?_ (fun hHeld => ?_)
                · (try dsimp only); exact ⟨(World.cell?_setCell_other _ _ _ _ (by intro e; injection e with e; exact hqbd e)).trans HS12.out.1, (World.cell?_setCell_other _ _ _ _ (by intro e; injection e with e; exact hqbd e)).trans HS12.out.2⟩
                clear hK K
                try simp only [Act.put]
                refine wpAnyH_done (by kernel_rfl) ?_ _
                dsimp only [PanTo]
                iterate 15 (try clear hHeld)
                all_goals
                  have HFF := Lib.hid (HFIN.out _ _ _ _ HGO.out (by constructor <;> omega) HLV.out)
                  gi_wp2_with fail
                  have hff := HFF.out
                  first | exact hff | (rw [hB] at hff; exact hff)
    · have HNO := Lib.hid (stepL_bad (last := last) h3)
      have hd : ((ws.length : Int) == 3) = false ∨ (((ws.length : Int) == 3) = true ∧ decide ((out.length : Int) < 40) = false) := by
        by_cases h : ws.length = 3
        · exact .inr ⟨by rw [h]; rfl, decide_eq_false (by omega)⟩
        · exact .inl (by simp; omega)
      rcases hd with d1 | ⟨d1, d2⟩
      all_goals
        gi_wp2_with fail
        refine ⟨trivial, CallsIn.inRound l' (callsIn_wide.2 ((need_false W).mono ?_))⟩
        rintro e W' ⟨rfl, hb⟩
        exact ⟨rfl, HPAN.out W' HNO.out (KMine.next hb) (HEN.out.next hb) (HBW.out.trans (hb.mono HBW.out.size))⟩
end Go.Proofs.YtonnemkecppmiaaGreatDoor
