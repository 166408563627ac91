import Derived.Test.YtonnemkecppmiaaGreatDoorQ1
namespace Go.Proofs.YtonnemkecppmiaaGreatDoor
open Go.RowKit
/-! The program: edge: what a line says of a side. -/
def kindI (x : Tx) : Int := if x = wFlat then 0 else if x = wTab then 1 else if x = wHole then 2 else -1
theorem ba_eq (x y : Tx) : ((⟨x.toArray⟩ : ByteArray) = ⟨y.toArray⟩) ↔ y = x := by
  constructor
  · intro h
    injection h with h
    have := congrArg Array.toList h
    simpa using this.symm
  · rintro rfl; rfl
theorem idx_names (x : Tx) : Lib.idxOfS [⟨wFlat.toArray⟩, ⟨wTab.toArray⟩, ⟨wHole.toArray⟩] ⟨x.toArray⟩ = kindI x := by
  unfold Lib.idxOfS kindI
  simp only [Lib.idxFromS, ba_eq]
  rfl
def edv (e : Ed) : Value := .agg #[.int .i64 e.kind, .int .i64 e.a.lo, .int .i64 e.a.hi, .int .i64 e.w.lo, .int .i64 e.w.hi, .int .i64 e.d.lo, .int .i64 e.d.hi]
theorem loadEd {w : World} {b : Nat} {a0 a1 a2 a3 a4 a5 a6 : Value} (h : Bx w b [a0, a1, a2, a3, a4, a5, a6]) : (loadVar 48 ⟨b, 0, none⟩).run Tryz.prog w = .ok (.agg #[a0, a1, a2, a3, a4, a5, a6]) w := by
  have c0 := h.c 0 _ rfl
  have c1 := h.c 1 _ rfl
  have c2 := h.c 2 _ rfl
  have c3 := h.c 3 _ rfl
  have c4 := h.c 4 _ rfl
  have c5 := h.c 5 _ rfl
  have c6 := h.c 6 _ rfl
  clear h
  go_simp
theorem edP_flat {ws : List Tx} (h : kindI (ws.getD 0 []) = 0) : edP ws = some ed0 := by
  unfold kindI at h
  unfold edP
  split at h
  · rename_i h0; rw [if_pos h0]
  · split at h
    · cases h
    · split at h <;> cases h
theorem edP_bad {ws : List Tx} (h : kindI (ws.getD 0 []) = -1) : edP ws = none := by
  unfold kindI at h
  unfold edP
  split at h
  · cases h
  · rename_i h0
    split at h
    · cases h
    · rename_i h1
      split at h
      · cases h
      · rename_i h2
        rw [if_neg h0, if_neg (fun e => e.1.elim h1 h2)]
theorem edP_long {ws : List Tx} (h : kindI (ws.getD 0 []) ≠ 0) (hl : ws.length ≠ 4) : edP ws = none := by
  unfold kindI at h
  unfold edP
  rw [if_neg (fun e => h (by rw [if_pos e])), if_neg (fun e => hl e.2)]
theorem edP_four {ws : List Tx} {k : Int} (h : kindI (ws.getD 0 []) = k) (hk : k = 1 ∨ k = 2) (hl : ws.length = 4) : edP ws = (spanP (ws.getD 1 [])).bind fun a => (spanP (ws.getD 2 [])).bind fun b => (spanP (ws.getD 3 [])).map fun c => ⟨k, a, b, c⟩ := by
  subst h
  unfold kindI at hk ⊢
  unfold edP
  split at hk
  · omega
  · rename_i h0
    rw [if_neg h0]
    split at hk
    · rename_i h1
      rw [if_pos ⟨.inl h1, hl⟩, if_pos h1, if_neg h0, if_pos h1]
      cases spanP (ws.getD 1 []) <;> cases spanP (ws.getD 2 []) <;> cases spanP (ws.getD 3 []) <;> rfl
    · rename_i h1
      split at hk
      · rename_i h2
        rw [if_pos ⟨.inr h2, hl⟩, if_neg h1, if_neg h0, if_neg h1, if_pos h2]
        cases spanP (ws.getD 1 []) <;> cases spanP (ws.getD 2 []) <;> cases spanP (ws.getD 3 []) <;> rfl
      · omega
theorem kindI_cases (x : Tx) : kindI x = 0 ∨ kindI x = -1 ∨ kindI x = 1 ∨ kindI x = 2 := by
  unfold kindI
  split
  · exact .inl rfl
  · split
    · exact .inr (.inr (.inl rfl))
    · split
      · exact .inr (.inr (.inr rfl))
      · exact .inr (.inl rfl)
theorem tx_at {w : World} {B : Nat} {A : Option Addr} {ws : List Tx} (h : At w B 1 tcell A ws) (h0 : ws ≠ []) : ∃ q off, A = some ⟨q, off, none⟩ ∧ q < B ∧ ∀ k, k < ws.length → w.cell? ⟨q, off + k, none⟩ = some (tx (ws.getD k [])) := by
  have hp : 0 < ws.length := List.length_pos_iff.2 h0
  obtain ⟨q, off, hA, hq, -⟩ := h 0 ws[0] (List.getElem?_eq_getElem hp)
  refine ⟨q, off, hA, hq, fun k hk => ?_⟩
  obtain ⟨q', off', hA', -, hc⟩ := h k ws[k] (List.getElem?_eq_getElem hk)
  rw [hA] at hA'
  injection hA' with hA'
  injection hA' with e1 e2
  subst e1 e2
  have := hc 0 _ rfl
  rw [Nat.mul_one, Nat.add_zero] at this
  rw [this, List.getD_eq_getElem?_getD, List.getElem?_eq_getElem hk]
  rfl
set_option maxRecDepth 100000 in
set_option maxHeartbeats 8000000 in
theorem edge_any (A : Option Addr) (c : Nat) (ws : List Tx) (w : World) (hE : Env w) (h : At w w.heap.size 1 tcell A ws) (h0 : ws ≠ []) (hok : ∀ t ∈ ws, t.length ≤ 70000) (hc : ws.length ≤ c) : Calls Tryz.prog 43 #[.slice A ws.length c] w (Got ((edP ws).map edv) w) := by
  obtain ⟨o, ho⟩ : ∃ o, (edP ws).map edv = o := ⟨_, rfl⟩
  rw [ho]
  have HO := Lib.hid ho
  obtain ⟨q, off, rfl, hq, hcs⟩ := tx_at h h0
  have HCS := Lib.hid hcs
  have HPO := Lib.hid (show 0 < ws.length from List.length_pos_iff.2 h0)
  have HLN := Lib.hid (show ∀ k, (ws.getD k []).length ≤ 70000 from fun k => by
    rw [List.getD_eq_getElem?_getD]
    cases hk : ws[k]? with
    | none => exact Nat.zero_le _
    | some t => exact hok t (List.mem_of_getElem? hk))
  have HQ := Lib.hid hq
  have HE := Lib.hid hE
  clear h h0 hok hE ho hcs hq
  go_enter Tryz.func43, Tryz.ntmps43
  have HX0 := Lib.hid (Bx.new w #[.int .i64 0, .int .i64 0, .int .i64 0, .int .i64 0, .int .i64 0, .int .i64 0, .int .i64 0] 48)
  have HB0 := Lib.hid (nxA w (.cells #[.int .i64 0, .int .i64 0, .int .i64 0, .int .i64 0, .int .i64 0, .int .i64 0, .int .i64 0] 48))
  go_upto_region 1 with fail
  generalize (w.alloc (.cells #[.int .i64 0, .int .i64 0, .int .i64 0, .int .i64 0, .int .i64 0, .int .i64 0, .int .i64 0] 48)) = V0 at *
  obtain ⟨b, hb⟩ : ∃ b, b = w.heap.size := ⟨_, rfl⟩
  rw [← hb] at HX0 ⊢
  have HBW := Lib.hid hb
  clear hb
  go_upto_region 2 with (refine (names_any V0).mono ?_; rintro e V1 ⟨rfl, hb⟩; have HB1 := Lib.hid (HB0.out.trans (hb.mono HB0.out.size)); have HX1 := Lib.hid (HX0.out.next hb); clear hb HB0 HX0; have HN := Lib.hid (Bx.new V1 #[tx wFlat, tx wTab, tx wHole] 139); have HB2 := Lib.hid (HB1.out.trans ((nxA V1 (.cells #[tx wFlat, tx wTab, tx wHole] 139)).mono HB1.out.size)); have HX2 := Lib.hid (HX1.out.next (nxA V1 (.cells #[tx wFlat, tx wTab, tx wHole] 139))))
  generalize (V1.alloc (.cells #[tx wFlat, tx wTab, tx wHole] 139)) = V2 at *
  obtain ⟨n0, hn0⟩ : ∃ n, n = V1.heap.size := ⟨_, rfl⟩
  rw [← hn0] at HN ⊢
  clear hn0
  have HS := Lib.hid (show ∀ W : World, Below w.heap.size w W → ∀ k, k < ws.length → W.cell? ⟨q, off + k, none⟩ = some (tx (ws.getD k [])) from fun W hW k hk => (hW.cell (p := ⟨q, off + k, none⟩) HQ.out).trans (HCS.out k hk))
  have c0d := HS.out V2.drew HB2.out.drew 0 HPO.out
  rw [Nat.add_zero] at c0d
  have hpi := HPO.out
  have hpz : (0 : Int) < (ws.length : Int) := by omega
  have HIX := Lib.hid (show ∀ W : World, Bx W n0 [tx wFlat, tx wTab, tx wHole] → Calls Tryz.prog 88 #[.slice (some ⟨n0, 0, none⟩) 3 3, tx (ws.getD 0 [])] W (RetQ (.int .i64 (kindI (ws.getD 0 []))) W) from fun W hW => by
    rw [← idx_names]
    refine (Tryz.slices_Index_string n0 0 3 3 [⟨wFlat.toArray⟩, ⟨wTab.toArray⟩, ⟨wHole.toArray⟩] ⟨(ws.getD 0 []).toArray⟩ W (by decide) (by decide) (fun j hj => ?_)).mono fun _ _ h => ⟨h.1, h.2.symm⟩
    rw [Nat.zero_add]
    match j, hj with
    | 0, _ => exact hW.c 0 _ rfl
    | 1, _ => exact hW.c 1 _ rfl
    | 2, _ => exact hW.c 2 _ rfl)
  obtain ⟨kd, hkd⟩ : ∃ kd, kindI (ws.getD 0 []) = kd := ⟨_, rfl⟩
  rw [hkd] at HIX
  have HKD := Lib.hid hkd
  have HKC := Lib.hid (kindI_cases (ws.getD 0 []))
  rw [hkd] at HKC
  clear hkd
  obtain ⟨w0, hw0⟩ : ∃ w0, ws.getD 0 [] = w0 := ⟨_, rfl⟩
  rw [hw0] at HIX c0d
  have HW0 := Lib.hid hw0
  clear hw0
  have HN2 := Lib.hid HN.out.drew
  have HX3 := Lib.hid HX2.out.drew
  have HB3 := Lib.hid HB2.out.drew
  refine wp_region_noPanic ?_
  refine wp_region_held_drew (S := (fun W => W.cell? ⟨q, off, none⟩ = some (tx w0))) (by kernel_rfl) ?_ (fun hHeld => ?_)
  · (try dsimp only); exact c0d
  refine htake (i := 0) (v := ?v1) rfl (by kernel_rfl) (by kernel_rfl) (by kernel_rfl) (fun _ _ _ h => h) (Or.inl ⟨by rfl, ?hy1⟩) (by assumption) ?_
  case hy1 => (intro w hSw; (try dsimp only at hSw); go_simp; try (with_reducible rfl))
  try simp only [Act.put, List.setIfInBounds_toArray, List.set_cons_zero, List.set_cons_succ]
  refine htake (i := 1) (v := ?v2) rfl (by kernel_rfl) (by kernel_rfl) (by kernel_rfl) (fun _ _ _ h => h) (Or.inl ⟨by rfl, ?hy2⟩) (by assumption) ?_
  case hy2 => (intro w hSw; (try dsimp only at hSw); go_simp; try (with_reducible rfl))
  try simp only [Act.put, List.setIfInBounds_toArray, List.set_cons_zero, List.set_cons_succ]
  refine htake (i := 2) (v := ?v3) rfl (by kernel_rfl) (by kernel_rfl) (by kernel_rfl) (fun _ _ _ h => h) (Or.inl ⟨by rfl, ?hy3⟩) (by assumption) ?_
  case hy3 => (intro w hSw; (try dsimp only at hSw); go_simp; try (with_reducible rfl))
  try simp only [Act.put, List.setIfInBounds_toArray, List.set_cons_zero, List.set_cons_succ]
  refine htake (i := 3) (v := ?v4) rfl (by kernel_rfl) (by kernel_rfl) (by kernel_rfl) (fun _ _ _ h => h) (Or.inl ⟨by rfl, ?hy4⟩) (by assumption) ?_
  case hy4 => (intro w hSw; (try dsimp only at hSw); go_simp; try (with_reducible rfl))
  try simp only [Act.put, List.setIfInBounds_toArray, List.set_cons_zero, List.set_cons_succ]
  refine wpAnyH_ready (rs := [4]) (by kernel_rfl) (by simp) ?_
  refine hcons rfl (fun K hK => ?_) (AllReadyH.nil)
  go_simp
  refine (HIX.out _ HN2.out).mono ?_; rintro e0 w0' ⟨rfl, rfl⟩
  refine hK.out _ _ ?_ (fun hHeld => ?_)
  · (try dsimp only); exact c0d
  clear hK K
  try simp only [Act.put, List.setIfInBounds_toArray, List.set_cons_zero, List.set_cons_succ]
  refine htake (i := 5) (v := ?v5) rfl (by kernel_rfl) (by kernel_rfl) (by kernel_rfl) (fun _ _ _ h => h) (Or.inl ⟨by rfl, ?hy5⟩) (by assumption) ?_
  case hy5 => (intro w hSw; (try dsimp only at hSw); go_simp; try (with_reducible rfl))
  try simp only [Act.put, List.setIfInBounds_toArray, List.set_cons_zero, List.set_cons_succ]
  refine wpAnyH_done (by kernel_rfl) ?_ _
  refine NoPanic.normal ?_
  iterate 7 (try clear hHeld)
  generalize V2.drew = V3 at *
  clear HX2 HB2 HIX c0d HN HN2 HX1 HB1
  have HMISS := Lib.hid (show o = none → ∀ (W W' : World) (e : Ending), Below w.heap.size w W → Miss W e W' → e = .panicked [{ v := .iface 129 (.agg #[]), recovered := false }] ∧ Got o w e W' from fun h1 W W' e hb hm => by
    obtain ⟨rfl, h2⟩ := hm
    rw [h1]
    exact ⟨rfl, rfl, hb.trans (h2.mono hb.size)⟩)
  rcases HKC.out with e0 | hk
  · rw [e0] at HKD ⊢
    have HP := Lib.hid (show o = some (edv ed0) by rw [← HO.out, edP_flat HKD.out]; rfl)
    clear e0 HKC HKD HO HMISS
    have z0 := HX3.out.c 0 _ rfl
    have y0 := HX3.out.fr 0
    have z1 := HX3.out.c 1 _ rfl
    have y1 := HX3.out.fr 1
    have z2 := HX3.out.c 2 _ rfl
    have y2 := HX3.out.fr 2
    have z3 := HX3.out.c 3 _ rfl
    have y3 := HX3.out.fr 3
    have z4 := HX3.out.c 4 _ rfl
    have y4 := HX3.out.fr 4
    have z5 := HX3.out.c 5 _ rfl
    have y5 := HX3.out.fr 5
    have z6 := HX3.out.c 6 _ rfl
    have y6 := HX3.out.fr 6
    go_wp2_with fail
    ((try simp only [Exit.inBlock, Exit.then]); refine bodyPost_ret (results_cell1 rfl rfl (loadEd (((((((HX3.out.set (k := 0) (by simp) (.int .i64 0)).set (k := 1) (by simp) (.int .i64 0)).set (k := 2) (by simp) (.int .i64 0)).set (k := 3) (by simp) (.int .i64 0)).set (k := 4) (by simp) (.int .i64 0)).set (k := 5) (by simp) (.int .i64 0)).set (k := 6) (by simp) (.int .i64 0)))) rfl ?_)
    rw [HP.out]
    exact ⟨rfl, (((((((HB3.out.setCell (p := ⟨b, 0, none⟩) (by rw [HBW.out]; exact Nat.le_refl _) _).setCell (p := ⟨b, 1, none⟩) (by rw [HBW.out]; exact Nat.le_refl _) _).setCell (p := ⟨b, 2, none⟩) (by rw [HBW.out]; exact Nat.le_refl _) _).setCell (p := ⟨b, 3, none⟩) (by rw [HBW.out]; exact Nat.le_refl _) _).setCell (p := ⟨b, 4, none⟩) (by rw [HBW.out]; exact Nat.le_refl _) _).setCell (p := ⟨b, 5, none⟩) (by rw [HBW.out]; exact Nat.le_refl _) _).setCell (p := ⟨b, 6, none⟩) (by rw [HBW.out]; exact Nat.le_refl _) _)⟩
  · by_cases h4 : ws.length = 4
    · rcases hk with e0 | hk2
      · have HN := Lib.hid (show o = none by rw [← HO.out, edP_bad (by rw [HKD.out]; exact e0)]; rfl)
        rw [e0]
        clear HKC HKD e0
        go_wp2_with fail
        refine (need_false V3).mono ?_
        intro e W hm
        obtain ⟨rfl, hr⟩ := HMISS.out HN.out V3 W e HB3.out hm
        exact ⟨rfl, hr⟩
      · have HP := Lib.hid (edP_four HKD.out hk2 h4)
        have hk0 : (kd == 0) = false := by rcases hk2 with h | h <;> rw [h] <;> rfl
        have hkp : (0 : Int) < kd := by rcases hk2 with h | h <;> omega
        have h4i : ((ws.length : Int) == 4) = true := by rw [h4]; rfl
        have HB4 := Lib.hid HB3.out
        have k1 := HS.out V3 HB3.out 1 (by omega)
        have k2 := HS.out V3 HB3.out 2 (by omega)
        have k3 := HS.out V3 HB3.out 3 (by omega)
        have HC1 := Lib.hid (fun W hW => span_any (ws.getD 1 []) W hW (HLN.out 1))
        have HC2 := Lib.hid (fun W hW => span_any (ws.getD 2 []) W hW (HLN.out 2))
        have HC3 := Lib.hid (fun W hW => span_any (ws.getD 3 []) W hW (HLN.out 3))
        have HS1 := Lib.hid (show ∀ W : World, Below w.heap.size w W → W.cell? ⟨q, off + 1, none⟩ = some (tx (ws.getD 1 [])) ∧ W.cell? ⟨q, off + 2, none⟩ = some (tx (ws.getD 2 [])) ∧ W.cell? ⟨q, off + 3, none⟩ = some (tx (ws.getD 3 [])) from fun W hW => ⟨HS.out W hW 1 (by omega), HS.out W hW 2 (by omega), HS.out W hW 3 (by omega)⟩)
        clear k1 k2 k3 hk2 HKC HKD
        have h4n : (ws.length : Int) = 4 := by omega
        generalize ws.getD 1 [] = x1 at HP HC1 HS1
        generalize ws.getD 2 [] = x2 at HP HC2 HS1
        generalize ws.getD 3 [] = x3 at HP HC3 HS1
        have HO2 := Lib.hid (show o = ((spanP x1).bind fun a => (spanP x2).bind fun b => (spanP x3).map fun c => (⟨kd, a, b, c⟩ : Ed)).map edv by rw [← HO.out, HP.out])
        clear HP HO
        generalize spanP x1 = q1 at HC1 HO2
        generalize spanP x2 = q2 at HC2 HO2
        generalize spanP x3 = q3 at HC3 HO2
        generalize hnl : ws.length = nl at *
        subst h4
        go_upto_region 6 with (refine (need_true V3).mono ?_; rintro e0 V4 ⟨rfl, rfl⟩)
        have HC := Lib.hid HB3.out.drew
        have HX4 := Lib.hid HX3.out.drew
        have HE4 := Lib.hid (HE.out.next HC.out)
        rcases q1 with _ | s1
        · have HN := Lib.hid (show o = none from HO2.out)
          refine wp_region_pan (fun ch W => o = none ∧ ch = [{ v := .iface 129 (.agg #[]), recovered := false }] ∧ Below w.heap.size w W) (fun ch a' w' hd h => ⟨hd, by obtain ⟨h1, rfl, h3⟩ := h; rw [h1]; exact ⟨rfl, h3⟩⟩) ?_
          refine wp_region_held_drew (S := (fun W => W.cell? ⟨q, off + 1, none⟩ = some (tx x1) ∧ W.cell? ⟨q, off + 2, none⟩ = some (tx x2) ∧ W.cell? ⟨q, off + 3, none⟩ = some (tx x3))) (by kernel_rfl) ?_ (fun hHeld => ?_)
          · (try dsimp only); exact HS1.out _ HC.out
          refine htake (i := 0) (v := ?v6) rfl (by kernel_rfl) (by kernel_rfl) (by kernel_rfl) (fun _ _ _ h => pan_put h) (Or.inl ⟨by rfl, ?hy6⟩) (by assumption) ?_
          case hy6 => (intro w hSw; (try dsimp only at hSw); go_simp; try (with_reducible rfl))
          try simp only [Act.put, List.setIfInBounds_toArray, List.set_cons_zero, List.set_cons_succ]
          refine htake (i := 1) (v := ?v7) rfl (by kernel_rfl) (by kernel_rfl) (by kernel_rfl) (fun _ _ _ h => pan_put h) (Or.inl ⟨by rfl, ?hy7⟩) (by assumption) ?_
          case hy7 => (intro w hSw; (try dsimp only at hSw); go_simp; try (with_reducible rfl))
          try simp only [Act.put, List.setIfInBounds_toArray, List.set_cons_zero, List.set_cons_succ]
          refine htake (i := 2) (v := ?v8) rfl (by kernel_rfl) (by kernel_rfl) (by kernel_rfl) (fun _ _ _ h => pan_put h) (Or.inl ⟨by rfl, ?hy8⟩) (by assumption) ?_
          case hy8 => (intro w hSw; (try dsimp only at hSw); go_simp; try (with_reducible rfl))
          try simp only [Act.put, List.setIfInBounds_toArray, List.set_cons_zero, List.set_cons_succ]
          refine htake (i := 3) (v := ?v9) rfl (by kernel_rfl) (by kernel_rfl) (by kernel_rfl) (fun _ _ _ h => pan_put h) (Or.inl ⟨by rfl, ?hy9⟩) (by assumption) ?_
          case hy9 => (intro w hSw; (try dsimp only at hSw); go_simp; try (with_reducible rfl))
          try simp only [Act.put, List.setIfInBounds_toArray, List.set_cons_zero, List.set_cons_succ]
          refine htake (i := 5) (v := ?v10) rfl (by kernel_rfl) (by kernel_rfl) (by kernel_rfl) (fun _ _ _ h => pan_put h) (Or.inl ⟨by rfl, ?hy10⟩) (by assumption) ?_
          case hy10 => (intro w hSw; (try dsimp only at hSw); go_simp; try (with_reducible rfl))
          try simp only [Act.put, List.setIfInBounds_toArray, List.set_cons_zero, List.set_cons_succ]
          refine htake (i := 6) (v := ?v11) rfl (by kernel_rfl) (by kernel_rfl) (by kernel_rfl) (fun _ _ _ h => pan_put h) (Or.inl ⟨by rfl, ?hy11⟩) (by assumption) ?_
          case hy11 => (intro w hSw; (try dsimp only at hSw); go_simp; try (with_reducible rfl))
          try simp only [Act.put, List.setIfInBounds_toArray, List.set_cons_zero, List.set_cons_succ]
          refine htake (i := 7) (v := ?v12) rfl (by kernel_rfl) (by kernel_rfl) (by kernel_rfl) (fun _ _ _ h => pan_put h) (Or.inl ⟨by rfl, ?hy12⟩) (by assumption) ?_
          case hy12 => (intro w hSw; (try dsimp only at hSw); go_simp; try (with_reducible rfl))
          try simp only [Act.put, List.setIfInBounds_toArray, List.set_cons_zero, List.set_cons_succ]
          refine htake (i := 9) (v := ?v13) rfl (by kernel_rfl) (by kernel_rfl) (by kernel_rfl) (fun _ _ _ h => pan_put h) (Or.inl ⟨by rfl, ?hy13⟩) (by assumption) ?_
          case hy13 => (intro w hSw; (try dsimp only at hSw); go_simp; try (with_reducible rfl))
          try simp only [Act.put, List.setIfInBounds_toArray, List.set_cons_zero, List.set_cons_succ]
          refine htake (i := 10) (v := ?v14) rfl (by kernel_rfl) (by kernel_rfl) (by kernel_rfl) (fun _ _ _ h => pan_put h) (Or.inl ⟨by rfl, ?hy14⟩) (by assumption) ?_
          case hy14 => (intro w hSw; (try dsimp only at hSw); go_simp; try (with_reducible rfl))
          try simp only [Act.put, List.setIfInBounds_toArray, List.set_cons_zero, List.set_cons_succ]
          refine htake (i := 11) (v := ?v15) rfl (by kernel_rfl) (by kernel_rfl) (by kernel_rfl) (fun _ _ _ h => pan_put h) (Or.inl ⟨by rfl, ?hy15⟩) (by assumption) ?_
          case hy15 => (intro w hSw; (try dsimp only at hSw); go_simp; try (with_reducible rfl))
          try simp only [Act.put, List.setIfInBounds_toArray, List.set_cons_zero, List.set_cons_succ]
          refine wpAnyH_ready (rs := [4]) (by kernel_rfl) (by simp) ?_
          refine hcons rfl (fun K hK => ?_) (AllReadyH.nil)
          go_simp
          refine (HC1.out _ (HE.out.next HC.out)).mono ?_; rintro e1 V5 ⟨rfl, hb⟩; exact ⟨rfl, HN.out, rfl, HC.out.trans (hb.mono HC.out.size)⟩
        · rcases q2 with _ | s2
          · have HN := Lib.hid (show o = none from HO2.out)
            refine wp_region_pan (fun ch W => o = none ∧ ch = [{ v := .iface 129 (.agg #[]), recovered := false }] ∧ Below w.heap.size w W) (fun ch a' w' hd h => ⟨hd, by obtain ⟨h1, rfl, h3⟩ := h; rw [h1]; exact ⟨rfl, h3⟩⟩) ?_
            refine wp_region_held_drew (S := (fun W => W.cell? ⟨q, off + 1, none⟩ = some (tx x1) ∧ W.cell? ⟨q, off + 2, none⟩ = some (tx x2) ∧ W.cell? ⟨q, off + 3, none⟩ = some (tx x3))) (by kernel_rfl) ?_ (fun hHeld => ?_)
            · (try dsimp only); exact HS1.out _ HC.out
            refine htake (i := 0) (v := ?v16) rfl (by kernel_rfl) (by kernel_rfl) (by kernel_rfl) (fun _ _ _ h => pan_put h) (Or.inl ⟨by rfl, ?hy16⟩) (by assumption) ?_
            case hy16 => (intro w hSw; (try dsimp only at hSw); go_simp; try (with_reducible rfl))
            try simp only [Act.put, List.setIfInBounds_toArray, List.set_cons_zero, List.set_cons_succ]
            refine htake (i := 1) (v := ?v17) rfl (by kernel_rfl) (by kernel_rfl) (by kernel_rfl) (fun _ _ _ h => pan_put h) (Or.inl ⟨by rfl, ?hy17⟩) (by assumption) ?_
            case hy17 => (intro w hSw; (try dsimp only at hSw); go_simp; try (with_reducible rfl))
            try simp only [Act.put, List.setIfInBounds_toArray, List.set_cons_zero, List.set_cons_succ]
            refine htake (i := 2) (v := ?v18) rfl (by kernel_rfl) (by kernel_rfl) (by kernel_rfl) (fun _ _ _ h => pan_put h) (Or.inl ⟨by rfl, ?hy18⟩) (by assumption) ?_
            case hy18 => (intro w hSw; (try dsimp only at hSw); go_simp; try (with_reducible rfl))
            try simp only [Act.put, List.setIfInBounds_toArray, List.set_cons_zero, List.set_cons_succ]
            refine htake (i := 3) (v := ?v19) rfl (by kernel_rfl) (by kernel_rfl) (by kernel_rfl) (fun _ _ _ h => pan_put h) (Or.inl ⟨by rfl, ?hy19⟩) (by assumption) ?_
            case hy19 => (intro w hSw; (try dsimp only at hSw); go_simp; try (with_reducible rfl))
            try simp only [Act.put, List.setIfInBounds_toArray, List.set_cons_zero, List.set_cons_succ]
            refine htake (i := 5) (v := ?v20) rfl (by kernel_rfl) (by kernel_rfl) (by kernel_rfl) (fun _ _ _ h => pan_put h) (Or.inl ⟨by rfl, ?hy20⟩) (by assumption) ?_
            case hy20 => (intro w hSw; (try dsimp only at hSw); go_simp; try (with_reducible rfl))
            try simp only [Act.put, List.setIfInBounds_toArray, List.set_cons_zero, List.set_cons_succ]
            refine htake (i := 6) (v := ?v21) rfl (by kernel_rfl) (by kernel_rfl) (by kernel_rfl) (fun _ _ _ h => pan_put h) (Or.inl ⟨by rfl, ?hy21⟩) (by assumption) ?_
            case hy21 => (intro w hSw; (try dsimp only at hSw); go_simp; try (with_reducible rfl))
            try simp only [Act.put, List.setIfInBounds_toArray, List.set_cons_zero, List.set_cons_succ]
            refine htake (i := 7) (v := ?v22) rfl (by kernel_rfl) (by kernel_rfl) (by kernel_rfl) (fun _ _ _ h => pan_put h) (Or.inl ⟨by rfl, ?hy22⟩) (by assumption) ?_
            case hy22 => (intro w hSw; (try dsimp only at hSw); go_simp; try (with_reducible rfl))
            try simp only [Act.put, List.setIfInBounds_toArray, List.set_cons_zero, List.set_cons_succ]
            refine htake (i := 9) (v := ?v23) rfl (by kernel_rfl) (by kernel_rfl) (by kernel_rfl) (fun _ _ _ h => pan_put h) (Or.inl ⟨by rfl, ?hy23⟩) (by assumption) ?_
            case hy23 => (intro w hSw; (try dsimp only at hSw); go_simp; try (with_reducible rfl))
            try simp only [Act.put, List.setIfInBounds_toArray, List.set_cons_zero, List.set_cons_succ]
            refine htake (i := 10) (v := ?v24) rfl (by kernel_rfl) (by kernel_rfl) (by kernel_rfl) (fun _ _ _ h => pan_put h) (Or.inl ⟨by rfl, ?hy24⟩) (by assumption) ?_
            case hy24 => (intro w hSw; (try dsimp only at hSw); go_simp; try (with_reducible rfl))
            try simp only [Act.put, List.setIfInBounds_toArray, List.set_cons_zero, List.set_cons_succ]
            refine htake (i := 11) (v := ?v25) rfl (by kernel_rfl) (by kernel_rfl) (by kernel_rfl) (fun _ _ _ h => pan_put h) (Or.inl ⟨by rfl, ?hy25⟩) (by assumption) ?_
            case hy25 => (intro w hSw; (try dsimp only at hSw); go_simp; try (with_reducible rfl))
            try simp only [Act.put, List.setIfInBounds_toArray, List.set_cons_zero, List.set_cons_succ]
            refine wpAnyH_ready (rs := [4]) (by kernel_rfl) (by simp) ?_
            refine hcons rfl (fun K hK => ?_) (AllReadyH.nil)
            go_simp
            refine (HC1.out _ (HE.out.next HC.out)).mono ?_; rintro e1 V5 ⟨rfl, hb⟩; replace HC := Lib.hid (HC.out.trans (hb.mono HC.out.size)); replace HX4 := Lib.hid (HX4.out.next hb); clear hb
            refine hK.out _ _ ?_ (fun hHeld => ?_)
            · (try dsimp only); exact HS1.out _ HC.out
            clear hK K
            try simp only [Act.put, List.setIfInBounds_toArray, List.set_cons_zero, List.set_cons_succ]
            refine wpAnyH_ready (rs := [8]) (by kernel_rfl) (by simp) ?_
            refine hcons rfl (fun K hK => ?_) (AllReadyH.nil)
            go_simp
            refine (HC2.out _ (HE.out.next HC.out)).mono ?_; rintro e2 V6 ⟨rfl, hb⟩; exact ⟨rfl, HN.out, rfl, HC.out.trans (hb.mono HC.out.size)⟩
          · rcases q3 with _ | s3
            · have HN := Lib.hid (show o = none from HO2.out)
              refine wp_region_pan (fun ch W => o = none ∧ ch = [{ v := .iface 129 (.agg #[]), recovered := false }] ∧ Below w.heap.size w W) (fun ch a' w' hd h => ⟨hd, by obtain ⟨h1, rfl, h3⟩ := h; rw [h1]; exact ⟨rfl, h3⟩⟩) ?_
              refine wp_region_held_drew (S := (fun W => W.cell? ⟨q, off + 1, none⟩ = some (tx x1) ∧ W.cell? ⟨q, off + 2, none⟩ = some (tx x2) ∧ W.cell? ⟨q, off + 3, none⟩ = some (tx x3))) (by kernel_rfl) ?_ (fun hHeld => ?_)
              · (try dsimp only); exact HS1.out _ HC.out
              refine htake (i := 0) (v := ?v26) rfl (by kernel_rfl) (by kernel_rfl) (by kernel_rfl) (fun _ _ _ h => pan_put h) (Or.inl ⟨by rfl, ?hy26⟩) (by assumption) ?_
              case hy26 => (intro w hSw; (try dsimp only at hSw); go_simp; try (with_reducible rfl))
              try simp only [Act.put, List.setIfInBounds_toArray, List.set_cons_zero, List.set_cons_succ]
              refine htake (i := 1) (v := ?v27) rfl (by kernel_rfl) (by kernel_rfl) (by kernel_rfl) (fun _ _ _ h => pan_put h) (Or.inl ⟨by rfl, ?hy27⟩) (by assumption) ?_
              case hy27 => (intro w hSw; (try dsimp only at hSw); go_simp; try (with_reducible rfl))
              try simp only [Act.put, List.setIfInBounds_toArray, List.set_cons_zero, List.set_cons_succ]
              refine htake (i := 2) (v := ?v28) rfl (by kernel_rfl) (by kernel_rfl) (by kernel_rfl) (fun _ _ _ h => pan_put h) (Or.inl ⟨by rfl, ?hy28⟩) (by assumption) ?_
              case hy28 => (intro w hSw; (try dsimp only at hSw); go_simp; try (with_reducible rfl))
              try simp only [Act.put, List.setIfInBounds_toArray, List.set_cons_zero, List.set_cons_succ]
              refine htake (i := 3) (v := ?v29) rfl (by kernel_rfl) (by kernel_rfl) (by kernel_rfl) (fun _ _ _ h => pan_put h) (Or.inl ⟨by rfl, ?hy29⟩) (by assumption) ?_
              case hy29 => (intro w hSw; (try dsimp only at hSw); go_simp; try (with_reducible rfl))
              try simp only [Act.put, List.setIfInBounds_toArray, List.set_cons_zero, List.set_cons_succ]
              refine htake (i := 5) (v := ?v30) rfl (by kernel_rfl) (by kernel_rfl) (by kernel_rfl) (fun _ _ _ h => pan_put h) (Or.inl ⟨by rfl, ?hy30⟩) (by assumption) ?_
              case hy30 => (intro w hSw; (try dsimp only at hSw); go_simp; try (with_reducible rfl))
              try simp only [Act.put, List.setIfInBounds_toArray, List.set_cons_zero, List.set_cons_succ]
              refine htake (i := 6) (v := ?v31) rfl (by kernel_rfl) (by kernel_rfl) (by kernel_rfl) (fun _ _ _ h => pan_put h) (Or.inl ⟨by rfl, ?hy31⟩) (by assumption) ?_
              case hy31 => (intro w hSw; (try dsimp only at hSw); go_simp; try (with_reducible rfl))
              try simp only [Act.put, List.setIfInBounds_toArray, List.set_cons_zero, List.set_cons_succ]
              refine htake (i := 7) (v := ?v32) rfl (by kernel_rfl) (by kernel_rfl) (by kernel_rfl) (fun _ _ _ h => pan_put h) (Or.inl ⟨by rfl, ?hy32⟩) (by assumption) ?_
              case hy32 => (intro w hSw; (try dsimp only at hSw); go_simp; try (with_reducible rfl))
              try simp only [Act.put, List.setIfInBounds_toArray, List.set_cons_zero, List.set_cons_succ]
              refine htake (i := 9) (v := ?v33) rfl (by kernel_rfl) (by kernel_rfl) (by kernel_rfl) (fun _ _ _ h => pan_put h) (Or.inl ⟨by rfl, ?hy33⟩) (by assumption) ?_
              case hy33 => (intro w hSw; (try dsimp only at hSw); go_simp; try (with_reducible rfl))
              try simp only [Act.put, List.setIfInBounds_toArray, List.set_cons_zero, List.set_cons_succ]
              refine htake (i := 10) (v := ?v34) rfl (by kernel_rfl) (by kernel_rfl) (by kernel_rfl) (fun _ _ _ h => pan_put h) (Or.inl ⟨by rfl, ?hy34⟩) (by assumption) ?_
              case hy34 => (intro w hSw; (try dsimp only at hSw); go_simp; try (with_reducible rfl))
              try simp only [Act.put, List.setIfInBounds_toArray, List.set_cons_zero, List.set_cons_succ]
              refine htake (i := 11) (v := ?v35) rfl (by kernel_rfl) (by kernel_rfl) (by kernel_rfl) (fun _ _ _ h => pan_put h) (Or.inl ⟨by rfl, ?hy35⟩) (by assumption) ?_
              case hy35 => (intro w hSw; (try dsimp only at hSw); go_simp; try (with_reducible rfl))
              try simp only [Act.put, List.setIfInBounds_toArray, List.set_cons_zero, List.set_cons_succ]
              refine wpAnyH_ready (rs := [4]) (by kernel_rfl) (by simp) ?_
              refine hcons rfl (fun K hK => ?_) (AllReadyH.nil)
              go_simp
              refine (HC1.out _ (HE.out.next HC.out)).mono ?_; rintro e1 V5 ⟨rfl, hb⟩; replace HC := Lib.hid (HC.out.trans (hb.mono HC.out.size)); replace HX4 := Lib.hid (HX4.out.next hb); clear hb
              refine hK.out _ _ ?_ (fun hHeld => ?_)
              · (try dsimp only); exact HS1.out _ HC.out
              clear hK K
              try simp only [Act.put, List.setIfInBounds_toArray, List.set_cons_zero, List.set_cons_succ]
              refine wpAnyH_ready (rs := [8]) (by kernel_rfl) (by simp) ?_
              refine hcons rfl (fun K hK => ?_) (AllReadyH.nil)
              go_simp
              refine (HC2.out _ (HE.out.next HC.out)).mono ?_; rintro e2 V6 ⟨rfl, hb⟩; replace HC := Lib.hid (HC.out.trans (hb.mono HC.out.size)); replace HX4 := Lib.hid (HX4.out.next hb); clear hb
              refine hK.out _ _ ?_ (fun hHeld => ?_)
              · (try dsimp only); exact HS1.out _ HC.out
              clear hK K
              try simp only [Act.put, List.setIfInBounds_toArray, List.set_cons_zero, List.set_cons_succ]
              refine wpAnyH_ready (rs := [12]) (by kernel_rfl) (by simp) ?_
              refine hcons rfl (fun K hK => ?_) (AllReadyH.nil)
              go_simp
              refine (HC3.out _ (HE.out.next HC.out)).mono ?_; rintro e3 V7 ⟨rfl, hb⟩; exact ⟨rfl, HN.out, rfl, HC.out.trans (hb.mono HC.out.size)⟩
            · have HP := Lib.hid (show o = some (edv ⟨kd, s1, s2, s3⟩) from HO2.out)
              unfold spv at HC1 HC2 HC3
              refine wp_region_pan (fun ch W => o = none ∧ ch = [{ v := .iface 129 (.agg #[]), recovered := false }] ∧ Below w.heap.size w W) (fun ch a' w' hd h => ⟨hd, by obtain ⟨h1, rfl, h3⟩ := h; rw [h1]; exact ⟨rfl, h3⟩⟩) ?_
              refine wp_region_held_drew (S := (fun W => W.cell? ⟨q, off + 1, none⟩ = some (tx x1) ∧ W.cell? ⟨q, off + 2, none⟩ = some (tx x2) ∧ W.cell? ⟨q, off + 3, none⟩ = some (tx x3))) (by kernel_rfl) ?_ (fun hHeld => ?_)
              · (try dsimp only); exact HS1.out _ HC.out
              refine htake (i := 0) (v := ?v36) rfl (by kernel_rfl) (by kernel_rfl) (by kernel_rfl) (fun _ _ _ h => pan_put h) (Or.inl ⟨by rfl, ?hy36⟩) (by assumption) ?_
              case hy36 => (intro w hSw; (try dsimp only at hSw); go_simp; try (with_reducible rfl))
              try simp only [Act.put, List.setIfInBounds_toArray, List.set_cons_zero, List.set_cons_succ]
              refine htake (i := 1) (v := ?v37) rfl (by kernel_rfl) (by kernel_rfl) (by kernel_rfl) (fun _ _ _ h => pan_put h) (Or.inl ⟨by rfl, ?hy37⟩) (by assumption) ?_
              case hy37 => (intro w hSw; (try dsimp only at hSw); go_simp; try (with_reducible rfl))
              try simp only [Act.put, List.setIfInBounds_toArray, List.set_cons_zero, List.set_cons_succ]
              refine htake (i := 2) (v := ?v38) rfl (by kernel_rfl) (by kernel_rfl) (by kernel_rfl) (fun _ _ _ h => pan_put h) (Or.inl ⟨by rfl, ?hy38⟩) (by assumption) ?_
              case hy38 => (intro w hSw; (try dsimp only at hSw); go_simp; try (with_reducible rfl))
              try simp only [Act.put, List.setIfInBounds_toArray, List.set_cons_zero, List.set_cons_succ]
              refine htake (i := 3) (v := ?v39) rfl (by kernel_rfl) (by kernel_rfl) (by kernel_rfl) (fun _ _ _ h => pan_put h) (Or.inl ⟨by rfl, ?hy39⟩) (by assumption) ?_
              case hy39 => (intro w hSw; (try dsimp only at hSw); go_simp; try (with_reducible rfl))
              try simp only [Act.put, List.setIfInBounds_toArray, List.set_cons_zero, List.set_cons_succ]
              refine htake (i := 5) (v := ?v40) rfl (by kernel_rfl) (by kernel_rfl) (by kernel_rfl) (fun _ _ _ h => pan_put h) (Or.inl ⟨by rfl, ?hy40⟩) (by assumption) ?_
              case hy40 => (intro w hSw; (try dsimp only at hSw); go_simp; try (with_reducible rfl))
              try simp only [Act.put, List.setIfInBounds_toArray, List.set_cons_zero, List.set_cons_succ]
              refine htake (i := 6) (v := ?v41) rfl (by kernel_rfl) (by kernel_rfl) (by kernel_rfl) (fun _ _ _ h => pan_put h) (Or.inl ⟨by rfl, ?hy41⟩) (by assumption) ?_
              case hy41 => (intro w hSw; (try dsimp only at hSw); go_simp; try (with_reducible rfl))
              try simp only [Act.put, List.setIfInBounds_toArray, List.set_cons_zero, List.set_cons_succ]
              refine htake (i := 7) (v := ?v42) rfl (by kernel_rfl) (by kernel_rfl) (by kernel_rfl) (fun _ _ _ h => pan_put h) (Or.inl ⟨by rfl, ?hy42⟩) (by assumption) ?_
              case hy42 => (intro w hSw; (try dsimp only at hSw); go_simp; try (with_reducible rfl))
              try simp only [Act.put, List.setIfInBounds_toArray, List.set_cons_zero, List.set_cons_succ]
              refine htake (i := 9) (v := ?v43) rfl (by kernel_rfl) (by kernel_rfl) (by kernel_rfl) (fun _ _ _ h => pan_put h) (Or.inl ⟨by rfl, ?hy43⟩) (by assumption) ?_
              case hy43 => (intro w hSw; (try dsimp only at hSw); go_simp; try (with_reducible rfl))
              try simp only [Act.put, List.setIfInBounds_toArray, List.set_cons_zero, List.set_cons_succ]
              refine htake (i := 10) (v := ?v44) rfl (by kernel_rfl) (by kernel_rfl) (by kernel_rfl) (fun _ _ _ h => pan_put h) (Or.inl ⟨by rfl, ?hy44⟩) (by assumption) ?_
              case hy44 => (intro w hSw; (try dsimp only at hSw); go_simp; try (with_reducible rfl))
              try simp only [Act.put, List.setIfInBounds_toArray, List.set_cons_zero, List.set_cons_succ]
              refine htake (i := 11) (v := ?v45) rfl (by kernel_rfl) (by kernel_rfl) (by kernel_rfl) (fun _ _ _ h => pan_put h) (Or.inl ⟨by rfl, ?hy45⟩) (by assumption) ?_
              case hy45 => (intro w hSw; (try dsimp only at hSw); go_simp; try (with_reducible rfl))
              try simp only [Act.put, List.setIfInBounds_toArray, List.set_cons_zero, List.set_cons_succ]
              refine wpAnyH_ready (rs := [4]) (by kernel_rfl) (by simp) ?_
              refine hcons rfl (fun K hK => ?_) (AllReadyH.nil)
              go_simp
              refine (HC1.out _ (HE.out.next HC.out)).mono ?_; rintro e1 V5 ⟨rfl, hb⟩; replace HC := Lib.hid (HC.out.trans (hb.mono HC.out.size)); replace HX4 := Lib.hid (HX4.out.next hb); clear hb
              refine hK.out _ _ ?_ (fun hHeld => ?_)
              · (try dsimp only); exact HS1.out _ HC.out
              clear hK K
              try simp only [Act.put, List.setIfInBounds_toArray, List.set_cons_zero, List.set_cons_succ]
              refine wpAnyH_ready (rs := [8]) (by kernel_rfl) (by simp) ?_
              refine hcons rfl (fun K hK => ?_) (AllReadyH.nil)
              go_simp
              refine (HC2.out _ (HE.out.next HC.out)).mono ?_; rintro e2 V6 ⟨rfl, hb⟩; replace HC := Lib.hid (HC.out.trans (hb.mono HC.out.size)); replace HX4 := Lib.hid (HX4.out.next hb); clear hb
              refine hK.out _ _ ?_ (fun hHeld => ?_)
              · (try dsimp only); exact HS1.out _ HC.out
              clear hK K
              try simp only [Act.put, List.setIfInBounds_toArray, List.set_cons_zero, List.set_cons_succ]
              refine wpAnyH_ready (rs := [12]) (by kernel_rfl) (by simp) ?_
              refine hcons rfl (fun K hK => ?_) (AllReadyH.nil)
              go_simp
              refine (HC3.out _ (HE.out.next HC.out)).mono ?_; rintro e3 V7 ⟨rfl, hb⟩; replace HC := Lib.hid (HC.out.trans (hb.mono HC.out.size)); replace HX4 := Lib.hid (HX4.out.next hb); clear hb; have z0 := HX4.out.c 0 _ rfl; have y0 := HX4.out.fr 0; have z1 := HX4.out.c 1 _ rfl; have y1 := HX4.out.fr 1; have z2 := HX4.out.c 2 _ rfl; have y2 := HX4.out.fr 2; have z3 := HX4.out.c 3 _ rfl; have y3 := HX4.out.fr 3; have z4 := HX4.out.c 4 _ rfl; have y4 := HX4.out.fr 4; have z5 := HX4.out.c 5 _ rfl; have y5 := HX4.out.fr 5; have z6 := HX4.out.c 6 _ rfl; have y6 := HX4.out.fr 6
              refine hK.out _ _ ?_ (fun hHeld => ?_)
              · (try dsimp only); exact HS1.out _ HC.out
              clear hK K
              try simp only [Act.put, List.setIfInBounds_toArray, List.set_cons_zero, List.set_cons_succ]
              refine htake (i := 13) (v := ?v46) rfl (by kernel_rfl) (by kernel_rfl) (by kernel_rfl) (fun _ _ _ h => pan_put h) (Or.inl ⟨by rfl, ?hy46⟩) (by assumption) ?_
              case hy46 => (intro w hSw; (try dsimp only at hSw); go_simp; try (with_reducible rfl))
              try simp only [Act.put, List.setIfInBounds_toArray, List.set_cons_zero, List.set_cons_succ]
              refine wpAnyH_ready (rs := [14]) (by kernel_rfl) (by simp) ?_
              refine hcons rfl (fun K hK => ?_) (AllReadyH.nil)
              go_simp
              refine hK.out _ _ ?_ (fun hHeld => ?_)
              · (try dsimp only); exact HS1.out _ (((((((HC.out.setCell (p := ⟨b, 0, none⟩) (by rw [HBW.out]; exact Nat.le_refl _) _).setCell (p := ⟨b, 1, none⟩) (by rw [HBW.out]; exact Nat.le_refl _) _).setCell (p := ⟨b, 2, none⟩) (by rw [HBW.out]; exact Nat.le_refl _) _).setCell (p := ⟨b, 3, none⟩) (by rw [HBW.out]; exact Nat.le_refl _) _).setCell (p := ⟨b, 4, none⟩) (by rw [HBW.out]; exact Nat.le_refl _) _).setCell (p := ⟨b, 5, none⟩) (by rw [HBW.out]; exact Nat.le_refl _) _).setCell (p := ⟨b, 6, none⟩) (by rw [HBW.out]; exact Nat.le_refl _) _)
              clear hK K
              try simp only [Act.put, List.setIfInBounds_toArray, List.set_cons_zero, List.set_cons_succ]
              refine wpAnyH_done (by kernel_rfl) ?_ _
              dsimp only [PanTo]
              iterate 16 (try clear hHeld)
              go_wp2_with fail
              ((try simp only [Exit.inBlock, Exit.then]); refine bodyPost_ret (results_cell1 rfl rfl (loadEd (((((((HX4.out.set (k := 0) (by simp) (.int .i64 kd)).set (k := 1) (by simp) (.int .i64 s1.lo)).set (k := 2) (by simp) (.int .i64 s1.hi)).set (k := 3) (by simp) (.int .i64 s2.lo)).set (k := 4) (by simp) (.int .i64 s2.hi)).set (k := 5) (by simp) (.int .i64 s3.lo)).set (k := 6) (by simp) (.int .i64 s3.hi)))) rfl ?_)
              rw [HP.out]
              exact ⟨rfl, (((((((HC.out.setCell (p := ⟨b, 0, none⟩) (by rw [HBW.out]; exact Nat.le_refl _) _).setCell (p := ⟨b, 1, none⟩) (by rw [HBW.out]; exact Nat.le_refl _) _).setCell (p := ⟨b, 2, none⟩) (by rw [HBW.out]; exact Nat.le_refl _) _).setCell (p := ⟨b, 3, none⟩) (by rw [HBW.out]; exact Nat.le_refl _) _).setCell (p := ⟨b, 4, none⟩) (by rw [HBW.out]; exact Nat.le_refl _) _).setCell (p := ⟨b, 5, none⟩) (by rw [HBW.out]; exact Nat.le_refl _) _).setCell (p := ⟨b, 6, none⟩) (by rw [HBW.out]; exact Nat.le_refl _) _)⟩
    · have HN := Lib.hid (show o = none by rw [← HO.out, edP_long (by rw [HKD.out]; rcases hk with h | h | h <;> rw [h] <;> decide) h4]; rfl)
      have hk0 : (kd == 0) = false := by rcases hk with h | h | h <;> rw [h] <;> rfl
      have h4i : ((ws.length : Int) == 4) = false := by simp; omega
      by_cases hp : 0 < kd
      · clear HKC HKD
        go_wp2_with fail
        refine (need_false V3).mono ?_
        intro e W hm
        obtain ⟨rfl, hr⟩ := HMISS.out HN.out V3 W e HB3.out hm
        exact ⟨rfl, hr⟩
      · have hp2 : ¬ (0 : Int) < kd := hp
        clear HKC HKD
        go_wp2_with fail
        refine (need_false V3).mono ?_
        intro e W hm
        obtain ⟨rfl, hr⟩ := HMISS.out HN.out V3 W e HB3.out hm
        exact ⟨rfl, hr⟩
end Go.Proofs.YtonnemkecppmiaaGreatDoor

