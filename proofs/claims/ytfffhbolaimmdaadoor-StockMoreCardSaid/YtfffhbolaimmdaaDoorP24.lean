import Derived.Test.YtfffhbolaimmdaaDoorP23
import Derived.Test.YtfffhbolaimmdaaDoorQ1
namespace Go.Proofs.YtfffhbolaimmdaaDoor
open Go.RowKit
theorem bestP_eq {s : Store} (ok : Ok s) : bestP s = ((bestS s : Int), gainS s (bestS s) (loAt s)) := best_law ok
theorem best53 (s : Store) (ok : Ok s) (w : World) (hr : StoreAt w w.heap.size s) : Calls Tryd.prog 53 #[.agg #[.slice s.A1 s.sheets.length s.c1, .slice s.A2 s.lics.length s.c2, .slice s.A3 s.makes.length s.c3, .slice s.A4 s.wishes.length s.c4]] w (Ret (.agg #[.int .i64 (bestS s), .int .i64 (gainS s (bestS s) (loAt s))]) w) := by
  have := best_any s ok w hr
  rw [bestP_eq ok] at this
  exact this
set_option maxRecDepth 100000 in
set_option maxHeartbeats 400000 in
theorem Accept26_any (s : Store) (w : World) (hr : StoreAt w w.heap.size s) : Calls Tryd.prog 26 #[.agg #[.slice s.A1 s.sheets.length s.c1, .slice s.A2 s.lics.length s.c2, .slice s.A3 s.makes.length s.c3, .slice s.A4 s.wishes.length s.c4]] w (Ret3 (.int .i64 (acSet s)) (.int .i64 (acGain s)) (.int .i64 (acS s)) w) := by
  have hb0 := (Below.refl w.heap.size w).alloc (Nat.le_refl _) (.cells #[.slice s.A1 s.sheets.length s.c1, .slice s.A2 s.lics.length s.c2, .slice s.A3 s.makes.length s.c3, .slice s.A4 s.wishes.length s.c4] 27)
  have hr' := Lib.hid (hr.next hb0)
  have HR := Lib.hid hr
  have hbb := Lib.hid hb0
  have hx := Lib.hid (SBox.new w s 27)
  clear hr hb0
  go_enter Tryd.func26, Tryd.ntmps26
  go_wp2_with fail
  refine (isStore_any s _ hr'.out).mono ?_
  rintro e w1 ⟨rfl, hb1⟩
  have Hbb := Lib.hid (hbb.out.trans (hb1.mono hbb.out.size))
  obtain ⟨hz, c0, c1, c2, c3⟩ := hx.out.next hb1
  clear hb1 hr' hbb hx
  cases hs : storeS s
  · have He := Lib.hid (show Ret3 (.int .i64 (acSet s)) (.int .i64 (acGain s)) (.int .i64 (acS s)) w = Ret3 (.int .i64 0) (.int .i64 0) (.int .i64 1) w by simp [acSet, acGain, acS, hs])
    go_wp2
    go_ret3
    rw [He.out]
    exact ⟨rfl, Hbb.out⟩
  · have He := Lib.hid (show Ret3 (.int .i64 (acSet s)) (.int .i64 (acGain s)) (.int .i64 (acS s)) w = Ret3 (.int .i64 (bestS s)) (.int .i64 (gainS s (bestS s) (loAt s))) (.int .i64 0) w by simp [acSet, acGain, acS, hs])
    have ok := (ok_iff s).1 hs
    have HB := Lib.hid (best53 s ok w1 ((HR.out.below Hbb.out).more Hbb.out.size))
    generalize gainS s (bestS s) (loAt s) = g at *
    generalize bestS s = b at *
    go_wp2_with fail
    refine HB.out.mono ?_
    rintro e w2 ⟨rfl, hb2⟩
    have H2 := Lib.hid (Hbb.out.trans (hb2.mono Hbb.out.size))
    clear hb2 c0 c1 c2 c3
    go_wp2_with fail
    go_region
    go_wp2
    go_ret3
    rw [He.out]
    exact ⟨rfl, (H2.out.alloc H2.out.size _).drew⟩
theorem field95 (x y : Int) (W : World) : (Instr.field 95 (.agg #[.int .i64 x, .int .i64 y]) 0).run Tryd.prog W = .ok (.int .i64 x) W := by kernel_rfl
def R28 (s : Store) (w0 w1 : World) (v i : Value) (w : World) : Prop := ∃ n : Nat, n ≤ s.sheets.length ∧ i = .int .i64 n ∧ w.ownsRow w1.heap.size 44 2 v n (tab2V n (spareS s)) ∧ Below w0.heap.size w0 w ∧ Below w1.heap.size w1 w
set_option maxHeartbeats 1000000 in
set_option maxRecDepth 100000 in
theorem Spare28_any (s : Store) (w : World) (hr : StoreAt w w.heap.size s) (he : Env w) : Calls Tryd.prog 28 #[.agg #[.slice s.A1 s.sheets.length s.c1, .slice s.A2 s.lics.length s.c2, .slice s.A3 s.makes.length s.c3, .slice s.A4 s.wishes.length s.c4]] w (RetL2 (lenIf (acS s) s.sheets.length) (spareS s) (acS s) w) := by
  obtain ⟨i0, hi, hz0, hz1, hz2⟩ := info_parts span_info
  have hb0 := (Below.refl w.heap.size w).alloc (Nat.le_refl _) (.cells #[.slice s.A1 s.sheets.length s.c1, .slice s.A2 s.lics.length s.c2, .slice s.A3 s.makes.length s.c3, .slice s.A4 s.wishes.length s.c4] 27)
  have hr' := Lib.hid (hr.next hb0)
  have HR := Lib.hid hr
  have HE := Lib.hid he
  have hbb := Lib.hid hb0
  have hx := Lib.hid (SBox.new w s 27)
  clear hr hb0 he
  go_enter Tryd.func28, Tryd.ntmps28
  go_wp2_with fail
  refine (isStore_any s _ hr'.out).mono ?_
  rintro e w1 ⟨rfl, hb1⟩
  have Hbb := Lib.hid (hbb.out.trans (hb1.mono hbb.out.size))
  have HX := Lib.hid (hx.out.next hb1)
  obtain ⟨hz, c0, c1, c2, c3⟩ := HX.out
  clear hb1 hr' hbb hx
  cases hs : storeS s
  · have hc : acS s = 1 := by simp [acS, hs]
    have He := Lib.hid (show RetL2 (lenIf (acS s) s.sheets.length) (spareS s) (acS s) w = RetL2 0 (spareS s) 1 w by rw [hc]; rfl)
    clear hc
    go_wp2
    go_ret2
    rw [He.out]
    exact ret_l2_none Hbb.out
  · have hc : acS s = 0 := by simp [acS, hs]
    have He := Lib.hid (show RetL2 (lenIf (acS s) s.sheets.length) (spareS s) (acS s) w = RetL2 s.sheets.length (spareS s) 0 w by rw [hc]; rfl)
    have ok := (ok_iff s).1 hs
    have h3 := ok.ns
    clear hc
    have hx2 := SBox.new w1 s 72
    have hb2 := (Below.refl w1.heap.size w1).alloc (Nat.le_refl _) (.cells #[.slice s.A1 s.sheets.length s.c1, .slice s.A2 s.lics.length s.c2, .slice s.A3 s.makes.length s.c3, .slice s.A4 s.wishes.length s.c4] 72)
    have hzV : (w1.alloc (.cells #[.slice s.A1 s.sheets.length s.c1, .slice s.A2 s.lics.length s.c2, .slice s.A3 s.makes.length s.c3, .slice s.A4 s.wishes.length s.c4] 72)).heap.size = w1.heap.size + 1 := by simp
    go_wp2_with fail
    generalize (w1.alloc (.cells #[.slice s.A1 s.sheets.length s.c1, .slice s.A2 s.lics.length s.c2, .slice s.A3 s.makes.length s.c3, .slice s.A4 s.wishes.length s.c4] 72)) = V at *
    have hfd := fun W => field95 (bestS s) (gainS s (bestS s) (loAt s)) W
    have HXV := Lib.hid hx2
    have HX1 := Lib.hid (HX.out.next hb2)
    have hbV := Hbb.out.trans (hb2.mono Hbb.out.size)
    have HV := Lib.hid hbV
    have HrV := Lib.hid ((HR.out.below hbV).more hbV.size)
    have HeV := Lib.hid (HE.out.next hbV)
    have hlt : bestS s < 2 ^ s.wishes.length := by
      have hb := (leaf_iff s (bestS s)).1
      obtain ⟨b1, -, -⟩ := bestTo_spec s (setsN s)
      have hp : 0 < setsN s := Nat.two_pow_pos _
      change bestTo s (setsN s) < setsN s
      rcases b1 with b1 | b1
      · rw [b1]; exact hp
      · exact b1.1
    clear hx2 hb2 hbV c0 c1 c2 c3
    obtain ⟨-, S0, S1, S2, S3⟩ := HXV.out
    refine wp_region_noPanic ?_
    refine wp_region_held_drew (S := (fun W => W.cell? ⟨w1.heap.size, 0, none⟩ = some (.slice s.A1 s.sheets.length s.c1) ∧ W.cell? ⟨w1.heap.size, 1, none⟩ = some (.slice s.A2 s.lics.length s.c2) ∧ W.cell? ⟨w1.heap.size, 2, none⟩ = some (.slice s.A3 s.makes.length s.c3) ∧ W.cell? ⟨w1.heap.size, 3, none⟩ = some (.slice s.A4 s.wishes.length s.c4))) (by kernel_rfl) ?_ (fun hHeld => ?_)
    · (try dsimp only); exact HXV.out.drew.four
    refine htake (i := 0) (v := ?v1) rfl (by kernel_rfl) (by kernel_rfl) (by kernel_rfl) (fun _ _ _ h => h) (Or.inl ⟨by rfl, ?hy1⟩) (by assumption) ?_
    case hy1 => (intro w hSw; (try dsimp only at hSw); go_simp; try (with_reducible rfl))
    try simp only [Act.put, List.setIfInBounds_toArray, List.set_cons_zero, List.set_cons_succ]
    refine htake (i := 1) (v := ?v2) rfl (by kernel_rfl) (by kernel_rfl) (by kernel_rfl) (fun _ _ _ h => h) (Or.inl ⟨by rfl, ?hy2⟩) (by assumption) ?_
    case hy2 => (intro w hSw; (try dsimp only at hSw); go_simp; try (with_reducible rfl))
    try simp only [Act.put, List.setIfInBounds_toArray, List.set_cons_zero, List.set_cons_succ]
    refine htake (i := 6) (v := ?v3) rfl (by kernel_rfl) (by kernel_rfl) (by kernel_rfl) (fun _ _ _ h => h) (Or.inl ⟨by rfl, ?hy3⟩) (by assumption) ?_
    case hy3 => (intro w hSw; (try dsimp only at hSw); go_simp; try (with_reducible rfl))
    try simp only [Act.put, List.setIfInBounds_toArray, List.set_cons_zero, List.set_cons_succ]
    refine wpAnyH_ready (rs := [2]) (by kernel_rfl) (by simp) ?_
    refine hcons rfl (fun K hK => ?_) (AllReadyH.nil)
    go_simp
    (with_reducible refine (best53 s ok _ ?_).mono ?_); (exact HrV.out.next (Below.refl _ _).drew); rintro e w2 ⟨rfl, hb2⟩; have hk2 : Below V.heap.size V w2 := (Below.refl _ _).drew.trans hb2
    refine hK.out _ _ ?_ (fun hHeld => ?_)
    · (try dsimp only); exact (HXV.out.next hk2).four
    clear hK K
    try simp only [Act.put, List.setIfInBounds_toArray, List.set_cons_zero, List.set_cons_succ]
    refine htake (i := 3) (v := ?v4) rfl (by kernel_rfl) (by kernel_rfl) (by kernel_rfl) (fun _ _ _ h => h) (Or.inl ⟨by rfl, ?hy4⟩) (by assumption) ?_
    case hy4 => (intro w hSw; (try dsimp only at hSw); go_simp; try (with_reducible rfl))
    try simp only [Act.put, List.setIfInBounds_toArray, List.set_cons_zero, List.set_cons_succ]
    refine wpAnyH_ready (rs := [4]) (by kernel_rfl) (by simp) ?_
    refine hcons rfl (fun K hK => ?_) (AllReadyH.nil)
    go_simp
    (with_reducible refine (takes_any s (bestS s) _ ok hlt ?_ ?_).mono ?_); (exact HrV.out.next hk2); (exact HeV.out.next hk2); rintro e w3 ⟨g3, c3, rfl, hc3, hg3, hblk3, hb3⟩; have hk3 := below_step hb3 hk2 (Nat.le_refl V.heap.size)
    refine hK.out _ _ ?_ (fun hHeld => ?_)
    · (try dsimp only); exact (HXV.out.next hk3).four
    clear hK K
    try simp only [Act.put, List.setIfInBounds_toArray, List.set_cons_zero, List.set_cons_succ]
    refine htake (i := 5) (v := ?v5) rfl (by kernel_rfl) (by kernel_rfl) (by kernel_rfl) (fun _ _ _ h => h) (Or.inl ⟨by rfl, ?hy5⟩) (by assumption) ?_
    case hy5 => (intro w hSw; (try dsimp only at hSw); go_simp; try (with_reducible rfl))
    try simp only [Act.put, List.setIfInBounds_toArray, List.set_cons_zero, List.set_cons_succ]
    refine wpAnyH_done (by kernel_rfl) ?_ _
    refine NoPanic.normal ?_
    iterate 8 (try clear hHeld)
    have HA := Lib.hid hblk3
    have HX3 := Lib.hid (HX1.out.next hk3)
    have H3 := Lib.hid (HV.out.trans (hk3.mono HV.out.size))
    clear hk2 hk3 hb2 hb3 hblk3 S0 S1 S2 S3 hfd
    go_wp2
    go_loopw [2, 19] (fun v i wr => R28 s w w3 v i wr) (fun _ i _ => s.sheets.length - (intOf i).toNat)
    case atStart => exact ⟨0, by omega, rfl, World.ownsRow_nil _ _ _ _, H3.out, Below.refl _ _⟩
    case round =>
      obtain ⟨n, hn, rfl, hown, hb, hb3⟩ := hrel
      by_cases hlt2 : n < s.sheets.length
      · obtain ⟨b, off, e1, hbk, x0, x1, -⟩ := (HR.out.below hb).sheetL hlt2
        have c0 := (HX3.out.next hb3).c0
        rw [e1] at c0
        have t0 := (HA.out.next hb3).cell n hlt2
        have tb := takeS_bd ok (bestS s) n
        have lb := loAt_bd ok hlt2
        have ub := hiAt_bd ok hlt2
        have hb5 : b < wr.heap.size := by have := hb.size; omega
        have hg5 := (HA.out.next hb3).lt
        have hx5 := (HX3.out.next hb3).lt
        have Hown := Lib.hid hown
        have Hb := Lib.hid hb
        have Hb3 := Lib.hid hb3
        have Hsp := Lib.hid (show spareS s n = (max 0 (loAt s n - takeS s (bestS s) n), max 0 (hiAt s n - takeS s (bestS s) n)) from rfl)
        clear hown hb hb3 e1
        generalize takeS s (bestS s) n = T at *
        by_cases m1 : 0 ≤ loAt s n - T <;> by_cases m2 : 0 ≤ hiAt s n - T
        all_goals
          have hown := own_below Hown.out ((Below.refl wr.heap.size wr).alloc (Nat.le_refl _) (.cells #[.int .i64 (loAt s n), .int .i64 (hiAt s n)] 44))
          have hbA := Lib.hid (Hb.out.alloc Hb.out.size (.cells #[.int .i64 (loAt s n), .int .i64 (hiAt s n)] 44))
          have hb3A := Lib.hid (Hb3.out.alloc Hb3.out.size (.cells #[.int .i64 (loAt s n), .int .i64 (hiAt s n)] 44))
          go_wp2_with (at_builtin; refine wpList_append_own _ rfl (.tmp 30) (.tmp 42) 38 rfl w3.heap.size 44 i0 (.agg #[.int .i64 0, .int .i64 0]) 2 16 Tryd.underlying38 hi hz0 hz1 hz2 rfl (by decide) _ _ _ rfl (hown.alloc _) ⟨wr.heap.size + 1, 0, none⟩ 1 1 [_, _] rfl rfl (by have h := cell_two_new (wr.alloc (.cells #[.int .i64 (loAt s n), .int .i64 (hiAt s n)] 44)); simp only [World.size_alloc] at h; exact h _ _ _) (by simp [Value.oneCell']) (by unfold maxLen; omega) (by omega) (by simp; have := Hb3.out.size; omega) ?_; intro v' w' hown' hgrow _)
          have hown2 : w'.ownsRow w3.heap.size 44 2 v' (n + 1) (tab2V (n + 1) (spareS s)) := by
            rw [tab2V_succ, Hsp.out]
            refine (congrArg (fun xs => w'.ownsRow w3.heap.size 44 2 v' (n + 1) (tab2V n (spareS s) ++ xs)) ?_).mp hown'
            simp; omega
          have hbb : Below w.heap.size w w' := (hbA.out.alloc hbA.out.size _).grown hgrow (by have := hbA.out.size; simp at this ⊢; omega) (fun k hk => by have := hown.lt k hk; have := H3.out.size; omega)
          have hbx : Below w3.heap.size w3 w' := (hb3A.out.alloc hb3A.out.size _).grown hgrow (by have := hb3A.out.size; simp at this ⊢; omega) (fun k hk => by have := hown.lt k hk; omega)
          exact ⟨⟨n + 1, by omega, by go_num, hown2, hbb, hbx⟩, by simp [intOf]; omega⟩
      · have e : n = s.sheets.length := by omega
        go_wp2
        go_ret2
        subst e
        rw [He.out]
        exact ret_l2 hown hb
end Go.Proofs.YtfffhbolaimmdaaDoor
