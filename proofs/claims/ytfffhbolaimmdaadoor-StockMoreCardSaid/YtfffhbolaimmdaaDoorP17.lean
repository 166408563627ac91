import Derived.Test.YtfffhbolaimmdaaDoorP16
import Derived.Deep.RegionHeld3
namespace Go.Proofs.YtfffhbolaimmdaaDoor
open Go.RowKit
theorem enter63 (args : Array Value) (W : World) : (callFunc 63 args).run Tryd.prog W = .ok (.enter 63 args) W := by kernel_rfl
theorem enter64 (args : Array Value) (W : World) : (callFunc 64 args).run Tryd.prog W = .ok (.enter 64 args) W := by kernel_rfl
theorem takeS_bd {s : Store} (ok : Ok s) (set k : Nat) : 0 ≤ takeS s set k ∧ takeS s set k ≤ 1000000 := by
  have := takeTo_bd ok set k (Nat.le_refl _); unfold takeS; omega
theorem lackF_hi (s : Store) (set : Nat) : lackF s Sheet.hi (takeS s set) = fun k => lackS s set k (hiAt s k) := rfl
theorem lackF_lo (s : Store) (set : Nat) : lackF s Sheet.lo (takeS s set) = fun k => lackS s set k (loAt s k) := rfl
theorem lackMost_any (s : Store) (set g c : Nat) (w : World) (ok : Ok s) (hr : StoreAt w w.heap.size s) (hb : IBlk w g s.sheets.length (takeS s set)) :
    Calls Tryd.prog 41 #[.agg #[.slice s.A1 s.sheets.length s.c1, .slice s.A2 s.lics.length s.c2, .slice s.A3 s.makes.length s.c3, .slice s.A4 s.wishes.length s.c4], .slice (some ⟨g, 0, none⟩) s.sheets.length c, .agg #[.func (.func 63) #[] #[]]] w (RetB s.sheets.length (fun k => lackS s set k (hiAt s k)) w) :=
  lacking_any s 63 Sheet.hi g 0 c (takeS s set) w ok hr (fun _ _ => enter63 _ _) (fun x W => most63_any x.lo x.hi W) (fun _ hk => hiAt_bd ok hk) hb.at_ (fun k _ => takeS_bd ok set k)
theorem lackFew_any (s : Store) (set g c : Nat) (w : World) (ok : Ok s) (hr : StoreAt w w.heap.size s) (hb : IBlk w g s.sheets.length (takeS s set)) :
    Calls Tryd.prog 41 #[.agg #[.slice s.A1 s.sheets.length s.c1, .slice s.A2 s.lics.length s.c2, .slice s.A3 s.makes.length s.c3, .slice s.A4 s.wishes.length s.c4], .slice (some ⟨g, 0, none⟩) s.sheets.length c, .agg #[.func (.func 64) #[] #[]]] w (RetB s.sheets.length (fun k => lackS s set k (loAt s k)) w) :=
  lacking_any s 64 Sheet.lo g 0 c (takeS s set) w ok hr (fun _ _ => enter64 _ _) (fun x W => few64_any x.lo x.hi W) (fun _ hk => loAt_bd ok hk) hb.at_ (fun k _ => takeS_bd ok set k)
def R19 (s : Store) (set : Nat) (w0 w1 : World) (v i : Value) (w : World) : Prop := ∃ n : Nat, n ≤ s.sheets.length ∧ i = .int .i64 n ∧ w.ownsRow w1.heap.size 44 2 v n (tab2V n (lacksS s set)) ∧ Below w0.heap.size w0 w ∧ Below w1.heap.size w1 w
set_option maxHeartbeats 1000000 in
set_option maxRecDepth 100000 in
theorem Lacks19_any (s : Store) (st : Int) (w : World) (hr : StoreAt w w.heap.size s) (he : Env w) :
    Calls Tryd.prog 19 #[.agg #[.slice s.A1 s.sheets.length s.c1, .slice s.A2 s.lics.length s.c2, .slice s.A3 s.makes.length s.c3, .slice s.A4 s.wishes.length s.c4], .int .i64 st] w (RetL2 (lenIf (acceptedS s st) s.sheets.length) (lacksS s st.toNat) (acceptedS s st) w) := by
  obtain ⟨i0, hi, hz0, hz1, hz2⟩ := info_parts span_info
  have hb0 := (Below.refl w.heap.size w).alloc (Nat.le_refl _) (.cells #[.slice s.A1 s.sheets.length s.c1, .slice s.A2 s.lics.length s.c2, .slice s.A3 s.makes.length s.c3, .slice s.A4 s.wishes.length s.c4] 27)
  have hr' := Lib.hid (hr.next hb0)
  have he' := Lib.hid (he.next hb0)
  have HR := Lib.hid hr
  have HE := Lib.hid he
  have hbb := Lib.hid hb0
  clear hr he hb0
  go_enter Tryd.func19, Tryd.ntmps19
  go_wp2_with fail
  refine (open_any s st true _ hr'.out he'.out).mono ?_
  rintro e w1 ⟨rfl, hb1⟩
  rw [openE_true, openR_true]
  have Hbb := Lib.hid (hbb.out.trans (hb1.mono hbb.out.size))
  clear hb1 hr' he' hbb
  generalize mayS s st = mm
  by_cases hc : acceptedS s st = 0
  · obtain ⟨ok, h0, h1⟩ := accepted_ok (.inl hc)
    obtain ⟨set, rfl⟩ := Int.eq_ofNat_of_zero_le h0
    have hlt := set_lt h1
    have h3 := ok.ns
    have He := Lib.hid (show RetL2 (lenIf (acceptedS s (set : Int)) s.sheets.length) (lacksS s (set : Int).toNat) (acceptedS s (set : Int)) w = RetL2 s.sheets.length (lacksS s set) 0 w by rw [hc]; rfl)
    have hcc : checkS s set = 0 := by
      by_cases h : checkS s set = 0
      · exact h
      · unfold acceptedS at hc; rw [if_neg h] at hc; exact hc
    rw [openB_yes hcc]
    simp only [hc]
    clear hc hcc
    go_wp2_with fail
    have hx := SBox.new w1 s 72
    have hbV := Hbb.out.alloc Hbb.out.size (.cells #[.slice s.A1 s.sheets.length s.c1, .slice s.A2 s.lics.length s.c2, .slice s.A3 s.makes.length s.c3, .slice s.A4 s.wishes.length s.c4] 72)
    have hzV : (w1.alloc (.cells #[.slice s.A1 s.sheets.length s.c1, .slice s.A2 s.lics.length s.c2, .slice s.A3 s.makes.length s.c3, .slice s.A4 s.wishes.length s.c4] 72)).heap.size = w1.heap.size + 1 := by simp
    generalize w1.alloc (.cells #[.slice s.A1 s.sheets.length s.c1, .slice s.A2 s.lics.length s.c2, .slice s.A3 s.makes.length s.c3, .slice s.A4 s.wishes.length s.c4] 72) = V at *
    have HX := Lib.hid hx
    have HV := Lib.hid hbV
    have HrV := Lib.hid ((HR.out.below hbV).more hbV.size)
    have HeV := Lib.hid (HE.out.next hbV)
    clear hx hbV
    obtain ⟨-, S0, S1, S2, S3⟩ := HX.out
    refine wp_region_noPanic ?_
    refine wp_region_held_drew (S := (fun W => W.cell? ⟨w1.heap.size, 0, none⟩ = some (.slice s.A1 s.sheets.length s.c1) ∧ W.cell? ⟨w1.heap.size, 1, none⟩ = some (.slice s.A2 s.lics.length s.c2) ∧ W.cell? ⟨w1.heap.size, 2, none⟩ = some (.slice s.A3 s.makes.length s.c3) ∧ W.cell? ⟨w1.heap.size, 3, none⟩ = some (.slice s.A4 s.wishes.length s.c4))) (by kernel_rfl) ?_ (fun hHeld => ?_)
    · (try dsimp only); exact HX.out.drew.four
    refine htake (i := 0) (v := ?v1) rfl (by kernel_rfl) (by kernel_rfl) (by kernel_rfl) (fun _ _ _ h => h) (Or.inl ⟨by rfl, ?hy1⟩) (by assumption) ?_
    case hy1 => (intro w hSw; (try dsimp only at hSw); go_simp; try (with_reducible rfl))
    try simp only [Act.put, List.setIfInBounds_toArray, List.set_cons_zero, List.set_cons_succ]
    refine htake (i := 1) (v := ?v2) rfl (by kernel_rfl) (by kernel_rfl) (by kernel_rfl) (fun _ _ _ h => h) (Or.inl ⟨by rfl, ?hy2⟩) (by assumption) ?_
    case hy2 => (intro w hSw; (try dsimp only at hSw); go_simp; try (with_reducible rfl))
    try simp only [Act.put, List.setIfInBounds_toArray, List.set_cons_zero, List.set_cons_succ]
    refine htake (i := 2) (v := ?v3) rfl (by kernel_rfl) (by kernel_rfl) (by kernel_rfl) (fun _ _ _ h => h) (Or.inl ⟨by rfl, ?hy3⟩) (by assumption) ?_
    case hy3 => (intro w hSw; (try dsimp only at hSw); go_simp; try (with_reducible rfl))
    try simp only [Act.put, List.setIfInBounds_toArray, List.set_cons_zero, List.set_cons_succ]
    refine htake (i := 6) (v := ?v4) rfl (by kernel_rfl) (by kernel_rfl) (by kernel_rfl) (fun _ _ _ h => h) (Or.inl ⟨by rfl, ?hy4⟩) (by assumption) ?_
    case hy4 => (intro w hSw; (try dsimp only at hSw); go_simp; try (with_reducible rfl))
    try simp only [Act.put, List.setIfInBounds_toArray, List.set_cons_zero, List.set_cons_succ]
    refine htake (i := 7) (v := ?v5) rfl (by kernel_rfl) (by kernel_rfl) (by kernel_rfl) (fun _ _ _ h => h) (Or.inl ⟨by rfl, ?hy5⟩) (by assumption) ?_
    case hy5 => (intro w hSw; (try dsimp only at hSw); go_simp; try (with_reducible rfl))
    try simp only [Act.put, List.setIfInBounds_toArray, List.set_cons_zero, List.set_cons_succ]
    refine htake (i := 8) (v := ?v6) rfl (by kernel_rfl) (by kernel_rfl) (by kernel_rfl) (fun _ _ _ h => h) (Or.inl ⟨by rfl, ?hy6⟩) (by assumption) ?_
    case hy6 => (intro w hSw; (try dsimp only at hSw); go_simp; try (with_reducible rfl))
    try simp only [Act.put, List.setIfInBounds_toArray, List.set_cons_zero, List.set_cons_succ]
    refine wpAnyH_ready (rs := [3]) (by kernel_rfl) (by simp) ?_
    refine hcons rfl (fun K hK => ?_) (AllReadyH.nil)
    go_simp
    (with_reducible refine (takes_any s set _ ok hlt ?_ ?_).mono ?_); (exact HrV.out.next (Below.refl _ _).drew); (exact HeV.out.next (Below.refl _ _).drew); rintro e w2 ⟨g2, c2, rfl, hc2, hg2, hblk2, hb2⟩; have hk2 : Below V.heap.size V w2 := (Below.refl _ _).drew.trans hb2
    refine hK.out _ _ ?_ (fun hHeld => ?_)
    · (try dsimp only); exact (HX.out.next hk2).four
    clear hK K
    try simp only [Act.put, List.setIfInBounds_toArray, List.set_cons_zero, List.set_cons_succ]
    refine wpAnyH_ready (rs := [4]) (by kernel_rfl) (by simp) ?_
    refine hcons rfl (fun K hK => ?_) (AllReadyH.nil)
    go_simp
    (with_reducible refine (most42_any _).mono ?_); rintro e w3 ⟨rfl, hb3⟩; have hk3 := below_step hb3 hk2 (Nat.le_refl V.heap.size)
    refine hK.out _ _ ?_ (fun hHeld => ?_)
    · (try dsimp only); exact (HX.out.next hk3).four
    clear hK K
    try simp only [Act.put, List.setIfInBounds_toArray, List.set_cons_zero, List.set_cons_succ]
    refine wpAnyH_ready (rs := [5]) (by kernel_rfl) (by simp) ?_
    refine hcons rfl (fun K hK => ?_) (AllReadyH.nil)
    go_simp
    (with_reducible refine (lackMost_any s set g2 c2 _ ok ?_ ?_).mono ?_); (exact HrV.out.next hk3); (exact hblk2.next hb3); rintro e w4 ⟨g4, c4, rfl, hc4, hg4, hblk4, hb4⟩; have hk4 := below_step hb4 hk3 (Nat.le_refl V.heap.size)
    refine hK.out _ _ ?_ (fun hHeld => ?_)
    · (try dsimp only); exact (HX.out.next hk4).four
    clear hK K
    try simp only [Act.put, List.setIfInBounds_toArray, List.set_cons_zero, List.set_cons_succ]
    refine wpAnyH_ready (rs := [9]) (by kernel_rfl) (by simp) ?_
    refine hcons rfl (fun K hK => ?_) (AllReadyH.nil)
    go_simp
    (with_reducible refine (takes_any s set _ ok hlt ?_ ?_).mono ?_); (exact HrV.out.next hk4); (exact HeV.out.next hk4); rintro e w5 ⟨g5, c5, rfl, hc5, hg5, hblk5, hb5⟩; have hk5 := below_step hb5 hk4 (Nat.le_refl V.heap.size)
    refine hK.out _ _ ?_ (fun hHeld => ?_)
    · (try dsimp only); exact (HX.out.next hk5).four
    clear hK K
    try simp only [Act.put, List.setIfInBounds_toArray, List.set_cons_zero, List.set_cons_succ]
    refine wpAnyH_ready (rs := [10]) (by kernel_rfl) (by simp) ?_
    refine hcons rfl (fun K hK => ?_) (AllReadyH.nil)
    go_simp
    (with_reducible refine (few43_any _).mono ?_); rintro e w6 ⟨rfl, hb6⟩; have hk6 := below_step hb6 hk5 (Nat.le_refl V.heap.size)
    refine hK.out _ _ ?_ (fun hHeld => ?_)
    · (try dsimp only); exact (HX.out.next hk6).four
    clear hK K
    try simp only [Act.put, List.setIfInBounds_toArray, List.set_cons_zero, List.set_cons_succ]
    refine wpAnyH_ready (rs := [11]) (by kernel_rfl) (by simp) ?_
    refine hcons rfl (fun K hK => ?_) (AllReadyH.nil)
    go_simp
    (with_reducible refine (lackFew_any s set g5 c5 _ ok ?_ ?_).mono ?_); (exact HrV.out.next hk6); (exact hblk5.next hb6); rintro e w7 ⟨g7, c7, rfl, hc7, hg7, hblk7, hb7⟩; have hk7 := below_step hb7 hk6 (Nat.le_refl V.heap.size)
    refine hK.out _ _ ?_ (fun hHeld => ?_)
    · (try dsimp only); exact (HX.out.next hk7).four
    clear hK K
    try simp only [Act.put, List.setIfInBounds_toArray, List.set_cons_zero, List.set_cons_succ]
    refine htake (i := 12) (v := ?v7) rfl (by kernel_rfl) (by kernel_rfl) (by kernel_rfl) (fun _ _ _ h => h) (Or.inl ⟨by rfl, ?hy7⟩) (by assumption) ?_
    case hy7 => (intro w hSw; (try dsimp only at hSw); go_simp; try (with_reducible rfl))
    try simp only [Act.put, List.setIfInBounds_toArray, List.set_cons_zero, List.set_cons_succ]
    refine htake (i := 13) (v := ?v8) rfl (by kernel_rfl) (by kernel_rfl) (by kernel_rfl) (fun _ _ _ h => h) (Or.inl ⟨by rfl, ?hy8⟩) (by assumption) ?_
    case hy8 => (intro w hSw; (try dsimp only at hSw); go_simp; try (with_reducible rfl))
    try simp only [Act.put, List.setIfInBounds_toArray, List.set_cons_zero, List.set_cons_succ]
    refine wpAnyH_done (by kernel_rfl) ?_ _
    refine NoPanic.normal ?_
    iterate 15 (try clear hHeld)
    have HA := Lib.hid (((hblk4.next hb5).next hb6).next hb7)
    have HB := Lib.hid hblk7
    have H7 := Lib.hid (HV.out.trans (hk7.mono HV.out.size))
    clear hk2 hk3 hk4 hk5 hk6 hk7 hb2 hb3 hb4 hb5 hb6 hb7 hblk2 hblk4 hblk5 hblk7 S0 S1 S2 S3
    go_wp2
    go_loopw [4, 35] (fun v i wr => R19 s set w w7 v i wr) (fun _ i _ => s.sheets.length - (intOf i).toNat)
    case atStart => exact ⟨0, by omega, rfl, World.ownsRow_nil _ _ _ _, H7.out, Below.refl _ _⟩
    case round =>
      obtain ⟨n, hn, rfl, hown, hb, hb7⟩ := hrel
      by_cases hlt2 : n < s.sheets.length
      · have x0 := (HA.out.next hb7).cell n hlt2
        have x1 := (HB.out.next hb7).cell n hlt2
        have hz4 := (HA.out.next hb7).lt
        have hz7 := (HB.out.next hb7).lt
        have hr4 : u4.ownBlock ≠ some g4 := fun e => by have := (hown.lt _ e).1; have := HA.out.lt; omega
        have hr7 : u4.ownBlock ≠ some g7 := fun e => by have := (hown.lt _ e).1; have := HB.out.lt; omega
        have HKS := Lib.hid (show ∀ W, wr.grownBy W u4.ownBlock → (wr.grownBy W u4.ownBlock ∧ W.cell? ⟨g4, n, none⟩ = some (.int .i64 (lackS s set n (hiAt s n))) ∧ W.cell? ⟨g7, n, none⟩ = some (.int .i64 (lackS s set n (loAt s n)))) from fun W h =>
          ⟨h, (grown_cell h hz4 hr4 _).trans x0, (grown_cell h hz7 hr7 _).trans x1⟩)
        have Hown := Lib.hid hown
        have Hb := Lib.hid hb
        have Hb7 := Lib.hid hb7
        clear hown hb hb7 x0 x1 hr4 hr7
        have S0 := HKS.out wr (only_of_below (Below.refl _ _) _)
        go_wp2_with fail
        go_region_held3 (fun W => wr.grownBy W u4.ownBlock ∧ W.cell? ⟨g4, n, none⟩ = some (.int .i64 (lackS s set n (hiAt s n))) ∧ W.cell? ⟨g7, n, none⟩ = some (.int .i64 (lackS s set n (loAt s n))))
          (first | exact HKS.out _ (only_of_below (Below.refl _ _).drew _) | exact HKS.out _ (only_of_below ((Below.refl _ _).drew.alloc (Nat.le_refl _) _) _) | exact HKS.out _ hgA | assumption)
          (first
            | (refine step_append_lies _ rfl (.tmp 38) (.tmp 48) 38 rfl w7.heap.size 44 i0 (.agg #[.int .i64 0, .int .i64 0]) 2 16 Tryd.underlying38 hi hz0 hz1 hz2 rfl (by decide) u4 n (tab2V n (lacksS s set)) rfl ((own_below Hown.out (Below.refl _ _).drew).alloc _) ⟨wr.heap.size, 0, none⟩ 1 1 [.int .i64 (lackS s set n (hiAt s n)), .int .i64 (lackS s set n (loAt s n))] rfl rfl (cell_two_new _ _ _ _) (by simp [Value.oneCell']) (by omega) (by unfold maxLen; omega) (by omega) (by simp; have := Hb7.out.size; omega) _ rfl ?_; intro g cap w' hown' hgrow hgg hlt'; have hgA : wr.grownBy w' u4.ownBlock := grown_trans (only_of_below ((Below.refl _ _).drew.alloc (Nat.le_refl _) _) _) hgrow))
        have hown2 : w'.ownsRow w7.heap.size 44 2 (.slice (some ⟨g, 0, none⟩) (n + 1) cap) (n + 1) (tab2V (n + 1) (lacksS s set)) := by rw [tab2V_succ]; exact hown'
        have hrow := Hown.out.lt
        have hbb : Below w.heap.size w w' := Hb.out.grown hgA Hb.out.size (fun k hk => by have := (hrow k hk).1; have := H7.out.size; omega)
        have hbx : Below w7.heap.size w7 w' := Hb7.out.grown hgA Hb7.out.size (fun k hk => by have := hrow k hk; omega)
        clear hown' hgrow hgA hrow
        go_wp2
        all_goals (first | (refine ⟨?_, ?_⟩; (unfold R19; exact ⟨n + 1, by omega, by go_num, hown2, hbb, hbx⟩); (simp [intOf]; omega)) | (go_roundw; (case rel => (unfold R19; exact ⟨n + 1, by omega, by go_num, hown2, hbb, hbx⟩)); (case measure => (simp [intOf]; omega))) | (go_round; (case rel => (unfold R19; exact ⟨n + 1, by omega, by go_num, hown2, hbb, hbx⟩)); (case measure => (simp [intOf]; omega))))
      · have e : n = s.sheets.length := by omega
        go_wp2
        go_ret2
        subst e
        rw [He.out]
        exact ret_l2 hown hb
  · have He := Lib.hid (show RetL2 (lenIf (acceptedS s st) s.sheets.length) (lacksS s st.toNat) (acceptedS s st) w = RetL2 0 (lacksS s st.toNat) (acceptedS s st) w by rw [lenIf, if_neg hc])
    have hc' : (acceptedS s st != 0) = true := by simpa using hc
    by_cases hk : checkS s st = 0
    all_goals
      first | rw [openB_yes hk] | rw [openB_no hk]
      clear hk
      go_wp2
      go_ret2
      rw [He.out]
      exact ret_l2_none (Hbb.out.alloc Hbb.out.size _)
end Go.Proofs.YtfffhbolaimmdaaDoor
