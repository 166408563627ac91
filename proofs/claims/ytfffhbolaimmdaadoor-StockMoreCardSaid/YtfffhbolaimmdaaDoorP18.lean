import Derived.Test.YtfffhbolaimmdaaDoorP17
namespace Go.Proofs.YtfffhbolaimmdaaDoor
open Go.RowKit
theorem sum_zero {n : Nat} {f : Nat → Int} (h : ∀ k, k < n → 0 ≤ f k) : (sumTo n f == 0) = (tab n f).all fun x => x == 0 := by
  induction n with
  | zero => rfl
  | succ n ih =>
    have h0 := (sumTo_bd (n := n) (f := f) (lo := 0) (hi := sumTo n f + 0) (fun i hi => ⟨h i (by omega), by
      have : ∀ m, i < m → m ≤ n → f i ≤ sumTo m f := by
        intro m
        induction m with
        | zero => omega
        | succ m ih2 =>
          intro h1 h2
          have e := sumTo_split m f
          have hm := h m (by omega)
          by_cases he : i = m
          · subst he
            have : 0 ≤ sumTo i f := by
              have := (sumTo_bd (n := i) (f := f) (lo := 0) (hi := 0) )
              clear this
              have aux : ∀ q, q ≤ i → 0 ≤ sumTo q f := by
                intro q
                induction q with
                | zero => intro _; exact Int.le_refl _
                | succ q ih3 => intro hq; rw [sumTo_split]; have := ih3 (by omega); have := h q (by omega); omega
              exact aux i (Nat.le_refl _)
            omega
          · have := ih2 (by omega) (by omega)
            omega
      have := this n hi (Nat.le_refl _)
      omega⟩)).1
    have h1 := h n (by omega)
    have ih' := ih (fun k hk => h k (by omega))
    have e : (tab (n + 1) f).all (fun x => x == 0) = ((tab n f).all (fun x => x == 0) && f n == 0) := by simp [tab, List.range_succ]
    rw [e, ← ih', sumTo_split, Bool.eq_iff_iff]
    simp
    omega
theorem lack_sum_bd {s : Store} (ok : Ok s) (set : Nat) {f : Nat → Int} (hf : ∀ k, k < s.sheets.length → 0 ≤ f k) (k : Nat) (hk : k < s.sheets.length) : -1000000000000 ≤ lackS s set k (f k) ∧ lackS s set k (f k) ≤ 1000000000000 := by
  have := lackS_bd ok set k (hf k hk); omega
theorem surely_sum {s : Store} (ok : Ok s) (set : Nat) : (sumTo s.sheets.length (fun k => lackS s set k (loAt s k)) == 0) = surelyTo s set s.sheets.length := sum_zero fun k hk => (lackS_bd ok set k (loAt_bd ok hk).1).1
theorem can_sum {s : Store} (ok : Ok s) (set : Nat) : (sumTo s.sheets.length (fun k => lackS s set k (hiAt s k)) == 0) = canTo s set s.sheets.length := sum_zero fun k hk => (lackS_bd ok set k (hiAt_bd ok hk).1).1
set_option maxHeartbeats 1000000 in
set_option maxRecDepth 100000 in
theorem Covered21_any (s : Store) (st : Int) (w : World) (hr : StoreAt w w.heap.size s) (he : Env w) :
    Calls Tryd.prog 21 #[.agg #[.slice s.A1 s.sheets.length s.c1, .slice s.A2 s.lics.length s.c2, .slice s.A3 s.makes.length s.c3, .slice s.A4 s.wishes.length s.c4], .int .i64 st] w (Ret3 (.bool (surelyS s st)) (.bool (canS s st)) (.int .i64 (acceptedS s st)) w) := by
  have hb0 := (Below.refl w.heap.size w).alloc (Nat.le_refl _) (.cells #[.slice s.A1 s.sheets.length s.c1, .slice s.A2 s.lics.length s.c2, .slice s.A3 s.makes.length s.c3, .slice s.A4 s.wishes.length s.c4] 27)
  have hr' := Lib.hid (hr.next hb0)
  have he' := Lib.hid (he.next hb0)
  have HR := Lib.hid hr
  have HE := Lib.hid he
  have hbb := Lib.hid hb0
  clear hr he hb0
  go_enter Tryd.func21, Tryd.ntmps21
  go_wp2_with fail
  refine (open_any s st true _ hr'.out he'.out).mono ?_
  rintro e w1 ⟨rfl, hb1⟩
  rw [openE_true, openR_true]
  have Hbb := Lib.hid (hbb.out.trans (hb1.mono hbb.out.size))
  clear hb1 hr' he' hbb
  generalize mayS s st = mm
  by_cases hc : acceptedS s st = 0
  · obtain ⟨ok, h0, h1⟩ := accepted_ok (.inl hc)
    obtain ⟨set, rfl⟩ := Int.eq_ofNat_of_zero_le h0
    have hlt := set_lt h1
    have h3 := ok.ns
    have He := Lib.hid (show Ret3 (.bool (surelyS s (set : Int))) (.bool (canS s (set : Int))) (.int .i64 (acceptedS s (set : Int))) w = Ret3 (.bool (surelyTo s set s.sheets.length)) (.bool (canTo s set s.sheets.length)) (.int .i64 0) w by simp [surelyS, canS, hc])
    have hcc : checkS s set = 0 := by
      by_cases h : checkS s set = 0
      · exact h
      · unfold acceptedS at hc; rw [if_neg h] at hc; exact hc
    rw [openB_yes hcc]
    simp only [hc]
    clear hc hcc
    go_wp2_with fail
    have hx := SBox.new w1 s 72
    have hbW := Hbb.out.alloc Hbb.out.size (.cells #[.slice s.A1 s.sheets.length s.c1, .slice s.A2 s.lics.length s.c2, .slice s.A3 s.makes.length s.c3, .slice s.A4 s.wishes.length s.c4] 72)
    generalize w1.alloc (.cells #[.slice s.A1 s.sheets.length s.c1, .slice s.A2 s.lics.length s.c2, .slice s.A3 s.makes.length s.c3, .slice s.A4 s.wishes.length s.c4] 72) = W at *
    refine (takes_any s set _ ok hlt ((HR.out.below hbW).more hbW.size) (HE.out.next hbW)).mono ?_
    rintro e V ⟨g2, c2, rfl, hc2, hg2, hblk2, hb2⟩
    have HX := Lib.hid (hx.next hb2)
    have hbV := hbW.trans (hb2.mono hbW.size)
    have HV := Lib.hid hbV
    have HrV := Lib.hid ((HR.out.below hbV).more hbV.size)
    have Hblk := Lib.hid hblk2
    clear hx hbW hb2 hbV hblk2
    obtain ⟨-, S0, S1, S2, S3⟩ := HX.out
    go_wp2_with fail
    have HbF := Lib.hid (lack_sum_bd ok set (f := loAt s) (fun k hk => (loAt_bd ok hk).1))
    have HbM := Lib.hid (lack_sum_bd ok set (f := hiAt s) (fun k hk => (hiAt_bd ok hk).1))
    have ES := Lib.hid (surely_sum ok set)
    have EC := Lib.hid (can_sum ok set)
    refine wp_region_noPanic ?_
    refine wp_region_held_drew (S := (fun W => W.cell? ⟨w1.heap.size, 0, none⟩ = some (.slice s.A1 s.sheets.length s.c1) ∧ W.cell? ⟨w1.heap.size, 1, none⟩ = some (.slice s.A2 s.lics.length s.c2) ∧ W.cell? ⟨w1.heap.size, 2, none⟩ = some (.slice s.A3 s.makes.length s.c3) ∧ W.cell? ⟨w1.heap.size, 3, none⟩ = some (.slice s.A4 s.wishes.length s.c4))) (by kernel_rfl) ?_ (fun hHeld => ?_)
    · (try dsimp only); exact HX.out.drew.four
    refine htake (i := 0) (v := ?v1) rfl (by kernel_rfl) (by kernel_rfl) (by kernel_rfl) (fun _ _ _ h => h) (Or.inl ⟨by rfl, ?hy1⟩) (by assumption) ?_
    case hy1 => (intro w hSw; (try dsimp only at hSw); go_simp; try (with_reducible rfl))
    try simp only [Act.put, List.setIfInBounds_toArray, List.set_cons_zero, List.set_cons_succ]
    refine htake (i := 1) (v := ?v2) rfl (by kernel_rfl) (by kernel_rfl) (by kernel_rfl) (fun _ _ _ h => h) (Or.inl ⟨by rfl, ?hy2⟩) (by assumption) ?_
    case hy2 => (intro w hSw; (try dsimp only at hSw); go_simp; try (with_reducible rfl))
    try simp only [Act.put, List.setIfInBounds_toArray, List.set_cons_zero, List.set_cons_succ]
    refine htake (i := 6) (v := ?v3) rfl (by kernel_rfl) (by kernel_rfl) (by kernel_rfl) (fun _ _ _ h => h) (Or.inl ⟨by rfl, ?hy3⟩) (by assumption) ?_
    case hy3 => (intro w hSw; (try dsimp only at hSw); go_simp; try (with_reducible rfl))
    try simp only [Act.put, List.setIfInBounds_toArray, List.set_cons_zero, List.set_cons_succ]
    refine htake (i := 7) (v := ?v4) rfl (by kernel_rfl) (by kernel_rfl) (by kernel_rfl) (fun _ _ _ h => h) (Or.inl ⟨by rfl, ?hy4⟩) (by assumption) ?_
    case hy4 => (intro w hSw; (try dsimp only at hSw); go_simp; try (with_reducible rfl))
    try simp only [Act.put, List.setIfInBounds_toArray, List.set_cons_zero, List.set_cons_succ]
    refine wpAnyH_ready (rs := [2]) (by kernel_rfl) (by simp) ?_
    refine hcons rfl (fun K hK => ?_) (AllReadyH.nil)
    go_simp
    (with_reducible refine (few43_any _).mono ?_); rintro e w3 ⟨rfl, hb3⟩; have hk3 : Below V.heap.size V w3 := (Below.refl _ _).drew.trans hb3
    refine hK.out _ _ ?_ (fun hHeld => ?_)
    · (try dsimp only); exact (HX.out.next hk3).four
    clear hK K
    try simp only [Act.put, List.setIfInBounds_toArray, List.set_cons_zero, List.set_cons_succ]
    refine wpAnyH_ready (rs := [3]) (by kernel_rfl) (by simp) ?_
    refine hcons rfl (fun K hK => ?_) (AllReadyH.nil)
    go_simp
    (with_reducible refine (lackFew_any s set g2 c2 _ ok ?_ ?_).mono ?_); (exact HrV.out.next hk3); (exact Hblk.out.next hk3); rintro e w4 ⟨g4, c4, rfl, hc4, hg4, hblk4, hb4⟩; have hk4 := below_step hb4 hk3 (Nat.le_refl V.heap.size); have Hblk4 := Lib.hid hblk4; clear hblk4
    refine hK.out _ _ ?_ (fun hHeld => ?_)
    · (try dsimp only); exact (HX.out.next hk4).four
    clear hK K
    try simp only [Act.put, List.setIfInBounds_toArray, List.set_cons_zero, List.set_cons_succ]
    refine wpAnyH_ready (rs := [4]) (by kernel_rfl) (by simp) ?_
    refine hcons rfl (fun K hK => ?_) (AllReadyH.nil)
    go_simp
    (with_reducible refine (sum_any (some ⟨g4, 0, none⟩) c4 s.sheets.length _ (fun k => lackS s set k (loAt s k)) _ (by omega) Hblk4.out.at_ HbF.out).mono ?_); rintro e w5 ⟨rfl, hb5⟩; have hk5 : Below V.heap.size V w5 := hb5 ▸ hk4; clear hb5
    refine hK.out _ _ ?_ (fun hHeld => ?_)
    · (try dsimp only); exact (HX.out.next hk5).four
    clear hK K
    try simp only [Act.put, List.setIfInBounds_toArray, List.set_cons_zero, List.set_cons_succ]
    refine htake (i := 5) (v := ?v5) rfl (by kernel_rfl) (by kernel_rfl) (by kernel_rfl) (fun _ _ _ h => h) (Or.inl ⟨by rfl, ?hy5⟩) (by assumption) ?_
    case hy5 => (intro w hSw; (try dsimp only at hSw); go_simp; try (with_reducible rfl))
    try simp only [Act.put, List.setIfInBounds_toArray, List.set_cons_zero, List.set_cons_succ]
    refine wpAnyH_ready (rs := [8]) (by kernel_rfl) (by simp) ?_
    refine hcons rfl (fun K hK => ?_) (AllReadyH.nil)
    go_simp
    (with_reducible refine (most42_any _).mono ?_); rintro e w6 ⟨rfl, hb6⟩; have hk6 := below_step hb6 hk5 (Nat.le_refl V.heap.size)
    refine hK.out _ _ ?_ (fun hHeld => ?_)
    · (try dsimp only); exact (HX.out.next hk6).four
    clear hK K
    try simp only [Act.put, List.setIfInBounds_toArray, List.set_cons_zero, List.set_cons_succ]
    refine wpAnyH_ready (rs := [9]) (by kernel_rfl) (by simp) ?_
    refine hcons rfl (fun K hK => ?_) (AllReadyH.nil)
    go_simp
    (with_reducible refine (lackMost_any s set g2 c2 _ ok ?_ ?_).mono ?_); (exact HrV.out.next hk6); (exact Hblk.out.next hk6); rintro e w7 ⟨g7, c7, rfl, hc7, hg7, hblk7, hb7⟩; have hk7 := below_step hb7 hk6 (Nat.le_refl V.heap.size); have Hblk7 := Lib.hid hblk7; clear hblk7
    refine hK.out _ _ ?_ (fun hHeld => ?_)
    · (try dsimp only); exact (HX.out.next hk7).four
    clear hK K
    try simp only [Act.put, List.setIfInBounds_toArray, List.set_cons_zero, List.set_cons_succ]
    refine wpAnyH_ready (rs := [10]) (by kernel_rfl) (by simp) ?_
    refine hcons rfl (fun K hK => ?_) (AllReadyH.nil)
    go_simp
    (with_reducible refine (sum_any (some ⟨g7, 0, none⟩) c7 s.sheets.length _ (fun k => lackS s set k (hiAt s k)) _ (by omega) Hblk7.out.at_ HbM.out).mono ?_); rintro e w8 ⟨rfl, hb8⟩; have hk8 : Below V.heap.size V w8 := hb8 ▸ hk7; clear hb8
    refine hK.out _ _ ?_ (fun hHeld => ?_)
    · (try dsimp only); exact (HX.out.next hk8).four
    clear hK K
    try simp only [Act.put, List.setIfInBounds_toArray, List.set_cons_zero, List.set_cons_succ]
    refine htake (i := 11) (v := ?v6) rfl (by kernel_rfl) (by kernel_rfl) (by kernel_rfl) (fun _ _ _ h => h) (Or.inl ⟨by rfl, ?hy6⟩) (by assumption) ?_
    case hy6 => (intro w hSw; (try dsimp only at hSw); go_simp; try (with_reducible rfl))
    try simp only [Act.put, List.setIfInBounds_toArray, List.set_cons_zero, List.set_cons_succ]
    refine htake (i := 12) (v := ?v7) rfl (by kernel_rfl) (by kernel_rfl) (by kernel_rfl) (fun _ _ _ h => h) (Or.inl ⟨by rfl, ?hy7⟩) (by assumption) ?_
    case hy7 => (intro w hSw; (try dsimp only at hSw); go_simp; try (with_reducible rfl))
    try simp only [Act.put, List.setIfInBounds_toArray, List.set_cons_zero, List.set_cons_succ]
    refine htake (i := 13) (v := ?v8) rfl (by kernel_rfl) (by kernel_rfl) (by kernel_rfl) (fun _ _ _ h => h) (Or.inl ⟨by rfl, ?hy8⟩) (by assumption) ?_
    case hy8 => (intro w hSw; (try dsimp only at hSw); go_simp; try (with_reducible rfl))
    try simp only [Act.put, List.setIfInBounds_toArray, List.set_cons_zero, List.set_cons_succ]
    refine htake (i := 14) (v := ?v9) rfl (by kernel_rfl) (by kernel_rfl) (by kernel_rfl) (fun _ _ _ h => h) (Or.inl ⟨by rfl, ?hy9⟩) (by assumption) ?_
    case hy9 => (intro w hSw; (try dsimp only at hSw); go_simp; try (with_reducible rfl))
    try simp only [Act.put, List.setIfInBounds_toArray, List.set_cons_zero, List.set_cons_succ]
    refine wpAnyH_done (by kernel_rfl) ?_ _
    refine NoPanic.normal ?_
    iterate 16 (try clear hHeld)
    have H8 := Lib.hid (HV.out.trans (hk8.mono HV.out.size))
    clear hk3 hk4 hk5 hk6 hk7 hk8 S0 S1 S2 S3
    go_wp2
    go_ret3
    rw [He.out, ← ES.out, ← EC.out]
    exact ⟨rfl, H8.out⟩
  · have He := Lib.hid (show Ret3 (.bool (surelyS s st)) (.bool (canS s st)) (.int .i64 (acceptedS s st)) w = Ret3 (.bool false) (.bool false) (.int .i64 (acceptedS s st)) w by simp [surelyS, canS, hc])
    have hc' : (acceptedS s st != 0) = true := by simpa using hc
    by_cases hk : checkS s st = 0
    all_goals
      first | rw [openB_yes hk] | rw [openB_no hk]
      clear hk
      go_wp2
      go_ret3
      rw [He.out]
      exact ⟨rfl, Hbb.out.alloc Hbb.out.size _⟩
end Go.Proofs.YtfffhbolaimmdaaDoor
