import Derived.Test.YtonnemkecppmiaaGreatDoorP8
namespace Go.Proofs.YtonnemkecppmiaaGreatDoor
open Go.RowKit
/-! The program: the check of a log. -/
def badWo (x : Wo) : Bool := !okWo x
def RetIdx {α : Type} (l : List α) (p : α → Bool) (w : World) (e : Ending) (w' : World) : Prop := ∃ r : Int, e = .returned (.int .i64 r) ∧ decide (0 ≤ r) = l.any p ∧ Below w.heap.size w w'
theorem any_false {α : Type} {l : List α} {p : α → Bool} (h : l.all (fun x => !p x) = true) : l.any p = false := by
  rw [List.any_eq_false]
  intro x hx e
  have := List.all_eq_true.1 h x hx
  simp [e] at this
set_option maxRecDepth 100000 in
set_option maxHeartbeats 2000000 in
theorem badWo_any (x : Wo) (w : World) : Calls Tryz.prog 95 #[.agg #[.int .i64 x.team, .int .i64 x.minute, .int .i64 x.got.lo, .int .i64 x.got.hi]] w (Ret (.bool (badWo x)) w) := by
  have hn := nxA w (.cells #[.int .i64 x.team, .int .i64 x.minute, .int .i64 x.got.lo, .int .i64 x.got.hi] 66)
  have HB := Lib.hid hn
  have HOK := Lib.hid (show badWo x = !(inP x.team 0 7 && (inP x.minute 0 2000 && okSp x.got 0 10000)) from rfl)
  clear hn
  go_enter Tryz.func95, Tryz.ntmps95
  cases h1 : inP x.team 0 7
  · go_wp2_with (go_at_call 71; (with_reducible refine (within_any _ _ _ _).mono ?_); rintro e w' ⟨rfl, rfl⟩)
    go_ret
    exact ret_bool (by rw [HOK.out, h1]; rfl) HB.out
  · cases h2 : inP x.minute 0 2000
    · go_wp2_with (go_at_call 71; (with_reducible refine (within_any _ _ _ _).mono ?_); rintro e w' ⟨rfl, rfl⟩)
      go_ret
      exact ret_bool (by rw [HOK.out, h1, h2]; rfl) HB.out
    · go_wp2_with (go_at_call 71; (with_reducible refine (within_any _ _ _ _).mono ?_); rintro e w' ⟨rfl, rfl⟩)
      refine (isSpan_any x.got 0 10000 _).mono ?_
      rintro e V ⟨rfl, hb⟩
      have HB2 := Lib.hid (HB.out.trans (hb.mono HB.out.size))
      clear hb
      cases h3 : okSp x.got 0 10000
      · go_wp2_with fail
        go_ret
        exact ret_bool (by rw [HOK.out, h1, h2, h3]; rfl) HB2.out
      · go_wp2_with fail
        go_ret
        exact ret_bool (by rw [HOK.out, h1, h2, h3]; rfl) HB2.out
theorem any_bad : ∀ l : List Wo, l.any badWo = !l.all okWo
  | [] => rfl
  | x :: l => by rw [List.any_cons, List.all_cons, Bool.not_and, any_bad l]; rfl
def RWo (l : List Wo) (p : Wo → Bool) (w0 : World) (i : Value) (w : World) : Prop := ∃ k : Nat, k ≤ l.length ∧ i = .int .i64 k ∧ Below w0.heap.size w0 w ∧ (l.take k).all (fun x => !p x) = true
set_option maxHeartbeats 400000 in
theorem indexWo_any (A : Option Addr) (c : Nat) (l : List Wo) (w : World) (h : At w w.heap.size 4 Wo.cells A l) (hl : l.length ≤ 9223372036854775807) :
    Calls Tryz.prog 114 #[.slice A l.length c, .func (.func 95) #[] #[]] w (RetIdx l badWo w) := by
  go_enter Tryz.func114, Tryz.ntmps114
  go_wp2
  go_loopw [8] (fun i wr => RWo l badWo w i wr) (fun i _ => l.length - (intOf i).toNat)
  case atStart => exact ⟨0, by omega, rfl, Below.refl _ _, rfl⟩
  case round =>
    obtain ⟨k, hk, rfl, hb, hall⟩ := hrel
    by_cases hlt : k < l.length
    · obtain ⟨b, off, rfl, hbk, hcs⟩ := h.below hb k l[k] (List.getElem?_eq_getElem hlt)
      have h0 := hcs 0 _ rfl
      have h1 := hcs 1 _ rfl
      have h2 := hcs 2 _ rfl
      have h3 := hcs 3 _ rfl
      simp only [Nat.add_zero] at h0
      have Hb := Lib.hid hb
      have Ha := Lib.hid (all_step (p := fun x => !badWo x) hlt hall)
      have Hf := Lib.hid (show badWo l[k] = true → l.any badWo = true from fun e => List.any_eq_true.2 ⟨_, List.getElem_mem hlt, e⟩)
      generalize l[k] = x at *
      clear hall h hcs hb
      go_wp2_with fail
      refine (badWo_any x wr).mono ?_
      rintro e w1 ⟨rfl, hb1⟩
      have hbw := Lib.hid (Hb.out.trans (hb1.mono Hb.out.size))
      generalize hq : badWo x = q
      rw [hq] at Ha Hf
      clear hb1
      cases q
      · go_wp2
        all_goals (first | (refine ⟨?_, ?_⟩; (unfold RWo; exact ⟨k + 1, by omega, by go_num, hbw.out, Ha.out (by simp)⟩); (simp [intOf]; omega)) | (go_roundw; (case rel => (unfold RWo; exact ⟨k + 1, by omega, by go_num, hbw.out, Ha.out (by simp)⟩)); (case measure => (simp [intOf]; omega))) | (go_round; (case rel => (unfold RWo; exact ⟨k + 1, by omega, by go_num, hbw.out, Ha.out (by simp)⟩)); (case measure => (simp [intOf]; omega))))
      · go_wp2
        go_ret
        exact ⟨_, rfl, by rw [Hf.out (by simp)]; simp, hbw.out⟩
    · have e := all_full hlt hall
      go_wp2
      go_ret
      refine ⟨_, rfl, ?_, hb⟩
      rw [show l.any badWo = false from any_false e]
      simp
set_option maxHeartbeats 400000 in
theorem containsWo_any (A : Option Addr) (c : Nat) (l : List Wo) (w : World) (h : At w w.heap.size 4 Wo.cells A l) (hl : l.length ≤ 9223372036854775807) :
    Calls Tryz.prog 96 #[.slice A l.length c, .func (.func 95) #[] #[]] w (Ret (.bool (l.any badWo)) w) := by
  go_enter Tryz.func96, Tryz.ntmps96
  go_wp2_with fail
  refine (indexWo_any  _ _ _ _ h hl).mono ?_
  rintro e w1 ⟨r, rfl, hr, hb1⟩
  have Hb := Lib.hid hb1
  have Hr := Lib.hid hr
  clear hb1 hr
  by_cases h0 : 0 ≤ r
  · go_wp2
    go_ret
    exact ret_bool (by rw [← Hr.out]; first | done | simp [h0]) Hb.out
  · go_wp2
    go_ret
    exact ret_bool (by rw [← Hr.out]; first | done | simp [h0]) Hb.out
set_option maxHeartbeats 400000 in
theorem cmp_any (x y : Wo) (w : World) (hx : 0 ≤ x.minute ∧ x.minute ≤ 2000) (hy : 0 ≤ y.minute ∧ y.minute ≤ 2000) : Calls Tryz.prog 98 #[.agg #[.int .i64 x.team, .int .i64 x.minute, .int .i64 x.got.lo, .int .i64 x.got.hi], .agg #[.int .i64 y.team, .int .i64 y.minute, .int .i64 y.got.lo, .int .i64 y.got.hi]] w (Ret (.int .i64 (x.minute - y.minute)) w) := by
  have n1 := nxA w (.cells #[.int .i64 x.team, .int .i64 x.minute, .int .i64 x.got.lo, .int .i64 x.got.hi] 66)
  have n2 := nxA (w.alloc (.cells #[.int .i64 x.team, .int .i64 x.minute, .int .i64 x.got.lo, .int .i64 x.got.hi] 66)) (.cells #[.int .i64 y.team, .int .i64 y.minute, .int .i64 y.got.lo, .int .i64 y.got.hi] 66)
  have HB := Lib.hid (n1.trans (n2.mono n1.size))
  clear n1 n2
  have hw : IntKind.i64.wrap (x.minute - y.minute) = x.minute - y.minute := IntWalk.i64_in _ (by omega)
  go_enter Tryz.func98, Tryz.ntmps98
  go_wp2
  go_ret
  exact ret_int rfl HB.out
/-- From the last but k on nothing comes after a greater one. -/
theorem sort_drop : ∀ {l : List Wo}, sortW l = true ↔ ∀ k, k + 1 < l.length → (l.getD k wo0).minute ≤ (l.getD (k + 1) wo0).minute
  | [] => ⟨fun _ k hk => absurd hk (by simp), fun _ => rfl⟩
  | [x] => ⟨fun _ k hk => absurd hk (by simp), fun _ => rfl⟩
  | x :: y :: l => by
    show (decide (x.minute ≤ y.minute) && sortW (y :: l)) = true ↔ _
    rw [Bool.and_eq_true, decide_eq_true_eq, sort_drop (l := y :: l)]
    constructor
    · rintro ⟨h1, h2⟩ k hk
      rcases k with _ | k
      · exact h1
      · exact h2 k (by simp at hk ⊢; omega)
    · intro h
      exact ⟨h 0 (by simp), fun k hk => h (k + 1) (by simp at hk ⊢; omega)⟩
def RSo (l : List Wo) (w0 : World) (i : Value) (w : World) : Prop := ∃ k : Nat, (k < l.length ∨ (k = 0 ∧ l.length = 0)) ∧ i = .int .i64 ((k : Int) - (if l.length = 0 then 1 else 0)) ∧ Below w0.heap.size w0 w ∧ ∀ j, k ≤ j → j + 1 < l.length → (l.getD j wo0).minute ≤ (l.getD (j + 1) wo0).minute
set_option maxRecDepth 100000 in
set_option maxHeartbeats 2000000 in
theorem sorted_any (A : Option Addr) (c : Nat) (l : List Wo) (w : World) (h : At w w.heap.size 4 Wo.cells A l) (hl : l.length ≤ 40) (hok : l.all okWo = true) :
    Calls Tryz.prog 97 #[.slice A l.length c, .func (.func 98) #[] #[]] w (Ret (.bool (sortW l)) w) := by
  have HL := Lib.hid h
  have HO := Lib.hid hok
  clear h hok
  go_enter Tryz.func97, Tryz.ntmps97
  have hw1 : IntKind.i64.wrap ((l.length : Int) - 1) = (l.length : Int) - 1 := IntWalk.i64_in _ (by omega)
  go_wp2
  go_loopw [5] (fun i wr => RSo l w i wr) (fun i _ => (intOf i).toNat)
  case atStart => exact ⟨l.length - 1, by omega, by split <;> (congr 1; omega), Below.refl _ _, fun j h1 h2 => absurd h2 (by omega)⟩
  case round =>
    obtain ⟨k, hk, rfl, hb, hall⟩ := hrel
    have HB := Lib.hid hb
    have HA := Lib.hid hall
    clear hb hall
    by_cases hlt : 0 < k
    · have hk1 : k < l.length := by omega
      have hne : ¬ l.length = 0 := by omega
      rw [if_neg hne] 
      rw [Int.sub_zero]
      obtain ⟨b, off, hA, hbk, hcs⟩ := HL.out.below HB.out k l[k] (List.getElem?_eq_getElem hk1)
      obtain ⟨b', off', hA', hbk', hcs'⟩ := HL.out.below HB.out (k - 1) (l[k - 1]'(by omega)) (List.getElem?_eq_getElem (by omega))
      rw [hA] at hA'
      injection hA' with hA'
      injection hA' with e1 e2 _
      subst e1
      subst e2
      have g0 := hcs 0 _ rfl
      have g1 := hcs 1 _ rfl
      have g2 := hcs 2 _ rfl
      have g3 := hcs 3 _ rfl
      have q0 := hcs' 0 _ rfl
      have q1 := hcs' 1 _ rfl
      have q2 := hcs' 2 _ rfl
      have q3 := hcs' 3 _ rfl
      simp only [Nat.add_zero] at g0 q0
      have okx := List.all_eq_true.1 HO.out _ (List.getElem_mem hk1)
      have oky := List.all_eq_true.1 HO.out _ (List.getElem_mem (show k - 1 < l.length by omega))
      have mx : 0 ≤ l[k].minute ∧ l[k].minute ≤ 2000 := by
        unfold okWo at okx; simp only [Bool.and_eq_true, inP_iff] at okx; exact okx.2.1
      have my : 0 ≤ l[k - 1].minute ∧ l[k - 1].minute ≤ 2000 := by
        unfold okWo at oky; simp only [Bool.and_eq_true, inP_iff] at oky; exact oky.2.1
      have HX := Lib.hid (show l.getD k wo0 = l[k] by rw [List.getD_eq_getElem?_getD, List.getElem?_eq_getElem hk1]; rfl)
      have HY := Lib.hid (show l.getD (k - 1) wo0 = l[k - 1] by rw [List.getD_eq_getElem?_getD, List.getElem?_eq_getElem (show k - 1 < l.length by omega)]; rfl)
      generalize l[k] = x at *
      generalize l[k - 1] = y at *
      clear hcs hcs' okx oky
      have HCM := Lib.hid (fun W => cmp_any x y W mx my)
      clear mx my
      have hwk : IntKind.i64.wrap ((k : Int) - 1) = ((k - 1 : Nat) : Int) := by rw [IntWalk.i64_in _ (by omega)]; omega
      subst hA
      go_upto_region 4 with fail
      have HS := Lib.hid (show ∀ W : World, Below wr.heap.size wr W → (W.cell? ⟨b, off + k * 4, none⟩ = some (.int .i64 x.team) ∧ W.cell? ⟨b, off + k * 4 + 1, none⟩ = some (.int .i64 x.minute) ∧ W.cell? ⟨b, off + k * 4 + 2, none⟩ = some (.int .i64 x.got.lo) ∧ W.cell? ⟨b, off + k * 4 + 3, none⟩ = some (.int .i64 x.got.hi) ∧ W.cell? ⟨b, off + (k - 1) * 4, none⟩ = some (.int .i64 y.team) ∧ W.cell? ⟨b, off + (k - 1) * 4 + 1, none⟩ = some (.int .i64 y.minute) ∧ W.cell? ⟨b, off + (k - 1) * 4 + 2, none⟩ = some (.int .i64 y.got.lo) ∧ W.cell? ⟨b, off + (k - 1) * 4 + 3, none⟩ = some (.int .i64 y.got.hi)) from fun W hb => by
        have hbs := Nat.lt_of_lt_of_le hbk HB.out.size
        have hc := fun o => hb.cell (p := ⟨b, o, none⟩) hbs
        exact ⟨(hc _).trans g0, (hc _).trans g1, (hc _).trans g2, (hc _).trans g3, (hc _).trans q0, (hc _).trans q1, (hc _).trans q2, (hc _).trans q3⟩)
      clear g0 g1 g2 g3 q0 q1 q2 q3
      have hk2 : k - 1 < l.length := by omega
      refine wp_region_noPanic ?_
      refine wp_region_held_drew (S := (fun W => W.cell? ⟨b, off + k * 4, none⟩ = some (.int .i64 x.team) ∧ W.cell? ⟨b, off + k * 4 + 1, none⟩ = some (.int .i64 x.minute) ∧ W.cell? ⟨b, off + k * 4 + 2, none⟩ = some (.int .i64 x.got.lo) ∧ W.cell? ⟨b, off + k * 4 + 3, none⟩ = some (.int .i64 x.got.hi) ∧ W.cell? ⟨b, off + (k - 1) * 4, none⟩ = some (.int .i64 y.team) ∧ W.cell? ⟨b, off + (k - 1) * 4 + 1, none⟩ = some (.int .i64 y.minute) ∧ W.cell? ⟨b, off + (k - 1) * 4 + 2, none⟩ = some (.int .i64 y.got.lo) ∧ W.cell? ⟨b, off + (k - 1) * 4 + 3, none⟩ = some (.int .i64 y.got.hi))) (by kernel_rfl) ?_ (fun hHeld => ?_)
      · (try dsimp only); exact HS.out _ (Below.refl _ _).drew
      refine htake (i := 0) (v := ?v1) rfl (by kernel_rfl) (by kernel_rfl) (by kernel_rfl) (fun _ _ _ h => h) (Or.inl ⟨by rfl, ?hy1⟩) (by assumption) ?_
      case hy1 => (intro w hSw; (try dsimp only at hSw); go_simp; try (with_reducible rfl))
      try simp only [Act.put, List.setIfInBounds_toArray, List.set_cons_zero, List.set_cons_succ]
      refine htake (i := 1) (v := ?v2) rfl (by kernel_rfl) (by kernel_rfl) (by kernel_rfl) (fun _ _ _ h => h) (Or.inl ⟨by rfl, ?hy2⟩) (by assumption) ?_
      case hy2 => (intro w hSw; (try dsimp only at hSw); go_simp; try (with_reducible rfl))
      try simp only [Act.put, List.setIfInBounds_toArray, List.set_cons_zero, List.set_cons_succ]
      refine htake (i := 2) (v := ?v3) rfl (by kernel_rfl) (by kernel_rfl) (by kernel_rfl) (fun _ _ _ h => h) (Or.inl ⟨by rfl, ?hy3⟩) (by assumption) ?_
      case hy3 => (intro w hSw; (try dsimp only at hSw); go_simp; try (with_reducible rfl))
      try simp only [Act.put, List.setIfInBounds_toArray, List.set_cons_zero, List.set_cons_succ]
      refine htake (i := 3) (v := ?v4) rfl (by kernel_rfl) (by kernel_rfl) (by kernel_rfl) (fun _ _ _ h => h) (Or.inl ⟨by rfl, ?hy4⟩) (by assumption) ?_
      case hy4 => (intro w hSw; (try dsimp only at hSw); go_simp; try (with_reducible rfl))
      try simp only [Act.put, List.setIfInBounds_toArray, List.set_cons_zero, List.set_cons_succ]
      refine htake (i := 4) (v := ?v5) rfl (by kernel_rfl) (by kernel_rfl) (by kernel_rfl) (fun _ _ _ h => h) (Or.inl ⟨by rfl, ?hy5⟩) (by assumption) ?_
      case hy5 => (intro w hSw; (try dsimp only at hSw); go_simp; try (with_reducible rfl))
      try simp only [Act.put, List.setIfInBounds_toArray, List.set_cons_zero, List.set_cons_succ]
      refine htake (i := 5) (v := ?v6) rfl (by kernel_rfl) (by kernel_rfl) (by kernel_rfl) (fun _ _ _ h => h) (Or.inl ⟨by rfl, ?hy6⟩) (by assumption) ?_
      case hy6 => (intro w hSw; (try dsimp only at hSw); go_simp; try (with_reducible rfl))
      try simp only [Act.put, List.setIfInBounds_toArray, List.set_cons_zero, List.set_cons_succ]
      refine htake (i := 6) (v := ?v7) rfl (by kernel_rfl) (by kernel_rfl) (by kernel_rfl) (fun _ _ _ h => h) (Or.inl ⟨by rfl, ?hy7⟩) (by assumption) ?_
      case hy7 => (intro w hSw; (try dsimp only at hSw); go_simp; try (with_reducible rfl))
      try simp only [Act.put, List.setIfInBounds_toArray, List.set_cons_zero, List.set_cons_succ]
      refine htake (i := 7) (v := ?v8) rfl (by kernel_rfl) (by kernel_rfl) (by kernel_rfl) (fun _ _ _ h => h) (Or.inl ⟨by rfl, ?hy8⟩) (by assumption) ?_
      case hy8 => (intro w hSw; (try dsimp only at hSw); go_simp; try (with_reducible rfl))
      try simp only [Act.put, List.setIfInBounds_toArray, List.set_cons_zero, List.set_cons_succ]
      refine htake (i := 8) (v := ?v9) rfl (by kernel_rfl) (by kernel_rfl) (by kernel_rfl) (fun _ _ _ h => h) (Or.inl ⟨by rfl, ?hy9⟩) (by assumption) ?_
      case hy9 => (intro w hSw; (try dsimp only at hSw); go_simp; try (with_reducible rfl))
      try simp only [Act.put, List.setIfInBounds_toArray, List.set_cons_zero, List.set_cons_succ]
      refine htake (i := 9) (v := ?v10) rfl (by kernel_rfl) (by kernel_rfl) (by kernel_rfl) (fun _ _ _ h => h) (Or.inl ⟨by rfl, ?hy10⟩) (by assumption) ?_
      case hy10 => (intro w hSw; (try dsimp only at hSw); go_simp; try (with_reducible rfl))
      try simp only [Act.put, List.setIfInBounds_toArray, List.set_cons_zero, List.set_cons_succ]
      refine wpAnyH_ready (rs := [10]) (by kernel_rfl) (by simp) ?_
      refine hcons rfl (fun K hK => ?_) (AllReadyH.nil)
      go_simp
      refine (HCM.out _).mono ?_; rintro e0 V1 ⟨rfl, hb⟩; have HB1 := Lib.hid ((Below.refl wr.heap.size wr).drew.trans hb); clear hb
      refine hK.out _ _ ?_ (fun hHeld => ?_)
      · (try dsimp only); exact HS.out _ HB1.out
      clear hK K
      try simp only [Act.put, List.setIfInBounds_toArray, List.set_cons_zero, List.set_cons_succ]
      refine htake (i := 11) (v := ?v11) rfl (by kernel_rfl) (by kernel_rfl) (by kernel_rfl) (fun _ _ _ h => h) (Or.inl ⟨by rfl, ?hy11⟩) (by assumption) ?_
      case hy11 => (intro w hSw; (try dsimp only at hSw); go_simp; try (with_reducible rfl))
      try simp only [Act.put, List.setIfInBounds_toArray, List.set_cons_zero, List.set_cons_succ]
      refine wpAnyH_done (by kernel_rfl) ?_ _
      refine NoPanic.normal ?_
      iterate 13 (try clear hHeld)
      have HB2 := Lib.hid (HB.out.trans (HB1.out.mono HB.out.size))
      clear HS HB1 HB
      by_cases hle : y.minute ≤ x.minute
      · have d1 : ¬ (x.minute - y.minute < 0) := by omega
        have HN := Lib.hid (show ∀ j, k - 1 ≤ j → j + 1 < l.length → (l.getD j wo0).minute ≤ (l.getD (j + 1) wo0).minute from fun j h1 h2 => by
          rcases Nat.lt_or_ge j k with h3 | h3
          · obtain rfl : j = k - 1 := by omega
            rw [HY.out, show k - 1 + 1 = k by omega, HX.out]; exact hle
          · exact HA.out j h3 h2)
        clear hle
        go_wp2_with fail
        all_goals (first | (refine ⟨?_, ?_⟩; (unfold RSo; exact ⟨k - 1, .inl (by omega), by rw [if_neg hne, Int.sub_zero], HB2.out, HN.out⟩); (simp [intOf]; omega)) | (go_roundw; (case rel => (unfold RSo; exact ⟨k - 1, .inl (by omega), by rw [if_neg hne, Int.sub_zero], HB2.out, HN.out⟩)); (case measure => (simp [intOf]; omega))) | (go_round; (case rel => (unfold RSo; exact ⟨k - 1, .inl (by omega), by rw [if_neg hne, Int.sub_zero], HB2.out, HN.out⟩)); (case measure => (simp [intOf]; omega))))
      · have d1 : x.minute - y.minute < 0 := by omega
        have HV := Lib.hid (show sortW l = false by
          rcases Bool.eq_false_or_eq_true (sortW l) with e | e
          · have := (sort_drop.1 e) (k - 1) (by omega)
            rw [HY.out, show k - 1 + 1 = k by omega, HX.out] at this
            exact absurd this hle
          · exact e)
        clear hle
        go_wp2_with fail
        go_ret
        exact ret_bool HV.out.symm HB2.out
    · obtain rfl : k = 0 := by omega
      have HV := Lib.hid (show sortW l = true from sort_drop.2 fun j hj => HA.out j (by omega) hj)
      by_cases h0 : l.length = 0
      · rw [if_pos h0]
        go_wp2_with fail
        go_ret
        exact ret_bool HV.out.symm HB.out
      · rw [if_neg h0]
        go_wp2_with fail
        go_ret
        exact ret_bool HV.out.symm HB.out
set_option maxRecDepth 100000 in
set_option maxHeartbeats 2000000 in
theorem check_any (A : Option Addr) (c : Nat) (l : List Wo) (w : World) (h : At w w.heap.size 4 Wo.cells A l) (hl : l.length ≤ 9223372036854775807) :
    Calls Tryz.prog 62 #[.slice A l.length c] w (Ret (.int .i64 (checkW l)) w) := by
  have HL := Lib.hid h
  clear h
  go_enter Tryz.func62, Tryz.ntmps62
  by_cases hlong : 40 < l.length
  · have hz : ((40 : Int) < (l.length : Int)) := by omega
    have HV := Lib.hid (show checkW l = 3 by unfold checkW; rw [if_pos hlong])
    clear hlong
    go_wp2_with fail
    go_ret
    exact ret_int HV.out.symm (Below.refl _ _)
  · have hz : ¬ ((40 : Int) < (l.length : Int)) := by omega
    have HV := Lib.hid (show checkW l = if l.all okWo = false then 1 else if sortW l = false then 7 else 0 by unfold checkW; rw [if_neg hlong])
    have HLL := Lib.hid (Nat.le_of_not_lt hlong)
    clear hlong
    go_wp2_with fail
    refine (containsWo_any A c l w HL.out hl).mono ?_
    rintro e V ⟨rfl, hb⟩
    have HB := Lib.hid hb
    have HL2 := Lib.hid (HL.out.next hb)
    clear hb
    have hany := any_bad l
    rw [hany]
    clear hany
    rcases Bool.eq_false_or_eq_true (l.all okWo) with ho | ho
    · rw [ho] at HV ⊢
      have HO := Lib.hid ho
      clear ho
      go_wp2_with fail
      refine (sorted_any A c l V HL2.out HLL.out HO.out).mono ?_
      rintro e V2 ⟨rfl, hb⟩
      have HB2 := Lib.hid (HB.out.trans (hb.mono HB.out.size))
      clear hb
      rcases Bool.eq_false_or_eq_true (sortW l) with hs | hs
      · rw [hs] at HV ⊢
        clear hs
        go_wp2_with fail
        go_ret
        exact ret_int (by rw [HV.out]; rfl) HB2.out
      · rw [hs] at HV ⊢
        clear hs
        go_wp2_with fail
        go_ret
        exact ret_int (by rw [HV.out]; rfl) HB2.out
    · rw [ho] at HV ⊢
      clear ho
      go_wp2_with fail
      go_ret
      exact ret_int (by rw [HV.out]; rfl) HB.out
end Go.Proofs.YtonnemkecppmiaaGreatDoor
