import Derived.Test.YtfffhbolaimmdaaDoorSpec
namespace Go.Proofs.YtfffhbolaimmdaaDoor
open Go.RowKit
def powI (n : Nat) : Int := ((2 ^ n : Nat) : Int)
theorem powI_bd {n : Nat} (h : n ≤ 62) : 1 ≤ powI n ∧ powI n ≤ 4611686018427387904 := by
  have h1 : 2 ^ n ≤ 2 ^ 62 := Nat.pow_le_pow_right (by omega) h
  have h2 : 0 < 2 ^ n := Nat.two_pow_pos n
  have h3 : (2:Nat) ^ 62 = 4611686018427387904 := by decide
  unfold powI; omega
theorem powI_succ (n : Nat) : powI (n + 1) = 2 * powI n := by unfold powI; rw [Nat.pow_succ]; omega
set_option maxHeartbeats 400000 in
theorem in_any (a b c : Int) (w : World) :
    Calls Tryd.prog 55 #[.int .i64 a, .int .i64 b, .int .i64 c] w (RetQ (.bool (inS a b c)) w) := by
  go_enter Tryd.func55, Tryd.ntmps55
  go_wp2
  all_goals (go_ret; refine retq_bool ?_; unfold inS; rw [Bool.eq_iff_iff]; simp; try omega)
set_option maxHeartbeats 400000 in
theorem span_any (l h a b : Int) (w : World) :
    Calls Tryd.prog 81 #[.agg #[.int .i64 l, .int .i64 h], .int .i64 a, .int .i64 b] w (Ret (.bool (spanS l h a b)) w) := by
  go_enter Tryd.func81, Tryd.ntmps81
  go_wp2
  all_goals (go_ret; refine ret_bool ?_ ((Below.refl _ _).alloc (Nat.le_refl _) _); unfold spanS; rw [Bool.eq_iff_iff]; simp; try omega)
set_option maxHeartbeats 400000 in
theorem power_any (n : Nat) (hn : n ≤ 62) (w : World) : Calls Tryd.prog 54 #[.int .i64 n] w (RetQ (.int .i64 (powI n)) w) := by
  go_enter Tryd.func54, Tryd.ntmps54
  go_wp2
  go_loop [3, 4] (fun o i => ∃ k : Nat, k ≤ n ∧ i = .int .i64 k ∧ o = .int .i64 (powI k)) (fun _ i => n - (intOf i).toNat)
  case atStart => exact ⟨0, by omega, rfl, rfl⟩
  case round =>
    obtain ⟨k, hk, rfl, rfl⟩ := hrel
    have hb := powI_bd (n := k) (by omega)
    by_cases hlt : k < n
    · have hb' := powI_bd (n := k + 1) (by omega)
      rw [powI_succ] at hb'
      go_wp2
      go_round
      case rel => exact ⟨k + 1, by omega, by go_num, by rw [powI_succ]⟩
      case measure => simp [intOf]; omega
    · obtain rfl : k = n := by omega
      go_wp2
      go_ret
      exact retq_int rfl
theorem has_eq (set i : Nat) : ((set : Int) / powI i % 2 == 1) = has set i := by
  unfold has powI
  rw [Nat.testBit_eq_decide_div_mod_eq, Bool.eq_iff_iff]
  simp only [beq_iff_eq, decide_eq_true_eq]
  omega
set_option maxHeartbeats 400000 in
theorem has_any (set i : Nat) (hn : i ≤ 62) (hs : set ≤ 9223372036854775807) (w : World) :
    Calls Tryd.prog 62 #[.int .i64 set, .int .i64 i] w (RetQ (.bool (has set i)) w) := by
  have hb := powI_bd hn
  have hd : 0 ≤ (set : Int) / powI i := Int.ediv_nonneg (by omega) (by omega)
  have hd2 : (set : Int) / powI i ≤ set := Int.ediv_le_self _ (by omega)
  go_enter Tryd.func62, Tryd.ntmps62
  go_wp2_with (go_at_call 54; (with_reducible refine (power_any _ hn _).mono ?_); rintro e w' ⟨rfl, rfl⟩)
  go_ret
  exact retq_bool (has_eq set i)
def R56 (l : List Sheet) (w0 : World) (i : Value) (w : World) : Prop := ∃ k : Nat, k ≤ l.length ∧ i = .int .i64 k ∧ Below w0.heap.size w0 w ∧ (l.take k).all Sheet.ok = true
set_option maxHeartbeats 400000 in
theorem sheets_any (A : Option Addr) (c : Nat) (l : List Sheet) (w : World) (hr : At w w.heap.size 3 Sheet.cells A l) (hl : l.length ≤ 9223372036854775807) :
    Calls Tryd.prog 56 #[.slice A l.length c] w (Ret (.bool (sheetsS l)) w) := by
  go_enter Tryd.func56, Tryd.ntmps56
  go_wp2
  go_loopw [3] (fun i wr => R56 l w i wr) (fun i _ => l.length - (intOf i).toNat)
  case atStart => exact ⟨0, by omega, rfl, Below.refl _ _, rfl⟩
  case round =>
    obtain ⟨k, hk, rfl, hb, hall⟩ := hrel
    have hr' := hr.below hb
    by_cases hlt : k < l.length
    · obtain ⟨b, off, rfl, hbk, hcs⟩ := hr' k l[k] (List.getElem?_eq_getElem hlt)
      have h0 := hcs 0 _ rfl
      have h1 := hcs 1 _ rfl
      have h2 := hcs 2 _ rfl
      simp only [Nat.add_zero] at h0
      have hbr : Below wr.heap.size wr wr := Below.refl _ _
      have hbs : b < wr.heap.size := Nat.lt_of_lt_of_le hbk hb.size
      have Ha := Lib.hid (all_step hlt hall)
      have Hf := Lib.hid (all_fail (p := Sheet.ok) hlt)
      have Hk := Lib.hid (show Sheet.ok l[k] = (spanS l[k].lo l[k].hi 0 100000 && inS l[k].cost 0 10000) from rfl)
      generalize l[k] = s at *
      clear hall hr hr' hcs
      rcases chain2 (spanS s.lo s.hi 0 100000) (inS s.cost 0 10000) with a1 | ⟨a1, a2⟩ | ⟨a1, a2⟩
      all_goals go_wp2_with (first | (go_at_call 81; (with_reducible refine (span_any _ _ _ _ _).mono ?_); rintro e w1 ⟨rfl, hb1⟩; obtain ⟨hc1, hf1⟩ := bcell hb1; have hz1 := hb1.size; replace hbr := hbr.trans (hb1.mono hbr.size); obtain ⟨hcr, hfr⟩ := bcell hbr) | (go_at_call 55; (with_reducible refine (in_any _ _ _ _).mono ?_); rintro e w' ⟨rfl, rfl⟩))
      all_goals first
        | (go_ret; refine ret_bool ?_ (hb.trans (hbr.mono hb.size)); unfold sheetsS; rw [Hf.out (by rw [Hk.out]; simp [*])]; rfl)
        | (first | (refine ⟨?_, ?_⟩; (unfold R56; exact ⟨k + 1, by omega, by go_num, hb.trans (hbr.mono hb.size), Ha.out (by rw [Hk.out]; simp [*])⟩); (simp [intOf]; omega)) | (go_roundw; (case rel => (unfold R56; exact ⟨k + 1, by omega, by go_num, hb.trans (hbr.mono hb.size), Ha.out (by rw [Hk.out]; simp [*])⟩)); (case measure => (simp [intOf]; omega))) | (go_round; (case rel => (unfold R56; exact ⟨k + 1, by omega, by go_num, hb.trans (hbr.mono hb.size), Ha.out (by rw [Hk.out]; simp [*])⟩)); (case measure => (simp [intOf]; omega))))
    · go_wp2_with (go_at_call 55; (with_reducible refine (in_any _ _ _ _).mono ?_); rintro e w' ⟨rfl, rfl⟩)
      go_ret
      refine ret_bool ?_ hb
      unfold sheetsS
      rw [all_full hlt hall]
      simp
def R57 (l : List Licence) (i : Value) (w0 w : World) : Prop := ∃ k : Nat, k ≤ l.length ∧ i = .int .i64 k ∧ Below w0.heap.size w0 w ∧ (l.take k).all Licence.ok = true
set_option maxHeartbeats 400000 in
theorem licences_any (A : Option Addr) (c : Nat) (l : List Licence) (w : World) (hr : At w w.heap.size 4 Licence.cells A l) (hl : l.length ≤ 9223372036854775807) :
    Calls Tryd.prog 57 #[.slice A l.length c] w (Ret (.bool (licsS l)) w) := by
  go_enter Tryd.func57, Tryd.ntmps57
  go_wp2
  go_loopw [3] (fun i wr => R57 l i w wr) (fun i _ => l.length - (intOf i).toNat)
  case atStart => exact ⟨0, by omega, rfl, Below.refl _ _, rfl⟩
  case round =>
    obtain ⟨k, hk, rfl, hb, hall⟩ := hrel
    by_cases hlt : k < l.length
    · obtain ⟨b, off, rfl, hbk, hcs⟩ := hr.below hb k l[k] (List.getElem?_eq_getElem hlt)
      have h0 := hcs 0 _ rfl
      have h1 := hcs 1 _ rfl
      have h2 := hcs 2 _ rfl
      have h3 := hcs 3 _ rfl
      simp only [Nat.add_zero] at h0
      have Ha := Lib.hid (all_step hlt hall)
      have Hf := Lib.hid (all_fail (p := Licence.ok) hlt)
      have Hk := Lib.hid (show Licence.ok l[k] = (inS l[k].copies 0 1000 && (inS l[k].hi 0 1048576 && (inS l[k].lo 0 l[k].hi && inS l[k].fee 0 10000))) from rfl)
      generalize l[k] = s at *
      clear hall hr hcs
      rcases chain4 (inS s.copies 0 1000) (inS s.hi 0 1048576) (inS s.lo 0 s.hi) (inS s.fee 0 10000) with a1 | ⟨a1, a2⟩ | ⟨a1, a2, a3⟩ | ⟨a1, a2, a3, a4⟩ | ⟨a1, a2, a3, a4⟩
      all_goals go_wp2_with (go_quiet ((go_at_call 55; first | exact qq (in_any _ _ _ _) | exact qqa (in_any _ _ _ _))))
      all_goals first
        | (go_ret; refine ret_bool ?_ (below_drewN hb _); unfold licsS; rw [Hf.out (by rw [Hk.out]; simp [*])]; rfl)
        | (first | (refine ⟨?_, ?_⟩; (unfold R57; exact ⟨k + 1, by omega, by go_num, below_drewN hb _, Ha.out (by rw [Hk.out]; simp [*])⟩); (simp [intOf]; omega)) | (go_roundw; (case rel => (unfold R57; exact ⟨k + 1, by omega, by go_num, below_drewN hb _, Ha.out (by rw [Hk.out]; simp [*])⟩)); (case measure => (simp [intOf]; omega))) | (go_round; (case rel => (unfold R57; exact ⟨k + 1, by omega, by go_num, below_drewN hb _, Ha.out (by rw [Hk.out]; simp [*])⟩)); (case measure => (simp [intOf]; omega))))
    · go_wp2_with (go_at_call 55; (with_reducible refine (in_any _ _ _ _).mono ?_); rintro e w' ⟨rfl, rfl⟩)
      go_ret
      refine ret_bool ?_ hb
      unfold licsS
      rw [all_full hlt hall]
      simp
end Go.Proofs.YtfffhbolaimmdaaDoor
