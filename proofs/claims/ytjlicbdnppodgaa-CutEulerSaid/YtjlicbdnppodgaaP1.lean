import Derived.Test.YtjlicbdnppodgaaS2
import Derived.Handy
namespace Go.Proofs.Ytjlicbdnppodgaa
open Go.RowKit
/-! The program's small functions. -/
/-- The first place at which something holds; -1: nowhere. -/
def firstI (p : Int → Bool) (l : List Int) : Int := match l.findIdx? p with
  | some k => (k : Int)
  | none => -1
theorem firstI_hit {p : Int → Bool} {l : List Int} {k : Nat} (hk : k < l.length) (hp : p l[k] = true) (h : (l.take k).all (fun x => !p x) = true) : firstI p l = k := by
  unfold firstI
  rw [List.findIdx?_eq_some_iff_getElem.2 ⟨hk, hp, fun j hj => by
    have := List.all_eq_true.1 h l[j] (by rw [List.mem_take_iff_getElem]; exact ⟨j, by omega, rfl⟩)
    simpa using this⟩]
theorem firstI_none {p : Int → Bool} {l : List Int} (h : l.all (fun x => !p x) = true) : firstI p l = -1 := by
  unfold firstI
  rw [List.findIdx?_eq_none_iff.2 fun x hx => by simpa using List.all_eq_true.1 h x hx]
theorem firstI_ge {p : Int → Bool} {l : List Int} : decide (0 ≤ firstI p l) = l.any p := by
  unfold firstI
  cases h : l.findIdx? p with
  | none =>
    rw [List.findIdx?_eq_none_iff] at h
    have : l.any p = false := by rw [List.any_eq_false]; intro x hx; simp [h x hx]
    rw [this]; rfl
  | some k =>
    obtain ⟨hk, hp, -⟩ := List.findIdx?_eq_some_iff_getElem.1 h
    have : l.any p = true := List.any_eq_true.2 ⟨_, List.getElem_mem hk, hp⟩
    rw [this]
    simp
set_option maxHeartbeats 400000 in
theorem within_any (a b c : Int) (w : World) : Calls Try.prog 59 #[.int .i64 a, .int .i64 b, .int .i64 c] w (RetQ (.bool (inS a b c)) w) := by
  go_enter Try.func59, Try.ntmps59
  go_wp2
  all_goals (go_ret; refine retq_bool ?_; unfold inS; rw [Bool.eq_iff_iff]; simp; try omega)
def badPc (x : Int) : Bool := !inS x 0 39
def manyPc (x : Int) : Bool := decide (1 < x)
set_option maxHeartbeats 400000 in
theorem badPc_any (x : Int) (w : World) : Calls Try.prog 63 #[.int .i64 x] w (RetQ (.bool (badPc x)) w) := by
  go_enter Try.func63, Try.ntmps63
  go_wp2_with (go_at_call 59; (with_reducible refine (within_any _ _ _ _).mono ?_); rintro e w' ⟨rfl, rfl⟩)
  go_ret
  exact ⟨rfl, rfl⟩
set_option maxHeartbeats 400000 in
theorem manyPc_any (x : Int) (w : World) : Calls Try.prog 47 #[.int .i64 x] w (RetQ (.bool (manyPc x)) w) := by
  go_enter Try.func47, Try.ntmps47
  go_wp2
  go_ret
  exact ⟨rfl, rfl⟩
def RI (l : List Int) (p : Int → Bool) (w0 : World) (i : Value) (w : World) : Prop := ∃ k : Nat, k ≤ l.length ∧ i = .int .i64 k ∧ w = w0 ∧ (l.take k).all (fun x => !p x) = true
theorem getD_get {α : Type} {l : List α} {k : Nat} (h : k < l.length) (d : α) : l.getD k d = l[k] := by
  rw [List.getD_eq_getElem?_getD, List.getElem?_eq_getElem h]; rfl
set_option maxHeartbeats 400000 in
theorem indexBad_any (A : Option Addr) (c : Nat) (l : List Int) (w : World) (h : At w w.heap.size 1 icell A l) (hl : l.length ≤ 9223372036854775807) :
    Calls Try.prog 46 #[.slice A l.length c, .func (.func 63) #[] #[]] w (RetQ (.int .i64 (firstI badPc l)) w) := by
  go_enter Try.func46, Try.ntmps46
  go_wp2
  go_loopw [8] (fun i wr => RI l badPc w i wr) (fun i _ => l.length - (intOf i).toNat)
  case atStart => exact ⟨0, by omega, rfl, rfl, rfl⟩
  case round =>
    obtain ⟨k, hk, rfl, rfl, hall⟩ := hrel
    by_cases hlt : k < l.length
    · obtain ⟨b, off, rfl, hbk, h0⟩ := int_at h hlt
      rw [getD_get hlt] at h0
      have Ha := Lib.hid (all_step (p := fun x => !badPc x) hlt hall)
      have Hf := Lib.hid (fun e => firstI_hit (p := badPc) hlt e hall)
      have Hw := Lib.hid (badPc_any l[k] wr)
      generalize l[k] = x at *
      clear hall h
      go_wp2_with fail
      refine Hw.out.mono ?_
      rintro e w1 ⟨rfl, rfl⟩
      clear Hw
      generalize badPc x = q at *
      cases q
      · go_wp2
        all_goals (first | (refine ⟨?_, ?_⟩; (unfold RI; exact ⟨k + 1, by omega, by go_num, rfl, Ha.out (by simp)⟩); (simp [intOf]; omega)) | (go_roundw; (case rel => (unfold RI; exact ⟨k + 1, by omega, by go_num, rfl, Ha.out (by simp)⟩)); (case measure => (simp [intOf]; omega))) | (go_round; (case rel => (unfold RI; exact ⟨k + 1, by omega, by go_num, rfl, Ha.out (by simp)⟩)); (case measure => (simp [intOf]; omega))))
      · go_wp2
        go_ret
        exact ⟨by rw [Hf.out (by simp)]; rfl, rfl⟩
    · have e := all_full hlt hall
      go_wp2
      go_ret
      exact ⟨by rw [firstI_none e]; rfl, rfl⟩
set_option maxHeartbeats 400000 in
theorem indexMany_any (A : Option Addr) (c : Nat) (l : List Int) (w : World) (h : At w w.heap.size 1 icell A l) (hl : l.length ≤ 9223372036854775807) :
    Calls Try.prog 46 #[.slice A l.length c, .func (.func 47) #[] #[]] w (RetQ (.int .i64 (firstI manyPc l)) w) := by
  go_enter Try.func46, Try.ntmps46
  go_wp2
  go_loopw [8] (fun i wr => RI l manyPc w i wr) (fun i _ => l.length - (intOf i).toNat)
  case atStart => exact ⟨0, by omega, rfl, rfl, rfl⟩
  case round =>
    obtain ⟨k, hk, rfl, rfl, hall⟩ := hrel
    by_cases hlt : k < l.length
    · obtain ⟨b, off, rfl, hbk, h0⟩ := int_at h hlt
      rw [getD_get hlt] at h0
      have Ha := Lib.hid (all_step (p := fun x => !manyPc x) hlt hall)
      have Hf := Lib.hid (fun e => firstI_hit (p := manyPc) hlt e hall)
      have Hw := Lib.hid (manyPc_any l[k] wr)
      generalize l[k] = x at *
      clear hall h
      go_wp2_with fail
      refine Hw.out.mono ?_
      rintro e w1 ⟨rfl, rfl⟩
      clear Hw
      generalize manyPc x = q at *
      cases q
      · go_wp2
        all_goals (first | (refine ⟨?_, ?_⟩; (unfold RI; exact ⟨k + 1, by omega, by go_num, rfl, Ha.out (by simp)⟩); (simp [intOf]; omega)) | (go_roundw; (case rel => (unfold RI; exact ⟨k + 1, by omega, by go_num, rfl, Ha.out (by simp)⟩)); (case measure => (simp [intOf]; omega))) | (go_round; (case rel => (unfold RI; exact ⟨k + 1, by omega, by go_num, rfl, Ha.out (by simp)⟩)); (case measure => (simp [intOf]; omega))))
      · go_wp2
        go_ret
        exact ⟨by rw [Hf.out (by simp)]; rfl, rfl⟩
    · have e := all_full hlt hall
      go_wp2
      go_ret
      exact ⟨by rw [firstI_none e]; rfl, rfl⟩
set_option maxHeartbeats 400000 in
theorem containsBad_any (A : Option Addr) (c : Nat) (l : List Int) (w : World) (h : At w w.heap.size 1 icell A l) (hl : l.length ≤ 9223372036854775807) :
    Calls Try.prog 64 #[.slice A l.length c, .func (.func 63) #[] #[]] w (RetQ (.bool (l.any badPc)) w) := by
  have H1 := Lib.hid (indexBad_any A c l w h hl)
  have H2 := Lib.hid (firstI_ge (p := badPc) (l := l))
  clear h hl
  go_enter Try.func64, Try.ntmps64
  go_wp2_with fail
  refine H1.out.mono ?_
  rintro e w1 ⟨rfl, rfl⟩
  go_wp2
  go_ret
  exact ⟨by rw [← H2.out]; rfl, rfl⟩
def eqPc (v x : Int) : Bool := decide (v = x)
set_option maxHeartbeats 400000 in
theorem indexEq_any (v : Int) (A : Option Addr) (c : Nat) (l : List Int) (w : World) (h : At w w.heap.size 1 icell A l) (hl : l.length ≤ 9223372036854775807) :
    Calls Try.prog 45 #[.slice A l.length c, .int .i64 v] w (RetQ (.int .i64 (firstI (eqPc v) l)) w) := by
  go_enter Try.func45, Try.ntmps45
  go_wp2
  go_loopw [8] (fun i wr => RI l (eqPc v) w i wr) (fun i _ => l.length - (intOf i).toNat)
  case atStart => exact ⟨0, by omega, rfl, rfl, rfl⟩
  case round =>
    obtain ⟨k, hk, rfl, rfl, hall⟩ := hrel
    by_cases hlt : k < l.length
    · obtain ⟨b, off, rfl, hbk, h0⟩ := int_at h hlt
      rw [getD_get hlt] at h0
      have Ha := Lib.hid (all_step (p := fun x => !eqPc v x) hlt hall)
      have Hf := Lib.hid (fun e => firstI_hit (p := eqPc v) hlt e hall)
      generalize l[k] = x at *
      clear hall h
      by_cases hx : v = x
      · have e1 : (v == x) = true := by simp [hx]
        have e2 := Lib.hid (show eqPc v x = true by simp [eqPc, hx])
        clear hx
        go_wp2
        go_ret
        exact ⟨by rw [Hf.out e2.out]; rfl, rfl⟩
      · have e1 : (v == x) = false := by simp [hx]
        have e2 := Lib.hid (show (!eqPc v x) = true by simp [eqPc, hx])
        clear hx
        go_wp2
        all_goals (first | (refine ⟨?_, ?_⟩; (unfold RI; exact ⟨k + 1, by omega, by go_num, rfl, Ha.out e2.out⟩); (simp [intOf]; omega)) | (go_roundw; (case rel => (unfold RI; exact ⟨k + 1, by omega, by go_num, rfl, Ha.out e2.out⟩)); (case measure => (simp [intOf]; omega))) | (go_round; (case rel => (unfold RI; exact ⟨k + 1, by omega, by go_num, rfl, Ha.out e2.out⟩)); (case measure => (simp [intOf]; omega))))
    · have e := all_full hlt hall
      go_wp2
      go_ret
      exact ⟨by rw [firstI_none e]; rfl, rfl⟩
/-! The greatest. -/
def maxTo (l : List Int) (k : Nat) : Int := (l.take k).foldl max (l.getD 0 0)
def RM (l : List Int) (w0 : World) (m i : Value) (w : World) : Prop := ∃ k : Nat, 1 ≤ k ∧ k ≤ l.length ∧ i = .int .i64 k ∧ m = .int .i64 (maxTo l k) ∧ w = w0
theorem maxTo_succ {l : List Int} {k : Nat} (h : k < l.length) : maxTo l (k + 1) = max (maxTo l k) (l.getD k 0) := by
  unfold maxTo
  rw [List.take_succ_eq_append_getElem h, List.foldl_append, getD_get h]; rfl
set_option maxHeartbeats 400000 in
theorem Max_any (A : Option Addr) (c : Nat) (l : List Int) (w : World) (h : At w w.heap.size 1 icell A l) (hl : l.length ≤ 9223372036854775807) (h0 : 0 < l.length) :
    Calls Try.prog 44 #[.slice A l.length c] w (RetQ (.int .i64 (maxTo l l.length)) w) := by
  have hn : decide ((l.length : Int) < 1) = false := by simp; omega
  have hn2 : ¬ ((l.length : Int) < 1) := by omega
  obtain ⟨b, off, rfl, hbk, g0⟩ := int_at h h0
  rw [Nat.add_zero] at g0
  have hm1 := Lib.hid (show maxTo l 1 = l.getD 0 0 from by
    unfold maxTo
    obtain ⟨x, l', rfl⟩ : ∃ x l', l = x :: l' := by
      cases l with
      | nil => simp at h0
      | cons x l' => exact ⟨x, l', rfl⟩
    simp)
  go_enter Try.func44, Try.ntmps44
  go_wp2
  clear g0
  go_loopw [3, 4] (fun m i wr => RM l w m i wr) (fun _ i _ => l.length - (intOf i).toNat)
  case atStart => exact ⟨1, by omega, by omega, rfl, by rw [hm1.out]; first | rfl | rw [getD_get h0], rfl⟩
  case round =>
    obtain ⟨k, hk1, hk, rfl, rfl, rfl⟩ := hrel
    by_cases hlt : k < l.length
    · obtain ⟨b', off', e, -, g0⟩ := int_at h hlt
      injection e with e
      injection e with e1 e2
      subst e1 e2
      have Hs := Lib.hid (maxTo_succ hlt)
      generalize l.getD k 0 = x at *
      generalize maxTo l k = m at *
      clear h
      go_wp2_with (go_quiet (fail))
      all_goals (first | (refine ⟨?_, ?_⟩; (unfold RM; exact ⟨k + 1, by omega, by omega, by go_num, by rw [Hs.out]; simp [Int.max_def]; split <;> split <;> omega, rfl⟩); (simp [intOf]; omega)) | (go_roundw; (case rel => (unfold RM; exact ⟨k + 1, by omega, by omega, by go_num, by rw [Hs.out]; simp [Int.max_def]; split <;> split <;> omega, rfl⟩)); (case measure => (simp [intOf]; omega))) | (go_round; (case rel => (unfold RM; exact ⟨k + 1, by omega, by omega, by go_num, by rw [Hs.out]; simp [Int.max_def]; split <;> split <;> omega, rfl⟩)); (case measure => (simp [intOf]; omega))))
    · obtain rfl : k = l.length := by omega
      go_wp2
      go_ret
      exact ⟨rfl, rfl⟩
theorem max_great {c : Cut} (ok : OkC c) : maxTo c.piece c.piece.length = greatS c := by
  unfold maxTo greatS
  rw [List.take_of_length_le (Nat.le_refl _)]
  have hfold : ∀ (l : List Int) (n : Int), l.foldl max n = max n (l.foldl max n) := by
    intro l
    induction l with
    | nil => intro n; simp
    | cons x l ih => intro n; rw [List.foldl_cons]; have := ih (max n x); omega
  have hmem : ∀ (l : List Int) (x n : Int), x ∈ l → l.foldl max n = l.foldl max (max n x) := by
    intro l
    induction l with
    | nil => intro x n h; simp at h
    | cons y l ih =>
      intro x n h
      rcases List.mem_cons.1 h with rfl | h
      · rw [List.foldl_cons, List.foldl_cons]
        congr 1
        omega
      · rw [List.foldl_cons, List.foldl_cons, ih x _ h]
        congr 1
        omega
  have hl := ok.len
  have hw := ok.w
  have hh := ok.h
  have hpos : 0 < c.piece.length := by
    have : 1 * 1 ≤ c.wide * c.high := Int.mul_le_mul hw.1 hh.1 (by omega) (by omega)
    omega
  have h0 : c.piece.getD 0 0 ∈ c.piece := by rw [getD_get hpos]; exact List.getElem_mem _
  have hb := ok.pc _ h0
  rw [hmem c.piece _ 0 h0]
  congr 1
  omega
end Go.Proofs.Ytjlicbdnppodgaa
