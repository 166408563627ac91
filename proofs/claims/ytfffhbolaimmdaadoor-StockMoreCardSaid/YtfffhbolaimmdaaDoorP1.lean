import Derived.Test.YtfffhbolaimmdaaDoorW0
import Derived.Handy
namespace Go.Proofs.YtfffhbolaimmdaaDoor
open Go.RowKit
def badTake (n : Int) : Bool := !tok n
def badSheet (x : Sheet) : Bool := !Sheet.ok x
def badLic (x : Licence) : Bool := !Licence.ok x
def badMake (s : Store) (x : Make) : Bool := !Make.ok s.lics.length s.sheets.length x
def badWish (s : Store) (x : Wish) : Bool := !Wish.ok s.makes.length x
def RetIdx (b : Bool) (w : World) (e : Ending) (w' : World) : Prop := ∃ r : Int, e = .returned (.int .i64 r) ∧ decide (0 ≤ r) = b ∧ Below w.heap.size w w'
theorem any_false {α : Type} {l : List α} {p : α → Bool} (h : l.all (fun x => !p x) = true) : l.any p = false := by
  rw [List.any_eq_false]
  intro x hx e
  have := List.all_eq_true.1 h x hx
  simp [e] at this
set_option maxHeartbeats 400000 in
theorem within_any (a b c : Int) (w : World) : Calls Tryd.prog 59 #[.int .i64 a, .int .i64 b, .int .i64 c] w (RetQ (.bool (inS a b c)) w) := by
  go_enter Tryd.func59, Tryd.ntmps59
  go_wp2
  all_goals (go_ret; refine retq_bool ?_; unfold inS; rw [Bool.eq_iff_iff]; simp; try omega)
set_option maxHeartbeats 400000 in
theorem isSpan_any (l h a b : Int) (w : World) :
    Calls Tryd.prog 69 #[.agg #[.int .i64 l, .int .i64 h], .int .i64 a, .int .i64 b] w (Ret (.bool (spanS l h a b)) w) := by
  go_enter Tryd.func69, Tryd.ntmps69
  go_wp2
  all_goals (go_ret; refine ret_bool ?_ ((Below.refl _ _).alloc (Nat.le_refl _) _); unfold spanS; rw [Bool.eq_iff_iff]; simp; try omega)
set_option maxHeartbeats 400000 in
theorem badSheet_any (x : Sheet) (w : World) : Calls Tryd.prog 68 #[.agg #[.int .i64 x.lo, .int .i64 x.hi, .int .i64 x.cost]] w (Ret (.bool (badSheet x)) w) := by
  have Hk := Lib.hid (show Sheet.ok x = (spanS x.lo x.hi 0 100000 && inS x.cost 0 10000) from rfl)
  have hbr := (Below.refl w.heap.size w).alloc (Nat.le_refl _) (.cells #[.int .i64 x.lo, .int .i64 x.hi, .int .i64 x.cost] 54)
  go_enter Tryd.func68, Tryd.ntmps68
  rcases chain2 (spanS x.lo x.hi 0 100000) (inS x.cost 0 10000) with a1 | ⟨a1, a2⟩ | ⟨a1, a2⟩
  all_goals
    go_wp2_with (first | (go_at_call 59; (with_reducible refine (within_any _ _ _ _).mono ?_); rintro e w' ⟨rfl, rfl⟩) | (go_at_call 69; (with_reducible refine (isSpan_any _ _ _ _ _).mono ?_); rintro e w1 ⟨rfl, hb1⟩; obtain ⟨hc1, hf1⟩ := bcell hb1; have hbe := hbr.trans (hb1.mono (by simp))))
    go_ret
    exact ret_bool (by unfold badSheet; rw [Hk.out]; simp [*]) hbe
theorem span_fits {x : Licence} : (spanS x.lo x.hi 0 1048576 && inS x.fee 0 10000) = (inS x.hi 0 1048576 && (inS x.lo 0 x.hi && inS x.fee 0 10000)) := by
  unfold spanS inS; rw [Bool.eq_iff_iff]; simp; omega
set_option maxHeartbeats 400000 in
theorem badLicence_any (x : Licence) (w : World) : Calls Tryd.prog 70 #[.agg #[.int .i64 x.copies, .int .i64 x.lo, .int .i64 x.hi, .int .i64 x.fee]] w (Ret (.bool (badLic x)) w) := by
  have Hk := Lib.hid (show Licence.ok x = (inS x.copies 0 1000 && (spanS x.lo x.hi 0 1048576 && inS x.fee 0 10000)) by rw [span_fits]; rfl)
  have hbr := (Below.refl w.heap.size w).alloc (Nat.le_refl _) (.cells #[.int .i64 x.copies, .int .i64 x.lo, .int .i64 x.hi, .int .i64 x.fee] 59)
  go_enter Tryd.func70, Tryd.ntmps70
  rcases chain3 (inS x.copies 0 1000) (spanS x.lo x.hi 0 1048576) (inS x.fee 0 10000) with a1 | ⟨a1, a2⟩ | ⟨a1, a2, a3⟩ | ⟨a1, a2, a3⟩
  all_goals
    go_wp2_with (first | (go_at_call 59; (with_reducible refine (within_any _ _ _ _).mono ?_); rintro e w' ⟨rfl, rfl⟩) | (go_at_call 69; (with_reducible refine (isSpan_any _ _ _ _ _).mono ?_); rintro e w1 ⟨rfl, hb1⟩; obtain ⟨hc1, hf1⟩ := bcell hb1; replace hbr := hbr.trans (hb1.mono (by simp))))
    go_ret
    exact ret_bool (by unfold badLic; rw [Hk.out]; simp [*]) hbr
set_option maxHeartbeats 400000 in
theorem badTake_any (n : Int) (w : World) : Calls Tryd.prog 71 #[.int .i64 n] w (Ret (.bool (badTake n)) w) := by
  go_enter Tryd.func71, Tryd.ntmps71
  go_wp2_with (go_at_call 59; (with_reducible refine (within_any _ _ _ _).mono ?_); rintro e w' ⟨rfl, rfl⟩)
  go_ret
  exact ret_bool rfl (Below.refl _ _)
def R85 (l : List Int) (p : Int → Bool) (w0 : World) (i : Value) (w : World) : Prop := ∃ k : Nat, k ≤ l.length ∧ i = .int .i64 k ∧ Below w0.heap.size w0 w ∧ (l.take k).all (fun x => !p x) = true
set_option maxHeartbeats 400000 in
theorem index85_any (A : Option Addr) (c : Nat) (l : List Int) (w : World) (h : At w w.heap.size 1 icell A l) (hl : l.length ≤ 9223372036854775807) :
    Calls Tryd.prog 85 #[.slice A l.length c, .func (.func 71) #[] #[]] w (RetIdx (l.any badTake) w) := by
  go_enter Tryd.func85, Tryd.ntmps85
  go_wp2
  go_loopw [8] (fun i wr => R85 l badTake w i wr) (fun i _ => l.length - (intOf i).toNat)
  case atStart => exact ⟨0, by omega, rfl, Below.refl _ _, rfl⟩
  case round =>
    obtain ⟨k, hk, rfl, hb, hall⟩ := hrel
    by_cases hlt : k < l.length
    · obtain ⟨b, off, rfl, hbk, hcs⟩ := h.below hb k l[k] (List.getElem?_eq_getElem hlt)
      have h0 := hcs 0 _ rfl
      simp only [Nat.add_zero, Nat.mul_one] at h0
      have hbr : Below wr.heap.size wr wr := Below.refl _ _
      have Hb := Lib.hid hb
      have Ha := Lib.hid (all_step (p := fun x => !badTake x) hlt hall)
      have Hf := Lib.hid (show badTake l[k] = true → l.any badTake = true from fun e => List.any_eq_true.2 ⟨_, List.getElem_mem hlt, e⟩)
      generalize l[k] = x at *
      clear hall h hcs hb
      go_wp2_with fail
      refine (badTake_any x wr).mono ?_
      rintro e w1 ⟨rfl, hb1⟩
      have hbw := Lib.hid (Hb.out.trans (hb1.mono Hb.out.size))
      generalize hq : badTake x = q
      rw [hq] at Ha Hf
      clear hb1
      cases q
      · go_wp2
        all_goals (first | (refine ⟨?_, ?_⟩; (unfold R85; exact ⟨k + 1, by omega, by go_num, hbw.out, Ha.out (by simp)⟩); (simp [intOf]; omega)) | (go_roundw; (case rel => (unfold R85; exact ⟨k + 1, by omega, by go_num, hbw.out, Ha.out (by simp)⟩)); (case measure => (simp [intOf]; omega))) | (go_round; (case rel => (unfold R85; exact ⟨k + 1, by omega, by go_num, hbw.out, Ha.out (by simp)⟩)); (case measure => (simp [intOf]; omega))))
      · go_wp2
        go_ret
        exact ⟨_, rfl, by rw [Hf.out (by simp)]; simp, hbw.out⟩
    · have e := all_full hlt hall
      go_wp2
      go_ret
      refine ⟨_, rfl, ?_, hb⟩
      rw [show l.any badTake = false from any_false e]
      simp
set_option maxHeartbeats 400000 in
theorem contains73_any (A : Option Addr) (c : Nat) (l : List Int) (w : World) (h : At w w.heap.size 1 icell A l) (hl : l.length ≤ 9223372036854775807) :
    Calls Tryd.prog 73 #[.slice A l.length c, .func (.func 71) #[] #[]] w (Ret (.bool (l.any badTake)) w) := by
  go_enter Tryd.func73, Tryd.ntmps73
  go_wp2_with fail
  refine (index85_any  _ _ _ _ h hl).mono ?_
  rintro e w1 ⟨r, rfl, hr, hb1⟩
  have Hb := Lib.hid hb1
  have Hr := Lib.hid hr
  clear hb1 hr
  by_cases h0 : 0 ≤ r
  · go_wp2
    go_ret
    exact ret_bool (by rw [← Hr.out]; first | done | simp [h0]) Hb.out
  · go_wp2
    go_ret
    exact ret_bool (by rw [← Hr.out]; first | done | simp [h0]) Hb.out
def R86 (l : List Sheet) (p : Sheet → Bool) (w0 : World) (i : Value) (w : World) : Prop := ∃ k : Nat, k ≤ l.length ∧ i = .int .i64 k ∧ Below w0.heap.size w0 w ∧ (l.take k).all (fun x => !p x) = true
set_option maxHeartbeats 400000 in
theorem index86_any (A : Option Addr) (c : Nat) (l : List Sheet) (w : World) (h : At w w.heap.size 3 Sheet.cells A l) (hl : l.length ≤ 9223372036854775807) :
    Calls Tryd.prog 86 #[.slice A l.length c, .func (.func 68) #[] #[]] w (RetIdx (l.any badSheet) w) := by
  go_enter Tryd.func86, Tryd.ntmps86
  go_wp2
  go_loopw [8] (fun i wr => R86 l badSheet w i wr) (fun i _ => l.length - (intOf i).toNat)
  case atStart => exact ⟨0, by omega, rfl, Below.refl _ _, rfl⟩
  case round =>
    obtain ⟨k, hk, rfl, hb, hall⟩ := hrel
    by_cases hlt : k < l.length
    · obtain ⟨b, off, rfl, hbk, hcs⟩ := h.below hb k l[k] (List.getElem?_eq_getElem hlt)
      have h0 := hcs 0 _ rfl
      have h1 := hcs 1 _ rfl
      have h2 := hcs 2 _ rfl
      simp only [Nat.add_zero] at h0
      have hbr : Below wr.heap.size wr wr := Below.refl _ _
      have Hb := Lib.hid hb
      have Ha := Lib.hid (all_step (p := fun x => !badSheet x) hlt hall)
      have Hf := Lib.hid (show badSheet l[k] = true → l.any badSheet = true from fun e => List.any_eq_true.2 ⟨_, List.getElem_mem hlt, e⟩)
      generalize l[k] = x at *
      clear hall h hcs hb
      go_wp2_with fail
      refine (badSheet_any x wr).mono ?_
      rintro e w1 ⟨rfl, hb1⟩
      have hbw := Lib.hid (Hb.out.trans (hb1.mono Hb.out.size))
      generalize hq : badSheet x = q
      rw [hq] at Ha Hf
      clear hb1
      cases q
      · go_wp2
        all_goals (first | (refine ⟨?_, ?_⟩; (unfold R86; exact ⟨k + 1, by omega, by go_num, hbw.out, Ha.out (by simp)⟩); (simp [intOf]; omega)) | (go_roundw; (case rel => (unfold R86; exact ⟨k + 1, by omega, by go_num, hbw.out, Ha.out (by simp)⟩)); (case measure => (simp [intOf]; omega))) | (go_round; (case rel => (unfold R86; exact ⟨k + 1, by omega, by go_num, hbw.out, Ha.out (by simp)⟩)); (case measure => (simp [intOf]; omega))))
      · go_wp2
        go_ret
        exact ⟨_, rfl, by rw [Hf.out (by simp)]; simp, hbw.out⟩
    · have e := all_full hlt hall
      go_wp2
      go_ret
      refine ⟨_, rfl, ?_, hb⟩
      rw [show l.any badSheet = false from any_false e]
      simp
set_option maxHeartbeats 400000 in
theorem contains75_any (A : Option Addr) (c : Nat) (l : List Sheet) (w : World) (h : At w w.heap.size 3 Sheet.cells A l) (hl : l.length ≤ 9223372036854775807) :
    Calls Tryd.prog 75 #[.slice A l.length c, .func (.func 68) #[] #[]] w (Ret (.bool (l.any badSheet)) w) := by
  go_enter Tryd.func75, Tryd.ntmps75
  go_wp2_with fail
  refine (index86_any  _ _ _ _ h hl).mono ?_
  rintro e w1 ⟨r, rfl, hr, hb1⟩
  have Hb := Lib.hid hb1
  have Hr := Lib.hid hr
  clear hb1 hr
  by_cases h0 : 0 ≤ r
  · go_wp2
    go_ret
    exact ret_bool (by rw [← Hr.out]; first | done | simp [h0]) Hb.out
  · go_wp2
    go_ret
    exact ret_bool (by rw [← Hr.out]; first | done | simp [h0]) Hb.out
def R87 (l : List Licence) (p : Licence → Bool) (w0 : World) (i : Value) (w : World) : Prop := ∃ k : Nat, k ≤ l.length ∧ i = .int .i64 k ∧ Below w0.heap.size w0 w ∧ (l.take k).all (fun x => !p x) = true
set_option maxHeartbeats 400000 in
theorem index87_any (A : Option Addr) (c : Nat) (l : List Licence) (w : World) (h : At w w.heap.size 4 Licence.cells A l) (hl : l.length ≤ 9223372036854775807) :
    Calls Tryd.prog 87 #[.slice A l.length c, .func (.func 70) #[] #[]] w (RetIdx (l.any badLic) w) := by
  go_enter Tryd.func87, Tryd.ntmps87
  go_wp2
  go_loopw [8] (fun i wr => R87 l badLic w i wr) (fun i _ => l.length - (intOf i).toNat)
  case atStart => exact ⟨0, by omega, rfl, Below.refl _ _, rfl⟩
  case round =>
    obtain ⟨k, hk, rfl, hb, hall⟩ := hrel
    by_cases hlt : k < l.length
    · obtain ⟨b, off, rfl, hbk, hcs⟩ := h.below hb k l[k] (List.getElem?_eq_getElem hlt)
      have h0 := hcs 0 _ rfl
      have h1 := hcs 1 _ rfl
      have h2 := hcs 2 _ rfl
      have h3 := hcs 3 _ rfl
      simp only [Nat.add_zero] at h0
      have hbr : Below wr.heap.size wr wr := Below.refl _ _
      have Hb := Lib.hid hb
      have Ha := Lib.hid (all_step (p := fun x => !badLic x) hlt hall)
      have Hf := Lib.hid (show badLic l[k] = true → l.any badLic = true from fun e => List.any_eq_true.2 ⟨_, List.getElem_mem hlt, e⟩)
      generalize l[k] = x at *
      clear hall h hcs hb
      go_wp2_with fail
      refine (badLicence_any x wr).mono ?_
      rintro e w1 ⟨rfl, hb1⟩
      have hbw := Lib.hid (Hb.out.trans (hb1.mono Hb.out.size))
      generalize hq : badLic x = q
      rw [hq] at Ha Hf
      clear hb1
      cases q
      · go_wp2
        all_goals (first | (refine ⟨?_, ?_⟩; (unfold R87; exact ⟨k + 1, by omega, by go_num, hbw.out, Ha.out (by simp)⟩); (simp [intOf]; omega)) | (go_roundw; (case rel => (unfold R87; exact ⟨k + 1, by omega, by go_num, hbw.out, Ha.out (by simp)⟩)); (case measure => (simp [intOf]; omega))) | (go_round; (case rel => (unfold R87; exact ⟨k + 1, by omega, by go_num, hbw.out, Ha.out (by simp)⟩)); (case measure => (simp [intOf]; omega))))
      · go_wp2
        go_ret
        exact ⟨_, rfl, by rw [Hf.out (by simp)]; simp, hbw.out⟩
    · have e := all_full hlt hall
      go_wp2
      go_ret
      refine ⟨_, rfl, ?_, hb⟩
      rw [show l.any badLic = false from any_false e]
      simp
set_option maxHeartbeats 400000 in
theorem contains76_any (A : Option Addr) (c : Nat) (l : List Licence) (w : World) (h : At w w.heap.size 4 Licence.cells A l) (hl : l.length ≤ 9223372036854775807) :
    Calls Tryd.prog 76 #[.slice A l.length c, .func (.func 70) #[] #[]] w (Ret (.bool (l.any badLic)) w) := by
  go_enter Tryd.func76, Tryd.ntmps76
  go_wp2_with fail
  refine (index87_any  _ _ _ _ h hl).mono ?_
  rintro e w1 ⟨r, rfl, hr, hb1⟩
  have Hb := Lib.hid hb1
  have Hr := Lib.hid hr
  clear hb1 hr
  by_cases h0 : 0 ≤ r
  · go_wp2
    go_ret
    exact ret_bool (by rw [← Hr.out]; first | done | simp [h0]) Hb.out
  · go_wp2
    go_ret
    exact ret_bool (by rw [← Hr.out]; first | done | simp [h0]) Hb.out
set_option maxHeartbeats 400000 in
theorem badMake_any (s : Store) (bs bf : Nat) (x : Make) (w : World) (hx : SBox w bs s) (hf : bf < w.heap.size ∧ w.cell? ⟨bf, 0, none⟩ = some (.func (.func 71) #[] #[])) (_l1 : s.sheets.length ≤ 9223372036854775807) (l2 : s.lics.length ≤ 9223372036854775807)
    (ht : At w w.heap.size 1 icell x.A x.takes) (lt : x.takes.length ≤ 9223372036854775807) :
    Calls Tryd.prog 72 #[.agg #[.int .i64 x.pic, .slice x.A x.takes.length x.c], .pointer (some ⟨bs, 0, none⟩), .pointer (some ⟨bf, 0, none⟩)] w (Ret (.bool (badMake s x)) w) := by
  have Hk := Lib.hid (show Make.ok s.lics.length s.sheets.length x = (inS x.pic 0 (s.lics.length - 1) && (decide ((x.takes.length : Int) = s.sheets.length) && x.takes.all tok)) from rfl)
  obtain ⟨hz, c0, c1, c2, c3⟩ := hx
  obtain ⟨hfl, hfc⟩ := hf
  have Ht := Lib.hid ((ht.below ((Below.refl _ _).alloc (Nat.le_refl _) (.cells #[.int .i64 x.pic, .slice x.A x.takes.length x.c] 61))).more (show w.heap.size ≤ (w.alloc (.cells #[.int .i64 x.pic, .slice x.A x.takes.length x.c] 61)).heap.size by simp))
  have Hbr := Lib.hid ((Below.refl w.heap.size w).alloc (Nat.le_refl _) (.cells #[.int .i64 x.pic, .slice x.A x.takes.length x.c] 61))
  clear ht
  go_enter Tryd.func72, Tryd.ntmps72
  rcases chain2 (inS x.pic 0 (s.lics.length - 1)) (decide ((x.takes.length : Int) = s.sheets.length)) with a1 | ⟨a1, a2⟩ | ⟨a1, a2⟩
  · go_wp2_with (go_at_call 59; (with_reducible refine (within_any _ _ _ _).mono ?_); rintro e w' ⟨rfl, rfl⟩)
    go_ret
    exact ret_bool (by unfold badMake; rw [Hk.out, a1]; rfl) Hbr.out
  · have a3 : ((x.takes.length : Int) != s.sheets.length) = true := by rw [bne_iff_ne]; exact of_decide_eq_false a2
    go_wp2_with (go_at_call 59; (with_reducible refine (within_any _ _ _ _).mono ?_); rintro e w' ⟨rfl, rfl⟩)
    go_ret
    exact ret_bool (by unfold badMake; rw [Hk.out, a1, a2]; rfl) Hbr.out
  · have a3 : ((x.takes.length : Int) != s.sheets.length) = false := by rw [bne_eq_false_iff_eq]; exact of_decide_eq_true a2
    have A2 := Lib.hid a2
    clear a2
    go_wp2_with (first | (go_at_call 59; (with_reducible refine (within_any _ _ _ _).mono ?_); rintro e w' ⟨rfl, rfl⟩) | fail)
    refine (contains73_any _ _ _ _ Ht.out lt).mono ?_
    rintro e w1 ⟨rfl, hb1⟩
    have Hb1 := Lib.hid (Hbr.out.trans (hb1.mono (by simp)))
    clear hb1
    go_wp2
    go_ret
    refine ret_bool ?_ Hb1.out
    unfold badMake
    rw [Hk.out, a1, A2.out]
    simp [List.all_eq_not_any_not]
    rfl
set_option maxHeartbeats 400000 in
theorem badWish_any (s : Store) (bs : Nat) (x : Wish) (w : World) (hx : SBox w bs s) (l3 : s.makes.length ≤ 9223372036854775807) :
    Calls Tryd.prog 74 #[.agg #[.int .i64 x.puz, .int .i64 x.many, .int .i64 x.hour, .int .i64 x.price, .int .i64 x.ship], .pointer (some ⟨bs, 0, none⟩)] w (Ret (.bool (badWish s x)) w) := by
  have Hk := Lib.hid (show Wish.ok s.makes.length x = (inS x.puz 0 (s.makes.length - 1) && (inS x.many 1 1000 && (inS x.hour 0 1048576 && (inS x.price 0 10000 && inS x.ship 0 100000)))) from rfl)
  obtain ⟨hz, c0, c1, c2, c3⟩ := hx
  have Hbr := Lib.hid ((Below.refl w.heap.size w).alloc (Nat.le_refl _) (.cells #[.int .i64 x.puz, .int .i64 x.many, .int .i64 x.hour, .int .i64 x.price, .int .i64 x.ship] 57))
  go_enter Tryd.func74, Tryd.ntmps74
  go_wp2_with (go_at_call 59; (with_reducible refine (within_any _ _ _ _).mono ?_); rintro e w' ⟨rfl, rfl⟩; generalize hq : inS _ _ _ = q; cases q)
  all_goals (go_ret; exact ret_bool (by unfold badWish; rw [Hk.out]; simp [*]) Hbr.out)
def R88 (l : List Make) (p : Make → Bool) (w0 : World) (i : Value) (w : World) : Prop := ∃ k : Nat, k ≤ l.length ∧ i = .int .i64 k ∧ Below w0.heap.size w0 w ∧ (l.take k).all (fun x => !p x) = true
set_option maxHeartbeats 400000 in
theorem index88_any (s : Store) (bs bf : Nat) (A : Option Addr) (c : Nat) (l : List Make) (w : World) (h : At w w.heap.size 2 Make.cells A l) (hl : l.length ≤ 9223372036854775807) (hx : SBox w bs s) (hf : bf < w.heap.size ∧ w.cell? ⟨bf, 0, none⟩ = some (.func (.func 71) #[] #[])) (l1 : s.sheets.length ≤ 9223372036854775807) (l2 : s.lics.length ≤ 9223372036854775807) (ht : ∀ m ∈ l, At w w.heap.size 1 icell m.A m.takes ∧ m.takes.length ≤ 9223372036854775807) :
    Calls Tryd.prog 88 #[.slice A l.length c, .func (.func 72) #[] #[.pointer (some ⟨bs, 0, none⟩), .pointer (some ⟨bf, 0, none⟩)]] w (RetIdx (l.any (badMake s)) w) := by
  go_enter Tryd.func88, Tryd.ntmps88
  go_wp2
  go_loopw [8] (fun i wr => R88 l (badMake s) w i wr) (fun i _ => l.length - (intOf i).toNat)
  case atStart => exact ⟨0, by omega, rfl, Below.refl _ _, rfl⟩
  case round =>
    obtain ⟨k, hk, rfl, hb, hall⟩ := hrel
    by_cases hlt : k < l.length
    · obtain ⟨b, off, rfl, hbk, hcs⟩ := h.below hb k l[k] (List.getElem?_eq_getElem hlt)
      have h0 := hcs 0 _ rfl
      have h1 := hcs 1 _ rfl
      simp only [Nat.add_zero] at h0
      have hbr : Below wr.heap.size wr wr := Below.refl _ _
      have Hb := Lib.hid hb
      have Ha := Lib.hid (all_step (p := fun x => !(badMake s) x) hlt hall)
      have Hf := Lib.hid (show (badMake s) l[k] = true → l.any (badMake s) = true from fun e => List.any_eq_true.2 ⟨_, List.getElem_mem hlt, e⟩)
      have Hm := Lib.hid (show At wr wr.heap.size 1 icell l[k].A l[k].takes ∧ l[k].takes.length ≤ 9223372036854775807 from ⟨((ht _ (List.getElem_mem hlt)).1.below hb).more hb.size, (ht _ (List.getElem_mem hlt)).2⟩)
      have Hx := Lib.hid (hx.next hb)
      have Hff := Lib.hid (show bf < wr.heap.size ∧ wr.cell? ⟨bf, 0, none⟩ = some (.func (.func 71) #[] #[]) from ⟨Nat.lt_of_lt_of_le hf.1 hb.size, (hb.cell (p := ⟨bf, 0, none⟩) hf.1).trans hf.2⟩)
      clear hx hf ht
      generalize l[k] = x at *
      clear hall h hcs hb
      go_wp2_with fail
      refine (badMake_any s bs bf x wr Hx.out Hff.out l1 l2 Hm.out.1 Hm.out.2).mono ?_
      rintro e w1 ⟨rfl, hb1⟩
      have hbw := Lib.hid (Hb.out.trans (hb1.mono Hb.out.size))
      generalize hq : badMake s x = q
      rw [hq] at Ha Hf
      clear hb1
      cases q
      · go_wp2
        all_goals (first | (refine ⟨?_, ?_⟩; (unfold R88; exact ⟨k + 1, by omega, by go_num, hbw.out, Ha.out (by simp)⟩); (simp [intOf]; omega)) | (go_roundw; (case rel => (unfold R88; exact ⟨k + 1, by omega, by go_num, hbw.out, Ha.out (by simp)⟩)); (case measure => (simp [intOf]; omega))) | (go_round; (case rel => (unfold R88; exact ⟨k + 1, by omega, by go_num, hbw.out, Ha.out (by simp)⟩)); (case measure => (simp [intOf]; omega))))
      · go_wp2
        go_ret
        exact ⟨_, rfl, by rw [Hf.out (by simp)]; simp, hbw.out⟩
    · have e := all_full hlt hall
      go_wp2
      go_ret
      refine ⟨_, rfl, ?_, hb⟩
      rw [show l.any (badMake s) = false from any_false e]
      simp
set_option maxHeartbeats 400000 in
theorem contains77_any (s : Store) (bs bf : Nat) (A : Option Addr) (c : Nat) (l : List Make) (w : World) (h : At w w.heap.size 2 Make.cells A l) (hl : l.length ≤ 9223372036854775807) (hx : SBox w bs s) (hf : bf < w.heap.size ∧ w.cell? ⟨bf, 0, none⟩ = some (.func (.func 71) #[] #[])) (l1 : s.sheets.length ≤ 9223372036854775807) (l2 : s.lics.length ≤ 9223372036854775807) (ht : ∀ m ∈ l, At w w.heap.size 1 icell m.A m.takes ∧ m.takes.length ≤ 9223372036854775807) :
    Calls Tryd.prog 77 #[.slice A l.length c, .func (.func 72) #[] #[.pointer (some ⟨bs, 0, none⟩), .pointer (some ⟨bf, 0, none⟩)]] w (Ret (.bool (l.any (badMake s))) w) := by
  go_enter Tryd.func77, Tryd.ntmps77
  go_wp2_with fail
  refine (index88_any s bs bf _ _ _ _ h hl hx hf l1 l2 ht).mono ?_
  rintro e w1 ⟨r, rfl, hr, hb1⟩
  have Hb := Lib.hid hb1
  have Hr := Lib.hid hr
  clear hb1 hr
  by_cases h0 : 0 ≤ r
  · go_wp2
    go_ret
    exact ret_bool (by rw [← Hr.out]; first | done | simp [h0]) Hb.out
  · go_wp2
    go_ret
    exact ret_bool (by rw [← Hr.out]; first | done | simp [h0]) Hb.out
def R89 (l : List Wish) (p : Wish → Bool) (w0 : World) (i : Value) (w : World) : Prop := ∃ k : Nat, k ≤ l.length ∧ i = .int .i64 k ∧ Below w0.heap.size w0 w ∧ (l.take k).all (fun x => !p x) = true
set_option maxHeartbeats 400000 in
theorem index89_any (s : Store) (bs : Nat) (A : Option Addr) (c : Nat) (l : List Wish) (w : World) (h : At w w.heap.size 5 Wish.cells A l) (hl : l.length ≤ 9223372036854775807) (hx : SBox w bs s) (l3 : s.makes.length ≤ 9223372036854775807) :
    Calls Tryd.prog 89 #[.slice A l.length c, .func (.func 74) #[] #[.pointer (some ⟨bs, 0, none⟩)]] w (RetIdx (l.any (badWish s)) w) := by
  go_enter Tryd.func89, Tryd.ntmps89
  go_wp2
  go_loopw [8] (fun i wr => R89 l (badWish s) w i wr) (fun i _ => l.length - (intOf i).toNat)
  case atStart => exact ⟨0, by omega, rfl, Below.refl _ _, rfl⟩
  case round =>
    obtain ⟨k, hk, rfl, hb, hall⟩ := hrel
    by_cases hlt : k < l.length
    · obtain ⟨b, off, rfl, hbk, hcs⟩ := h.below hb k l[k] (List.getElem?_eq_getElem hlt)
      have h0 := hcs 0 _ rfl
      have h1 := hcs 1 _ rfl
      have h2 := hcs 2 _ rfl
      have h3 := hcs 3 _ rfl
      have h4 := hcs 4 _ rfl
      simp only [Nat.add_zero] at h0
      have hbr : Below wr.heap.size wr wr := Below.refl _ _
      have Hb := Lib.hid hb
      have Ha := Lib.hid (all_step (p := fun x => !(badWish s) x) hlt hall)
      have Hf := Lib.hid (show (badWish s) l[k] = true → l.any (badWish s) = true from fun e => List.any_eq_true.2 ⟨_, List.getElem_mem hlt, e⟩)
      have Hx := Lib.hid (hx.next hb)
      clear hx
      generalize l[k] = x at *
      clear hall h hcs hb
      go_wp2_with fail
      refine (badWish_any s bs x wr Hx.out l3).mono ?_
      rintro e w1 ⟨rfl, hb1⟩
      have hbw := Lib.hid (Hb.out.trans (hb1.mono Hb.out.size))
      generalize hq : badWish s x = q
      rw [hq] at Ha Hf
      clear hb1
      cases q
      · go_wp2
        all_goals (first | (refine ⟨?_, ?_⟩; (unfold R89; exact ⟨k + 1, by omega, by go_num, hbw.out, Ha.out (by simp)⟩); (simp [intOf]; omega)) | (go_roundw; (case rel => (unfold R89; exact ⟨k + 1, by omega, by go_num, hbw.out, Ha.out (by simp)⟩)); (case measure => (simp [intOf]; omega))) | (go_round; (case rel => (unfold R89; exact ⟨k + 1, by omega, by go_num, hbw.out, Ha.out (by simp)⟩)); (case measure => (simp [intOf]; omega))))
      · go_wp2
        go_ret
        exact ⟨_, rfl, by rw [Hf.out (by simp)]; simp, hbw.out⟩
    · have e := all_full hlt hall
      go_wp2
      go_ret
      refine ⟨_, rfl, ?_, hb⟩
      rw [show l.any (badWish s) = false from any_false e]
      simp
set_option maxHeartbeats 400000 in
theorem contains78_any (s : Store) (bs : Nat) (A : Option Addr) (c : Nat) (l : List Wish) (w : World) (h : At w w.heap.size 5 Wish.cells A l) (hl : l.length ≤ 9223372036854775807) (hx : SBox w bs s) (l3 : s.makes.length ≤ 9223372036854775807) :
    Calls Tryd.prog 78 #[.slice A l.length c, .func (.func 74) #[] #[.pointer (some ⟨bs, 0, none⟩)]] w (Ret (.bool (l.any (badWish s))) w) := by
  go_enter Tryd.func78, Tryd.ntmps78
  go_wp2_with fail
  refine (index89_any s bs _ _ _ _ h hl hx l3).mono ?_
  rintro e w1 ⟨r, rfl, hr, hb1⟩
  have Hb := Lib.hid hb1
  have Hr := Lib.hid hr
  clear hb1 hr
  by_cases h0 : 0 ≤ r
  · go_wp2
    go_ret
    exact ret_bool (by rw [← Hr.out]; first | done | simp [h0]) Hb.out
  · go_wp2
    go_ret
    exact ret_bool (by rw [← Hr.out]; first | done | simp [h0]) Hb.out
end Go.Proofs.YtfffhbolaimmdaaDoor
