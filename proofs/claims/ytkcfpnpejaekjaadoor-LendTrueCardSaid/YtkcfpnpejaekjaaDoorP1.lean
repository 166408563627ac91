import Derived.Test.YtkcfpnpejaekjaaDoorR1
import Derived.Handy
import Derived.Laws.BitsAllLaws
namespace Go.Proofs.YtkcfpnpejaekjaaDoor
open Go.RowKit
/-! The program's small functions. -/
def badLook (n : Nat) (s : Look) : Bool := !okLook n s
def badAdm (m : Int) : Bool := !okAdm m
def RetIdx {α : Type} (l : List α) (p : α → Bool) (w : World) (e : Ending) (w' : World) : Prop := ∃ r : Int, e = .returned (.int .i64 r) ∧ decide (0 ≤ r) = l.any p ∧ (∀ k : Nat, r = k → ∃ x, l[k]? = some x ∧ p x = true ∧ l.find? p = some x) ∧ Below w.heap.size w w'
theorem any_false {α : Type} {l : List α} {p : α → Bool} (h : l.all (fun x => !p x) = true) : l.any p = false := by
  rw [List.any_eq_false]
  intro x hx e
  have := List.all_eq_true.1 h x hx
  simp [e] at this
theorem find_first {α : Type} {p : α → Bool} : ∀ {l : List α} {k : Nat} (hk : k < l.length), (l.take k).all (fun x => !p x) = true → p l[k] = true → l.find? p = some l[k]
  | x :: l, 0, _, _, h => by
    have h : p x = true := h
    rw [List.find?_cons, h]; rfl
  | x :: l, k + 1, hk, ha, h => by
    rw [List.take_succ_cons, List.all_cons, Bool.and_eq_true, Bool.not_eq_true'] at ha
    rw [List.find?_cons, ha.1]
    exact find_first (l := l) (by simpa using hk) ha.2 h
set_option maxHeartbeats 400000 in
theorem within_any (a b c : Int) (w : World) : Calls Tryd.prog 31 #[.int .i64 a, .int .i64 b, .int .i64 c] w (RetQ (.bool (inS a b c)) w) := by
  go_enter Tryd.func31, Tryd.ntmps31
  go_wp2
  all_goals (go_ret; refine retq_bool ?_; unfold inS; rw [Bool.eq_iff_iff]; simp; try omega)
set_option maxHeartbeats 400000 in
theorem isIn_any (h : Int) (x : Loan) (w : World) : Calls Tryd.prog 32 #[.int .i64 h, .agg #[.int .i64 x.p, .int .i64 x.a, .int .i64 x.b]] w (Ret (.bool (inLoan h x)) w) := by
  go_enter Tryd.func32, Tryd.ntmps32
  go_wp2
  all_goals (go_ret; refine ret_bool ?_ (nxA _ _); unfold inLoan; rw [Bool.eq_iff_iff]; simp; try omega)
set_option maxHeartbeats 400000 in
theorem overlaps_any (x y : Loan) (w : World) : Calls Tryd.prog 57 #[.agg #[.int .i64 x.p, .int .i64 x.a, .int .i64 x.b], .agg #[.int .i64 y.p, .int .i64 y.a, .int .i64 y.b]] w (Ret (.bool (crossL x y)) w) := by
  go_enter Tryd.func57, Tryd.ntmps57
  go_wp2
  all_goals (go_ret; refine ret_bool ?_ ((nxA _ _).trans ((nxA _ _).mono (by simp))); unfold crossL; rw [Bool.eq_iff_iff]; simp; try omega)
set_option maxHeartbeats 400000 in
theorem cross_any (y : Loan) (bm : Nat) (x : Loan) (w : World) (hx : Bx w bm y.cells) : Calls Tryd.prog 56 #[.agg #[.int .i64 x.p, .int .i64 x.a, .int .i64 x.b], .pointer (some ⟨bm, 0, none⟩)] w (Ret (.bool (crossL y x)) w) := by
  have c0 := hx.c 0 _ rfl
  have c1 := hx.c 1 _ rfl
  have c2 := hx.c 2 _ rfl
  have hlt := hx.lt
  clear hx
  have HB := Lib.hid (nxA w (.cells #[.int .i64 x.p, .int .i64 x.a, .int .i64 x.b] 44))
  go_enter Tryd.func56, Tryd.ntmps56
  go_wp2_with fail
  refine (overlaps_any y x _).mono ?_
  rintro e w1 ⟨rfl, hb1⟩
  have Hb := Lib.hid (HB.out.trans (hb1.mono HB.out.size))
  clear hb1
  go_wp2
  go_ret
  exact ret_bool rfl Hb.out
set_option maxHeartbeats 400000 in
theorem badAdm_any (x : Int) (w : World) : Calls Tryd.prog 54 #[.int .i64 x] w (Ret (.bool (badAdm x)) w) := by
  go_enter Tryd.func54, Tryd.ntmps54
  go_wp2_with (go_at_call 31; (with_reducible refine (within_any _ _ _ _).mono ?_); rintro e w' ⟨rfl, rfl⟩)
  go_ret
  exact ret_bool rfl (Below.refl _ _)
theorem i64_and_nat (a b : Nat) (ha : a < 9223372036854775808) (hb : b < 9223372036854775808) : bits .and .i64 (a : Int) (b : Int) = ((a &&& b : Nat) : Int) := by
  have hx : a &&& b < 2 ^ 63 := Nat.and_lt_two_pow _ (by omega)
  have h1 : (BitVec.ofInt 64 (a : Int)).toNat = a := by
    rw [BitVec.ofInt_natCast, BitVec.toNat_ofNat]; exact Nat.mod_eq_of_lt (by omega)
  have h2 : (BitVec.ofInt 64 (b : Int)).toNat = b := by
    rw [BitVec.ofInt_natCast, BitVec.toNat_ofNat]; exact Nat.mod_eq_of_lt (by omega)
  show IntKind.i64.wrap ((BitVec.ofInt 64 (a : Int) &&& BitVec.ofInt 64 (b : Int)).toNat : Int) = _
  rw [BitVec.toNat_and, h1, h2, IntKind.wrap_i64]
  omega
theorem i64_or_nat (a b : Nat) (ha : a < 9223372036854775808) (hb : b < 9223372036854775808) : bits .or .i64 (a : Int) (b : Int) = ((a ||| b : Nat) : Int) := by
  have hx : a ||| b < 2 ^ 63 := Nat.or_lt_two_pow (by omega) (by omega)
  have h1 : (BitVec.ofInt 64 (a : Int)).toNat = a := by
    rw [BitVec.ofInt_natCast, BitVec.toNat_ofNat]; exact Nat.mod_eq_of_lt (by omega)
  have h2 : (BitVec.ofInt 64 (b : Int)).toNat = b := by
    rw [BitVec.ofInt_natCast, BitVec.toNat_ofNat]; exact Nat.mod_eq_of_lt (by omega)
  show IntKind.i64.wrap ((BitVec.ofInt 64 (a : Int) ||| BitVec.ofInt 64 (b : Int)).toNat : Int) = _
  rw [BitVec.toNat_or, h1, h2, IntKind.wrap_i64]
  omega
theorem and_nat {n : Nat} (hn : n ≤ 16) {a b : Int} (ha : inS a 0 (powI n - 1) = true) (hb : inS b 0 (powI n - 1) = true) : bits BinOp.and IntKind.i64 a b = ((a.toNat &&& b.toNat : Nat) : Int) := by
  rw [inS_iff] at ha hb
  have := (powI_bd (n := n) (by omega)).2
  have h1 : powI n ≤ 65536 := by
    have : 2 ^ n ≤ 2 ^ 16 := Nat.pow_le_pow_right (by omega) hn
    unfold powI; omega
  rw [show a = (a.toNat : Int) by omega, show b = (b.toNat : Int) by omega]
  rw [i64_and_nat _ _ (by omega) (by omega), Int.toNat_natCast, Int.toNat_natCast]
set_option maxHeartbeats 400000 in
theorem badLook_any (n bm : Nat) (x : Look) (w : World) (hx : Bx w bm [.int .i64 (powI n - 1)]) (hn : n ≤ 16) : Calls Tryd.prog 53 #[.agg #[.int .i64 x.h, .int .i64 x.there, .int .i64 x.gone], .pointer (some ⟨bm, 0, none⟩)] w (Ret (.bool (badLook n x)) w) := by
  have c0 := hx.c 0 _ rfl
  have hlt := hx.lt
  clear hx
  have HB := Lib.hid (nxA w (.cells #[.int .i64 x.h, .int .i64 x.there, .int .i64 x.gone] 50))
  have Hk := Lib.hid (show okLook n x = (inS x.h 0 mxH && (inS x.there 0 (powI n - 1) && (inS x.gone 0 (powI n - 1) && decide (x.there.toNat &&& x.gone.toNat = 0)))) from rfl)
  have HA := Lib.hid (and_nat hn (a := x.there) (b := x.gone))
  go_enter Tryd.func53, Tryd.ntmps53
  rcases chain3 (inS x.h 0 mxH) (inS x.there 0 (powI n - 1)) (inS x.gone 0 (powI n - 1)) with a1 | ⟨a1, a2⟩ | ⟨a1, a2, a3⟩ | ⟨a1, a2, a3⟩
  all_goals
    go_wp2_with (go_at_call 31; (with_reducible refine (within_any _ _ _ _).mono ?_); rintro e w' ⟨rfl, rfl⟩)
    go_ret
    refine ret_bool ?_ HB.out
    unfold badLook
    rw [Hk.out]
    first
      | (simp [*]; done)
      | (rw [HA.out a2 a3, a1, a2, a3, Bool.eq_iff_iff]; simp; try omega)
def RCross (l : List Loan) (p : Loan → Bool) (w0 : World) (i : Value) (w : World) : Prop := ∃ k : Nat, k ≤ l.length ∧ i = .int .i64 k ∧ Below w0.heap.size w0 w ∧ (l.take k).all (fun x => !p x) = true
set_option maxHeartbeats 400000 in
theorem indexCross_any (y : Loan) (bm : Nat) (A : Option Addr) (c : Nat) (l : List Loan) (w : World) (h : At w w.heap.size 3 Loan.cells A l) (hl : l.length ≤ 9223372036854775807) (hx : Bx w bm y.cells) :
    Calls Tryd.prog 33 #[.slice A l.length c, .func (.func 56) #[] #[.pointer (some ⟨bm, 0, none⟩)]] w (RetIdx l (crossL y) w) := by
  go_enter Tryd.func33, Tryd.ntmps33
  go_wp2
  go_loopw [8] (fun i wr => RCross l (crossL y) w i wr) (fun i _ => l.length - (intOf i).toNat)
  case atStart => exact ⟨0, by omega, rfl, Below.refl _ _, rfl⟩
  case round =>
    obtain ⟨k, hk, rfl, hb, hall⟩ := hrel
    by_cases hlt : k < l.length
    · obtain ⟨b, off, rfl, hbk, hcs⟩ := h.below hb k l[k] (List.getElem?_eq_getElem hlt)
      have h0 := hcs 0 _ rfl
      have h1 := hcs 1 _ rfl
      have h2 := hcs 2 _ rfl
      simp only [Nat.add_zero] at h0
      have hbr : Below wr.heap.size wr wr := Below.refl _ _
      have Hb := Lib.hid hb
      have Ha := Lib.hid (all_step (p := fun x => !(crossL y) x) hlt hall)
      have Hf := Lib.hid (show (crossL y) l[k] = true → l.any (crossL y) = true from fun e => List.any_eq_true.2 ⟨_, List.getElem_mem hlt, e⟩)
      have Hg := Lib.hid (show (crossL y) l[k] = true → ∃ yy, l[k]? = some yy ∧ (crossL y) yy = true ∧ l.find? (crossL y) = some yy from fun e => ⟨_, List.getElem?_eq_getElem hlt, e, find_first hlt hall e⟩)
      have Hx := Lib.hid (hx.next hb)
      clear hx
      generalize l[k] = x at *
      clear hall h hcs hb
      go_wp2_with fail
      refine (cross_any y bm x wr Hx.out).mono ?_
      rintro e w1 ⟨rfl, hb1⟩
      have hbw := Lib.hid (Hb.out.trans (hb1.mono Hb.out.size))
      generalize hq : crossL y x = q
      rw [hq] at Ha Hf Hg
      clear hb1
      cases q
      · go_wp2
        all_goals (first | (refine ⟨?_, ?_⟩; (unfold RCross; exact ⟨k + 1, by omega, by go_num, hbw.out, Ha.out (by simp)⟩); (simp [intOf]; omega)) | (go_roundw; (case rel => (unfold RCross; exact ⟨k + 1, by omega, by go_num, hbw.out, Ha.out (by simp)⟩)); (case measure => (simp [intOf]; omega))) | (go_round; (case rel => (unfold RCross; exact ⟨k + 1, by omega, by go_num, hbw.out, Ha.out (by simp)⟩)); (case measure => (simp [intOf]; omega))))
      · go_wp2
        go_ret
        exact ⟨_, rfl, by rw [Hf.out (by simp)]; simp, fun k' e' => (show k = k' by omega) ▸ Hg.out (by simp), hbw.out⟩
    · have e := all_full hlt hall
      go_wp2
      go_ret
      refine ⟨_, rfl, ?_, fun k' e' => absurd e' (by omega), hb⟩
      rw [show l.any (crossL y) = false from any_false e]
      simp
set_option maxHeartbeats 400000 in
theorem containsCross_any (y : Loan) (bm : Nat) (A : Option Addr) (c : Nat) (l : List Loan) (w : World) (h : At w w.heap.size 3 Loan.cells A l) (hl : l.length ≤ 9223372036854775807) (hx : Bx w bm y.cells) :
    Calls Tryd.prog 55 #[.slice A l.length c, .func (.func 56) #[] #[.pointer (some ⟨bm, 0, none⟩)]] w (Ret (.bool (l.any (crossL y))) w) := by
  go_enter Tryd.func55, Tryd.ntmps55
  go_wp2_with fail
  refine (indexCross_any y bm _ _ _ _ h hl hx).mono ?_
  rintro e w1 ⟨r, rfl, hr, _, hb1⟩
  have Hb := Lib.hid hb1
  have Hr := Lib.hid hr
  clear hb1 hr
  by_cases h0 : 0 ≤ r
  · go_wp2
    go_ret
    exact ret_bool (by rw [← Hr.out]; first | done | simp [h0]) Hb.out
  · go_wp2
    go_ret
    exact ret_bool (by rw [← Hr.out]; first | done | simp [h0]) Hb.out
def RHold (l : List Loan) (p : Loan → Bool) (w0 : World) (i : Value) (w : World) : Prop := ∃ k : Nat, k ≤ l.length ∧ i = .int .i64 k ∧ Below w0.heap.size w0 w ∧ (l.take k).all (fun x => !p x) = true
set_option maxHeartbeats 400000 in
theorem indexHold_any (y : Int) (A : Option Addr) (c : Nat) (l : List Loan) (w : World) (h : At w w.heap.size 3 Loan.cells A l) (hl : l.length ≤ 9223372036854775807) :
    Calls Tryd.prog 33 #[.slice A l.length c, .func (.func 32) #[.int .i64 y] #[]] w (RetIdx l (inLoan y) w) := by
  go_enter Tryd.func33, Tryd.ntmps33
  go_wp2
  go_loopw [8] (fun i wr => RHold l (inLoan y) w i wr) (fun i _ => l.length - (intOf i).toNat)
  case atStart => exact ⟨0, by omega, rfl, Below.refl _ _, rfl⟩
  case round =>
    obtain ⟨k, hk, rfl, hb, hall⟩ := hrel
    by_cases hlt : k < l.length
    · obtain ⟨b, off, rfl, hbk, hcs⟩ := h.below hb k l[k] (List.getElem?_eq_getElem hlt)
      have h0 := hcs 0 _ rfl
      have h1 := hcs 1 _ rfl
      have h2 := hcs 2 _ rfl
      simp only [Nat.add_zero] at h0
      have hbr : Below wr.heap.size wr wr := Below.refl _ _
      have Hb := Lib.hid hb
      have Ha := Lib.hid (all_step (p := fun x => !(inLoan y) x) hlt hall)
      have Hf := Lib.hid (show (inLoan y) l[k] = true → l.any (inLoan y) = true from fun e => List.any_eq_true.2 ⟨_, List.getElem_mem hlt, e⟩)
      have Hg := Lib.hid (show (inLoan y) l[k] = true → ∃ yy, l[k]? = some yy ∧ (inLoan y) yy = true ∧ l.find? (inLoan y) = some yy from fun e => ⟨_, List.getElem?_eq_getElem hlt, e, find_first hlt hall e⟩)
      generalize l[k] = x at *
      clear hall h hcs hb
      go_wp2_with fail
      refine (isIn_any y x wr).mono ?_
      rintro e w1 ⟨rfl, hb1⟩
      have hbw := Lib.hid (Hb.out.trans (hb1.mono Hb.out.size))
      generalize hq : inLoan y x = q
      rw [hq] at Ha Hf Hg
      clear hb1
      cases q
      · go_wp2
        all_goals (first | (refine ⟨?_, ?_⟩; (unfold RHold; exact ⟨k + 1, by omega, by go_num, hbw.out, Ha.out (by simp)⟩); (simp [intOf]; omega)) | (go_roundw; (case rel => (unfold RHold; exact ⟨k + 1, by omega, by go_num, hbw.out, Ha.out (by simp)⟩)); (case measure => (simp [intOf]; omega))) | (go_round; (case rel => (unfold RHold; exact ⟨k + 1, by omega, by go_num, hbw.out, Ha.out (by simp)⟩)); (case measure => (simp [intOf]; omega))))
      · go_wp2
        go_ret
        exact ⟨_, rfl, by rw [Hf.out (by simp)]; simp, fun k' e' => (show k = k' by omega) ▸ Hg.out (by simp), hbw.out⟩
    · have e := all_full hlt hall
      go_wp2
      go_ret
      refine ⟨_, rfl, ?_, fun k' e' => absurd e' (by omega), hb⟩
      rw [show l.any (inLoan y) = false from any_false e]
      simp
set_option maxHeartbeats 400000 in
theorem containsHold_any (y : Int) (A : Option Addr) (c : Nat) (l : List Loan) (w : World) (h : At w w.heap.size 3 Loan.cells A l) (hl : l.length ≤ 9223372036854775807) :
    Calls Tryd.prog 55 #[.slice A l.length c, .func (.func 32) #[.int .i64 y] #[]] w (Ret (.bool (l.any (inLoan y))) w) := by
  go_enter Tryd.func55, Tryd.ntmps55
  go_wp2_with fail
  refine (indexHold_any y _ _ _ _ h hl).mono ?_
  rintro e w1 ⟨r, rfl, hr, _, hb1⟩
  have Hb := Lib.hid hb1
  have Hr := Lib.hid hr
  clear hb1 hr
  by_cases h0 : 0 ≤ r
  · go_wp2
    go_ret
    exact ret_bool (by rw [← Hr.out]; first | done | simp [h0]) Hb.out
  · go_wp2
    go_ret
    exact ret_bool (by rw [← Hr.out]; first | done | simp [h0]) Hb.out
def RLook (l : List Look) (p : Look → Bool) (w0 : World) (i : Value) (w : World) : Prop := ∃ k : Nat, k ≤ l.length ∧ i = .int .i64 k ∧ Below w0.heap.size w0 w ∧ (l.take k).all (fun x => !p x) = true
set_option maxHeartbeats 400000 in
theorem indexLook_any (y bm : Nat) (A : Option Addr) (c : Nat) (l : List Look) (w : World) (h : At w w.heap.size 3 Look.cells A l) (hl : l.length ≤ 9223372036854775807) (hx : Bx w bm [.int .i64 (powI y - 1)]) (hn : y ≤ 16) :
    Calls Tryd.prog 68 #[.slice A l.length c, .func (.func 53) #[] #[.pointer (some ⟨bm, 0, none⟩)]] w (RetIdx l (badLook y) w) := by
  go_enter Tryd.func68, Tryd.ntmps68
  go_wp2
  go_loopw [8] (fun i wr => RLook l (badLook y) w i wr) (fun i _ => l.length - (intOf i).toNat)
  case atStart => exact ⟨0, by omega, rfl, Below.refl _ _, rfl⟩
  case round =>
    obtain ⟨k, hk, rfl, hb, hall⟩ := hrel
    by_cases hlt : k < l.length
    · obtain ⟨b, off, rfl, hbk, hcs⟩ := h.below hb k l[k] (List.getElem?_eq_getElem hlt)
      have h0 := hcs 0 _ rfl
      have h1 := hcs 1 _ rfl
      have h2 := hcs 2 _ rfl
      simp only [Nat.add_zero] at h0
      have hbr : Below wr.heap.size wr wr := Below.refl _ _
      have Hb := Lib.hid hb
      have Ha := Lib.hid (all_step (p := fun x => !(badLook y) x) hlt hall)
      have Hf := Lib.hid (show (badLook y) l[k] = true → l.any (badLook y) = true from fun e => List.any_eq_true.2 ⟨_, List.getElem_mem hlt, e⟩)
      have Hg := Lib.hid (show (badLook y) l[k] = true → ∃ yy, l[k]? = some yy ∧ (badLook y) yy = true ∧ l.find? (badLook y) = some yy from fun e => ⟨_, List.getElem?_eq_getElem hlt, e, find_first hlt hall e⟩)
      have Hx := Lib.hid (hx.next hb)
      clear hx
      generalize l[k] = x at *
      clear hall h hcs hb
      go_wp2_with fail
      refine (badLook_any y bm x wr Hx.out hn).mono ?_
      rintro e w1 ⟨rfl, hb1⟩
      have hbw := Lib.hid (Hb.out.trans (hb1.mono Hb.out.size))
      generalize hq : badLook y x = q
      rw [hq] at Ha Hf Hg
      clear hb1
      cases q
      · go_wp2
        all_goals (first | (refine ⟨?_, ?_⟩; (unfold RLook; exact ⟨k + 1, by omega, by go_num, hbw.out, Ha.out (by simp)⟩); (simp [intOf]; omega)) | (go_roundw; (case rel => (unfold RLook; exact ⟨k + 1, by omega, by go_num, hbw.out, Ha.out (by simp)⟩)); (case measure => (simp [intOf]; omega))) | (go_round; (case rel => (unfold RLook; exact ⟨k + 1, by omega, by go_num, hbw.out, Ha.out (by simp)⟩)); (case measure => (simp [intOf]; omega))))
      · go_wp2
        go_ret
        exact ⟨_, rfl, by rw [Hf.out (by simp)]; simp, fun k' e' => (show k = k' by omega) ▸ Hg.out (by simp), hbw.out⟩
    · have e := all_full hlt hall
      go_wp2
      go_ret
      refine ⟨_, rfl, ?_, fun k' e' => absurd e' (by omega), hb⟩
      rw [show l.any (badLook y) = false from any_false e]
      simp
set_option maxHeartbeats 400000 in
theorem containsLook_any (y bm : Nat) (A : Option Addr) (c : Nat) (l : List Look) (w : World) (h : At w w.heap.size 3 Look.cells A l) (hl : l.length ≤ 9223372036854775807) (hx : Bx w bm [.int .i64 (powI y - 1)]) (hn : y ≤ 16) :
    Calls Tryd.prog 58 #[.slice A l.length c, .func (.func 53) #[] #[.pointer (some ⟨bm, 0, none⟩)]] w (Ret (.bool (l.any (badLook y))) w) := by
  go_enter Tryd.func58, Tryd.ntmps58
  go_wp2_with fail
  refine (indexLook_any y bm _ _ _ _ h hl hx hn).mono ?_
  rintro e w1 ⟨r, rfl, hr, _, hb1⟩
  have Hb := Lib.hid hb1
  have Hr := Lib.hid hr
  clear hb1 hr
  by_cases h0 : 0 ≤ r
  · go_wp2
    go_ret
    exact ret_bool (by rw [← Hr.out]; first | done | simp [h0]) Hb.out
  · go_wp2
    go_ret
    exact ret_bool (by rw [← Hr.out]; first | done | simp [h0]) Hb.out
def RAdm (l : List Int) (p : Int → Bool) (w0 : World) (i : Value) (w : World) : Prop := ∃ k : Nat, k ≤ l.length ∧ i = .int .i64 k ∧ Below w0.heap.size w0 w ∧ (l.take k).all (fun x => !p x) = true
set_option maxHeartbeats 400000 in
theorem indexAdm_any (A : Option Addr) (c : Nat) (l : List Int) (w : World) (h : At w w.heap.size 1 icell A l) (hl : l.length ≤ 9223372036854775807) :
    Calls Tryd.prog 69 #[.slice A l.length c, .func (.func 54) #[] #[]] w (RetIdx l badAdm w) := by
  go_enter Tryd.func69, Tryd.ntmps69
  go_wp2
  go_loopw [8] (fun i wr => RAdm l badAdm w i wr) (fun i _ => l.length - (intOf i).toNat)
  case atStart => exact ⟨0, by omega, rfl, Below.refl _ _, rfl⟩
  case round =>
    obtain ⟨k, hk, rfl, hb, hall⟩ := hrel
    by_cases hlt : k < l.length
    · obtain ⟨b, off, rfl, hbk, hcs⟩ := h.below hb k l[k] (List.getElem?_eq_getElem hlt)
      have h0 := hcs 0 _ rfl
      simp only [Nat.add_zero, Nat.mul_one] at h0
      have hbr : Below wr.heap.size wr wr := Below.refl _ _
      have Hb := Lib.hid hb
      have Ha := Lib.hid (all_step (p := fun x => !badAdm x) hlt hall)
      have Hf := Lib.hid (show badAdm l[k] = true → l.any badAdm = true from fun e => List.any_eq_true.2 ⟨_, List.getElem_mem hlt, e⟩)
      have Hg := Lib.hid (show badAdm l[k] = true → ∃ yy, l[k]? = some yy ∧ badAdm yy = true ∧ l.find? badAdm = some yy from fun e => ⟨_, List.getElem?_eq_getElem hlt, e, find_first hlt hall e⟩)
      generalize l[k] = x at *
      clear hall h hcs hb
      go_wp2_with fail
      refine (badAdm_any x wr).mono ?_
      rintro e w1 ⟨rfl, hb1⟩
      have hbw := Lib.hid (Hb.out.trans (hb1.mono Hb.out.size))
      generalize hq : badAdm x = q
      rw [hq] at Ha Hf Hg
      clear hb1
      cases q
      · go_wp2
        all_goals (first | (refine ⟨?_, ?_⟩; (unfold RAdm; exact ⟨k + 1, by omega, by go_num, hbw.out, Ha.out (by simp)⟩); (simp [intOf]; omega)) | (go_roundw; (case rel => (unfold RAdm; exact ⟨k + 1, by omega, by go_num, hbw.out, Ha.out (by simp)⟩)); (case measure => (simp [intOf]; omega))) | (go_round; (case rel => (unfold RAdm; exact ⟨k + 1, by omega, by go_num, hbw.out, Ha.out (by simp)⟩)); (case measure => (simp [intOf]; omega))))
      · go_wp2
        go_ret
        exact ⟨_, rfl, by rw [Hf.out (by simp)]; simp, fun k' e' => (show k = k' by omega) ▸ Hg.out (by simp), hbw.out⟩
    · have e := all_full hlt hall
      go_wp2
      go_ret
      refine ⟨_, rfl, ?_, fun k' e' => absurd e' (by omega), hb⟩
      rw [show l.any badAdm = false from any_false e]
      simp
set_option maxHeartbeats 400000 in
theorem containsAdm_any (A : Option Addr) (c : Nat) (l : List Int) (w : World) (h : At w w.heap.size 1 icell A l) (hl : l.length ≤ 9223372036854775807) :
    Calls Tryd.prog 59 #[.slice A l.length c, .func (.func 54) #[] #[]] w (Ret (.bool (l.any badAdm)) w) := by
  go_enter Tryd.func59, Tryd.ntmps59
  go_wp2_with fail
  refine (indexAdm_any  _ _ _ _ h hl).mono ?_
  rintro e w1 ⟨r, rfl, hr, _, hb1⟩
  have Hb := Lib.hid hb1
  have Hr := Lib.hid hr
  clear hb1 hr
  by_cases h0 : 0 ≤ r
  · go_wp2
    go_ret
    exact ret_bool (by rw [← Hr.out]; first | done | simp [h0]) Hb.out
  · go_wp2
    go_ret
    exact ret_bool (by rw [← Hr.out]; first | done | simp [h0]) Hb.out
end Go.Proofs.YtkcfpnpejaekjaaDoor
