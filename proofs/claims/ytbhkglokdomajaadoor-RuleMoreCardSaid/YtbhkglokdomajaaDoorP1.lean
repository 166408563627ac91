import Derived.Test.YtbhkglokdomajaaDoorR2
import Derived.Handy
namespace Go.Proofs.YtbhkglokdomajaaDoor
open Go.RowKit
/-! The program's small functions. -/
def badBlade (b : Blade) : Bool := !Blade.ok b
def badStint (t : Stint) : Bool := !Stint.ok t
def badSet (nb : Nat) (s : Int) : Bool := !inS s 0 (powI nb - 1)
/-- A die on the press, with what it has to run. -/
def mountL (d : Die) (A2 : Option Addr) (n2 c2 : Nat) : List Value := dieL d ++ [.slice A2 n2 c2]
def RetIdx (b : Bool) (w : World) (e : Ending) (w' : World) : Prop := ∃ r : Int, e = .returned (.int .i64 r) ∧ decide (0 ≤ r) = b ∧ Below w.heap.size w w'
theorem any_false {α : Type} {l : List α} {p : α → Bool} (h : l.all (fun x => !p x) = true) : l.any p = false := by
  rw [List.any_eq_false]
  intro x hx e
  have := List.all_eq_true.1 h x hx
  simp [e] at this
set_option maxHeartbeats 400000 in
theorem within_any (a b c : Int) (w : World) : Calls Tryd.prog 40 #[.int .i64 a, .int .i64 b, .int .i64 c] w (RetQ (.bool (inS a b c)) w) := by
  go_enter Tryd.func40, Tryd.ntmps40
  go_wp2
  all_goals (go_ret; refine retq_bool ?_; unfold inS; rw [Bool.eq_iff_iff]; simp; try omega)
set_option maxHeartbeats 400000 in
theorem isSpan_any (l h a b : Int) (w : World) :
    Calls Tryd.prog 60 #[.agg #[.int .i64 l, .int .i64 h], .int .i64 a, .int .i64 b] w (Ret (.bool (spanS l h a b)) w) := by
  go_enter Tryd.func60, Tryd.ntmps60
  go_wp2
  all_goals (go_ret; refine ret_bool ?_ ((Below.refl _ _).alloc (Nat.le_refl _) _); unfold spanS; rw [Bool.eq_iff_iff]; simp; try omega)
set_option maxHeartbeats 400000 in
theorem badBlade_any (x : Blade) (w : World) : Calls Tryd.prog 59 #[.agg #[.int .i64 x.fl, .int .i64 x.fh, .int .i64 x.wl, .int .i64 x.wh]] w (Ret (.bool (badBlade x)) w) := by
  have Hk := Lib.hid (show Blade.ok x = (spanS x.fl x.fh 0 10000 && spanS x.wl x.wh 0 10000) from rfl)
  have hbr := (Below.refl w.heap.size w).alloc (Nat.le_refl _) (.cells #[.int .i64 x.fl, .int .i64 x.fh, .int .i64 x.wl, .int .i64 x.wh] 53)
  go_enter Tryd.func59, Tryd.ntmps59
  rcases chain2 (spanS x.fl x.fh 0 10000) (spanS x.wl x.wh 0 10000) with a1 | ⟨a1, a2⟩ | ⟨a1, a2⟩
  all_goals
    go_wp2_with (go_at_call 60; (with_reducible refine (isSpan_any _ _ _ _ _).mono ?_); rintro e w1 ⟨rfl, hb1⟩; obtain ⟨hc1, hf1⟩ := bcell hb1; have hz1 := hb1.size; replace hbr := hbr.trans (hb1.mono (by first | simp | (have := hbr.size; simp at *; omega))))
    go_ret
    exact ret_bool (by unfold badBlade; rw [Hk.out]; simp [*]) hbr
set_option maxHeartbeats 400000 in
theorem badStint_any (x : Stint) (w : World) : Calls Tryd.prog 70 #[.agg #[.int .i64 x.n, .int .i64 x.more]] w (Ret (.bool (badStint x)) w) := by
  have Hk := Lib.hid (show Stint.ok x = (inS x.n 1 1000 && inS x.more 0 100000) from rfl)
  have Hbr := Lib.hid ((Below.refl w.heap.size w).alloc (Nat.le_refl _) (.cells #[.int .i64 x.n, .int .i64 x.more] 58))
  go_enter Tryd.func70, Tryd.ntmps70
  rcases chain2 (inS x.n 1 1000) (inS x.more 0 100000) with a1 | ⟨a1, a2⟩ | ⟨a1, a2⟩
  all_goals
    go_wp2_with (go_at_call 40; (with_reducible refine (within_any _ _ _ _).mono ?_); rintro e w' ⟨rfl, rfl⟩)
    go_ret
    exact ret_bool (by unfold badStint; rw [Hk.out]; simp [*]) Hbr.out
def RBlade (l : List Blade) (p : Blade → Bool) (w0 : World) (i : Value) (w : World) : Prop := ∃ k : Nat, k ≤ l.length ∧ i = .int .i64 k ∧ Below w0.heap.size w0 w ∧ (l.take k).all (fun x => !p x) = true
set_option maxHeartbeats 400000 in
theorem indexBlade_any (A : Option Addr) (c : Nat) (l : List Blade) (w : World) (h : At w w.heap.size 4 Blade.cells A l) (hl : l.length ≤ 9223372036854775807) :
    Calls Tryd.prog 69 #[.slice A l.length c, .func (.func 59) #[] #[]] w (RetIdx (l.any badBlade) w) := by
  go_enter Tryd.func69, Tryd.ntmps69
  go_wp2
  go_loopw [8] (fun i wr => RBlade l badBlade w i wr) (fun i _ => l.length - (intOf i).toNat)
  case atStart => exact ⟨0, by omega, rfl, Below.refl _ _, rfl⟩
  case round =>
    obtain ⟨k, hk, rfl, hb, hall⟩ := hrel
    by_cases hlt : k < l.length
    · obtain ⟨b, off, rfl, hbk, hcs⟩ := h.below hb k l[k] (List.getElem?_eq_getElem hlt)
      have h0 := hcs 0 _ rfl
      have h1 := hcs 1 _ rfl
      have h2 := hcs 2 _ rfl
      have h3 := hcs 3 _ rfl
      simp only [Nat.add_zero] at h0
      have hbr : Below wr.heap.size wr wr := Below.refl _ _
      have Hb := Lib.hid hb
      have Ha := Lib.hid (all_step (p := fun x => !badBlade x) hlt hall)
      have Hf := Lib.hid (show badBlade l[k] = true → l.any badBlade = true from fun e => List.any_eq_true.2 ⟨_, List.getElem_mem hlt, e⟩)
      generalize l[k] = x at *
      clear hall h hcs hb
      go_wp2_with fail
      refine (badBlade_any x wr).mono ?_
      rintro e w1 ⟨rfl, hb1⟩
      have hbw := Lib.hid (Hb.out.trans (hb1.mono Hb.out.size))
      generalize hq : badBlade x = q
      rw [hq] at Ha Hf
      clear hb1
      cases q
      · go_wp2
        all_goals (first | (refine ⟨?_, ?_⟩; (unfold RBlade; exact ⟨k + 1, by omega, by go_num, hbw.out, Ha.out (by simp)⟩); (simp [intOf]; omega)) | (go_roundw; (case rel => (unfold RBlade; exact ⟨k + 1, by omega, by go_num, hbw.out, Ha.out (by simp)⟩)); (case measure => (simp [intOf]; omega))) | (go_round; (case rel => (unfold RBlade; exact ⟨k + 1, by omega, by go_num, hbw.out, Ha.out (by simp)⟩)); (case measure => (simp [intOf]; omega))))
      · go_wp2
        go_ret
        exact ⟨_, rfl, by rw [Hf.out (by simp)]; simp, hbw.out⟩
    · have e := all_full hlt hall
      go_wp2
      go_ret
      refine ⟨_, rfl, ?_, hb⟩
      rw [show l.any badBlade = false from any_false e]
      simp
set_option maxHeartbeats 400000 in
theorem containsBlade_any (A : Option Addr) (c : Nat) (l : List Blade) (w : World) (h : At w w.heap.size 4 Blade.cells A l) (hl : l.length ≤ 9223372036854775807) :
    Calls Tryd.prog 61 #[.slice A l.length c, .func (.func 59) #[] #[]] w (Ret (.bool (l.any badBlade)) w) := by
  go_enter Tryd.func61, Tryd.ntmps61
  go_wp2_with fail
  refine (indexBlade_any  _ _ _ _ h hl).mono ?_
  rintro e w1 ⟨r, rfl, hr, hb1⟩
  have Hb := Lib.hid hb1
  have Hr := Lib.hid hr
  clear hb1 hr
  by_cases h0 : 0 ≤ r
  · go_wp2
    go_ret
    exact ret_bool (by rw [← Hr.out]; first | done | simp [h0]) Hb.out
  · go_wp2
    go_ret
    exact ret_bool (by rw [← Hr.out]; first | done | simp [h0]) Hb.out
def RStint (l : List Stint) (p : Stint → Bool) (w0 : World) (i : Value) (w : World) : Prop := ∃ k : Nat, k ≤ l.length ∧ i = .int .i64 k ∧ Below w0.heap.size w0 w ∧ (l.take k).all (fun x => !p x) = true
set_option maxHeartbeats 400000 in
theorem indexStint_any (A : Option Addr) (c : Nat) (l : List Stint) (w : World) (h : At w w.heap.size 2 Stint.cells A l) (hl : l.length ≤ 9223372036854775807) :
    Calls Tryd.prog 76 #[.slice A l.length c, .func (.func 70) #[] #[]] w (RetIdx (l.any badStint) w) := by
  go_enter Tryd.func76, Tryd.ntmps76
  go_wp2
  go_loopw [8] (fun i wr => RStint l badStint w i wr) (fun i _ => l.length - (intOf i).toNat)
  case atStart => exact ⟨0, by omega, rfl, Below.refl _ _, rfl⟩
  case round =>
    obtain ⟨k, hk, rfl, hb, hall⟩ := hrel
    by_cases hlt : k < l.length
    · obtain ⟨b, off, rfl, hbk, hcs⟩ := h.below hb k l[k] (List.getElem?_eq_getElem hlt)
      have h0 := hcs 0 _ rfl
      have h1 := hcs 1 _ rfl
      simp only [Nat.add_zero] at h0
      have hbr : Below wr.heap.size wr wr := Below.refl _ _
      have Hb := Lib.hid hb
      have Ha := Lib.hid (all_step (p := fun x => !badStint x) hlt hall)
      have Hf := Lib.hid (show badStint l[k] = true → l.any badStint = true from fun e => List.any_eq_true.2 ⟨_, List.getElem_mem hlt, e⟩)
      generalize l[k] = x at *
      clear hall h hcs hb
      go_wp2_with fail
      refine (badStint_any x wr).mono ?_
      rintro e w1 ⟨rfl, hb1⟩
      have hbw := Lib.hid (Hb.out.trans (hb1.mono Hb.out.size))
      generalize hq : badStint x = q
      rw [hq] at Ha Hf
      clear hb1
      cases q
      · go_wp2
        all_goals (first | (refine ⟨?_, ?_⟩; (unfold RStint; exact ⟨k + 1, by omega, by go_num, hbw.out, Ha.out (by simp)⟩); (simp [intOf]; omega)) | (go_roundw; (case rel => (unfold RStint; exact ⟨k + 1, by omega, by go_num, hbw.out, Ha.out (by simp)⟩)); (case measure => (simp [intOf]; omega))) | (go_round; (case rel => (unfold RStint; exact ⟨k + 1, by omega, by go_num, hbw.out, Ha.out (by simp)⟩)); (case measure => (simp [intOf]; omega))))
      · go_wp2
        go_ret
        exact ⟨_, rfl, by rw [Hf.out (by simp)]; simp, hbw.out⟩
    · have e := all_full hlt hall
      go_wp2
      go_ret
      refine ⟨_, rfl, ?_, hb⟩
      rw [show l.any badStint = false from any_false e]
      simp
set_option maxHeartbeats 400000 in
theorem containsStint_any (A : Option Addr) (c : Nat) (l : List Stint) (w : World) (h : At w w.heap.size 2 Stint.cells A l) (hl : l.length ≤ 9223372036854775807) :
    Calls Tryd.prog 71 #[.slice A l.length c, .func (.func 70) #[] #[]] w (Ret (.bool (l.any badStint)) w) := by
  go_enter Tryd.func71, Tryd.ntmps71
  go_wp2_with fail
  refine (indexStint_any  _ _ _ _ h hl).mono ?_
  rintro e w1 ⟨r, rfl, hr, hb1⟩
  have Hb := Lib.hid hb1
  have Hr := Lib.hid hr
  clear hb1 hr
  by_cases h0 : 0 ≤ r
  · go_wp2
    go_ret
    exact ret_bool (by rw [← Hr.out]; first | done | simp [h0]) Hb.out
  · go_wp2
    go_ret
    exact ret_bool (by rw [← Hr.out]; first | done | simp [h0]) Hb.out
set_option maxHeartbeats 400000 in
theorem all_any (d : Die) (A2 : Option Addr) (n2 c2 : Nat) (w : World) (ok : OkD d) : Calls Tryd.prog 49 #[.agg #[.slice d.A d.blades.length d.c, .int .i64 d.bound, .int .i64 d.stop, .int .i64 d.bend, .slice A2 n2 c2]] w (Ret (.int .i64 (powI d.blades.length - 1)) w) := by
  have hn := ok.nb
  have hn6 : d.blades.length ≤ 63 := by omega
  have hp := powI_bd (n := d.blades.length) (by omega)
  have e : (2 : Int) ^ d.blades.length = powI d.blades.length := by unfold powI; rw [Int.natCast_pow]; rfl
  have E := Lib.hid e
  have HB := Lib.hid (nxA w (.cells #[.slice d.A d.blades.length d.c, .int .i64 d.bound, .int .i64 d.stop, .int .i64 d.bend, .slice A2 n2 c2] 84))
  clear e ok
  go_enter Tryd.func49, Tryd.ntmps49
  go_wp2_with (simp only [E.out])
  go_ret
  refine ret_int ?_ HB.out
  try rw [E.out]
  generalize powI d.blades.length = p at *
  rw [IntWalk.wrap64_in p ⟨by omega, by omega⟩, IntWalk.wrap64_in _ ⟨by omega, by omega⟩]
set_option maxHeartbeats 400000 in
theorem badSet_any (d : Die) (A2 : Option Addr) (c2 n2 bm : Nat) (x : Int) (w : World) (ok : OkD d) (hx : Bx w bm (mountL d A2 n2 c2)) : Calls Tryd.prog 48 #[.int .i64 x, .pointer (some ⟨bm, 0, none⟩)] w (Ret (.bool (badSet d.blades.length x)) w) := by
  have c0 := hx.c 0 _ rfl
  have c1 := hx.c 1 _ rfl
  have c2' := hx.c 2 _ rfl
  have c3 := hx.c 3 _ rfl
  have c4 := hx.c 4 _ rfl
  have hz := hx.lt
  have HK := Lib.hid ok
  have HBs := Lib.hid (show badSet d.blades.length x = !inS x 0 (powI d.blades.length - 1) from rfl)
  clear ok hx
  go_enter Tryd.func48, Tryd.ntmps48
  go_wp2_with fail
  refine (all_any d A2 n2 c2 w HK.out).mono ?_
  rintro e w1 ⟨rfl, hb⟩
  have B1 := Lib.hid hb
  clear hb c0 c1 c2' c3 c4
  generalize powI d.blades.length - 1 = p at *
  go_wp2_with (go_at_call 40; (with_reducible refine (within_any _ _ _ _).mono ?_); rintro e w' ⟨rfl, rfl⟩)
  go_ret
  exact ret_bool HBs.out.symm B1.out
def RInt (l : List Int) (p : Int → Bool) (w0 : World) (i : Value) (w : World) : Prop := ∃ k : Nat, k ≤ l.length ∧ i = .int .i64 k ∧ Below w0.heap.size w0 w ∧ (l.take k).all (fun x => !p x) = true
set_option maxHeartbeats 400000 in
theorem indexInt_any (d : Die) (A2 : Option Addr) (c2 n2 bm : Nat) (A : Option Addr) (c : Nat) (l : List Int) (w : World) (h : At w w.heap.size 1 icell A l) (hl : l.length ≤ 9223372036854775807) (ok : OkD d) (hx : Bx w bm (mountL d A2 n2 c2)) :
    Calls Tryd.prog 66 #[.slice A l.length c, .func (.func 48) #[] #[.pointer (some ⟨bm, 0, none⟩)]] w (RetIdx (l.any (badSet d.blades.length)) w) := by
  go_enter Tryd.func66, Tryd.ntmps66
  go_wp2
  go_loopw [8] (fun i wr => RInt l (badSet d.blades.length) w i wr) (fun i _ => l.length - (intOf i).toNat)
  case atStart => exact ⟨0, by omega, rfl, Below.refl _ _, rfl⟩
  case round =>
    obtain ⟨k, hk, rfl, hb, hall⟩ := hrel
    by_cases hlt : k < l.length
    · obtain ⟨b, off, rfl, hbk, hcs⟩ := h.below hb k l[k] (List.getElem?_eq_getElem hlt)
      have h0 := hcs 0 _ rfl
      simp only [Nat.add_zero, Nat.mul_one] at h0
      have hbr : Below wr.heap.size wr wr := Below.refl _ _
      have Hb := Lib.hid hb
      have Ha := Lib.hid (all_step (p := fun x => !(badSet d.blades.length) x) hlt hall)
      have Hf := Lib.hid (show (badSet d.blades.length) l[k] = true → l.any (badSet d.blades.length) = true from fun e => List.any_eq_true.2 ⟨_, List.getElem_mem hlt, e⟩)
      have Hx := Lib.hid (hx.next hb)
      clear hx
      generalize l[k] = x at *
      clear hall h hcs hb
      go_wp2_with fail
      refine (badSet_any d A2 c2 n2 bm x wr ok Hx.out).mono ?_
      rintro e w1 ⟨rfl, hb1⟩
      have hbw := Lib.hid (Hb.out.trans (hb1.mono Hb.out.size))
      generalize hq : badSet d.blades.length x = q
      rw [hq] at Ha Hf
      clear hb1
      cases q
      · go_wp2
        all_goals (first | (refine ⟨?_, ?_⟩; (unfold RInt; exact ⟨k + 1, by omega, by go_num, hbw.out, Ha.out (by simp)⟩); (simp [intOf]; omega)) | (go_roundw; (case rel => (unfold RInt; exact ⟨k + 1, by omega, by go_num, hbw.out, Ha.out (by simp)⟩)); (case measure => (simp [intOf]; omega))) | (go_round; (case rel => (unfold RInt; exact ⟨k + 1, by omega, by go_num, hbw.out, Ha.out (by simp)⟩)); (case measure => (simp [intOf]; omega))))
      · go_wp2
        go_ret
        exact ⟨_, rfl, by rw [Hf.out (by simp)]; simp, hbw.out⟩
    · have e := all_full hlt hall
      go_wp2
      go_ret
      refine ⟨_, rfl, ?_, hb⟩
      rw [show l.any (badSet d.blades.length) = false from any_false e]
      simp
set_option maxHeartbeats 400000 in
theorem containsInt_any (d : Die) (A2 : Option Addr) (c2 n2 bm : Nat) (A : Option Addr) (c : Nat) (l : List Int) (w : World) (h : At w w.heap.size 1 icell A l) (hl : l.length ≤ 9223372036854775807) (ok : OkD d) (hx : Bx w bm (mountL d A2 n2 c2)) :
    Calls Tryd.prog 50 #[.slice A l.length c, .func (.func 48) #[] #[.pointer (some ⟨bm, 0, none⟩)]] w (Ret (.bool (l.any (badSet d.blades.length))) w) := by
  go_enter Tryd.func50, Tryd.ntmps50
  go_wp2_with fail
  refine (indexInt_any d A2 c2 n2 bm _ _ _ _ h hl ok hx).mono ?_
  rintro e w1 ⟨r, rfl, hr, hb1⟩
  have Hb := Lib.hid hb1
  have Hr := Lib.hid hr
  clear hb1 hr
  by_cases h0 : 0 ≤ r
  · go_wp2
    go_ret
    exact ret_bool (by rw [← Hr.out]; first | done | simp [h0]) Hb.out
  · go_wp2
    go_ret
    exact ret_bool (by rw [← Hr.out]; first | done | simp [h0]) Hb.out
end Go.Proofs.YtbhkglokdomajaaDoor
