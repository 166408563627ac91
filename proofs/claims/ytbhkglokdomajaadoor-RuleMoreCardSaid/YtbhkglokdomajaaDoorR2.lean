import Derived.Test.YtbhkglokdomajaaDoorR1
namespace Go.Proofs.YtbhkglokdomajaaDoor
open Go.RowKit
/-! The reference: what is valid. -/
def RDie (d : Die) (w0 : World) (b : Nat) (i : Value) (w : World) : Prop := ∃ k : Nat, k ≤ d.blades.length ∧ i = .int .i64 k ∧ Below w0.heap.size w0 w ∧ Bx w b (dieL d) ∧ (d.blades.take k).all Blade.ok = true
set_option maxHeartbeats 400000 in
theorem Die_any (d : Die) (w : World) (hr : DieAt w w.heap.size d) : Calls Tryd.prog 27 #[.agg #[.slice d.A d.blades.length d.c, .int .i64 d.bound, .int .i64 d.stop, .int .i64 d.bend]] w (Ret (.bool (dieS d)) w) := by
  have l1 := hr.l1
  go_enter Tryd.func27, Tryd.ntmps27
  go_wp2
  go_loopw [3] (fun i wr => RDie d w w.heap.size i wr) (fun i _ => d.blades.length - (intOf i).toNat)
  case atStart => exact ⟨0, by omega, rfl, nxA _ _, Bx.new _ _ _, rfl⟩
  case round =>
    obtain ⟨k, hk, rfl, hb, hx, hall⟩ := hrel
    have hz := hx.lt
    have c0 := hx.c 0 _ rfl
    have c1 := hx.c 1 _ rfl
    have c2 := hx.c 2 _ rfl
    have c3 := hx.c 3 _ rfl
    have HX := Lib.hid hx
    clear hx
    have hbr : Below wr.heap.size wr wr := Below.refl _ _
    by_cases hlt : k < d.blades.length
    · obtain ⟨b, off, e, hbk, h0, h1, h2, h3⟩ := (hr.below hb).at hlt
      rw [e] at c0
      have hbs : b < wr.heap.size := Nat.lt_of_lt_of_le hbk hb.size
      have Ha := Lib.hid (all_step hlt hall)
      have Hf := Lib.hid (all_fail (p := Blade.ok) hlt)
      have hg : d.blades[k] = bladeAt d k := by have := bladeAt_get hlt; rw [List.getElem?_eq_getElem hlt] at this; exact Option.some.inj this
      rw [hg] at Ha Hf
      have Hk := Lib.hid (show Blade.ok (bladeAt d k) = (spanS (bladeAt d k).fl (bladeAt d k).fh 0 10000 && spanS (bladeAt d k).wl (bladeAt d k).wh 0 10000) from rfl)
      generalize bladeAt d k = s at *
      clear hall hr hg e
      rcases chain2 (spanS s.fl s.fh 0 10000) (spanS s.wl s.wh 0 10000) with a1 | ⟨a1, a2⟩ | ⟨a1, a2⟩
      all_goals go_wp2_with (go_at_call 58; (with_reducible refine (span_any _ _ _ _ _).mono ?_); rintro e w1 ⟨rfl, hb1⟩; obtain ⟨hc1, hf1⟩ := bcell hb1; have hz1 := hb1.size; replace hbr := hbr.trans (hb1.mono hbr.size); obtain ⟨hcr, hfr⟩ := bcell hbr)
      all_goals first
        | (go_ret; refine ret_bool ?_ (hb.trans (hbr.mono hb.size)); unfold dieS; rw [Hf.out (by rw [Hk.out]; simp [*])]; rfl)
        | (first | (refine ⟨?_, ?_⟩; (unfold RDie; exact ⟨k + 1, by omega, by go_num, hb.trans (hbr.mono hb.size), HX.out.next hbr, Ha.out (by rw [Hk.out]; simp [*])⟩); (simp [intOf]; omega)) | (go_roundw; (case rel => (unfold RDie; exact ⟨k + 1, by omega, by go_num, hb.trans (hbr.mono hb.size), HX.out.next hbr, Ha.out (by rw [Hk.out]; simp [*])⟩)); (case measure => (simp [intOf]; omega))) | (go_round; (case rel => (unfold RDie; exact ⟨k + 1, by omega, by go_num, hb.trans (hbr.mono hb.size), HX.out.next hbr, Ha.out (by rw [Hk.out]; simp [*])⟩)); (case measure => (simp [intOf]; omega))))
    · have Hall := Lib.hid (all_full hlt hall)
      have HD := Lib.hid (show dieS d = (d.blades.all Blade.ok && (inS d.blades.length 1 5 && (inS d.bound 0 100000 && (inS d.stop 0 10000 && inS d.bend 0 10000)))) from rfl)
      clear hall hr
      rcases chain4 (inS d.blades.length 1 5) (inS d.bound 0 100000) (inS d.stop 0 10000) (inS d.bend 0 10000) with a1 | ⟨a1, a2⟩ | ⟨a1, a2, a3⟩ | ⟨a1, a2, a3, a4⟩ | ⟨a1, a2, a3, a4⟩
      all_goals
        go_wp2_with (go_at_call 43; (with_reducible refine (in_any _ _ _ _).mono ?_); rintro e w' ⟨rfl, rfl⟩)
        go_ret
        refine ret_bool ?_ hb
        rw [HD.out, Hall.out]
        simp [*]
def RSt (l : List Stint) (w0 : World) (i : Value) (w : World) : Prop := ∃ k : Nat, k ≤ l.length ∧ i = .int .i64 k ∧ Below w0.heap.size w0 w ∧ (l.take k).all Stint.ok = true
set_option maxHeartbeats 400000 in
theorem Stints_any (A : Option Addr) (c : Nat) (l : List Stint) (w : World) (hr : At w w.heap.size 2 Stint.cells A l) (hl : l.length ≤ 9223372036854775807) :
    Calls Tryd.prog 28 #[.slice A l.length c] w (Ret (.bool (stintsS l)) w) := by
  go_enter Tryd.func28, Tryd.ntmps28
  go_wp2
  go_loopw [3] (fun i wr => RSt l w i wr) (fun i _ => l.length - (intOf i).toNat)
  case atStart => exact ⟨0, by omega, rfl, Below.refl _ _, rfl⟩
  case round =>
    obtain ⟨k, hk, rfl, hb, hall⟩ := hrel
    by_cases hlt : k < l.length
    · obtain ⟨b, off, rfl, hbk, h0, h1⟩ := stint_at (hr.below hb) hlt
      have Ha := Lib.hid (all_step hlt hall)
      have Hf := Lib.hid (all_fail (p := Stint.ok) hlt)
      have hg : l[k] = l.getD k ⟨0, 0⟩ := by have := stint_get hlt; rw [List.getElem?_eq_getElem hlt] at this; exact Option.some.inj this
      rw [hg] at Ha Hf
      have Hk := Lib.hid (show Stint.ok (l.getD k ⟨0, 0⟩) = (inS (l.getD k ⟨0, 0⟩).n 1 1000 && inS (l.getD k ⟨0, 0⟩).more 0 100000) from rfl)
      generalize l.getD k ⟨0, 0⟩ = s at *
      clear hall hr hg
      rcases chain2 (inS s.n 1 1000) (inS s.more 0 100000) with a1 | ⟨a1, a2⟩ | ⟨a1, a2⟩
      all_goals go_wp2_with (go_at_call 43; (with_reducible refine (in_any _ _ _ _).mono ?_); rintro e w' ⟨rfl, rfl⟩)
      all_goals first
        | (go_ret; refine ret_bool ?_ (hb); unfold stintsS; rw [Hf.out (by rw [Hk.out]; simp [*])]; rfl)
        | (first | (refine ⟨?_, ?_⟩; (unfold RSt; exact ⟨k + 1, by omega, by go_num, hb, Ha.out (by rw [Hk.out]; simp [*])⟩); (simp [intOf]; omega)) | (go_roundw; (case rel => (unfold RSt; exact ⟨k + 1, by omega, by go_num, hb, Ha.out (by rw [Hk.out]; simp [*])⟩)); (case measure => (simp [intOf]; omega))) | (go_round; (case rel => (unfold RSt; exact ⟨k + 1, by omega, by go_num, hb, Ha.out (by rw [Hk.out]; simp [*])⟩)); (case measure => (simp [intOf]; omega))))
    · go_wp2
      go_ret
      refine ret_bool ?_ hb
      unfold stintsS
      rw [all_full hlt hall]
      simp
set_option maxHeartbeats 400000 in
theorem check_any (d : Die) (A : Option Addr) (c : Nat) (l : List Stint) (w : World) (hd : DieAt w w.heap.size d) (hr : At w w.heap.size 2 Stint.cells A l) (hl : l.length ≤ 9223372036854775807) :
    Calls Tryd.prog 53 #[.agg #[.slice d.A d.blades.length d.c, .int .i64 d.bound, .int .i64 d.stop, .int .i64 d.bend], .slice A l.length c] w (Ret (.int .i64 (checkS d l)) w) := by
  have HL := Lib.hid hl
  have B0 := Lib.hid (nxA w (.cells #[.slice d.A d.blades.length d.c, .int .i64 d.bound, .int .i64 d.stop, .int .i64 d.bend] 24))
  have HD := Lib.hid (hd.next B0.out)
  have HR := Lib.hid (hr.next B0.out)
  clear hr hl hd
  go_enter Tryd.func53, Tryd.ntmps53
  go_wp2_with fail
  generalize w.alloc (.cells #[.slice d.A d.blades.length d.c, .int .i64 d.bound, .int .i64 d.stop, .int .i64 d.bend] 24) = V at *
  refine (Die_any d _ HD.out).mono ?_
  rintro e w1 ⟨rfl, hb⟩
  have B1 := Lib.hid (B0.out.trans (hb.mono B0.out.size))
  have R1 := Lib.hid (HR.out.next hb)
  clear hb HD
  have HC := Lib.hid (show checkS d l = if dieS d = false then 1 else if stintsS l = false then 2 else 0 from rfl)
  cases hds : dieS d
  · go_wp2
    go_ret
    exact ret_int (by rw [HC.out, hds]; rfl) B1.out
  · go_wp2_with fail
    refine (Stints_any A c l _ R1.out HL.out).mono ?_
    rintro e w2 ⟨rfl, hb⟩
    have B2 := Lib.hid (B1.out.trans (hb.mono B1.out.size))
    clear hb
    cases hst : stintsS l
    all_goals
      go_wp2
      go_ret
      exact ret_int (by rw [HC.out, hds, hst]; rfl) B2.out
/-- A pair of an answer and an error. -/
def retSpan (x : (Int × Int) × Int) : Value := .tuple #[.agg #[.int .i64 x.1.1, .int .i64 x.1.2], .int .i64 x.2]
end Go.Proofs.YtbhkglokdomajaaDoor
