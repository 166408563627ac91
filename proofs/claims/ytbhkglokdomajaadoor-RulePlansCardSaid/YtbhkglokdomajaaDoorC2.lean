import Derived.Test.YtbhkglokdomajaaDoorC1
import Derived.Test.YtbhkglokdomajaaDoorR10
namespace Go.Proofs.YtbhkglokdomajaaDoor
open Go.RowKit
/-! The law RulePlans. -/
structure LwP (d : Die) (A : Option Addr) (l : List Stint) (A3 : Option Addr) (plan : List Int) (bs : Nat) (W : World) : Prop where
  da : DieAt W W.heap.size d
  la : At W W.heap.size 2 Stint.cells A l
  pa : At W W.heap.size 1 icell A3 plan
  en : Env W
  bx : Bx W bs (dieL d)
theorem LwP.next {d : Die} {A : Option Addr} {l : List Stint} {A3 : Option Addr} {plan : List Int} {bs : Nat} {W W' : World} (h : LwP d A l A3 plan bs W) (hb : Below W.heap.size W W') : LwP d A l A3 plan bs W' := ⟨h.da.next hb, h.la.next hb, h.pa.next hb, h.en.next hb, h.bx.next hb⟩
theorem proofGo_len (bl : List Blade) (bound : Int) : ∀ (l : List Stint) (i a : Nat) (x : Int), (proofGo bl bound l i a x).length ≤ l.length
  | [], _, _, _ => Nat.le_refl _
  | t :: l, i, a, x => by
    unfold proofGo
    split
    · have := proofGo_len bl bound l (i + 1) a (x + t.n); simp only [List.length_cons]; omega
    · have := proofGo_len bl bound l (i + 1) i t.n; simp only [List.length_cons]; omega
theorem proofR_len (d : Die) (l : List Stint) : (proofR d l).1.length ≤ 7 := by
  unfold proofR
  by_cases h : checkS d l ≠ 0
  · rw [if_pos h]; exact Nat.zero_le _
  · rw [if_neg h]
    split
    · exact Nat.zero_le _
    · have hl := ((okl_iff l).1 (check_zero.1 (by simpa using h)).2).nl
      have := proofGo_len d.blades d.bound l 0 0 0
      show (proofGo d.blades d.bound l 0 0 0).length ≤ 7
      omega
theorem spans_same (rs : List (Nat × Nat × Nat)) (hl : rs.length ≤ 7) {A A' : Option Addr} {c c' : Nat} {w : World} (h : At w w.heap.size 2 spv A (spansOf rs)) (h' : At w w.heap.size 2 spv A' (spansOf rs)) : Calls Tryd.prog 22 #[.slice A rs.length c, .slice A' rs.length c'] w (Ret (.bool true) w) := by
  have e : (spansOf rs).length = rs.length := by unfold spansOf; simp
  have := Spans_any (spansOf rs) (spansOf rs) A A' c c' w h h' (by omega) (by omega)
  rw [e, show decide (spansOf rs = spansOf rs) = true by simp] at this
  exact this
theorem firsts_same (rs : List (Nat × Nat × Nat)) (hl : rs.length ≤ 7) {A A' : Option Addr} {c c' : Nat} {w : World} (h : At w w.heap.size 1 icell A (firstsOf rs)) (h' : At w w.heap.size 1 icell A' (firstsOf rs)) : Calls Tryd.prog 23 #[.slice A rs.length c, .slice A' rs.length c'] w (Ret (.bool true) w) := by
  have e : (firstsOf rs).length = rs.length := by unfold firstsOf; simp
  have := Ints_any (firstsOf rs) (firstsOf rs) A A' c c' w h h' (by omega) (by omega)
  rw [e, show decide (firstsOf rs = firstsOf rs) = true by simp] at this
  exact this
set_option maxRecDepth 100000 in
set_option maxHeartbeats 1000000 in
theorem RulePlans_walk (d : Die) (A : Option Addr) (c : Nat) (l : List Stint) (A3 : Option Addr) (c3 : Nat) (plan : List Int) (w : World) (hd : DieAt w w.heap.size d) (hr : At w w.heap.size 2 Stint.cells A l) (hl : l.length ≤ 9223372036854775807) (hp : At w w.heap.size 1 icell A3 plan) (hpl : plan.length ≤ 9223372036854775807) (he : Env w) :
    Calls Tryd.prog 4 #[.agg #[.slice d.A d.blades.length d.c, .int .i64 d.bound, .int .i64 d.stop, .int .i64 d.bend], .slice A l.length c, .slice A3 plan.length c3] w (Ret (.bool true) w) := by
  have K := Lib.hid (show LwP d A l A3 plan w.heap.size (w.alloc (.cells #[.slice d.A d.blades.length d.c, .int .i64 d.bound, .int .i64 d.stop, .int .i64 d.bend] 24)) from ⟨hd.next (nxA _ _), hr.next (nxA _ _), hp.next (nxA _ _), he.next (nxA _ _), Bx.new w #[.slice d.A d.blades.length d.c, .int .i64 d.bound, .int .i64 d.stop, .int .i64 d.bend] 24⟩)
  have HB := Lib.hid (nxA w (.cells #[.slice d.A d.blades.length d.c, .int .i64 d.bound, .int .i64 d.stop, .int .i64 d.bend] 24))
  have HL := Lib.hid hl
  have HPL := Lib.hid hpl
  clear hd hr hp hl hpl he
  obtain ⟨fa, fb, fc, fe, hfo⟩ : ∃ a b c e, followS d l plan = (a, b, c, e) := ⟨_, _, _, _, rfl⟩
  obtain ⟨rs, pe, hpr⟩ : ∃ rs e, proofR d l = (rs, e) := ⟨_, _, rfl⟩
  have hrl := proofR_len d l
  rw [hpr] at hrl
  have HFO := Lib.hid hfo
  have HPR := Lib.hid hpr
  have HRL := Lib.hid hrl
  clear hfo hpr hrl
  go_enter Tryd.func4, Tryd.ntmps4
  go_wp2_with fail
  generalize (w.alloc (.cells #[.slice d.A d.blades.length d.c, .int .i64 d.bound, .int .i64 d.stop, .int .i64 d.bend] 24)) = V1 at *
  have p0 := K.out.bx.c 0 _ rfl
  have p1 := K.out.bx.c 1 _ rfl
  have p2 := K.out.bx.c 2 _ rfl
  have p3 := K.out.bx.c 3 _ rfl
  go_wp2_with fail
  refine (far_any d A A3 l.length c plan.length c3 V1).mono ?_
  rintro e V2 ⟨bf, rfl, hb⟩
  replace K := Lib.hid (K.out.next hb)
  replace HB := Lib.hid (HB.out.trans (hb.mono HB.out.size))
  clear hb p0 p1 p2 p3
  cases bf
  rotate_left
  · go_wp2_with fail
    refine (awake_any V2 K.out.en).mono ?_
    rintro e V99 ⟨rfl, hb⟩
    go_wp2_with fail
    go_ret
    exact ⟨rfl, HB.out.trans (hb.mono HB.out.size)⟩
  · skip
    have p0 := K.out.bx.c 0 _ rfl
    have p1 := K.out.bx.c 1 _ rfl
    have p2 := K.out.bx.c 2 _ rfl
    have p3 := K.out.bx.c 3 _ rfl
    go_wp2_with fail
    have hcon := (Follow_any d A c l A3 c3 plan V2 K.out.da K.out.la HL.out K.out.pa HPL.out K.out.en)
    rw [HFO.out] at hcon
    refine (hcon).mono ?_
    rintro e V3 ⟨rfl, hb⟩
    replace K := Lib.hid (K.out.next hb)
    replace HB := Lib.hid (HB.out.trans (hb.mono HB.out.size))
    clear hb p0 p1 p2 p3 hcon
    dsimp only [foV]
    have p0 := K.out.bx.c 0 _ rfl
    have p1 := K.out.bx.c 1 _ rfl
    have p2 := K.out.bx.c 2 _ rfl
    have p3 := K.out.bx.c 3 _ rfl
    go_wp2_with fail
    have hcon := (refFollow_any d A c l A3 c3 plan V3 K.out.da K.out.la HL.out K.out.pa HPL.out)
    rw [HFO.out] at hcon
    refine (hcon).mono ?_
    rintro e V4 ⟨rfl, hb⟩
    replace K := Lib.hid (K.out.next hb)
    replace HB := Lib.hid (HB.out.trans (hb.mono HB.out.size))
    clear hb p0 p1 p2 p3 hcon
    dsimp only [foV]
    have p0 := K.out.bx.c 0 _ rfl
    have p1 := K.out.bx.c 1 _ rfl
    have p2 := K.out.bx.c 2 _ rfl
    have p3 := K.out.bx.c 3 _ rfl
    go_wp2_with fail
    have hcon := (Proof_any d A c l V4 K.out.da K.out.la HL.out K.out.en)
    rw [HPR.out] at hcon
    refine (hcon).mono ?_
    rintro e V5 ⟨AR0, cR0, AF0, cF0, rfl, hr, hf, hb⟩
    replace K := Lib.hid (K.out.next hb)
    replace HB := Lib.hid (HB.out.trans (hb.mono HB.out.size))
    have R0 := Lib.hid (hr)
    have F0 := Lib.hid (hf)
    clear hb p0 p1 p2 p3 hcon hr hf
    dsimp only
    have p0 := K.out.bx.c 0 _ rfl
    have p1 := K.out.bx.c 1 _ rfl
    have p2 := K.out.bx.c 2 _ rfl
    have p3 := K.out.bx.c 3 _ rfl
    go_wp2_with fail
    have hcon := (refProof_any d A c l V5 K.out.da K.out.la HL.out)
    rw [HPR.out] at hcon
    refine (hcon).mono ?_
    rintro e V6 ⟨AR1, cR1, AF1, cF1, rfl, hr, hf, hb⟩
    replace R0 := Lib.hid (R0.out.next hb)
    replace F0 := Lib.hid (F0.out.next hb)
    replace K := Lib.hid (K.out.next hb)
    replace HB := Lib.hid (HB.out.trans (hb.mono HB.out.size))
    have R1 := Lib.hid (hr)
    have F1 := Lib.hid (hf)
    clear hb p0 p1 p2 p3 hcon hr hf
    dsimp only
    go_wp2_with fail
    refine (spans_same rs HRL.out R0.out R1.out).mono ?_
    rintro e V7 ⟨rfl, hb⟩
    replace R0 := Lib.hid (R0.out.next hb)
    replace F0 := Lib.hid (F0.out.next hb)
    replace R1 := Lib.hid (R1.out.next hb)
    replace F1 := Lib.hid (F1.out.next hb)
    replace K := Lib.hid (K.out.next hb)
    replace HB := Lib.hid (HB.out.trans (hb.mono HB.out.size))
    clear hb 
    go_wp2_with fail
    refine (firsts_same rs HRL.out F0.out F1.out).mono ?_
    rintro e V8 ⟨rfl, hb⟩
    replace R0 := Lib.hid (R0.out.next hb)
    replace F0 := Lib.hid (F0.out.next hb)
    replace R1 := Lib.hid (R1.out.next hb)
    replace F1 := Lib.hid (F1.out.next hb)
    replace K := Lib.hid (K.out.next hb)
    replace HB := Lib.hid (HB.out.trans (hb.mono HB.out.size))
    clear hb 
    go_wp2_with fail
    refine (awake_any V8 K.out.en).mono ?_
    rintro e V99 ⟨rfl, hb⟩
    go_wp2_with fail
    go_ret
    exact ⟨rfl, HB.out.trans (hb.mono HB.out.size)⟩
end Go.Proofs.YtbhkglokdomajaaDoor
