import Derived.Test.YtbhkglokdomajaaDoorC1
import Derived.Test.YtbhkglokdomajaaDoorR13
namespace Go.Proofs.YtbhkglokdomajaaDoor
open Go.RowKit
/-! The law RuleBests. -/
structure LwS (d : Die) (A : Option Addr) (l : List Stint) (bs : Nat) (W : World) : Prop where
  da : DieAt W W.heap.size d
  la : At W W.heap.size 2 Stint.cells A l
  en : Env W
  bx : Bx W bs (dieL d)
theorem LwS.next {d : Die} {A : Option Addr} {l : List Stint} {bs : Nat} {W W' : World} (h : LwS d A l bs W) (hb : Below W.heap.size W W') : LwS d A l bs W' := ⟨h.da.next hb, h.la.next hb, h.en.next hb, h.bx.next hb⟩
theorem planS_len (d : Die) (l : List Stint) : (planS d l).1.length ≤ 7 := by
  unfold planS
  by_cases h : checkS d l ≠ 0
  · rw [if_pos h]; exact Nat.zero_le _
  · rw [if_neg h]
    have hc := check_zero.1 (show checkS d l = 0 by simpa using h)
    have hl := ((okl_iff l).1 hc.2).nl
    cases hb : bestD d l with
    | none => exact Nat.zero_le _
    | some x =>
      have hx := (best_bd ((okd_iff d).1 hc.1) (l := l) (j := 0) (r := fun _ => 0) (x := x) hb).2.2
      show x.1.tail.length ≤ 7
      rw [List.length_tail]; omega
theorem plans_same (p : List Nat) (hl : p.length ≤ 7) {A A' : Option Addr} {c c' : Nat} {w : World} (h : At w w.heap.size 1 icell A (p.map Int.ofNat)) (h' : At w w.heap.size 1 icell A' (p.map Int.ofNat)) : Calls Tryd.prog 23 #[.slice A p.length c, .slice A' p.length c'] w (Ret (.bool true) w) := by
  have e : (p.map Int.ofNat).length = p.length := List.length_map _
  have := Ints_any (p.map Int.ofNat) (p.map Int.ofNat) A A' c c' w h h' (by omega) (by omega)
  rw [e, show decide (p.map Int.ofNat = p.map Int.ofNat) = true by simp] at this
  exact this
set_option maxRecDepth 100000 in
set_option maxHeartbeats 1000000 in
theorem RuleBests_walk (d : Die) (A : Option Addr) (c : Nat) (l : List Stint) (w : World) (hd : DieAt w w.heap.size d) (hr : At w w.heap.size 2 Stint.cells A l) (hl : l.length ≤ 9223372036854775807) (he : Env w) :
    Calls Tryd.prog 5 #[.agg #[.slice d.A d.blades.length d.c, .int .i64 d.bound, .int .i64 d.stop, .int .i64 d.bend], .slice A l.length c] w (Ret (.bool true) w) := by
  have K := Lib.hid (show LwS d A l w.heap.size (w.alloc (.cells #[.slice d.A d.blades.length d.c, .int .i64 d.bound, .int .i64 d.stop, .int .i64 d.bend] 24)) from ⟨hd.next (nxA _ _), hr.next (nxA _ _), he.next (nxA _ _), Bx.new w #[.slice d.A d.blades.length d.c, .int .i64 d.bound, .int .i64 d.stop, .int .i64 d.bend] 24⟩)
  have HB := Lib.hid (nxA w (.cells #[.slice d.A d.blades.length d.c, .int .i64 d.bound, .int .i64 d.stop, .int .i64 d.bend] 24))
  have HL := Lib.hid hl
  clear hd hr hl he
  obtain ⟨bp, bc, be, hpl⟩ : ∃ p c e, planS d l = (p, c, e) := ⟨_, _, _, rfl⟩
  have hbl := planS_len d l
  rw [hpl] at hbl
  have HPL := Lib.hid hpl
  have HBL := Lib.hid hbl
  clear hpl hbl
  go_enter Tryd.func5, Tryd.ntmps5
  go_wp2_with fail
  generalize (w.alloc (.cells #[.slice d.A d.blades.length d.c, .int .i64 d.bound, .int .i64 d.stop, .int .i64 d.bend] 24)) = V1 at *
  have p0 := K.out.bx.c 0 _ rfl
  have p1 := K.out.bx.c 1 _ rfl
  have p2 := K.out.bx.c 2 _ rfl
  have p3 := K.out.bx.c 3 _ rfl
  go_wp2_with fail
  refine (far_any d A none l.length c 0 0 V1).mono ?_
  rintro e V2 ⟨bf, rfl, hb⟩
  replace K := Lib.hid (K.out.next hb)
  replace HB := Lib.hid (HB.out.trans (hb.mono HB.out.size))
  clear hb p0 p1 p2 p3
  cases bf
  rotate_left
  · go_wp2_with fail
    refine (awake_any V2 K.out.en).mono ?_
    rintro e V99 ⟨rfl, hb⟩
    go_wp2_with fail
    go_ret
    exact ⟨rfl, HB.out.trans (hb.mono HB.out.size)⟩
  · skip
    have p0 := K.out.bx.c 0 _ rfl
    have p1 := K.out.bx.c 1 _ rfl
    have p2 := K.out.bx.c 2 _ rfl
    have p3 := K.out.bx.c 3 _ rfl
    go_wp2_with fail
    refine (heavy_any d A l.length c 1024 V2).mono ?_
    rintro e V3 ⟨bh, rfl, hb⟩
    replace K := Lib.hid (K.out.next hb)
    replace HB := Lib.hid (HB.out.trans (hb.mono HB.out.size))
    clear hb p0 p1 p2 p3
    cases bh
    rotate_left
    · go_wp2_with fail
      refine (awake_any V3 K.out.en).mono ?_
      rintro e V99 ⟨rfl, hb⟩
      go_wp2_with fail
      go_ret
      exact ⟨rfl, HB.out.trans (hb.mono HB.out.size)⟩
    · skip
      have p0 := K.out.bx.c 0 _ rfl
      have p1 := K.out.bx.c 1 _ rfl
      have p2 := K.out.bx.c 2 _ rfl
      have p3 := K.out.bx.c 3 _ rfl
      go_wp2_with fail
      have hcon := (Plan_any d A c l V3 K.out.da K.out.la HL.out K.out.en)
      rw [HPL.out] at hcon
      refine (hcon).mono ?_
      rintro e V4 ⟨AP0, cP0, rfl, hp, hb⟩
      replace K := Lib.hid (K.out.next hb)
      replace HB := Lib.hid (HB.out.trans (hb.mono HB.out.size))
      have P0 := Lib.hid (hp)
      clear hb p0 p1 p2 p3 hcon hp
      dsimp only
      have p0 := K.out.bx.c 0 _ rfl
      have p1 := K.out.bx.c 1 _ rfl
      have p2 := K.out.bx.c 2 _ rfl
      have p3 := K.out.bx.c 3 _ rfl
      go_wp2_with fail
      have hcon := (refPlan_any d A c l V4 K.out.da K.out.la HL.out)
      rw [HPL.out] at hcon
      refine (hcon).mono ?_
      rintro e V5 ⟨AP1, cP1, rfl, hp, hb⟩
      replace P0 := Lib.hid (P0.out.next hb)
      replace K := Lib.hid (K.out.next hb)
      replace HB := Lib.hid (HB.out.trans (hb.mono HB.out.size))
      have P1 := Lib.hid (hp)
      clear hb p0 p1 p2 p3 hcon hp
      dsimp only
      go_wp2_with fail
      refine (plans_same bp HBL.out P0.out P1.out).mono ?_
      rintro e V6 ⟨rfl, hb⟩
      replace P0 := Lib.hid (P0.out.next hb)
      replace P1 := Lib.hid (P1.out.next hb)
      replace K := Lib.hid (K.out.next hb)
      replace HB := Lib.hid (HB.out.trans (hb.mono HB.out.size))
      clear hb 
      go_wp2_with fail
      refine (awake_any V6 K.out.en).mono ?_
      rintro e V99 ⟨rfl, hb⟩
      go_wp2_with fail
      go_ret
      exact ⟨rfl, HB.out.trans (hb.mono HB.out.size)⟩
end Go.Proofs.YtbhkglokdomajaaDoor
