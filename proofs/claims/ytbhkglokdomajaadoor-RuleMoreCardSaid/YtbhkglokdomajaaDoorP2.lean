import Derived.Test.YtbhkglokdomajaaDoorP1
namespace Go.Proofs.YtbhkglokdomajaaDoor
open Go.RowKit
/-! The program: what is valid. -/
theorem any_badBlade (l : List Blade) : l.any badBlade = !l.all Blade.ok := by
  rw [List.all_eq_not_any_not, Bool.not_not]; rfl
theorem any_badStint (l : List Stint) : l.any badStint = !l.all Stint.ok := by
  rw [List.all_eq_not_any_not, Bool.not_not]; rfl
set_option maxHeartbeats 400000 in
theorem isDie_any (d : Die) (w : World) (hr : DieAt w w.heap.size d) : Calls Tryd.prog 39 #[.agg #[.slice d.A d.blades.length d.c, .int .i64 d.bound, .int .i64 d.stop, .int .i64 d.bend]] w (Ret (.bool (dieS d)) w) := by
  have HD := Lib.hid (show dieS d = (d.blades.all Blade.ok && (inS d.blades.length 1 5 && (inS d.bound 0 100000 && (inS d.stop 0 10000 && inS d.bend 0 10000)))) from rfl)
  have Hb := Lib.hid (nxA w (.cells #[.slice d.A d.blades.length d.c, .int .i64 d.bound, .int .i64 d.stop, .int .i64 d.bend] 24))
  have Hr := Lib.hid (hr.next Hb.out)
  clear hr
  go_enter Tryd.func39, Tryd.ntmps39
  rcases chain4 (inS d.stop 0 10000) (inS d.bend 0 10000) (inS d.blades.length 1 5) (inS d.bound 0 100000) with a1 | ⟨a1, a2⟩ | ⟨a1, a2, a3⟩ | ⟨a1, a2, a3, a4⟩ | ⟨a1, a2, a3, a4⟩
  rotate_right
  · have A := Lib.hid (show dieS d = d.blades.all Blade.ok by rw [HD.out, a1, a2, a3, a4]; simp)
    go_wp2_with (first | (go_at_call 40; (with_reducible refine (within_any _ _ _ _).mono ?_); rintro e w' ⟨rfl, rfl⟩) | fail)
    refine (containsBlade_any _ _ _ _ Hr.out.bl Hr.out.l1).mono ?_
    rintro e w1 ⟨rfl, hb1⟩
    have HB := Lib.hid (Hb.out.trans (hb1.mono (by simp)))
    clear hb1
    go_wp2
    go_ret
    exact ret_bool (by rw [A.out, any_badBlade, Bool.not_not]) HB.out
  all_goals
    go_wp2_with (go_at_call 40; (with_reducible refine (within_any _ _ _ _).mono ?_); rintro e w' ⟨rfl, rfl⟩)
    go_ret
    exact ret_bool (by rw [HD.out]; simp [*]) Hb.out
set_option maxHeartbeats 400000 in
theorem areStints_any (A : Option Addr) (c : Nat) (l : List Stint) (w : World) (hr : At w w.heap.size 2 Stint.cells A l) (hl : l.length ≤ 9223372036854775807) : Calls Tryd.prog 65 #[.slice A l.length c] w (Ret (.bool (stintsS l)) w) := by
  have HD := Lib.hid (show stintsS l = (l.all Stint.ok && decide ((l.length : Int) ≤ 7)) from rfl)
  by_cases h7 : (l.length : Int) ≤ 7
  · have d7 : decide ((l.length : Int) ≤ 7) = true := decide_eq_true h7
    have D7 := Lib.hid d7
    clear h7
    go_enter Tryd.func65, Tryd.ntmps65
    go_wp2_with fail
    refine (containsStint_any _ _ _ _ hr hl).mono ?_
    rintro e w1 ⟨rfl, hb1⟩
    have HB := Lib.hid hb1
    clear hb1
    go_wp2
    go_ret
    exact ret_bool (by rw [HD.out, any_badStint, Bool.not_not, D7.out, Bool.and_true]) HB.out
  · have d7 : decide ((l.length : Int) ≤ 7) = false := decide_eq_false h7
    clear h7
    go_enter Tryd.func65, Tryd.ntmps65
    go_wp2
    go_ret
    exact ret_bool (by rw [HD.out, d7, Bool.and_false]) (Below.refl _ _)
def mountV (d : Die) (A : Option Addr) (n c : Nat) : Value := .agg #[.slice d.A d.blades.length d.c, .int .i64 d.bound, .int .i64 d.stop, .int .i64 d.bend, .slice A n c]
/-- What mount hands back: the die on the press, or nothing and the error. -/
def mountR (d : Die) (A : Option Addr) (c : Nat) (l : List Stint) : Value := if checkS d l = 0 then mountV d A l.length c else .agg #[.slice none 0 0, .int .i64 0, .int .i64 0, .int .i64 0, .slice none 0 0]
def zmount : List Value := [.slice none 0 0, .int .i64 0, .int .i64 0, .int .i64 0, .slice none 0 0]
theorem loadM {w : World} {b : Nat} {a0 a1 a2 a3 a4 : Value} (h : Bx w b [a0, a1, a2, a3, a4]) : (loadVar 84 ⟨b, 0, none⟩).run Tryd.prog w = .ok (.agg #[a0, a1, a2, a3, a4]) w := by
  have c0 := h.c 0 _ rfl
  have c1 := h.c 1 _ rfl
  have c2 := h.c 2 _ rfl
  have c3 := h.c 3 _ rfl
  have c4 := h.c 4 _ rfl
  clear h
  go_simp
set_option maxHeartbeats 400000 in
theorem mount_any (d : Die) (A : Option Addr) (c : Nat) (l : List Stint) (w : World) (hd : DieAt w w.heap.size d) (hr : At w w.heap.size 2 Stint.cells A l) (hl : l.length ≤ 9223372036854775807) :
    Calls Tryd.prog 47 #[.agg #[.slice d.A d.blades.length d.c, .int .i64 d.bound, .int .i64 d.stop, .int .i64 d.bend], .slice A l.length c] w (Ret (.tuple #[mountR d A c l, .int .i64 (checkS d l)]) w) := by
  have HC := Lib.hid (show checkS d l = if dieS d = false then 1 else if stintsS l = false then 2 else 0 from rfl)
  have HL := Lib.hid hl
  have hb0 := (nxA w (.cells #[.slice d.A d.blades.length d.c, .int .i64 d.bound, .int .i64 d.stop, .int .i64 d.bend] 24)).trans ((nxA (w.alloc (.cells #[.slice d.A d.blades.length d.c, .int .i64 d.bound, .int .i64 d.stop, .int .i64 d.bend] 24)) (.cells #[.slice none 0 0, .int .i64 0, .int .i64 0, .int .i64 0, .slice none 0 0] 84)).mono (by simp))
  have B0 := Lib.hid hb0
  have HR := Lib.hid (hr.next hb0)
  have HD := Lib.hid (hd.next hb0)
  have X0 := Lib.hid ((Bx.new w #[.slice d.A d.blades.length d.c, .int .i64 d.bound, .int .i64 d.stop, .int .i64 d.bend] 24).next (nxA _ (.cells #[.slice none 0 0, .int .i64 0, .int .i64 0, .int .i64 0, .slice none 0 0] 84)))
  have Z0 := Lib.hid (show Bx ((w.alloc (.cells #[.slice d.A d.blades.length d.c, .int .i64 d.bound, .int .i64 d.stop, .int .i64 d.bend] 24)).alloc (.cells #[.slice none 0 0, .int .i64 0, .int .i64 0, .int .i64 0, .slice none 0 0] 84)) (w.heap.size + 1) zmount from by
    have := Bx.new (w.alloc (.cells #[.slice d.A d.blades.length d.c, .int .i64 d.bound, .int .i64 d.stop, .int .i64 d.bend] 24)) #[.slice none 0 0, .int .i64 0, .int .i64 0, .int .i64 0, .slice none 0 0] 84
    rw [World.size_alloc] at this
    exact this)
  clear hr hl hd hb0
  go_enter Tryd.func47, Tryd.ntmps47
  go_wp2_with fail
  generalize ((w.alloc (.cells #[.slice d.A d.blades.length d.c, .int .i64 d.bound, .int .i64 d.stop, .int .i64 d.bend] 24)).alloc (.cells #[.slice none 0 0, .int .i64 0, .int .i64 0, .int .i64 0, .slice none 0 0] 84)) = V at *
  refine (isDie_any d _ HD.out).mono ?_
  rintro e V1 ⟨rfl, hb⟩
  have B1 := Lib.hid (B0.out.trans (hb.mono B0.out.size))
  have R1 := Lib.hid (HR.out.next hb)
  have X1 := Lib.hid (X0.out.next hb)
  have Z1 := Lib.hid (Z0.out.next hb)
  clear hb B0 HR X0 Z0 HD
  have c0 := X1.out.c 0 _ rfl
  have c1 := X1.out.c 1 _ rfl
  have c2 := X1.out.c 2 _ rfl
  have c3 := X1.out.c 3 _ rfl
  have z0 := Z1.out.c 0 _ rfl
  have z1 := Z1.out.c 1 _ rfl
  have z2 := Z1.out.c 2 _ rfl
  have z3 := Z1.out.c 3 _ rfl
  have z4 := Z1.out.c 4 _ rfl
  have f0 := Z1.out.fr 0
  have f1 := Z1.out.fr 1
  have f2 := Z1.out.fr 2
  have f3 := Z1.out.fr 3
  have f4 := Z1.out.fr 4
  cases hds : dieS d
  · have E1 := Lib.hid (show checkS d l = 1 by rw [HC.out, hds]; rfl)
    go_wp2
    refine bodyPost_ret (results_cellA rfl rfl (loadM (Z1.out.setAll zmount rfl))) rfl ?_
    refine ⟨?_, below_setCells (b := w.heap.size + 1) (by omega) zmount 0 B1.out⟩
    unfold mountR; rw [E1.out]; rfl
  · go_wp2_with fail
    refine (areStints_any A c l _ R1.out HL.out).mono ?_
    rintro e V2 ⟨rfl, hb⟩
    have B2 := Lib.hid (B1.out.trans (hb.mono B1.out.size))
    have X2 := Lib.hid (X1.out.next hb)
    have Z2 := Lib.hid (Z1.out.next hb)
    clear hb B1 R1 X1 Z1 c0 c1 c2 c3 z0 z1 z2 z3 z4 f0 f1 f2 f3 f4
    have c0 := X2.out.c 0 _ rfl
    have c1 := X2.out.c 1 _ rfl
    have c2 := X2.out.c 2 _ rfl
    have c3 := X2.out.c 3 _ rfl
    have z0 := Z2.out.c 0 _ rfl
    have z1 := Z2.out.c 1 _ rfl
    have z2 := Z2.out.c 2 _ rfl
    have z3 := Z2.out.c 3 _ rfl
    have z4 := Z2.out.c 4 _ rfl
    have f0 := Z2.out.fr 0
    have f1 := Z2.out.fr 1
    have f2 := Z2.out.fr 2
    have f3 := Z2.out.fr 3
    have f4 := Z2.out.fr 4
    cases hst : stintsS l
    · have E1 := Lib.hid (show checkS d l = 2 by rw [HC.out, hds, hst]; rfl)
      go_wp2
      refine bodyPost_ret (results_cellA rfl rfl (loadM (Z2.out.setAll zmount rfl))) rfl ?_
      refine ⟨?_, below_setCells (b := w.heap.size + 1) (by omega) zmount 0 B2.out⟩
      unfold mountR; rw [E1.out]; rfl
    · have E1 := Lib.hid (show checkS d l = 0 by rw [HC.out, hds, hst]; rfl)
      go_wp2
      refine bodyPost_ret (results_cellA rfl rfl (loadM (Z2.out.setAll [.slice d.A d.blades.length d.c, .int .i64 d.bound, .int .i64 d.stop, .int .i64 d.bend, .slice A l.length c] rfl))) rfl ?_
      refine ⟨?_, below_setCells (b := w.heap.size + 1) (by omega) [.slice d.A d.blades.length d.c, .int .i64 d.bound, .int .i64 d.stop, .int .i64 d.bend, .slice A l.length c] 0 B2.out⟩
      unfold mountR; rw [E1.out]; rfl
end Go.Proofs.YtbhkglokdomajaaDoor
