import Derived.Test.YtonnemkecppmiaaGreatDoorQ4
import Derived.Test.YtonnemkecppmiaaGreatDoorP9
import Derived.Defers
import Derived.Recover
namespace Go.Proofs.YtonnemkecppmiaaGreatDoor
open Go.RowKit
/-! The program: read, of a drawing; what is recovered. -/
abbrev puZ : List Value := [.int .i64 0, .int .i64 0, .int .i64 0, .int .i64 0, .int .i64 0, .int .i64 0, .int .i64 0, .bool false, .slice none 0 0]
set_option maxRecDepth 100000 in
set_option maxHeartbeats 1000000 in
theorem readPu1_panicking (B b c : Nat) (vs : List Value) (x : Value) (older : List PanicEntry) (w : World) (hl : vs.length = 9) (hX : Bx w b vs) (hY : Bx w c [x]) (hB : B ≤ b) (hC : B ≤ c) (hbc : b ≠ c) :
    CallsD Tryz.prog 80 #[.pointer (some ⟨b, 0, none⟩), .pointer (some ⟨c, 0, none⟩)] (.panicking ({ v := .iface 129 (.agg #[]), recovered := false } :: older)) w fun e u' w' =>
      e = .returned (.tuple #[]) ∧ u' = .panicking ({ v := .iface 129 (.agg #[]), recovered := true } :: older) ∧ Bx w' b puZ ∧ Bx w' c [.int .i64 8] ∧ Below B w w' := by
  obtain ⟨x0, x1, x2, x3, x4, x5, x6, x7, x8, rfl⟩ : ∃ x0 x1 x2 x3 x4 x5 x6 x7 x8, vs = [x0, x1, x2, x3, x4, x5, x6, x7, x8] := by
    match vs, hl with
    | [x0, x1, x2, x3, x4, x5, x6, x7, x8], _ => exact ⟨x0, x1, x2, x3, x4, x5, x6, x7, x8, rfl⟩
  clear hl
  refine callsD_of_wpS Tryz.func80 rfl fun c₀ cs hu => ?_
  apply wpS_seq
  apply wpS_region
  simp [wpOpsS, go_sem, recoverD, hu, Tryz.ntmps80, Exit.thenS]
  refine wpS_of_wp ?_
  change Code.wp _ _ _ { tmps := #[.pointer (some ⟨b, 0, none⟩), .pointer (some ⟨c, 0, none⟩), .iface 129 (.agg #[]), undef, undef, undef, .iface 129 (.agg #[]), undef, undef, undef, undef, undef, undef, undef, undef, undef, undef, undef], defers := [] } w
  have hne : ∀ W : World, (binOp .neq 20 (.iface 129 (.agg #[])) .nilIface).run Tryz.prog W = .ok (.bool true) W := fun W => by kernel_rfl
  have hta : ∀ W : World, (Instr.typeAssert (.iface 129 (.agg #[])) 20 129 true).run Tryz.prog W = .ok (.tuple #[.agg #[], .bool true]) W := fun W => by kernel_rfl
  have n1 := nxA w (.cells #[] 129)
  have n2 := nxA (w.alloc (.cells #[] 129)) (.cells puZ.toArray 28)
  have HX2 := Lib.hid ((hX.next n1).next n2)
  have HY2 := Lib.hid ((hY.next n1).next n2)
  have HZ2 := Lib.hid (Bx.new (w.alloc (.cells #[] 129)) puZ.toArray 28)
  have hlt := Nat.lt_of_lt_of_le hX.lt (Nat.le_refl _)
  have HBB := Lib.hid (show Below w.heap.size w ((w.alloc (.cells #[] 129)).alloc (.cells puZ.toArray 28)) from n1.trans (n2.mono n1.size))
  have hb : b < w.heap.size := hX.lt
  have hc : c < w.heap.size := hY.lt
  clear n1 n2 hX hY hlt
  go_upto_region 5 with fail
  go_upto_region 6 with fail
  change Code.wp _ _ _ _ ((w.alloc (.cells #[] 129)).alloc (.cells puZ.toArray 28))
  rw [show w.heap.size + 1 = (w.alloc (.cells #[] 129)).heap.size by simp]
  generalize hV : (w.alloc (.cells #[] 129)).alloc (.cells puZ.toArray 28) = V at *
  clear hV
  generalize (w.alloc (.cells #[] 129)).heap.size = d at *
  have k0 := HZ2.out.c 0 _ rfl
  have k1 := HZ2.out.c 1 _ rfl
  have k2 := HZ2.out.c 2 _ rfl
  have k3 := HZ2.out.c 3 _ rfl
  have k4 := HZ2.out.c 4 _ rfl
  have k5 := HZ2.out.c 5 _ rfl
  have k6 := HZ2.out.c 6 _ rfl
  have k7 := HZ2.out.c 7 _ rfl
  have k8 := HZ2.out.c 8 _ rfl
  have z0 := HX2.out.c 0 _ rfl
  have z1 := HX2.out.c 1 _ rfl
  have z2 := HX2.out.c 2 _ rfl
  have z3 := HX2.out.c 3 _ rfl
  have z4 := HX2.out.c 4 _ rfl
  have z5 := HX2.out.c 5 _ rfl
  have z6 := HX2.out.c 6 _ rfl
  have z7 := HX2.out.c 7 _ rfl
  have z8 := HX2.out.c 8 _ rfl
  have y0 := HX2.out.fr 0
  have y1 := HX2.out.fr 1
  have y2 := HX2.out.fr 2
  have y3 := HX2.out.fr 3
  have y4 := HX2.out.fr 4
  have y5 := HX2.out.fr 5
  have y6 := HX2.out.fr 6
  have y7 := HX2.out.fr 7
  have y8 := HX2.out.fr 8
  have x0 := HY2.out.c 0 _ rfl
  have f0 := HY2.out.fr 0
  have HR := Lib.hid (show Bx ((setCells V b 0 puZ).setCell ⟨c, 0, none⟩ (.int .i64 8)) b puZ ∧ Bx ((setCells V b 0 puZ).setCell ⟨c, 0, none⟩ (.int .i64 8)) c [.int .i64 8] ∧ Below B w ((setCells V b 0 puZ).setCell ⟨c, 0, none⟩ (.int .i64 8)) from
    ⟨(HX2.out.setAll puZ rfl).other hbc 0 _, (HY2.out.setOther (fun e => hbc e.symm) puZ 0).set (k := 0) (by simp) _, (below_setCells (b := b) hB puZ 0 (HBB.out.mono (by omega))).setCell (p := ⟨c, 0, none⟩) hC _⟩)
  go_wp2_with fail
  change bodyPostS _ _ _ _ _ _ _ _ ((setCells V b 0 puZ).setCell ⟨c, 0, none⟩ (.int .i64 8))
  generalize (setCells V b 0 puZ).setCell ⟨c, 0, none⟩ (.int .i64 8) = Wf at HR ⊢
  obtain ⟨r1, r2, r3⟩ := HR.out
  clear HX2 HY2 HZ2 HBB HR k0 k1 k2 k3 k4 k5 k6 k7 k8 z0 z1 z2 z3 z4 z5 z6 z7 z8 y0 y1 y2 y3 y4 y5 y6 y7 y8 x0 f0
  cases c₀
  simp_all [bodyPostS, results, Tryz.results80]
set_option maxRecDepth 100000 in
set_option maxHeartbeats 2000000 in
theorem readPu1_idle (p q : Addr) (w : World) :
    CallsD Tryz.prog 80 #[.pointer (some p), .pointer (some q)] .returning w fun e u' w' => e = .returned (.tuple #[]) ∧ u' = .returning ∧ w' = w := by
  refine callsD_of_wpS Tryz.func80 rfl fun c₀ cs hu => ?_
  apply wpS_seq
  apply wpS_region
  simp [wpOpsS, go_sem, recoverD, hu, Tryz.ntmps80, Exit.thenS]
  refine wpS_of_wp ?_
  go_wp2
  cases c₀
  simp_all [bodyPostS, results, Tryz.results80]
/-- What reading a drawing hands back: the drawing, and the error's number. -/
def rdV (s : Tx) : Pu := if 65536 < s.length then pu0 else (readD s).getD pu0
def rdE (s : Tx) : Int := if 65536 < s.length then 3 else if (readD s).isSome then 0 else 8
def RetRd (s : Tx) (w : World) (e : Ending) (w' : World) : Prop := ∃ m : Mp, m.d = rdV s ∧ e = .returned (.tuple #[.agg #[.int .i64 m.d.play.len, .int .i64 m.d.play.slack, .int .i64 m.d.play.loose, .int .i64 m.d.play.damp.lo, .int .i64 m.d.play.damp.hi, .int .i64 m.d.wide, .int .i64 m.d.high, .bool m.d.turn, .slice m.A m.d.pieces.length m.c], .int .i64 (rdE s)]) ∧ PuAt w' w'.heap.size m ∧ (∀ a, m.A = some a → w.heap.size ≤ a.block) ∧ Below w.heap.size w w'
theorem loadI {w : World} {b : Nat} {x : Int} (h : Bx w b [.int .i64 x]) : (loadVar 30 ⟨b, 0, none⟩).run Tryz.prog w = .ok (.int .i64 x) w := by
  have c0 := h.c 0 _ rfl
  clear h
  go_simp
end Go.Proofs.YtonnemkecppmiaaGreatDoor
