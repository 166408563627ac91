import Derived.Test.YtonnemkecppmiaaGreatDoorS0
import Derived.Test.YtonnemkecppmiaaGreatDoorPln
namespace Go.Proofs.YtonnemkecppmiaaGreatDoor
open Go.RowKit
/-! The chapter's data in memory; the program's small tests. -/
def Ed.cells (e : Ed) : List Value := [.int .i64 e.kind, .int .i64 e.a.lo, .int .i64 e.a.hi, .int .i64 e.w.lo, .int .i64 e.w.hi, .int .i64 e.d.lo, .int .i64 e.d.hi]
def Pc.cells (p : Pc) : List Value := p.e0.cells ++ (p.e1.cells ++ (p.e2.cells ++ p.e3.cells))
def Wo.cells (w : Wo) : List Value := [.int .i64 w.team, .int .i64 w.minute, .int .i64 w.got.lo, .int .i64 w.got.hi]
set_option maxHeartbeats 400000 in
theorem within_any (a b c : Int) (w : World) : Calls Tryz.prog 71 #[.int .i64 a, .int .i64 b, .int .i64 c] w (RetQ (.bool (inP a b c)) w) := by
  go_enter Tryz.func71, Tryz.ntmps71
  go_wp2
  all_goals (go_ret; refine retq_bool ?_; unfold inP; rw [Bool.eq_iff_iff]; simp; try omega)
set_option maxHeartbeats 400000 in
theorem isSpan_any (s : Sp) (a b : Int) (w : World) : Calls Tryz.prog 72 #[.agg #[.int .i64 s.lo, .int .i64 s.hi], .int .i64 a, .int .i64 b] w (Ret (.bool (okSp s a b)) w) := by
  go_enter Tryz.func72, Tryz.ntmps72
  go_wp2
  all_goals (go_ret; refine ret_bool ?_ ((Below.refl _ _).alloc (Nat.le_refl _) _); unfold okSp; rw [Bool.eq_iff_iff]; simp; try omega)
theorem edge_eq1 : Tryz.prog.underlying 48 = some (.struct (Tryz.prog.fieldsOf 48)) := by kernel_rfl
theorem edge_eq2 : Tryz.prog.stoodInHeld 48 = false := by kernel_rfl
theorem edge_eq3 : Tryz.prog.eqGuardType Tryz.prog.depth 48 = false := by kernel_rfl
theorem edge_eql (e : Ed) (W : World) : (binOp .eql 48 (.agg #[.int .i64 e.kind, .int .i64 e.a.lo, .int .i64 e.a.hi, .int .i64 e.w.lo, .int .i64 e.w.hi, .int .i64 e.d.lo, .int .i64 e.d.hi]) (.agg #[.int .i64 0, .int .i64 0, .int .i64 0, .int .i64 0, .int .i64 0, .int .i64 0, .int .i64 0])).run Tryz.prog W = .ok (.bool (decide (e = ed0))) W := by
  rw [run_eql_struct, run_equalIn_struct _ _ _ _ _ edge_eq1 edge_eq2]
  obtain ⟨k, ⟨a, b⟩, ⟨c, d⟩, ⟨f, g⟩⟩ := e
  simp only [ed0, sp0, Ed.mk.injEq, Sp.mk.injEq]
  simp [Op.eqFields, go_sem]
  by_cases h1 : k = 0 <;> by_cases h2 : a = 0 <;> by_cases h3 : b = 0 <;> by_cases h4 : c = 0 <;> by_cases h5 : d = 0 <;> by_cases h6 : f = 0 <;> by_cases h7 : g = 0 <;> simp [h1, h2, h3, h4, h5, h6, h7]
set_option maxHeartbeats 1000000 in
theorem isSide_any (e : Ed) (w : World) : Calls Tryz.prog 89 #[.agg #[.int .i64 e.kind, .int .i64 e.a.lo, .int .i64 e.a.hi, .int .i64 e.w.lo, .int .i64 e.w.hi, .int .i64 e.d.lo, .int .i64 e.d.hi]] w (Ret (.bool (okEd e)) w) := by
  have HX := Lib.hid (Bx.new w #[.int .i64 e.kind, .int .i64 e.a.lo, .int .i64 e.a.hi, .int .i64 e.w.lo, .int .i64 e.w.hi, .int .i64 e.d.lo, .int .i64 e.d.hi] 48)
  have HB := Lib.hid (nxA w (.cells #[.int .i64 e.kind, .int .i64 e.a.lo, .int .i64 e.a.hi, .int .i64 e.w.lo, .int .i64 e.w.hi, .int .i64 e.d.lo, .int .i64 e.d.hi] 48))
  have hq1 := fun W => edge_eql e W
  have hq3 := edge_eq3
  have HOK := Lib.hid (show okEd e = if e.kind = 0 then decide (e = ed0) else if e.kind = 1 ∨ e.kind = 2 then okSp e.a 0 10000 && (okSp e.w 1 3000 && okSp e.d 1 3000) else false from rfl)
  go_enter Tryz.func89, Tryz.ntmps89
  go_upto_region 1 with fail
  generalize (w.alloc (.cells #[.int .i64 e.kind, .int .i64 e.a.lo, .int .i64 e.a.hi, .int .i64 e.w.lo, .int .i64 e.w.hi, .int .i64 e.d.lo, .int .i64 e.d.hi] 48)) = V at *
  have c0 := HX.out.c 0 _ rfl
  have c1 := HX.out.c 1 _ rfl
  have c2 := HX.out.c 2 _ rfl
  have c3 := HX.out.c 3 _ rfl
  have c4 := HX.out.c 4 _ rfl
  have c5 := HX.out.c 5 _ rfl
  have c6 := HX.out.c 6 _ rfl
  by_cases hk0 : e.kind = 0
  · have d0 : (e.kind == 0) = true := by simp [hk0]
    have hh := HOK.out
    rw [if_pos hk0] at hh
    clear hk0
    go_wp2_with fail
    go_ret
    exact ret_bool rfl HB.out
  · have d0 : (e.kind == 0) = false := by simp [hk0]
    have hh := HOK.out
    rw [if_neg hk0] at hh
    by_cases hk : e.kind = 1 ∨ e.kind = 2
    · rw [if_pos hk] at hh
      have d12 : ((e.kind == 1) = true) ∨ ((e.kind == 1) = false ∧ (e.kind == 2) = true) := by
        rcases hk with hk | hk
        · exact .inl (by simp [hk])
        · exact .inr ⟨by simp [hk], by simp [hk]⟩
      clear hk hk0
      rcases d12 with d1 | ⟨d1, d2⟩
      all_goals
        go_wp2_with fail
        refine (isSpan_any e.a 0 10000 V).mono ?_
        rintro e1 V1 ⟨rfl, hb⟩
        have HB1 := Lib.hid (HB.out.trans (hb.mono HB.out.size))
        have HX1 := Lib.hid (HX.out.next hb)
        clear hb c0 c1 c2 c3 c4 c5 c6
        have c3 := HX1.out.c 3 _ rfl
        have c4 := HX1.out.c 4 _ rfl
        cases ha : okSp e.a 0 10000
        · go_wp2_with fail
          go_ret
          exact ret_bool (by rw [hh, ha]; rfl) HB1.out
        · go_wp2_with fail
          refine (isSpan_any e.w 1 3000 V1).mono ?_
          rintro e1 V2 ⟨rfl, hb⟩
          have HB2 := Lib.hid (HB1.out.trans (hb.mono HB1.out.size))
          have HX2 := Lib.hid (HX1.out.next hb)
          clear hb c3 c4
          have c5 := HX2.out.c 5 _ rfl
          have c6 := HX2.out.c 6 _ rfl
          cases hw : okSp e.w 1 3000
          · go_wp2_with fail
            go_ret
            exact ret_bool (by rw [hh, ha, hw]; rfl) HB2.out
          · go_wp2_with fail
            refine (isSpan_any e.d 1 3000 V2).mono ?_
            rintro e1 V3 ⟨rfl, hb⟩
            have HB3 := Lib.hid (HB2.out.trans (hb.mono HB2.out.size))
            clear hb
            go_wp2_with fail
            go_ret
            exact ret_bool (by rw [hh, ha, hw]; rfl) HB3.out
    · rw [if_neg hk] at hh
      have d1 : (e.kind == 1) = false := by simp; omega
      have d2 : (e.kind == 2) = false := by simp; omega
      clear hk hk0
      go_wp2_with fail
      go_ret
      exact ret_bool rfl HB.out
end Go.Proofs.YtonnemkecppmiaaGreatDoor
