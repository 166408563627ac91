import Derived.Test.YtjlicbdnppodgaaTrn
namespace Go.Proofs.Ytjlicbdnppodgaa
open Go.RowKit
/-! The law CutTurned, walked. -/
set_option maxRecDepth 100000 in
set_option maxHeartbeats 4000000 in
theorem CutTurned_walk (c : Cut) (piece how : Int) (w : World) (hc : CutAt w w.heap.size c) (hp : I64 piece) (hh : 0 ≤ how ∧ how ≤ 255) : Calls Try.prog 10 #[.agg #[.int .i64 c.wide, .int .i64 c.high, .slice c.A c.piece.length c.c], .int .i64 piece, .int .u8 how] w (Ret (.bool true) w) := by
  have hb := nxA w (.cells #[.int .i64 c.wide, .int .i64 c.high, .slice c.A c.piece.length c.c] 24)
  have HX := Lib.hid (Bx.new w #[.int .i64 c.wide, .int .i64 c.high, .slice c.A c.piece.length c.c] 24)
  have HC := Lib.hid (hc.next hb)
  have HB := Lib.hid hb
  have HP := Lib.hid hp
  clear hc hb hp
  go_enter Try.func10, Try.ntmps10
  go_upto_region 1 with fail
  generalize (w.alloc (.cells #[.int .i64 c.wide, .int .i64 c.high, .slice c.A c.piece.length c.c] 24)) = V0 at *
  have c0 := HX.out.c 0 _ rfl
  have c1 := HX.out.c 1 _ rfl
  have c2 := HX.out.c 2 _ rfl
  go_wp2_with fail
  refine (Cut_any c V0 HC.out).mono ?_
  rintro e V1 ⟨rfl, hb⟩
  replace HX := Lib.hid (HX.out.next hb)
  replace HC := Lib.hid (HC.out.next hb)
  replace HB := Lib.hid (HB.out.trans (hb.mono HB.out.size))
  clear hb c0 c1 c2
  cases hcs : cutS c
  · clear hcs
    go_wp2_with fail
    refine (awake_any V1).mono ?_
    rintro e V2 ⟨rfl, hb⟩
    go_wp2_with fail
    go_ret
    exact ⟨rfl, HB.out.trans (hb.mono HB.out.size)⟩
  · have OK := Lib.hid ((okc_iff c).1 hcs)
    clear hcs
    have hw1 : IntKind.i64.wrap how = how := IntWalk.i64_in _ (by omega)
    obtain ⟨hm, hme⟩ : ∃ x, x = Int.tmod how 3 := ⟨_, rfl⟩
    have hme2 : Int.tmod how 3 = hm := hme.symm
    have HHM := Lib.hid (show 0 ≤ hm ∧ hm < 3 from by
      rw [hme, Int.tmod_eq_emod_of_nonneg hh.1]
      omega)
    have hw2 : IntKind.i64.wrap hm = hm := IntWalk.i64_in _ (by have := HHM.out; omega)
    clear hme
    have c0 := HX.out.c 0 _ rfl
    have c1 := HX.out.c 1 _ rfl
    have c2 := HX.out.c 2 _ rfl
    go_wp2_with fail
    refine (turned_any c hm HHM.out V1 OK.out HC.out).mono ?_
    rintro e V2 ⟨t, A0, k0, ht, rfl, hct, hb⟩
    replace HX := Lib.hid (HX.out.next hb)
    replace HC := Lib.hid (HC.out.next hb)
    replace HB := Lib.hid (HB.out.trans (hb.mono HB.out.size))
    clear hb
    have HCT := Lib.hid hct
    clear hct
    clear c0 c1 c2 hw1 hw2 hme2
    have HTN := Lib.hid ht
    clear ht
    obtain ⟨φ, ψ, hturn⟩ := turn_of OK.out HHM.out A0 k0
    rw [← HTN.out] at hturn
    have HTU := Lib.hid hturn
    clear hturn
    have hb := nxA V2 (.cells #[.int .i64 t.wide, .int .i64 t.high, .slice t.A t.piece.length t.c] 24)
    have hx := Bx.new V2 #[.int .i64 t.wide, .int .i64 t.high, .slice t.A t.piece.length t.c] 24
    obtain ⟨V3, hV3⟩ : ∃ W, W = V2.alloc (.cells #[.int .i64 t.wide, .int .i64 t.high, .slice t.A t.piece.length t.c] 24) := ⟨_, rfl⟩
    obtain ⟨g3, hg3⟩ : ∃ g, g = V2.heap.size := ⟨_, rfl⟩
    rw [← hV3] at hb hx
    rw [← hg3] at hx
    have HXT := Lib.hid hx
    clear hx
    replace HX := Lib.hid (HX.out.next hb)
    replace HC := Lib.hid (HC.out.next hb)
    replace HB := Lib.hid (HB.out.trans (hb.mono HB.out.size))
    replace HCT := Lib.hid (HCT.out.next hb)
    clear hb
    have c0 := HX.out.c 0 _ rfl
    have c1 := HX.out.c 1 _ rfl
    have c2 := HX.out.c 2 _ rfl
    rw [hV3] at c0 c1 c2
    go_upto_region 4 with fail
    rw [← hV3, ← hg3]
    clear hV3 hg3
    clear c0 c1 c2
    have c0 := HX.out.c 0 _ rfl
    have c1 := HX.out.c 1 _ rfl
    have c2 := HX.out.c 2 _ rfl
    go_wp2_with fail
    refine (CheckP_any c V3 HC.out).mono ?_
    rintro e V4 ⟨rfl, hb⟩
    replace HX := Lib.hid (HX.out.next hb)
    replace HC := Lib.hid (HC.out.next hb)
    replace HB := Lib.hid (HB.out.trans (hb.mono HB.out.size))
    replace HCT := Lib.hid (HCT.out.next hb)
    replace HXT := Lib.hid (HXT.out.next hb)
    clear hb
    clear c0 c1 c2
    unfold checkV
    have j0 := HXT.out.c 0 _ rfl
    have j1 := HXT.out.c 1 _ rfl
    have j2 := HXT.out.c 2 _ rfl
    go_wp2_with fail
    refine (CheckP_any t V4 HCT.out).mono ?_
    rintro e V5 ⟨rfl, hb⟩
    replace HX := Lib.hid (HX.out.next hb)
    replace HC := Lib.hid (HC.out.next hb)
    replace HB := Lib.hid (HB.out.trans (hb.mono HB.out.size))
    replace HCT := Lib.hid (HCT.out.next hb)
    replace HXT := Lib.hid (HXT.out.next hb)
    clear hb
    clear j0 j1 j2
    unfold checkV
    rw [HTU.out.check]
    have HZ := Lib.hid (show checkS t = checkS c from HTU.out.check)
    generalize (checkS c).1 = n1 at *
    generalize (checkS c).2 = n2 at *
    have c0 := HX.out.c 0 _ rfl
    have c1 := HX.out.c 1 _ rfl
    have c2 := HX.out.c 2 _ rfl
    go_wp2_with fail
    refine (SidesP_any c piece V5 HP.out HC.out).mono ?_
    rintro e V6 ⟨A1, k1, rfl, hs, hb⟩
    replace HX := Lib.hid (HX.out.next hb)
    replace HC := Lib.hid (HC.out.next hb)
    replace HB := Lib.hid (HB.out.trans (hb.mono HB.out.size))
    replace HCT := Lib.hid (HCT.out.next hb)
    replace HXT := Lib.hid (HXT.out.next hb)
    clear hb
    have HS1 := Lib.hid hs
    clear hs
    clear c0 c1 c2
    have j0 := HXT.out.c 0 _ rfl
    have j1 := HXT.out.c 1 _ rfl
    have j2 := HXT.out.c 2 _ rfl
    go_wp2_with fail
    refine (SidesP_any t piece V6 HP.out HCT.out).mono ?_
    rintro e V7 ⟨A2, k2, rfl, hs, hb⟩
    replace HX := Lib.hid (HX.out.next hb)
    replace HC := Lib.hid (HC.out.next hb)
    replace HB := Lib.hid (HB.out.trans (hb.mono HB.out.size))
    replace HCT := Lib.hid (HCT.out.next hb)
    replace HXT := Lib.hid (HXT.out.next hb)
    replace HS1 := Lib.hid (HS1.out.next hb)
    clear hb
    have HS2 := Lib.hid hs
    clear hs
    clear j0 j1 j2
    rw [HTU.out.sides] at HS2 ⊢
    rw [HTU.out.open_]
    have c0 := HX.out.c 0 _ rfl
    have c1 := HX.out.c 1 _ rfl
    have c2 := HX.out.c 2 _ rfl
    go_wp2_with fail
    refine (LinesP_any c V7 HC.out).mono ?_
    rintro e V8 ⟨rfl, hb⟩
    replace HX := Lib.hid (HX.out.next hb)
    replace HC := Lib.hid (HC.out.next hb)
    replace HB := Lib.hid (HB.out.trans (hb.mono HB.out.size))
    replace HCT := Lib.hid (HCT.out.next hb)
    replace HXT := Lib.hid (HXT.out.next hb)
    replace HS1 := Lib.hid (HS1.out.next hb)
    replace HS2 := Lib.hid (HS2.out.next hb)
    clear hb
    clear c0 c1 c2
    unfold linesV
    have HLT := Lib.hid (show linesS t = linesS c ∧ cutE t = cutE c from ⟨HTU.out.lines, by unfold cutE; rw [HTU.out.check]⟩)
    generalize hq : linesS c = q at *
    obtain ⟨a, b, j, s⟩ := q
    dsimp only
    generalize hqe : cutE c = ce at *
    have HQ := Lib.hid hq
    have HQE := Lib.hid hqe
    clear hq hqe
    have hb := nxA V8 (.cells #[.int .i64 a, .int .i64 b, .int .i64 j, .int .i64 s] 39)
    have hx := Bx.new V8 #[.int .i64 a, .int .i64 b, .int .i64 j, .int .i64 s] 39
    obtain ⟨V9, hV9⟩ : ∃ W, W = V8.alloc (.cells #[.int .i64 a, .int .i64 b, .int .i64 j, .int .i64 s] 39) := ⟨_, rfl⟩
    obtain ⟨g9, hg9⟩ : ∃ g, g = V8.heap.size := ⟨_, rfl⟩
    rw [← hV9] at hb hx
    rw [← hg9] at hx
    have BL1 := Lib.hid hx
    clear hx
    replace HX := Lib.hid (HX.out.next hb)
    replace HC := Lib.hid (HC.out.next hb)
    replace HB := Lib.hid (HB.out.trans (hb.mono HB.out.size))
    replace HCT := Lib.hid (HCT.out.next hb)
    replace HXT := Lib.hid (HXT.out.next hb)
    replace HS1 := Lib.hid (HS1.out.next hb)
    replace HS2 := Lib.hid (HS2.out.next hb)
    clear hb
    go_upto_region 9 with fail
    rw [← hV9, ← hg9]
    clear hV9 hg9
    have j0 := HXT.out.c 0 _ rfl
    have j1 := HXT.out.c 1 _ rfl
    have j2 := HXT.out.c 2 _ rfl
    go_wp2_with fail
    refine (LinesP_any t V9 HCT.out).mono ?_
    rintro e V10 ⟨rfl, hb⟩
    replace HX := Lib.hid (HX.out.next hb)
    replace HC := Lib.hid (HC.out.next hb)
    replace HB := Lib.hid (HB.out.trans (hb.mono HB.out.size))
    replace HCT := Lib.hid (HCT.out.next hb)
    replace HXT := Lib.hid (HXT.out.next hb)
    replace HS1 := Lib.hid (HS1.out.next hb)
    replace HS2 := Lib.hid (HS2.out.next hb)
    replace BL1 := Lib.hid (BL1.out.next hb)
    clear hb
    clear j0 j1 j2
    unfold linesV
    rw [HLT.out.1, HLT.out.2]
    dsimp only
    have hb := nxA V10 (.cells #[.int .i64 a, .int .i64 b, .int .i64 j, .int .i64 s] 39)
    have hx := Bx.new V10 #[.int .i64 a, .int .i64 b, .int .i64 j, .int .i64 s] 39
    obtain ⟨V11, hV11⟩ : ∃ W, W = V10.alloc (.cells #[.int .i64 a, .int .i64 b, .int .i64 j, .int .i64 s] 39) := ⟨_, rfl⟩
    obtain ⟨g11, hg11⟩ : ∃ g, g = V10.heap.size := ⟨_, rfl⟩
    rw [← hV11] at hb hx
    rw [← hg11] at hx
    have BL2 := Lib.hid hx
    clear hx
    replace HX := Lib.hid (HX.out.next hb)
    replace HC := Lib.hid (HC.out.next hb)
    replace HB := Lib.hid (HB.out.trans (hb.mono HB.out.size))
    replace HCT := Lib.hid (HCT.out.next hb)
    replace HXT := Lib.hid (HXT.out.next hb)
    replace HS1 := Lib.hid (HS1.out.next hb)
    replace HS2 := Lib.hid (HS2.out.next hb)
    replace BL1 := Lib.hid (BL1.out.next hb)
    clear hb
    go_upto_region 10 with fail
    rw [← hV11, ← hg11]
    clear hV11 hg11
    have c0 := HX.out.c 0 _ rfl
    have c1 := HX.out.c 1 _ rfl
    have c2 := HX.out.c 2 _ rfl
    go_wp2_with fail
    refine (InsideP_any c piece V11 HP.out HC.out).mono ?_
    rintro e V12 ⟨A3, k3, rfl, hs, hb⟩
    replace HX := Lib.hid (HX.out.next hb)
    replace HC := Lib.hid (HC.out.next hb)
    replace HB := Lib.hid (HB.out.trans (hb.mono HB.out.size))
    replace HCT := Lib.hid (HCT.out.next hb)
    replace HXT := Lib.hid (HXT.out.next hb)
    replace HS1 := Lib.hid (HS1.out.next hb)
    replace HS2 := Lib.hid (HS2.out.next hb)
    replace BL1 := Lib.hid (BL1.out.next hb)
    replace BL2 := Lib.hid (BL2.out.next hb)
    clear hb
    have HI1 := Lib.hid hs
    clear hs
    clear c0 c1 c2
    have j0 := HXT.out.c 0 _ rfl
    have j1 := HXT.out.c 1 _ rfl
    have j2 := HXT.out.c 2 _ rfl
    go_wp2_with fail
    refine (InsideP_any t piece V12 HP.out HCT.out).mono ?_
    rintro e V13 ⟨A4, k4, rfl, hs, hb⟩
    replace HX := Lib.hid (HX.out.next hb)
    replace HC := Lib.hid (HC.out.next hb)
    replace HB := Lib.hid (HB.out.trans (hb.mono HB.out.size))
    replace HCT := Lib.hid (HCT.out.next hb)
    replace HXT := Lib.hid (HXT.out.next hb)
    replace HS1 := Lib.hid (HS1.out.next hb)
    replace HS2 := Lib.hid (HS2.out.next hb)
    replace BL1 := Lib.hid (BL1.out.next hb)
    replace BL2 := Lib.hid (BL2.out.next hb)
    replace HI1 := Lib.hid (HI1.out.next hb)
    clear hb
    have HI2 := Lib.hid hs
    clear hs
    clear j0 j1 j2
    rw [HTU.out.inside] at HI2 ⊢
    rw [HTU.out.open_]
    have c0 := HX.out.c 0 _ rfl
    have c1 := HX.out.c 1 _ rfl
    have c2 := HX.out.c 2 _ rfl
    go_wp2_with fail
    refine (SawP_any c V13 HC.out).mono ?_
    rintro e V14 ⟨A5, k5, rfl, hs, hb⟩
    replace HX := Lib.hid (HX.out.next hb)
    replace HC := Lib.hid (HC.out.next hb)
    replace HB := Lib.hid (HB.out.trans (hb.mono HB.out.size))
    replace HCT := Lib.hid (HCT.out.next hb)
    replace HXT := Lib.hid (HXT.out.next hb)
    replace HS1 := Lib.hid (HS1.out.next hb)
    replace HS2 := Lib.hid (HS2.out.next hb)
    replace BL1 := Lib.hid (BL1.out.next hb)
    replace BL2 := Lib.hid (BL2.out.next hb)
    replace HI1 := Lib.hid (HI1.out.next hb)
    replace HI2 := Lib.hid (HI2.out.next hb)
    clear hb
    clear c0 c1 c2 hs
    have j0 := HXT.out.c 0 _ rfl
    have j1 := HXT.out.c 1 _ rfl
    have j2 := HXT.out.c 2 _ rfl
    go_wp2_with fail
    refine (SawP_any t V14 HCT.out).mono ?_
    rintro e V15 ⟨A6, k6, rfl, hs, hb⟩
    replace HX := Lib.hid (HX.out.next hb)
    replace HC := Lib.hid (HC.out.next hb)
    replace HB := Lib.hid (HB.out.trans (hb.mono HB.out.size))
    replace HCT := Lib.hid (HCT.out.next hb)
    replace HXT := Lib.hid (HXT.out.next hb)
    replace HS1 := Lib.hid (HS1.out.next hb)
    replace HS2 := Lib.hid (HS2.out.next hb)
    replace BL1 := Lib.hid (BL1.out.next hb)
    replace BL2 := Lib.hid (BL2.out.next hb)
    replace HI1 := Lib.hid (HI1.out.next hb)
    replace HI2 := Lib.hid (HI2.out.next hb)
    clear hb
    clear j0 j1 j2 hs
    rw [HTU.out.sawn.1, HTU.out.sawn.2]
    clear HX HC HXT HCT
    have HL1 := Lib.hid (sidesL_len c piece)
    have HL2 := Lib.hid (insideL_len c piece)
    generalize sawE c = se at *
    generalize (sawL c).length = sn at *
    generalize openE c piece = oe at *
    generalize sidesL c piece = l1 at *
    generalize insideL c piece = l2 at *
    have e1 : (n1 == n1) = true := by simp
    have e2 : (n2 == n2) = true := by simp
    have e3 : (oe == oe) = true := by simp
    have e4 : (ce == ce) = true := by simp
    have e5 : (se == se) = true := by simp
    have e6 : ((sn : Int) == (sn : Int)) = true := by simp
    go_wp2_with fail
    refine (SameSides_any l1 l1 A1 A2 k1 k2 V15 HS1.out HS2.out HL1.out HL1.out).mono ?_
    rintro e V16 ⟨rfl, hb⟩
    replace HB := Lib.hid (HB.out.trans (hb.mono HB.out.size))
    replace HS1 := Lib.hid (HS1.out.next hb)
    replace HS2 := Lib.hid (HS2.out.next hb)
    replace BL1 := Lib.hid (BL1.out.next hb)
    replace BL2 := Lib.hid (BL2.out.next hb)
    replace HI1 := Lib.hid (HI1.out.next hb)
    replace HI2 := Lib.hid (HI2.out.next hb)
    clear hb
    rw [show decide (l1 = l1) = true by simp]
    clear HS1 HS2
    have m10 := BL1.out.c 0 _ rfl
    have m11 := BL1.out.c 1 _ rfl
    have m12 := BL1.out.c 2 _ rfl
    have m13 := BL1.out.c 3 _ rfl
    have m20 := BL2.out.c 0 _ rfl
    have m21 := BL2.out.c 1 _ rfl
    have m22 := BL2.out.c 2 _ rfl
    have m23 := BL2.out.c 3 _ rfl
    have HEQ := lines_eql a b j s
    go_wp2_with fail
    clear HEQ m10 m11 m12 m13 m20 m21 m22 m23
    clear BL1 BL2
    refine (Ints_any l2 l2 A3 A4 k3 k4 V16 HI1.out HI2.out HL2.out HL2.out).mono ?_
    rintro e V17 ⟨rfl, hb⟩
    replace HB := Lib.hid (HB.out.trans (hb.mono HB.out.size))
    replace HI1 := Lib.hid (HI1.out.next hb)
    replace HI2 := Lib.hid (HI2.out.next hb)
    clear hb
    rw [show decide (l2 = l2) = true by simp]
    clear HI1 HI2
    go_wp2_with fail
    refine (awake_any V17).mono ?_
    rintro e V18 ⟨rfl, hb⟩
    replace HB := Lib.hid (HB.out.trans (hb.mono HB.out.size))
    clear hb
    go_wp2_with fail
    go_ret
    exact ⟨rfl, HB.out⟩
end Go.Proofs.Ytjlicbdnppodgaa
