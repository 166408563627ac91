import Derived.Test.YtjlicbdnppodgaaR12
import Derived.Test.YtjlicbdnppodgaaP18
namespace Go.Proofs.Ytjlicbdnppodgaa
section
open Go.RowKit
/-! The reference: Saw. -/
theorem rec_all {c : Cut} (ok : OkC c) : Rec c 24 0 0 c.wide c.high := ⟨by have := ok.w; omega, by have := ok.h; omega, by have := ok.w; have := ok.h; omega⟩
set_option maxHeartbeats 2000000 in
theorem SawR_any (c : Cut) (w : World) (hr : CutAt w w.heap.size c) : Calls Try.prog 25 #[.agg #[.int .i64 c.wide, .int .i64 c.high, .slice c.A c.piece.length c.c]] w (RetSaw c w) := by
  have HX := Lib.hid (Bx.new w #[.int .i64 c.wide, .int .i64 c.high, .slice c.A c.piece.length c.c] 24)
  have HB := Lib.hid (nxA w (.cells #[.int .i64 c.wide, .int .i64 c.high, .slice c.A c.piece.length c.c] 24))
  have HR := Lib.hid (hr.next HB.out)
  have HRW := Lib.hid hr
  have HS := Lib.hid (show sawE c = if (checkS c).2 ≠ 0 then (checkS c).2 else if (sawF c 24 0 0 c.wide c.high).2 = true then 0 else 11 from rfl)
  have HLS := Lib.hid (show sawL c = if sawE c = 0 then (sawF c 24 0 0 c.wide c.high).1 else [] from rfl)
  clear hr
  go_enter Try.func25, Try.ntmps25
  go_upto_region 1 with fail
  generalize (w.alloc (.cells #[.int .i64 c.wide, .int .i64 c.high, .slice c.A c.piece.length c.c] 24)) = V at *
  have c0 := HX.out.c 0 _ rfl
  have c1 := HX.out.c 1 _ rfl
  have c2 := HX.out.c 2 _ rfl
  go_wp2_with fail
  refine (Check_any c V HR.out).mono ?_
  rintro e W ⟨rfl, hb⟩
  have HX2 := Lib.hid (HX.out.next hb)
  have HB2 := Lib.hid (HB.out.trans (hb.mono HB.out.size))
  clear c0 c1 c2 hb
  unfold checkV
  by_cases h1 : (checkS c).2 = 0
  · obtain ⟨a1, a2, a3, a4⟩ := check_ok h1
    have OK := Lib.hid ((okc_iff c).1 a1)
    have HE := Lib.hid (show sawE c = if (sawF c 24 0 0 c.wide c.high).2 = true then 0 else 11 from by rw [HS.out, if_neg (by rw [h1]; simp)])
    rw [a2]
    clear h1 a1 a2 a3 a4
    have c0 := HX2.out.c 0 _ rfl
    have c1 := HX2.out.c 1 _ rfl
    have c2 := HX2.out.c 2 _ rfl
    go_wp2_with fail
    refine (sawR_any c OK.out w HRW.out 24 0 0 c.wide c.high W HB2.out (rec_all OK.out)).mono ?_
    rintro e W2 ⟨A, cap, rfl, hat, hb2⟩
    have HB3 := Lib.hid (HB2.out.trans (hb2.mono HB2.out.size))
    have HAT := Lib.hid hat
    clear hat hb2 c0 c1 c2
    cases hs : (sawF c 24 0 0 c.wide c.high).2
    · have HE2 := Lib.hid (show sawE c = 11 from by rw [HE.out, hs]; rfl)
      have HL2 := Lib.hid (show sawL c = [] from by rw [HLS.out, HE2.out]; rfl)
      clear hs
      go_wp2_with fail
      go_ret2
      exact ⟨none, 0, by rw [HL2.out, HE2.out]; rfl, by rw [HL2.out]; exact At.nil, HB3.out⟩
    · have HE2 := Lib.hid (show sawE c = 0 from by rw [HE.out, hs]; rfl)
      have HL2 := Lib.hid (show sawL c = (sawF c 24 0 0 c.wide c.high).1 from by rw [HLS.out, HE2.out]; rfl)
      clear hs
      go_wp2_with fail
      go_ret2
      exact ⟨A, cap, by rw [HL2.out, HE2.out]; rfl, by rw [HL2.out]; exact HAT.out, HB3.out⟩
  · have HE := Lib.hid (show sawE c = (checkS c).2 from by rw [HS.out, if_pos h1])
    have HL := Lib.hid (show sawL c = [] from by rw [HLS.out, if_neg (by rw [HE.out]; exact h1)])
    have e1 : ((checkS c).2 == 0) = false := by simp [h1]
    clear h1 HS HLS
    generalize checkS c = x at *
    go_wp2_with fail
    go_ret2
    exact ⟨none, 0, by rw [HL.out, HE.out]; rfl, by rw [HL.out]; exact At.nil, HB2.out⟩
end
section
open Go.RowKit
/-! The program: Saw. -/
theorem open_zero (c : Cut) : openE c 0 = (checkS c).2 := by
  unfold openE
  by_cases h : (checkS c).2 ≠ 0
  · rw [if_pos h]
  · rw [if_neg h]
    have h0 := Classical.not_not.1 h
    have hg := great_bd ((okc_iff c).1 (check_ok h0).1)
    rw [if_pos (by unfold inS; simp; omega), h0]
theorem load1s {w : World} {b : Nat} {A : Option Addr} {n k : Nat} (h : Bx w b [.slice A n k]) : (loadVar 42 ⟨b, 0, none⟩).run Try.prog w = .ok (.slice A n k) w := by
  have h0 := h.c 0 _ rfl
  go_simp
set_option maxRecDepth 100000 in
set_option maxHeartbeats 2000000 in
theorem SawP_any (c : Cut) (w : World) (hr : CutAt w w.heap.size c) : Calls Try.prog 24 #[.agg #[.int .i64 c.wide, .int .i64 c.high, .slice c.A c.piece.length c.c]] w (RetSaw c w) := by
  have n1 := nxA w (.cells #[.int .i64 c.wide, .int .i64 c.high, .slice c.A c.piece.length c.c] 24)
  have n2 := nxA (w.alloc (.cells #[.int .i64 c.wide, .int .i64 c.high, .slice c.A c.piece.length c.c] 24)) (.cells #[.slice none 0 0] 42)
  have HX0 := Lib.hid ((Bx.new w #[.int .i64 c.wide, .int .i64 c.high, .slice c.A c.piece.length c.c] 24).next n2)
  have HY0 := Lib.hid (Bx.new (w.alloc (.cells #[.int .i64 c.wide, .int .i64 c.high, .slice c.A c.piece.length c.c] 24)) #[.slice none 0 0] 42)
  have HB0 := Lib.hid (n1.trans (n2.mono n1.size))
  have HR0 := Lib.hid (hr.next HB0.out)
  simp only [World.size_alloc] at HY0
  have HS := Lib.hid (show sawE c = if (checkS c).2 ≠ 0 then (checkS c).2 else if (sawF c 24 0 0 c.wide c.high).2 = true then 0 else 11 from rfl)
  have HLS := Lib.hid (show sawL c = if sawE c = 0 then (sawF c 24 0 0 c.wide c.high).1 else [] from rfl)
  clear hr n1 n2
  go_enter Try.func24, Try.ntmps24
  go_upto_region 1 with fail
  generalize (w.alloc (.cells #[.int .i64 c.wide, .int .i64 c.high, .slice c.A c.piece.length c.c] 24)).alloc (.cells #[.slice none 0 0] 42) = V at *
  have c0 := HX0.out.c 0 _ rfl
  have c1 := HX0.out.c 1 _ rfl
  have c2 := HX0.out.c 2 _ rfl
  go_wp2_with fail
  refine (open_any c 0 V HR0.out).mono ?_
  rintro e W ⟨ho, hbw⟩
  clear c0 c1 c2
  have HXw := Lib.hid (HX0.out.next hbw)
  have HYw := Lib.hid (HY0.out.next hbw)
  have HBw := Lib.hid (HB0.out.trans (hbw.mono HB0.out.size))
  clear HX0 HY0 HR0 HB0 hbw
  rcases ho with ho | ho
  · obtain ⟨h0, rfl⟩ := ho
    have hn := nxA W (.cells #[.int .i64 0, .int .i64 0, .slice none 0 0, .map none] 71)
    have HY := Lib.hid (HYw.out.next hn)
    have HB := Lib.hid (HBw.out.trans (hn.mono HBw.out.size))
    have HE := Lib.hid (show sawE c = openE c 0 from by rw [HS.out, ← open_zero, if_pos h0])
    have HL := Lib.hid (show sawL c = [] from by rw [HLS.out, if_neg (by rw [HE.out]; exact h0)])
    have e0 : (openE c 0 == 0) = false := by simp [h0]
    have f0 := HY.out.fr 0
    have d0 := HY.out.c 0 _ rfl
    have HRES := Lib.hid (load1s (HY.out.setAll [.slice none 0 0] rfl))
    have HBS := Lib.hid (below_setCells (b := w.heap.size + 1) (B := w.heap.size) (by omega) [.slice none 0 0] 0 HB.out)
    clear h0 hn HXw HYw HBw
    generalize openE c 0 = x at *
    go_wp2_with fail
    ((try simp only [Exit.inBlock, Exit.then]); refine bodyPost_ret (results_cellA rfl rfl HRES.out) rfl ?_)
    exact ⟨none, 0, by rw [HL.out, HE.out]; rfl, by rw [HL.out]; exact At.nil, HBS.out⟩
  · obtain ⟨h0, bm, rfl, hbm, hpic⟩ := ho
    have HG := Lib.hid (openE_good h0)
    have h0' := h0
    rw [open_zero] at h0'
    have HE := Lib.hid (show sawE c = if (sawF c 24 0 0 c.wide c.high).2 = true then 0 else 11 from by rw [HS.out, if_neg (by rw [h0']; simp)])
    have hn := nxA W (.cells #[.int .i64 c.wide, .int .i64 c.high, .slice c.A c.piece.length c.c, .map (some (bm))] 71)
    have HX := Lib.hid (HXw.out.next hn)
    have HY := Lib.hid (HYw.out.next hn)
    have HB := Lib.hid (HBw.out.trans (hn.mono HBw.out.size))
    have HPM := Lib.hid (MapIs.next hpic hn)
    have HXP := Lib.hid (Bx.new W #[.int .i64 c.wide, .int .i64 c.high, .slice c.A c.piece.length c.c, .map (some (bm))] 71)
    clear h0 h0' hbm hpic hn HXw HYw HBw
    go_upto_region 2 with fail
    generalize W.alloc (.cells #[.int .i64 c.wide, .int .i64 c.high, .slice c.A c.piece.length c.c, .map (some (bm))] 71) = W1 at *
    have q0 := HXP.out.c 0 _ rfl
    have q1 := HXP.out.c 1 _ rfl
    have q2 := HXP.out.c 2 _ rfl
    have q3 := HXP.out.c 3 _ rfl
    have c0 := HX.out.c 0 _ rfl
    have c1 := HX.out.c 1 _ rfl
    have hwd := HG.out.ok.w
    have hhd := HG.out.ok.h
    have harea : (c.wide - 0) * (c.high - 0) ≤ 144 := by
      have := Int.mul_le_mul hwd.2 hhd.2 (by omega) (by omega)
      rw [Int.sub_zero, Int.sub_zero]; omega
    go_wp2_with fail
    clear q0 q1 q2 q3 c0 c1
    refine (sawP_any c HG.out.ok bm (w.heap.size + 1) W1.heap.size 24 0 0 c.wide c.high (.slice none 0 0) [] W1 (rec_all HG.out.ok) HPM.out (World.ownsRow_nil _ _ _ _) HY.out ⟨HY.out.lt, Nat.le_refl _⟩ (by show (0 : Int) + _ ≤ _; omega)).mono ?_
    rintro e W2 ⟨rfl, v, l, hp⟩
    obtain ⟨vA, vc, rfl, hat⟩ := own_at lineC_len (by omega) hp.own
    have HOWN := Lib.hid hp.own
    have HLT := Lib.hid HY.out.lt
    have HYp := Lib.hid hp.bx
    have HOK := Lib.hid hp.ok
    have HB2 := Lib.hid (show Below w.heap.size w W2 from ⟨hp.kp.os.trans HB.out.os, hp.kp.tape.trans HB.out.tape, hp.kp.output.trans HB.out.output, Nat.le_trans HB.out.size hp.kp.size, fun b hb => (hp.kp.block b (Nat.lt_of_lt_of_le hb HB.out.size) (by omega) (by simp [Value.ownBlock])).trans (HB.out.block b hb)⟩)
    have f0 := HYp.out.fr 0
    have d0 := HYp.out.c 0 _ rfl
    clear hp hat harea
    cases hs : (sawF c 24 0 0 c.wide c.high).2
    · have HE2 := Lib.hid (show sawE c = 11 from by rw [HE.out, hs]; rfl)
      have HL2 := Lib.hid (show sawL c = [] from by rw [HLS.out, HE2.out]; rfl)
      have HRES := Lib.hid (load1s (HYp.out.setAll [.slice none 0 0] rfl))
      have HBS := Lib.hid (below_setCells (b := w.heap.size + 1) (B := w.heap.size) (by omega) [.slice none 0 0] 0 HB2.out)
      clear hs
      go_wp2_with fail
      ((try simp only [Exit.inBlock, Exit.then]); refine bodyPost_ret (results_cellA rfl rfl HRES.out) rfl ?_)
      exact ⟨none, 0, by rw [HL2.out, HE2.out]; rfl, by rw [HL2.out]; exact At.nil, HBS.out⟩
    · have HE2 := Lib.hid (show sawE c = 0 from by rw [HE.out, hs]; rfl)
      have HL2 := Lib.hid (show sawL c = l from by rw [HLS.out, HE2.out, HOK.out hs]; rfl)
      have HRES := Lib.hid (load1s (HYp.out.setAll [.slice vA l.length vc] rfl))
      have HBS := Lib.hid (below_setCells (b := w.heap.size + 1) (B := w.heap.size) (by omega) [.slice vA l.length vc] 0 HB2.out)
      have HNX := Lib.hid (show At (setCells W2 (w.heap.size + 1) 0 [.slice vA l.length vc]) (setCells W2 (w.heap.size + 1) 0 [.slice vA l.length vc]).heap.size 4 lineC vA l from by
        obtain ⟨A2, c2, e2, hat2⟩ := own_at lineC_len (by omega) (own_setP HOWN.out HLT.out 0 (.slice vA l.length vc))
        injection e2 with e3 e4 e5
        subst e3
        exact hat2)
      clear hs
      go_wp2_with fail
      ((try simp only [Exit.inBlock, Exit.then]); refine bodyPost_ret (results_cellA rfl rfl HRES.out) rfl ?_)
      exact ⟨vA, vc, by rw [HL2.out, HE2.out]; rfl, by rw [HL2.out]; exact HNX.out, HBS.out⟩
end
end Go.Proofs.Ytjlicbdnppodgaa
