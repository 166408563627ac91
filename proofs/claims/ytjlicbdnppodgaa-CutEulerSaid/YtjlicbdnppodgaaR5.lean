import Derived.Test.YtjlicbdnppodgaaW1
import Derived.Test.YtjlicbdnppodgaaR4
namespace Go.Proofs.Ytjlicbdnppodgaa
open Go.RowKit
/-! The reference: Whole. -/
open Classical in
noncomputable def wholeB (c : Cut) (k : Int) : Bool := decide (Whole c k)
open Classical in
theorem wholeB_iff (c : Cut) (k : Int) : wholeB c k = true ↔ Whole c k := by unfold wholeB; exact decide_eq_true_iff
def Stable (c : Cut) (k : Int) (f : Nat → Bool) (n : Nat) : Prop := ∀ i, i < n → atI c i = k → f i = false → manyF f c.piece.length ≠ 0 ∧ nextS c f i = false
def b01 (v : Value) : Nat := match v with
  | .bool true => 1
  | _ => 0
def RWo (c : Cut) (k : Int) (g : Nat) (V : World) (mv ov : Value) (W' : World) : Prop := ∃ (f : Nat → Bool) (mo : Bool), Srch c k f ∧ BBlk W' g c.piece.length f ∧ mv = .int .i64 (manyF f c.piece.length : Nat) ∧ ov = .bool mo ∧ (mo = false → Stable c k f c.piece.length) ∧ Below g V W'
def RWi (c : Cut) (k : Int) (g : Nat) (V : World) (m0 : Nat) (mv ov iv : Value) (W' : World) : Prop := ∃ (f : Nat → Bool) (mo : Bool) (j : Nat), j ≤ c.piece.length ∧ iv = .int .i64 j ∧ Srch c k f ∧ BBlk W' g c.piece.length f ∧ mv = .int .i64 (manyF f c.piece.length : Nat) ∧ ov = .bool mo ∧ m0 ≤ manyF f c.piece.length ∧ (mo = true → m0 < manyF f c.piece.length) ∧ (mo = false → Stable c k f j) ∧ Below g V W'
theorem Stable.skip {c : Cut} {k : Int} {f : Nat → Bool} {j : Nat} (h : Stable c k f j) (hs : atI c j ≠ k ∨ f j = true ∨ (manyF f c.piece.length ≠ 0 ∧ nextS c f j = false)) : Stable c k f (j + 1) := fun i hi ha hf => by
  by_cases e : i = j
  · subst e
    rcases hs with hs | hs | hs
    · exact absurd ha hs
    · rw [hs] at hf; cases hf
    · exact hs
  · exact h i (by omega) ha hf
set_option maxHeartbeats 16000000 in
theorem Whole_any (c : Cut) (k : Int) (w : World) (ok : OkC c) (hr : CutAt w w.heap.size c) : Calls Try.prog 49 #[.agg #[.int .i64 c.wide, .int .i64 c.high, .slice c.A c.piece.length c.c], .int .i64 k] w (Ret (.bool (wholeB c k)) w) := by
  have hw := ok.w
  have hh := ok.h
  have hl144 : c.piece.length ≤ 144 := by
    have := Int.mul_le_mul hw.2 hh.2 (show (0 : Int) ≤ c.high by omega) (show (0 : Int) ≤ 12 by omega)
    have := ok.len
    omega
  obtain ⟨i0, hi, hz0, hz1, hz2⟩ := info_parts bool_info
  have hmk : ∀ W : World, (Instr.makeSlice 55 (.int .i64 (c.piece.length : Int)) (.int .i64 (c.piece.length : Int))).run Try.prog W = .ok (.slice (some ⟨W.heap.size, 0, none⟩) c.piece.length c.piece.length) (W.alloc (.cells (falses c.piece.length) 4)) := fun W => by
    have := run_make (P := Try.prog) W 55 4 i0 (.bool false) Try.underlying55 hi hz0 .i64 .i64 c.piece.length c.piece.length (by omega) (by omega) (by rw [hz2]; omega) (by omega)
    rw [hz1] at this
    simpa [falses, Value.cells] using this
  have OK := Lib.hid ok
  have HX := Lib.hid (Bx.new w #[.int .i64 c.wide, .int .i64 c.high, .slice c.A c.piece.length c.c] 24)
  have HB := Lib.hid (nxA w (.cells #[.int .i64 c.wide, .int .i64 c.high, .slice c.A c.piece.length c.c] 24))
  have HR := Lib.hid (hr.next HB.out)
  clear ok hr hi hz0 hz1 hz2
  go_enter Try.func49, Try.ntmps49
  go_upto_region 1 with fail
  generalize (w.alloc (.cells #[.int .i64 c.wide, .int .i64 c.high, .slice c.A c.piece.length c.c] 24)) = V at *
  have c2 := HX.out.c 2 _ rfl
  have HZ := Lib.hid (BBlk.falses V c.piece.length 4)
  have HA := Lib.hid (nxA V (.cells (falses c.piece.length) 4))
  go_wp2_with fail
  clear hmk c2
  generalize V.alloc (.cells (falses c.piece.length) 4) = U at *
  have hwV := HX.out.lt
  go_loopw [6, 7] (fun m mo wr => RWo c k V.heap.size V m mo wr) (fun m mo _ => (c.piece.length - (intOf m).toNat) * 2 + b01 mo)
  case atStart => exact ⟨_, true, Srch.nil, HZ.out, by rw [manyF_none]; rfl, rfl, (fun h => nomatch h), HA.out⟩
  case round =>
    obtain ⟨f, mo, hs, hbb, rfl, rfl, hst, hb⟩ := hrel
    generalize wr = Wo at *
    have hm0 := manyF_le f c.piece.length
    have HBo := Lib.hid hb
    cases mo
    · have HW := Lib.hid (hs.whole OK.out (hst rfl))
      have c0 := (HX.out.next hb).c 0 _ rfl
      have c1 := (HX.out.next hb).c 1 _ rfl
      have c2 := (HX.out.next hb).c 2 _ rfl
      clear hb hst hs
      go_wp2_with fail
      refine (Cells_any c k Wo (HR.out.next HBo.out)).mono ?_
      rintro e w3 ⟨rfl, hb3⟩
      go_wp2_with fail
      go_ret
      refine ⟨?_, HB.out.trans ((HBo.out.trans (hb3.mono HBo.out.size)).mono HB.out.size)⟩
      show Ending.returned (.bool _) = _
      congr 2
      rw [Bool.eq_iff_iff, wholeB_iff, ← HW.out]
      simp
      constructor <;> intro h <;> omega
    · have HS := Lib.hid hs
      have HBB := Lib.hid hbb
      clear hst hs hbb hb
      have HRo := Lib.hid (fun (f : Nat → Bool) (mo : Bool) (mv ov : Value) (W' : World) (h1 : Srch c k f) (h2 : BBlk W' V.heap.size c.piece.length f) (h3 : mv = .int .i64 (manyF f c.piece.length : Nat)) (h4 : ov = .bool mo) (h5 : mo = false → Stable c k f c.piece.length) (h6 : Below V.heap.size V W') => (show RWo c k V.heap.size V mv ov W' from ⟨f, mo, h1, h2, h3, h4, h5, h6⟩))
      generalize hm : manyF f c.piece.length = m0 at *
      go_wp2_with fail
      go_loopw [6, 7, 8] (fun m mo i wr => RWi c k V.heap.size V m0 m mo i wr) (fun _ _ i _ => c.piece.length - (intOf i).toNat)
      case atStart => exact ⟨f, false, 0, by omega, rfl, HS.out, HBB.out, by rw [hm], rfl, by omega, (fun h => nomatch h), fun _ i hi => by omega, HBo.out⟩
      case round =>
        clear HS HBB HBo hm f
        obtain ⟨f, mo, j, hj, rfl, hs, hbb, rfl, rfl, hm1, hm2, hst, hb⟩ := hrel
        generalize wr = Wi at *
        have hmle := manyF_le f c.piece.length
        have HBi := Lib.hid hb
        have c2 := (HX.out.next hb).c 2 _ rfl
        by_cases hlt : j < c.piece.length
        · obtain ⟨b, off, e, hbk, g0⟩ := int_at (HR.out.next hb).pa hlt
          replace g0 : Wi.cell? ⟨b, off + j, none⟩ = some (.int .i64 (atI c j)) := g0
          obtain ⟨v, hv⟩ : ∃ v, v = atI c j := ⟨_, rfl⟩
          rw [← hv] at g0
          have HV := Lib.hid hv
          clear hv
          rw [e] at c2
          have HE := Lib.hid e
          have r0 := hbb.cell j hlt
          have r1 := hbb.free j
          have HS := Lib.hid hs
          have HBB := Lib.hid hbb
          have HST := Lib.hid hst
          have HM1 := Lib.hid hm1
          have HM2 := Lib.hid hm2
          have HRi := Lib.hid (fun (f : Nat → Bool) (mo : Bool) (mv ov iv : Value) (W' : World) (h0 : iv = .int .i64 ((j + 1 : Nat) : Int)) (h1 : Srch c k f) (h2 : BBlk W' V.heap.size c.piece.length f) (h3 : mv = .int .i64 (manyF f c.piece.length : Nat)) (h4 : ov = .bool mo) (h5 : m0 ≤ manyF f c.piece.length) (h6 : mo = true → m0 < manyF f c.piece.length) (h7 : mo = false → Stable c k f (j + 1)) (h8 : Below V.heap.size V W') => (show RWi c k V.heap.size V m0 mv ov iv W' from ⟨f, mo, j + 1, by omega, h0, h1, h2, h3, h4, h5, h6, h7, h8⟩))
          have hbs : V.heap.size < Wi.heap.size := hbb.lt
          have c0 := (HX.out.next hb).c 0 _ rfl
          have c1 := (HX.out.next hb).c 1 _ rfl
          clear hs hbb hst hb e hm1 hm2
          by_cases ha : v = k
          · have HAk := Lib.hid (HV.out.symm.trans ha)
            have e1 : (v == k) = true := by simp [ha]
            cases hf : f j
            · rw [hf] at r0
              have HF := Lib.hid hf
              have hms := Lib.hid (manyF_set (n := c.piece.length) hf hlt)
              have HSET := Lib.hid (fun (W' : World) (hB : BBlk W' V.heap.size c.piece.length f) => (show BBlk (W'.setCell ⟨V.heap.size, j, none⟩ (.bool true)) V.heap.size c.piece.length (setF f j) from hB.set_ hlt (by simp [setF]) (fun i hi => by simp [setF, hi])))
              clear hf ha
              by_cases h0 : manyF f c.piece.length = 0
              · have HADD := Lib.hid (HS.out.add OK.out hlt HAk.out (.inl h0))
                have H0 := Lib.hid h0
                go_wp2_with fail
                go_roundw
                case rel => exact HRi.out (setF f j) true _ _ _ _ (by go_num) HADD.out (HSET.out _ HBB.out) (by rw [hms.out, H0.out]; go_num) rfl (by rw [hms.out, H0.out]; have := HM1.out; omega) (fun _ => by rw [hms.out]; have := HM1.out; omega) (fun h => nomatch h) (HBi.out.setCell (p := ⟨V.heap.size, j, none⟩) (Nat.le_refl _) _)
                case measure => simp [intOf]; omega
              · obtain ⟨mi, hmi⟩ : ∃ mi : Int, mi = ((manyF f c.piece.length : Nat) : Int) := ⟨_, rfl⟩
                have e2 : (mi == 0) = false := by simp; omega
                have hmw : IntKind.i64.wrap (mi + 1) = mi + 1 := IntWalk.i64_in _ (by omega)
                have H0 := Lib.hid h0
                rw [← hmi]
                have HMI := Lib.hid hmi
                clear h0 hmi
                go_wp2_with fail
                rw [← HE.out]
                refine (next_any c V.heap.size c.piece.length f j Wi OK.out HBB.out hlt).mono ?_
                rintro e w3 ⟨rfl, hb3⟩
                have r2 := (HBB.out.next hb3).free j
                have r3 := (HBB.out.next hb3).cell j hlt
                have HB3 := Lib.hid hb3
                have HV3 := Lib.hid (HBi.out.trans (hb3.mono HBi.out.size))
                clear hb3
                cases hn : nextS c f j
                · have HST2 := Lib.hid (fun h => (HST.out h).skip (.inr (.inr ⟨H0.out, hn⟩)))
                  clear hn
                  go_wp2_with fail
                  go_roundw
                  case rel => exact HRi.out f mo _ _ _ _ (by go_num) HS.out (HBB.out.next HB3.out) (by rw [HMI.out]) rfl HM1.out HM2.out HST2.out HV3.out
                  case measure => simp [intOf]; omega
                · have HADD := Lib.hid (HS.out.add OK.out hlt HAk.out (.inr hn))
                  clear hn
                  go_wp2_with fail
                  go_roundw
                  case rel => exact HRi.out (setF f j) true _ _ _ _ (by go_num) HADD.out (HSET.out _ (HBB.out.next HB3.out)) (by rw [hms.out, HMI.out]; first | rfl | (congr 1; omega) | go_num) rfl (by rw [hms.out]; have := HM1.out; omega) (fun _ => by rw [hms.out]; have := HM1.out; omega) (fun h => nomatch h) (HV3.out.setCell (p := ⟨V.heap.size, j, none⟩) (Nat.le_refl _) _)
                  case measure => simp [intOf]; omega
            · rw [hf] at r0
              have HST2 := Lib.hid (fun h => (HST.out h).skip (.inr (.inl hf)))
              clear hf ha
              go_wp2_with fail
              go_roundw
              case rel => exact HRi.out f mo _ _ _ _ (by go_num) HS.out HBB.out rfl rfl HM1.out HM2.out HST2.out HBi.out
              case measure => simp [intOf]; omega
          · have HST2 := Lib.hid (fun h => (HST.out h).skip (.inl (fun h => ha (HV.out.trans h))))
            have e1 : (v == k) = false := by simp [ha]
            clear ha
            go_wp2_with fail
            go_roundw
            case rel => exact HRi.out f mo _ _ _ _ (by go_num) HS.out HBB.out rfl rfl HM1.out HM2.out HST2.out HBi.out
            case measure => simp [intOf]; omega
        · obtain rfl : j = c.piece.length := by omega
          have HS := Lib.hid hs
          have HBB := Lib.hid hbb
          have HST := Lib.hid hst
          clear hs hbb hst hb
          go_wp2_with fail
          go_roundw
          case rel => exact HRo.out f mo _ _ _ HS.out HBB.out rfl rfl HST.out HBi.out
          case measure =>
            cases mo
            · simp [intOf, b01]; omega
            · have := hm2 rfl
              simp [intOf, b01]; omega
end Go.Proofs.Ytjlicbdnppodgaa
