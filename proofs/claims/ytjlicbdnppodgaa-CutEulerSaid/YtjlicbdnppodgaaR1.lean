import Derived.Test.YtjlicbdnppodgaaS2
namespace Go.Proofs.Ytjlicbdnppodgaa
open Go.RowKit
/-! The reference: in, Cut, At. -/
set_option maxHeartbeats 400000 in
theorem in_any (a b c : Int) (w : World) :
    Calls Try.prog 61 #[.int .i64 a, .int .i64 b, .int .i64 c] w (RetQ (.bool (inS a b c)) w) := by
  go_enter Try.func61, Try.ntmps61
  go_wp2
  all_goals (go_ret; refine retq_bool ?_; unfold inS; rw [Bool.eq_iff_iff]; simp; try omega)
def RCut (c : Cut) (w0 : World) (b : Nat) (i : Value) (w : World) : Prop := ∃ k : Nat, k ≤ c.piece.length ∧ i = .int .i64 k ∧ Below w0.heap.size w0 w ∧ Bx w b (cutL c) ∧ (c.piece.take k).all (fun x => inS x 0 39) = true
set_option maxHeartbeats 400000 in
theorem Cut_any (c : Cut) (w : World) (hr : CutAt w w.heap.size c) : Calls Try.prog 30 #[.agg #[.int .i64 c.wide, .int .i64 c.high, .slice c.A c.piece.length c.c]] w (Ret (.bool (cutS c)) w) := by
  have l1 := hr.l1
  have HC := Lib.hid (show cutS c = (inS c.wide 1 12 && (inS c.high 1 12 && (decide ((c.piece.length : Int) = c.wide * c.high) && c.piece.all (fun x => inS x 0 39)))) from rfl)
  have hX := Bx.new w #[.int .i64 c.wide, .int .i64 c.high, .slice c.A c.piece.length c.c] 24
  have hB := nxA w (.cells #[.int .i64 c.wide, .int .i64 c.high, .slice c.A c.piece.length c.c] 24)
  have c0 := hX.c 0 _ rfl
  have c1 := hX.c 1 _ rfl
  have c2 := hX.c 2 _ rfl
  have HX := Lib.hid hX
  have HB := Lib.hid hB
  have HR := Lib.hid hr
  clear hX hB hr
  go_enter Try.func30, Try.ntmps30
  go_upto_region 1 with fail
  generalize (w.alloc (.cells #[.int .i64 c.wide, .int .i64 c.high, .slice c.A c.piece.length c.c] 24)) = V at *
  cases h1 : inS c.wide 1 12
  · go_wp2_with (go_at_call 61; (with_reducible refine (in_any _ _ _ _).mono ?_); rintro e w' ⟨rfl, rfl⟩)
    go_ret
    exact ⟨by rw [HC.out, h1]; rfl, HB.out⟩
  cases h2 : inS c.high 1 12
  · go_wp2_with (go_at_call 61; (with_reducible refine (in_any _ _ _ _).mono ?_); rintro e w' ⟨rfl, rfl⟩)
    go_ret
    exact ⟨by rw [HC.out, h1, h2]; rfl, HB.out⟩
  have h3 : 1 ≤ c.wide ∧ c.wide ≤ 12 ∧ 1 ≤ c.high ∧ c.high ≤ 12 := by unfold inS at h1 h2; simp at h1 h2; omega
  have h4 : 0 ≤ c.wide * c.high ∧ c.wide * c.high ≤ 144 := ⟨Int.mul_nonneg (by omega) (by omega), Int.le_trans (Int.mul_le_mul h3.2.1 h3.2.2.2 (by omega) (by omega)) (by decide)⟩
  have hw1 : IntKind.i64.wrap (c.wide * c.high) = c.wide * c.high := IntWalk.i64_in _ (by omega)
  by_cases h5 : (c.piece.length : Int) = c.wide * c.high
  · have e5 : ((c.piece.length : Int) != c.wide * c.high) = false := by simp; exact h5
    have HW := Lib.hid hw1
    obtain ⟨m, hm⟩ : ∃ m, c.wide * c.high = m := ⟨_, rfl⟩
    rw [hm] at h5 h4 e5 hw1
    go_wp2_with (go_at_call 61; (with_reducible refine (in_any _ _ _ _).mono ?_); rintro e w' ⟨rfl, rfl⟩)
    clear c0 c1 c2
    go_loopw [3] (fun i wr => RCut c w w.heap.size i wr) (fun i _ => c.piece.length - (intOf i).toNat)
    case atStart => exact ⟨0, by omega, rfl, HB.out, HX.out, rfl⟩
    case round =>
      obtain ⟨k, hk, rfl, hb, hx, hall⟩ := hrel
      have c2 := hx.c 2 _ rfl
      have HXR := Lib.hid hx
      have HBR := Lib.hid hb
      by_cases hlt : k < c.piece.length
      · obtain ⟨b, off, e, hbk, g0⟩ := int_at (HR.out.below hb).pa hlt
        have HE := Lib.hid e
        rw [e] at c2
        have Ha := Lib.hid (all_step (p := fun x => inS x 0 39) hlt hall)
        have Hf := Lib.hid (all_fail (p := fun x => inS x 0 39) hlt)
        have hg : c.piece[k] = c.piece.getD k 0 := by rw [List.getD_eq_getElem?_getD, List.getElem?_eq_getElem hlt]; rfl
        rw [hg] at Ha Hf
        generalize c.piece.getD k 0 = v at *
        clear hx hb hall hg e
        cases hv : inS v 0 39
        · go_wp2_with (go_at_call 61; (with_reducible refine (in_any _ _ _ _).mono ?_); rintro e w' ⟨rfl, rfl⟩)
          go_ret
          exact ⟨by rw [HC.out, h1, h2, Hf.out hv]; simp, HBR.out⟩
        · go_wp2_with (go_at_call 61; (with_reducible refine (in_any _ _ _ _).mono ?_); rintro e w' ⟨rfl, rfl⟩)
          go_roundw
          case rel => exact ⟨k + 1, by omega, by go_num, HBR.out, HXR.out, Ha.out hv⟩
          case measure => simp [intOf]; omega
      · have Hall := Lib.hid (all_full hlt hall)
        clear hx hb hall
        go_wp2_with fail
        go_ret
        exact ⟨by rw [HC.out, h1, h2, Hall.out, hm, decide_eq_true h5]; rfl, HBR.out⟩
  · have e5 : ((c.piece.length : Int) != c.wide * c.high) = true := by simp; exact h5
    have h6 : ¬ (c.piece.length : Int) = c.wide * c.high := h5
    have HW := Lib.hid h5
    obtain ⟨m, hm⟩ : ∃ m, c.wide * c.high = m := ⟨_, rfl⟩
    rw [hm] at h5 h4 e5 hw1 h6
    go_wp2_with (go_at_call 61; (with_reducible refine (in_any _ _ _ _).mono ?_); rintro e w' ⟨rfl, rfl⟩)
    go_ret
    exact ⟨by rw [HC.out, h1, h2, decide_eq_false HW.out]; rfl, HB.out⟩
set_option maxHeartbeats 400000 in
theorem At_any (c : Cut) (x y : Int) (w : World) (ok : OkC c) (hr : CutAt w w.heap.size c) : Calls Try.prog 34 #[.agg #[.int .i64 c.wide, .int .i64 c.high, .slice c.A c.piece.length c.c], .int .i64 x, .int .i64 y] w (Ret (.int .i64 (at2 c x y)) w) := by
  have hw := ok.w
  have hh := ok.h
  have HX := Bx.new w #[.int .i64 c.wide, .int .i64 c.high, .slice c.A c.piece.length c.c] 24
  have HB := Lib.hid (nxA w (.cells #[.int .i64 c.wide, .int .i64 c.high, .slice c.A c.piece.length c.c] 24))
  have HI := Lib.hid (fun h => ok.idx (x := x) (y := y) h)
  have HA := Lib.hid (show at2 c x y = if isIn c x y = true then c.piece.getD (y * c.wide + x).toNat 0 else -1 from rfl)
  have HN := Lib.hid (show isIn c x y = (inS x 0 (c.wide - 1) && inS y 0 (c.high - 1)) from rfl)
  have HR := Lib.hid (hr.next HB.out)
  have hll := Lib.hid ok.len
  have c0 := HX.c 0 _ rfl
  have c1 := HX.c 1 _ rfl
  have c2 := HX.c 2 _ rfl
  clear HX hr ok
  go_enter Try.func34, Try.ntmps34
  go_upto_region 1 with fail
  generalize (w.alloc (.cells #[.int .i64 c.wide, .int .i64 c.high, .slice c.A c.piece.length c.c] 24)) = V at *
  cases h1 : inS x 0 (c.wide - 1)
  · go_wp2_with (go_at_call 61; (with_reducible refine (in_any _ _ _ _).mono ?_); rintro e w' ⟨rfl, rfl⟩)
    go_ret
    exact ⟨by rw [HA.out, HN.out, h1]; rfl, HB.out⟩
  cases h2 : inS y 0 (c.high - 1)
  · go_wp2_with (go_at_call 61; (with_reducible refine (in_any _ _ _ _).mono ?_); rintro e w' ⟨rfl, rfl⟩)
    go_ret
    exact ⟨by rw [HA.out, HN.out, h1, h2]; rfl, HB.out⟩
  have hin : isIn c x y = true := by rw [HN.out, h1, h2]; rfl
  obtain ⟨i0, i1, -, -⟩ := HI.out hin
  have HE := Lib.hid (show at2 c x y = c.piece.getD (y * c.wide + x).toNat 0 from by rw [HA.out, if_pos hin])
  have h3 : 0 ≤ x ∧ x ≤ 11 ∧ 0 ≤ y ∧ y ≤ 11 := by unfold inS at h1 h2; simp at h1 h2; omega
  have h4 : 0 ≤ y * c.wide ∧ y * c.wide ≤ 132 := ⟨Int.mul_nonneg (by omega) (by omega), Int.le_trans (Int.mul_le_mul h3.2.2.2 hw.2 (by omega) (by omega)) (by decide)⟩
  have hw1 : IntKind.i64.wrap (y * c.wide) = y * c.wide := IntWalk.i64_in _ (by omega)
  obtain ⟨k, hk⟩ : ∃ k : Nat, y * c.wide + x = (k : Int) := ⟨(y * c.wide + x).toNat, by omega⟩
  have hkl : k < c.piece.length := by omega
  obtain ⟨b, off, e, hbk, g0⟩ := int_at HR.out.pa hkl
  have hE2 : at2 c x y = c.piece.getD k 0 := by rw [HE.out, hk]; rfl
  have HE2 := Lib.hid hE2
  have HAe := Lib.hid e
  rw [e] at c2
  generalize c.piece.getD k 0 = v at *
  have hkI : (k : Int) < c.piece.length := by omega
  clear i0 i1 HE hE2 hin HI HA HN hll e
  obtain ⟨p, hp⟩ : ∃ p, y * c.wide = p := ⟨_, rfl⟩
  rw [hp] at hw1 hk h4
  go_wp2_with (go_at_call 61; (with_reducible refine (in_any _ _ _ _).mono ?_); rintro e w' ⟨rfl, rfl⟩)
  go_ret
  exact ⟨by rw [HE2.out]; rfl, HB.out⟩
end Go.Proofs.Ytjlicbdnppodgaa
