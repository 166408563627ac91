import Derived.Test.YtjlicbdnppodgaaC5H
import Derived.Deep.CutRange
import Derived.BigQuiet
namespace Go.Proofs.Ytjlicbdnppodgaa
open Go.RowKit
/-! The law CutEuler, walked. -/
theorem edL_at {w h : Nat} {P : Ed → Bool} {x y : Nat} (hx : x ≤ w) : edL w h P (y * (w + 1) + x + 1) = (if y < h ∧ P (false, x, y) = true then [(false, x, y)] else []) ++ ((if x < w ∧ P (true, x, y) = true then [(true, x, y)] else []) ++ edL w h P (y * (w + 1) + x)) := by
  have h1 : (y * (w + 1) + x) % (w + 1) = x := by rw [Nat.add_comm, Nat.add_mul_mod_self_right, Nat.mod_eq_of_lt (by omega)]
  have h2 : (y * (w + 1) + x) / (w + 1) = y := by rw [Nat.add_comm, Nat.add_mul_div_right _ _ (by omega), Nat.div_eq_of_lt (by omega), Nat.zero_add]
  conv => lhs; unfold edL
  rw [h1, h2]
theorem used_cons (es : List (Nat × Nat)) (a b : Nat) : useU (usedB es) a b = usedB ((a, b) :: es) := funext fun j => by
  unfold useU usedB
  rw [List.any_cons, Bool.or_comm]
  congr 1
  rw [Bool.eq_iff_iff]
  simp only [Bool.or_eq_true, decide_eq_true_eq, beq_iff_eq]
  constructor
  · rintro (h | h)
    · exact .inl h.symm
    · exact .inr h.symm
  · rintro (h | h)
    · exact .inl h.symm
    · exact .inr h.symm
structure EuC (c : Cut) (g5 : Nat) (ls : List Value) (Bd ge bu bp gu gp : Nat) (w : World) (E : List Ed) (V : World) : Prop where
  xc : Bx V w.heap.size (cutL c)
  x5 : Bx V g5 ls
  cc : CutAt V Bd c
  b : Below w.heap.size w V
  hx : w.heap.size < Bd ∧ g5 < Bd
  e : EuM Bd ge bu bp gu gp (ptN c) (E.length : Int) (usedB (E.map (ptE (W c)))) (lab (E.map (ptE (W c)))) V
section
variable {c : Cut} {g5 : Nat} {ls : List Value} {Bd ge bu bp gu gp : Nat} {w V V' : World} {E : List Ed}
theorem EuM.next {n : Nat} {m : Int} {U : Nat → Bool} {L : Nat → Nat} (h : EuM Bd ge bu bp gu gp n m U L V) (hb : Below V.heap.size V V') : EuM Bd ge bu bp gu gp n m U L V' := ⟨h.xe.next hb, h.xu.next hb, h.xp.next hb, h.u.next hb, h.p.next hb, h.d, h.hb.1, h.hb.2.1, h.hb.2.2.1, Nat.le_trans h.hb.2.2.2 hb.size⟩
theorem EuC.next (h : EuC c g5 ls Bd ge bu bp gu gp w E V) (hb : Below V.heap.size V V') : EuC c g5 ls Bd ge bu bp gu gp w E V' := ⟨h.xc.next hb, h.x5.next hb, h.cc.below (hb.mono h.e.hb.2.2.2), h.b.trans (hb.mono h.b.size), h.hx, h.e.next hb⟩
theorem EuC.draw (h : EuC c g5 ls Bd ge bu bp gu gp w E V) {d : Ed} (he : EuM Bd ge bu bp gu gp (ptN c) ((E.length : Int) + 1) (useU (usedB (E.map (ptE (W c)))) (ptE (W c) d).1 (ptE (W c) d).2) (jnF (lab (E.map (ptE (W c)))) ((ptE (W c) d).1, (ptE (W c) d).2)) V') (hb : Below Bd V V') : EuC c g5 ls Bd ge bu bp gu gp w (d :: E) V' := by
  refine ⟨h.xc.below hb h.hx.1, h.x5.below hb h.hx.2, h.cc.below hb, h.b.trans (hb.mono (Nat.le_of_lt h.hx.1)), h.hx, ?_⟩
  rw [used_cons] at he
  rw [List.length_cons, List.map_cons]
  push_cast
  exact he
theorem EuC.c1 (h : EuC c g5 ls Bd ge bu bp gu gp w E V) : CutAt V V.heap.size c := h.cc.more h.e.hb.2.2.2
end
def euI : List (Option Nat) := [none, none, none, none, none, none, none, none, none, none, some 10, none, none, none, none, none, none, none, none, none, none, none, none, none, none, none, none, none, none, none, none, none, none, none, none, none, none, none, none, none, none, none, none, none, none, none, none, none, none, none, none, none, none, none, none, none, none, none, none, none, none, some 61, some 62, some 63, some 64, some 65, some 66, some 67, some 68, none, none, none, none, none, none, none, none, none, none, none, none, none, none, none, none, none, none, none, none, none, none, none, none, none, none, none, none, none, none, none, none, none, none, none, none, none, none, none, none, none, none, none, none, none, none, none, none, none, none, none, none, none, none, none, none, none, none, none, none, none, none, none, none, none, none, none, none, none, none, none, none, none, none, none, none, none, none, none, none, none, none, none, none, none, none, none, none, none, none, none, none, none, none, none, none, none, none, none, none, none, none, none, none, none, none, none, none, none, none, none, none, none, none, none, none, none, none, none, none, none, none, none, none, none, none, none, none, none, none, none, none, none, none, none, none, none, none, none, none, none, none, none, none, none, none, none, none, none, none, none, none, none]
def euY : List (Option Nat) := [none, none, none, none, none, none, none, none, none, none, none, none, some 12, none, some 14, some 15, some 16, none, none, none, none, none, none, none, none, none, none, none, none, none, none, none, none, none, none, none, none, none, none, none, none, none, none, none, none, none, none, none, none, none, none, none, none, none, none, none, none, none, none, none, none, none, none, none, none, none, none, none, none, none, some 70, some 71, some 72, some 73, some 74, some 75, some 76, some 77, some 78, some 79, some 80, some 81, some 82, some 83, some 84, some 85, some 86, some 87, some 88, some 89, some 90, some 91, some 92, some 93, some 94, some 95, some 96, some 97, some 98, some 99, some 100, some 101, some 102, some 103, some 104, some 105, some 106, some 107, some 108, some 109, some 110, some 111, some 112, some 113, some 114, some 115, some 116, some 117, some 118, some 119, some 120, some 121, some 122, some 123, some 124, some 125, some 126, some 127, some 128, some 129, some 130, some 131, some 132, some 133, some 134, some 135, some 136, some 137, some 138, some 139, some 140, some 141, some 142, some 143, some 144, some 145, some 146, some 147, some 148, some 149, none, none, none, none, none, none, none, none, none, none, none, none, none, none, none, none, none, none, none, none, none, none, none, none, none, none, none, none, none, none, none, none, none, none, none, none, none, none, none, none, none, none, none, none, none, none, none, none, none, none, none, none, none, none, none, none, none, none, none, none, none, none, none, none, none, none, none, none, none, none, none, none]
def euX : List (Option Nat) := [none, none, none, none, none, none, none, none, none, none, none, none, some 12, none, none, some 15, some 16, none, none, none, none, none, none, none, none, none, none, none, none, none, none, none, none, none, none, none, none, none, none, none, none, none, none, none, none, none, none, none, none, none, none, none, none, none, none, none, none, none, none, none, none, none, none, none, none, none, none, none, none, none, none, none, none, none, none, none, some 76, some 77, some 78, some 79, some 80, some 81, some 82, some 83, some 84, some 85, some 86, some 87, some 88, some 89, some 90, some 91, some 92, some 93, some 94, some 95, some 96, some 97, some 98, some 99, some 100, some 101, some 102, some 103, some 104, some 105, some 106, some 107, some 108, some 109, some 110, some 111, some 112, some 113, some 114, some 115, some 116, some 117, some 118, some 119, some 120, some 121, some 122, some 123, some 124, some 125, some 126, some 127, some 128, some 129, some 130, some 131, some 132, some 133, some 134, some 135, some 136, some 137, some 138, some 139, some 140, some 141, some 142, some 143, some 144, some 145, some 146, some 147, some 148, some 149, none, none, none, none, none, none, none, none, none, none, none, none, none, none, none, none, none, none, none, none, none, none, none, none, none, none, none, none, none, none, none, none, none, none, none, none, none, none, none, none, none, none, none, none, none, none, none, none, none, none, none, none, none, none, none, none, none, none, none, none, none, none, none, none, none, none, none, none, none, none, none, none]
def euP : List (Option Nat) := [none, none, none, none, none, none, none, none, none, none, none, none, none, none, none, none, none, some 17, some 18, some 19, none, none, none, none, none, none, none, none, none, none, none, none, none, none, none, none, none, none, none, none, none, none, none, none, none, none, none, none, none, none, none, none, none, none, none, none, none, none, none, none, none, none, none, none, none, none, none, none, none, none, none, none, none, none, none, none, none, none, none, none, none, none, none, none, none, none, none, none, none, none, none, none, none, none, none, none, none, none, none, none, none, none, none, none, none, none, none, none, none, none, none, none, none, none, none, none, none, none, none, none, none, none, none, none, none, none, none, none, none, none, none, none, none, none, none, none, none, none, none, none, none, none, none, none, none, none, none, none, none, none, none, none, some 152, some 153, some 154, some 155, some 156, some 157, some 158, some 159, some 160, some 161, some 162, some 163, some 164, some 165, some 166, some 167, some 168, some 169, some 170, some 171, some 172, some 173, some 174, some 175, none, none, none, none, none, none, none, none, none, none, none, none, none, none, none, none, none, none, none, none, none, none, none, none, none, none, none, none, none, none, none, none, none, none, none, none, none, none, none, none, none, none, none, none, none, none]
set_option maxRecDepth 100000 in
set_option maxHeartbeats 8000000 in
theorem CutEuler_walk (c : Cut) (w : World) (hc : CutAt w w.heap.size c) : Calls Try.prog 7 #[.agg #[.int .i64 c.wide, .int .i64 c.high, .slice c.A c.piece.length c.c]] w (Ret (.bool true) w) := by
  have hb := nxA w (.cells #[.int .i64 c.wide, .int .i64 c.high, .slice c.A c.piece.length c.c] 24)
  have HX := Lib.hid (Bx.new w #[.int .i64 c.wide, .int .i64 c.high, .slice c.A c.piece.length c.c] 24)
  have HC := Lib.hid (hc.next hb)
  have HB := Lib.hid hb
  clear hc hb
  go_enter Try.func7, Try.ntmps7
  go_upto_region 1 with fail
  generalize (w.alloc (.cells #[.int .i64 c.wide, .int .i64 c.high, .slice c.A c.piece.length c.c] 24)) = V0 at *
  have c0 := HX.out.c 0 _ rfl
  have c1 := HX.out.c 1 _ rfl
  have c2 := HX.out.c 2 _ rfl
  go_wp2_with fail
  refine (Cut_any c V0 HC.out).mono ?_
  rintro e V1 ⟨rfl, hb⟩
  replace HX := Lib.hid (HX.out.next hb)
  replace HC := Lib.hid (HC.out.next hb)
  replace HB := Lib.hid (HB.out.trans (hb.mono HB.out.size))
  clear hb c0 c1 c2
  cases hcs : cutS c
  · clear hcs
    go_wp2_with fail
    refine (awake_any V1).mono ?_
    rintro e V2 ⟨rfl, hb⟩
    go_wp2_with fail
    go_ret
    exact ⟨rfl, HB.out.trans (hb.mono HB.out.size)⟩
  · have OK := Lib.hid ((okc_iff c).1 hcs)
    clear hcs
    have c0 := HX.out.c 0 _ rfl
    have c1 := HX.out.c 1 _ rfl
    have c2 := HX.out.c 2 _ rfl
    go_wp2_with fail
    refine (CheckP_any c V1 HC.out).mono ?_
    rintro e V2 ⟨rfl, hb⟩
    replace HX := Lib.hid (HX.out.next hb)
    replace HC := Lib.hid (HC.out.next hb)
    replace HB := Lib.hid (HB.out.trans (hb.mono HB.out.size))
    clear hb c0 c1 c2
    unfold checkV
    have c0 := HX.out.c 0 _ rfl
    have c1 := HX.out.c 1 _ rfl
    have c2 := HX.out.c 2 _ rfl
    go_wp2_with fail
    refine (LinesP_any c V2 HC.out).mono ?_
    rintro e V3 ⟨rfl, hb⟩
    replace HX := Lib.hid (HX.out.next hb)
    replace HC := Lib.hid (HC.out.next hb)
    replace HB := Lib.hid (HB.out.trans (hb.mono HB.out.size))
    clear hb c0 c1 c2
    unfold linesV
    have HCE := Lib.hid (show cutE c = (checkS c).2 from rfl)
    by_cases h0 : (checkS c).2 = 0
    · have GC := Lib.hid (GoodC.of h0)
      have hg := great_bd OK.out
      have hwd := OK.out.w
      have hhd := OK.out.h
      have hl : linesS c = (lenS c, overP c (bendP c), overP c (jointP c), overP c (startP c)) := by unfold linesS; rw [if_pos (by rw [HCE.out]; exact h0)]
      have hjl := joints_le OK.out
      have hsc := (sep_cnt OK.out).1
      have hbc := bord_cnt OK.out
      have hec := euler_cut GC.out
      have hlb : 0 ≤ lenS c ∧ lenS c ≤ 10000000 := by
        have h3 := lenD_bd OK.out (fun p => (edgO c p).isSome)
        rw [lenD_all (fun p => rfl)] at h3
        exact h3
      rw [hl, HCE.out, GC.out.check]
      dsimp only
      generalize lenS c = ln at *
      generalize overP c (bendP c) = u1 at *
      generalize overP c (jointP c) = u2 at *
      generalize overP c (startP c) = u3 at *
      have HF := Lib.hid (show ((0 ≤ ln ∧ ln ≤ 10000000) ∧ 0 ≤ u1 ∧ (0 ≤ u2 ∧ u2 ≤ 2 * ln) ∧ u3 ≤ 2 * (c.wide + c.high)) from ⟨hlb, hjl.2.1, hjl.1, hjl.2.2⟩)
      have HSC := Lib.hid hsc
      have HBC := Lib.hid hbc
      have HEC := Lib.hid hec
      obtain ⟨nn, hnn⟩ : ∃ n, n = greatS c + 1 := ⟨_, rfl⟩
      have HNN := Lib.hid hnn
      rw [← hnn]
      clear hl hjl hsc hbc hec hlb h0 HCE hnn
      have hb := nxA V3 (.cells #[.int .i64 ln, .int .i64 u1, .int .i64 u2, .int .i64 u3] 39)
      have hx := Bx.new V3 #[.int .i64 ln, .int .i64 u1, .int .i64 u2, .int .i64 u3] 39
      obtain ⟨V4, hV4⟩ : ∃ W, W = V3.alloc (.cells #[.int .i64 ln, .int .i64 u1, .int .i64 u2, .int .i64 u3] 39) := ⟨_, rfl⟩
      obtain ⟨g5, hg5⟩ : ∃ g, g = V3.heap.size := ⟨_, rfl⟩
      rw [← hV4] at hb hx
      rw [← hg5] at hx
      have HX5 := Lib.hid hx
      have HG5 := Lib.hid (show w.heap.size < g5 from by rw [hg5]; exact HX.out.lt)
      clear hx
      replace HX := Lib.hid (HX.out.next hb)
      replace HC := Lib.hid (HC.out.next hb)
      replace HB := Lib.hid (HB.out.trans (hb.mono HB.out.size))
      clear hb
      go_upto_region 5 with fail
      rw [← hV4, ← hg5]
      clear hV4 hg5
      obtain ⟨tw, htw⟩ : ∃ n : Nat, n = W c := ⟨_, rfl⟩
      obtain ⟨th, hth⟩ : ∃ n : Nat, n = H c := ⟨_, rfl⟩
      have hWH := WH_eq OK.out
      rw [← htw, ← hth] at hWH
      have HTW := Lib.hid htw
      have HTH := Lib.hid hth
      have HWH := Lib.hid hWH
      obtain ⟨N, hN⟩ : ∃ n : Nat, n = (tw + 1) * (th + 1) := ⟨_, rfl⟩
      have hNb : 1 ≤ N ∧ N ≤ 169 := by
        rw [hN]
        have h1 := Nat.mul_le_mul (show tw + 1 ≤ 13 by omega) (show th + 1 ≤ 13 by omega)
        have h2 := Nat.mul_le_mul (show 1 ≤ tw + 1 by omega) (show 1 ≤ th + 1 by omega)
        omega
      have hNI : (c.wide + 1) * (c.high + 1) = (N : Int) := by rw [hN]; push_cast; rw [hWH.1, hWH.2]
      have HPN := Lib.hid (show ptN c = N from by rw [hN, htw, hth]; rfl)
      obtain ⟨wd, hwde⟩ : ∃ x, x = c.wide + 1 := ⟨_, rfl⟩
      have HWD := Lib.hid (show wd = (tw : Int) + 1 from by omega)
      have hw1 : IntKind.i64.wrap (c.wide + 1) = wd := by rw [hwde]; exact IntWalk.i64_in _ (by omega)
      have hw2 : IntKind.i64.wrap (c.high + 1) = c.high + 1 := IntWalk.i64_in _ (by omega)
      have hw3 : IntKind.i64.wrap (wd * (c.high + 1)) = (N : Int) := by rw [hwde, hNI]; exact IntWalk.i64_in _ (by omega)
      have hwdb : 2 ≤ wd ∧ wd ≤ 13 := by omega
      obtain ⟨i0, hi0, hz0, hz1, hz2⟩ := info_parts int_info
      obtain ⟨j0, hj0, jz0, jz1, jz2⟩ := info_parts bool_info
      have hmk1 : ∀ W : World, (Instr.makeSlice 22 (.int .i64 (N : Int)) (.int .i64 (N : Int))).run Try.prog W = .ok (.slice (some ⟨W.heap.size, 0, none⟩) N N) (W.alloc (.cells (zeros N) 3)) := fun W => by
        have := run_make (P := Try.prog) W 22 3 i0 (.int .i64 0) Try.underlying22 hi0 hz0 .i64 .i64 N N (by omega) (by omega) (by rw [hz2]; omega) (by omega)
        rw [hz1] at this
        simpa [zeros, Value.cells] using this
      have hmk2 : ∀ W : World, (Instr.makeSlice 55 (.int .i64 (N : Int)) (.int .i64 (N : Int))).run Try.prog W = .ok (.slice (some ⟨W.heap.size, 0, none⟩) N N) (W.alloc (.cells (falses N) 4)) := fun W => by
        have := run_make (P := Try.prog) W 55 4 j0 (.bool false) Try.underlying55 hj0 jz0 .i64 .i64 N N (by omega) (by omega) (by rw [jz2]; omega) (by omega)
        rw [jz1] at this
        simpa [falses, Value.cells] using this
      clear hi0 hz0 hz1 hz2 hj0 jz0 jz1 jz2 hN hNI hwde htw hth hWH
      have c0 := HX.out.c 0 _ rfl
      have c1 := HX.out.c 1 _ rfl
      have c2 := HX.out.c 2 _ rfl
      have hgp0 : V4.heap.size = V4.heap.size := rfl
      go_upto_region 10 with fail
      obtain ⟨gp, hgp⟩ : ∃ g, g = V4.heap.size := ⟨_, rfl⟩
      have HG := Lib.hid (show g5 < gp from by rw [hgp]; exact HX5.out.lt)
      have HCG := Lib.hid (show CutAt V4 gp c from by rw [hgp]; exact HC.out)
      have HXW := Lib.hid (show w.heap.size < gp from by rw [hgp]; exact HX.out.lt)
      have n1 := nxA V4 (.cells (zeros N) 3)
      have m1 := IBlk.zeros V4 N 3
      have s1 : (V4.alloc (.cells (zeros N) 3)).heap.size = gp + 1 := by simp [hgp]
      rw [← hgp] at m1 n1 ⊢
      generalize (V4.alloc (.cells (zeros N) 3)) = K1 at *
      have n2 := nxA K1 (.cells #[.slice (some ⟨gp, 0, none⟩) N N] 22)
      have m2 := Bx.new K1 #[.slice (some ⟨gp, 0, none⟩) N N] 22
      have s2 : (K1.alloc (.cells #[.slice (some ⟨gp, 0, none⟩) N N] 22)).heap.size = gp + 1 + 1 := by simp [s1]
      rw [s1] at m2 n2
      generalize (K1.alloc (.cells #[.slice (some ⟨gp, 0, none⟩) N N] 22)) = K2 at *
      have n3 := nxA K2 (.cells (falses N) 4)
      have m3 := BBlk.falses K2 N 4
      have s3 : (K2.alloc (.cells (falses N) 4)).heap.size = gp + 1 + 1 + 1 := by simp [s2]
      rw [s2] at m3 n3
      generalize (K2.alloc (.cells (falses N) 4)) = K3 at *
      have n4 := nxA K3 (.cells #[.slice (some ⟨gp + 1 + 1, 0, none⟩) N N] 55)
      have m4 := Bx.new K3 #[.slice (some ⟨gp + 1 + 1, 0, none⟩) N N] 55
      have s4 : (K3.alloc (.cells #[.slice (some ⟨gp + 1 + 1, 0, none⟩) N N] 55)).heap.size = gp + 1 + 1 + 1 + 1 := by simp [s3]
      rw [s3] at m4 n4
      generalize (K3.alloc (.cells #[.slice (some ⟨gp + 1 + 1, 0, none⟩) N N] 55)) = V5 at *
      have HPP := Lib.hid (show IBlk V5 gp N (fun _ => 0) from ((m1.below n2 (by omega)).below n3 (by omega)).below n4 (by omega))
      have HXP := Lib.hid (show Bx V5 (gp + 1) [.slice (some ⟨gp, 0, none⟩) N N] from (m2.below n3 (by omega)).below n4 (by omega))
      have HUU := Lib.hid (show BBlk V5 (gp + 1 + 1) N (fun _ => false) from m3.below n4 (by omega))
      have HXU := Lib.hid (show Bx V5 (gp + 1 + 1 + 1) [.slice (some ⟨gp + 1 + 1, 0, none⟩) N N] from m4)
      have HB5 := Lib.hid (show Below gp V4 V5 from ((n1.trans (n2.mono (by omega))).trans (n3.mono (by omega))).trans (n4.mono (by omega)))
      have HZ5 := Lib.hid s4
      have c0 := (HX.out.below HB5.out HXW.out).c 0 _ rfl
      clear n1 n2 n3 n4 m1 m2 m3 m4 s1 s2 s3 s4 hgp hgp0 hmk1 hmk2 hw1 hw2 hw3 c0 c1 c2 HC
      have x0 := HXP.out.c 0 _ rfl
      go_wp2_with fail
      refine wp_loopM euI (fun f V => ∃ i : Nat, i ≤ N ∧ f 61 = .int .i64 (i : Int) ∧ IBlk V gp N (fun j => if j < i then (j : Int) else 0) ∧ V5.grownBy V (some gp)) (fun f _ => N - (intOf (f 61)).toNat) (by kernel_rfl) ⟨0, by omega, slotF_at rfl, HPP.out.congr (fun j => by rw [if_neg (by omega)]), grown_dn V5 0 _⟩ ?_
      intro f V hrel
      obtain ⟨i, hi, e61, hib, hgr⟩ := hrel
      simp only [euI, mixF, e61]
      have HE := Lib.hid e61
      have HI := Lib.hid hib
      have HGR := Lib.hid hgr
      clear e61 hib hgr x0
      have x0 := (HXP.out.gk HGR.out (fun r e => by injection e with e; omega)).c 0 _ rfl
      by_cases hin : i < N
      · have hiI : (i : Int) < (N : Int) := by omega
        have z0 := HI.out.cell i hin
        have z1 := HI.out.free i
        have hwi : IntKind.i64.wrap ((i : Int) + 1) = (i : Int) + 1 := IntWalk.i64_in _ (by omega)
        have HMU := Lib.hid (show N - (i + 1) < N - i from by omega)
        have HS := Lib.hid (show IBlk (V.setCell ⟨gp, i, none⟩ (.int .i64 (i : Int))) gp N (fun j => if j < i + 1 then (j : Int) else 0) from HI.out.set_ hin (if_pos (by omega)) (fun j hj => by
          by_cases h1 : j < i
          · rw [if_pos h1, if_pos (by omega)]
          · rw [if_neg h1, if_neg (by omega)]))
        go_wp2_with fail
        refine endM (by kernel_rfl) (by kernel_rfl) ⟨i + 1, by omega, slotF_at rfl, HS.out, grown_trans HGR.out (grown_cellS _ _ _ _)⟩ ?_
        show N - (intOf (slotF _ 61)).toNat < N - (intOf (f 61)).toNat
        rw [slotF_at rfl, HE.out]
        have := HMU.out
        simp [intOf]
        omega
      · have hiI : ¬ (i : Int) < (N : Int) := by omega
        obtain ⟨ge, hge⟩ : ∃ g, g = V.heap.size := ⟨_, rfl⟩
        have hs5 := HZ5.out
        have hsv := HGR.out.size
        have HZV := Lib.hid (show gp + 1 + 1 + 1 + 1 ≤ ge from by omega)
        have hn := nxA V (.cells #[.int .i64 0] 3)
        have hx := Bx.new V #[.int .i64 0] 3
        have HBV := Lib.hid (show Below gp V4 V from HB5.out.trans (below_of HGR.out (fun r e => by injection e with e; omega) (by omega)))
        go_upto_region 16 with fail
        rw [← hge] at hx hn ⊢
        generalize hV6 : V.alloc (.cells #[.int .i64 0] 3) = V6 at *
        have HM := Lib.hid (show EuC c g5 [.int .i64 ln, .int .i64 u1, .int .i64 u2, .int .i64 u3] gp ge (gp + 1 + 1 + 1) (gp + 1) (gp + 1 + 1) gp w (sepL c (0 * (W c + 1))) V6 from by
          have hb6 : Below gp V4 V6 := HBV.out.trans (hn.mono (by have := HZV.out; omega))
          have g1 : ∀ {b : Nat}, some gp = some b → b = gp := fun e => by injection e with e; exact e.symm
          have hz := HZV.out
          rw [Nat.zero_mul]
          refine ⟨HX.out.below hb6 HXW.out, HX5.out.below hb6 HG.out, HCG.out.below hb6, HB.out.trans (hb6.mono (Nat.le_of_lt HXW.out)), ⟨HXW.out, HG.out⟩, ?_⟩
          rw [HPN.out]
          refine ⟨hx, (HXU.out.gk HGR.out (fun r e => by have := g1 e; omega)).below hn (by omega), (HXP.out.gk HGR.out (fun r e => by have := g1 e; omega)).below hn (by omega), ((HUU.out.gk HGR.out (fun r e => by have := g1 e; omega)).below hn (by omega)).congr (fun _ _ => rfl), (HI.out.below hn (by omega)).congr' (fun j hj => by rw [if_pos (by omega)]; rfl), by omega, ?_⟩
          exact ⟨by omega, by omega, Nat.le_refl _, by have := hb6.size; have := hn.size; omega⟩)
        have HBD := Lib.hid (show gp + 1 + 1 + 1 + 1 ≤ ge from HZV.out)
        clear hV6 hge hn hx HPP HXP HUU HXU HI HGR HE hs5 hsv x0 HX HX5 HCG HB HB5 HZ5 HBV HZV hi hin hiI
        obtain ⟨gu, hgu⟩ : ∃ g, g = gp + 1 + 1 := ⟨_, rfl⟩
        obtain ⟨bp, hbp⟩ : ∃ g, g = gp + 1 := ⟨_, rfl⟩
        obtain ⟨bu, hbu⟩ : ∃ g, g = gp + 1 + 1 + 1 := ⟨_, rfl⟩
        rw [← hbu, ← hgu, ← hbp] at HM ⊢
        clear hgu hbp hbu HBD
        go_upto_region 18 with fail
        refine wp_loopM euY (fun f V => ∃ y : Nat, y ≤ H c + 1 ∧ f 14 = .int .i64 (y : Int) ∧ f 12 = .int .i64 ((bordL c (y * (W c + 1))).length : Nat) ∧ EuC c g5 [.int .i64 ln, .int .i64 u1, .int .i64 u2, .int .i64 u3] gp ge bu bp gu gp w (sepL c (y * (W c + 1))) V) (fun f _ => H c + 1 - (intOf (f 14)).toNat) (by kernel_rfl) ⟨0, by omega, slotF_at rfl, (by rw [Nat.zero_mul]; exact slotF_at rfl), HM.out⟩ ?_
        clear HM
        intro fy Vy hrel
        obtain ⟨y, hy, e14, e12, hm⟩ := hrel
        simp only [euY, mixF, e14, e12]
        have HE14 := Lib.hid e14
        have HM := Lib.hid hm
        clear e14 e12 hm
        have c1 := HM.out.xc.c 1 _ rfl
        by_cases hyt : y < H c + 1
        · have hyI : (y : Int) ≤ c.high := by have := (WH_eq OK.out).2; omega
          have hwy : IntKind.i64.wrap ((y : Int) + 1) = (y : Int) + 1 := IntWalk.i64_in _ (by omega)
          have HMU := Lib.hid (show H c + 1 - (y + 1) < H c + 1 - y from by omega)
          go_wp2_with fail
          refine wp_loopM euX (fun f V => ∃ x : Nat, x ≤ W c + 1 ∧ f 15 = .int .i64 (x : Int) ∧ f 12 = .int .i64 ((bordL c (y * (W c + 1) + x)).length : Nat) ∧ EuC c g5 [.int .i64 ln, .int .i64 u1, .int .i64 u2, .int .i64 u3] gp ge bu bp gu gp w (sepL c (y * (W c + 1) + x)) V) (fun f _ => W c + 1 - (intOf (f 15)).toNat) (by kernel_rfl) ⟨0, by omega, slotF_at rfl, slotF_at rfl, HM.out⟩ ?_
          clear HM c1
          intro fx Vx hrel
          obtain ⟨x, hx, e15, e12, hm⟩ := hrel
          simp only [euX, mixF, e15, e12]
          have HE15 := Lib.hid e15
          have HM := Lib.hid hm
          clear e15 e12 hm
          have c0 := HM.out.xc.c 0 _ rfl
          by_cases hxt : x < W c + 1
          · have hWHx := WH_eq OK.out
            have hxI : (x : Int) ≤ c.wide := by omega
            have hwx : IntKind.i64.wrap ((x : Int) + 1) = (x : Int) + 1 := IntWalk.i64_in _ (by omega)
            have HMUX := Lib.hid (show W c + 1 - (x + 1) < W c + 1 - x from by omega)
            have hwd1 : wd = (W c : Int) + 1 := by have := HWD.out; have := HTW.out; omega
            obtain ⟨own, hown⟩ : ∃ n : Nat, n = ptI (W c) x y := ⟨_, rfl⟩
            have hyw : (y : Int) * wd + (x : Int) = (own : Int) ∧ 0 ≤ (y : Int) * wd ∧ (y : Int) * wd ≤ 200 := by
              have h1 := Int.mul_le_mul (show (y : Int) ≤ 12 by omega) hwdb.2 (by omega) (by omega)
              have h2 := Int.mul_nonneg (show 0 ≤ (y : Int) by omega) (show 0 ≤ wd by omega)
              refine ⟨?_, h2, by omega⟩
              rw [hown, hwd1]; unfold ptI; push_cast; omega
            have hw5 : IntKind.i64.wrap ((y : Int) * wd) = (y : Int) * wd := IntWalk.i64_in _ (by omega)
            have hw6 : IntKind.i64.wrap ((y : Int) * wd + (x : Int)) = (own : Int) := by rw [hyw.1]; exact IntWalk.i64_in _ (by omega)
            have hownB : (own : Int) ≤ 300 := by omega
            have HOWN := Lib.hid hown
            have HSA := Lib.hid (edL_at (w := W c) (h := H c) (P := sepB c) (x := x) (y := y) (by omega))
            have HBA := Lib.hid (edL_at (w := W c) (h := H c) (P := fun e => sepB c e && bordB c e) (x := x) (y := y) (by omega))
            have HXY := Lib.hid (show (x ≤ W c ∧ y ≤ H c) ∧ ((W c : Int) = c.wide ∧ (H c : Int) = c.high) ∧ wd = (W c : Int) + 1 from ⟨⟨by omega, by omega⟩, hWHx, hwd1⟩)
            clear hyw hown hwd1
            go_upto_region 24 with fail
            obtain ⟨E0, hE0⟩ : ∃ E, E = sepL c (y * (W c + 1) + x) := ⟨_, rfl⟩
            obtain ⟨B0, hB0⟩ : ∃ E, E = bordL c (y * (W c + 1) + x) := ⟨_, rfl⟩
            have HEE := Lib.hid hE0
            have HBE := Lib.hid hB0
            rw [← hE0] at HM
            rw [← hB0]
            clear hE0 hB0 hw5 hw6 c0
            have HBN := Lib.hid (show B0.length ≤ 1000 ∧ E0.length ≤ 1000 from by
              have h1 := HXY.out
              have e1 := edL_len (W c) (H c) (fun e => sepB c e && bordB c e) (y * (W c + 1) + x)
              have e2 := edL_len (W c) (H c) (sepB c) (y * (W c + 1) + x)
              have hk : y * (W c + 1) + x ≤ 200 := by
                have := Nat.mul_le_mul (show y ≤ 12 by omega) (show W c + 1 ≤ 13 by omega)
                omega
              have hs : ∀ P : Ed → Bool, (edL (W c) (H c) P (y * (W c + 1) + x)).length ≤ 1000 := fun P => by
                have e3 := edL_len (W c) (H c) P (y * (W c + 1) + x)
                have := sumTo_bd (f := fun i => b2i (decide (i % (W c + 1) < W c) && P (true, i % (W c + 1), i / (W c + 1))) + b2i (decide (i / (W c + 1) < H c) && P (false, i % (W c + 1), i / (W c + 1)))) (B := 2) (fun k => by
                  have h1 := b2i_bdE (decide (k % (W c + 1) < W c) && P (true, k % (W c + 1), k / (W c + 1)))
                  have h2 := b2i_bdE (decide (k / (W c + 1) < H c) && P (false, k % (W c + 1), k / (W c + 1)))
                  omega) (y * (W c + 1) + x)
                omega
              exact ⟨by rw [HBE.out]; exact hs _, by rw [HEE.out]; exact hs _⟩)
            have HK := Lib.hid (show ∀ W : World, Below Vx.heap.size Vx W → (W.cell? ⟨w.heap.size, 0, none⟩ = some (.int .i64 c.wide) ∧ W.cell? ⟨w.heap.size, 1, none⟩ = some (.int .i64 c.high) ∧ W.cell? ⟨w.heap.size, 2, none⟩ = some (.slice c.A c.piece.length c.c)) from fun W h => ⟨(HM.out.xc.next h).c 0 _ rfl, (HM.out.xc.next h).c 1 _ rfl, (HM.out.xc.next h).c 2 _ rfl⟩)
            have HCC := Lib.hid (show CutAt Vx Vx.heap.size c from HM.out.c1)
            go_cut [102] from 76 to 149 (fun s wx => s = .bool (decide (x < W c) && sepB c (true, x, y)) ∧ Below Vx.heap.size Vx wx)
            case first =>
              have hc : Below Vx.heap.size Vx Vx.drew := (Below.refl _ _).drew
              have hwm : IntKind.i64.wrap ((y : Int) - 1) = ((y : Int) - 1) := IntWalk.i64_in _ (by omega)
              have hxy := HXY.out
              by_cases hlt : x < W c
              · have hlI : (x : Int) < c.wide := by omega
                clear hxy
                refine wp_region_noPanic ?_
                refine wp_region_held_drew (S := (fun V => V.cell? ⟨w.heap.size, 0, none⟩ = some (.int .i64 c.wide) ∧ V.cell? ⟨w.heap.size, 1, none⟩ = some (.int .i64 c.high) ∧ V.cell? ⟨w.heap.size, 2, none⟩ = some (.slice c.A c.piece.length c.c))) (by kernel_rfl) ?_ (fun hHeld => ?_)
                · (try dsimp only); exact HK.out _ hc
                refine htake (i := 0) (v := ?v1) rfl (by kernel_rfl) (by kernel_rfl) (by kernel_rfl) (fun _ _ _ h => h) (Or.inl ⟨by rfl, ?hy1⟩) (by assumption) ?_
                case hy1 => (intro w hSw; (try dsimp only at hSw); go_simp; try (with_reducible rfl))
                try simp only [Act.put, List.setIfInBounds_toArray, List.set_cons_zero, List.set_cons_succ]
                refine htake (i := 1) (v := ?v2) rfl (by kernel_rfl) (by kernel_rfl) (by kernel_rfl) (fun _ _ _ h => h) (Or.inl ⟨by rfl, ?hy2⟩) (by assumption) ?_
                case hy2 => (intro w hSw; (try dsimp only at hSw); go_simp; try (with_reducible rfl))
                try simp only [Act.put, List.setIfInBounds_toArray, List.set_cons_zero, List.set_cons_succ]
                refine htake (i := 2) (v := ?v3) rfl (by kernel_rfl) (by kernel_rfl) (by kernel_rfl) (fun _ _ _ h => h) (Or.inl ⟨by rfl, ?hy3⟩) (by assumption) ?_
                case hy3 => (intro w hSw; (try dsimp only at hSw); go_simp; try (with_reducible rfl))
                try simp only [Act.put, List.setIfInBounds_toArray, List.set_cons_zero, List.set_cons_succ]
                refine htake (i := 3) (v := ?v4) rfl (by kernel_rfl) (by kernel_rfl) (by kernel_rfl) (fun _ _ _ h => h) (Or.inl ⟨by rfl, ?hy4⟩) (by assumption) ?_
                case hy4 => (intro w hSw; (try dsimp only at hSw); go_simp; try (with_reducible rfl))
                try simp only [Act.put, List.setIfInBounds_toArray, List.set_cons_zero, List.set_cons_succ]
                refine htake (i := 4) (v := ?v5) rfl (by kernel_rfl) (by kernel_rfl) (by kernel_rfl) (fun _ _ _ h => h) (Or.inl ⟨by rfl, ?hy5⟩) (by assumption) ?_
                case hy5 => (intro w hSw; (try dsimp only at hSw); go_simp; try (with_reducible rfl))
                try simp only [Act.put, List.setIfInBounds_toArray, List.set_cons_zero, List.set_cons_succ]
                refine htake (i := 5) (v := ?v6) rfl (by kernel_rfl) (by kernel_rfl) (by kernel_rfl) (fun _ _ _ h => h) (Or.inl ⟨by rfl, ?hy6⟩) (by assumption) ?_
                case hy6 => (intro w hSw; (try dsimp only at hSw); go_simp; try (with_reducible rfl))
                try simp only [Act.put, List.setIfInBounds_toArray, List.set_cons_zero, List.set_cons_succ]
                refine htake (i := 6) (v := ?v7) rfl (by kernel_rfl) (by kernel_rfl) (by kernel_rfl) (fun _ _ _ h => h) (Or.inl ⟨by rfl, ?hy7⟩) (by assumption) ?_
                case hy7 => (intro w hSw; (try dsimp only at hSw); go_simp; try (with_reducible rfl))
                try simp only [Act.put, List.setIfInBounds_toArray, List.set_cons_zero, List.set_cons_succ]
                refine htake (i := 7) (v := ?v8) rfl (by kernel_rfl) (by kernel_rfl) (by kernel_rfl) (fun _ _ _ h => h) (Or.inl ⟨by rfl, ?hy8⟩) (by assumption) ?_
                case hy8 => (intro w hSw; (try dsimp only at hSw); go_simp; try (with_reducible rfl))
                try simp only [Act.put, List.setIfInBounds_toArray, List.set_cons_zero, List.set_cons_succ]
                refine htake (i := 8) (v := ?v9) rfl (by kernel_rfl) (by kernel_rfl) (by kernel_rfl) (fun _ _ _ h => h) (Or.inl ⟨by rfl, ?hy9⟩) (by assumption) ?_
                case hy9 => (intro w hSw; (try dsimp only at hSw); go_simp; try (with_reducible rfl))
                try simp only [Act.put, List.setIfInBounds_toArray, List.set_cons_zero, List.set_cons_succ]
                refine htake (i := 10) (v := ?v10) rfl (by kernel_rfl) (by kernel_rfl) (by kernel_rfl) (fun _ _ _ h => h) (Or.inl ⟨by rfl, ?hy10⟩) (by assumption) ?_
                case hy10 => (intro w hSw; (try dsimp only at hSw); go_simp; try (with_reducible rfl))
                try simp only [Act.put, List.setIfInBounds_toArray, List.set_cons_zero, List.set_cons_succ]
                refine htake (i := 11) (v := ?v11) rfl (by kernel_rfl) (by kernel_rfl) (by kernel_rfl) (fun _ _ _ h => h) (Or.inl ⟨by rfl, ?hy11⟩) (by assumption) ?_
                case hy11 => (intro w hSw; (try dsimp only at hSw); go_simp; try (with_reducible rfl))
                try simp only [Act.put, List.setIfInBounds_toArray, List.set_cons_zero, List.set_cons_succ]
                refine htake (i := 12) (v := ?v12) rfl (by kernel_rfl) (by kernel_rfl) (by kernel_rfl) (fun _ _ _ h => h) (Or.inl ⟨by rfl, ?hy12⟩) (by assumption) ?_
                case hy12 => (intro w hSw; (try dsimp only at hSw); go_simp; try (with_reducible rfl))
                try simp only [Act.put, List.setIfInBounds_toArray, List.set_cons_zero, List.set_cons_succ]
                refine wpAnyH_ready (rs := [9]) (by kernel_rfl) (by simp) ?_
                refine hcons rfl (fun K hK => ?_) (AllReadyH.nil)
                go_simp
                refine (At_any c (x : Int) ((y : Int) - 1) _ OK.out (HCC.out.next hc)).mono ?_; rintro e Vq ⟨rfl, hb⟩; replace hc := hc.trans (hb.mono hc.size); clear hb
                refine hK.out _ _ ?_ (fun hHeld => ?_)
                · (try dsimp only); exact HK.out _ hc
                clear hK K
                try simp only [Act.put, List.setIfInBounds_toArray, List.set_cons_zero, List.set_cons_succ]
                refine wpAnyH_ready (rs := [13]) (by kernel_rfl) (by simp) ?_
                refine hcons rfl (fun K hK => ?_) (AllReadyH.nil)
                go_simp
                refine (At_any c (x : Int) (y : Int) _ OK.out (HCC.out.next hc)).mono ?_; rintro e Vr ⟨rfl, hb⟩; replace hc := hc.trans (hb.mono hc.size); clear hb
                refine hK.out _ _ ?_ (fun hHeld => ?_)
                · (try dsimp only); exact HK.out _ hc
                clear hK K
                try simp only [Act.put, List.setIfInBounds_toArray, List.set_cons_zero, List.set_cons_succ]
                refine htake (i := 14) (v := ?v13) rfl (by kernel_rfl) (by kernel_rfl) (by kernel_rfl) (fun _ _ _ h => h) (Or.inl ⟨by rfl, ?hy13⟩) (by assumption) ?_
                case hy13 => (intro w hSw; (try dsimp only at hSw); go_simp; try (with_reducible rfl))
                try simp only [Act.put, List.setIfInBounds_toArray, List.set_cons_zero, List.set_cons_succ]
                refine htake (i := 15) (v := ?v14) rfl (by kernel_rfl) (by kernel_rfl) (by kernel_rfl) (fun _ _ _ h => h) (Or.inl ⟨by rfl, ?hy14⟩) (by assumption) ?_
                case hy14 => (intro w hSw; (try dsimp only at hSw); go_simp; try (with_reducible rfl))
                try simp only [Act.put, List.setIfInBounds_toArray, List.set_cons_zero, List.set_cons_succ]
                refine wpAnyH_done (by kernel_rfl) ?_ _
                refine NoPanic.normal ?_
                iterate 17 (try clear hHeld)
                all_goals (go_wp2_with fail; go_meet)
                all_goals exact ⟨by rw [decide_eq_true hlt, Bool.true_and]; unfold sepB; first | rw [if_pos rfl] | rw [if_neg (by simp)], hc⟩
              · have hlI : ¬ (x : Int) < c.wide := by omega
                clear hxy
                refine wp_region_noPanic ?_
                refine wp_region_held_drew (S := (fun V => V.cell? ⟨w.heap.size, 0, none⟩ = some (.int .i64 c.wide) ∧ V.cell? ⟨w.heap.size, 1, none⟩ = some (.int .i64 c.high) ∧ V.cell? ⟨w.heap.size, 2, none⟩ = some (.slice c.A c.piece.length c.c))) (by kernel_rfl) ?_ (fun hHeld => ?_)
                · (try dsimp only); exact HK.out _ hc
                refine htake (i := 0) (v := ?v15) rfl (by kernel_rfl) (by kernel_rfl) (by kernel_rfl) (fun _ _ _ h => h) (Or.inl ⟨by rfl, ?hy15⟩) (by assumption) ?_
                case hy15 => (intro w hSw; (try dsimp only at hSw); go_simp; try (with_reducible rfl))
                try simp only [Act.put, List.setIfInBounds_toArray, List.set_cons_zero, List.set_cons_succ]
                refine htake (i := 1) (v := ?v16) rfl (by kernel_rfl) (by kernel_rfl) (by kernel_rfl) (fun _ _ _ h => h) (Or.inl ⟨by rfl, ?hy16⟩) (by assumption) ?_
                case hy16 => (intro w hSw; (try dsimp only at hSw); go_simp; try (with_reducible rfl))
                try simp only [Act.put, List.setIfInBounds_toArray, List.set_cons_zero, List.set_cons_succ]
                refine htake (i := 2) (v := ?v17) rfl (by kernel_rfl) (by kernel_rfl) (by kernel_rfl) (fun _ _ _ h => h) (Or.inl ⟨by rfl, ?hy17⟩) (by assumption) ?_
                case hy17 => (intro w hSw; (try dsimp only at hSw); go_simp; try (with_reducible rfl))
                try simp only [Act.put, List.setIfInBounds_toArray, List.set_cons_zero, List.set_cons_succ]
                refine htake (i := 3) (v := ?v18) rfl (by kernel_rfl) (by kernel_rfl) (by kernel_rfl) (fun _ _ _ h => h) (Or.inl ⟨by rfl, ?hy18⟩) (by assumption) ?_
                case hy18 => (intro w hSw; (try dsimp only at hSw); go_simp; try (with_reducible rfl))
                try simp only [Act.put, List.setIfInBounds_toArray, List.set_cons_zero, List.set_cons_succ]
                refine htake (i := 4) (v := ?v19) rfl (by kernel_rfl) (by kernel_rfl) (by kernel_rfl) (fun _ _ _ h => h) (Or.inl ⟨by rfl, ?hy19⟩) (by assumption) ?_
                case hy19 => (intro w hSw; (try dsimp only at hSw); go_simp; try (with_reducible rfl))
                try simp only [Act.put, List.setIfInBounds_toArray, List.set_cons_zero, List.set_cons_succ]
                refine htake (i := 5) rfl (by kernel_rfl) (by kernel_rfl) (by kernel_rfl) (fun _ _ _ h => h) (Or.inr ⟨by rfl, rfl⟩) (by assumption) ?_
                try simp only [Act.put, List.setIfInBounds_toArray, List.set_cons_zero, List.set_cons_succ]
                refine htake (i := 6) rfl (by kernel_rfl) (by kernel_rfl) (by kernel_rfl) (fun _ _ _ h => h) (Or.inr ⟨by rfl, rfl⟩) (by assumption) ?_
                try simp only [Act.put, List.setIfInBounds_toArray, List.set_cons_zero, List.set_cons_succ]
                refine htake (i := 7) rfl (by kernel_rfl) (by kernel_rfl) (by kernel_rfl) (fun _ _ _ h => h) (Or.inr ⟨by rfl, rfl⟩) (by assumption) ?_
                try simp only [Act.put, List.setIfInBounds_toArray, List.set_cons_zero, List.set_cons_succ]
                refine htake (i := 8) rfl (by kernel_rfl) (by kernel_rfl) (by kernel_rfl) (fun _ _ _ h => h) (Or.inr ⟨by rfl, rfl⟩) (by assumption) ?_
                try simp only [Act.put, List.setIfInBounds_toArray, List.set_cons_zero, List.set_cons_succ]
                refine htake (i := 9) rfl (by kernel_rfl) (by kernel_rfl) (by kernel_rfl) (fun _ _ _ h => h) (Or.inr ⟨by rfl, rfl⟩) (by assumption) ?_
                try simp only [Act.put, List.setIfInBounds_toArray, List.set_cons_zero, List.set_cons_succ]
                refine htake (i := 10) rfl (by kernel_rfl) (by kernel_rfl) (by kernel_rfl) (fun _ _ _ h => h) (Or.inr ⟨by rfl, rfl⟩) (by assumption) ?_
                try simp only [Act.put, List.setIfInBounds_toArray, List.set_cons_zero, List.set_cons_succ]
                refine htake (i := 11) rfl (by kernel_rfl) (by kernel_rfl) (by kernel_rfl) (fun _ _ _ h => h) (Or.inr ⟨by rfl, rfl⟩) (by assumption) ?_
                try simp only [Act.put, List.setIfInBounds_toArray, List.set_cons_zero, List.set_cons_succ]
                refine htake (i := 12) rfl (by kernel_rfl) (by kernel_rfl) (by kernel_rfl) (fun _ _ _ h => h) (Or.inr ⟨by rfl, rfl⟩) (by assumption) ?_
                try simp only [Act.put, List.setIfInBounds_toArray, List.set_cons_zero, List.set_cons_succ]
                refine htake (i := 13) rfl (by kernel_rfl) (by kernel_rfl) (by kernel_rfl) (fun _ _ _ h => h) (Or.inr ⟨by rfl, rfl⟩) (by assumption) ?_
                try simp only [Act.put, List.setIfInBounds_toArray, List.set_cons_zero, List.set_cons_succ]
                refine htake (i := 14) rfl (by kernel_rfl) (by kernel_rfl) (by kernel_rfl) (fun _ _ _ h => h) (Or.inr ⟨by rfl, rfl⟩) (by assumption) ?_
                try simp only [Act.put, List.setIfInBounds_toArray, List.set_cons_zero, List.set_cons_succ]
                refine htake (i := 15) (v := ?v20) rfl (by kernel_rfl) (by kernel_rfl) (by kernel_rfl) (fun _ _ _ h => h) (Or.inl ⟨by rfl, ?hy20⟩) (by assumption) ?_
                case hy20 => (intro w hSw; (try dsimp only at hSw); go_simp; try (with_reducible rfl))
                try simp only [Act.put, List.setIfInBounds_toArray, List.set_cons_zero, List.set_cons_succ]
                refine wpAnyH_done (by kernel_rfl) ?_ _
                refine NoPanic.normal ?_
                iterate 17 (try clear hHeld)
                all_goals (go_wp2_with fail; go_meet)
                all_goals exact ⟨by rw [decide_eq_false hlt, Bool.false_and], hc⟩
            case rest =>
              obtain ⟨rfl, hbc⟩ := hcut
              generalize wc = Wb at *
              have HMb := Lib.hid (HM.out.next hbc)
              clear hbc HK HCC
              obtain ⟨E1, hE1⟩ : ∃ E, E = (if x < W c ∧ sepB c (true, x, y) = true then [(true, x, y)] else []) ++ E0 := ⟨_, rfl⟩
              obtain ⟨B1, hB1⟩ : ∃ E, E = (if x < W c ∧ (sepB c (true, x, y) && bordB c (true, x, y)) = true then [(true, x, y)] else []) ++ B0 := ⟨_, rfl⟩
              have HE1 := Lib.hid hE1
              have HB1 := Lib.hid hB1
              have HLE1 := Lib.hid (show B1.length ≤ B0.length + 1 ∧ E1.length ≤ E0.length + 1 from by
                rw [hE1, hB1, List.length_append, List.length_append]
                constructor <;> split <;> simp <;> omega)
              clear hE1 hB1
              go_upto_if 102 with fail
              go_cut [12] from 76 to 149 (fun s wx => s = .int .i64 ((B1.length : Nat) : Int) ∧ EuC c g5 [.int .i64 ln, .int .i64 u1, .int .i64 u2, .int .i64 u3] gp ge bu bp gu gp w E1 wx)
              case first =>
                cases hsp : (decide (x < W c) && sepB c (true, x, y))
                · have hE : E1 = E0 := by
                    rw [HE1.out, if_neg (fun h => by rw [decide_eq_true h.1, h.2] at hsp; cases hsp)]; rfl
                  have hB : B1 = B0 := by
                    rw [HB1.out, if_neg (fun h => by rw [Bool.and_eq_true] at h; rw [decide_eq_true h.1, h.2.1] at hsp; cases hsp)]; rfl
                  have HE9 := Lib.hid hE
                  have HB9 := Lib.hid hB
                  clear hE hB hsp
                  go_wp2_with fail
                  go_meet
                  exact ⟨by rw [HB9.out], by rw [HE9.out]; exact HMb.out⟩
                · rw [Bool.and_eq_true, decide_eq_true_eq] at hsp
                  have hE : E1 = (true, x, y) :: E0 := by rw [HE1.out, if_pos hsp]; rfl
                  have hB : B1 = if bordB c (true, x, y) = true then (true, x, y) :: B0 else B0 := by
                    rw [HB1.out, hsp.2, Bool.true_and]
                    by_cases hq : bordB c (true, x, y) = true
                    · rw [if_pos ⟨hsp.1, hq⟩, if_pos hq]; rfl
                    · rw [if_neg (fun h => hq h.2), if_neg hq]; rfl
                  have HE9 := Lib.hid hE
                  have HB9 := Lib.hid hB
                  have hxy := HXY.out
                  have hok : okE (W c) (H c) (true, x, y) := by unfold okE; simp only [if_true]; omega
                  obtain ⟨ow1, how1⟩ : ∃ n : Nat, n = own + 1 := ⟨_, rfl⟩
                  have hpt : ptE (W c) (true, x, y) = (own, ow1) := by
                    unfold ptE
                    rw [how1, HOWN.out]
                    unfold ptI
                    dsimp only
                    refine Prod.ext rfl ?_
                    dsimp only
                    rw [if_pos rfl]; omega
                  have hpl := ptE_lt hok
                  rw [hpt] at hpl
                  have hw7 : IntKind.i64.wrap ((own : Int) + 1) = (ow1 : Int) := by
                    have : (own : Int) + 1 = (ow1 : Int) := by rw [how1]; push_cast; omega
                    rw [this]; exact IntWalk.i64_in _ (by have := hpl.2; have := HPN.out; unfold ptN at this; omega)
                  have HPT := Lib.hid hpt
                  have HPL := Lib.hid (show own < ptN c ∧ ow1 < ptN c from hpl)
                  have hbn := HBN.out
                  skip
                  have hw8 : IntKind.i64.wrap (((B0.length : Nat) : Int) + 1) = (((B0.length + 1 : Nat)) : Int) := by
                    push_cast; exact IntWalk.i64_in _ (by omega)
                  have hmb : 0 ≤ ((E0.length : Nat) : Int) ∧ ((E0.length : Nat) : Int) ≤ 100000 := by omega
                  have HMB := Lib.hid hmb
                  have hvb : ((y : Int) = 0 ↔ y = 0) ∧ ((y : Int) = c.high ↔ y = H c) := by omega
                  have HVB := Lib.hid hvb
                  clear hE hB hpt hpl hok how1 hsp hmb hxy hvb
                  go_wp2_with fail
                  refine (draw_any gp ge bu bp gu gp (ptN c) own ow1 _ _ _ Wb HMb.out.e HPL.out.1 HPL.out.2 (by rw [HPN.out]; omega) HMB.out).mono ?_
                  rintro e Vd ⟨⟨vd, rfl⟩, hed, hbd⟩
                  have HMD := Lib.hid (show EuC c g5 [.int .i64 ln, .int .i64 u1, .int .i64 u2, .int .i64 u3] gp ge bu bp gu gp w ((true, x, y) :: E0) Vd from HMb.out.draw (d := (true, x, y)) (by rw [HPT.out]; exact hed) hbd)
                  clear hed hbd hw7
                  have c0 := HMD.out.xc.c 0 _ rfl
                  have c1 := HMD.out.xc.c 1 _ rfl
                  by_cases hy0 : y = 0
                  · have e1 : ((y : Int) == 0) = true := by simp [hy0]
                    have HB10 := Lib.hid (show B1 = (true, x, y) :: B0 from by rw [HB9.out, if_pos (by unfold bordB; simp [hy0])])
                    clear hy0
                    go_wp2_with fail
                    go_meet
                    exact ⟨by rw [HB10.out, List.length_cons]; first | done | (push_cast; rfl), by rw [HE9.out]; exact HMD.out⟩
                  · have e1 : ((y : Int) == 0) = false := by rw [beq_eq_false_iff_ne]; exact fun e => hy0 (HVB.out.1.1 e)
                    by_cases hyH : y = H c
                    · have e2 : ((y : Int) == c.high) = true := by rw [beq_iff_eq]; exact HVB.out.2.2 hyH
                      have HB10 := Lib.hid (show B1 = (true, x, y) :: B0 from by rw [HB9.out, if_pos (by unfold bordB; simp [hyH])])
                      clear hy0 hyH
                      go_wp2_with fail
                      go_meet
                      exact ⟨by rw [HB10.out, List.length_cons]; first | done | (push_cast; rfl), by rw [HE9.out]; exact HMD.out⟩
                    · have e2 : ((y : Int) == c.high) = false := by rw [beq_eq_false_iff_ne]; exact fun e => hyH (HVB.out.2.1 e)
                      have HB10 := Lib.hid (show B1 = B0 from by rw [HB9.out, if_neg (by unfold bordB; simp [hy0, hyH])])
                      clear hy0 hyH
                      go_wp2_with fail
                      go_meet
                      exact ⟨by rw [HB10.out], by rw [HE9.out]; exact HMD.out⟩
              case rest =>
                obtain ⟨rfl, hme⟩ := hcut
                generalize wc = Wc at *
                have HM1 := Lib.hid hme
                clear hme HMb HM
                go_upto_region 28 with fail
                have HK := Lib.hid (show ∀ W : World, Below Wc.heap.size Wc W → (W.cell? ⟨w.heap.size, 0, none⟩ = some (.int .i64 c.wide) ∧ W.cell? ⟨w.heap.size, 1, none⟩ = some (.int .i64 c.high) ∧ W.cell? ⟨w.heap.size, 2, none⟩ = some (.slice c.A c.piece.length c.c)) from fun W h => ⟨(HM1.out.xc.next h).c 0 _ rfl, (HM1.out.xc.next h).c 1 _ rfl, (HM1.out.xc.next h).c 2 _ rfl⟩)
                have HCC := Lib.hid (show CutAt Wc Wc.heap.size c from HM1.out.c1)
                go_cut [133] from 76 to 149 (fun s wx => s = .bool (decide (y < H c) && sepB c (false, x, y)) ∧ Below Wc.heap.size Wc wx)
                case first =>
                  have hc : Below Wc.heap.size Wc Wc.drew := (Below.refl _ _).drew
                  have hwm : IntKind.i64.wrap ((x : Int) - 1) = ((x : Int) - 1) := IntWalk.i64_in _ (by omega)
                  have hxy := HXY.out
                  by_cases hlt : y < H c
                  · have hlI : (y : Int) < c.high := by omega
                    clear hxy
                    refine wp_region_noPanic ?_
                    refine wp_region_held_drew (S := (fun V => V.cell? ⟨w.heap.size, 0, none⟩ = some (.int .i64 c.wide) ∧ V.cell? ⟨w.heap.size, 1, none⟩ = some (.int .i64 c.high) ∧ V.cell? ⟨w.heap.size, 2, none⟩ = some (.slice c.A c.piece.length c.c))) (by kernel_rfl) ?_ (fun hHeld => ?_)
                    · (try dsimp only); exact HK.out _ hc
                    refine htake (i := 0) (v := ?v21) rfl (by kernel_rfl) (by kernel_rfl) (by kernel_rfl) (fun _ _ _ h => h) (Or.inl ⟨by rfl, ?hy21⟩) (by assumption) ?_
                    case hy21 => (intro w hSw; (try dsimp only at hSw); go_simp; try (with_reducible rfl))
                    try simp only [Act.put, List.setIfInBounds_toArray, List.set_cons_zero, List.set_cons_succ]
                    refine htake (i := 1) (v := ?v22) rfl (by kernel_rfl) (by kernel_rfl) (by kernel_rfl) (fun _ _ _ h => h) (Or.inl ⟨by rfl, ?hy22⟩) (by assumption) ?_
                    case hy22 => (intro w hSw; (try dsimp only at hSw); go_simp; try (with_reducible rfl))
                    try simp only [Act.put, List.setIfInBounds_toArray, List.set_cons_zero, List.set_cons_succ]
                    refine htake (i := 2) (v := ?v23) rfl (by kernel_rfl) (by kernel_rfl) (by kernel_rfl) (fun _ _ _ h => h) (Or.inl ⟨by rfl, ?hy23⟩) (by assumption) ?_
                    case hy23 => (intro w hSw; (try dsimp only at hSw); go_simp; try (with_reducible rfl))
                    try simp only [Act.put, List.setIfInBounds_toArray, List.set_cons_zero, List.set_cons_succ]
                    refine htake (i := 3) (v := ?v24) rfl (by kernel_rfl) (by kernel_rfl) (by kernel_rfl) (fun _ _ _ h => h) (Or.inl ⟨by rfl, ?hy24⟩) (by assumption) ?_
                    case hy24 => (intro w hSw; (try dsimp only at hSw); go_simp; try (with_reducible rfl))
                    try simp only [Act.put, List.setIfInBounds_toArray, List.set_cons_zero, List.set_cons_succ]
                    refine htake (i := 4) (v := ?v25) rfl (by kernel_rfl) (by kernel_rfl) (by kernel_rfl) (fun _ _ _ h => h) (Or.inl ⟨by rfl, ?hy25⟩) (by assumption) ?_
                    case hy25 => (intro w hSw; (try dsimp only at hSw); go_simp; try (with_reducible rfl))
                    try simp only [Act.put, List.setIfInBounds_toArray, List.set_cons_zero, List.set_cons_succ]
                    refine htake (i := 5) (v := ?v26) rfl (by kernel_rfl) (by kernel_rfl) (by kernel_rfl) (fun _ _ _ h => h) (Or.inl ⟨by rfl, ?hy26⟩) (by assumption) ?_
                    case hy26 => (intro w hSw; (try dsimp only at hSw); go_simp; try (with_reducible rfl))
                    try simp only [Act.put, List.setIfInBounds_toArray, List.set_cons_zero, List.set_cons_succ]
                    refine htake (i := 6) (v := ?v27) rfl (by kernel_rfl) (by kernel_rfl) (by kernel_rfl) (fun _ _ _ h => h) (Or.inl ⟨by rfl, ?hy27⟩) (by assumption) ?_
                    case hy27 => (intro w hSw; (try dsimp only at hSw); go_simp; try (with_reducible rfl))
                    try simp only [Act.put, List.setIfInBounds_toArray, List.set_cons_zero, List.set_cons_succ]
                    refine htake (i := 7) (v := ?v28) rfl (by kernel_rfl) (by kernel_rfl) (by kernel_rfl) (fun _ _ _ h => h) (Or.inl ⟨by rfl, ?hy28⟩) (by assumption) ?_
                    case hy28 => (intro w hSw; (try dsimp only at hSw); go_simp; try (with_reducible rfl))
                    try simp only [Act.put, List.setIfInBounds_toArray, List.set_cons_zero, List.set_cons_succ]
                    refine htake (i := 8) (v := ?v29) rfl (by kernel_rfl) (by kernel_rfl) (by kernel_rfl) (fun _ _ _ h => h) (Or.inl ⟨by rfl, ?hy29⟩) (by assumption) ?_
                    case hy29 => (intro w hSw; (try dsimp only at hSw); go_simp; try (with_reducible rfl))
                    try simp only [Act.put, List.setIfInBounds_toArray, List.set_cons_zero, List.set_cons_succ]
                    refine htake (i := 10) (v := ?v30) rfl (by kernel_rfl) (by kernel_rfl) (by kernel_rfl) (fun _ _ _ h => h) (Or.inl ⟨by rfl, ?hy30⟩) (by assumption) ?_
                    case hy30 => (intro w hSw; (try dsimp only at hSw); go_simp; try (with_reducible rfl))
                    try simp only [Act.put, List.setIfInBounds_toArray, List.set_cons_zero, List.set_cons_succ]
                    refine htake (i := 11) (v := ?v31) rfl (by kernel_rfl) (by kernel_rfl) (by kernel_rfl) (fun _ _ _ h => h) (Or.inl ⟨by rfl, ?hy31⟩) (by assumption) ?_
                    case hy31 => (intro w hSw; (try dsimp only at hSw); go_simp; try (with_reducible rfl))
                    try simp only [Act.put, List.setIfInBounds_toArray, List.set_cons_zero, List.set_cons_succ]
                    refine htake (i := 12) (v := ?v32) rfl (by kernel_rfl) (by kernel_rfl) (by kernel_rfl) (fun _ _ _ h => h) (Or.inl ⟨by rfl, ?hy32⟩) (by assumption) ?_
                    case hy32 => (intro w hSw; (try dsimp only at hSw); go_simp; try (with_reducible rfl))
                    try simp only [Act.put, List.setIfInBounds_toArray, List.set_cons_zero, List.set_cons_succ]
                    refine wpAnyH_ready (rs := [9]) (by kernel_rfl) (by simp) ?_
                    refine hcons rfl (fun K hK => ?_) (AllReadyH.nil)
                    go_simp
                    refine (At_any c ((x : Int) - 1) (y : Int) _ OK.out (HCC.out.next hc)).mono ?_; rintro e Vq ⟨rfl, hb⟩; replace hc := hc.trans (hb.mono hc.size); clear hb
                    refine hK.out _ _ ?_ (fun hHeld => ?_)
                    · (try dsimp only); exact HK.out _ hc
                    clear hK K
                    try simp only [Act.put, List.setIfInBounds_toArray, List.set_cons_zero, List.set_cons_succ]
                    refine wpAnyH_ready (rs := [13]) (by kernel_rfl) (by simp) ?_
                    refine hcons rfl (fun K hK => ?_) (AllReadyH.nil)
                    go_simp
                    refine (At_any c (x : Int) (y : Int) _ OK.out (HCC.out.next hc)).mono ?_; rintro e Vr ⟨rfl, hb⟩; replace hc := hc.trans (hb.mono hc.size); clear hb
                    refine hK.out _ _ ?_ (fun hHeld => ?_)
                    · (try dsimp only); exact HK.out _ hc
                    clear hK K
                    try simp only [Act.put, List.setIfInBounds_toArray, List.set_cons_zero, List.set_cons_succ]
                    refine htake (i := 14) (v := ?v33) rfl (by kernel_rfl) (by kernel_rfl) (by kernel_rfl) (fun _ _ _ h => h) (Or.inl ⟨by rfl, ?hy33⟩) (by assumption) ?_
                    case hy33 => (intro w hSw; (try dsimp only at hSw); go_simp; try (with_reducible rfl))
                    try simp only [Act.put, List.setIfInBounds_toArray, List.set_cons_zero, List.set_cons_succ]
                    refine htake (i := 15) (v := ?v34) rfl (by kernel_rfl) (by kernel_rfl) (by kernel_rfl) (fun _ _ _ h => h) (Or.inl ⟨by rfl, ?hy34⟩) (by assumption) ?_
                    case hy34 => (intro w hSw; (try dsimp only at hSw); go_simp; try (with_reducible rfl))
                    try simp only [Act.put, List.setIfInBounds_toArray, List.set_cons_zero, List.set_cons_succ]
                    refine wpAnyH_done (by kernel_rfl) ?_ _
                    refine NoPanic.normal ?_
                    iterate 17 (try clear hHeld)
                    all_goals (go_wp2_with fail; go_meet)
                    all_goals exact ⟨by rw [decide_eq_true hlt, Bool.true_and]; unfold sepB; first | rw [if_pos rfl] | rw [if_neg (by simp)], hc⟩
                  · have hlI : ¬ (y : Int) < c.high := by omega
                    clear hxy
                    refine wp_region_noPanic ?_
                    refine wp_region_held_drew (S := (fun V => V.cell? ⟨w.heap.size, 0, none⟩ = some (.int .i64 c.wide) ∧ V.cell? ⟨w.heap.size, 1, none⟩ = some (.int .i64 c.high) ∧ V.cell? ⟨w.heap.size, 2, none⟩ = some (.slice c.A c.piece.length c.c))) (by kernel_rfl) ?_ (fun hHeld => ?_)
                    · (try dsimp only); exact HK.out _ hc
                    refine htake (i := 0) (v := ?v35) rfl (by kernel_rfl) (by kernel_rfl) (by kernel_rfl) (fun _ _ _ h => h) (Or.inl ⟨by rfl, ?hy35⟩) (by assumption) ?_
                    case hy35 => (intro w hSw; (try dsimp only at hSw); go_simp; try (with_reducible rfl))
                    try simp only [Act.put, List.setIfInBounds_toArray, List.set_cons_zero, List.set_cons_succ]
                    refine htake (i := 1) (v := ?v36) rfl (by kernel_rfl) (by kernel_rfl) (by kernel_rfl) (fun _ _ _ h => h) (Or.inl ⟨by rfl, ?hy36⟩) (by assumption) ?_
                    case hy36 => (intro w hSw; (try dsimp only at hSw); go_simp; try (with_reducible rfl))
                    try simp only [Act.put, List.setIfInBounds_toArray, List.set_cons_zero, List.set_cons_succ]
                    refine htake (i := 2) (v := ?v37) rfl (by kernel_rfl) (by kernel_rfl) (by kernel_rfl) (fun _ _ _ h => h) (Or.inl ⟨by rfl, ?hy37⟩) (by assumption) ?_
                    case hy37 => (intro w hSw; (try dsimp only at hSw); go_simp; try (with_reducible rfl))
                    try simp only [Act.put, List.setIfInBounds_toArray, List.set_cons_zero, List.set_cons_succ]
                    refine htake (i := 3) (v := ?v38) rfl (by kernel_rfl) (by kernel_rfl) (by kernel_rfl) (fun _ _ _ h => h) (Or.inl ⟨by rfl, ?hy38⟩) (by assumption) ?_
                    case hy38 => (intro w hSw; (try dsimp only at hSw); go_simp; try (with_reducible rfl))
                    try simp only [Act.put, List.setIfInBounds_toArray, List.set_cons_zero, List.set_cons_succ]
                    refine htake (i := 4) (v := ?v39) rfl (by kernel_rfl) (by kernel_rfl) (by kernel_rfl) (fun _ _ _ h => h) (Or.inl ⟨by rfl, ?hy39⟩) (by assumption) ?_
                    case hy39 => (intro w hSw; (try dsimp only at hSw); go_simp; try (with_reducible rfl))
                    try simp only [Act.put, List.setIfInBounds_toArray, List.set_cons_zero, List.set_cons_succ]
                    refine htake (i := 5) rfl (by kernel_rfl) (by kernel_rfl) (by kernel_rfl) (fun _ _ _ h => h) (Or.inr ⟨by rfl, rfl⟩) (by assumption) ?_
                    try simp only [Act.put, List.setIfInBounds_toArray, List.set_cons_zero, List.set_cons_succ]
                    refine htake (i := 6) rfl (by kernel_rfl) (by kernel_rfl) (by kernel_rfl) (fun _ _ _ h => h) (Or.inr ⟨by rfl, rfl⟩) (by assumption) ?_
                    try simp only [Act.put, List.setIfInBounds_toArray, List.set_cons_zero, List.set_cons_succ]
                    refine htake (i := 7) rfl (by kernel_rfl) (by kernel_rfl) (by kernel_rfl) (fun _ _ _ h => h) (Or.inr ⟨by rfl, rfl⟩) (by assumption) ?_
                    try simp only [Act.put, List.setIfInBounds_toArray, List.set_cons_zero, List.set_cons_succ]
                    refine htake (i := 8) rfl (by kernel_rfl) (by kernel_rfl) (by kernel_rfl) (fun _ _ _ h => h) (Or.inr ⟨by rfl, rfl⟩) (by assumption) ?_
                    try simp only [Act.put, List.setIfInBounds_toArray, List.set_cons_zero, List.set_cons_succ]
                    refine htake (i := 9) rfl (by kernel_rfl) (by kernel_rfl) (by kernel_rfl) (fun _ _ _ h => h) (Or.inr ⟨by rfl, rfl⟩) (by assumption) ?_
                    try simp only [Act.put, List.setIfInBounds_toArray, List.set_cons_zero, List.set_cons_succ]
                    refine htake (i := 10) rfl (by kernel_rfl) (by kernel_rfl) (by kernel_rfl) (fun _ _ _ h => h) (Or.inr ⟨by rfl, rfl⟩) (by assumption) ?_
                    try simp only [Act.put, List.setIfInBounds_toArray, List.set_cons_zero, List.set_cons_succ]
                    refine htake (i := 11) rfl (by kernel_rfl) (by kernel_rfl) (by kernel_rfl) (fun _ _ _ h => h) (Or.inr ⟨by rfl, rfl⟩) (by assumption) ?_
                    try simp only [Act.put, List.setIfInBounds_toArray, List.set_cons_zero, List.set_cons_succ]
                    refine htake (i := 12) rfl (by kernel_rfl) (by kernel_rfl) (by kernel_rfl) (fun _ _ _ h => h) (Or.inr ⟨by rfl, rfl⟩) (by assumption) ?_
                    try simp only [Act.put, List.setIfInBounds_toArray, List.set_cons_zero, List.set_cons_succ]
                    refine htake (i := 13) rfl (by kernel_rfl) (by kernel_rfl) (by kernel_rfl) (fun _ _ _ h => h) (Or.inr ⟨by rfl, rfl⟩) (by assumption) ?_
                    try simp only [Act.put, List.setIfInBounds_toArray, List.set_cons_zero, List.set_cons_succ]
                    refine htake (i := 14) rfl (by kernel_rfl) (by kernel_rfl) (by kernel_rfl) (fun _ _ _ h => h) (Or.inr ⟨by rfl, rfl⟩) (by assumption) ?_
                    try simp only [Act.put, List.setIfInBounds_toArray, List.set_cons_zero, List.set_cons_succ]
                    refine htake (i := 15) (v := ?v40) rfl (by kernel_rfl) (by kernel_rfl) (by kernel_rfl) (fun _ _ _ h => h) (Or.inl ⟨by rfl, ?hy40⟩) (by assumption) ?_
                    case hy40 => (intro w hSw; (try dsimp only at hSw); go_simp; try (with_reducible rfl))
                    try simp only [Act.put, List.setIfInBounds_toArray, List.set_cons_zero, List.set_cons_succ]
                    refine wpAnyH_done (by kernel_rfl) ?_ _
                    refine NoPanic.normal ?_
                    iterate 17 (try clear hHeld)
                    all_goals (go_wp2_with fail; go_meet)
                    all_goals exact ⟨by rw [decide_eq_false hlt, Bool.false_and], hc⟩
                case rest =>
                  obtain ⟨rfl, hbc⟩ := hcut
                  generalize wc = Wb at *
                  have HM1b := Lib.hid (HM1.out.next hbc)
                  clear hbc HK HCC
                  obtain ⟨E2, hE2⟩ : ∃ E, E = (if y < H c ∧ sepB c (false, x, y) = true then [(false, x, y)] else []) ++ E1 := ⟨_, rfl⟩
                  obtain ⟨B2, hB2⟩ : ∃ E, E = (if y < H c ∧ (sepB c (false, x, y) && bordB c (false, x, y)) = true then [(false, x, y)] else []) ++ B1 := ⟨_, rfl⟩
                  have HE2 := Lib.hid hE2
                  have HB2 := Lib.hid hB2
                  have HLE2 := Lib.hid (show B2.length ≤ B1.length + 1 ∧ E2.length ≤ E1.length + 1 from by
                    rw [hE2, hB2, List.length_append, List.length_append]
                    constructor <;> split <;> simp <;> omega)
                  clear hE2 hB2
                  cases hsp : (decide (y < H c) && sepB c (false, x, y))
                  · have hE : E2 = E1 := by
                      rw [HE2.out, if_neg (fun h => by rw [decide_eq_true h.1, h.2] at hsp; cases hsp)]; rfl
                    have hB : B2 = B1 := by
                      rw [HB2.out, if_neg (fun h => by rw [Bool.and_eq_true] at h; rw [decide_eq_true h.1, h.2.1] at hsp; cases hsp)]; rfl
                    have HE9 := Lib.hid hE
                    have HB9 := Lib.hid hB
                    clear hE hB hsp
                    have HMN := Lib.hid (show EuC c g5 [.int .i64 ln, .int .i64 u1, .int .i64 u2, .int .i64 u3] gp ge bu bp gu gp w (sepL c (y * (W c + 1) + (x + 1))) _ from by
                      have h1 : sepL c (y * (W c + 1) + (x + 1)) = E2 := by
                        rw [HE2.out, HE1.out, HEE.out]
                        exact HSA.out
                      rw [h1, HE9.out]; exact HM1b.out)
                    have HBF := Lib.hid (show B2.length = (bordL c (y * (W c + 1) + (x + 1))).length from by
                      have h1 : bordL c (y * (W c + 1) + (x + 1)) = B2 := by
                        rw [HB2.out, HB1.out, HBE.out]
                        exact HBA.out
                      rw [h1])
                    clear hxt hx
                    go_wp2_with fail
                    refine endM (by kernel_rfl) (by kernel_rfl) ⟨x + 1, by omega, slotF_at rfl, by rw [slotF_at rfl, ← HBF.out, HB9.out]; first | done | rfl | (rw [List.length_cons]; push_cast; rfl), HMN.out⟩ ?_
                    show W c + 1 - (intOf (slotF _ 15)).toNat < W c + 1 - (intOf (fx 15)).toNat
                    rw [slotF_at rfl, HE15.out]
                    have := HMUX.out
                    simp [intOf]
                    omega
                  · rw [Bool.and_eq_true, decide_eq_true_eq] at hsp
                    have hE : E2 = (false, x, y) :: E1 := by rw [HE2.out, if_pos hsp]; rfl
                    have hB : B2 = if bordB c (false, x, y) = true then (false, x, y) :: B1 else B1 := by
                      rw [HB2.out, hsp.2, Bool.true_and]
                      by_cases hq : bordB c (false, x, y) = true
                      · rw [if_pos ⟨hsp.1, hq⟩, if_pos hq]; rfl
                      · rw [if_neg (fun h => hq h.2), if_neg hq]; rfl
                    have HE9 := Lib.hid hE
                    have HB9 := Lib.hid hB
                    have hxy := HXY.out
                    have hok : okE (W c) (H c) (false, x, y) := by unfold okE; simp only [Bool.false_eq_true, if_false]; omega
                    obtain ⟨ow2, how2⟩ : ∃ n : Nat, n = own + (W c + 1) := ⟨_, rfl⟩
                    have hpt : ptE (W c) (false, x, y) = (own, ow2) := by
                      unfold ptE
                      rw [how2, HOWN.out]
                      unfold ptI
                      dsimp only
                      refine Prod.ext rfl ?_
                      dsimp only
                      rw [if_neg (by simp), Nat.add_mul, Nat.one_mul]; omega
                    have hpl := ptE_lt hok
                    rw [hpt] at hpl
                    have hw7 : IntKind.i64.wrap ((own : Int) + wd) = (ow2 : Int) := by
                      have : (own : Int) + wd = (ow2 : Int) := by rw [how2]; push_cast; omega
                      rw [this]; exact IntWalk.i64_in _ (by have := hpl.2; have := HPN.out; unfold ptN at this; omega)
                    have HPT := Lib.hid hpt
                    have HPL := Lib.hid (show own < ptN c ∧ ow2 < ptN c from hpl)
                    have hbn := HBN.out
                    have hbn1 := HLE1.out
                    have hw8 : IntKind.i64.wrap (((B1.length : Nat) : Int) + 1) = (((B1.length + 1 : Nat)) : Int) := by
                      push_cast; exact IntWalk.i64_in _ (by omega)
                    have hmb : 0 ≤ ((E1.length : Nat) : Int) ∧ ((E1.length : Nat) : Int) ≤ 100000 := by omega
                    have HMB := Lib.hid hmb
                    have hvb : ((x : Int) = 0 ↔ x = 0) ∧ ((x : Int) = c.wide ↔ x = W c) := by omega
                    have HVB := Lib.hid hvb
                    clear hE hB hpt hpl hok how2 hsp hmb hxy hvb
                    go_wp2_with fail
                    refine (draw_any gp ge bu bp gu gp (ptN c) own ow2 _ _ _ Wb HM1b.out.e HPL.out.1 HPL.out.2 (by rw [HPN.out]; omega) HMB.out).mono ?_
                    rintro e Vd ⟨⟨vd, rfl⟩, hed, hbd⟩
                    have HMD := Lib.hid (show EuC c g5 [.int .i64 ln, .int .i64 u1, .int .i64 u2, .int .i64 u3] gp ge bu bp gu gp w ((false, x, y) :: E1) Vd from HM1b.out.draw (d := (false, x, y)) (by rw [HPT.out]; exact hed) hbd)
                    clear hed hbd hw7
                    have c0 := HMD.out.xc.c 0 _ rfl
                    have c1 := HMD.out.xc.c 1 _ rfl
                    by_cases hy0 : x = 0
                    · have e1 : ((x : Int) == 0) = true := by simp [hy0]
                      have HB10 := Lib.hid (show B2 = (false, x, y) :: B1 from by rw [HB9.out, if_pos (by unfold bordB; simp [hy0])])
                      clear hy0
                      have HMN := Lib.hid (show EuC c g5 [.int .i64 ln, .int .i64 u1, .int .i64 u2, .int .i64 u3] gp ge bu bp gu gp w (sepL c (y * (W c + 1) + (x + 1))) _ from by
                        have h1 : sepL c (y * (W c + 1) + (x + 1)) = E2 := by
                          rw [HE2.out, HE1.out, HEE.out]
                          exact HSA.out
                        rw [h1, HE9.out]; exact HMD.out)
                      have HBF := Lib.hid (show B2.length = (bordL c (y * (W c + 1) + (x + 1))).length from by
                        have h1 : bordL c (y * (W c + 1) + (x + 1)) = B2 := by
                          rw [HB2.out, HB1.out, HBE.out]
                          exact HBA.out
                        rw [h1])
                      clear hxt hx
                      go_wp2_with fail
                      refine endM (by kernel_rfl) (by kernel_rfl) ⟨x + 1, by omega, slotF_at rfl, by rw [slotF_at rfl, ← HBF.out, HB10.out]; first | done | rfl | (rw [List.length_cons]; push_cast; rfl), HMN.out⟩ ?_
                      show W c + 1 - (intOf (slotF _ 15)).toNat < W c + 1 - (intOf (fx 15)).toNat
                      rw [slotF_at rfl, HE15.out]
                      have := HMUX.out
                      simp [intOf]
                      omega
                    · have e1 : ((x : Int) == 0) = false := by rw [beq_eq_false_iff_ne]; exact fun e => hy0 (HVB.out.1.1 e)
                      by_cases hyH : x = W c
                      · have e2 : ((x : Int) == c.wide) = true := by rw [beq_iff_eq]; exact HVB.out.2.2 hyH
                        have HB10 := Lib.hid (show B2 = (false, x, y) :: B1 from by rw [HB9.out, if_pos (by unfold bordB; simp [hyH])])
                        clear hy0 hyH
                        have HMN := Lib.hid (show EuC c g5 [.int .i64 ln, .int .i64 u1, .int .i64 u2, .int .i64 u3] gp ge bu bp gu gp w (sepL c (y * (W c + 1) + (x + 1))) _ from by
                          have h1 : sepL c (y * (W c + 1) + (x + 1)) = E2 := by
                            rw [HE2.out, HE1.out, HEE.out]
                            exact HSA.out
                          rw [h1, HE9.out]; exact HMD.out)
                        have HBF := Lib.hid (show B2.length = (bordL c (y * (W c + 1) + (x + 1))).length from by
                          have h1 : bordL c (y * (W c + 1) + (x + 1)) = B2 := by
                            rw [HB2.out, HB1.out, HBE.out]
                            exact HBA.out
                          rw [h1])
                        clear hxt hx
                        go_wp2_with fail
                        refine endM (by kernel_rfl) (by kernel_rfl) ⟨x + 1, by omega, slotF_at rfl, by rw [slotF_at rfl, ← HBF.out, HB10.out]; first | done | rfl | (rw [List.length_cons]; push_cast; rfl), HMN.out⟩ ?_
                        show W c + 1 - (intOf (slotF _ 15)).toNat < W c + 1 - (intOf (fx 15)).toNat
                        rw [slotF_at rfl, HE15.out]
                        have := HMUX.out
                        simp [intOf]
                        omega
                      · have e2 : ((x : Int) == c.wide) = false := by rw [beq_eq_false_iff_ne]; exact fun e => hyH (HVB.out.2.1 e)
                        have HB10 := Lib.hid (show B2 = B1 from by rw [HB9.out, if_neg (by unfold bordB; simp [hy0, hyH])])
                        clear hy0 hyH
                        have HMN := Lib.hid (show EuC c g5 [.int .i64 ln, .int .i64 u1, .int .i64 u2, .int .i64 u3] gp ge bu bp gu gp w (sepL c (y * (W c + 1) + (x + 1))) _ from by
                          have h1 : sepL c (y * (W c + 1) + (x + 1)) = E2 := by
                            rw [HE2.out, HE1.out, HEE.out]
                            exact HSA.out
                          rw [h1, HE9.out]; exact HMD.out)
                        have HBF := Lib.hid (show B2.length = (bordL c (y * (W c + 1) + (x + 1))).length from by
                          have h1 : bordL c (y * (W c + 1) + (x + 1)) = B2 := by
                            rw [HB2.out, HB1.out, HBE.out]
                            exact HBA.out
                          rw [h1])
                        clear hxt hx
                        go_wp2_with fail
                        refine endM (by kernel_rfl) (by kernel_rfl) ⟨x + 1, by omega, slotF_at rfl, by rw [slotF_at rfl, ← HBF.out, HB10.out]; first | done | rfl | (rw [List.length_cons]; push_cast; rfl), HMN.out⟩ ?_
                        show W c + 1 - (intOf (slotF _ 15)).toNat < W c + 1 - (intOf (fx 15)).toNat
                        rw [slotF_at rfl, HE15.out]
                        have := HMUX.out
                        simp [intOf]
                        omega
          · have hxI : ¬ (x : Int) ≤ c.wide := by have := (WH_eq OK.out).1; omega
            have hxe : x = W c + 1 := by omega
            have hk : y * (W c + 1) + x = (y + 1) * (W c + 1) := by rw [Nat.add_mul, Nat.one_mul, hxe]
            have HMY := Lib.hid (show EuC c g5 [.int .i64 ln, .int .i64 u1, .int .i64 u2, .int .i64 u3] gp ge bu bp gu gp w (sepL c ((y + 1) * (W c + 1))) Vx from by rw [← hk]; exact HM.out)
            rw [hk]
            clear hk hxe hx hxt HM
            go_wp2_with fail
            refine endM (by kernel_rfl) (by kernel_rfl) ⟨y + 1, by omega, slotF_at rfl, slotF_at rfl, HMY.out⟩ ?_
            show H c + 1 - (intOf (slotF _ 14)).toNat < H c + 1 - (intOf (fy 14)).toNat
            rw [slotF_at rfl, HE14.out]
            have := HMU.out
            simp [intOf]
            omega
        · have hyI : ¬ (y : Int) ≤ c.high := by have := (WH_eq OK.out).2; omega
          have hye : y = H c + 1 := by omega
          have hk : y * (W c + 1) = ptN c := by rw [hye, Nat.mul_comm]; rfl
          rw [hk] at HM ⊢
          clear hk hye hy hyt
          have hu := HM.out.e.xp.c 0 _ rfl
          obtain ⟨U, hU⟩ : ∃ U, U = usedB ((sepL c (ptN c)).map (ptE (W c))) := ⟨_, rfl⟩
          obtain ⟨L, hL⟩ : ∃ L, L = lab ((sepL c (ptN c)).map (ptE (W c))) := ⟨_, rfl⟩
          have hec := HEC.out
          have hsc := HSC.out
          have hbc := HBC.out
          rw [← hU, ← hL] at hec
          have HUU := Lib.hid (show BBlk Vy gu (ptN c) U from by rw [hU]; exact HM.out.e.u)
          have HLL := Lib.hid (show IBlk Vy gp (ptN c) (lI L) from by rw [hL]; exact HM.out.e.p)
          have HXE := Lib.hid (show Bx Vy ge [.int .i64 ((sepL c (ptN c)).length : Int)] from HM.out.e.xe)
          have HXU := Lib.hid HM.out.e.xu
          have HXP := Lib.hid HM.out.e.xp
          have HX5 := Lib.hid HM.out.x5
          have HBV := Lib.hid HM.out.b
          have hpn := HPN.out
          obtain ⟨n, hn⟩ : ∃ n, n = ptN c := ⟨_, rfl⟩
          have hn1 : 1 ≤ n ∧ n ≤ 169 := by omega
          rw [← hn] at hec hsc hbc HUU HLL HXE HXU HXP hu ⊢
          obtain ⟨mE, hmE⟩ : ∃ m : Nat, m = (sepL c n).length := ⟨_, rfl⟩
          obtain ⟨bE, hbE⟩ : ∃ m : Nat, m = (bordL c n).length := ⟨_, rfl⟩
          rw [← hmE] at hec hsc HXE
          rw [← hbE] at hbc ⊢
          have HEC2 := Lib.hid (show nn = (mE : Int) - sumTo (fun i => b2i (U i)) n + sumTo (fun i => b2i (U i && (L i == i))) n from by rw [HNN.out]; exact hec)
          have HSC2 := Lib.hid (show (mE : Int) = ln + (bE : Int) ∧ (bE : Int) = 2 * (c.wide + c.high) from by omega)
          clear hU hL hec hsc hbc hpn hn hmE hbE HM
          go_wp2_with fail
          refine wp_loopM euP (fun f V => ∃ i : Nat, i ≤ n ∧ f 152 = .int .i64 (i : Int) ∧ f 17 = .int .i64 (sumTo (fun j => b2i (U j)) i) ∧ f 18 = .int .i64 (sumTo (fun j => b2i (U j && (L j == j))) i) ∧ V = Vy) (fun f _ => n - (intOf (f 152)).toNat) (by kernel_rfl) ⟨0, by omega, slotF_at rfl, slotF_at rfl, slotF_at rfl, rfl⟩ ?_
          clear hu
          intro fp V hrel
          obtain ⟨i, hi, e152, e17, e18, rfl⟩ := hrel
          simp only [euP, mixF, e152, e17, e18]
          have HE152 := Lib.hid e152
          clear e152 e17 e18
          have b1 := sumTo_bd (f := fun j => b2i (U j)) (B := 1) (fun k => b2i_bdE _) i
          have b2 := sumTo_bd (f := fun j => b2i (U j && (L j == j))) (B := 1) (fun k => b2i_bdE _) i
          obtain ⟨pt, hpt⟩ : ∃ x, x = sumTo (fun j => b2i (U j)) i := ⟨_, rfl⟩
          obtain ⟨pr, hpr⟩ : ∃ x, x = sumTo (fun j => b2i (U j && (L j == j))) i := ⟨_, rfl⟩
          rw [← hpt] at b1 ⊢
          rw [← hpr] at b2 ⊢
          have HP1 := Lib.hid hpt
          have HP2 := Lib.hid hpr
          clear hpt hpr
          by_cases hin : i < n
          · have hiI : (i : Int) < (n : Int) := by omega
            have hwi : IntKind.i64.wrap ((i : Int) + 1) = (i : Int) + 1 := IntWalk.i64_in _ (by omega)
            have hw5 : IntKind.i64.wrap (pt + 1) = pt + 1 := IntWalk.i64_in _ (by omega)
            have hw6 : IntKind.i64.wrap (pr + 1) = pr + 1 := IntWalk.i64_in _ (by omega)
            have HMU := Lib.hid (show n - (i + 1) < n - i from by omega)
            have x0 := HXU.out.c 0 _ rfl
            have x1 := HXP.out.c 0 _ rfl
            have y0 := HUU.out.cell i hin
            have z0 := HLL.out.cell i hin
            unfold lI at z0
            have HS1 := Lib.hid (show sumTo (fun j => b2i (U j)) (i + 1) = pt + b2i (U i) from by rw [HP1.out]; rfl)
            have HS2 := Lib.hid (show sumTo (fun j => b2i (U j && (L j == j))) (i + 1) = pr + b2i (U i && (L i == i)) from by rw [HP2.out]; rfl)
            cases hUi : U i
            · rw [hUi] at y0 HS1 HS2
              have HT1 := Lib.hid (show sumTo (fun j => b2i (U j)) (i + 1) = pt from by rw [HS1.out]; simp [b2i])
              have HT2 := Lib.hid (show sumTo (fun j => b2i (U j && (L j == j))) (i + 1) = pr from by rw [HS2.out]; simp [b2i])
              clear hUi
              go_wp2_with fail
              refine endM (by kernel_rfl) (by kernel_rfl) ⟨i + 1, by omega, slotF_at rfl, by rw [slotF_at rfl, HT1.out], by rw [slotF_at rfl, HT2.out], rfl⟩ ?_
              show n - (intOf (slotF _ 152)).toNat < n - (intOf (fp 152)).toNat
              rw [slotF_at rfl, HE152.out]
              have := HMU.out
              simp [intOf]
              omega
            · rw [hUi] at y0 HS1 HS2
              have HT1 := Lib.hid (show sumTo (fun j => b2i (U j)) (i + 1) = pt + 1 from by rw [HS1.out]; simp [b2i])
              by_cases hli : L i = i
              · have e1 : (((L i : Nat) : Int) == (i : Int)) = true := by simp [hli]
                have HT2 := Lib.hid (show sumTo (fun j => b2i (U j && (L j == j))) (i + 1) = pr + 1 from by rw [HS2.out, hli]; simp [b2i])
                clear hUi hli
                go_wp2_with fail
                refine endM (by kernel_rfl) (by kernel_rfl) ⟨i + 1, by omega, slotF_at rfl, by rw [slotF_at rfl, HT1.out], by rw [slotF_at rfl, HT2.out], rfl⟩ ?_
                show n - (intOf (slotF _ 152)).toNat < n - (intOf (fp 152)).toNat
                rw [slotF_at rfl, HE152.out]
                have := HMU.out
                simp [intOf]
                omega
              · have e1 : (((L i : Nat) : Int) == (i : Int)) = false := by simp; omega
                have HT2 := Lib.hid (show sumTo (fun j => b2i (U j && (L j == j))) (i + 1) = pr from by rw [HS2.out]; simp [b2i, hli])
                clear hUi hli
                go_wp2_with fail
                refine endM (by kernel_rfl) (by kernel_rfl) ⟨i + 1, by omega, slotF_at rfl, by rw [slotF_at rfl, HT1.out], by rw [slotF_at rfl, HT2.out], rfl⟩ ?_
                show n - (intOf (slotF _ 152)).toNat < n - (intOf (fp 152)).toNat
                rw [slotF_at rfl, HE152.out]
                have := HMU.out
                simp [intOf]
                omega
          · have hiI : ¬ (i : Int) < (n : Int) := by omega
            have hie : i = n := by omega
            have HEC3 := Lib.hid (show nn = (mE : Int) - pt + pr from by rw [HP1.out, HP2.out, hie]; exact HEC2.out)
            have hf := HF.out
            have hsc := HSC2.out
            have x0 := HXE.out.c 0 _ rfl
            have l0 := HX5.out.c 0 _ rfl
            have l1 := HX5.out.c 1 _ rfl
            have l2 := HX5.out.c 2 _ rfl
            have l3 := HX5.out.c 3 _ rfl
            have hwA : IntKind.i64.wrap ((mE : Int) - (bE : Int)) = ln := by
              have : (mE : Int) - (bE : Int) = ln := by omega
              rw [this]; exact IntWalk.i64_in _ (by omega)
            have hwB : IntKind.i64.wrap ((mE : Int) - pt) = (mE : Int) - pt := IntWalk.i64_in _ (by omega)
            have hwC : IntKind.i64.wrap ((mE : Int) - pt + pr) = nn := by
              rw [← HEC3.out]; exact IntWalk.i64_in _ (by have := HEC3.out; omega)
            have hwD : IntKind.i64.wrap (2 * ln) = 2 * ln := IntWalk.i64_in _ (by omega)
            have hd1 : 0 ≤ u1 := by omega
            have hd2 : 0 ≤ u2 := by omega
            have hd3 : u2 ≤ 2 * ln := by omega
            have hd4 : u3 ≤ (bE : Int) := by omega
            clear hf hsc hie hi hin b1 b2
            go_wp2_with fail
            refine (awake_any V).mono ?_
            rintro e Vz ⟨rfl, hb⟩
            go_wp2_with fail
            go_ret
            exact ⟨rfl, HBV.out.trans (hb.mono HBV.out.size)⟩
    · have hl : linesS c = (0, 0, 0, 0) := by unfold linesS; rw [if_neg (by rw [HCE.out]; exact h0)]
      rw [hl, HCE.out]
      dsimp only
      have HEQ := lines_eql 0 0 0 0
      have e1 : ((checkS c).2 == 0) = false := by simp [h0]
      have e2 : ((checkS c).2 == (checkS c).2) = true := by simp
      generalize (checkS c).1 = n0 at *
      generalize (checkS c).2 = ee at *
      clear h0 hl HCE
      have hb := nxA V3 (.cells #[.int .i64 0, .int .i64 0, .int .i64 0, .int .i64 0] 39)
      replace HB := Lib.hid (HB.out.trans (hb.mono HB.out.size))
      clear hb
      go_wp2_with fail
      refine (awake_any _).mono ?_
      rintro e V5 ⟨rfl, hb⟩
      go_wp2_with fail
      go_ret
      exact ⟨rfl, HB.out.trans (hb.mono HB.out.size)⟩
end Go.Proofs.Ytjlicbdnppodgaa
