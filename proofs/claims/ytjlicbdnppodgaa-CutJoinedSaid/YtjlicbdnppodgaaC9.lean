import Derived.Test.YtjlicbdnppodgaaA3
import Derived.Test.YtjlicbdnppodgaaJoinL
import Derived.Test.YtjlicbdnppodgaaP11F
import Derived.BigQuiet
namespace Go.Proofs.Ytjlicbdnppodgaa
open Go.RowKit
/-! The law CutJoined, walked. -/
def jmA : List (Option Nat) := [none, none, none, none, none, none, some 6, none, none, none, none, none, none, none, none, none, none, none, none, none, none, none, none, some 23, none, none, none, none, none, none, none, none, none, none, none, none, none, none, none, none, none, none, none, none, none, none, none, none, none, none, none, none, none, none, none, none, none, none, none, none, none, none, none, none, none, none, none, none, none, none, none, none, none, none, none, none, none, none, none, none, none, none, none, none, none, none, none, none, none, none, none, none, none, none, none, none, none, none, none, none, none, none, none, none, none, none, none, none, none, none, none, none, none, none, none, none, none, none, none, none, none, none, none, none, none, none, none, none, none, none, none, none, none, none, none, none, none, none, none, none, none, none, none, none, none, none, none, none, none, none, none, none, none, none, none, none, none, none, none, none, none, none, none, none, none, none, none, none, none, none, none, none, none, none, none, none, none, none, none, none, none, none, none, none, none, none, some 186, some 187, some 188, some 189, some 190, some 191, some 192, some 193, some 194, some 195, some 196, some 197, some 198, some 199, some 200, some 201, some 202, some 203, some 204, some 205, none, none, none, none, none, none, none, none, none, none, none, none, none, none, none, none, none, none, none, none, none, none, none, none, none, none, none, none, none, none, none, none, none, none, none, none, none, none, none, none, none, none, none, none, none, none, none, none, none, none, none, none, none, none, none, none, none, none, none, none, none, none, none, none, none, none, none, none, none, none, none, none, none, none, none, none, none, none, none, none, none, none, none, none, none, none, none, none, none, none, none, none, none, none, none, none, none, none, none, none, none, none]
def jmB : List (Option Nat) := [none, none, none, none, none, none, some 6, none, none, none, none, none, none, none, none, none, none, none, none, none, none, none, none, none, some 24, some 25, some 26, some 27, some 28, some 29, none, some 31, none, some 33, none, none, none, none, none, none, none, none, none, none, none, none, none, none, none, none, none, none, none, none, none, none, none, none, none, none, none, none, none, none, none, none, none, none, none, none, none, none, none, none, none, none, none, none, none, none, none, none, none, none, none, none, none, none, none, none, none, none, none, none, none, none, none, none, none, none, none, none, none, none, none, none, none, none, none, none, none, none, none, none, none, none, none, none, none, none, none, none, none, none, none, none, none, none, none, none, none, none, none, none, none, none, none, none, none, none, none, none, none, none, none, none, none, none, none, none, none, none, none, none, none, none, none, none, none, none, none, none, none, none, none, none, none, none, none, none, none, none, none, none, none, none, none, none, none, none, none, none, none, none, none, none, none, none, none, none, none, none, none, none, none, none, none, none, none, none, none, none, none, none, none, none, some 206, some 207, some 208, some 209, some 210, some 211, some 212, some 213, some 214, some 215, some 216, some 217, some 218, some 219, some 220, some 221, some 222, some 223, some 224, some 225, some 226, some 227, some 228, some 229, some 230, some 231, some 232, some 233, some 234, some 235, some 236, some 237, some 238, some 239, some 240, some 241, some 242, some 243, some 244, some 245, some 246, some 247, some 248, some 249, some 250, some 251, some 252, some 253, some 254, some 255, some 256, some 257, some 258, some 259, some 260, some 261, some 262, some 263, some 264, some 265, some 266, some 267, some 268, some 269, some 270, some 271, some 272, some 273, some 274, some 275, some 276, some 277, some 278, some 279, some 280, some 281, some 282, some 283, some 284, some 285, some 286, some 287, some 288, some 289, some 290, some 291, some 292, some 293, some 294, some 295, some 296, some 297, some 298, some 299, some 300, some 301, some 302, some 303, some 304, some 305, some 306, none]
def jmC : List (Option Nat) := [none, none, none, none, none, none, none, none, none, none, none, none, none, none, none, none, none, none, none, none, none, none, none, none, none, none, some 26, some 27, none, none, none, none, none, none, none, none, none, none, none, none, none, none, none, none, none, none, none, none, none, none, none, none, none, none, none, none, none, none, none, none, none, none, none, none, none, none, none, none, none, none, none, none, none, none, none, none, none, none, none, none, none, none, none, none, none, none, none, none, none, none, none, none, none, none, none, none, none, none, none, none, none, none, none, none, none, none, none, none, none, none, none, none, none, none, none, none, none, none, none, none, none, none, none, none, none, none, none, none, none, none, none, none, none, none, none, none, none, none, none, none, none, none, none, none, none, none, none, none, none, none, none, none, none, none, none, none, none, none, none, none, none, none, none, none, none, none, none, none, none, none, none, none, none, none, none, none, none, none, none, none, none, none, none, none, none, none, none, none, none, none, none, none, none, none, none, none, none, none, none, none, none, none, none, none, none, none, none, none, none, none, none, none, none, none, some 214, some 215, some 216, some 217, some 218, some 219, some 220, some 221, some 222, some 223, some 224, some 225, some 226, some 227, some 228, some 229, some 230, some 231, some 232, some 233, some 234, some 235, some 236, some 237, some 238, some 239, some 240, some 241, some 242, some 243, some 244, some 245, some 246, some 247, some 248, some 249, some 250, some 251, some 252, some 253, some 254, some 255, some 256, some 257, some 258, some 259, none, none, none, none, none, none, none, none, none, none, none, none, none, none, none, none, none, none, none, none, none, none, none, none, none, none, none, none, none, none, none, none, none, none, none, none, none, none, none, none, none, none, none, none, none, none, none, none]
def jmD : List (Option Nat) := [none, none, none, none, none, none, some 6, none, none, none, none, none, none, none, none, none, none, none, none, none, none, none, none, none, none, none, none, none, none, none, none, some 31, none, none, none, none, none, none, none, none, none, none, none, none, none, none, none, none, none, none, none, none, none, none, none, none, none, none, none, none, none, none, none, none, none, none, none, none, none, none, none, none, none, none, none, none, none, none, none, none, none, none, none, none, none, none, none, none, none, none, none, none, none, none, none, none, none, none, none, none, none, none, none, none, none, none, none, none, none, none, none, none, none, none, none, none, none, none, none, none, none, none, none, none, none, none, none, none, none, none, none, none, none, none, none, none, none, none, none, none, none, none, none, none, none, none, none, none, none, none, none, none, none, none, none, none, none, none, none, none, none, none, none, none, none, none, none, none, none, none, none, none, none, none, none, none, none, none, none, none, none, none, none, none, none, none, none, none, none, none, none, none, none, none, none, none, none, none, none, none, none, none, none, none, none, none, none, none, none, none, none, none, none, none, none, none, none, none, none, none, none, none, none, none, none, none, none, none, none, none, none, none, none, none, none, none, none, none, none, none, none, none, none, none, none, none, none, none, none, none, none, none, none, none, none, none, none, none, none, none, none, none, none, none, none, none, none, none, none, none, none, none, some 272, some 273, some 274, some 275, some 276, some 277, some 278, some 279, some 280, some 281, some 282, some 283, some 284, some 285, some 286, some 287, some 288, some 289, some 290, some 291, some 292, some 293, some 294, some 295, some 296, some 297, some 298, some 299, none, none, none, none, none, none, none, none]
def jmE : List (Option Nat) := [none, none, none, none, none, none, some 6, none, none, none, none, none, none, none, none, none, none, none, none, none, none, none, none, none, none, none, none, none, none, none, none, none, none, some 33, none, none, none, none, none, none, none, none, none, none, none, none, none, none, none, none, none, none, none, none, none, none, none, none, none, none, none, none, none, none, none, none, none, none, none, none, none, none, none, none, none, none, none, none, none, none, none, none, none, none, none, none, none, none, none, none, none, none, none, none, none, none, none, none, none, none, none, none, none, none, none, none, none, none, none, none, none, none, none, none, none, none, none, none, none, none, none, none, none, none, none, none, none, none, none, none, none, none, none, none, none, none, none, none, none, none, none, none, none, none, none, none, none, none, none, none, none, none, none, none, none, none, none, none, none, none, none, none, none, none, none, none, none, none, none, none, none, none, none, none, none, none, none, none, none, none, none, none, none, none, none, none, none, none, none, none, none, none, none, none, none, none, none, none, none, none, none, none, none, none, none, none, none, none, none, none, none, none, none, none, none, none, none, none, none, none, none, none, none, none, none, none, none, none, none, none, none, none, none, none, none, none, none, none, none, none, none, none, none, none, none, none, none, none, none, none, none, none, none, none, none, none, none, none, none, none, none, none, none, none, none, none, none, none, none, none, none, none, none, none, none, none, none, none, none, none, none, none, none, none, none, none, none, none, none, none, none, none, none, none, none, none, none, none, none, none, none, some 301, some 302, some 303, some 304, some 305, some 306, none]
set_option maxRecDepth 100000 in
set_option maxHeartbeats 8000000 in
theorem CutJoined_walk (c : Cut) (a b : Int) (w : World) (hc : CutAt w w.heap.size c) (ha : I64 a) (hb : I64 b) : Calls Try.prog 11 #[.agg #[.int .i64 c.wide, .int .i64 c.high, .slice c.A c.piece.length c.c], .int .i64 a, .int .i64 b] w (Ret (.bool true) w) := by
  have HPA := Lib.hid ha
  have HPB := Lib.hid hb
  clear ha hb
  have hb := nxA w (.cells #[.int .i64 c.wide, .int .i64 c.high, .slice c.A c.piece.length c.c] 24)
  have HX := Lib.hid (Bx.new w #[.int .i64 c.wide, .int .i64 c.high, .slice c.A c.piece.length c.c] 24)
  have HC := Lib.hid (hc.next hb)
  have HB := Lib.hid hb
  clear hc hb
  go_enter Try.func11, Try.ntmps11
  go_upto_region 1 with fail
  generalize (w.alloc (.cells #[.int .i64 c.wide, .int .i64 c.high, .slice c.A c.piece.length c.c] 24)) = V0 at *
  have c0 := HX.out.c 0 _ rfl
  have c1 := HX.out.c 1 _ rfl
  have c2 := HX.out.c 2 _ rfl
  go_wp2_with fail
  refine (Cut_any c V0 HC.out).mono ?_
  rintro e V1 ⟨rfl, hb⟩
  replace HX := Lib.hid (HX.out.next hb)
  replace HC := Lib.hid (HC.out.next hb)
  replace HB := Lib.hid (HB.out.trans (hb.mono HB.out.size))
  clear hb c0 c1 c2
  cases hcs : cutS c
  · clear hcs
    go_wp2_with fail
    refine (awake_any V1).mono ?_
    rintro e V2 ⟨rfl, hb⟩
    go_wp2_with fail
    go_ret
    exact ⟨rfl, HB.out.trans (hb.mono HB.out.size)⟩
  · have OK := Lib.hid ((okc_iff c).1 hcs)
    clear hcs
    have c0 := HX.out.c 0 _ rfl
    have c1 := HX.out.c 1 _ rfl
    have c2 := HX.out.c 2 _ rfl
    go_wp2_with fail
    refine (JoinP_any c a b V1 HPA.out HPB.out HC.out).mono ?_
    rintro e V2 ⟨J, A, k1, hJ, rfl, hcj, hb⟩
    have HJE := Lib.hid hJ
    have HCJ := Lib.hid hcj
    clear hJ hcj
    replace HX := Lib.hid (HX.out.next hb)
    replace HC := Lib.hid (HC.out.next hb)
    replace HB := Lib.hid (HB.out.trans (hb.mono HB.out.size))
    clear hb c0 c1 c2
    have hb := nxA V2 (.cells #[.int .i64 J.wide, .int .i64 J.high, .slice J.A J.piece.length J.c] 24)
    have hx := Bx.new V2 #[.int .i64 J.wide, .int .i64 J.high, .slice J.A J.piece.length J.c] 24
    obtain ⟨V3, hV3⟩ : ∃ W, W = V2.alloc (.cells #[.int .i64 J.wide, .int .i64 J.high, .slice J.A J.piece.length J.c] 24) := ⟨_, rfl⟩
    obtain ⟨gx, hgx⟩ : ∃ g, g = V2.heap.size := ⟨_, rfl⟩
    rw [← hV3] at hb hx
    rw [← hgx] at hx
    have HXJ := Lib.hid hx
    have HGX := Lib.hid (show w.heap.size < gx from by rw [hgx]; exact HX.out.lt)
    clear hx
    replace HX := Lib.hid (HX.out.next hb)
    replace HC := Lib.hid (HC.out.next hb)
    replace HB := Lib.hid (HB.out.trans (hb.mono HB.out.size))
    replace HCJ := Lib.hid (HCJ.out.next hb)
    clear hb
    go_upto_region 4 with fail
    rw [← hV3, ← hgx]
    clear hV3 hgx
    have c0 := HX.out.c 0 _ rfl
    have c1 := HX.out.c 1 _ rfl
    have c2 := HX.out.c 2 _ rfl
    go_wp2_with fail
    refine (JoinP_any c b a V3 HPB.out HPA.out HC.out).mono ?_
    rintro e V4 ⟨K, A', k2, hK, rfl, hck, hb⟩
    have HKE := Lib.hid hK
    have HCK := Lib.hid hck
    clear hK hck
    replace HX := Lib.hid (HX.out.next hb)
    replace HC := Lib.hid (HC.out.next hb)
    replace HB := Lib.hid (HB.out.trans (hb.mono HB.out.size))
    replace HXJ := Lib.hid (HXJ.out.next hb)
    replace HCJ := Lib.hid (HCJ.out.next hb)
    clear hb c0 c1 c2
    have hb := nxA V4 (.cells #[.int .i64 K.wide, .int .i64 K.high, .slice K.A K.piece.length K.c] 24)
    have hx := Bx.new V4 #[.int .i64 K.wide, .int .i64 K.high, .slice K.A K.piece.length K.c] 24
    obtain ⟨V5, hV5⟩ : ∃ W, W = V4.alloc (.cells #[.int .i64 K.wide, .int .i64 K.high, .slice K.A K.piece.length K.c] 24) := ⟨_, rfl⟩
    obtain ⟨gy, hgy⟩ : ∃ g, g = V4.heap.size := ⟨_, rfl⟩
    rw [← hV5] at hb hx
    rw [← hgy] at hx
    have HXK := Lib.hid hx
    clear hx
    replace HX := Lib.hid (HX.out.next hb)
    replace HC := Lib.hid (HC.out.next hb)
    replace HB := Lib.hid (HB.out.trans (hb.mono HB.out.size))
    replace HXJ := Lib.hid (HXJ.out.next hb)
    replace HCJ := Lib.hid (HCJ.out.next hb)
    replace HCK := Lib.hid (HCK.out.next hb)
    clear hb
    go_upto_region 5 with fail
    rw [← hV5, ← hgy]
    clear hV5 hgy
    rw [joinE_symm c b a]
    have e1 : (joinE c a b == joinE c a b) = true := by simp
    have e2 : (joinE c a b != joinE c a b) = false := by simp
    have j0 := HXJ.out.c 0 _ rfl
    have j1 := HXJ.out.c 1 _ rfl
    have j2 := HXJ.out.c 2 _ rfl
    have k0 := HXK.out.c 0 _ rfl
    have k1' := HXK.out.c 1 _ rfl
    have k2' := HXK.out.c 2 _ rfl
    go_wp2_with fail
    have HLC := Lib.hid (show c.piece.length ≤ 1000 from by
      have h1 := OK.out.len
      have h2 := OK.out.w
      have h3 := OK.out.h
      have := Int.mul_le_mul h2.2 h3.2 (by omega) (by omega)
      omega)
    refine (SameCut_any J K V5 HCJ.out HCK.out (by rw [HJE.out]; exact joinS_len' c a b A k1 HLC.out) (by rw [HKE.out]; exact joinS_len' c b a A' k2 HLC.out)).mono ?_
    rintro e V6 ⟨rfl, hb⟩
    rw [show sameS J K = true from by rw [HJE.out, HKE.out]; exact joinS_symm c a b A A' k1 k2]
    clear j0 j1 j2 k0 k1' k2' e1 e2 HXK HCK HKE
    replace HX := Lib.hid (HX.out.next hb)
    replace HC := Lib.hid (HC.out.next hb)
    replace HB := Lib.hid (HB.out.trans (hb.mono HB.out.size))
    replace HXJ := Lib.hid (HXJ.out.next hb)
    replace HCJ := Lib.hid (HCJ.out.next hb)
    clear hb
    have c0 := HX.out.c 0 _ rfl
    have c1 := HX.out.c 1 _ rfl
    have c2 := HX.out.c 2 _ rfl
    go_wp2_with fail
    refine (CheckP_any c V6 HC.out).mono ?_
    rintro e V7 ⟨rfl, hb⟩
    replace HX := Lib.hid (HX.out.next hb)
    replace HC := Lib.hid (HC.out.next hb)
    replace HB := Lib.hid (HB.out.trans (hb.mono HB.out.size))
    replace HXJ := Lib.hid (HXJ.out.next hb)
    replace HCJ := Lib.hid (HCJ.out.next hb)
    clear hb c0 c1 c2
    unfold checkV
    by_cases h0 : joinE c a b = 0
    · obtain ⟨z1, z2, z3, z4, z5⟩ := joinE_zero h0
      have GC := Lib.hid (GoodC.of z1)
      have JD := Lib.hid (show Joined c J (min a b) (max a b) from by rw [HJE.out]; exact joined_of h0)
      have hg := great_bd OK.out
      rw [GC.out.check, h0]
      dsimp only
      have HEP := Lib.hid (show edgesR c a b = edgesR c (min a b) (max a b) from by
        by_cases e : a ≤ b
        · rw [Int.min_eq_left e, Int.max_eq_right e]
        · rw [Int.min_eq_right (by omega), Int.max_eq_left (by omega)]
          exact edges_symm OK.out z2.1 z3.1)
      obtain ⟨N, hN⟩ : ∃ N : Nat, N = (greatS c).toNat + 1 := ⟨_, rfl⟩
      have hNI : greatS c + 1 = (N : Int) := by omega
      have HNI := Lib.hid hNI
      have HJW := Lib.hid (show J.wide = c.wide ∧ J.high = c.high from ⟨JD.out.w, JD.out.h⟩)
      have hN40 : 1 ≤ N ∧ N ≤ 40 := by omega
      have hd1 : ¬ a < 0 := by omega
      have hd2 : ¬ (N : Int) ≤ a := by omega
      have hd3 : ¬ b < 0 := by omega
      have hd4 : ¬ (N : Int) ≤ b := by omega
      have e4 : (a == b) = false := by simp [z4]
      have e5 : (J.wide == c.wide) = true := by rw [HJW.out.1]; simp
      have e6 : (J.high == c.high) = true := by rw [HJW.out.2]; simp
      have e5' : (J.wide != c.wide) = false := by rw [HJW.out.1]; simp
      have e6' : (J.high != c.high) = false := by rw [HJW.out.2]; simp
      have HZ := Lib.hid (show ((0 ≤ a ∧ a < (N : Int)) ∧ (0 ≤ b ∧ b < (N : Int))) ∧ a ≠ b from ⟨by omega, z4⟩)
      rw [hNI]
      clear z1 z2 z3 z4 z5 h0 hg hN hNI HJE
      have c0 := HX.out.c 0 _ rfl
      have c1 := HX.out.c 1 _ rfl
      have c2 := HX.out.c 2 _ rfl
      have j0 := HXJ.out.c 0 _ rfl
      have j1 := HXJ.out.c 1 _ rfl
      have j2 := HXJ.out.c 2 _ rfl
      go_wp2_with fail
      refine (Cut_any J V7 HCJ.out).mono ?_
      rintro e V8 ⟨rfl, hb⟩
      rw [show cutS J = true from (okc_iff J).2 JD.out.ok]
      clear j0 j1 j2 c0 c1 c2
      replace HX := Lib.hid (HX.out.next hb)
      replace HC := Lib.hid (HC.out.next hb)
      replace HB := Lib.hid (HB.out.trans (hb.mono HB.out.size))
      replace HXJ := Lib.hid (HXJ.out.next hb)
      replace HCJ := Lib.hid (HCJ.out.next hb)
      clear hb
      have c0 := HX.out.c 0 _ rfl
      have c1 := HX.out.c 1 _ rfl
      have c2 := HX.out.c 2 _ rfl
      have j0 := HXJ.out.c 0 _ rfl
      have j1 := HXJ.out.c 1 _ rfl
      have j2 := HXJ.out.c 2 _ rfl
      go_wp2_with fail
      refine (CheckP_any J V8 HCJ.out).mono ?_
      rintro e V9 ⟨rfl, hb⟩
      clear j0 j1 j2 c0 c1 c2 hd1 hd2 hd3 hd4 e4 e5 e6 e5' e6'
      replace HX := Lib.hid (HX.out.next hb)
      replace HC := Lib.hid (HC.out.next hb)
      replace HB := Lib.hid (HB.out.trans (hb.mono HB.out.size))
      replace HXJ := Lib.hid (HXJ.out.next hb)
      replace HCJ := Lib.hid (HCJ.out.next hb)
      clear hb
      unfold checkV
      rw [JD.out.good.check, JD.out.great]
      dsimp only
      have c0 := HX.out.c 0 _ rfl
      have c1 := HX.out.c 1 _ rfl
      have c2 := HX.out.c 2 _ rfl
      have j0 := HXJ.out.c 0 _ rfl
      have j1 := HXJ.out.c 1 _ rfl
      have j2 := HXJ.out.c 2 _ rfl
      go_wp2_with fail
      refine (LinesP_any c V9 HC.out).mono ?_
      rintro e V10 ⟨rfl, hb⟩
      clear j0 j1 j2 c0 c1 c2
      replace HX := Lib.hid (HX.out.next hb)
      replace HC := Lib.hid (HC.out.next hb)
      replace HB := Lib.hid (HB.out.trans (hb.mono HB.out.size))
      replace HXJ := Lib.hid (HXJ.out.next hb)
      replace HCJ := Lib.hid (HCJ.out.next hb)
      clear hb
      have HL := Lib.hid (show linesS c = (lenS c, overP c (bendP c), overP c (jointP c), overP c (startP c)) ∧ cutE c = 0 from by
        have : cutE c = 0 := by unfold cutE; rw [GC.out.check]
        exact ⟨by unfold linesS; rw [if_pos this], this⟩)
      have HLJ := Lib.hid (show linesS J = (lenS J, overP J (bendP J), overP J (jointP J), overP J (startP J)) ∧ cutE J = 0 from by
        have : cutE J = 0 := by unfold cutE; rw [JD.out.good.check]
        exact ⟨by unfold linesS; rw [if_pos this], this⟩)
      unfold linesV
      rw [HL.out.1, HL.out.2]
      dsimp only
      have HLN := Lib.hid (show lenS J = lenS c - edgesR c a b ∧ (0 ≤ lenS c ∧ lenS c ≤ 10000000) ∧ 1 ≤ edgesR c a b ∧ edgesR c a b ≤ 1000 from by
        have h1 := JD.out.len
        rw [← HEP.out] at h1
        have h2 := JD.out.e
        rw [← HEP.out] at h2
        have h3 := lenD_bd OK.out (fun p => (edgO c p).isSome)
        rw [lenD_all (fun p => rfl)] at h3
        exact ⟨h1, h3, by omega, edges_lt OK.out a b⟩)
      generalize lenS c = ln at *
      generalize overP c (bendP c) = u1 at *
      generalize overP c (jointP c) = u2 at *
      generalize overP c (startP c) = u3 at *
      have hb := nxA V10 (.cells #[.int .i64 ln, .int .i64 u1, .int .i64 u2, .int .i64 u3] 39)
      have hx := Bx.new V10 #[.int .i64 ln, .int .i64 u1, .int .i64 u2, .int .i64 u3] 39
      obtain ⟨V11, hV11⟩ : ∃ W, W = V10.alloc (.cells #[.int .i64 ln, .int .i64 u1, .int .i64 u2, .int .i64 u3] 39) := ⟨_, rfl⟩
      obtain ⟨g15, hg15⟩ : ∃ g, g = V10.heap.size := ⟨_, rfl⟩
      rw [← hV11] at hb hx
      rw [← hg15] at hx
      have HX15 := Lib.hid hx
      clear hx
      replace HX := Lib.hid (HX.out.next hb)
      replace HC := Lib.hid (HC.out.next hb)
      replace HB := Lib.hid (HB.out.trans (hb.mono HB.out.size))
      replace HXJ := Lib.hid (HXJ.out.next hb)
      replace HCJ := Lib.hid (HCJ.out.next hb)
      clear hb
      go_upto_region 14 with fail
      rw [← hV11, ← hg15]
      clear hV11 hg15
      have j0 := HXJ.out.c 0 _ rfl
      have j1 := HXJ.out.c 1 _ rfl
      have j2 := HXJ.out.c 2 _ rfl
      go_wp2_with fail
      refine (LinesP_any J V11 HCJ.out).mono ?_
      rintro e V12 ⟨rfl, hb⟩
      clear j0 j1 j2
      replace HX := Lib.hid (HX.out.next hb)
      replace HC := Lib.hid (HC.out.next hb)
      replace HB := Lib.hid (HB.out.trans (hb.mono HB.out.size))
      replace HXJ := Lib.hid (HXJ.out.next hb)
      replace HCJ := Lib.hid (HCJ.out.next hb)
      replace HX15 := Lib.hid (HX15.out.next hb)
      clear hb
      unfold linesV
      rw [HLJ.out.1, HLJ.out.2]
      dsimp only
      generalize lenS J = lj at *
      generalize overP J (bendP J) = u4 at *
      generalize overP J (jointP J) = u5 at *
      generalize overP J (startP J) = u6 at *
      have hb := nxA V12 (.cells #[.int .i64 lj, .int .i64 u4, .int .i64 u5, .int .i64 u6] 39)
      have hx := Bx.new V12 #[.int .i64 lj, .int .i64 u4, .int .i64 u5, .int .i64 u6] 39
      obtain ⟨V13, hV13⟩ : ∃ W, W = V12.alloc (.cells #[.int .i64 lj, .int .i64 u4, .int .i64 u5, .int .i64 u6] 39) := ⟨_, rfl⟩
      obtain ⟨g17, hg17⟩ : ∃ g, g = V12.heap.size := ⟨_, rfl⟩
      rw [← hV13] at hb hx
      rw [← hg17] at hx
      have HX17 := Lib.hid hx
      clear hx
      replace HX := Lib.hid (HX.out.next hb)
      replace HC := Lib.hid (HC.out.next hb)
      replace HB := Lib.hid (HB.out.trans (hb.mono HB.out.size))
      replace HXJ := Lib.hid (HXJ.out.next hb)
      replace HCJ := Lib.hid (HCJ.out.next hb)
      replace HX15 := Lib.hid (HX15.out.next hb)
      clear hb
      go_upto_region 15 with fail
      rw [← hV13, ← hg17]
      clear hV13 hg17
      have c0 := HX.out.c 0 _ rfl
      have c1 := HX.out.c 1 _ rfl
      have c2 := HX.out.c 2 _ rfl
      go_wp2_with fail
      refine (Edges_any c a b V13 OK.out HC.out).mono ?_
      rintro e V14 ⟨rfl, hb⟩
      clear c0 c1 c2
      replace HX := Lib.hid (HX.out.next hb)
      replace HC := Lib.hid (HC.out.next hb)
      replace HB := Lib.hid (HB.out.trans (hb.mono HB.out.size))
      replace HXJ := Lib.hid (HXJ.out.next hb)
      replace HCJ := Lib.hid (HCJ.out.next hb)
      replace HX15 := Lib.hid (HX15.out.next hb)
      replace HX17 := Lib.hid (HX17.out.next hb)
      clear hb
      have hln := HLN.out
      have HE1 := Lib.hid (show edgesR c a b = edgesR c (min a b) (max a b) from HEP.out)
      generalize edgesR c a b = ev at *
      have l0 := HX15.out.c 0 _ rfl
      have l1 := HX17.out.c 0 _ rfl
      have hw1 : IntKind.i64.wrap ((N : Int) - 1) = (N : Int) - 1 := IntWalk.i64_in _ (by omega)
      have hw2 : IntKind.i64.wrap (ln - ev) = ln - ev := IntWalk.i64_in _ (by omega)
      have hgn : greatS c = (N : Int) - 1 := by have := HNI.out; omega
      have e7 : (greatS c == (N : Int) - 1) = true := by simp [hgn]
      have e8 : (greatS c != (N : Int) - 1) = false := by simp [hgn]
      have e9 : (lj == ln - ev) = true := by simp [hln.1]
      have e10 : (lj != ln - ev) = false := by simp [hln.1]
      have hd5 : ¬ ev < 1 := by omega
      clear hln hgn
      obtain ⟨lo, hlo⟩ : ∃ x, x = min a b := ⟨_, rfl⟩
      obtain ⟨hi, hhi⟩ : ∃ x, x = max a b := ⟨_, rfl⟩
      rw [← hlo, ← hhi] at JD
      have m1 : (if a < b then a else b) = lo := by rw [hlo]; split <;> omega
      have m2 : (if b < a then b else a) = lo := by rw [hlo]; split <;> omega
      have m3 : (if a < b then b else a) = hi := by rw [hhi]; split <;> omega
      have m4 : (if b < a then a else b) = hi := by rw [hhi]; split <;> omega
      have m5 : min a b = lo := hlo.symm
      have m6 : max a b = hi := hhi.symm
      clear hlo hhi
      go_upto_region 19 with fail
      generalize hV15 : (V14.alloc (Obj.cells #[.int .i64 lo] 3)).alloc (Obj.cells #[.int .i64 hi] 3) = V15
      obtain ⟨gl, hgl⟩ : ∃ g, g = V14.heap.size := ⟨_, rfl⟩
      obtain ⟨gh, hgh⟩ : ∃ g, g = V14.heap.size + 1 := ⟨_, rfl⟩
      have HM := Lib.hid (show JM c J gx gl gh V15.heap.size lo hi w V15 from by
        have n1 := nxA V14 (.cells #[.int .i64 lo] 3)
        have n2 := nxA (V14.alloc (.cells #[.int .i64 lo] 3)) (.cells #[.int .i64 hi] 3)
        have x1 := (Bx.new V14 #[.int .i64 lo] 3).next n2
        have x2 := Bx.new (V14.alloc (.cells #[.int .i64 lo] 3)) #[.int .i64 hi] 3
        have hb := n1.trans (n2.mono n1.size)
        have hsz : V15.heap.size = V14.heap.size + 1 + 1 := by rw [← hV15]; simp
        simp only [World.size_alloc] at x2
        rw [hV15] at x1 x2 hb
        rw [← hgl] at x1
        rw [← hgh] at x2
        have h1 := HX.out.lt
        have h2 := HXJ.out.lt
        exact ⟨HX.out.next hb, HXJ.out.next hb, x1, x2, HC.out.next hb, HCJ.out.next hb, HB.out.trans (hb.mono HB.out.size), Nat.le_refl _, by omega⟩)
      rw [← hgh, ← hgl]
      have HZ2 := Lib.hid (show ((0 ≤ lo ∧ lo < hi) ∧ hi ≤ (N : Int) - 1) from by
        have h1 := JD.out.bd
        have h2 := HNI.out
        exact ⟨⟨h1.1, h1.2.1⟩, by omega⟩)
      obtain ⟨B, hBB⟩ : ∃ B, B = V15.heap.size := ⟨_, rfl⟩
      rw [← hBB] at HM
      have HJP := Lib.hid (show J.piece.length = c.piece.length from by rw [JD.out.p, List.length_map])
      clear hV15 hgl hgh hBB m1 m2 m3 m4 m5 m6 hw1 hw2 e7 e8 e9 e10 hd5 l0 l1 HX HXJ HC HCJ HB HX15 HX17 HE1 HEP HLN HL HLJ
      go_upto_region 21 with fail
      refine wp_loopM jmA (fun f V => ∃ k : Nat, k ≤ c.piece.length ∧ f 23 = .int .i64 (k : Int) ∧ JM c J gx gl gh B lo hi w V) (fun f _ => c.piece.length - (intOf (f 23)).toNat) (by kernel_rfl) ⟨0, by omega, slotF_at rfl, HM.out⟩ ?_
      clear HM
      intro f Va hrel
      obtain ⟨k, hk, e23, hm⟩ := hrel
      simp only [jmA, mixF, e23]
      have HE23 := Lib.hid e23
      have HM := Lib.hid hm
      clear e23 hm
      have hlc := HLC.out
      by_cases hkl : k < c.piece.length
      · have hkI : (k : Int) < (c.piece.length : Int) := by omega
        have hkJ : (k : Int) < (J.piece.length : Int) := by rw [HJP.out]; exact hkI
        obtain ⟨b1, o1, e1, hb1, g1⟩ := int_at HM.out.c1.pa hkl
        obtain ⟨b2, o2, e2, hb2, g2⟩ := int_at HM.out.j1.pa (show k < J.piece.length by rw [HJP.out]; exact hkl)
        have hgj : J.piece.getD k 0 = jn lo hi (c.piece.getD k 0) := by
          rw [getD_get hkl, getD_get (by rw [HJP.out]; exact hkl)]
          simp only [JD.out.p, List.getElem_map]
        rw [hgj] at g2
        have hvb := OK.out.pc (c.piece.getD k 0) (by rw [getD_get hkl]; exact List.getElem_mem _)
        have c2 := HM.out.xc.c 2 _ rfl
        have j2 := HM.out.xj.c 2 _ rfl
        rw [e1] at c2
        rw [e2] at j2
        obtain ⟨v, hv⟩ : ∃ v, v = c.piece.getD k 0 := ⟨_, rfl⟩
        rw [← hv] at g1 g2 hvb
        have HNW := Lib.hid (fun n => now_any lo hi v gl gh (Va.drewN n) (by omega) HM.out.xl.drewN HM.out.xh.drewN)
        have hw1 : IntKind.i64.wrap ((k : Int) + 1) = (k : Int) + 1 := IntWalk.i64_in _ (by omega)
        have HMU := Lib.hid (show c.piece.length - (k + 1) < c.piece.length - k from by omega)
        obtain ⟨jv, hjv⟩ : ∃ x, x = jn lo hi v := ⟨_, rfl⟩
        rw [← hjv] at g2 HNW
        have e3 : (jv != jv) = false := by simp
        clear e1 e2 hgj hv hvb hjv hb1 hb2
        go_wp2_with (go_quiet ((go_at_call 38; first | exact qq (HNW.out _) | exact qqa (HNW.out _))))
        refine endM (by kernel_rfl) (by kernel_rfl) ⟨k + 1, by omega, slotF_at rfl, HM.out.drewN⟩ ?_
        show c.piece.length - (intOf (slotF _ 23)).toNat < c.piece.length - (intOf (f 23)).toNat
        rw [slotF_at rfl, HE23.out]
        have := HMU.out
        simp [intOf]
        omega
      · have hkI : ¬ (k : Int) < (c.piece.length : Int) := by omega
        have c2 := HM.out.xc.c 2 _ rfl
        clear hk
        go_wp2_with fail
        refine wp_loopM jmB (fun f V => ∃ p : Nat, p ≤ N ∧ f 24 = .int .i64 (p : Int) ∧ JM c J gx gl gh B lo hi w V) (fun f _ => N - (intOf (f 24)).toNat) (by kernel_rfl) ⟨0, by omega, slotF_at rfl, HM.out⟩ ?_
        clear HM c2 HE23
        intro f2 Vb hrel
        obtain ⟨p, hp, e24, hm⟩ := hrel
        simp only [jmB, mixF, e24]
        have HE24 := Lib.hid e24
        have HM := Lib.hid hm
        clear e24 hm
        by_cases hpN : p < N
        · have hpI : (p : Int) < (N : Int) := by omega
          have h0 := HM.out.xh.c 0 _ rfl
          have hw1 : IntKind.i64.wrap ((p : Int) + 1) = (p : Int) + 1 := IntWalk.i64_in _ (by omega)
          have HMU := Lib.hid (show N - (p + 1) < N - p from by omega)
          by_cases hph : (p : Int) = hi
          · have e1 : ((p : Int) == hi) = true := by simp [hph]
            clear hph
            go_wp2_with fail
            refine endM (by kernel_rfl) (by kernel_rfl) ⟨p + 1, by omega, slotF_at rfl, HM.out⟩ ?_
            show N - (intOf (slotF _ 24)).toNat < N - (intOf (f2 24)).toNat
            rw [slotF_at rfl, HE24.out]
            have := HMU.out
            simp [intOf]
            omega
          · have e1 : ((p : Int) == hi) = false := by simp [hph]
            obtain ⟨jp, hjp⟩ : ∃ x, x = jn lo hi (p : Int) := ⟨_, rfl⟩
            have HJPP := Lib.hid hjp
            have HPH := Lib.hid hph
            have hz := HZ2.out
            have hpb : 0 ≤ jp ∧ jp ≤ (N : Int) - 2 := by
              rw [hjp]
              unfold jn
              rw [if_neg hph]
              split <;> omega
            clear hph hjp
            go_upto_region 30 with fail
            have hb4 := nxA Vb (.cells (zeros 41) 67)
            obtain ⟨g, hg0⟩ : ∃ g, g = Vb.heap.size := ⟨_, rfl⟩
            obtain ⟨Vc, hVc⟩ : ∃ V, V = Vb.alloc (.cells (zeros 41) 67) := ⟨_, rfl⟩
            have HI0 := Lib.hid (show IBlk Vc g 41 (fun j => wantT c lo hi (p : Int) (numK j) 0) from by rw [hVc, hg0]; exact (IBlk.zeros Vb 41 _).congr (fun j => rfl))
            have HM1 := Lib.hid (show JM c J gx gl gh B lo hi w Vc from by rw [hVc]; exact HM.out.next hb4)
            have HGB := Lib.hid (show B ≤ g from by rw [hg0]; exact HM.out.hB)
            rw [zeros41] at hVc
            rw [← hVc, ← hg0]
            clear hVc hg0 hb4 h0
            go_upto_region 31 with fail
            refine wp_loopM jmC (fun f V => ∃ i : Nat, i ≤ N + 1 ∧ f 26 = .int .i64 (numK i) ∧ JM c J gx gl gh B lo hi w V ∧ IBlk V g 41 (fun j => wantT c lo hi (p : Int) (numK j) i)) (fun f _ => ((N : Int) - intOf (f 26)).toNat) (by kernel_rfl) ⟨0, by omega, slotF_at rfl, HM1.out, HI0.out⟩ ?_
            clear HM HM1 HI0
            intro f3 Vd hrel
            obtain ⟨i, hi1, e26, hm, hib⟩ := hrel
            simp only [jmC, mixF, e26]
            have HE26 := Lib.hid e26
            have HM := Lib.hid hm
            have HI := Lib.hid hib
            clear e26 hm hib
            obtain ⟨kk, hkk⟩ : ∃ x, x = numK i := ⟨_, rfl⟩
            have HKK := Lib.hid hkk
            have hkb : kk = (i : Int) - 1 := by rw [hkk]; rfl
            rw [← hkk]
            clear hkk
            by_cases hiN : i < N + 1
            · have hkN : kk < (N : Int) := by omega
              have hk1 : -1 ≤ kk := by omega
              obtain ⟨jk, hjk⟩ : ∃ x, x = jn lo hi kk := ⟨_, rfl⟩
              have HJK := Lib.hid hjk
              have hjb : -1 ≤ jk ∧ jk ≤ 39 := by
                have := jn_bd (lo := lo) (hi := hi) (k := kk) hz.1 hk1
                omega
              have hw2 : IntKind.i64.wrap (kk + 1) = kk + 1 := IntWalk.i64_in _ (by omega)
              have HMU3 := Lib.hid (show ((N : Int) - (kk + 1)).toNat < ((N : Int) - kk).toNat from by omega)
              have HK1 := Lib.hid (show kk + 1 = numK (i + 1) from by rw [hkb]; unfold numK; omega)
              have HST := Lib.hid (fun m => (show wantT c lo hi (p : Int) m (i + 1) = wantT c lo hi (p : Int) m i + (if jk ≠ jp ∧ jk = m then edW c lo hi (p : Int) kk else 0) from by rw [wantT_step, ← HKK.out, ← hjk, ← HJPP.out]))
              have hpI2 : (p : Int) ≤ 100 := by omega
              clear hjk hkb
              by_cases hkp : kk = (p : Int)
              · have e2 : (kk == (p : Int)) = true := by simp [hkp]
                have e2' : (kk != (p : Int)) = false := by simp [hkp]
                have hkh : kk ≠ hi := fun e => HPH.out (by rw [← hkp, e])
                have HJJ := Lib.hid (show jk = jp from by rw [HJK.out, HJPP.out, hkp])
                have e5 : (kk == hi) = false := by simp [hkh]
                have e5' : (kk != hi) = true := by simp [hkh]
                by_cases hpl : (p : Int) = lo
                · have e4 : ((p : Int) == lo) = true := by simp [hpl]
                  clear hkp hkh hpl
                  have c0 := HM.out.xc.c 0 _ rfl
                  have c1 := HM.out.xc.c 1 _ rfl
                  have c2 := HM.out.xc.c 2 _ rfl
                  have q0 := HM.out.xl.c 0 _ rfl
                  have q1 := HM.out.xh.c 0 _ rfl
                  go_wp2_with fail
                  refine (Edges_any c hi kk _ OK.out HM.out.c1).mono ?_
                  rintro e V21 ⟨rfl, hb⟩
                  clear c0 c1 c2 q0 q1
                  replace HM := Lib.hid (HM.out.next hb)
                  replace HI := Lib.hid (HI.out.next hb)
                  clear hb
                  have heb1 := edgesR_nn c hi kk
                  have heb2 := edges_lt OK.out hi kk
                  obtain ⟨eb, heb⟩ : ∃ x, x = edgesR c hi kk := ⟨_, rfl⟩
                  rw [← heb] at heb1 heb2 ⊢
                  have Heb := Lib.hid heb
                  clear heb
                  have c0 := HM.out.xc.c 0 _ rfl
                  have c1 := HM.out.xc.c 1 _ rfl
                  have c2 := HM.out.xc.c 2 _ rfl
                  have q0 := HM.out.xl.c 0 _ rfl
                  have q1 := HM.out.xh.c 0 _ rfl
                  have hw4 : IntKind.i64.wrap (0 + eb) = eb := by rw [Int.zero_add]; exact IntWalk.i64_in _ (by omega)
                  go_wp2_with fail
                  refine (now_any lo hi kk gl gh _ (by omega) HM.out.xl HM.out.xh).mono ?_
                  rintro e w' ⟨rfl, rfl⟩
                  rw [← HJK.out]
                  go_wp2_with fail
                  refine (now_any lo hi (p : Int) gl gh _ (by omega) HM.out.xl HM.out.xh).mono ?_
                  rintro e w' ⟨rfl, rfl⟩
                  rw [← HJPP.out]
                  have e6 : (jk == jp) = true := by rw [HJJ.out]; simp
                  have e6' : (jk != jp) = false := by rw [HJJ.out]; simp
                  go_wp2_with fail
                  refine endM (by kernel_rfl) (by kernel_rfl) ⟨i + 1, by omega, by rw [slotF_at rfl, HK1.out], HM.out, HI.out.congr fun j => by rw [HST.out, if_neg (fun h => h.1 HJJ.out)]; omega⟩ ?_
                  show ((N : Int) - intOf (slotF _ 26)).toNat < ((N : Int) - intOf (f3 26)).toNat
                  rw [slotF_at rfl, HE26.out, ← HKK.out]
                  exact HMU3.out
                · have e4 : ((p : Int) == lo) = false := by simp [hpl]
                  clear hkp hkh hpl
                  have c0 := HM.out.xc.c 0 _ rfl
                  have c1 := HM.out.xc.c 1 _ rfl
                  have c2 := HM.out.xc.c 2 _ rfl
                  have q0 := HM.out.xl.c 0 _ rfl
                  have q1 := HM.out.xh.c 0 _ rfl
                  go_wp2_with fail
                  refine (now_any lo hi kk gl gh _ (by omega) HM.out.xl HM.out.xh).mono ?_
                  rintro e w' ⟨rfl, rfl⟩
                  rw [← HJK.out]
                  go_wp2_with fail
                  refine (now_any lo hi (p : Int) gl gh _ (by omega) HM.out.xl HM.out.xh).mono ?_
                  rintro e w' ⟨rfl, rfl⟩
                  rw [← HJPP.out]
                  have e6 : (jk == jp) = true := by rw [HJJ.out]; simp
                  have e6' : (jk != jp) = false := by rw [HJJ.out]; simp
                  go_wp2_with fail
                  refine endM (by kernel_rfl) (by kernel_rfl) ⟨i + 1, by omega, by rw [slotF_at rfl, HK1.out], HM.out, HI.out.congr fun j => by rw [HST.out, if_neg (fun h => h.1 HJJ.out)]; omega⟩ ?_
                  show ((N : Int) - intOf (slotF _ 26)).toNat < ((N : Int) - intOf (f3 26)).toNat
                  rw [slotF_at rfl, HE26.out, ← HKK.out]
                  exact HMU3.out
              · have e2 : (kk == (p : Int)) = false := by simp [hkp]
                have e2' : (kk != (p : Int)) = true := by simp [hkp]
                by_cases hpl : (p : Int) = lo
                · have e4 : ((p : Int) == lo) = true := by simp [hpl]
                  by_cases hkh : kk = hi
                  · have e5 : (kk == hi) = true := by simp [hkh]
                    have e5' : (kk != hi) = false := by simp [hkh]
                    have HJJ := Lib.hid (show jk = jp from by
                      rw [HJK.out, HJPP.out, hkh, hpl]
                      unfold jn
                      rw [if_pos rfl, if_neg (by omega), if_neg (by omega)])
                    clear hkp hkh hpl
                    have c0 := HM.out.xc.c 0 _ rfl
                    have c1 := HM.out.xc.c 1 _ rfl
                    have c2 := HM.out.xc.c 2 _ rfl
                    have q0 := HM.out.xl.c 0 _ rfl
                    have q1 := HM.out.xh.c 0 _ rfl
                    go_wp2_with fail
                    refine (Edges_any c (p : Int) kk _ OK.out HM.out.c1).mono ?_
                    rintro e V20 ⟨rfl, hb⟩
                    clear c0 c1 c2 q0 q1
                    replace HM := Lib.hid (HM.out.next hb)
                    replace HI := Lib.hid (HI.out.next hb)
                    clear hb
                    have hea1 := edgesR_nn c (p : Int) kk
                    have hea2 := edges_lt OK.out (p : Int) kk
                    obtain ⟨ea, hea⟩ : ∃ x, x = edgesR c (p : Int) kk := ⟨_, rfl⟩
                    rw [← hea] at hea1 hea2 ⊢
                    have Hea := Lib.hid hea
                    clear hea
                    have c0 := HM.out.xc.c 0 _ rfl
                    have c1 := HM.out.xc.c 1 _ rfl
                    have c2 := HM.out.xc.c 2 _ rfl
                    have q0 := HM.out.xl.c 0 _ rfl
                    have q1 := HM.out.xh.c 0 _ rfl
                    go_wp2_with fail
                    refine (now_any lo hi kk gl gh _ (by omega) HM.out.xl HM.out.xh).mono ?_
                    rintro e w' ⟨rfl, rfl⟩
                    rw [← HJK.out]
                    go_wp2_with fail
                    refine (now_any lo hi (p : Int) gl gh _ (by omega) HM.out.xl HM.out.xh).mono ?_
                    rintro e w' ⟨rfl, rfl⟩
                    rw [← HJPP.out]
                    have e6 : (jk == jp) = true := by rw [HJJ.out]; simp
                    have e6' : (jk != jp) = false := by rw [HJJ.out]; simp
                    go_wp2_with fail
                    refine endM (by kernel_rfl) (by kernel_rfl) ⟨i + 1, by omega, by rw [slotF_at rfl, HK1.out], HM.out, HI.out.congr fun j => by rw [HST.out, if_neg (fun h => h.1 HJJ.out)]; omega⟩ ?_
                    show ((N : Int) - intOf (slotF _ 26)).toNat < ((N : Int) - intOf (f3 26)).toNat
                    rw [slotF_at rfl, HE26.out, ← HKK.out]
                    exact HMU3.out
                  · have e5 : (kk == hi) = false := by simp [hkh]
                    have e5' : (kk != hi) = true := by simp [hkh]
                    have HJJ := Lib.hid (show jk ≠ jp from by
                      rw [HJK.out, HJPP.out]
                      intro e
                      have hjl : jn lo hi (p : Int) = lo := by rw [hpl]; unfold jn; rw [if_neg (by omega), if_neg (by omega)]
                      rw [hjl] at e
                      rcases (jn_eq hz.1).1 e with h | h
                      · have : rj hi lo = lo := by unfold rj; rw [if_neg (by omega)]
                        exact hkp (by rw [h, this, hpl])
                      · exact hkh h.2)
                    have HEW := Lib.hid (show edW c lo hi (p : Int) kk = edgesR c (p : Int) kk + edgesR c hi kk from by unfold edW; rw [if_pos hkp, if_pos ⟨hpl, hkh⟩])
                    clear hkp hkh hpl
                    have c0 := HM.out.xc.c 0 _ rfl
                    have c1 := HM.out.xc.c 1 _ rfl
                    have c2 := HM.out.xc.c 2 _ rfl
                    have q0 := HM.out.xl.c 0 _ rfl
                    have q1 := HM.out.xh.c 0 _ rfl
                    go_wp2_with fail
                    refine (Edges_any c (p : Int) kk _ OK.out HM.out.c1).mono ?_
                    rintro e V20 ⟨rfl, hb⟩
                    clear c0 c1 c2 q0 q1
                    replace HM := Lib.hid (HM.out.next hb)
                    replace HI := Lib.hid (HI.out.next hb)
                    clear hb
                    have hea1 := edgesR_nn c (p : Int) kk
                    have hea2 := edges_lt OK.out (p : Int) kk
                    obtain ⟨ea, hea⟩ : ∃ x, x = edgesR c (p : Int) kk := ⟨_, rfl⟩
                    rw [← hea] at hea1 hea2 ⊢
                    have Hea := Lib.hid hea
                    clear hea
                    have c0 := HM.out.xc.c 0 _ rfl
                    have c1 := HM.out.xc.c 1 _ rfl
                    have c2 := HM.out.xc.c 2 _ rfl
                    have q0 := HM.out.xl.c 0 _ rfl
                    have q1 := HM.out.xh.c 0 _ rfl
                    go_wp2_with fail
                    refine (Edges_any c hi kk _ OK.out HM.out.c1).mono ?_
                    rintro e V21 ⟨rfl, hb⟩
                    clear c0 c1 c2 q0 q1
                    replace HM := Lib.hid (HM.out.next hb)
                    replace HI := Lib.hid (HI.out.next hb)
                    clear hb
                    have heb1 := edgesR_nn c hi kk
                    have heb2 := edges_lt OK.out hi kk
                    obtain ⟨eb, heb⟩ : ∃ x, x = edgesR c hi kk := ⟨_, rfl⟩
                    rw [← heb] at heb1 heb2 ⊢
                    have Heb := Lib.hid heb
                    clear heb
                    have c0 := HM.out.xc.c 0 _ rfl
                    have c1 := HM.out.xc.c 1 _ rfl
                    have c2 := HM.out.xc.c 2 _ rfl
                    have q0 := HM.out.xl.c 0 _ rfl
                    have q1 := HM.out.xh.c 0 _ rfl
                    have hw4 : IntKind.i64.wrap (ea + eb) = ea + eb := IntWalk.i64_in _ (by omega)
                    go_wp2_with fail
                    refine (now_any lo hi kk gl gh _ (by omega) HM.out.xl HM.out.xh).mono ?_
                    rintro e w' ⟨rfl, rfl⟩
                    rw [← HJK.out]
                    go_wp2_with fail
                    refine (now_any lo hi (p : Int) gl gh _ (by omega) HM.out.xl HM.out.xh).mono ?_
                    rintro e w' ⟨rfl, rfl⟩
                    rw [← HJPP.out]
                    have e6 : (jk == jp) = false := by have := HJJ.out; simp [this]
                    have e6' : (jk != jp) = true := by have := HJJ.out; simp [this]
                    go_wp2_with fail
                    refine (now_any lo hi kk gl gh _ (by omega) HM.out.xl HM.out.xh).mono ?_
                    rintro e w' ⟨rfl, rfl⟩
                    rw [← HJK.out]
                    have hw5 : IntKind.i64.wrap (jk + 1) = jk + 1 := IntWalk.i64_in _ (by omega)
                    go_wp2_with fail
                    refine (now_any lo hi kk gl gh _ (by omega) HM.out.xl HM.out.xh).mono ?_
                    rintro e w' ⟨rfl, rfl⟩
                    rw [← HJK.out]
                    obtain ⟨m, hm⟩ : ∃ m : Nat, (m : Int) = jk + 1 := ⟨(jk + 1).toNat, by omega⟩
                    have hm41 : m < 41 := by omega
                    have hmk : numK m = jk := by unfold numK; omega
                    have hi5 : 0 ≤ jk + 1 := by omega
                    have hi6 : jk + 1 < 41 := by omega
                    have hi7 : (jk + 1).toNat = m := by omega
                    have y0 := HI.out.cell m hm41
                    have y1 := HI.out.free m
                    have hbd := wantT_bd OK.out lo hi (p : Int) (numK m) i
                    have HI9 := Lib.hid (HI.out.set_ (f' := fun j => wantT c lo hi (p : Int) (numK j) (i + 1)) (j := m) (x := wantT c lo hi (p : Int) (numK m) i + (ea + eb)) hm41 (by
                      rw [HST.out, if_pos ⟨HJJ.out, hmk.symm⟩, HEW.out, Hea.out, Heb.out]) (fun j hj => by
                      rw [HST.out, if_neg (fun h => hj (by have h2 := h.2; unfold numK at h2; omega))]; omega))
                    have HM9 := Lib.hid (HM.out.set (k := m) HGB.out (.int .i64 (wantT c lo hi (p : Int) (numK m) i + (ea + eb))))
                    obtain ⟨ov, hov⟩ : ∃ x, x = wantT c lo hi (p : Int) (numK m) i := ⟨_, rfl⟩
                    rw [← hov] at y0 hbd HI9 HM9
                    have hw6 : IntKind.i64.wrap (ov + (ea + eb)) = ov + (ea + eb) := IntWalk.i64_in _ (by omega)
                    clear hov hm hmk hbd
                    go_wp2_with fail
                    refine endM (by kernel_rfl) (by kernel_rfl) ⟨i + 1, by omega, by rw [slotF_at rfl, HK1.out], HM9.out, HI9.out⟩ ?_
                    show ((N : Int) - intOf (slotF _ 26)).toNat < ((N : Int) - intOf (f3 26)).toNat
                    rw [slotF_at rfl, HE26.out, ← HKK.out]
                    exact HMU3.out
                · have e4 : ((p : Int) == lo) = false := by simp [hpl]
                  have HJJ := Lib.hid (show jk ≠ jp from by
                    rw [HJK.out, HJPP.out]
                    intro e
                    rcases (jn_eq hz.1).1 e with h | h
                    · rw [(rj_jn hz.1 HPH.out).1] at h
                      exact hkp h
                    · exact hpl (((rj_jn hz.1 HPH.out).2).1 h.1))
                  have HEW := Lib.hid (show edW c lo hi (p : Int) kk = edgesR c (p : Int) kk from by unfold edW; rw [if_pos hkp, if_neg (fun h => hpl h.1)]; omega)
                  clear hkp hpl
                  have c0 := HM.out.xc.c 0 _ rfl
                  have c1 := HM.out.xc.c 1 _ rfl
                  have c2 := HM.out.xc.c 2 _ rfl
                  have q0 := HM.out.xl.c 0 _ rfl
                  have q1 := HM.out.xh.c 0 _ rfl
                  go_wp2_with fail
                  refine (Edges_any c (p : Int) kk _ OK.out HM.out.c1).mono ?_
                  rintro e V20 ⟨rfl, hb⟩
                  clear c0 c1 c2 q0 q1
                  replace HM := Lib.hid (HM.out.next hb)
                  replace HI := Lib.hid (HI.out.next hb)
                  clear hb
                  have hea1 := edgesR_nn c (p : Int) kk
                  have hea2 := edges_lt OK.out (p : Int) kk
                  obtain ⟨ea, hea⟩ : ∃ x, x = edgesR c (p : Int) kk := ⟨_, rfl⟩
                  rw [← hea] at hea1 hea2 ⊢
                  have Hea := Lib.hid hea
                  clear hea
                  have c0 := HM.out.xc.c 0 _ rfl
                  have c1 := HM.out.xc.c 1 _ rfl
                  have c2 := HM.out.xc.c 2 _ rfl
                  have q0 := HM.out.xl.c 0 _ rfl
                  have q1 := HM.out.xh.c 0 _ rfl
                  go_wp2_with fail
                  refine (now_any lo hi kk gl gh _ (by omega) HM.out.xl HM.out.xh).mono ?_
                  rintro e w' ⟨rfl, rfl⟩
                  rw [← HJK.out]
                  go_wp2_with fail
                  refine (now_any lo hi (p : Int) gl gh _ (by omega) HM.out.xl HM.out.xh).mono ?_
                  rintro e w' ⟨rfl, rfl⟩
                  rw [← HJPP.out]
                  have e6 : (jk == jp) = false := by have := HJJ.out; simp [this]
                  have e6' : (jk != jp) = true := by have := HJJ.out; simp [this]
                  go_wp2_with fail
                  refine (now_any lo hi kk gl gh _ (by omega) HM.out.xl HM.out.xh).mono ?_
                  rintro e w' ⟨rfl, rfl⟩
                  rw [← HJK.out]
                  have hw5 : IntKind.i64.wrap (jk + 1) = jk + 1 := IntWalk.i64_in _ (by omega)
                  go_wp2_with fail
                  refine (now_any lo hi kk gl gh _ (by omega) HM.out.xl HM.out.xh).mono ?_
                  rintro e w' ⟨rfl, rfl⟩
                  rw [← HJK.out]
                  obtain ⟨m, hm⟩ : ∃ m : Nat, (m : Int) = jk + 1 := ⟨(jk + 1).toNat, by omega⟩
                  have hm41 : m < 41 := by omega
                  have hmk : numK m = jk := by unfold numK; omega
                  have hi5 : 0 ≤ jk + 1 := by omega
                  have hi6 : jk + 1 < 41 := by omega
                  have hi7 : (jk + 1).toNat = m := by omega
                  have y0 := HI.out.cell m hm41
                  have y1 := HI.out.free m
                  have hbd := wantT_bd OK.out lo hi (p : Int) (numK m) i
                  have HI9 := Lib.hid (HI.out.set_ (f' := fun j => wantT c lo hi (p : Int) (numK j) (i + 1)) (j := m) (x := wantT c lo hi (p : Int) (numK m) i + (ea)) hm41 (by
                    rw [HST.out, if_pos ⟨HJJ.out, hmk.symm⟩, HEW.out, Hea.out]) (fun j hj => by
                    rw [HST.out, if_neg (fun h => hj (by have h2 := h.2; unfold numK at h2; omega))]; omega))
                  have HM9 := Lib.hid (HM.out.set (k := m) HGB.out (.int .i64 (wantT c lo hi (p : Int) (numK m) i + (ea))))
                  obtain ⟨ov, hov⟩ : ∃ x, x = wantT c lo hi (p : Int) (numK m) i := ⟨_, rfl⟩
                  rw [← hov] at y0 hbd HI9 HM9
                  have hw6 : IntKind.i64.wrap (ov + (ea)) = ov + (ea) := IntWalk.i64_in _ (by omega)
                  clear hov hm hmk hbd
                  go_wp2_with fail
                  refine endM (by kernel_rfl) (by kernel_rfl) ⟨i + 1, by omega, by rw [slotF_at rfl, HK1.out], HM9.out, HI9.out⟩ ?_
                  show ((N : Int) - intOf (slotF _ 26)).toNat < ((N : Int) - intOf (f3 26)).toNat
                  rw [slotF_at rfl, HE26.out, ← HKK.out]
                  exact HMU3.out
            · have hkN : ¬ kk < (N : Int) := by omega
              have hiE : i = (greatS c).toNat + 2 := by have := HNI.out; omega
              have HI2 := Lib.hid (show IBlk Vd g 41 (zF J jp []) from HI.out.congr fun j => by
                rw [zF_nil, hiE, JD.out.want HPH.out (by unfold numK; omega), ← HJPP.out]; rfl)
              clear HI hiE hkb
              have j0 := HM.out.xj.c 0 _ rfl
              have j1 := HM.out.xj.c 1 _ rfl
              have j2 := HM.out.xj.c 2 _ rfl
              have HNW := Lib.hid (fun n => now_any lo hi (p : Int) gl gh (Vd.drewN n) (by omega) HM.out.xl.drewN HM.out.xh.drewN)
              rw [← HJPP.out] at HNW
              have HOJ := Lib.hid (show openE J jp = 0 from by
                have h1 := JD.out.great
                have h2 := HNI.out
                unfold openE
                rw [JD.out.good.check, if_neg (by simp), if_pos (by unfold inS; simp; omega)])
              go_wp2_with fail
              have HMD := Lib.hid (show JM c J gx gl gh B lo hi w Vd.drew from HM.out.keep (Below.refl _ _).drew)
              have HID := Lib.hid HI2.out.drew
              clear HNW
              refine wp_region_noPanic ?_
              refine wp_region_held_drew (S := (fun V => V.cell? ⟨gx, 0, none⟩ = some (.int .i64 J.wide) ∧ V.cell? ⟨gx, 1, none⟩ = some (.int .i64 J.high) ∧ V.cell? ⟨gx, 2, none⟩ = some (.slice J.A J.piece.length J.c))) (by kernel_rfl) ?_ (fun hHeld => ?_)
              · (try dsimp only); exact ⟨j0, j1, j2⟩
              refine htake (i := 0) (v := ?v1) rfl (by kernel_rfl) (by kernel_rfl) (by kernel_rfl) (fun _ _ _ h => h) (Or.inl ⟨by rfl, ?hy1⟩) (by assumption) ?_
              case hy1 => (intro w hSw; (try dsimp only at hSw); go_simp; try (with_reducible rfl))
              try simp only [Act.put, List.setIfInBounds_toArray, List.set_cons_zero, List.set_cons_succ]
              refine htake (i := 1) (v := ?v2) rfl (by kernel_rfl) (by kernel_rfl) (by kernel_rfl) (fun _ _ _ h => h) (Or.inl ⟨by rfl, ?hy2⟩) (by assumption) ?_
              case hy2 => (intro w hSw; (try dsimp only at hSw); go_simp; try (with_reducible rfl))
              try simp only [Act.put, List.setIfInBounds_toArray, List.set_cons_zero, List.set_cons_succ]
              refine htake (i := 2) (v := ?v3) rfl (by kernel_rfl) (by kernel_rfl) (by kernel_rfl) (fun _ _ _ h => h) (Or.inl ⟨by rfl, ?hy3⟩) (by assumption) ?_
              case hy3 => (intro w hSw; (try dsimp only at hSw); go_simp; try (with_reducible rfl))
              try simp only [Act.put, List.setIfInBounds_toArray, List.set_cons_zero, List.set_cons_succ]
              refine wpAnyH_ready (rs := [3]) (by kernel_rfl) (by simp) ?_
              refine hcons rfl (fun K hK => ?_) (AllReadyH.nil)
              go_simp
              refine (now_any lo hi (p : Int) gl gh _ (by omega) HMD.out.xl HMD.out.xh).mono ?_; rintro e w' ⟨rfl, rfl⟩; rw [← HJPP.out]
              refine hK.out _ _ ?_ (fun hHeld => ?_)
              · (try dsimp only); exact ⟨j0, j1, j2⟩
              clear hK K
              try simp only [Act.put, List.setIfInBounds_toArray, List.set_cons_zero, List.set_cons_succ]
              refine wpAnyH_ready (rs := [4]) (by kernel_rfl) (by simp) ?_
              refine hcons rfl (fun K hK => ?_) (AllReadyH.nil)
              go_simp
              refine (SidesF_any J jp _ ⟨by omega, by omega⟩ HMD.out.j1).mono ?_; rintro e V30 ⟨A2, cap2, rfl, hat, hb, hfr⟩; rw [HOJ.out]; have HAT := Lib.hid hat; have HM3 := Lib.hid (HMD.out.next hb); have HI3 := Lib.hid (HID.out.next hb); have HFR := Lib.hid (show ∀ b off, A2 = some ⟨b, off, none⟩ → b ≠ g from fun b off e => by have h1 := hfr b off e; have h2 := HID.out.lt; omega); clear hat hb hfr
              refine hK.out _ _ ?_ (fun hHeld => ?_)
              · (try dsimp only); exact ⟨HM3.out.xj.c 0 _ rfl, HM3.out.xj.c 1 _ rfl, HM3.out.xj.c 2 _ rfl⟩
              clear hK K
              try simp only [Act.put, List.setIfInBounds_toArray, List.set_cons_zero, List.set_cons_succ]
              refine htake (i := 5) (v := ?v4) rfl (by kernel_rfl) (by kernel_rfl) (by kernel_rfl) (fun _ _ _ h => h) (Or.inl ⟨by rfl, ?hy4⟩) (by assumption) ?_
              case hy4 => (intro w hSw; (try dsimp only at hSw); go_simp; try (with_reducible rfl))
              try simp only [Act.put, List.setIfInBounds_toArray, List.set_cons_zero, List.set_cons_succ]
              refine htake (i := 6) (v := ?v5) rfl (by kernel_rfl) (by kernel_rfl) (by kernel_rfl) (fun _ _ _ h => h) (Or.inl ⟨by rfl, ?hy5⟩) (by assumption) ?_
              case hy5 => (intro w hSw; (try dsimp only at hSw); go_simp; try (with_reducible rfl))
              try simp only [Act.put, List.setIfInBounds_toArray, List.set_cons_zero, List.set_cons_succ]
              refine htake (i := 7) (v := ?v6) rfl (by kernel_rfl) (by kernel_rfl) (by kernel_rfl) (fun _ _ _ h => h) (Or.inl ⟨by rfl, ?hy6⟩) (by assumption) ?_
              case hy6 => (intro w hSw; (try dsimp only at hSw); go_simp; try (with_reducible rfl))
              try simp only [Act.put, List.setIfInBounds_toArray, List.set_cons_zero, List.set_cons_succ]
              refine htake (i := 8) (v := ?v7) rfl (by kernel_rfl) (by kernel_rfl) (by kernel_rfl) (fun _ _ _ h => h) (Or.inl ⟨by rfl, ?hy7⟩) (by assumption) ?_
              case hy7 => (intro w hSw; (try dsimp only at hSw); go_simp; try (with_reducible rfl))
              try simp only [Act.put, List.setIfInBounds_toArray, List.set_cons_zero, List.set_cons_succ]
              refine htake (i := 9) (v := ?v8) rfl (by kernel_rfl) (by kernel_rfl) (by kernel_rfl) (fun _ _ _ h => h) (Or.inl ⟨by rfl, ?hy8⟩) (by assumption) ?_
              case hy8 => (intro w hSw; (try dsimp only at hSw); go_simp; try (with_reducible rfl))
              try simp only [Act.put, List.setIfInBounds_toArray, List.set_cons_zero, List.set_cons_succ]
              refine wpAnyH_done (by kernel_rfl) ?_ _
              refine NoPanic.normal ?_
              iterate 11 (try clear hHeld)
              obtain ⟨l2, hl2⟩ : ∃ l2, l2 = sidesL J jp := ⟨_, rfl⟩
              rw [← hl2] at HAT ⊢
              have HL2 := Lib.hid (show l2 = sidesS J jp from by rw [hl2]; unfold sidesL; rw [if_pos HOJ.out])
              have hll2 : l2.length ≤ 1000 := by rw [hl2]; exact sidesL_len J jp
              clear hl2 j0 j1 j2 HMD HID HM HI2
              go_wp2_with fail
              refine wp_loopM jmD (fun f V => ∃ t : Nat, t ≤ l2.length ∧ f 272 = .int .i64 (t : Int) ∧ JM c J gx gl gh B lo hi w V ∧ IBlk V g 41 (zF J jp (l2.take t)) ∧ At V V.heap.size 2 sideC A2 l2) (fun f _ => l2.length - (intOf (f 272)).toNat) (by kernel_rfl) ⟨0, by omega, slotF_at rfl, HM3.out, HI3.out, HAT.out⟩ ?_
              clear HM3 HI3 HAT
              intro f4 Ve hrel
              obtain ⟨t, ht, e272, hm, hib, hat⟩ := hrel
              simp only [jmD, mixF, e272]
              have HE272 := Lib.hid e272
              have HM := Lib.hid hm
              have HI := Lib.hid hib
              have HAT := Lib.hid hat
              clear e272 hm hib hat
              by_cases htl : t < l2.length
              · have htlI : (t : Int) < (l2.length : Int) := by omega
                obtain ⟨q, hq⟩ : ∃ q, q = l2[t] := ⟨_, rfl⟩
                have hx : l2[t]? = some q := by rw [hq]; exact List.getElem?_eq_getElem htl
                obtain ⟨pb, off, eA, hpb, hcell⟩ := HAT.out t q hx
                have z0 : Ve.cell? ⟨pb, off + t * 2, none⟩ = some (.int .i64 q.1) := hcell 0 _ rfl
                have z1 : Ve.cell? ⟨pb, off + t * 2 + 1, none⟩ = some (.int .i64 q.2) := hcell 1 _ rfl
                have hqf : (-1 ≤ q.1 ∧ q.1 ≤ (N : Int) - 2) ∧ 1 ≤ q.2 ∧ q.2 ≤ 1000 := by
                  have h1 := HL2.out
                  subst h1
                  have h2 := side_at JD.out.ok jp htl
                  rw [← hq] at h2
                  have h3 := JD.out.great
                  have h4 := HNI.out
                  exact ⟨by omega, h2.2.2⟩
                obtain ⟨m, hm⟩ : ∃ m : Nat, (m : Int) = q.1 + 1 := ⟨(q.1 + 1).toNat, by omega⟩
                have hm41 : m < 41 := by omega
                have hmk : numK m = q.1 := by unfold numK; omega
                have hzq : zF J jp (l2.take t) m = q.2 := by
                  have h1 := HL2.out
                  subst h1
                  rw [hq]
                  exact zF_at htl (by rw [hmk, hq])
                have HZS := Lib.hid (fun j => zF_step (J := J) (jp := jp) htl j)
                rw [← hq] at HZS
                have n16 := nxA Ve (.cells #[.int .i64 q.1, .int .i64 q.2] 54)
                have X16 := Lib.hid (Bx.new Ve #[.int .i64 q.1, .int .i64 q.2] 54)
                have HMI := Lib.hid (HM.out.next n16)
                have HII := Lib.hid (HI.out.next n16)
                have HAI := Lib.hid (HAT.out.next n16)
                have x0 := X16.out.c 0 _ rfl
                have x1 := X16.out.c 1 _ rfl
                have y0 := HII.out.cell m hm41
                rw [hzq] at y0
                have y1 := HII.out.free m
                have hd1 : ¬ q.1 < -1 := by omega
                have hd2 : ¬ (N : Int) ≤ q.1 := by omega
                have hi1 : 0 ≤ q.1 + 1 := by omega
                have hi2 : q.1 + 1 < 41 := by omega
                have hi3 : (q.1 + 1).toNat = m := by omega
                have hw3 : IntKind.i64.wrap (q.1 + 1) = q.1 + 1 := IntWalk.i64_in _ (by omega)
                have hw4 : IntKind.i64.wrap ((t : Int) + 1) = (t : Int) + 1 := IntWalk.i64_in _ (by omega)
                have e2 : (q.2 != q.2) = false := by simp
                have HMU4 := Lib.hid (show l2.length - (t + 1) < l2.length - t from by omega)
                have HSET := Lib.hid (fun (V : World) (h : IBlk V g 41 (zF J jp (l2.take t))) => (show IBlk (V.setCell ⟨g, m, none⟩ (.int .i64 0)) g 41 (zF J jp (l2.take (t + 1))) from h.set_ hm41 (by rw [HZS.out, if_pos hmk]) (fun j hj => by rw [HZS.out, if_neg (fun e => hj (by unfold numK at e hmk; omega))])))
                have HNG := Lib.hid (show g ≠ Ve.heap.size from by have := HI.out.lt; omega)
                subst eA
                clear hx hq hcell n16 hpb hqf hm hmk hzq
                go_wp2_with (go_quiet (fail))
                refine endM (by kernel_rfl) (by kernel_rfl) ⟨t + 1, by omega, slotF_at rfl, HMI.out.drewN.set HGB.out _, HSET.out _ HII.out.drewN, sideIn (V := (Ve.alloc (.cells #[.int .i64 q.1, .int .i64 q.2] 54)).drewN _) HAI.out HFR.out⟩ ?_
                show l2.length - (intOf (slotF _ 272)).toNat < l2.length - (intOf (f4 272)).toNat
                rw [slotF_at rfl, HE272.out]
                have := HMU4.out
                simp [intOf]
                omega
              · have htlI : ¬ (t : Int) < (l2.length : Int) := by omega
                have HI2 := Lib.hid (show IBlk Ve g 41 (fun _ => 0) from HI.out.congr fun j => by
                  rw [List.take_of_length_le (by omega), HL2.out, zF_all JD.out.ok])
                have hrg := HI2.out.range
                clear ht HI HAT HL2 HE272 htl
                obtain ⟨L, hL⟩ : ∃ L, L = intsL 41 (fun _ => 0) := ⟨_, rfl⟩
                rw [← hL] at hrg
                have HRG := Lib.hid hrg
                have HAR := Lib.hid (show (Try.prog.info? 67).map (·.size) = some L.length from by rw [hL, intsL_len]; exact arr41_info)
                have HIX := Lib.hid (fun W i (h : i < 41) => idx41 W i h)
                rw [← hL] at HIX
                clear hrg hL
                go_wp2_with (refine wpList_load_mid rfl 67 (.tmp 25) rfl g 0 rfl L _ HRG.out arr41_und rfl HAR.out ?_)
                refine wp_loopM jmE (fun f V => ∃ i : Nat, i ≤ 41 ∧ f 301 = .int .i64 (i : Int) ∧ JM c J gx gl gh B lo hi w V) (fun f _ => 41 - (intOf (f 301)).toNat) (by kernel_rfl) ⟨0, by omega, slotF_at rfl, HM.out⟩ ?_
                clear HM
                intro f5 Vf hrel
                obtain ⟨i, hi, e301, hm⟩ := hrel
                simp only [jmE, mixF, e301]
                have HE301 := Lib.hid e301
                have HM := Lib.hid hm
                clear e301 hm
                by_cases hi41 : i < 41
                · have hiI : (i : Int) < 41 := by omega
                  have hix := fun W => HIX.out W i hi41
                  have hw5 : IntKind.i64.wrap ((i : Int) + 1) = (i : Int) + 1 := IntWalk.i64_in _ (by omega)
                  have HMU5 := Lib.hid (show 41 - (i + 1) < 41 - i from by omega)
                  go_wp2_with fail
                  refine endM (by kernel_rfl) (by kernel_rfl) ⟨i + 1, by omega, slotF_at rfl, HM.out⟩ ?_
                  show 41 - (intOf (slotF _ 301)).toNat < 41 - (intOf (f5 301)).toNat
                  rw [slotF_at rfl, HE301.out]
                  have := HMU5.out
                  simp [intOf]
                  omega
                · have hiI : ¬ (i : Int) < 41 := by omega
                  clear hi41 hi
                  go_wp2_with fail
                  refine endM (by kernel_rfl) (by kernel_rfl) ⟨p + 1, by omega, slotF_at rfl, HM.out⟩ ?_
                  show N - (intOf (slotF _ 24)).toNat < N - (intOf (f2 24)).toNat
                  rw [slotF_at rfl, HE24.out]
                  have := HMU.out
                  simp [intOf]
                  omega
        · have hpI : ¬ (p : Int) < (N : Int) := by omega
          clear hp
          go_wp2_with fail
          refine (awake_any Vb).mono ?_
          rintro e Vz ⟨rfl, hb⟩
          go_wp2_with fail
          go_ret
          exact ⟨rfl, HM.out.b.trans (hb.mono HM.out.b.size)⟩
    · have e3 : (joinE c a b == 0) = false := by simp [h0]
      have hjl : (J.piece.length : Int) = 0 := by rw [HJE.out, joinS_none h0]; rfl
      have e5 : ((J.piece.length : Int) == 0) = true := by rw [hjl]; rfl
      clear hjl
      by_cases h1 : (checkS c).2 = 0
      · rw [h1]
        clear h0
        have j0 := HXJ.out.c 0 _ rfl
        have j1 := HXJ.out.c 1 _ rfl
        have j2 := HXJ.out.c 2 _ rfl
        go_wp2_with fail
        refine (awake_any V7).mono ?_
        rintro e V8 ⟨rfl, hb⟩
        go_wp2_with fail
        go_ret
        exact ⟨rfl, HB.out.trans (hb.mono HB.out.size)⟩
      · rw [joinE_bad h1]
        rw [joinE_bad h1] at e3
        have e4 : ((checkS c).2 == (checkS c).2) = true := by simp
        generalize (checkS c).1 = n0 at *
        generalize (checkS c).2 = ee at *
        clear h0 h1
        have j0 := HXJ.out.c 0 _ rfl
        have j1 := HXJ.out.c 1 _ rfl
        have j2 := HXJ.out.c 2 _ rfl
        go_wp2_with fail
        refine (awake_any V7).mono ?_
        rintro e V8 ⟨rfl, hb⟩
        go_wp2_with fail
        go_ret
        exact ⟨rfl, HB.out.trans (hb.mono HB.out.size)⟩
end Go.Proofs.Ytjlicbdnppodgaa
