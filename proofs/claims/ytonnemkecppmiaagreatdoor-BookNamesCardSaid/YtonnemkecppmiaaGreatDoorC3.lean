import Derived.Test.YtonnemkecppmiaaGreatDoorC1
namespace Go.Proofs.YtonnemkecppmiaaGreatDoor
open Go.RowKit
/-! The law BookNames. -/
theorem wrS0 : wrS [] = ([0, 0], 0) := by
  have h : scanB [] = [0, 0] := by kernel_rfl
  unfold wrS
  rw [if_neg (by decide), if_neg (by decide), h]
def b1 : Tx := [1, 0, 0, 0, 0, 255]
def b2 : Tx := [1, 0, 0, 0, 0, 0]
def l1 : Tx := [43, 48, 32, 49, 32, 55, 10]
def l2 : Tx := [43, 53, 32, 56, 32, 49, 10]
theorem sum1 : sumB b1 = 0 := by kernel_rfl
theorem sum2 : sumB b2 = 1 := by kernel_rfl
theorem rs1 : rsV b1 = [pc0] ∧ rsE b1 = 0 := by
  have h : readS b1 = some [pc0] := readS_iff.2 ⟨by decide, by decide, by kernel_rfl⟩
  unfold rsV rsE
  rw [if_neg (by rw [sum1]; decide), if_neg (by decide), if_neg (by decide), if_neg (by rw [sum1]; decide), h]
  exact ⟨rfl, rfl⟩
theorem rs2 : rsE b2 = 11 := by
  unfold rsE
  rw [if_neg (by decide), if_neg (by decide), if_pos (by rw [sum2]; decide)]
theorem rl1 : rlE l1 = 8 := by
  have h : readLg l1 = none := by kernel_rfl
  unfold rlE
  rw [if_neg (by decide), h]
  rfl
theorem rl2 : rlE l2 = 8 := by
  have h : readLg l2 = none := by kernel_rfl
  unfold rlE
  rw [if_neg (by decide), h]
  rfl
theorem row_bs {W : World} {p : Nat} {t : Tx} (h : Bx W p (t.flatMap u8c)) (hb : p < W.heap.size) : BsAt W W.heap.size (some ⟨p, 0, none⟩) t :=
  fun k x hx => ⟨p, 0, rfl, hb, fun j u hu => by rw [Nat.zero_add]; exact h.c _ _ (flat_get (fun x => (rfl : (u8c x).length = 1)) t k x j u hx hu)⟩
theorem row_pc {W : World} {p : Nat} {l : List Pc} (h : Bx W p (l.flatMap Pc.cells)) (hb : p < W.heap.size) : At W W.heap.size 28 Pc.cells (some ⟨p, 0, none⟩) l :=
  fun k x hx => ⟨p, 0, rfl, hb, fun j u hu => by rw [Nat.zero_add]; exact h.c _ _ (flat_get pc_len l k x j u hx hu)⟩
set_option maxRecDepth 100000 in
set_option maxHeartbeats 4000000 in
theorem BookNames_walk (w : World) (hE : Env w) : Calls Tryz.prog 5 #[] w (Ret (.bool true) w) := by
  have HE := Lib.hid hE
  have HB := Lib.hid (Below.refl w.heap.size w)
  clear hE
  have HW := Lib.hid (fun (W : World) => (by have := WriteScans_any none 0 [] W At.nil (by decide); rw [wrS0] at this; exact this : Calls Tryz.prog 18 #[.slice none 0 0] W (RetBE [0, 0] 0 W)))
  have HR1 := Lib.hid (fun (A : Option Addr) (c : Nat) (W : World) (h1 : Env W) (h : BsAt W W.heap.size A b1) => (ReadScans_any A c b1 W h1 h : Calls Tryz.prog 20 #[.slice A 6 c] W (RetRs b1 W)))
  have HR2 := Lib.hid (fun (A : Option Addr) (c : Nat) (W : World) (h1 : Env W) (h : BsAt W W.heap.size A b2) => (ReadScans_any A c b2 W h1 h : Calls Tryz.prog 20 #[.slice A 6 c] W (RetRs b2 W)))
  have HL1 := Lib.hid (fun (W : World) (h1 : Env W) => ReadLog_any l1 W h1)
  have HL2 := Lib.hid (fun (W : World) (h1 : Env W) => ReadLog_any l2 W h1)
  have hs : (([0, 0] : Tx) == [0, 0]) = true := rfl
  go_enter Tryz.func5, Tryz.ntmps5
  go_wp2_with fail
  refine (HW.out w).mono ?_
  rintro e W0 ⟨v0, rfl, ho, hb⟩
  replace HE := Lib.hid (HE.out.next hb)
  replace HB := Lib.hid (HB.out.trans (hb.mono HB.out.size))
  have HO := Lib.hid ho
  clear ho
  clear hb
  have HN := Lib.hid (nxA W0 (.cells #[.int .u8 1, .int .u8 0, .int .u8 0, .int .u8 0, .int .u8 0, .int .u8 255] 5))
  have HX1 := Lib.hid (Bx.new W0 #[.int .u8 1, .int .u8 0, .int .u8 0, .int .u8 0, .int .u8 0, .int .u8 255] 5)
  go_wp2_with fail
  generalize (W0.alloc (.cells #[.int .u8 1, .int .u8 0, .int .u8 0, .int .u8 0, .int .u8 0, .int .u8 255] 5)) = V1 at *
  obtain ⟨p1, hp1⟩ : ∃ b, b = W0.heap.size := ⟨_, rfl⟩
  rw [← hp1] at HX1 ⊢
  have hb := HN.out
  replace HE := Lib.hid (HE.out.next hb)
  replace HB := Lib.hid (HB.out.trans (hb.mono HB.out.size))
  replace HO := Lib.hid (own_below HO.out hb)
  clear hb hp1 HN
  have HX1A := Lib.hid (row_bs (t := b1) HX1.out HX1.out.lt)
  clear HX1
  refine (HR1.out _ 6 V1 HE.out HX1A.out).mono ?_
  rintro e W1 ⟨v1, rfl, ho, hb⟩
  replace HE := Lib.hid (HE.out.next hb)
  replace HB := Lib.hid (HB.out.trans (hb.mono HB.out.size))
  replace HO := Lib.hid (own_below HO.out hb)
  rw [rs1.2]
  rw [rs1.1] at ho
  have HO1 := Lib.hid ho
  clear ho HX1A
  clear hb
  have HN := Lib.hid (nxA W1 (.cells #[.int .u8 1, .int .u8 0, .int .u8 0, .int .u8 0, .int .u8 0, .int .u8 0] 5))
  have HX2 := Lib.hid (Bx.new W1 #[.int .u8 1, .int .u8 0, .int .u8 0, .int .u8 0, .int .u8 0, .int .u8 0] 5)
  go_wp2_with fail
  generalize (W1.alloc (.cells #[.int .u8 1, .int .u8 0, .int .u8 0, .int .u8 0, .int .u8 0, .int .u8 0] 5)) = V2 at *
  obtain ⟨p2, hp2⟩ : ∃ b, b = W1.heap.size := ⟨_, rfl⟩
  rw [← hp2] at HX2 ⊢
  have hb := HN.out
  replace HE := Lib.hid (HE.out.next hb)
  replace HB := Lib.hid (HB.out.trans (hb.mono HB.out.size))
  replace HO := Lib.hid (own_below HO.out hb)
  replace HO1 := Lib.hid (own_below HO1.out hb)
  clear hb hp2 HN
  have HX2A := Lib.hid (row_bs (t := b2) HX2.out HX2.out.lt)
  clear HX2
  refine (HR2.out _ 6 V2 HE.out HX2A.out).mono ?_
  rintro e W2 ⟨v2, rfl, -, hb⟩
  replace HE := Lib.hid (HE.out.next hb)
  replace HB := Lib.hid (HB.out.trans (hb.mono HB.out.size))
  replace HO := Lib.hid (own_below HO.out hb)
  replace HO1 := Lib.hid (own_below HO1.out hb)
  rw [rs2]
  clear HX2A
  clear hb
  go_wp2_with fail
  refine (HL1.out _ HE.out).mono ?_
  rintro e W3 ⟨v3, rfl, -, hb⟩
  replace HE := Lib.hid (HE.out.next hb)
  replace HB := Lib.hid (HB.out.trans (hb.mono HB.out.size))
  replace HO := Lib.hid (own_below HO.out hb)
  replace HO1 := Lib.hid (own_below HO1.out hb)
  rw [rl1]
  clear hb
  go_wp2_with fail
  refine (HL2.out _ HE.out).mono ?_
  rintro e W4 ⟨v4, rfl, -, hb⟩
  replace HE := Lib.hid (HE.out.next hb)
  replace HB := Lib.hid (HB.out.trans (hb.mono HB.out.size))
  replace HO := Lib.hid (own_below HO.out hb)
  replace HO1 := Lib.hid (own_below HO1.out hb)
  rw [rl2]
  clear hb
  go_wp2_with fail
  refine (alive_any _ HE.out).mono ?_
  rintro e W5 ⟨rfl, hb⟩
  replace HE := Lib.hid (HE.out.next hb)
  replace HB := Lib.hid (HB.out.trans (hb.mono HB.out.size))
  replace HO := Lib.hid (own_below HO.out hb)
  replace HO1 := Lib.hid (own_below HO1.out hb)
  obtain ⟨A1, c1, e1, ha1⟩ := own_at pc_len (by decide) HO1.out
  subst e1
  have HA1 := Lib.hid ha1
  clear ha1 HO1
  clear hb
  obtain ⟨g0, cap0, e0, -⟩ := HO.out.form (by decide)
  subst e0
  have hcv : (convert 37 9 (.slice (some ⟨g0, 0, none⟩) 2 cap0)).run Tryz.prog W5 = .ok (tx [0, 0]) W5 := cv_own (n := 2) rfl HO.out
  have HN := Lib.hid (nxA W5 (.cells #[.int .i64 0, .int .i64 0, .int .i64 0, .int .i64 0, .int .i64 0, .int .i64 0, .int .i64 0, .int .i64 0, .int .i64 0, .int .i64 0, .int .i64 0, .int .i64 0, .int .i64 0, .int .i64 0, .int .i64 0, .int .i64 0, .int .i64 0, .int .i64 0, .int .i64 0, .int .i64 0, .int .i64 0, .int .i64 0, .int .i64 0, .int .i64 0, .int .i64 0, .int .i64 0, .int .i64 0, .int .i64 0] 51))
  have HX3 := Lib.hid (Bx.new W5 #[.int .i64 0, .int .i64 0, .int .i64 0, .int .i64 0, .int .i64 0, .int .i64 0, .int .i64 0, .int .i64 0, .int .i64 0, .int .i64 0, .int .i64 0, .int .i64 0, .int .i64 0, .int .i64 0, .int .i64 0, .int .i64 0, .int .i64 0, .int .i64 0, .int .i64 0, .int .i64 0, .int .i64 0, .int .i64 0, .int .i64 0, .int .i64 0, .int .i64 0, .int .i64 0, .int .i64 0, .int .i64 0] 51)
  go_wp2_with fail
  generalize (W5.alloc (.cells #[.int .i64 0, .int .i64 0, .int .i64 0, .int .i64 0, .int .i64 0, .int .i64 0, .int .i64 0, .int .i64 0, .int .i64 0, .int .i64 0, .int .i64 0, .int .i64 0, .int .i64 0, .int .i64 0, .int .i64 0, .int .i64 0, .int .i64 0, .int .i64 0, .int .i64 0, .int .i64 0, .int .i64 0, .int .i64 0, .int .i64 0, .int .i64 0, .int .i64 0, .int .i64 0, .int .i64 0, .int .i64 0] 51)) = V3 at *
  obtain ⟨p3, hp3⟩ : ∃ b, b = W5.heap.size := ⟨_, rfl⟩
  rw [← hp3] at HX3 ⊢
  have hb := HN.out
  replace HE := Lib.hid (HE.out.next hb)
  replace HB := Lib.hid (HB.out.trans (hb.mono HB.out.size))
  replace HO := Lib.hid (own_below HO.out hb)
  replace HA1 := Lib.hid (HA1.out.next hb)
  clear hb hp3 HN
  have HX3A := Lib.hid (row_pc (l := [pc0]) HX3.out HX3.out.lt)
  clear HX3
  refine ((SamePieces_any A1 (some ⟨p3, 0, none⟩) c1 1 [pc0] [pc0] V3 HA1.out HX3A.out (by decide) : Calls Tryz.prog 22 #[.slice A1 1 c1, .slice (some ⟨p3, 0, none⟩) 1 1] V3 (Ret (.bool (decide ([pc0] = [pc0]))) V3))).mono ?_
  rintro e W6 ⟨rfl, hb⟩
  replace HE := Lib.hid (HE.out.next hb)
  replace HB := Lib.hid (HB.out.trans (hb.mono HB.out.size))
  replace HO := Lib.hid (own_below HO.out hb)
  replace HA1 := Lib.hid (HA1.out.next hb)
  rw [show decide ([pc0] = [pc0]) = true from decide_eq_true rfl]
  clear hb
  go_wp2_with fail
  go_ret
  exact ret_bool rfl HB.out
end Go.Proofs.YtonnemkecppmiaaGreatDoor
