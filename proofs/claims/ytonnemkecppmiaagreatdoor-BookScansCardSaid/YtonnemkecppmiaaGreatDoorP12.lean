import Derived.Test.YtonnemkecppmiaaGreatDoorP8
import Derived.Laws.BitsAllLaws
namespace Go.Proofs.YtonnemkecppmiaaGreatDoor
open Go.RowKit
/-! The program: numbers in groups of seven bits. -/
/-- A list of bytes made anew. -/
def RetBs (t : Tx) (w : World) (e : Ending) (w' : World) : Prop := ∃ v, e = .returned v ∧ w'.ownsRow w.heap.size 5 1 v t.length (Lib.byteCells t) ∧ Below w.heap.size w w'
theorem i64_and_nat (a b : Nat) (ha : a < 9223372036854775808) (hb : b < 9223372036854775808) : bits .and .i64 (a : Int) (b : Int) = ((a &&& b : Nat) : Int) := by
  have hx : a &&& b < 2 ^ 63 := Nat.and_lt_two_pow _ (by omega)
  have h1 : (BitVec.ofInt 64 (a : Int)).toNat = a := by
    rw [BitVec.ofInt_natCast, BitVec.toNat_ofNat]; exact Nat.mod_eq_of_lt (by omega)
  have h2 : (BitVec.ofInt 64 (b : Int)).toNat = b := by
    rw [BitVec.ofInt_natCast, BitVec.toNat_ofNat]; exact Nat.mod_eq_of_lt (by omega)
  show IntKind.i64.wrap ((BitVec.ofInt 64 (a : Int) &&& BitVec.ofInt 64 (b : Int)).toNat : Int) = _
  rw [BitVec.toNat_and, h1, h2, IntKind.wrap_i64]
  omega
theorem i64_or_nat (a b : Nat) (ha : a < 9223372036854775808) (hb : b < 9223372036854775808) : bits .or .i64 (a : Int) (b : Int) = ((a ||| b : Nat) : Int) := by
  have hx : a ||| b < 2 ^ 63 := Nat.or_lt_two_pow (by omega) (by omega)
  have h1 : (BitVec.ofInt 64 (a : Int)).toNat = a := by
    rw [BitVec.ofInt_natCast, BitVec.toNat_ofNat]; exact Nat.mod_eq_of_lt (by omega)
  have h2 : (BitVec.ofInt 64 (b : Int)).toNat = b := by
    rw [BitVec.ofInt_natCast, BitVec.toNat_ofNat]; exact Nat.mod_eq_of_lt (by omega)
  show IntKind.i64.wrap ((BitVec.ofInt 64 (a : Int) ||| BitVec.ofInt 64 (b : Int)).toNat : Int) = _
  rw [BitVec.toNat_or, h1, h2, IntKind.wrap_i64]
  omega
theorem low7 {u : Nat} (h : u < 2097152) : bits .and .i64 (u : Int) 127 = ((u % 128 : Nat) : Int) := by
  rw [show (127 : Int) = ((127 : Nat) : Int) from rfl, i64_and_nat u 127 (by omega) (by omega), show (127 : Nat) = 2 ^ 7 - 1 from rfl, Nat.and_two_pow_sub_one_eq_mod]
theorem top7 {a : Nat} (h : a < 128) : bits .or .i64 (a : Int) 128 = ((a + 128 : Nat) : Int) := by
  rw [show (128 : Int) = ((128 : Nat) : Int) from rfl, i64_or_nat a 128 (by omega) (by omega), Nat.or_comm, show (128 : Nat) = 2 ^ 7 * 1 from rfl, ← Nat.two_pow_add_eq_or_of_lt h]
  congr 1
  omega
theorem grps_len : ∀ (l : List Nat), (∀ x ∈ l, x < 2097152) → (l.flatMap grp).length ≤ 3 * l.length
  | [], _ => by show 0 ≤ _; omega
  | x :: l, h => by
    have h1 := (grp_len (h x (List.mem_cons_self ..))).1
    have h2 := grps_len l fun y hy => h y (List.mem_cons_of_mem _ hy)
    rw [List.flatMap_cons, List.length_append, List.length_cons]
    omega
def ncell (n : Nat) : List Value := [.int .i64 (n : Int)]
def RGr (l : List Nat) (w0 : World) (v i : Value) (w : World) : Prop := ∃ k : Nat, k ≤ l.length ∧ i = .int .i64 k ∧ Below w0.heap.size w0 w ∧ w.ownsRow w0.heap.size 5 1 v ((l.take k).flatMap grp).length (Lib.byteCells ((l.take k).flatMap grp))
def RGi (full : Tx) (w0 : World) (v n : Value) (w : World) : Prop := ∃ (u : Nat) (t : Tx), u < 2097152 ∧ n = .int .i64 u ∧ t ++ grp u = full ∧ Below w0.heap.size w0 w ∧ w.ownsRow w0.heap.size 5 1 v t.length (Lib.byteCells t)
set_option maxRecDepth 100000 in
set_option maxHeartbeats 4000000 in
theorem groups_any (A : Option Addr) (c : Nat) (l : List Nat) (w : World) (h : At w w.heap.size 1 ncell A l) (hl : l.length ≤ 1000) (hok : ∀ x ∈ l, x < 2097152) : Calls Tryz.prog 90 #[.slice A l.length c] w (RetBs (l.flatMap grp) w) := by
  have HL := Lib.hid h
  have HO := Lib.hid hok
  clear h hok
  obtain ⟨i0, hi, hz0, hz1, hz2⟩ := info_parts byte_info
  go_enter Tryz.func90, Tryz.ntmps90
  go_wp2
  go_loopw [2, 7] (fun v i wr => RGr l w v i wr) (fun _ i _ => l.length - (intOf i).toNat)
  case atStart => exact ⟨0, by omega, rfl, Below.refl _ _, World.ownsRow_nil _ _ _ _⟩
  case round =>
    obtain ⟨k, hk, rfl, hb, hown⟩ := hrel
    have HB := Lib.hid hb
    have HOWN := Lib.hid hown
    clear hb hown
    by_cases hlt : k < l.length
    · obtain ⟨q, off, hA, hbk, hcs⟩ := HL.out.below HB.out k l[k] (List.getElem?_eq_getElem hlt)
      have hc := hcs 0 _ rfl
      rw [Nat.mul_one, Nat.add_zero] at hc
      have HX := Lib.hid (HO.out _ (List.getElem_mem hlt))
      have HT := Lib.hid (show (l.take (k + 1)).flatMap grp = (l.take k).flatMap grp ++ grp l[k] by rw [List.take_succ_eq_append_getElem hlt, List.flatMap_append]; simp)
      generalize l[k] = x at hc HX HT
      have hwk : IntKind.i64.wrap ((k : Int) + 1) = (k : Int) + 1 := IntWalk.i64_in _ (by omega)
      clear hcs
      subst hA
      go_wp2
      go_loopw [2, 4] (fun v n wr => RGi ((l.take (k + 1)).flatMap grp) w v n wr) (fun _ n _ => (intOf n).toNat)
      case atStart => exact ⟨x, _, HX.out, rfl, HT.out.symm, HB.out, HOWN.out⟩
      case round =>
        obtain ⟨u, t, hu, rfl, htf, hb, hown⟩ := hrel
        have HB2 := Lib.hid hb
        have HOW2 := Lib.hid hown
        have HTF := Lib.hid htf
        clear hb hown htf
        have HLT := Lib.hid (show t.length < 3001 by
          have h1 := grps_len (l.take (k + 1)) fun y hy => HO.out y (List.mem_of_mem_take hy)
          rw [← HTF.out, List.length_append, List.length_take] at h1
          omega)
        have hs2 := HB2.out.size
        by_cases hbig : 128 ≤ u
        · have d1 : (128 : Int) ≤ (u : Int) := by omega
          have e1 := low7 hu
          obtain ⟨y, hy⟩ : ∃ y, y = u % 128 + 128 := ⟨_, rfl⟩
          have e2 : bits .or .i64 ((u : Int) % 128) 128 = (y : Int) := by
            rw [hy, show ((u : Int) % 128) = ((u % 128 : Nat) : Int) by omega]
            exact top7 (show u % 128 < 128 by omega)
          have e3 : (y : Int) % 256 = y := by omega
          have HGR := Lib.hid (grp_big (show ¬ u < 128 by omega))
          rw [← hy] at HGR
          have HU8 := Lib.hid (u8_of (show y < 256 by omega))
          have HBC := Lib.hid (show Lib.byteCells (t ++ [UInt8.ofNat y]) = Lib.byteCells t ++ [.int .u8 (y : Int)] by rw [Lib.byteCells_append]; show _ ++ [Value.int .u8 ((UInt8.ofNat y).toNat : Int)] = _; rw [HU8.out])
          clear hy
          go_wp2_with (at_builtin; refine wpList_append_own _ rfl (.tmp 15) (.tmp 20) 37 rfl w.heap.size 5 i0 (.int .u8 0) 1 1 Tryz.underlying37 hi hz0 hz1 hz2 rfl (by decide) _ t.length _ rfl (HOW2.out.alloc _) ⟨wr.heap.size, 0, none⟩ 1 1 [.int .u8 (y : Int)] rfl rfl (cell_one_new _ _ _) (by simp [Value.oneCell']) (by unfold maxLen; have := HLT.out; omega) (by have := HLT.out; omega) (by simp; omega) ?_; intro v' w' hown' hgrow _)
          have HB3 := Lib.hid (Below.grown (HB2.out.alloc hs2 (.cells #[.int .u8 (y : Int)] 5)) hgrow (by simp; omega) (fun j hj => (HOW2.out.lt j hj).1))
          have HOW3 := Lib.hid (show w'.ownsRow w.heap.size 5 1 v' (t ++ [UInt8.ofNat y]).length (Lib.byteCells (t ++ [UInt8.ofNat y])) by rw [HBC.out, List.length_append]; exact hown')
          have HTF2 := Lib.hid (show (t ++ [UInt8.ofNat y]) ++ grp (u / 128) = (l.take (k + 1)).flatMap grp by rw [← HTF.out, HGR.out, List.append_assoc]; rfl)
          clear hown' hgrow
          go_wp2_with fail
          refine ⟨?_, ?_⟩
          · exact ⟨u / 128, t ++ [UInt8.ofNat y], by omega, by push_cast; rfl, HTF2.out, HB3.out, HOW3.out⟩
          · simp [intOf]; omega
        · have d1 : ¬ (128 : Int) ≤ (u : Int) := by omega
          have e3 : (u : Int) % 256 = u := by omega
          have HGR := Lib.hid (grp_small (show u < 128 by omega))
          have HU8 := Lib.hid (u8_of (show u < 256 by omega))
          have HBC := Lib.hid (show Lib.byteCells ((l.take (k + 1)).flatMap grp) = Lib.byteCells t ++ [.int .u8 (u : Int)] by rw [← HTF.out, HGR.out, Lib.byteCells_append]; show _ ++ [Value.int .u8 ((UInt8.ofNat u).toNat : Int)] = _; rw [HU8.out])
          have HBL := Lib.hid (show ((l.take (k + 1)).flatMap grp).length = t.length + 1 by rw [← HTF.out, HGR.out, List.length_append]; rfl)
          go_wp2_with (at_builtin; refine wpList_append_own _ rfl (.tmp 22) (.tmp 25) 37 rfl w.heap.size 5 i0 (.int .u8 0) 1 1 Tryz.underlying37 hi hz0 hz1 hz2 rfl (by decide) _ t.length _ rfl (HOW2.out.alloc _) ⟨wr.heap.size, 0, none⟩ 1 1 [.int .u8 (u : Int)] rfl rfl (cell_one_new _ _ _) (by simp [Value.oneCell']) (by unfold maxLen; have := HLT.out; omega) (by have := HLT.out; omega) (by simp; omega) ?_; intro v' w' hown' hgrow _)
          have HB3 := Lib.hid (Below.grown (HB2.out.alloc hs2 (.cells #[.int .u8 (u : Int)] 5)) hgrow (by simp; omega) (fun j hj => (HOW2.out.lt j hj).1))
          have HOW3 := Lib.hid (show w'.ownsRow w.heap.size 5 1 v' ((l.take (k + 1)).flatMap grp).length (Lib.byteCells ((l.take (k + 1)).flatMap grp)) by rw [HBC.out, HBL.out]; exact hown')
          clear hown' hgrow
          go_wp2_with fail
          (first | (refine ⟨?_, ?_⟩; (unfold RGr; exact ⟨k + 1, by omega, by go_num, HB3.out, HOW3.out⟩); (simp [intOf]; omega)) | (go_roundw; (case rel => (unfold RGr; exact ⟨k + 1, by omega, by go_num, HB3.out, HOW3.out⟩)); (case measure => (simp [intOf]; omega))) | (go_round; (case rel => (unfold RGr; exact ⟨k + 1, by omega, by go_num, HB3.out, HOW3.out⟩)); (case measure => (simp [intOf]; omega))))
    · obtain rfl : k = l.length := by omega
      rw [List.take_length] at HOWN
      go_wp2_with fail
      go_ret
      exact ⟨_, rfl, HOWN.out, HB.out⟩
end Go.Proofs.YtonnemkecppmiaaGreatDoor
