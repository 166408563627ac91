import Derived.Test.YtonnemkecppmiaaGreatDoorP12
import Derived.Lib.AppendZeros
namespace Go.Proofs.YtonnemkecppmiaaGreatDoor
open Go.RowKit
/-! The program: lists of bytes: slices.Grow and slices.Concat, sums, the bytes of a side. -/
theorem zcells_size (n : Nat) : (Builtin.zeroCells #[.int .u8 0] n).size = n := by
  simp [Builtin.zeroCells]
set_option maxHeartbeats 1000000 in
theorem grow_any (n : Nat) (w : World) (h0 : 0 < n) (h1 : n ≤ 3000) : Calls Tryz.prog 175 #[.slice none 0 0, .int .i64 n] w fun e w' => ∃ v, e = .returned v ∧ w'.ownsRow w.heap.size 5 1 v 0 [] ∧ Below w.heap.size w w' := by
  obtain ⟨i0, hi, hz0, hz1, hz2⟩ := info_parts byte_info
  have hlt : ¬ ((n : Int) < 0) := by omega
  have hgt : (0 : Int) < (n : Int) := by omega
  have HR := Lib.hid (Lib.run_append_nil_zeros (P := Tryz.prog) w 37 3 37 5 i0 (.int .u8 0) .i64 .i64 Tryz.underlying37 Tryz.underlying3 hi hz0 n h0 (by omega) (by omega) (by rw [hz2]; omega))
  have HG := Lib.hid (grownCap_ge w n 0 5)
  have HM := Lib.hid (grownCap_le_maxLen w n 0 5 (by unfold maxLen; omega))
  generalize grownCap w n 0 5 = G at HR HG HM
  have hg0 : 0 ≤ G := Nat.zero_le _
  have hgm : G ≤ 9223372036854775807 := by have := HM.out; unfold maxLen at this; omega
  go_enter Tryz.func175, Tryz.ntmps175
  go_wp2_with (at_builtin; refine Lib.wpList_append_run _ rfl (.tmp 20) (.tmp 21) 37 3 rfl _ _ rfl rfl _ _ HR.out ?_)
  go_ret
  refine ⟨_, rfl, ⟨by simp, .inr ⟨w.heap.size, G, _, rfl, Nat.le_refl _, heap_alloc_new w _, Nat.zero_le _, HM.out, ?_, by simp⟩⟩, ((Below.refl w.heap.size w).alloc (Nat.le_refl _) _).drew⟩
  rw [Array.size_append, zcells_size, zcells_size]
  have := HG.out
  omega
theorem addr_add (b o j : Nat) : (⟨b, o, none⟩ : Addr).add j = ⟨b, o + j, none⟩ := by unfold Addr.add; split <;> simp_all
/-- A list of bytes in memory. -/
structure Sl where
  t : Tx
  b : Nat
  o : Nat
  c : Nat
def Sl.v (s : Sl) : Value := .slice (some ⟨s.b, s.o, none⟩) s.t.length s.c
def slv (s : Sl) : List Value := [s.v]
def SlAt (w : World) (B : Nat) (s : Sl) : Prop := s.b < B ∧ ∀ j u, (Lib.byteCells s.t)[j]? = some u → w.cell? ⟨s.b, s.o + j, none⟩ = some u
theorem SlAt.below {w w' : World} {B : Nat} {s : Sl} (h : SlAt w B s) (hb : Below B w w') : SlAt w' B s := ⟨h.1, fun j u hu => (hb.cell (p := ⟨s.b, s.o + j, none⟩) h.1).trans (h.2 j u hu)⟩
theorem byte_one (t : Tx) : ∀ u ∈ Lib.byteCells t, u.oneCell' = true := fun u hu => by
  unfold Lib.byteCells at hu
  obtain ⟨c, -, rfl⟩ := List.mem_map.1 hu
  rfl
def catS (l : List Sl) : Tx := l.flatMap (·.t)
theorem catS_take {l : List Sl} {k : Nat} (hk : k < l.length) : catS (l.take (k + 1)) = catS (l.take k) ++ l[k].t := by
  unfold catS; rw [List.take_succ_eq_append_getElem hk, List.flatMap_append]; simp
theorem catS_len (l : List Sl) (k : Nat) : (catS (l.take k)).length ≤ (catS l).length := by
  have h : catS l = catS (l.take k) ++ catS (l.drop k) := by unfold catS; rw [← List.flatMap_append, List.take_append_drop]
  rw [h, List.length_append]; omega
def RC1 (l : List Sl) (w0 : World) (z i : Value) (w : World) : Prop := ∃ k : Nat, k ≤ l.length ∧ i = .int .i64 k ∧ z = .int .i64 ((catS (l.take k)).length : Nat) ∧ w = w0
def RC2 (l : List Sl) (w0 : World) (v i : Value) (w : World) : Prop := ∃ k : Nat, k ≤ l.length ∧ i = .int .i64 k ∧ Below w0.heap.size w0 w ∧ w.ownsRow w0.heap.size 5 1 v (catS (l.take k)).length (Lib.byteCells (catS (l.take k)))
set_option maxRecDepth 100000 in
set_option maxHeartbeats 4000000 in
theorem concat_any (A : Option Addr) (c : Nat) (l : List Sl) (w : World) (h : At w w.heap.size 1 slv A l) (hs : ∀ s ∈ l, SlAt w w.heap.size s) (h0 : 0 < (catS l).length) (h1 : (catS l).length ≤ 3000) (hl : l.length ≤ 1000) :
    Calls Tryz.prog 174 #[.slice A l.length c] w (RetBs (catS l) w) := by
  have HL := Lib.hid h
  have HS := Lib.hid hs
  have HLE := Lib.hid h1
  have HPO := Lib.hid h0
  clear h hs h0 h1
  obtain ⟨i0, hi, hz0, hz1, hz2⟩ := info_parts byte_info
  go_enter Tryz.func174, Tryz.ntmps174
  go_wp2
  go_loopw [3, 11] (fun z i wr => RC1 l w z i wr) (fun _ i _ => l.length - (intOf i).toNat)
  case atStart => exact ⟨0, by omega, rfl, rfl, rfl⟩
  case round =>
    obtain ⟨k, hk, rfl, rfl, hw⟩ := hrel
    have hw2 := hw.symm
    clear hw
    subst hw2
    by_cases hlt : k < l.length
    · obtain ⟨q, off, hA, hbk, hcs⟩ := HL.out k l[k] (List.getElem?_eq_getElem hlt)
      have hc := hcs 0 _ rfl
      rw [Nat.mul_one, Nat.add_zero] at hc
      have HT := Lib.hid (catS_take hlt)
      have HT2 := Lib.hid (catS_len l (k + 1))
      generalize l[k] = s at hc HT
      obtain ⟨n, hn⟩ : ∃ n, (catS (l.take k)).length = n := ⟨_, rfl⟩
      have hn2 : (catS (l.take (k + 1))).length = n + s.t.length := by rw [HT.out, List.length_append, hn]
      rw [hn2] at HT2
      have hsm : n + s.t.length ≤ 3000 := Nat.le_trans HT2.out HLE.out
      rw [hn]
      have HN2 := Lib.hid hn2
      clear hn hn2 hcs
      change _ = some (Value.slice (some ⟨s.b, s.o, none⟩) s.t.length s.c) at hc
      have hwk : IntKind.i64.wrap ((k : Int) + 1) = (k : Int) + 1 := IntWalk.i64_in _ (by omega)
      have hwn : IntKind.i64.wrap ((n : Int) + (s.t.length : Int)) = (n : Int) + (s.t.length : Int) := IntWalk.i64_in _ (by omega)
      have hng : ¬ ((n : Int) + (s.t.length : Int) < 0) := by omega
      subst hA
      go_wp2_with fail
      (first | (refine ⟨?_, ?_⟩; (unfold RC1; exact ⟨k + 1, by omega, by go_num, by rw [HN2.out]; push_cast; rfl, rfl⟩); (simp [intOf]; omega)) | (go_roundw; (case rel => (unfold RC1; exact ⟨k + 1, by omega, by go_num, by rw [HN2.out]; push_cast; rfl, rfl⟩)); (case measure => (simp [intOf]; omega))) | (go_round; (case rel => (unfold RC1; exact ⟨k + 1, by omega, by go_num, by rw [HN2.out]; push_cast; rfl, rfl⟩)); (case measure => (simp [intOf]; omega))))
    · obtain rfl : k = l.length := by omega
      rw [List.take_length]
      obtain ⟨n, hn⟩ : ∃ n, (catS l).length = n := ⟨_, rfl⟩
      rw [hn]
      have HGR := Lib.hid (grow_any n w (by rw [← hn]; exact HPO.out) (by rw [← hn]; exact HLE.out))
      have HN := Lib.hid hn
      clear hn
      go_wp2_with fail
      refine HGR.out.mono ?_
      rintro e V ⟨v, rfl, hown, hb⟩
      have HOWN := Lib.hid hown
      have HB := Lib.hid hb
      clear hown hb
      go_wp2_with fail
      go_loopw [6, 27] (fun v i wr => RC2 l w v i wr) (fun _ i _ => l.length - (intOf i).toNat)
      case atStart => exact ⟨0, by omega, rfl, HB.out, HOWN.out⟩
      case round =>
        obtain ⟨k, hk, rfl, hb, hown⟩ := hrel
        have HB := Lib.hid hb
        have HOWN := Lib.hid hown
        clear hb hown
        by_cases hlt : k < l.length
        · obtain ⟨q, off, hA, hbk, hcs⟩ := HL.out.below HB.out k l[k] (List.getElem?_eq_getElem hlt)
          have hc := hcs 0 _ rfl
          rw [Nat.mul_one, Nat.add_zero] at hc
          have HT := Lib.hid (catS_take hlt)
          have HT2 := Lib.hid (Nat.le_trans (catS_len l (k + 1)) HLE.out)
          have HSL := Lib.hid ((HS.out _ (List.getElem_mem hlt)).below HB.out)
          generalize l[k] = s at hc HT HSL
          have HSN := Lib.hid (show ∀ (j : Nat) u, (Lib.byteCells s.t)[j]? = some u → wr.cell? ((⟨s.b, s.o, none⟩ : Addr).add j) = some u from fun j u hu => by rw [addr_add]; exact HSL.out.2 j u hu)
          have HLN := Lib.hid (show (catS (l.take k)).length + s.t.length = (catS (l.take (k + 1))).length by rw [HT.out, List.length_append])
          have HBC := Lib.hid (show Lib.byteCells (catS (l.take (k + 1))) = Lib.byteCells (catS (l.take k)) ++ Lib.byteCells s.t by rw [HT.out, Lib.byteCells_append])
          clear hcs
          change _ = some (Value.slice (some ⟨s.b, s.o, none⟩) s.t.length s.c) at hc
          have hwk : IntKind.i64.wrap ((k : Int) + 1) = (k : Int) + 1 := IntWalk.i64_in _ (by omega)
          subst hA
          go_wp2_with (at_builtin; refine wpList_append_own _ rfl (.tmp 31) (.tmp 32) 37 rfl w.heap.size 5 i0 (.int .u8 0) 1 1 Tryz.underlying37 hi hz0 hz1 hz2 rfl (by decide) _ (catS (l.take k)).length _ rfl HOWN.out ⟨s.b, s.o, none⟩ s.t.length s.c (Lib.byteCells s.t) rfl (by rw [Lib.byteCells_length, Nat.mul_one]) HSN.out (byte_one s.t) (by unfold maxLen; have := HLN.out; have := HT2.out; omega) (by have := HLN.out; have := HT2.out; omega) HB.out.size ?_; intro v' w' hown' hgrow _)
          have HB3 := Lib.hid (Below.grown HB.out hgrow HB.out.size (fun j hj => (HOWN.out.lt j hj).1))
          have HOW3 := Lib.hid (show w'.ownsRow w.heap.size 5 1 v' (catS (l.take (k + 1))).length (Lib.byteCells (catS (l.take (k + 1)))) by rw [HBC.out, ← HLN.out]; exact hown')
          clear hown' hgrow
          go_wp2_with fail
          (first | (refine ⟨?_, ?_⟩; (unfold RC2; exact ⟨k + 1, by omega, by go_num, HB3.out, HOW3.out⟩); (simp [intOf]; omega)) | (go_roundw; (case rel => (unfold RC2; exact ⟨k + 1, by omega, by go_num, HB3.out, HOW3.out⟩)); (case measure => (simp [intOf]; omega))) | (go_round; (case rel => (unfold RC2; exact ⟨k + 1, by omega, by go_num, HB3.out, HOW3.out⟩)); (case measure => (simp [intOf]; omega))))
        · obtain rfl : k = l.length := by omega
          rw [List.take_length] at HOWN
          go_wp2_with fail
          go_ret
          exact ⟨_, rfl, HOWN.out, HB.out⟩
end Go.Proofs.YtonnemkecppmiaaGreatDoor
