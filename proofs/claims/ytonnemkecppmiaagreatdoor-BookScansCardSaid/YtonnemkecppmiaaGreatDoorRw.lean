import Derived.Test.YtonnemkecppmiaaGreatDoorRc
namespace Go.Proofs.YtonnemkecppmiaaGreatDoor
open Go.RowKit
/-! The reference: WriteScans, take. -/
set_option maxRecDepth 100000 in
set_option maxHeartbeats 1000000 in
theorem WriteScansR_any (A : Option Addr) (c : Nat) (l : List Pc) (w : World) (h : At w w.heap.size 28 Pc.cells A l) (hl : l.length ≤ 9223372036854775807) : Calls Tryz.prog 19 #[.slice A l.length c] w (RetBE (wrS l).1 (wrS l).2 w) := by
  go_enter Tryz.func19, Tryz.ntmps19
  by_cases h1 : 12 < l.length
  · have hq : (12 : Int) < (l.length : Int) := by omega
    have hw : wrS l = ([], 3) := by unfold wrS; rw [if_pos h1]
    rw [hw]
    clear hw h1
    go_wp2
    go_ret2
    exact ⟨_, rfl, World.ownsRow_nil _ _ _ _, Below.refl _ _⟩
  · have hq : ¬ (12 : Int) < (l.length : Int) := by omega
    have HA := Lib.hid (Pieces_any A c l w h hl)
    have HL := Lib.hid h
    have HN := Lib.hid (show l.length ≤ 12 by omega)
    clear h
    cases ho : okPcs l
    · have hw : wrS l = ([], 1) := by unfold wrS; rw [if_neg h1, if_pos ho]
      rw [hw]
      rw [ho] at HA
      clear hw h1 ho
      go_wp2_with fail
      refine HA.out.mono ?_
      rintro e V ⟨rfl, hb⟩
      go_wp2_with fail
      go_ret2
      exact ⟨_, rfl, World.ownsRow_nil _ _ _ _, hb⟩
    · have hw : wrS l = (scanB l, 0) := by unfold wrS; rw [if_neg h1, if_neg (by rw [ho]; decide)]
      rw [hw]
      rw [ho] at HA
      have HO := Lib.hid ho
      clear hw h1 ho
      go_wp2_with fail
      refine HA.out.mono ?_
      rintro e V ⟨rfl, hb⟩
      have HY := Lib.hid (bytesR_any A c l V (HL.out.next hb) HO.out HN.out)
      have HB := Lib.hid hb
      clear hb
      go_wp2_with fail
      refine HY.out.mono ?_
      rintro e V2 ⟨v, rfl, hown, hb⟩
      go_wp2_with fail
      go_ret2
      exact ⟨_, rfl, own_base hown HB.out.size, HB.out.trans (hb.mono HB.out.size)⟩
/-- What take hands back. -/
def RetTk (A : Option Addr) (t : Tx) (w : World) (e : Ending) (w' : World) : Prop := ∃ A' c', e = .returned (.tuple #[.int .i64 ((takeR t).1 : Int), .slice A' (takeR t).2.length c']) ∧ (∀ W0 B0, BsAt W0 B0 A t → BsAt W0 B0 A' (takeR t).2) ∧ (takeR t).2.length ≤ c' ∧ (takeR t).1 < 2097152 ∧ Below w.heap.size w w'
def RTk (t : Tx) (w0 : World) (n u i : Value) (w : World) : Prop := ∃ (k a m : Nat), k ≤ 3 ∧ k ≤ t.length ∧ i = .int .i64 k ∧ n = .int .i64 a ∧ u = .int .i64 m ∧ m = 128 ^ k ∧ a < 128 ^ k ∧ nxt 3 0 1 t = nxt (3 - k) a m (t.drop k) ∧ w = w0
theorem At.drop1 {α : Type} {w : World} {B b off : Nat} {cells : α → List Value} {l : List α} (h : At w B 1 cells (some ⟨b, off, none⟩) l) (k : Nat) : At w B 1 cells (some ⟨b, off + k, none⟩) (l.drop k) := fun j x hx => by
  rw [List.getElem?_drop] at hx
  obtain ⟨q, o, e, hb, hc⟩ := h (k + j) x hx
  injection e with e
  injection e with e1 e2 _
  subst e1 e2
  refine ⟨b, off + k, rfl, hb, fun i u hu => ?_⟩
  have := hc i u hu
  rw [show off + k + j * 1 + i = off + (k + j) * 1 + i by omega]
  exact this
theorem nxt_len : ∀ (k a m : Nat) (t : Tx) {n : Nat} {r : Tx}, nxt k a m t = some (n, r) → r.length ≤ t.length
  | 0, _, _, _, _, _, h => by cases h
  | _ + 1, _, _, [], _, _, h => by cases h
  | k + 1, a, m, x :: t, n, r, h => by
    have h : (if x.toNat < 128 then some (a + x.toNat * m, t) else nxt k (a + (x.toNat - 128) * m) (m * 128) t) = some (n, r) := h
    split at h
    · injection h with h
      injection h with _ h
      subst h
      rw [List.length_cons]; omega
    · have := nxt_len k _ _ t h
      rw [List.length_cons]; omega
theorem takeR_len (t : Tx) : (takeR t).2.length ≤ t.length := by
  unfold takeR next3
  cases e : nxt 3 0 1 t with
  | none => exact Nat.zero_le _
  | some y => exact nxt_len 3 0 1 t e
theorem nxt_nil (k a m : Nat) : nxt k a m [] = none := by cases k <;> rfl
set_option maxRecDepth 100000 in
set_option maxHeartbeats 2000000 in
theorem take_any (A : Option Addr) (c : Nat) (t : Tx) (w : World) (h : BsAt w w.heap.size A t) (hl : t.length ≤ 1000000) (hc : t.length ≤ c) : Calls Tryz.prog 57 #[.slice A t.length c] w (RetTk A t w) := by
  have HL := Lib.hid h
  have HCP := Lib.hid hc
  clear h hc
  go_enter Tryz.func57, Tryz.ntmps57
  go_wp2_with fail
  go_loopw [4, 5, 6] (fun n u i wr => RTk t w n u i wr) (fun _ _ i _ => 3 - (intOf i).toNat)
  case atStart => exact ⟨0, 0, 1, by omega, by omega, rfl, rfl, rfl, rfl, by decide, rfl, rfl⟩
  case round =>
    obtain ⟨k, a, m, hk3, hkl, rfl, rfl, rfl, hm, ha, hn, hw⟩ := hrel
    have hw2 := hw.symm
    clear hw
    subst hw2
    have HN := Lib.hid hn
    clear hn
    have hwk : IntKind.i64.wrap ((k : Int) + 1) = (k : Int) + 1 := IntWalk.i64_in _ (by omega)
    by_cases hlt : k < t.length
    · by_cases hk2 : k < 3
      · have d1 : ((k : Int) < (t.length : Int)) = True := eq_true (by omega)
        have d2 : ((k : Int) < 3) = True := eq_true (by omega)
        obtain ⟨b, off, hA, hbk, hcs⟩ := HL.out k t[k] (List.getElem?_eq_getElem hlt)
        have hc0 := hcs 0 _ rfl
        rw [Nat.mul_one, Nat.add_zero] at hc0
        have HDR := Lib.hid (List.drop_eq_getElem_cons hlt)
        generalize t[k] = x at *
        have hx := x.toNat_lt
        change _ = some (Value.int .u8 (x.toNat : Int)) at hc0
        rw [HDR.out, show 3 - k = (3 - (k + 1)) + 1 by omega] at HN
        replace HN := Lib.hid (show nxt 3 0 1 t = if x.toNat < 128 then some (a + x.toNat * m, t.drop (k + 1)) else nxt (3 - (k + 1)) (a + (x.toNat - 128) * m) (m * 128) (t.drop (k + 1)) from HN.out)
        have hm1 : m ≤ 16384 := by
          rw [hm]
          exact Nat.le_trans (Nat.pow_le_pow_right (by decide) (show k ≤ 2 by omega)) (by decide)
        have HM2 := Lib.hid (show 128 * m = 128 ^ (k + 1) by rw [hm, Nat.pow_succ, Nat.mul_comm])
        rw [← hm] at ha
        obtain ⟨z, hz⟩ : ∃ z, z = x.toNat % 128 := ⟨_, rfl⟩
        have hz1 : ((x.toNat : Int) % 128) = (z : Int) := by rw [hz]; rfl
        have hz2 : z ≤ 127 := by omega
        have hpz : m * z ≤ 16384 * 127 := Nat.mul_le_mul hm1 hz2
        have HPZ := Lib.hid (show m * z + m ≤ 128 * m by have := Nat.mul_le_mul_left m hz2; omega)
        obtain ⟨p, hp⟩ : ∃ p, p = m * z := ⟨_, rfl⟩
        have hp1 : (m : Int) * (z : Int) = (p : Int) := by rw [hp]; push_cast; rfl
        rw [← hp] at hpz HPZ
        have hw1 : IntKind.i64.wrap (p : Int) = (p : Int) := IntWalk.i64_in _ (by omega)
        have hw3 : IntKind.i64.wrap ((a : Int) + (p : Int)) = (a : Int) + (p : Int) := IntWalk.i64_in _ (by omega)
        have hw4 : IntKind.i64.wrap (128 * (m : Int)) = 128 * (m : Int) := IntWalk.i64_in _ (by omega)
        have HZ := Lib.hid hz
        have HPP := Lib.hid hp
        have HMM := Lib.hid hm
        clear hz hp hm hcs HDR
        subst hA
        by_cases hlo : x.toNat < 128
        · have hq : ((x.toNat : Int) < 128) = True := eq_true (by omega)
          have HV := Lib.hid (show takeR t = (a + p, t.drop (k + 1)) by
            unfold takeR next3
            rw [HN.out, if_pos hlo]
            show (a + x.toNat * m, _) = _
            rw [HPP.out, HZ.out, Nat.mod_eq_of_lt hlo, Nat.mul_comm])
          have hsl : (0 ≤ (k : Int) + 1 ∧ (k : Int) + 1 ≤ (t.length : Int)) = True := eq_true ⟨by omega, by omega⟩
          clear HN
          have hcp := HCP.out
          go_wp2_with (go_quiet (fail))
          all_goals
            go_ret2
            refine ⟨_, _, by rw [HV.out, List.length_drop]; push_cast; rfl, ?_, ?_, ?_, below_drewN (Below.refl _ _) _⟩
          all_goals first
            | (rw [HV.out]; show a + p < 2097152; omega)
            | (rw [HV.out]; intro W0 B0 h0; exact At.drop1 h0 (k + 1))
            | (rw [HV.out]; intro W0 B0 h0 j u hj; rw [List.getElem?_drop] at hj; have := (List.getElem?_eq_some_iff.1 hj).1; omega)
            | (rw [HV.out, List.length_drop]; omega)
        · have hq : ((x.toNat : Int) < 128) = False := eq_false (by omega)
          have HN2 := Lib.hid (show nxt 3 0 1 t = nxt (3 - (k + 1)) (a + p) (128 * m) (t.drop (k + 1)) by
            rw [HN.out, if_neg hlo, HPP.out, HZ.out, Nat.mul_comm m 128, show x.toNat % 128 = x.toNat - 128 by omega, Nat.mul_comm m (x.toNat - 128)])
          clear HN
          go_wp2_with fail
          (first | (refine ⟨?_, ?_⟩; (unfold RTk; exact ⟨k + 1, a + p, 128 * m, by omega, by omega, by go_num, by push_cast; rfl, by push_cast; rfl, HM2.out, by rw [← HM2.out]; have := HPZ.out; omega, HN2.out, rfl⟩); (simp [intOf]; omega)) | (go_roundw; (case rel => (unfold RTk; exact ⟨k + 1, a + p, 128 * m, by omega, by omega, by go_num, by push_cast; rfl, by push_cast; rfl, HM2.out, by rw [← HM2.out]; have := HPZ.out; omega, HN2.out, rfl⟩)); (case measure => (simp [intOf]; omega))) | (go_round; (case rel => (unfold RTk; exact ⟨k + 1, a + p, 128 * m, by omega, by omega, by go_num, by push_cast; rfl, by push_cast; rfl, HM2.out, by rw [← HM2.out]; have := HPZ.out; omega, HN2.out, rfl⟩)); (case measure => (simp [intOf]; omega))))
      · obtain rfl : k = 3 := by omega
        have d1 : (((3 : Nat) : Int) < (t.length : Int)) = True := eq_true (by omega)
        have HV := Lib.hid (show takeR t = (0, []) by unfold takeR next3; rw [HN.out]; rfl)
        go_wp2_with fail
        go_ret2
        refine ⟨none, 0, by rw [HV.out]; rfl, by rw [HV.out]; intro W0 B0 _ j u hj; simp at hj, by rw [HV.out]; exact Nat.le_refl _, by rw [HV.out]; decide, Below.refl _ _⟩
    · obtain rfl : k = t.length := by omega
      have d1 : ((t.length : Int) < (t.length : Int)) = False := eq_false (by omega)
      have HV := Lib.hid (show takeR t = (0, []) by unfold takeR next3; rw [HN.out, List.drop_length, nxt_nil]; rfl)
      go_wp2_with fail
      go_ret2
      refine ⟨none, 0, by rw [HV.out]; rfl, by rw [HV.out]; intro W0 B0 _ j u hj; simp at hj, by rw [HV.out]; exact Nat.le_refl _, by rw [HV.out]; decide, Below.refl _ _⟩
end Go.Proofs.YtonnemkecppmiaaGreatDoor
