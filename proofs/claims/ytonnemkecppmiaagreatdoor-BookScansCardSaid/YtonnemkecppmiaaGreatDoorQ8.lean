import Derived.Test.YtonnemkecppmiaaGreatDoorQ3
import Derived.Test.YtonnemkecppmiaaGreatDoorP12
import Derived.Test.YtonnemkecppmiaaGreatDoorR5
namespace Go.Proofs.YtonnemkecppmiaaGreatDoor
open Go.RowKit
/-! The program: next: the next number of bytes. -/
/-- A number was taken off the text in block b, or the form was missed. -/
def Nxt (o : Option (Nat × Tx)) (b : Nat) (w : World) (e : Ending) (w' : World) : Prop := match o with
  | some (n, r) => e = .returned (.int .i64 (n : Int)) ∧ Bx w' b [tx r] ∧ w.grownBy w' (some b)
  | none => e = .panicked [{ v := .iface 129 (.agg #[]), recovered := false }] ∧ w.grownBy w' (some b)
def RNx (s : Tx) (b : Nat) (w0 : World) (n sh : Value) (w : World) : Prop := ∃ (k acc : Nat) (r : Tx), k ≤ 3 ∧ n = .int .i64 acc ∧ sh = .int .i64 ((7 * k : Nat) : Int) ∧ acc < 128 ^ k ∧ Bx w b [tx r] ∧ w0.grownBy w (some b) ∧ next3 s = nxt (3 - k) acc (128 ^ k) r ∧ r.length ≤ s.length
theorem or7 {acc y : Nat} (k : Nat) (h : acc < 2 ^ k) (hk : k ≤ 14) (hy : y < 128) : bits .or .i64 (acc : Int) ((y * 2 ^ k : Nat) : Int) = ((acc + y * 2 ^ k : Nat) : Int) := by
  have h2 : 2 ^ k ≤ 2 ^ 14 := Nat.pow_le_pow_right (by decide) hk
  have h3 : y * 2 ^ k ≤ 128 * 2 ^ 14 := Nat.mul_le_mul (by omega) h2
  rw [i64_or_nat acc _ (by omega) (by omega)]
  congr 1
  rw [Nat.or_comm, Nat.mul_comm y, ← Nat.two_pow_add_eq_or_of_lt h]
  omega
theorem and7 {x : Nat} (h : x < 256) : bits .and .u8 (x : Int) 127 = ((x % 128 : Nat) : Int) := by
  have h1 : (BitVec.ofInt 8 (x : Int)).toNat = x := by
    rw [BitVec.ofInt_natCast, BitVec.toNat_ofNat]; exact Nat.mod_eq_of_lt (by omega)
  have h2 : (BitVec.ofInt 8 127).toNat = 127 := by decide
  show IntKind.u8.wrap ((BitVec.ofInt 8 (x : Int) &&& BitVec.ofInt 8 127).toNat : Int) = _
  rw [BitVec.toNat_and, h1, h2, show (127 : Nat) = 2 ^ 7 - 1 from rfl, Nat.and_two_pow_sub_one_eq_mod, IntKind.wrap_u8]
  omega
theorem grown_refl (w : World) (row : Option Nat) : w.grownBy w row := ⟨rfl, rfl, rfl, Nat.le_refl _, fun _ _ _ => rfl⟩
theorem grown_below {a b c : World} {row : Option Nat} (h : a.grownBy b row) (k : Below b.heap.size b c) : a.grownBy c row := grown_trans h (by
  have := only_of_below k row; exact this)
set_option maxRecDepth 100000 in
set_option maxHeartbeats 4000000 in
theorem next_any (s : Tx) (b : Nat) (w : World) (hb : Bx w b [tx s]) : Calls Tryz.prog 55 #[.pointer (some ⟨b, 0, none⟩)] w (Nxt (next3 s) b w) := by
  have HB := Lib.hid hb
  obtain ⟨o, ho⟩ : ∃ o, next3 s = o := ⟨_, rfl⟩
  have HO := Lib.hid ho
  rw [ho]
  clear hb ho
  go_enter Tryz.func55, Tryz.ntmps55
  go_wp2
  go_loopw [2, 3] (fun n sh wr => RNx s b w n sh wr) (fun _ sh _ => 30 - (intOf sh).toNat)
  case atStart => exact ⟨0, 0, s, by omega, rfl, rfl, by decide, HB.out, grown_refl _ _, rfl, Nat.le_refl _⟩
  case round =>
    obtain ⟨k, acc, r, hk, rfl, rfl, hacc, hbx, hg, hn, hrl⟩ := hrel
    have HX := Lib.hid hbx
    have HG := Lib.hid hg
    have HN := Lib.hid (show o = nxt (3 - k) acc (128 ^ k) r by rw [← HO.out]; exact hn)
    have HN3 := Lib.hid hn
    have c0 := hbx.c 0 _ rfl
    have f0 := hbx.fr 0
    clear hbx hg hn
    cases r with
    | nil =>
      have HNO := Lib.hid (show o = none by rw [HN.out]; cases 3 - k <;> rfl)
      go_wp2_with fail
      refine (need_false wr).mono ?_
      rintro e W ⟨rfl, hb⟩
      exact ⟨rfl, by rw [HNO.out]; exact ⟨rfl, grown_below HG.out hb⟩⟩
    | cons x r =>
      rcases (show k = 0 ∨ k = 1 ∨ k = 2 ∨ k = 3 by omega) with rfl | rfl | rfl | rfl
      · rw [show ((7 * 0 : Nat) : Int) = 0 from rfl]
        have hx : x.toNat < 256 := x.toNat_lt
        have hx0 := ba_get (x :: r) 0 (by simp)
        have hx1 : ((⟨(x :: r).toArray⟩ : ByteArray)[0]'(by show 0 < (x :: r).toArray.size; simp)).toNat = x.toNat := rfl
        have hext : (⟨(x :: r).toArray⟩ : ByteArray).extract 1 (r.length + 1) = ⟨r.toArray⟩ := by rw [ext_mid]; simp
        have ha := and7 hx
        have HNX := Lib.hid (show nxt (3 - 0) acc (128 ^ 0) (x :: r) = if x.toNat < 128 then some (acc + x.toNat * 1, r) else nxt (3 - (0 + 1)) (acc + (x.toNat - 128) * 1) (128 ^ (0 + 1)) r from rfl)
        generalize x.toNat = q at *
        obtain ⟨y, hy⟩ : ∃ y, q % 128 = y := ⟨_, rfl⟩
        rw [hy] at ha
        have hy1 : y < 128 := by omega
        have ho : bits .or .i64 (acc : Int) (y : Int) = ((acc + y * 1 : Nat) : Int) := by
          have := or7 0 (show acc < 2 ^ 0 by simpa using hacc) (by decide) hy1
          simpa using this
        obtain ⟨z, hz⟩ : ∃ z, acc + y * 1 = z := ⟨_, rfl⟩
        rw [hz] at ho
        have hzb : z < 128 := by omega
        have HS1 := Lib.hid (HX.out.set (k := 0) (by simp) (tx r))
        have HG1 := Lib.hid (grown_trans HG.out (grownBy_setCell' wr b (tx r)))
        have HY := Lib.hid hy
        have HZ := Lib.hid hz
        clear hy hz hx0
        by_cases hq : q < 128
        · have d1 : (q : Int) < 128 := by omega
          have HE := Lib.hid (show o = some (z, r) by rw [HN.out, HNX.out, if_pos hq, ← HZ.out, ← HY.out, Nat.mod_eq_of_lt hq])
          clear hq
          go_wp2_with fail
          refine (need_true wr).mono ?_
          rintro e W ⟨rfl, rfl⟩
          go_wp2_with fail
          go_ret
          rw [HE.out]
          exact ⟨rfl, HS1.out, HG1.out⟩
        · have d1 : ¬ (q : Int) < 128 := by omega
          have HE := Lib.hid (show nxt (3 - 0) acc (128 ^ 0) (x :: r) = nxt (3 - (0 + 1)) z (128 ^ (0 + 1)) r by rw [HNX.out, if_neg hq, ← HZ.out, ← HY.out, show q % 128 = q - 128 by omega])
          clear hq
          go_wp2_with fail
          refine (need_true wr).mono ?_
          rintro e W ⟨rfl, rfl⟩
          go_wp2_with fail
          refine ⟨?_, by simp [intOf]⟩
          exact ⟨1, z, r, by omega, rfl, rfl, hzb, HS1.out, HG1.out, by rw [HN3.out, HE.out], by simp at hrl; omega⟩
      · rw [show ((7 * 1 : Nat) : Int) = 7 from rfl]
        have hx : x.toNat < 256 := x.toNat_lt
        have hx0 := ba_get (x :: r) 0 (by simp)
        have hx1 : ((⟨(x :: r).toArray⟩ : ByteArray)[0]'(by show 0 < (x :: r).toArray.size; simp)).toNat = x.toNat := rfl
        have hext : (⟨(x :: r).toArray⟩ : ByteArray).extract 1 (r.length + 1) = ⟨r.toArray⟩ := by rw [ext_mid]; simp
        have ha := and7 hx
        have HNX := Lib.hid (show nxt (3 - 1) acc (128 ^ 1) (x :: r) = if x.toNat < 128 then some (acc + x.toNat * 128, r) else nxt (3 - (1 + 1)) (acc + (x.toNat - 128) * 128) (128 ^ (1 + 1)) r from rfl)
        generalize x.toNat = q at *
        obtain ⟨y, hy⟩ : ∃ y, q % 128 = y := ⟨_, rfl⟩
        rw [hy] at ha
        have hy1 : y < 128 := by omega
        have ho : bits .or .i64 (acc : Int) ((y : Int) * 128) = ((acc + y * 128 : Nat) : Int) := by
          have := or7 7 (show acc < 2 ^ 7 by simpa using hacc) (by decide) hy1
          simpa using this
        obtain ⟨z, hz⟩ : ∃ z, acc + y * 128 = z := ⟨_, rfl⟩
        rw [hz] at ho
        have hzb : z < 16384 := by omega
        have HS1 := Lib.hid (HX.out.set (k := 0) (by simp) (tx r))
        have HG1 := Lib.hid (grown_trans HG.out (grownBy_setCell' wr b (tx r)))
        have HY := Lib.hid hy
        have HZ := Lib.hid hz
        clear hy hz hx0
        by_cases hq : q < 128
        · have d1 : (q : Int) < 128 := by omega
          have HE := Lib.hid (show o = some (z, r) by rw [HN.out, HNX.out, if_pos hq, ← HZ.out, ← HY.out, Nat.mod_eq_of_lt hq])
          clear hq
          go_wp2_with fail
          refine (need_true wr).mono ?_
          rintro e W ⟨rfl, rfl⟩
          go_wp2_with fail
          go_ret
          rw [HE.out]
          exact ⟨rfl, HS1.out, HG1.out⟩
        · have d1 : ¬ (q : Int) < 128 := by omega
          have HE := Lib.hid (show nxt (3 - 1) acc (128 ^ 1) (x :: r) = nxt (3 - (1 + 1)) z (128 ^ (1 + 1)) r by rw [HNX.out, if_neg hq, ← HZ.out, ← HY.out, show q % 128 = q - 128 by omega])
          clear hq
          go_wp2_with fail
          refine (need_true wr).mono ?_
          rintro e W ⟨rfl, rfl⟩
          go_wp2_with fail
          refine ⟨?_, by simp [intOf]⟩
          exact ⟨2, z, r, by omega, rfl, rfl, hzb, HS1.out, HG1.out, by rw [HN3.out, HE.out], by simp at hrl; omega⟩
      · rw [show ((7 * 2 : Nat) : Int) = 14 from rfl]
        have hx : x.toNat < 256 := x.toNat_lt
        have hx0 := ba_get (x :: r) 0 (by simp)
        have hx1 : ((⟨(x :: r).toArray⟩ : ByteArray)[0]'(by show 0 < (x :: r).toArray.size; simp)).toNat = x.toNat := rfl
        have hext : (⟨(x :: r).toArray⟩ : ByteArray).extract 1 (r.length + 1) = ⟨r.toArray⟩ := by rw [ext_mid]; simp
        have ha := and7 hx
        have HNX := Lib.hid (show nxt (3 - 2) acc (128 ^ 2) (x :: r) = if x.toNat < 128 then some (acc + x.toNat * 16384, r) else nxt (3 - (2 + 1)) (acc + (x.toNat - 128) * 16384) (128 ^ (2 + 1)) r from rfl)
        generalize x.toNat = q at *
        obtain ⟨y, hy⟩ : ∃ y, q % 128 = y := ⟨_, rfl⟩
        rw [hy] at ha
        have hy1 : y < 128 := by omega
        have ho : bits .or .i64 (acc : Int) ((y : Int) * 16384) = ((acc + y * 16384 : Nat) : Int) := by
          have := or7 14 (show acc < 2 ^ 14 by simpa using hacc) (by decide) hy1
          simpa using this
        obtain ⟨z, hz⟩ : ∃ z, acc + y * 16384 = z := ⟨_, rfl⟩
        rw [hz] at ho
        have hzb : z < 2097152 := by omega
        have HS1 := Lib.hid (HX.out.set (k := 0) (by simp) (tx r))
        have HG1 := Lib.hid (grown_trans HG.out (grownBy_setCell' wr b (tx r)))
        have HY := Lib.hid hy
        have HZ := Lib.hid hz
        clear hy hz hx0
        by_cases hq : q < 128
        · have d1 : (q : Int) < 128 := by omega
          have HE := Lib.hid (show o = some (z, r) by rw [HN.out, HNX.out, if_pos hq, ← HZ.out, ← HY.out, Nat.mod_eq_of_lt hq])
          clear hq
          go_wp2_with fail
          refine (need_true wr).mono ?_
          rintro e W ⟨rfl, rfl⟩
          go_wp2_with fail
          go_ret
          rw [HE.out]
          exact ⟨rfl, HS1.out, HG1.out⟩
        · have d1 : ¬ (q : Int) < 128 := by omega
          have HE := Lib.hid (show nxt (3 - 2) acc (128 ^ 2) (x :: r) = nxt (3 - (2 + 1)) z (128 ^ (2 + 1)) r by rw [HNX.out, if_neg hq, ← HZ.out, ← HY.out, show q % 128 = q - 128 by omega])
          clear hq
          go_wp2_with fail
          refine (need_true wr).mono ?_
          rintro e W ⟨rfl, rfl⟩
          go_wp2_with fail
          refine ⟨?_, by simp [intOf]⟩
          exact ⟨3, z, r, by omega, rfl, rfl, hzb, HS1.out, HG1.out, by rw [HN3.out, HE.out], by simp at hrl; omega⟩
      · have HNO := Lib.hid (show o = none by rw [HN.out]; rfl)
        rw [show ((7 * 3 : Nat) : Int) = 21 from rfl]
        go_wp2_with fail
        refine (need_false wr).mono ?_
        rintro e W ⟨rfl, hb⟩
        exact ⟨rfl, by rw [HNO.out]; exact ⟨rfl, grown_below HG.out hb⟩⟩
end Go.Proofs.YtonnemkecppmiaaGreatDoor
