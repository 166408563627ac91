import Derived.Test.YtkcfpnpejaekjaaDoorP5
namespace Go.Proofs.YtkcfpnpejaekjaaDoor
open Go.RowKit
/-! The program: books; who can have lost any number. -/
def freeN (l : List Int) : Nat → Nat
  | 0 => 192
  | k + 1 => if l.getD k 0 = -1 then freeN l k ||| 2 ^ k else freeN l k
theorem freeN_lt (l : List Int) : ∀ k : Nat, k ≤ 6 → freeN l k < 256
  | 0, _ => (by show 192 < 256; decide)
  | k + 1, h => by
    have ih := freeN_lt l k (by omega)
    unfold freeN
    split
    · exact Nat.or_lt_two_pow (n := 8) ih (Nat.lt_of_le_of_lt (Nat.pow_le_pow_right (by decide) (show k ≤ 5 by omega)) (by decide))
    · exact ih
def RFr (m : Mt) (V : World) (sv i : Value) (w : World) : Prop := ∃ k : Nat, k ≤ m.t.admits.length ∧ i = .int .i64 k ∧ sv = .int .i64 (freeN m.t.admits k) ∧ Below V.heap.size V w
set_option maxRecDepth 100000 in
set_option maxHeartbeats 1000000 in
theorem free_any (m : Mt) (f : Nat → Int) (w : World) (hr : TaleAt w w.heap.size m) (h6 : m.t.admits.length ≤ 6) : Calls Tryd.prog 64 #[.agg #[.int .i64 m.t.n, .slice m.A1 m.t.loans.length m.c1, .slice m.A2 m.t.looks.length m.c2, .slice m.A3 m.t.admits.length m.c3, .int .i64 (f 0), .int .i64 (f 1), .int .i64 (f 2), .int .i64 (f 3), .int .i64 (f 4), .int .i64 (f 5), .int .i64 (f 6), .int .i64 (f 7), .int .i64 (f 8), .int .i64 (f 9), .int .i64 (f 10), .int .i64 (f 11), .int .i64 (f 12), .int .i64 (f 13), .int .i64 (f 14), .int .i64 (f 15)]] w (Ret (.int .i64 (freeN m.t.admits m.t.admits.length)) w) := by
  have B0 := Lib.hid (nxA w (.cells #[.int .i64 m.t.n, .slice m.A1 m.t.loans.length m.c1, .slice m.A2 m.t.looks.length m.c2, .slice m.A3 m.t.admits.length m.c3, .int .i64 (f 0), .int .i64 (f 1), .int .i64 (f 2), .int .i64 (f 3), .int .i64 (f 4), .int .i64 (f 5), .int .i64 (f 6), .int .i64 (f 7), .int .i64 (f 8), .int .i64 (f 9), .int .i64 (f 10), .int .i64 (f 11), .int .i64 (f 12), .int .i64 (f 13), .int .i64 (f 14), .int .i64 (f 15)] 69))
  have HR := Lib.hid hr
  clear hr
  go_enter Tryd.func64, Tryd.ntmps64
  go_wp2
  generalize w.alloc (.cells #[.int .i64 m.t.n, .slice m.A1 m.t.loans.length m.c1, .slice m.A2 m.t.looks.length m.c2, .slice m.A3 m.t.admits.length m.c3, .int .i64 (f 0), .int .i64 (f 1), .int .i64 (f 2), .int .i64 (f 3), .int .i64 (f 4), .int .i64 (f 5), .int .i64 (f 6), .int .i64 (f 7), .int .i64 (f 8), .int .i64 (f 9), .int .i64 (f 10), .int .i64 (f 11), .int .i64 (f 12), .int .i64 (f 13), .int .i64 (f 14), .int .i64 (f 15)] 69) = V at *
  go_loopw [3, 10] (fun sv i wr => RFr m V sv i wr) (fun _ i _ => m.t.admits.length - (intOf i).toNat)
  case atStart => exact ⟨0, by omega, rfl, rfl, Below.refl _ _⟩
  case round =>
    obtain ⟨k, hk, rfl, rfl, hb⟩ := hrel
    have HB := Lib.hid (B0.out.trans (hb.mono B0.out.size))
    have HV := Lib.hid hb
    have hfl := freeN_lt m.t.admits k (by omega)
    by_cases hlt : k < m.t.admits.length
    · obtain ⟨b, off, e, hbk, h0⟩ := int_at (HR.out.ad.below HB.out) hlt
      have hbs : b < wr.heap.size := Nat.lt_of_lt_of_le hbk HB.out.size
      have HS := Lib.hid (show freeN m.t.admits (k + 1) = if m.t.admits.getD k 0 = -1 then freeN m.t.admits k ||| 2 ^ k else freeN m.t.admits k from rfl)
      generalize m.t.admits.getD k 0 = x at *
      generalize m.A3 = A3 at *
      subst e
      have h64 : 2 ^ k ≤ 32 := Nat.pow_le_pow_right (by decide) (show k ≤ 5 by omega)
      have HOR := Lib.hid (show bits BinOp.or IntKind.i64 (freeN m.t.admits k : Int) (wrap64 (2 ^ k)) = ((freeN m.t.admits k ||| 2 ^ k : Nat) : Int) from by
        obtain ⟨T, hT⟩ : ∃ T : Nat, T = 2 ^ k := ⟨_, rfl⟩
        have hT32 : T ≤ 32 := by rw [hT]; exact h64
        rw [show ((2 : Int) ^ k) = (T : Int) by rw [hT]; push_cast; rfl, ← hT, IntWalk.wrap64_in _ (by omega)]
        exact i64_or_nat _ _ (by omega) (by omega))
      clear hb h64
      generalize freeN m.t.admits k = F at *
      by_cases hx : x = -1
      · have HS1 := Lib.hid (HS.out.trans (if_pos hx))
        go_wp2
        all_goals (first | (refine ⟨?_, ?_⟩; (unfold RFr; exact ⟨k + 1, by omega, by go_num, by rw [HS1.out, HOR.out], HV.out⟩); (simp [intOf]; omega)) | (go_roundw; (case rel => (unfold RFr; exact ⟨k + 1, by omega, by go_num, by rw [HS1.out, HOR.out], HV.out⟩)); (case measure => (simp [intOf]; omega))) | (go_round; (case rel => (unfold RFr; exact ⟨k + 1, by omega, by go_num, by rw [HS1.out, HOR.out], HV.out⟩)); (case measure => (simp [intOf]; omega))))
      · have HS1 := Lib.hid (HS.out.trans (if_neg hx))
        go_wp2
        all_goals (first | (refine ⟨?_, ?_⟩; (unfold RFr; exact ⟨k + 1, by omega, by go_num, by rw [HS1.out], HV.out⟩); (simp [intOf]; omega)) | (go_roundw; (case rel => (unfold RFr; exact ⟨k + 1, by omega, by go_num, by rw [HS1.out], HV.out⟩)); (case measure => (simp [intOf]; omega))) | (go_round; (case rel => (unfold RFr; exact ⟨k + 1, by omega, by go_num, by rw [HS1.out], HV.out⟩)); (case measure => (simp [intOf]; omega))))
    · obtain rfl : k = m.t.admits.length := by omega
      go_wp2
      go_ret
      exact ret_int rfl HB.out
end Go.Proofs.YtkcfpnpejaekjaaDoor
