import Derived.Test.YtfffhbolaimmdaaDoorP5
namespace Go.Proofs.YtfffhbolaimmdaaDoor
open Go.RowKit
def R45 (n : Nat) (f : Nat → Int) (w0 : World) (i o : Value) (w : World) : Prop := ∃ k : Nat, k ≤ n ∧ i = .int .i64 k ∧ o = .int .i64 (sumTo k f) ∧ w = w0
set_option maxHeartbeats 400000 in
theorem sum_any (A : Option Addr) (c n B : Nat) (f : Nat → Int) (w : World) (hn : n ≤ 1000) (hf : At w B 1 icell A (tab n f)) (bf : ∀ k, k < n → -1000000000000 ≤ f k ∧ f k ≤ 1000000000000) :
    Calls Tryd.prog 45 #[.slice A n c] w (RetQ (.int .i64 (sumTo n f)) w) := by
  go_enter Tryd.func45, Tryd.ntmps45
  have Hf := Lib.hid hf
  have Hb := Lib.hid bf
  clear hf bf
  go_wp2
  go_loopw [7, 2] (fun i o wr => R45 n f w i o wr) (fun i _ _ => n - (intOf i).toNat)
  case atStart => exact ⟨0, by omega, rfl, rfl, rfl⟩
  case round =>
    obtain ⟨k, hk, rfl, rfl, rfl⟩ := hrel
    by_cases hlt : k < n
    · obtain ⟨b, off, e, hb, hc⟩ := Hf.out.int (k := k) (by rw [length_tab]; exact hlt)
      have e3 : (tab n f).getD k 0 = f k := by simp [tab, hlt]
      rw [e3] at hc
      subst e
      have b1 := Hb.out k hlt
      have b2 := sumTo_bd (n := k) (f := f) (lo := -1000000000000) (hi := 1000000000000) (fun i hi => Hb.out i (by omega))
      have E1 := Lib.hid (sumTo_split k f)
      clear e3
      go_wp2
      all_goals (first | (refine ⟨?_, ?_⟩; (unfold R45; exact ⟨k + 1, by omega, by go_num, by rw [E1.out], rfl⟩); (simp [intOf]; omega)) | (go_roundw; (case rel => (unfold R45; exact ⟨k + 1, by omega, by go_num, by rw [E1.out], rfl⟩)); (case measure => (simp [intOf]; omega))) | (go_round; (case rel => (unfold R45; exact ⟨k + 1, by omega, by go_num, by rw [E1.out], rfl⟩)); (case measure => (simp [intOf]; omega))))
    · go_wp2
      go_ret
      refine retq_int ?_
      rw [show k = n by omega]
end Go.Proofs.YtfffhbolaimmdaaDoor
