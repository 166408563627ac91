import Derived.Test.YtfffhbolaimmdaaDoorP13
namespace Go.Proofs.YtfffhbolaimmdaaDoor
open Go.RowKit
theorem usedF_usedTo (s : Store) {set n : Nat} (p : Nat) : usedF s ((List.range n).filter fun i => has set i) p = usedTo s set n p := by
  unfold usedF usedTo
  exact sumL_filter (fun i => has set i) _ n
/-- From n on. -/
theorem refusedL_from (s : Store) (set : Nat) : ∀ (k n : Nat), refusedTo s set n = -1 →
    refusedL s ((List.range n).filter fun i => has set i) ((List.range' n k).filter fun i => has set i) = refusedTo s set (n + k)
  | 0, n, h => by simp [refusedL, h]
  | k + 1, n, h => by
    rw [List.range'_succ]
    by_cases hh : has set n = true
    · rw [List.filter_cons_of_pos hh]
      have e : ((List.range n).filter fun i => has set i) ++ [n] = (List.range (n + 1)).filter fun i => has set i := by
        rw [List.range_succ, List.filter_append]; simp [hh]
      unfold refusedL
      have hok : okL s ((List.range n).filter fun i => has set i) n = okAt s set n := by
        unfold okL okAt
        rw [e, usedF_usedTo, Bool.and_comm]
      rw [hok, e]
      by_cases ho : okAt s set n = true
      · rw [if_pos ho, refusedL_from s set k (n + 1) (refusedTo_step h (fun _ => ho)), show n + 1 + k = n + (k + 1) by omega]
      · rw [if_neg ho, refusedTo_at h hh (by simpa using ho) (n + (k + 1)) (by omega)]
    · rw [List.filter_cons_of_neg hh]
      have e : ((List.range n).filter fun i => has set i) = (List.range (n + 1)).filter fun i => has set i := by
        rw [List.range_succ, List.filter_append]; simp [hh]
      rw [e, refusedL_from s set k (n + 1) (refusedTo_step h (fun h' => absurd h' hh)), show n + 1 + k = n + (k + 1) by omega]
theorem refusedTo_more {s : Store} {set n m : Nat} (hnm : n ≤ m) (h : ∀ i, n ≤ i → has set i = false) : refusedTo s set m = refusedTo s set n := by
  induction m with
  | zero => rw [show n = 0 by omega]
  | succ m ih =>
    by_cases e : n = m + 1
    · rw [e]
    · rw [← ih (by omega)]
      conv => lhs; unfold refusedTo
      split
      · rfl
      · rw [if_neg (by rw [h m (by omega)]; simp)]
        rcases refusedTo_range s set m with h1 | h1
        · exact h1.symm
        · omega
theorem refusedL_refusedS (s : Store) {set : Nat} (hn : s.wishes.length ≤ 9) (hlt : set < 2 ^ s.wishes.length) : refusedL s [] (bitsOf set) = refusedS s set := by
  have h := refusedL_from s set 9 0 rfl
  rw [List.range_zero, Nat.zero_add] at h
  have e : bitsOf set = (List.range' 0 9).filter fun i => has set i := by unfold bitsOf; rw [List.range_eq_range']
  rw [e]
  refine h.trans ?_
  unfold refusedS
  exact refusedTo_more hn (fun i hi => Nat.testBit_lt_two_pow (Nat.lt_of_lt_of_le hlt (Nat.pow_le_pow_right (by omega) hi)))
end Go.Proofs.YtfffhbolaimmdaaDoor
