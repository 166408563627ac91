import Derived.Test.YtfffhbolaimmdaaDoorQ1
import Derived.Test.YtfffhbolaimmdaaDoorR10
namespace Go.Proofs.YtfffhbolaimmdaaDoor
open Go.RowKit
/-! Plain facts on what may be accepted, and on the best set. -/
theorem check_in {s : Store} (ok : Ok s) {x : Nat} (hx : x < 2 ^ s.wishes.length) : checkS s x = 0 := by
  unfold checkS
  rw [if_pos ((ok_iff s).2 ok), if_pos]
  unfold inS powI
  simp only [decide_eq_true_eq]
  omega
theorem accepted_in {s : Store} (ok : Ok s) {x : Nat} (hx : x < 2 ^ s.wishes.length) : acceptedS s x = if 0 ≤ refusedS s x then 11 else 0 := by
  unfold acceptedS; rw [if_pos (check_in ok hx)]; rfl
theorem accepted_zero {s : Store} (ok : Ok s) {x : Nat} (hx : x < 2 ^ s.wishes.length) : acceptedS s x = 0 ↔ refusedS s x < 0 := by
  rw [accepted_in ok hx]; split <;> omega
theorem may_zero {s : Store} {st : Int} (h : acceptedS s st = 0) : mayS s st = 0 := by unfold mayS; rw [if_neg (by rw [h]; omega)]
theorem profit_zero {s : Store} {st : Int} (h : acceptedS s st = 0) : profitS s st = (gainS s st.toNat (loAt s), gainS s st.toNat (hiAt s)) := by unfold profitS; rw [if_pos h]
theorem best_lt (s : Store) : bestS s < 2 ^ s.wishes.length := by
  obtain ⟨b1, -, -⟩ := bestTo_spec s (setsN s)
  have hp : 0 < setsN s := Nat.two_pow_pos _
  show bestTo s (setsN s) < setsN s
  rcases b1 with b1 | b1
  · rw [b1]; exact hp
  · exact b1.1
theorem best_ok (s : Store) : refusedS s (bestS s) < 0 := by
  obtain ⟨b1, -, -⟩ := bestTo_spec s (setsN s)
  show refusedS s (bestTo s (setsN s)) < 0
  rcases b1 with b1 | b1
  · rw [b1]; exact refused_zero s
  · exact b1.2
theorem best_ge (s : Store) {y : Nat} (hy : y < 2 ^ s.wishes.length) (hr : refusedS s y < 0) : G s y < G s (bestS s) ∨ (G s (bestS s) = G s y ∧ bestS s ≤ y) := by
  obtain ⟨-, -, b3⟩ := bestTo_spec s (setsN s)
  have := b3 y hy hr
  unfold Ge at this
  simp only at this
  unfold bestS
  omega
theorem best_pos {s : Store} (ok : Ok s) : 0 ≤ G s (bestS s) := by
  obtain ⟨-, b2, -⟩ := bestTo_spec s (setsN s)
  rw [G_zero ok] at b2
  exact b2
end Go.Proofs.YtfffhbolaimmdaaDoor
