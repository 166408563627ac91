import Derived.Test.YtbhkglokdomajaaDoorLaws3
namespace Go.Proofs.YtbhkglokdomajaaDoor
/-! Plan, followed stint by stint; the proof, row by row. -/
theorem getD_cons_drop {α : Type} {l : List α} {i : Nat} (d : α) (hi : i < l.length) : l.drop i = l.getD i d :: l.drop (i + 1) := by
  rw [List.drop_eq_getElem_cons hi, List.getD_eq_getElem?_getD, List.getElem?_eq_getElem hi]; rfl
theorem badP_at {bl : List Blade} {bound : Int} {l : List Stint} {sets : List Nat} {r : Nat → Int} {i : Nat} (hi : i < l.length) (hs : i < sets.length) :
    badP bl bound (l.drop i) (ranAt bl.length l sets r i) (sets.drop i) i = match badS bl (bound + (l.getD i ⟨0, 0⟩).more) (ranAt bl.length l sets r (i + 1)) with
      | some k => some (i, k)
      | none => badP bl bound (l.drop (i + 1)) (ranAt bl.length l sets r (i + 1)) (sets.drop (i + 1)) (i + 1) := by
  rw [getD_cons_drop ⟨0, 0⟩ hi, getD_cons_drop 0 hs]; rfl
theorem sumN_take {cost : Nat → Int} {sets : List Nat} {i : Nat} (hs : i < sets.length) : sumN cost (sets.take (i + 1)) = sumN cost (sets.take i) + cost (sets.getD i 0) := by
  rw [List.take_succ_eq_append_getElem hs, sumN_map, sumN_map, List.map_append, List.sum_append, List.getD_eq_getElem?_getD, List.getElem?_eq_getElem hs]
  simp
/-- How long each blade has run, if none has been bent: x, if it is one. -/
def evenR (nb : Nat) (x : Int) : Nat → Int := fun k => if k < nb then x else 0
theorem even_run (nb : Nat) (x n : Int) : runR nb (evenR nb x) 0 n = evenR nb (x + n) := by
  funext k
  unfold runR evenR
  have : has 0 k = false := by simp [has]
  rw [this]
  by_cases h : k < nb
  · simp [h]
  · simp [h]
theorem even_zero (nb : Nat) : evenR nb 0 = fun _ => 0 := by funext k; unfold evenR; split <;> rfl
theorem even_bad (bl : List Blade) (bound : Int) (t : Stint) (x : Int) : badS bl (bound + t.more) (evenR bl.length x) = badX bl bound t x := badS_congr fun k hk => by unfold evenR; rw [if_pos hk]
theorem proofGo_at {bl : List Blade} {bound : Int} {l : List Stint} {i : Nat} (hi : i < l.length) (a : Nat) (x : Int) :
    proofGo bl bound (l.drop i) i a x = match badX bl bound (l.getD i ⟨0, 0⟩) (x + (l.getD i ⟨0, 0⟩).n) with
      | none => proofGo bl bound (l.drop (i + 1)) (i + 1) a (x + (l.getD i ⟨0, 0⟩).n)
      | some k => (a, i, k) :: proofGo bl bound (l.drop (i + 1)) (i + 1) i (l.getD i ⟨0, 0⟩).n := by
  rw [getD_cons_drop ⟨0, 0⟩ hi]; rfl
theorem alone_fail {bl : List Blade} {bound : Int} {l : List Stint} {i k : Nat} (hi : i < l.length) (h : badX bl bound (l.getD i ⟨0, 0⟩) (l.getD i ⟨0, 0⟩).n = some k) : alonesS bl bound l = false := by
  cases e : alonesS bl bound l
  · rfl
  · rw [alone_at e hi] at h; cases h
end Go.Proofs.YtbhkglokdomajaaDoor
