import Derived.Test.YtjlicbdnppodgaaP1
import Derived.Test.YtjlicbdnppodgaaR6
namespace Go.Proofs.Ytjlicbdnppodgaa
open Go.RowKit
/-! Plain: what the program finds by its numbers of parts is what the document's Check says. -/
theorem firstI_cases (p : Int → Bool) (l : List Int) : (∃ k, k < l.length ∧ firstI p l = (k : Int) ∧ p (l.getD k 0) = true ∧ ∀ j, j < k → p (l.getD j 0) = false) ∨ (firstI p l = -1 ∧ ∀ j, j < l.length → p (l.getD j 0) = false) := by
  unfold firstI
  cases h : l.findIdx? p with
  | none =>
    right
    rw [List.findIdx?_eq_none_iff] at h
    exact ⟨rfl, fun j hj => by rw [getD_get hj]; exact h _ (List.getElem_mem hj)⟩
  | some k =>
    left
    obtain ⟨hk, hp, hj⟩ := List.findIdx?_eq_some_iff_getElem.1 h
    exact ⟨k, hk, rfl, by rw [getD_get hk]; exact hp, fun j hjk => by rw [getD_get (show j < l.length by omega)]; simpa using hj j hjk⟩
/-- The first numbers of a function. -/
def partL (f : Int → Int) (n : Nat) : List Int := (List.range n).map fun k : Nat => f (k : Int)
theorem partL_len (f : Int → Int) (n : Nat) : (partL f n).length = n := by unfold partL; simp
theorem partL_get (f : Int → Int) {n k : Nat} (h : k < n) : (partL f n).getD k 0 = f (k : Int) := by
  unfold partL
  rw [List.getD_eq_getElem?_getD, List.getElem?_map, List.getElem?_range h]; rfl
theorem great_in {c : Cut} (ok : OkC c) : greatS c ∈ c.piece := by
  unfold greatS
  have hl := ok.len
  have hw := ok.w
  have hh := ok.h
  have hpos : 0 < c.piece.length := by
    have : 1 * 1 ≤ c.wide * c.high := Int.mul_le_mul hw.1 hh.1 (by omega) (by omega)
    omega
  have key : ∀ (l : List Int) (n : Int), l.foldl max n = n ∨ l.foldl max n ∈ l := by
    intro l
    induction l with
    | nil => intro n; exact .inl rfl
    | cons x l ih =>
      intro n
      rw [List.foldl_cons]
      rcases ih (max n x) with h | h
      · rw [h]
        by_cases h2 : n ≤ x
        · right; rw [Int.max_eq_right h2]; exact List.mem_cons_self ..
        · left; omega
      · exact .inr (List.mem_cons_of_mem _ h)
  rcases key c.piece 0 with h | h
  · have hx := List.getElem_mem hpos
    have h0 := ok.pc _ hx
    have hge : ∀ (l : List Int) (n : Int), n ≤ l.foldl max n ∧ ∀ x ∈ l, x ≤ l.foldl max n := by
      intro l
      induction l with
      | nil => intro n; exact ⟨Int.le_refl _, fun x h => by simp at h⟩
      | cons y l ih =>
        intro n
        rw [List.foldl_cons]
        have := ih (max n y)
        refine ⟨by omega, fun x hx => ?_⟩
        rcases List.mem_cons.1 hx with rfl | hx
        · have := this.1; omega
        · exact this.2 x hx
    have h1 := (hge c.piece 0).2 _ hx
    rw [h] at h1 ⊢
    have : c.piece[0] = 0 := by omega
    rw [← this]
    exact hx
  · exact h
theorem great_max {c : Cut} : ∀ x ∈ c.piece, x ≤ greatS c := by
  unfold greatS
  have hge : ∀ (l : List Int) (n : Int), n ≤ l.foldl max n ∧ ∀ x ∈ l, x ≤ l.foldl max n := by
    intro l
    induction l with
    | nil => intro n; exact ⟨Int.le_refl _, fun x h => by simp at h⟩
    | cons y l ih =>
      intro n
      rw [List.foldl_cons]
      have := ih (max n y)
      refine ⟨by omega, fun x hx => ?_⟩
      rcases List.mem_cons.1 hx with rfl | hx
      · have := this.1; omega
      · exact this.2 x hx
  exact (hge c.piece 0).2
theorem cells_zero {c : Cut} (ok : OkC c) (k : Int) : cellsS c k = 0 ↔ ∀ p, inG c p → pcOf c p ≠ k := by
  unfold cellsS
  rw [List.countP_eq_zero]
  constructor
  · intro h p hp e
    obtain ⟨j, hj, rfl, -⟩ := idx_of ok hp
    have h1 := (cell_in ok hj).2
    have h2 := h (atI c j) (by unfold atI; rw [getD_get hj]; exact List.getElem_mem _)
    rw [← h1, e] at h2
    simp at h2
  · intro h x hx e
    obtain ⟨j, hj, rfl⟩ := List.getElem_of_mem hx
    have h1 := cell_in ok hj
    refine h _ h1.1 ?_
    rw [h1.2]
    unfold atI
    rw [getD_get hj]
    simpa using e
/-- How the program's two looks answer. -/
theorem check_prog {c : Cut} (h : cutS c = true) {f : Int → Int} (hf : PartsOk c f) {n : Nat} (hn : (n : Int) = greatS c + 1) :
    (0 ≤ firstI (eqPc 0) (partL f n) → checkS c = (firstI (eqPc 0) (partL f n), 4)) ∧
    (firstI (eqPc 0) (partL f n) < 0 → 0 ≤ firstI manyPc (partL f n) → checkS c = (firstI manyPc (partL f n), 6)) ∧
    (firstI (eqPc 0) (partL f n) < 0 → firstI manyPc (partL f n) < 0 → checkS c = (greatS c + 1, 0)) := by
  have ok := (okc_iff c).1 h
  have hb := great_bd ok
  have gn : (greatS c).toNat + 1 = n := by omega
  have hz : ∀ t : Nat, cellsS c (t : Int) = 0 ↔ f (t : Int) = 0 := fun t => by
    rw [cells_zero ok, (hf (t : Int)).2.1]
  have hwt : ∀ t : Nat, wholeB c (t : Int) = true ↔ ¬ 1 < f (t : Int) := fun t => by
    rw [wholeB_iff, (hf (t : Int)).2.2, Classical.not_not]
  have hgz : cellsS c (greatS c) ≠ 0 := fun e => by
    have := (List.countP_eq_zero.1 e) _ (great_in ok)
    simp at this
  rcases firstI_cases (eqPc 0) (partL f n) with ⟨k, hk, e, hp, hj⟩ | ⟨e, hj⟩
  · rw [partL_len] at hk
    rw [partL_get f hk] at hp
    unfold eqPc at hp
    rw [decide_eq_true_iff] at hp
    refine ⟨fun _ => ?_, fun h => by omega, fun h => by omega⟩
    rw [e]
    have hkg : k ≠ (greatS c).toNat := fun ek => hgz (by
      have : ((greatS c).toNat : Int) = greatS c := by omega
      rw [← this, ← ek]
      exact (hz k).2 hp.symm)
    refine check_empty h (by omega) ((hz k).2 hp.symm) fun t ht h0 => ?_
    have h1 := hj t ht
    rw [partL_get f (show t < n by omega)] at h1
    unfold eqPc at h1
    rw [decide_eq_false_iff_not] at h1
    exact h1 ((hz t).1 h0).symm
  · rw [partL_len] at hj
    have hcs : ∀ t, t < n → cellsS c (t : Int) ≠ 0 := fun t ht h0 => by
      have h1 := hj t ht
      rw [partL_get f ht] at h1
      unfold eqPc at h1
      rw [decide_eq_false_iff_not] at h1
      exact h1 ((hz t).1 h0).symm
    refine ⟨fun h => by omega, fun _ h2 => ?_, fun _ h2 => ?_⟩
    · rcases firstI_cases manyPc (partL f n) with ⟨k, hk, e2, hp, hj2⟩ | ⟨e2, hj2⟩
      · rw [partL_len] at hk
        rw [partL_get f hk] at hp
        unfold manyPc at hp
        rw [decide_eq_true_iff] at hp
        rw [e2]
        refine check_parts h (fun t ht => hcs t (by omega)) (by omega) ?_ fun t ht => ?_
        · cases hw : wholeB c (k : Int) with
          | false => rfl
          | true => exact absurd hp ((hwt k).1 hw)
        · have h3 := hj2 t ht
          rw [partL_get f (show t < n by omega)] at h3
          unfold manyPc at h3
          rw [decide_eq_false_iff_not] at h3
          exact (hwt t).2 h3
      · omega
    · rcases firstI_cases manyPc (partL f n) with ⟨k, hk, e2, hp, hj2⟩ | ⟨e2, hj2⟩
      · omega
      · rw [partL_len] at hj2
        refine check_good h (fun t ht => hcs t (by omega)) fun t ht => ?_
        have h3 := hj2 t (by omega)
        rw [partL_get f (show t < n by omega)] at h3
        unfold manyPc at h3
        rw [decide_eq_false_iff_not] at h3
        exact (hwt t).2 h3
end Go.Proofs.Ytjlicbdnppodgaa
