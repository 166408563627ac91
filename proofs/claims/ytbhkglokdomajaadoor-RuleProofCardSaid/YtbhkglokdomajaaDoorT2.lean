import Derived.Test.YtbhkglokdomajaaDoorR8
import Derived.Test.YtbhkglokdomajaaDoorW1
import Derived.BigQuiet
namespace Go.Proofs.YtbhkglokdomajaaDoor
open Go.RowKit
/-! Of the law RuleProof: its rows in memory, and plain facts. -/
theorem spans_at {W : World} {B : Nat} {A : Option Addr} {rs : List (Nat × Nat × Nat)} (h : At W B 2 spv A (spansOf rs)) {k : Nat} (hk : k < rs.length) : ∃ b off, A = some ⟨b, off, none⟩ ∧ b < B ∧ W.cell? ⟨b, off + k * 2, none⟩ = some (.int .i64 ((rs.getD k (0, 0, 0)).1 : Int)) ∧ W.cell? ⟨b, off + k * 2 + 1, none⟩ = some (.int .i64 ((rs.getD k (0, 0, 0)).2.1 : Int)) := by
  have e : (spansOf rs)[k]? = some (((rs.getD k (0, 0, 0)).1 : Int), ((rs.getD k (0, 0, 0)).2.1 : Int)) := by
    unfold spansOf
    rw [List.getElem?_map, List.getD_eq_getElem?_getD, List.getElem?_eq_getElem hk]; rfl
  obtain ⟨b, off, e, hb, hc⟩ := h k _ e
  exact ⟨b, off, e, hb, hc 0 _ rfl, hc 1 _ rfl⟩
theorem firsts_at {W : World} {B : Nat} {A : Option Addr} {rs : List (Nat × Nat × Nat)} (h : At W B 1 icell A (firstsOf rs)) {k : Nat} (hk : k < rs.length) : ∃ b off, A = some ⟨b, off, none⟩ ∧ b < B ∧ W.cell? ⟨b, off + k, none⟩ = some (.int .i64 ((rs.getD k (0, 0, 0)).2.2 : Int)) := by
  have e : (firstsOf rs)[k]? = some ((rs.getD k (0, 0, 0)).2.2 : Int) := by
    unfold firstsOf
    rw [List.getElem?_map, List.getD_eq_getElem?_getD, List.getElem?_eq_getElem hk]; rfl
  obtain ⟨b, off, e, hb, hc⟩ := h k _ e
  refine ⟨b, off, e, hb, ?_⟩
  have := hc 0 _ rfl
  rw [Nat.mul_one] at this
  exact this
theorem IBlk.at {W : World} {g n : Nat} {f : Nat → Int} (h : IBlk W g n f) : At W W.heap.size 1 icell (some ⟨g, 0, none⟩) ((List.range n).map f) := by
  intro k x hx
  rw [List.getElem?_map] at hx
  have hk : k < n := by
    by_cases e : k < n
    · exact e
    · rw [List.getElem?_eq_none (by simpa using e)] at hx; cases hx
  rw [List.getElem?_range hk] at hx
  injection hx with hx
  refine ⟨g, 0, rfl, h.lt, fun j u hu => ?_⟩
  match j, hu with
  | 0, hu =>
    injection hu with hu
    subst hu hx
    rw [Nat.zero_add, Nat.mul_one, Nat.add_zero]
    exact h.cell k hk
section
variable {bl : List Blade} {bound : Int} {l : List Stint}
theorem rows_len : ∀ {rs : List (Nat × Nat × Nat)} {a : Nat}, RowsOk bl bound l a rs → rs.length ≤ l.length - a
  | [], _, _ => by simp
  | (a', b, k) :: rs, a, ⟨h1, h2, h3, h4, h5, h6⟩ => by
    have := rows_len h6
    simp only [List.length_cons]
    omega
theorem alones_stuck (h : alonesS bl bound l = false) (hs : ∀ i, i < l.length → stuckS bl bound l i i = none) : False := by
  have h2 : alonesS bl bound l = true := by
    unfold alonesS
    rw [List.all_eq_true]
    intro t ht
    obtain ⟨i, hi, rfl⟩ := List.getElem_of_mem ht
    have := hs i hi
    rw [stuckS_self _ _ _ hi, List.getD_eq_getElem?_getD, List.getElem?_eq_getElem hi] at this
    rw [show badX bl bound l[i] l[i].n = none from this]
    rfl
  rw [h2] at h; cases h
/-- Where a row begins. -/
def rowLo (rs : List (Nat × Nat × Nat)) (i : Nat) : Nat := if i = 0 then 0 else (rs.getD (i - 1) (0, 0, 0)).2.1
/-- The plan that bends all blades before the last stint of each of the first rows. -/
def allF (rs : List (Nat × Nat × Nat)) (full : Int) (i : Nat) (j : Nat) : Int := if ((rs.take i).map (·.2.1)).contains (j + 1) then full else 0
theorem allF_zero (rs : List (Nat × Nat × Nat)) (full : Int) (j : Nat) : allF rs full 0 j = 0 := by unfold allF; simp
theorem allF_next {rs : List (Nat × Nat × Nat)} {full : Int} {i : Nat} (hi : i < rs.length) (hb : 0 < (rs.getD i (0, 0, 0)).2.1) : allF rs full (i + 1) ((rs.getD i (0, 0, 0)).2.1 - 1) = full ∧ ∀ j, j ≠ (rs.getD i (0, 0, 0)).2.1 - 1 → allF rs full (i + 1) j = allF rs full i j := by
  have e : rs.take (i + 1) = rs.take i ++ [rs.getD i (0, 0, 0)] := by
    rw [List.take_add_one, List.getElem?_eq_getElem hi, List.getD_eq_getElem?_getD, List.getElem?_eq_getElem hi]; rfl
  generalize rs.getD i (0, 0, 0) = x at *
  unfold allF
  rw [e, List.map_append]
  refine ⟨if_pos ?_, fun j hj => ?_⟩
  · simp; right; omega
  · have h1 : (List.map (fun x => x.2.1) (rs.take i) ++ List.map (fun x => x.2.1) [x]).contains (j + 1) = (List.map (fun x => x.2.1) (rs.take i)).contains (j + 1) := by
      rw [Bool.eq_iff_iff]
      simp
      omega
    rw [h1]
theorem all_good {d : Die} (hal : alonesS d.blades d.bound l = true) (hc : checkS d l = 0) {rs : List (Nat × Nat × Nat)} (hrs : RowsOk d.blades d.bound l 0 rs) : ∃ q, followS d l ((List.range (l.length - 1)).map (allF rs ((2 : Int) ^ d.blades.length - 1) rs.length)) = (q, (l.length : Int), 0, 0) := by
  have hp : (2 : Int) ^ d.blades.length = ((2 ^ d.blades.length : Nat) : Int) := by rw [Int.natCast_pow]; rfl
  have hp1 : 1 ≤ 2 ^ d.blades.length := Nat.pow_pos (by omega)
  have hok : planOk d.blades.length l ((List.range (l.length - 1)).map (allF rs ((2 : Int) ^ d.blades.length - 1) rs.length)) = true := by
    rw [planOk_iff]
    refine ⟨fun s hs => ?_, by simp⟩
    obtain ⟨j, -, rfl⟩ := List.mem_map.1 hs
    unfold allF
    split <;> omega
  have hbad : badP d.blades d.bound l (fun _ => 0) (setsOf ((List.range (l.length - 1)).map (allF rs ((2 : Int) ^ d.blades.length - 1) rs.length))) 0 = none := by
    have hfull : ∀ k, k < d.blades.length → has (2 ^ d.blades.length - 1) k = true := fun k hk => by
      unfold has
      rw [Nat.testBit_two_pow_sub_one]; simpa using hk
    by_cases h0 : l.length = 0
    · obtain rfl : l = [] := List.length_eq_zero_iff.1 h0
      unfold setsOf badP; rfl
    refine rows_good hal hfull _ (sets_at hok (by omega)).1 l.length 0 0 rs (fun _ => 0) (by omega) hrs (Nat.le_refl _) (fun x hx => by omega) (fun j h1 h2 => ?_) (fun j hj => by rw [runSum_self])
    cases j with
    | zero =>
      rw [if_neg]
      · rfl
      · intro h
        simp only [List.contains_iff_mem, List.mem_map] at h
        obtain ⟨x, hx, e⟩ := h
        have := RowsOk.later hrs x hx
        omega
    | succ j =>
      show (((List.range (l.length - 1)).map (allF rs ((2 : Int) ^ d.blades.length - 1) rs.length)).map Int.toNat).getD j 0 = _
      rw [List.getD_eq_getElem?_getD, List.getElem?_map, List.getElem?_map, List.getElem?_range (by omega)]
      show (allF rs ((2 : Int) ^ d.blades.length - 1) rs.length j).toNat = _
      unfold allF
      rw [List.take_of_length_le (Nat.le_refl _)]
      split <;> omega
  refine ⟨sumN (costS d.stop d.bend) (setsOf ((List.range (l.length - 1)).map (allF rs ((2 : Int) ^ d.blades.length - 1) rs.length))), ?_⟩
  unfold followS
  rw [if_neg (fun h => h hc), if_neg (by rw [hok]; simp), hbad]
theorem rows_get {rs : List (Nat × Nat × Nat)} (hrs : RowsOk bl bound l 0 rs) {i : Nat} (hi : i < rs.length) : (rs.getD i (0, 0, 0)).1 = rowLo rs i ∧ (rs.getD i (0, 0, 0)).1 < (rs.getD i (0, 0, 0)).2.1 ∧ (rs.getD i (0, 0, 0)).2.1 < l.length ∧ stuckS bl bound l (rs.getD i (0, 0, 0)).1 ((rs.getD i (0, 0, 0)).2.1 - 1) = none ∧ stuckS bl bound l (rs.getD i (0, 0, 0)).1 (rs.getD i (0, 0, 0)).2.1 = some (rs.getD i (0, 0, 0)).2.2 := by
  have h := hrs.at i hi
  have e : rs.getD i (0, 0, 0) = rs[i] := by rw [List.getD_eq_getElem?_getD, List.getElem?_eq_getElem hi]; rfl
  rw [e]; exact h
theorem rowLo_next (rs : List (Nat × Nat × Nat)) (i : Nat) : rowLo rs (i + 1) = (rs.getD i (0, 0, 0)).2.1 := by
  unfold rowLo; rw [if_neg (by omega)]; rfl
end
/-- A good plan bends something in each row. -/
theorem row_stops {d : Die} {l : List Stint} (ok : OkD d) (okl : OkL l) {rs : List (Nat × Nat × Nat)} (hrs : RowsOk d.blades d.bound l 0 rs) {i : Nat} (hi : i < rs.length) {plan : List Int} {q n k : Int} (hf : followS d l plan = (q, n, k, 0)) (hz : ∀ t, (rs.getD i (0, 0, 0)).1 < t → t ≤ (rs.getD i (0, 0, 0)).2.1 → plan.getD (t - 1) 0 ≤ 0) : False := by
  obtain ⟨-, hpo, -, -, hbad⟩ := follow_good hf
  obtain ⟨-, h2, h3, h4, h5⟩ := rows_get hrs hi
  have hpi := planOk_iff.1 hpo
  have hsl := (sets_at hpo (by omega)).1
  refine good_stops (Wear.refl ok.bl) h2 h3 h5 h4 (fun t ht => by have := okl.st t ht; omega) (setsOf plan) hsl (fun s h6 h7 => ?_) l.length 0 (fun _ => 0) (by omega) (by omega) (fun _ _ => Int.le_refl _) (fun h => by omega) hbad
  have h8 := hz s h6 h7
  have h9 := (sets_at hpo (by omega)).2.2.2 (s - 1) (by omega)
  rw [show s - 1 + 1 = s by omega] at h9
  omega
end Go.Proofs.YtbhkglokdomajaaDoor
