import Derived.Test.YtbhkglokdomajaaDoorLaws4
namespace Go.Proofs.YtbhkglokdomajaaDoor
/-! All plans, one after the other: the best one so far. -/
def costP (d : Die) (p : List Nat) : Int := sumN (costS d.stop d.bend) (0 :: p)
def badL (d : Die) (l : List Stint) (p : List Nat) : Option (Nat × Nat) := badP d.blades d.bound l (fun _ => 0) (0 :: p) 0
def evP (d : Die) (l : List Stint) (p : List Nat) : Option Pl := if (badL d l p).isSome then none else some (0 :: p, costP d p)
def BestIs (d : Die) (l : List Stint) (L : List (List Nat)) (q : Nat) (b : Int) : Prop := (fm ((L.take q).map (evP d l)) = none ∧ b = -1) ∨ ∃ j : Nat, j < q ∧ j < L.length ∧ b = j ∧ fm ((L.take q).map (evP d l)) = some (0 :: L.getD j [], costP d (L.getD j []))
theorem best_start (d : Die) (l : List Stint) (L : List (List Nat)) : BestIs d l L 0 (-1) := .inl ⟨rfl, rfl⟩
theorem fm_next (d : Die) (l : List Stint) {L : List (List Nat)} {q : Nat} (hq : q < L.length) : fm ((L.take (q + 1)).map (evP d l)) = better (fm ((L.take q).map (evP d l))) (evP d l (L.getD q [])) := by
  rw [List.take_succ_eq_append_getElem hq, List.map_append, fm_append]
  congr 1
  rw [List.getD_eq_getElem?_getD, List.getElem?_eq_getElem hq]
  exact none_better _
theorem best_bad {d : Die} {l : List Stint} {L : List (List Nat)} {q : Nat} {b : Int} (hq : q < L.length) (h : BestIs d l L q b) {x : Nat × Nat} (hb : badL d l (L.getD q []) = some x) : BestIs d l L (q + 1) b := by
  have e : evP d l (L.getD q []) = none := by unfold evP; rw [hb]; rfl
  unfold BestIs
  rw [fm_next d l hq, e, better_none]
  rcases h with h | ⟨j, h1, h2, h3, h4⟩
  · exact .inl h
  · exact .inr ⟨j, by omega, h2, h3, h4⟩
theorem best_first {d : Die} {l : List Stint} {L : List (List Nat)} {q : Nat} {b : Int} (hq : q < L.length) (h : BestIs d l L q b) (hb : badL d l (L.getD q []) = none) (h0 : b < 0) : BestIs d l L (q + 1) q := by
  have e : evP d l (L.getD q []) = some (0 :: L.getD q [], costP d (L.getD q [])) := by unfold evP; rw [hb]; rfl
  refine .inr ⟨q, by omega, hq, rfl, ?_⟩
  rw [fm_next d l hq, e]
  rcases h with ⟨h, -⟩ | ⟨j, -, -, h3, -⟩
  · rw [h]; rfl
  · omega
theorem best_less {d : Die} {l : List Stint} {L : List (List Nat)} {q : Nat} {j : Nat} (hq : q < L.length) (h : BestIs d l L q j) (hb : badL d l (L.getD q []) = none) (hc : costP d (L.getD q []) < costP d (L.getD j [])) : BestIs d l L (q + 1) q := by
  have e : evP d l (L.getD q []) = some (0 :: L.getD q [], costP d (L.getD q [])) := by unfold evP; rw [hb]; rfl
  refine .inr ⟨q, by omega, hq, rfl, ?_⟩
  rw [fm_next d l hq, e]
  rcases h with ⟨-, h⟩ | ⟨i, -, -, h3, h4⟩
  · omega
  · obtain rfl : j = i := by omega
    rw [h4]
    exact if_pos hc
theorem best_keep {d : Die} {l : List Stint} {L : List (List Nat)} {q : Nat} {j : Nat} (hq : q < L.length) (h : BestIs d l L q j) (hb : badL d l (L.getD q []) = none) (hc : ¬ costP d (L.getD q []) < costP d (L.getD j [])) : BestIs d l L (q + 1) j := by
  have e : evP d l (L.getD q []) = some (0 :: L.getD q [], costP d (L.getD q [])) := by unfold evP; rw [hb]; rfl
  unfold BestIs
  rw [fm_next d l hq, e]
  rcases h with ⟨-, h⟩ | ⟨i, h1, h2, h3, h4⟩
  · omega
  · obtain rfl : j = i := by omega
    refine .inr ⟨j, by omega, h2, rfl, ?_⟩
    rw [h4]
    exact if_neg hc
/-- The document's plan is the program's. -/
theorem plan_ref {d : Die} {l : List Stint} (hch : checkS d l = 0) {b : Int} (h : BestIs d l (plansS (List.replicate (l.length - 1) (2 ^ d.blades.length))) (plansS (List.replicate (l.length - 1) (2 ^ d.blades.length))).length b) :
    (b = -1 ∧ planS d l = ([], 0, 4)) ∨ ∃ j : Nat, j < (plansS (List.replicate (l.length - 1) (2 ^ d.blades.length))).length ∧ b = j ∧ planS d l = ((plansS (List.replicate (l.length - 1) (2 ^ d.blades.length))).getD j [], costP d ((plansS (List.replicate (l.length - 1) (2 ^ d.blades.length))).getD j []), 0) := by
  have hps : planS d l = match bestD d l with
    | none => ([], 0, 4)
    | some (p, c) => (p.tail, c, 0) := by unfold planS; rw [if_neg (fun h => h hch)]; try rfl
  unfold BestIs at h
  rw [List.take_length] at h
  match l, hch, h, hps with
  | [], hch, h, hps =>
    have e : fm ((plansS (List.replicate (([] : List Stint).length - 1) (2 ^ d.blades.length))).map (evP d [])) = some ([0], costP d []) := rfl
    rw [e] at h
    rcases h with ⟨h, -⟩ | ⟨j, h1, h2, h3, h4⟩
    · cases h
    · refine .inr ⟨j, h2, h3, ?_⟩
      injection h4 with h4
      injection h4 with h4 h5
      injection h4 with _ h4
      rw [hps, ← h4]
      show ([], (0 : Int), (0 : Int)) = ([], costP d [], 0)
      rfl
  | t :: l, hch, h, hps =>
    have hall := best_all d.blades d.bound (costS d.stop d.bend) (pairsS (2 ^ d.blades.length) (t :: l)) (fun _ => 0)
    have hn : (pairsS (2 ^ d.blades.length) (t :: l)).map (·.1) = 1 :: List.replicate l.length (2 ^ d.blades.length) := pairs_nums _ _
    have hev : fm ((plansS (List.replicate l.length (2 ^ d.blades.length))).map (evP d (t :: l))) = bestD d (t :: l) := by
      unfold bestD
      rw [← hall, hn]
      show _ = fm (((List.range 1).flatMap fun s => (plansS (List.replicate l.length (2 ^ d.blades.length))).map (s :: ·)).map _)
      rw [show (List.range 1) = [0] from rfl, List.flatMap_singleton, List.map_map]
      congr 1
      apply List.map_congr_left
      intro p hp
      have hl := plans_len _ _ hp
      rw [List.length_replicate] at hl
      show evP d (t :: l) p = evalS d.blades d.bound (costS d.stop d.bend) (pairsS (2 ^ d.blades.length) (t :: l)) (fun _ => 0) (0 :: p)
      rw [eval_bad d.blades d.bound (costS d.stop d.bend) (pairsS (2 ^ d.blades.length) (t :: l)) (fun _ => 0) (0 :: p) 0 (by rw [pairs_len]; simp [hl]), pairs_fst]
      rfl
    rw [show (t :: l).length - 1 = l.length by simp] at h ⊢
    rw [hev] at h
    rcases h with ⟨h, h'⟩ | ⟨j, h1, h2, h3, h4⟩
    · exact .inl ⟨h', by rw [hps, h]⟩
    · exact .inr ⟨j, h2, h3, by rw [hps, h4]; rfl⟩
end Go.Proofs.YtbhkglokdomajaaDoor
