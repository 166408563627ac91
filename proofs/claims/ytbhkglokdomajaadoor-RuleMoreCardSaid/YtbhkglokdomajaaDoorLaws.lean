import Derived.Test.YtbhkglokdomajaaDoorSpec
namespace Go.Proofs.YtbhkglokdomajaaDoor
open Go.RowKit
/-! Plain facts that the laws want. -/
theorem Wear.refl {bl : List Blade} (h : ∀ b ∈ bl, OkB b) : Wear bl bl (fun k => k) :=
  ⟨fun _ hk => hk, fun _ _ => Int.le_refl _, fun k hk => ⟨Int.le_refl _, by
    rw [List.getD_eq_getElem?_getD, List.getElem?_eq_getElem hk]
    have := (h _ (List.getElem_mem hk)).w
    show 0 ≤ bl[k].wh
    omega⟩⟩
/-- Where a plan is good, each stint could be run alone. -/
theorem eval_alone {bl : List Blade} {bound : Int} {cost : Nat → Int} (hw : Wear bl bl (fun k => k)) : ∀ (l : List (Nat × Stint)) (r : Nat → Int) (p : List Nat) (q : Pl), (∀ k, k < bl.length → 0 ≤ r k) → (∀ t ∈ l, 0 ≤ t.2.n) → evalS bl bound cost l r p = some q → ∀ t ∈ l, badX bl bound t.2 t.2.n = none
  | [], _, _, _, _, _, _, t, ht => by cases ht
  | u :: l, r, [], q, _, _, he, _, _ => by unfold evalS at he; cases he
  | u :: l, r, s :: p, q, hr, hn, he, t, ht => by
    unfold evalS at he
    by_cases hb : (badS bl (bound + u.2.more) (runR bl.length r s u.2.n)).isSome = true
    · rw [if_pos hb] at he; cases he
    · rw [if_neg hb] at he
      have hb0 : badS bl (bound + u.2.more) (runR bl.length r s u.2.n) = none := by
        cases e : badS bl (bound + u.2.more) (runR bl.length r s u.2.n) with
        | none => rfl
        | some k => rw [e] at hb; exact absurd rfl hb
      have hu := hn u (List.mem_cons_self ..)
      have hr' : ∀ k, k < bl.length → u.2.n ≤ runR bl.length r s u.2.n k := fun k hk => by
        unfold runR
        rw [if_pos hk]
        have := hr k hk
        split <;> omega
      rcases List.mem_cons.1 ht with rfl | ht
      · exact hw.bad (r := runR bl.length r s t.2.n) (r' := fun _ => t.2.n) (Int.le_refl _) (fun k hk => ⟨hu, hr' k hk⟩) hb0
      · cases he2 : evalS bl bound cost l (runR bl.length r s u.2.n) p with
        | none => rw [he2] at he; cases he
        | some q2 => exact eval_alone hw l _ p q2 (fun k hk => by have := hr' k hk; omega) (fun t ht => hn t (List.mem_cons_of_mem _ ht)) he2 t ht
/-- Where each stint can be run alone, to bend all blades before each is good. -/
theorem full_good {bl : List Blade} {bound : Int} {cost : Nat → Int} {full : Nat} (hf : ∀ k, k < bl.length → has full k = true) : ∀ (l : List (Nat × Stint)) (r : Nat → Int) (p : List Nat), p.length = l.length → (∀ t ∈ l, badX bl bound t.2 t.2.n = none) → (∀ s ∈ p, s = full) → (evalS bl bound cost l r p).isSome = true
  | [], r, _, _, _, _ => by unfold evalS; rfl
  | u :: l, r, [], hl, _, _ => by cases hl
  | u :: l, r, s :: p, hl, ha, hs => by
    have e : s = full := hs s (List.mem_cons_self ..)
    subst e
    have h1 : badS bl (bound + u.2.more) (runR bl.length r s u.2.n) = none := by
      rw [← ha u (List.mem_cons_self ..)]
      refine badS_congr fun k hk => ?_
      unfold runR
      rw [if_pos (hf k hk), if_pos hk, Int.zero_add]
    have h2 := full_good (bound := bound) (cost := cost) hf l (runR bl.length r s u.2.n) p (by simpa using hl) (fun t ht => ha t (List.mem_cons_of_mem _ ht)) (fun t ht => hs t (List.mem_cons_of_mem _ ht))
    unfold evalS
    rw [h1, if_neg (by simp)]
    cases he : evalS bl bound cost l (runR bl.length r s u.2.n) p with
    | none => rw [he] at h2; cases h2
    | some q => rfl
theorem has_full {n k : Nat} (hk : k < n) : has (2 ^ n - 1) k = true := by
  unfold has; rw [Nat.testBit_two_pow_sub_one]; simpa using hk
theorem all_mem {bl : List Blade} {bound : Int} {l : List Stint} : alonesS bl bound l = true ↔ ∀ t ∈ l, badX bl bound t t.n = none := by
  unfold alonesS
  rw [List.all_eq_true]
  exact ⟨fun h t ht => by simpa using h t ht, fun h t ht => by simpa using h t ht⟩
theorem pairs_mem {n : Nat} {l : List Stint} {t : Nat × Stint} (h : t ∈ pairsS n l) : t.2 ∈ l := by
  have : t.2 ∈ (pairsS n l).map (·.2) := List.mem_map.2 ⟨t, h, rfl⟩
  rw [pairs_fst] at this; exact this
theorem pairs_nums (n : Nat) (l : List Stint) : (pairsS n l).map (·.1) = match l with | [] => [] | _ :: l => 1 :: List.replicate l.length n := by
  cases l with
  | nil => rfl
  | cons t l =>
    show 1 :: ((l.map fun t => (n, t)).map (·.1)) = _
    rw [List.map_map]
    congr 1
    induction l with
    | nil => rfl
    | cons a l ih => rw [List.map_cons, ih]; rfl
/-- There is a good plan just if each stint can be run alone. -/
theorem best_iff {d : Die} {l : List Stint} (ok : OkD d) (okl : OkL l) : (bestD d l).isSome = alonesS d.blades d.bound l := by
  rw [Bool.eq_iff_iff]
  constructor
  · intro h
    cases hb : bestD d l with
    | none => rw [hb] at h; cases h
    | some x =>
      unfold bestD at hb
      have h1 := (best_is hb).2.1
      refine all_mem.2 fun t ht => ?_
      have h2 : ∀ u ∈ pairsS (2 ^ d.blades.length) l, 0 ≤ u.2.n := fun u hu => by have := okl.st _ (pairs_mem hu); omega
      have ht' : t ∈ (pairsS (2 ^ d.blades.length) l).map (·.2) := by rw [pairs_fst]; exact ht
      obtain ⟨u, hu, rfl⟩ := List.mem_map.1 ht'
      exact eval_alone (Wear.refl ok.bl) _ _ _ _ (fun _ _ => Int.le_refl _) h2 h1 u hu
  · intro h
    have ha := all_mem.1 h
    unfold bestD
    match l, okl, ha with
    | [], _, _ => rfl
    | t :: l, okl, ha =>
      have h1 : badS d.blades (d.bound + t.more) (runR d.blades.length (fun _ => 0) 0 t.n) = none := by
        rw [← ha t (List.mem_cons_self ..)]
        refine badS_congr fun k hk => ?_
        unfold runR
        rw [if_pos hk]
        split <;> (show (0 : Int) + _ = _; omega)
      have h2 := full_good (bl := d.blades) (bound := d.bound) (cost := costS d.stop d.bend) (full := 2 ^ d.blades.length - 1) (fun k hk => has_full hk) (l.map fun t => (2 ^ d.blades.length, t)) (runR d.blades.length (fun _ => 0) 0 t.n) (List.replicate l.length (2 ^ d.blades.length - 1)) (by simp) (fun u hu => by
        obtain ⟨v, hv, rfl⟩ := List.mem_map.1 hu
        exact ha v (List.mem_cons_of_mem _ hv)) (fun s hs => (List.mem_replicate.1 hs).2)
      cases he : evalS d.blades d.bound (costS d.stop d.bend) (l.map fun t => (2 ^ d.blades.length, t)) (runR d.blades.length (fun _ => 0) 0 t.n) (List.replicate l.length (2 ^ d.blades.length - 1)) with
      | none => rw [he] at h2; cases h2
      | some q =>
        have hq : evalS d.blades d.bound (costS d.stop d.bend) (pairsS (2 ^ d.blades.length) (t :: l)) (fun _ => 0) (0 :: List.replicate l.length (2 ^ d.blades.length - 1)) = some (0 :: q.1, q.2 + costS d.stop d.bend 0) := by
          unfold pairsS evalS
          rw [h1, if_neg (by simp), he]; rfl
        have hp := eval_plan d.blades d.bound (costS d.stop d.bend) _ _ _ (by simp [pairsS]) hq
        rw [hp] at hq
        obtain ⟨x, hx, -⟩ := best_some (p := 0 :: List.replicate l.length (2 ^ d.blades.length - 1)) (by
          rw [pairs_nums]
          refine (mem_plans _ _).2 ⟨by simp, fun i hi => ?_⟩
          cases i with
          | zero => simp
          | succ i =>
            have hpos : 0 < 2 ^ d.blades.length := Nat.two_pow_pos _
            have : i < l.length := by simpa using hi
            simp [List.getD_eq_getElem?_getD, this]
            omega) hq
        rw [hx]; rfl
/-! A plan that is good, and what Follow says of it. -/
theorem check_zero {d : Die} {l : List Stint} : checkS d l = 0 ↔ dieS d = true ∧ stintsS l = true := by
  unfold checkS
  cases dieS d <;> cases stintsS l <;> simp
theorem check_ok {d : Die} {l : List Stint} (ok : OkD d) (okl : OkL l) : checkS d l = 0 := check_zero.2 ⟨(okd_iff d).2 ok, (okl_iff l).2 okl⟩
theorem planOk_iff {nb : Nat} {l : List Stint} {plan : List Int} : planOk nb l plan = true ↔ (∀ s ∈ plan, 0 ≤ s ∧ s.toNat < 2 ^ nb) ∧ plan.length = l.length - 1 := by
  unfold planOk inS powI
  rw [Bool.and_eq_true, List.all_eq_true, decide_eq_true_eq]
  constructor
  · rintro ⟨h1, h2⟩
    refine ⟨fun s hs => ?_, by omega⟩
    have := h1 s hs
    rw [decide_eq_true_eq] at this
    omega
  · rintro ⟨h1, h2⟩
    refine ⟨fun s hs => ?_, by omega⟩
    have := h1 s hs
    rw [decide_eq_true_eq]
    omega
theorem bad_none {bl : List Blade} {bound : Int} {cost : Nat → Int} {n : Nat} {l : List Stint} {p : List Nat} {r : Nat → Int} (hp : p.length = l.length) {i : Nat} (h : badP bl bound l r p i = none) : evalS bl bound cost (pairsS n l) r p = some (p, sumN cost p) := by
  rw [eval_bad bl bound cost (pairsS n l) r p i (by rw [pairs_len]; exact hp), pairs_fst, h, if_neg (by simp)]
theorem bad_of_eval {bl : List Blade} {bound : Int} {cost : Nat → Int} {n : Nat} {l : List Stint} {p : List Nat} {r : Nat → Int} (hp : p.length = l.length) {q : Pl} (h : evalS bl bound cost (pairsS n l) r p = some q) (i : Nat) : badP bl bound l r p i = none := by
  rw [eval_bad bl bound cost (pairsS n l) r p i (by rw [pairs_len]; exact hp), pairs_fst] at h
  cases hb : badP bl bound l r p i with
  | none => rfl
  | some x => rw [hb] at h; cases h
theorem mem_pairs {n : Nat} {t : Stint} {l : List Stint} {p : List Nat} : (0 :: p) ∈ plansS ((pairsS n (t :: l)).map (·.1)) ↔ p.length = l.length ∧ ∀ s ∈ p, s < n := by
  rw [pairs_nums, mem_plans]
  simp only [List.length_cons, List.length_replicate]
  constructor
  · rintro ⟨h1, h2⟩
    have h1' : p.length = l.length := by omega
    refine ⟨h1', fun s hs => ?_⟩
    obtain ⟨i, hi, rfl⟩ := List.getElem_of_mem hs
    have := h2 (i + 1) (by omega)
    simpa [List.getD_eq_getElem?_getD, List.getElem?_eq_getElem hi, List.getElem?_replicate, show i < l.length by omega] using this
  · rintro ⟨h1, h2⟩
    refine ⟨by omega, fun i hi => ?_⟩
    cases i with
    | zero => simp
    | succ i =>
      have hi' : i < p.length := by omega
      have := h2 _ (List.getElem_mem hi')
      simpa [List.getD_eq_getElem?_getD, List.getElem?_eq_getElem hi', List.getElem?_replicate, show i < l.length by omega] using this
theorem best_form {d : Die} {l : List Stint} {x : Pl} (h : bestD d l = some x) : (l = [] ∧ x = ([], 0)) ∨ (l ≠ [] ∧ ∃ p, x = (0 :: p, sumN (costS d.stop d.bend) (0 :: p)) ∧ p.length = l.length - 1 ∧ (∀ s ∈ p, s < 2 ^ d.blades.length) ∧ badP d.blades d.bound l (fun _ => 0) (0 :: p) 0 = none) := by
  match l, h with
  | [], h => left; unfold bestD pairsS bestS at h; injection h with h; exact ⟨rfl, h.symm⟩
  | t :: l, h =>
    right
    refine ⟨by simp, ?_⟩
    unfold bestD at h
    obtain ⟨h1, h2, h3⟩ := best_is h
    have h0 : ∃ p, x.1 = 0 :: p := by
      rw [pairs_nums] at h1
      simp only [plansS, List.mem_flatMap, List.mem_range, List.mem_map] at h1
      obtain ⟨s, hs, p, -, e⟩ := h1
      exact ⟨p, by rw [← e, show s = 0 by omega]⟩
    obtain ⟨p, hp⟩ := h0
    rw [hp] at h1 h2 h3
    obtain ⟨g1, g2⟩ := mem_pairs.1 h1
    refine ⟨p, ?_, by simpa using g1, g2, bad_of_eval (by simp [g1]) h2 0⟩
    rw [← hp] at h3 ⊢
    exact Prod.ext rfl h3
theorem toNat_map (p : List Nat) : (p.map Int.ofNat).map Int.toNat = p := by
  rw [List.map_map]
  exact (List.map_congr_left fun _ _ => by simp).trans (List.map_id p)
/-- The best plan is good, and costs what is said. -/
theorem follow_best {d : Die} {l : List Stint} (ok : OkD d) (okl : OkL l) {x : Pl} (h : bestD d l = some x) : followS d l (x.1.tail.map Int.ofNat) = (x.2, (l.length : Int), 0, 0) := by
  unfold followS
  rw [if_neg (by simp [check_ok ok okl])]
  rcases best_form h with ⟨rfl, rfl⟩ | ⟨hne, p, rfl, h1, h2, h3⟩
  · rw [if_neg (by simp [planOk])]
    show (sumN (costS d.stop d.bend) [0], _) = _
    unfold sumN sumN costS
    simp
  · rw [if_neg (by
      rw [Bool.not_eq_false, planOk_iff]
      refine ⟨fun s hs => ?_, by simpa using h1⟩
      obtain ⟨k, hk, rfl⟩ := List.mem_map.1 hs
      have := h2 k hk
      exact ⟨by simp, by simpa using this⟩)]
    have e : setsOf (((0 :: p).tail).map Int.ofNat) = 0 :: p := by
      unfold setsOf; rw [toNat_map]; rfl
    rw [e, h3]
/-- What Follow finds good is one of the plans that are compared. -/
theorem follow_good {d : Die} {l : List Stint} {plan : List Int} {c n k : Int} (h : followS d l plan = (c, n, k, 0)) : checkS d l = 0 ∧ planOk d.blades.length l plan = true ∧ c = sumN (costS d.stop d.bend) (setsOf plan) ∧ n = l.length ∧ badP d.blades d.bound l (fun _ => 0) (setsOf plan) 0 = none := by
  unfold followS at h
  by_cases h1 : checkS d l ≠ 0
  · rw [if_pos h1] at h
    injection h with _ h
    injection h with _ h
    injection h with _ h
    exact absurd h h1
  · rw [if_neg h1] at h
    by_cases h2 : planOk d.blades.length l plan = false
    · rw [if_pos h2] at h
      injection h with _ h
      injection h with _ h
      injection h with _ h
      cases h
    · rw [if_neg h2] at h
      cases hb : badP d.blades d.bound l (fun _ => 0) (setsOf plan) 0 with
      | some x =>
        rw [hb] at h
        injection h with _ h
        injection h with _ h
        injection h with _ h
        cases h
      | none =>
        rw [hb] at h
        injection h with e1 h
        injection h with e2 h
        exact ⟨by simpa using h1, by simpa using h2, e1.symm, e2.symm, rfl⟩
/-- No good plan costs less than the best one, nor as much and comes before. -/
theorem follow_min {d : Die} {l : List Stint} {plan : List Int} {c n k : Int} (h : followS d l plan = (c, n, k, 0)) : ∃ x, bestD d l = some x ∧ x.2 ≤ c ∧ (x.2 = c → lexS x.1.tail (plan.map Int.toNat) = true) := by
  obtain ⟨h0, h1, h2, -, h3⟩ := follow_good h
  obtain ⟨g1, g2⟩ := planOk_iff.1 h1
  match l, g2, h3 with
  | [], g2, h3 =>
    have : plan = [] := List.eq_nil_of_length_eq_zero (by simpa using g2)
    subst this
    refine ⟨([], 0), rfl, ?_, fun _ => rfl⟩
    rw [h2]
    show (0 : Int) ≤ sumN _ [0]
    unfold sumN sumN costS
    simp
  | t :: l, g2, h3 =>
    have hl : (plan.map Int.toNat).length = l.length := by simpa using g2
    have he := bad_none (cost := costS d.stop d.bend) (n := 2 ^ d.blades.length) (p := setsOf plan) (by unfold setsOf; simpa using g2) h3
    have hm : setsOf plan ∈ plansS ((pairsS (2 ^ d.blades.length) (t :: l)).map (·.1)) := mem_pairs.2 ⟨hl, fun s hs => by
      obtain ⟨z, hz, rfl⟩ := List.mem_map.1 hs
      exact (g1 z hz).2⟩
    obtain ⟨x, hx, -⟩ := best_some hm he
    obtain ⟨m1, m2⟩ := best_min hx hm he
    refine ⟨x, hx, by omega, fun e => ?_⟩
    have m3 := m2 (by omega)
    rcases best_form (d := d) (l := t :: l) hx with ⟨e0, -⟩ | ⟨-, p, rfl, -⟩
    · cases e0
    · unfold setsOf lexS at m3
      rw [if_pos rfl] at m3
      exact m3
end Go.Proofs.YtbhkglokdomajaaDoor
