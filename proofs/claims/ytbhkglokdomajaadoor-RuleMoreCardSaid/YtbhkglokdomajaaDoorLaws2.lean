import Derived.Test.YtbhkglokdomajaaDoorLaws
namespace Go.Proofs.YtbhkglokdomajaaDoor
open Go.RowKit
/-! Plain facts: more allowed, or less to do. -/
theorem pairs_get {n : Nat} {l : List Stint} {k : Nat} : ((pairsS n l).getD k (0, ⟨0, 0⟩)).2 = l.getD k ⟨0, 0⟩ := by
  have h : ((pairsS n l).map (·.2))[k]? = l[k]? := by rw [pairs_fst]
  rw [List.getElem?_map] at h
  simp only [List.getD_eq_getElem?_getD]
  rw [← h]
  cases (pairsS n l)[k]? <;> rfl
structure Mor (d d' : Die) (l l' : List Stint) : Prop where
  ok : OkD d
  okl : OkL l
  ok' : OkD d'
  okl' : OkL l'
  nb : d'.blades.length = d.blades.length
  wear : Wear d.blades d'.blades (fun k => k)
  stop : d'.stop = d.stop
  bend : d'.bend = d.bend
  len : l'.length = l.length
  st : ∀ k, k < l.length → 0 ≤ (l'.getD k ⟨0, 0⟩).n ∧ (l'.getD k ⟨0, 0⟩).n ≤ (l.getD k ⟨0, 0⟩).n ∧ d.bound + (l.getD k ⟨0, 0⟩).more ≤ d'.bound + (l'.getD k ⟨0, 0⟩).more
theorem Mor.best {d d' : Die} {l l' : List Stint} (h : Mor d d' l l') {x : Pl} (hb : bestD d l = some x) : followS d' l' (x.1.tail.map Int.ofNat) = (x.2, (l'.length : Int), 0, 0) ∧ (∃ x', bestD d' l' = some x' ∧ x'.2 ≤ x.2) ∧ alonesS d'.blades d'.bound l' = true ∧ (proofS d'.blades d'.bound l').length ≤ (proofS d.blades d.bound l).length := by
  have hrows : (proofS d'.blades d'.bound l').length ≤ (proofS d.blades d.bound l).length := by
    have := rows_less (bl := d.blades) (bl' := d'.blades) (bound := d.bound) (bound' := d'.bound) l l' 0 0 0 0 0 0 0 0 h.len.symm (fun k hk => by
      obtain ⟨h1, h2, h3⟩ := h.st k hk
      exact h.wear.less h2 h1 h3) (Int.le_refl _) (Int.le_refl _) (Or.inr ⟨rfl, Int.le_refl _⟩)
    unfold proofS; omega
  have hfol : followS d' l' (x.1.tail.map Int.ofNat) = (x.2, (l'.length : Int), 0, 0) := by
    unfold followS
    rw [if_neg (by simp [check_ok h.ok' h.okl'])]
    rcases best_form hb with ⟨rfl, rfl⟩ | ⟨hne, p, rfl, h1, h2, h3⟩
    · have : l' = [] := List.eq_nil_of_length_eq_zero (by rw [h.len]; rfl)
      subst this
      rw [if_neg (by simp [planOk])]
      show (sumN (costS d'.stop d'.bend) [0], _) = _
      unfold sumN sumN costS
      simp
    · rw [if_neg (by
        rw [Bool.not_eq_false, planOk_iff]
        refine ⟨fun s hs => ?_, by rw [h.len]; simpa using h1⟩
        obtain ⟨k, hk, rfl⟩ := List.mem_map.1 hs
        have := h2 k hk
        rw [h.nb]
        exact ⟨by simp, by simpa using this⟩)]
      have e : setsOf (((0 :: p).tail).map Int.ofNat) = 0 :: p := by
        unfold setsOf; rw [toNat_map]; rfl
      have hlen : (0 :: p).length = l.length := by
        have : l.length ≠ 0 := fun e => hne (List.eq_nil_of_length_eq_zero e)
        rw [List.length_cons]; omega
      have he := bad_none (cost := costS d.stop d.bend) (n := 2 ^ d.blades.length) hlen h3
      obtain ⟨c', g1, -⟩ := h.wear.eval (f := fun s => s) (fun _ _ _ => rfl) (fun s => Int.le_refl _) (pairsS (2 ^ d.blades.length) l) (pairsS (2 ^ d.blades.length) l') (fun _ => 0) (fun _ => 0) (0 :: p) _ (by rw [pairs_len, pairs_len, h.len]) (fun k hk => by
        rw [pairs_get, pairs_get]
        exact h.st k (by rw [pairs_len] at hk; exact hk)) (fun _ _ => ⟨Int.le_refl _, Int.le_refl _⟩) (by rw [pairs_len]; exact hlen) he
      rw [List.map_id' ] at g1
      have g2 := bad_of_eval (by rw [h.len]; exact hlen) g1 0
      rw [e, g2, h.stop, h.bend]
  obtain ⟨x', hx', hle, -⟩ := follow_min hfol
  refine ⟨hfol, ⟨x', hx', hle⟩, ?_, hrows⟩
  rw [← best_iff h.ok' h.okl', hx']; rfl
/-! One stint less, or one blade less. -/
theorem pairs_dropLast (n : Nat) {l : List Stint} {t : Stint} (hl : l ≠ []) : pairsS n (l ++ [t]) = pairsS n l ++ [(n, t)] := by
  match l, hl with
  | u :: l, _ => show (1, u) :: ((l ++ [t]).map _) = _; rw [List.map_append]; rfl
theorem OkL.sub {l l' : List Stint} (h : OkL l) (hs : ∀ t ∈ l', t ∈ l) (hl : l'.length ≤ l.length) : OkL l' := ⟨by have := h.nl; omega, fun t ht => h.st t (hs t ht)⟩
theorem less_end {d : Die} {l : List Stint} {t : Stint} (ok : OkD d) (okl : OkL (l ++ [t])) {x : Pl} (hb : bestD d (l ++ [t]) = some x) : ∃ x', bestD d l = some x' ∧ x'.2 ≤ x.2 := by
  have okl' : OkL l := okl.sub (fun t ht => List.mem_append_left _ ht) (by simp)
  by_cases hl : l = []
  · subst hl
    refine ⟨([], 0), rfl, ?_⟩
    rcases best_form hb with ⟨e, -⟩ | ⟨-, p, rfl, -⟩
    · cases e
    · show (0 : Int) ≤ sumN _ (0 :: p)
      have : ∀ q : List Nat, 0 ≤ sumN (costS d.stop d.bend) q := by
        intro q
        induction q with
        | nil => exact Int.le_refl _
        | cons s q ih => have := costS_nonneg ok.stop.1 ok.bend.1 s; unfold sumN; omega
      exact this _
  · rcases best_form hb with ⟨e, -⟩ | ⟨-, p, rfl, h1, h2, h3⟩
    · simp at e
    · have hlen : (0 :: p).length = (l ++ [t]).length := by simp at h1 ⊢; omega
      have he := bad_none (cost := costS d.stop d.bend) (n := 2 ^ d.blades.length) hlen h3
      rw [pairs_dropLast _ hl] at he
      obtain ⟨c', g1, g2⟩ := eval_less d.blades d.bound (fun s => costS_nonneg ok.stop.1 ok.bend.1 s) _ _ _ _ _ (by rw [pairs_len]; simpa using hlen) he
      have hp : p ≠ [] := by
        intro e; subst e
        have : l.length ≠ 0 := fun e => hl (List.eq_nil_of_length_eq_zero e)
        rw [List.length_append] at hlen
        simp only [List.length_cons, List.length_nil] at hlen
        omega
      rw [List.dropLast_cons_of_ne_nil hp] at g1
      match l, hl with
      | u :: l, _ =>
        obtain ⟨x', hx', hle⟩ := best_some (p := 0 :: p.dropLast) (mem_pairs.2 ⟨by simp at hlen ⊢; omega, fun s hs => h2 s (List.dropLast_subset _ hs)⟩) g1
        exact ⟨x', hx', by show x'.2 ≤ sumN (costS d.stop d.bend) (0 :: p); omega⟩
theorem alone_sub {bl : List Blade} {bound : Int} {l l' : List Stint} (h : alonesS bl bound l = true) (hs : ∀ t ∈ l', t ∈ l) : alonesS bl bound l' = true := all_mem.2 fun t ht => all_mem.1 h t (hs t ht)
/-- The die without its w-th blade. -/
theorem few_getD (bl : List Blade) (w k : Nat) (hw : w < bl.length) : (bl.take w ++ bl.drop (w + 1)).getD k ⟨0, 0, 0, 0⟩ = bl.getD (upW w k) ⟨0, 0, 0, 0⟩ := by
  unfold upW
  simp only [List.getD_eq_getElem?_getD]
  congr 1
  have hl : (bl.take w).length = w := by rw [List.length_take]; omega
  by_cases h : k < w
  · rw [if_pos h, List.getElem?_append_left (by omega), List.getElem?_take, if_pos h]
  · rw [if_neg h, List.getElem?_append_right (by omega), List.getElem?_drop, hl]
    congr 1; omega
theorem few_wear {bl : List Blade} (h : ∀ b ∈ bl, OkB b) {w : Nat} (hw : w < bl.length) : Wear bl (bl.take w ++ bl.drop (w + 1)) (upW w) := by
  have hl : (bl.take w ++ bl.drop (w + 1)).length = bl.length - 1 := by
    rw [List.length_append, List.length_take, List.length_drop]; omega
  have hu : ∀ k, k < (bl.take w ++ bl.drop (w + 1)).length → upW w k < bl.length := fun k hk => by
    unfold upW; rw [hl] at hk; split <;> omega
  refine ⟨hu, fun k _ => ?_, fun k hk => ?_⟩
  · rw [few_getD _ _ _ hw]; exact Int.le_refl _
  · rw [few_getD _ _ _ hw]
    refine ⟨Int.le_refl _, ?_⟩
    rw [List.getD_eq_getElem?_getD, List.getElem?_eq_getElem (hu k hk)]
    have := (h _ (List.getElem_mem (hu k hk))).w
    show 0 ≤ (bl[upW w k]'(hu k hk)).wh
    omega
theorem less_blade {d d' : Die} {l : List Stint} (ok : OkD d) (okl : OkL l) {w : Nat} (hw : w < d.blades.length) (h2 : 2 ≤ d.blades.length) (hbl : d'.blades = d.blades.take w ++ d.blades.drop (w + 1)) (hbd : d'.bound = d.bound) (hst : d'.stop = d.stop) (hbe : d'.bend = d.bend) {x : Pl} (hb : bestD d l = some x) :
    OkD d' ∧ (∃ x', bestD d' l = some x' ∧ x'.2 ≤ x.2) ∧ alonesS d'.blades d'.bound l = true ∧ (proofS d'.blades d'.bound l).length ≤ (proofS d.blades d.bound l).length := by
  have hwear : Wear d.blades d'.blades (upW w) := by rw [hbl]; exact few_wear ok.bl hw
  have hl : d'.blades.length = d.blades.length - 1 := by rw [hbl, List.length_append, List.length_take, List.length_drop]; omega
  have ok' : OkD d' := ⟨by have := ok.nb; omega, fun b hb => ok.bl b (by
    rw [hbl] at hb
    rcases List.mem_append.1 hb with hb | hb
    · exact List.mem_of_mem_take hb
    · exact List.mem_of_mem_drop hb), by rw [hbd]; exact ok.bound, by rw [hst]; exact ok.stop, by rw [hbe]; exact ok.bend⟩
  have hrows : (proofS d'.blades d'.bound l).length ≤ (proofS d.blades d.bound l).length := by
    have := rows_less (bl := d.blades) (bl' := d'.blades) (bound := d.bound) (bound' := d'.bound) l l 0 0 0 0 0 0 0 0 rfl (fun k hk => by
      have ht : 0 ≤ (l.getD k ⟨0, 0⟩).n := by
        rw [List.getD_eq_getElem?_getD, List.getElem?_eq_getElem hk]
        have := okl.st _ (List.getElem_mem hk)
        show 0 ≤ l[k].n
        omega
      exact hwear.less (Int.le_refl _) ht (by rw [hbd]; exact Int.le_refl _)) (Int.le_refl _) (Int.le_refl _) (Or.inr ⟨rfl, Int.le_refl _⟩)
    unfold proofS; omega
  have hbest : ∃ x', bestD d' l = some x' ∧ x'.2 ≤ x.2 := by
    rcases best_form hb with ⟨rfl, rfl⟩ | ⟨hne, p, rfl, h1, h2, h3⟩
    · exact ⟨([], 0), rfl, Int.le_refl _⟩
    · have hlen : (0 :: p).length = l.length := by
        have : l.length ≠ 0 := fun e => hne (List.eq_nil_of_length_eq_zero e)
        rw [List.length_cons]; omega
      have he := bad_none (cost := costS d.stop d.bend) (n := 2 ^ d.blades.length) hlen h3
      have hnb := ok.nb
      -- sets of a plan have no bit above the fifth: those that do cost what they cost
      obtain ⟨c', g1, g2⟩ := hwear.eval (bound' := d'.bound) (cost' := fun s => if s < 2 ^ (d.blades.length - 1) then costS d.stop d.bend s else 0) (f := dropBit w) (fun s k _ => has_dropBit w s k) (cost := fun s => if s < 2 ^ d.blades.length then costS d.stop d.bend s else 0) (fun s => by
        by_cases hs : s < 2 ^ d.blades.length
        · have h32 : 2 ^ d.blades.length ≤ 2 ^ 5 := Nat.pow_le_pow_right (by omega) (by omega)
          rw [if_pos hs, if_pos (dropBit_lt hw hs)]
          exact drop_cost ok.stop.1 ok.bend.1 (by omega) (by omega)
        · rw [if_neg hs]
          by_cases hd : dropBit w s < 2 ^ (d.blades.length - 1)
          · exfalso
            refine hs (Nat.lt_pow_two_of_testBit _ fun k hk => ?_)
            have := has_dropBit w s (k - 1)
            unfold has at this
            rw [show upW w (k - 1) = k by unfold upW; rw [if_neg (by omega)]; omega] at this
            rw [← this]
            exact Nat.testBit_lt_two_pow (Nat.lt_of_lt_of_le hd (Nat.pow_le_pow_right (by omega) (by omega)))
          · rw [if_neg hd]; exact Int.le_refl _) (pairsS (2 ^ d.blades.length) l) (pairsS (2 ^ d'.blades.length) l) (fun _ => 0) (fun _ => 0) (0 :: p) (sumN (fun s => if s < 2 ^ d.blades.length then costS d.stop d.bend s else 0) (0 :: p)) (by rw [pairs_len, pairs_len]) (fun k hk => by
        rw [pairs_get, pairs_get]
        rw [pairs_len] at hk
        have ht : 0 ≤ (l.getD k ⟨0, 0⟩).n := by
          rw [List.getD_eq_getElem?_getD, List.getElem?_eq_getElem hk]
          have := okl.st _ (List.getElem_mem hk)
          show 0 ≤ l[k].n
          omega
        exact ⟨ht, Int.le_refl _, by rw [hbd]; exact Int.le_refl _⟩) (fun _ _ => ⟨Int.le_refl _, Int.le_refl _⟩) (by rw [pairs_len]; exact hlen) (bad_none hlen h3)
      have hsum : ∀ q : List Nat, (∀ s ∈ q, s < 2 ^ d.blades.length) → sumN (fun s => if s < 2 ^ d.blades.length then costS d.stop d.bend s else 0) q = sumN (costS d.stop d.bend) q := by
        intro q hq
        induction q with
        | nil => rfl
        | cons s q ih => unfold sumN; rw [if_pos (hq s (List.mem_cons_self ..)), ih (fun s hs => hq s (List.mem_cons_of_mem _ hs))]
      have hall : ∀ s ∈ (0 :: p), s < 2 ^ d.blades.length := fun s hs => by
        rcases List.mem_cons.1 hs with rfl | hs
        · exact Nat.two_pow_pos _
        · exact h2 s hs
      rw [hsum _ hall] at g2
      have hbad := bad_of_eval (by rw [List.length_map]; exact hlen) g1 0
      have he' := bad_none (cost := costS d'.stop d'.bend) (n := 2 ^ d'.blades.length) (p := (0 :: p).map (dropBit w)) (by rw [List.length_map]; exact hlen) hbad
      have hc' := eval_plan _ _ _ _ _ _ (by rw [List.length_map, pairs_len]; exact hlen) g1
      have hsum' : ∀ q : List Nat, (∀ s ∈ q, s < 2 ^ (d.blades.length - 1)) → sumN (fun s => if s < 2 ^ (d.blades.length - 1) then costS d.stop d.bend s else 0) q = sumN (costS d'.stop d'.bend) q := by
        intro q hq
        rw [hst, hbe]
        induction q with
        | nil => rfl
        | cons s q ih => unfold sumN; rw [if_pos (hq s (List.mem_cons_self ..)), ih (fun s hs => hq s (List.mem_cons_of_mem _ hs))]
      have hall' : ∀ s ∈ (0 :: p).map (dropBit w), s < 2 ^ (d.blades.length - 1) := fun s hs => by
        obtain ⟨z, hz, rfl⟩ := List.mem_map.1 hs
        exact dropBit_lt hw (hall z hz)
      injection hc' with _ hc'
      rw [hsum' _ hall'] at hc'
      have e0 : dropBit w 0 = 0 := by unfold dropBit; simp
      rw [List.map_cons, e0] at he' hall' hc'
      match l, hne, hlen with
      | t :: l, _, hlen =>
        obtain ⟨x', hx', hle⟩ := best_some (p := 0 :: p.map (dropBit w)) (mem_pairs.2 ⟨by simpa using hlen, fun s hs => by rw [hl]; exact hall' s (List.mem_cons_of_mem _ hs)⟩) he'
        exact ⟨x', hx', by show x'.2 ≤ sumN (costS d.stop d.bend) (0 :: p); omega⟩
  refine ⟨ok', hbest, ?_, hrows⟩
  obtain ⟨x', hx', -⟩ := hbest
  rw [← best_iff ok' okl, hx']; rfl
end Go.Proofs.YtbhkglokdomajaaDoor
