import Derived.WalkKit
namespace Go.Proofs.YtkcfpnpejaekjaaDoor
/-! Plain: rows are given slots of their own, one row after the other (augmenting ways). -/
/-- Which row has a slot. -/
abbrev Tk := Nat → Option Nat
def updT (T : Tk) (s : Nat) (v : Option Nat) : Tk := fun u => if u = s then v else T u
/-- How many of the first n slots a row has. -/
def cntT (T : Tk) (r : Nat) : Nat → Nat
  | 0 => 0
  | n + 1 => cntT T r n + (if T n = some r then 1 else 0)
theorem cntT_upd (T : Tk) (s : Nat) (v : Option Nat) (r : Nat) : ∀ {n : Nat}, (s < n → cntT (updT T s v) r n + (if T s = some r then 1 else 0) = cntT T r n + (if v = some r then 1 else 0)) ∧ (n ≤ s → cntT (updT T s v) r n = cntT T r n)
  | 0 => ⟨fun h => by omega, fun _ => rfl⟩
  | n + 1 => by
    obtain ⟨h1, h2⟩ := cntT_upd T s v r (n := n)
    show (s < n + 1 → cntT (updT T s v) r n + (if updT T s v n = some r then 1 else 0) + _ = cntT T r n + (if T n = some r then 1 else 0) + _) ∧ (n + 1 ≤ s → cntT (updT T s v) r n + (if updT T s v n = some r then 1 else 0) = cntT T r n + (if T n = some r then 1 else 0))
    by_cases e : n = s
    · subst e
      have h3 : updT T n v n = v := if_pos rfl
      rw [h3, h2 (Nat.le_refl _)]
      exact ⟨fun _ => by omega, fun h => by omega⟩
    · have h3 : updT T s v n = T n := if_neg e
      rw [h3]
      exact ⟨fun h => by have := h1 (by omega); omega, fun h => by rw [h2 (by omega)]⟩
theorem cntT_pos {T : Tk} {r : Nat} : ∀ {n : Nat}, 0 < cntT T r n → ∃ s, s < n ∧ T s = some r
  | n + 1, h => by
    have h : 0 < cntT T r n + (if T n = some r then 1 else 0) := h
    by_cases e : T n = some r
    · exact ⟨n, by omega, e⟩
    · rw [if_neg e] at h
      obtain ⟨s, hs, h2⟩ := cntT_pos (n := n) (by omega)
      exact ⟨s, by omega, h2⟩
theorem cntT_one {T : Tk} {r s : Nat} : ∀ {n : Nat}, s < n → T s = some r → 1 ≤ cntT T r n
  | n + 1, hs, h => by
    show 1 ≤ cntT T r n + (if T n = some r then 1 else 0)
    by_cases e : s = n
    · subst e; rw [if_pos h]; omega
    · have := cntT_one (n := n) (by omega) h; omega
theorem cntT_two {T : Tk} {r s t : Nat} (hst : s < t) : ∀ {n : Nat}, t < n → T s = some r → T t = some r → 2 ≤ cntT T r n
  | n + 1, ht, h1, h2 => by
    show 2 ≤ cntT T r n + (if T n = some r then 1 else 0)
    by_cases e : t = n
    · subst e
      rw [if_pos h2]
      have := cntT_one (n := t) hst h1; omega
    · have := cntT_two hst (n := n) (by omega) h1 h2; omega
theorem cntT_inj {T : Tk} {r s t n : Nat} (hc : cntT T r n ≤ 1) (hs : s < n) (ht : t < n) (h1 : T s = some r) (h2 : T t = some r) : s = t := by
  rcases Nat.lt_trichotomy s t with h | h | h
  · have := cntT_two h ht h1 h2; omega
  · exact h
  · have := cntT_two h hs h2 h1; omega
/-! A search. -/
section
variable (R : Nat → List Nat)
/-- Slots that are all taken, by rows that name none outside. -/
def ClosedT (T : Tk) (Z : Nat → Prop) : Prop := ∀ s, Z s → ∃ r, T s = some r ∧ ∀ u ∈ R r, Z u
structure GiveY (T T' : Tk) (S S' : Nat → Bool) (row n : Nat) : Prop where
  cnt : ∀ r, cntT T' r n = cntT T r n + (if r = row then 1 else 0)
  keep : ∀ s, S s = true → T' s = T s
  names : (∀ s r, T s = some r → s ∈ R r) → ∀ s r, T' s = some r → s ∈ R r
  zed : ∀ Z, ClosedT R T Z → (∃ s ∈ R row, ¬ Z s) ∧ ∀ s, Z s → T' s = T s
  out : ∀ s, n ≤ s → T' s = T s
  seen : ∀ s, S s = true → S' s = true
structure GiveN (T : Tk) (S S' : Nat → Bool) (l : List Nat) : Prop where
  seen : ∀ s, S s = true → S' s = true
  own : ∀ s ∈ l, S' s = true
  cl : ∀ s, S' s = true → S s = false → ∃ r, T s = some r ∧ ∀ u ∈ R r, S' u = true
def markS (S : Nat → Bool) (s : Nat) : Nat → Bool := fun u => S u || decide (u = s)
variable {R}
theorem GiveN.start {T : Tk} {S : Nat → Bool} : GiveN R T S S [] := ⟨fun _ h => h, fun _ h => by simp at h, fun s h h0 => by rw [h] at h0; cases h0⟩
theorem GiveN.skip {T : Tk} {S S' : Nat → Bool} {l : List Nat} {s : Nat} (h : GiveN R T S S' l) (hs : S' s = true) : GiveN R T S S' (l ++ [s]) :=
  ⟨h.seen, fun u hu => (List.mem_append.1 hu).elim (h.own u) (fun hu => by rw [List.mem_singleton.1 hu]; exact hs), h.cl⟩
theorem mark_of {S : Nat → Bool} {s u : Nat} (h : S u = true) : markS S s u = true := by unfold markS; rw [h, Bool.true_or]
theorem mark_own (S : Nat → Bool) (s : Nat) : markS S s s = true := by unfold markS; simp
theorem GiveN.go {T : Tk} {S S' S'' : Nat → Bool} {l : List Nat} {s r : Nat} (h : GiveN R T S S' l) (hT : T s = some r) (h2 : GiveN R T (markS S' s) S'' (R r)) : GiveN R T S S'' (l ++ [s]) := by
  have up : ∀ u, S' u = true → S'' u = true := fun u hu => h2.seen u (mark_of hu)
  have hown : S'' s = true := h2.seen s (mark_own _ _)
  refine ⟨fun u hu => up u (h.seen u hu), fun u hu => (List.mem_append.1 hu).elim (fun hu => up u (h.own u hu)) (fun hu => by rw [List.mem_singleton.1 hu]; exact hown), fun u hu h0 => ?_⟩
  by_cases e : u = s
  · subst e; exact ⟨r, hT, h2.own⟩
  · cases hu' : S' u
    · exact h2.cl u hu (by unfold markS; simp [hu', e])
    · obtain ⟨r', h3, h4⟩ := h.cl u hu' h0
      exact ⟨r', h3, fun v hv => up v (h4 v hv)⟩
theorem GiveY.free {T : Tk} {S S' : Nat → Bool} {l : List Nat} {s row n : Nat} (h : GiveN R T S S' l) (hs : S' s = false) (hT : T s = none) (hr : s ∈ R row) (hn : s < n) : GiveY R T (updT T s (some row)) S (markS S' s) row n := by
  refine ⟨fun r => ?_, fun u hu => ?_, fun hnm u r hu => ?_, fun Z hZ => ?_, fun u hu => if_neg (by omega), fun u hu => mark_of (h.seen u hu)⟩
  · have := (cntT_upd T s (some row) r (n := n)).1 hn
    rw [hT, if_neg (by simp)] at this
    by_cases e : r = row
    · subst e; rw [if_pos rfl] at this ⊢; omega
    · rw [if_neg (show ¬ some row = some r from fun h => e (by injection h with h; exact h.symm))] at this
      rw [if_neg e]; omega
  · unfold updT
    rw [if_neg (fun e => by subst e; rw [h.seen u hu] at hs; cases hs)]
  · unfold updT at hu
    by_cases e : u = s
    · rw [if_pos e] at hu; injection hu with hu; rw [e, ← hu]; exact hr
    · rw [if_neg e] at hu; exact hnm u r hu
  · have hns : ¬ Z s := fun hz => by
      obtain ⟨r, h1, _⟩ := hZ s hz
      rw [hT] at h1; cases h1
    exact ⟨⟨s, hr, hns⟩, fun u hu => if_neg (fun e => hns (by rw [← e]; exact hu))⟩
theorem GiveY.move {T T1 : Tk} {S S' S'' : Nat → Bool} {l : List Nat} {s r row n : Nat} (h : GiveN R T S S' l) (hs : S' s = false) (hT : T s = some r) (hr : s ∈ R row) (hn : s < n) (h2 : GiveY R T T1 (markS S' s) S'' r n) : GiveY R T (updT T1 s (some row)) S S'' row n := by
  have hk : T1 s = some r := by rw [h2.keep s (mark_own _ _)]; exact hT
  refine ⟨fun r' => ?_, fun u hu => ?_, fun hnm u r' hu => ?_, fun Z hZ => ?_, fun u hu => ?_, fun u hu => h2.seen u (mark_of (h.seen u hu))⟩
  · have h3 := (cntT_upd T1 s (some row) r' (n := n)).1 hn
    have h4 := h2.cnt r'
    rw [hk] at h3
    by_cases e1 : r' = r <;> by_cases e2 : r' = row
    · subst e1; subst e2
      rw [if_pos rfl] at h3 h4 ⊢; omega
    · subst e1
      rw [if_pos rfl, if_neg (show ¬ some row = some r' from fun h => e2 (by injection h with h; exact h.symm))] at h3
      rw [if_pos rfl] at h4
      rw [if_neg e2]; omega
    · subst e2
      rw [if_neg (show ¬ some r = some r' from fun h => e1 (by injection h with h; exact h.symm)), if_pos rfl] at h3
      rw [if_neg e1] at h4
      rw [if_pos rfl]; omega
    · rw [if_neg (show ¬ some r = some r' from fun h => e1 (by injection h with h; exact h.symm)), if_neg (show ¬ some row = some r' from fun h => e2 (by injection h with h; exact h.symm))] at h3
      rw [if_neg e1] at h4
      rw [if_neg e2]; omega
  · unfold updT
    rw [if_neg (fun e => by subst e; rw [h.seen u hu] at hs; cases hs)]
    exact h2.keep u (mark_of (h.seen u hu))
  · unfold updT at hu
    by_cases e : u = s
    · rw [if_pos e] at hu; injection hu with hu; rw [e, ← hu]; exact hr
    · rw [if_neg e] at hu; exact h2.names hnm u r' hu
  · obtain ⟨⟨v, hv, hvz⟩, h3⟩ := h2.zed Z hZ
    have hns : ¬ Z s := fun hz => by
      obtain ⟨r', h4, h5⟩ := hZ s hz
      rw [hT] at h4
      injection h4 with h4
      subst h4
      exact hvz (h5 v hv)
    refine ⟨⟨s, hr, hns⟩, fun u hu => ?_⟩
    unfold updT
    rw [if_neg (fun e => hns (by rw [← e]; exact hu))]
    exact h3 u hu
  · unfold updT
    rw [if_neg (by omega)]
    exact h2.out u hu
/-! All rows. -/
variable (R)
def sumR (f : Nat → Nat) : Nat → Nat
  | 0 => 0
  | n + 1 => sumR f n + f n
/-- After the first i rows. -/
structure MtI (T : Tk) (n i many : Nat) : Prop where
  names : ∀ s r, T s = some r → s ∈ R r
  out : ∀ s, n ≤ s → T s = none
  c1 : ∀ r, cntT T r n ≤ 1
  c0 : ∀ r, i ≤ r → cntT T r n = 0
  many : many = sumR (fun r => cntT T r n) i
  z : ∃ Z, ClosedT R T Z ∧ ∀ r, r < i → cntT T r n = 0 → ∀ u ∈ R r, Z u
variable {R}
theorem sumR_congr {f g : Nat → Nat} : ∀ {n : Nat}, (∀ k, k < n → f k = g k) → sumR f n = sumR g n
  | 0, _ => rfl
  | n + 1, h => by show sumR f n + f n = sumR g n + g n; rw [sumR_congr fun k hk => h k (by omega), h n (by omega)]
theorem cntT_none (r : Nat) : ∀ n : Nat, cntT (fun _ => none) r n = 0
  | 0 => rfl
  | n + 1 => by show cntT _ r n + 0 = 0; rw [cntT_none r n]
theorem MtI.start (n : Nat) : MtI R (fun _ => none) n 0 0 := ⟨fun _ _ h => (by cases h), fun _ _ => rfl, fun r => (by rw [cntT_none]; omega), fun r _ => cntT_none r n, rfl, fun _ => False, fun _ h => h.elim, fun r h => (by omega)⟩
theorem MtI.yes {T T' : Tk} {S' : Nat → Bool} {n i many : Nat} (h : MtI R T n i many) (hg : GiveY R T T' (fun _ => false) S' i n) : MtI R T' n (i + 1) (many + 1) := by
  obtain ⟨Z, hZ, hz⟩ := h.z
  have hk := (hg.zed Z hZ).2
  refine ⟨hg.names h.names, fun s hs => by rw [hg.out s hs]; exact h.out s hs, fun r => ?_, fun r hr => ?_, ?_, Z, fun s hs => ?_, fun r hr h0 => ?_⟩
  · have h1 := hg.cnt r
    have h2 := h.c1 r
    have h3 := h.c0 r
    by_cases e : r = i
    · rw [if_pos e] at h1; have := h3 (by omega); omega
    · rw [if_neg e] at h1; omega
  · rw [hg.cnt r, if_neg (by omega)]
    exact h.c0 r (by omega)
  · show many + 1 = sumR (fun r => cntT T' r n) i + cntT T' i n
    rw [hg.cnt i, if_pos rfl, h.c0 i (Nat.le_refl _), h.many, sumR_congr (f := fun r => cntT T' r n) (g := fun r => cntT T r n) fun k hk => by rw [hg.cnt k, if_neg (by omega), Nat.add_zero]]
  · obtain ⟨r, h1, h2⟩ := hZ s hs
    exact ⟨r, by rw [hk s hs]; exact h1, h2⟩
  · have h1 := hg.cnt r
    by_cases e : r = i
    · rw [if_pos e] at h1; omega
    · rw [if_neg e] at h1
      exact hz r (by omega) (by omega)
theorem MtI.no {T : Tk} {S' : Nat → Bool} {n i many : Nat} (h : MtI R T n i many) (hg : GiveN R T (fun _ => false) S' (R i)) : MtI R T n (i + 1) many := by
  obtain ⟨Z, hZ, hz⟩ := h.z
  refine ⟨h.names, h.out, h.c1, fun r hr => h.c0 r (by omega), ?_, fun s => Z s ∨ S' s = true, fun s hs => ?_, fun r hr h0 u hu => ?_⟩
  · show many = sumR (fun r => cntT T r n) i + cntT T i n
    rw [h.c0 i (Nat.le_refl _), Nat.add_zero]; exact h.many
  · rcases hs with hs | hs
    · obtain ⟨r, h1, h2⟩ := hZ s hs
      exact ⟨r, h1, fun u hu => .inl (h2 u hu)⟩
    · obtain ⟨r, h1, h2⟩ := hg.cl s hs rfl
      exact ⟨r, h1, fun u hu => .inr (h2 u hu)⟩
  · by_cases e : r = i
    · subst e; exact .inr (hg.own u hu)
    · exact .inl (hz r (by omega) h0 u hu)
end
/-! A map of a finite set into itself that parts all comes upon all. -/
theorem nodup_len {l l' : List Nat} (h : l.Nodup) (hs : ∀ x ∈ l, x ∈ l') : l.length ≤ l'.length := by
  induction l generalizing l' with
  | nil => exact Nat.zero_le _
  | cons x l ih =>
    rw [List.nodup_cons] at h
    have h1 := ih h.2 (l' := l'.erase x) (fun y hy => (List.mem_erase_of_ne (fun e => h.1 (by rw [← e]; exact hy))).2 (hs y (List.mem_cons_of_mem _ hy)))
    rw [List.length_erase_of_mem (hs x (List.mem_cons_self ..))] at h1
    have := List.length_pos_of_mem (hs x (List.mem_cons_self ..))
    rw [List.length_cons]; omega
theorem inj_all {P : Nat → Prop} {n : Nat} {φ : Nat → Nat} (hn : ∀ s, P s → s < n) (hm : ∀ s, P s → P (φ s)) (hi : ∀ s t, P s → P t → φ s = φ t → s = t) {y : Nat} (hy : P y) : ∃ x, P x ∧ φ x = y := by
  classical
  refine Classical.byContradiction fun hno => ?_
  obtain ⟨l, hl⟩ : ∃ l, l = (List.range n).filter fun s => decide (P s) := ⟨_, rfl⟩
  have hmem : ∀ s, s ∈ l ↔ P s := fun s => by
    rw [hl, List.mem_filter, List.mem_range, decide_eq_true_eq]
    exact ⟨fun h => h.2, fun h => ⟨hn s h, h⟩⟩
  have hnd : l.Nodup := by rw [hl]; exact List.Pairwise.filter _ List.nodup_range
  have hmap : (l.map φ).Nodup := by
    unfold List.Nodup
    rw [List.pairwise_map]
    exact List.Pairwise.imp_of_mem (fun {a b} ha hb hab e => hab (hi a b ((hmem a).1 ha) ((hmem b).1 hb) e)) hnd
  have := nodup_len (l := y :: l.map φ) (l' := l) (by
    rw [List.nodup_cons]
    exact ⟨fun h => by
      obtain ⟨x, hx, e⟩ := List.mem_map.1 h
      exact hno ⟨x, (hmem x).1 hx, e⟩, hmap⟩) (fun x hx => by
    rcases List.mem_cons.1 hx with rfl | hx
    · exact (hmem _).2 hy
    · obtain ⟨s, hs, rfl⟩ := List.mem_map.1 hx
      exact (hmem _).2 (hm s ((hmem s).1 hs)))
  rw [List.length_cons, List.length_map] at this
  omega
/-- All rows have got slots just if they can. -/
theorem rows_all {R : Nat → List Nat} {T : Tk} {n m many : Nat} (h : MtI R T n m many) : many = m ↔ ∃ σ : Nat → Nat, (∀ r, r < m → σ r ∈ R r) ∧ ∀ r q, r < m → q < m → σ r = σ q → r = q := by
  have hle : ∀ k : Nat, sumR (fun r => cntT T r n) k ≤ k := fun k => by
    induction k with
    | zero => exact Nat.le_refl _
    | succ k ih => have := h.c1 k; show sumR _ k + cntT T k n ≤ k + 1; omega
  have hall : ∀ k : Nat, sumR (fun r => cntT T r n) k = k → ∀ r, r < k → cntT T r n = 1 := fun k => by
    induction k with
    | zero => intro _ r hr; omega
    | succ k ih =>
      intro hk r hr
      have hk : sumR (fun r => cntT T r n) k + cntT T k n = k + 1 := hk
      have h1 := h.c1 k
      have h2 := hle k
      by_cases e : r = k
      · subst e; omega
      · exact ih (by omega) r (by omega)
  constructor
  · intro hm
    have h1 := hall m (by rw [← h.many]; exact hm)
    have hex : ∀ r, ∃ s, r < m → s < n ∧ T s = some r := fun r => by
      by_cases hr : r < m
      · obtain ⟨s, hs⟩ := cntT_pos (T := T) (r := r) (n := n) (by rw [h1 r hr]; omega)
        exact ⟨s, fun _ => hs⟩
      · exact ⟨0, fun h => absurd h hr⟩
    obtain ⟨σ, hσ⟩ := Classical.axiomOfChoice hex
    refine ⟨σ, fun r hr => h.names _ _ (hσ r hr).2, fun r q hr hq e => ?_⟩
    have h2 := (hσ r hr).2
    rw [e, (hσ q hq).2] at h2
    injection h2 with h2
    exact h2.symm
  · rintro ⟨σ, h1, h2⟩
    refine Classical.byContradiction fun hne => ?_
    have hex : ∃ r, r < m ∧ cntT T r n = 0 := Classical.byContradiction fun hno => hne (by
      have hone : ∀ k, k ≤ m → sumR (fun r => cntT T r n) k = k := fun k => by
        induction k with
        | zero => intro _; rfl
        | succ k ih =>
          intro hk
          show sumR _ k + cntT T k n = k + 1
          have := ih (by omega)
          have h3 := h.c1 k
          have h4 : cntT T k n ≠ 0 := fun e => hno ⟨k, by omega, e⟩
          omega
      rw [h.many]; exact hone m (Nat.le_refl _))
    obtain ⟨r0, hr0, hc0⟩ := hex
    obtain ⟨Z, hZ, hz⟩ := h.z
    have hlt : ∀ s, Z s → s < n := fun s hs => Classical.byContradiction fun hn => by
      obtain ⟨r, h3, _⟩ := hZ s hs
      rw [h.out s (by omega)] at h3; cases h3
    have hrm : ∀ s r, T s = some r → s < n → r < m := fun s r h3 h4 => Classical.byContradiction fun hn => by
      have := cntT_one h4 h3
      rw [h.c0 r (by omega)] at this; omega
    have hg : ∀ s, Z s → T s = some ((T s).getD 0) ∧ ∀ u ∈ R ((T s).getD 0), Z u := fun s hs => by
      obtain ⟨r, h3, h4⟩ := hZ s hs
      rw [h3]; exact ⟨rfl, h4⟩
    obtain ⟨x, hx, ex⟩ := inj_all (P := Z) (n := n) (φ := fun s => σ ((T s).getD 0)) hlt (fun s hs => (hg s hs).2 _ (h1 _ (hrm s _ (hg s hs).1 (hlt s hs)))) (fun s t hs ht e => by
      have h5 := h2 _ _ (hrm s _ (hg s hs).1 (hlt s hs)) (hrm t _ (hg t ht).1 (hlt t ht)) e
      exact cntT_inj (h.c1 _) (hlt s hs) (hlt t ht) (hg s hs).1 (by rw [h5]; exact (hg t ht).1)) (y := σ r0) (hz r0 hr0 hc0 _ (h1 r0 hr0))
    have h5 := h2 _ _ (hrm x _ (hg x hx).1 (hlt x hx)) hr0 ex
    have := cntT_one (hlt x hx) (hg x hx).1
    rw [h5, hc0] at this
    omega
theorem sumR_slots {T : Tk} {m : Nat} : ∀ n : Nat, (∀ s r, s < n → T s = some r → r < m) → sumR (fun r => cntT T r n) m + sumR (fun s => if T s = none then 1 else 0) n = n
  | 0, _ => by
    have : sumR (fun r => cntT T r 0) m = 0 := by
      have : ∀ k, sumR (fun r => cntT T r 0) k = 0 := fun k => by
        induction k with
        | zero => rfl
        | succ k ih => show sumR _ k + 0 = 0; rw [ih]
      exact this m
    rw [this]; rfl
  | n + 1, h => by
    have ih := sumR_slots n fun s r hs => h s r (by omega)
    have hadd : ∀ k, sumR (fun r => cntT T r (n + 1)) k = sumR (fun r => cntT T r n) k + sumR (fun r => if T n = some r then 1 else 0) k := fun k => by
      induction k with
      | zero => rfl
      | succ k ih =>
        show sumR _ k + (cntT T k n + (if T n = some k then 1 else 0)) = sumR _ k + cntT T k n + (sumR _ k + (if T n = some k then 1 else 0))
        rw [ih]; omega
    have hone : ∀ k, sumR (fun r => if T n = some r then 1 else 0) k = if ∃ r, T n = some r ∧ r < k then 1 else 0 := fun k => by
      induction k with
      | zero => rw [if_neg (by rintro ⟨r, _, h⟩; omega)]; rfl
      | succ k ih =>
        show sumR _ k + (if T n = some k then 1 else 0) = _
        rw [ih]
        by_cases e : T n = some k
        · rw [if_pos e, if_neg (by rintro ⟨r, h1, h2⟩; rw [e] at h1; injection h1 with h1; omega), if_pos ⟨k, e, by omega⟩]
        · rw [if_neg e]
          by_cases h1 : ∃ r, T n = some r ∧ r < k
          · obtain ⟨r, h2, h3⟩ := h1
            rw [if_pos ⟨r, h2, h3⟩, if_pos ⟨r, h2, by omega⟩]
          · rw [if_neg h1, if_neg]
            rintro ⟨r, h2, h3⟩
            by_cases e2 : r = k
            · rw [e2] at h2; exact e h2
            · exact h1 ⟨r, h2, by omega⟩
    rw [hadd, hone]
    show _ + (sumR (fun s => if T s = none then 1 else 0) n + (if T n = none then 1 else 0)) = n + 1
    cases e : T n with
    | none =>
      rw [if_neg (by rintro ⟨r, h1, _⟩; cases h1), if_pos rfl]; omega
    | some r =>
      rw [if_pos ⟨r, rfl, h n r (by omega) e⟩, if_neg (by simp)]; omega
/-- All slots have got rows just if they can. -/
theorem slots_all {R : Nat → List Nat} {T : Tk} {n m many : Nat} (h : MtI R T n m many) : many = n ↔ ∃ τ : Nat → Nat, (∀ s, s < n → τ s < m ∧ s ∈ R (τ s)) ∧ ∀ s t, s < n → t < n → τ s = τ t → s = t := by
  have hrm : ∀ s r, s < n → T s = some r → r < m := fun s r h4 h3 => Classical.byContradiction fun hn => by
    have := cntT_one h4 h3
    rw [h.c0 r (by omega)] at this; omega
  have hs := sumR_slots (T := T) (m := m) n hrm
  rw [← h.many] at hs
  constructor
  · intro hm
    have hz : sumR (fun s => if T s = none then 1 else 0) n = 0 := by omega
    have hfill : ∀ k, sumR (fun s => if T s = none then 1 else 0) k = 0 → ∀ s, s < k → T s ≠ none := fun k => by
      induction k with
      | zero => intro _ s hs; omega
      | succ k ih =>
        intro hk s hsk
        have hk : sumR (fun s => if T s = none then 1 else 0) k + (if T k = none then 1 else 0) = 0 := hk
        by_cases e : s = k
        · subst e
          intro e2
          rw [if_pos e2] at hk; omega
        · exact ih (by omega) s (by omega)
    have hf := hfill n hz
    have hg : ∀ s, s < n → T s = some ((T s).getD 0) := fun s hsn => by
      cases e : T s with
      | none => exact absurd e (hf s hsn)
      | some r => rfl
    refine ⟨fun s => (T s).getD 0, fun s hsn => ⟨hrm s _ hsn (hg s hsn), h.names _ _ (hg s hsn)⟩, fun s t hsn htn e => ?_⟩
    exact cntT_inj (h.c1 _) hsn htn (hg s hsn) (by rw [show (T s).getD 0 = (T t).getD 0 from e]; exact hg t htn)
  · rintro ⟨τ, h1, h2⟩
    refine Classical.byContradiction fun hne => ?_
    have hex : ∃ s, s < n ∧ T s = none := Classical.byContradiction fun hno => hne (by
      have hzero : ∀ k, k ≤ n → sumR (fun s => if T s = none then 1 else 0) k = 0 := fun k => by
        induction k with
        | zero => intro _; rfl
        | succ k ih =>
          intro hk
          show sumR _ k + (if T k = none then 1 else 0) = 0
          rw [ih (by omega), if_neg (fun e => hno ⟨k, by omega, e⟩)]
      have := hzero n (Nat.le_refl _)
      omega)
    obtain ⟨s0, hs0, hn0⟩ := hex
    obtain ⟨Z, hZ, hz⟩ := h.z
    have hnz : ¬ Z s0 := fun hq => by
      obtain ⟨r, h3, _⟩ := hZ s0 hq
      rw [hn0] at h3; cases h3
    have hm : ∀ s, ∃ t, (s < n ∧ ¬ Z s) → (t < n ∧ ¬ Z t) ∧ T t = some (τ s) := fun s => by
      by_cases hsp : s < n ∧ ¬ Z s
      · obtain ⟨h3, h4⟩ := h1 s hsp.1
        have h5 : cntT T (τ s) n ≠ 0 := fun e => hsp.2 (hz _ h3 e s h4)
        obtain ⟨t, ht, h6⟩ := cntT_pos (T := T) (r := τ s) (n := n) (by omega)
        refine ⟨t, fun _ => ⟨⟨ht, fun hq => ?_⟩, h6⟩⟩
        obtain ⟨r, h7, h8⟩ := hZ t hq
        rw [h6] at h7
        injection h7 with h7
        subst h7
        exact hsp.2 (h8 s h4)
      · exact ⟨0, fun h => absurd h hsp⟩
    obtain ⟨ψ, hψ⟩ := Classical.axiomOfChoice hm
    obtain ⟨x, hx, ex⟩ := inj_all (P := fun s => s < n ∧ ¬ Z s) (n := n) (φ := ψ) (fun s hs => hs.1) (fun s hs => (hψ s hs).1) (fun s t hs ht e => by
      have h3 := (hψ s hs).2
      rw [e, (hψ t ht).2] at h3
      injection h3 with h3
      exact h2 s t hs.1 ht.1 h3.symm) (y := s0) ⟨hs0, hnz⟩
    have h3 := (hψ x hx).2
    rw [ex, hn0] at h3
    cases h3
end Go.Proofs.YtkcfpnpejaekjaaDoor
