import Derived.Test.YtkcfpnpejaekjaaDoorP7
import Derived.Test.YtkcfpnpejaekjaaDoorMend
import Derived.Test.YtkcfpnpejaekjaaDoorAns
namespace Go.Proofs.YtkcfpnpejaekjaaDoor
/-! Plain: what fits makes: slots, rows. -/
/-- A slot for each piece that somebody admits, of the first persons. -/
def slotsL (l : List Int) : Nat → List Nat
  | 0 => []
  | p + 1 => slotsL l p ++ List.replicate (l.getD p 0).toNat p
theorem slots_len {l : List Int} (hl : ∀ x ∈ l, x ≤ 16) : ∀ k : Nat, (slotsL l k).length ≤ 16 * k
  | 0 => Nat.le_refl _
  | k + 1 => by
    have ih := slots_len hl k
    have h : l.getD k 0 ≤ 16 := by
      rw [List.getD_eq_getElem?_getD]
      cases h : l[k]? with
      | none => decide
      | some x => exact hl x (List.mem_of_getElem? h)
    show (slotsL l k ++ List.replicate (l.getD k 0).toNat k).length ≤ _
    rw [List.length_append, List.length_replicate]; omega
theorem slots_count (l : List Int) (p : Nat) : ∀ k : Nat, (slotsL l k).count p = if p < k then (l.getD p 0).toNat else 0
  | 0 => by rw [if_neg (by omega)]; rfl
  | k + 1 => by
    have ih := slots_count l p k
    show (slotsL l k ++ List.replicate (l.getD k 0).toNat k).count p = _
    rw [List.count_append, ih, List.count_replicate]
    by_cases e : k = p
    · subst e
      rw [if_neg (by omega), if_pos (by simp), if_pos (by omega)]; omega
    · rw [if_neg (show ¬ (k == p) = true by simpa using e)]
      by_cases h : p < k
      · rw [if_pos h, if_pos (by omega)]; omega
      · rw [if_neg h, if_neg (by omega)]
theorem slots_mem {l : List Int} {p : Nat} : ∀ {k : Nat}, p ∈ slotsL l k → p < k ∧ 0 < (l.getD p 0)
  | 0, h => by cases h
  | k + 1, h => by
    rcases List.mem_append.1 (show p ∈ slotsL l k ++ List.replicate (l.getD k 0).toNat k from h) with h | h
    · have := slots_mem h; exact ⟨by omega, this.2⟩
    · rw [List.mem_replicate] at h
      obtain ⟨h1, rfl⟩ := h
      exact ⟨by omega, by omega⟩
theorem cntF_list (L : List Nat) (p : Nat) : ∀ n : Nat, n ≤ L.length → cntF (fun s => L.getD s 0) p n = (L.take n).count p
  | 0, _ => by simp [cntF]
  | n + 1, h => by
    have ih := cntF_list L p n (by omega)
    show cntF (fun s => L.getD s 0) p n + (if L.getD n 0 = p then 1 else 0) = _
    rw [ih, List.take_succ_eq_append_getElem (by omega), List.count_append, List.getD_eq_getElem?_getD, List.getElem?_eq_getElem (by omega)]
    show _ + (if L[n] = p then 1 else 0) = _ + [L[n]].count p
    rw [List.count_singleton]
    simp
/-- The slots of a row. -/
def rowG (q : Nat → Bool) : Nat → List Nat
  | 0 => []
  | j + 1 => if q j then rowG q j ++ [j] else rowG q j
theorem rowG_mem {q : Nat → Bool} {s : Nat} : ∀ {j : Nat}, s ∈ rowG q j ↔ s < j ∧ q s = true
  | 0 => by simp [rowG]
  | j + 1 => by
    have ih := rowG_mem (q := q) (s := s) (j := j)
    show s ∈ (if q j then rowG q j ++ [j] else rowG q j) ↔ _
    cases hq : q j
    · rw [if_neg (by decide), ih]
      constructor
      · rintro ⟨h1, h2⟩; exact ⟨by omega, h2⟩
      · rintro ⟨h1, h2⟩
        exact ⟨by
          by_cases e : s = j
          · subst e; rw [hq] at h2; cases h2
          · omega, h2⟩
    · rw [if_pos rfl, List.mem_append, ih, List.mem_singleton]
      constructor
      · rintro (⟨h1, h2⟩ | rfl)
        · exact ⟨by omega, h2⟩
        · exact ⟨by omega, hq⟩
      · rintro ⟨h1, h2⟩
        by_cases e : s = j
        · exact .inr e
        · exact .inl ⟨by omega, h2⟩
theorem rowG_len (q : Nat → Bool) : ∀ j : Nat, (rowG q j).length ≤ j
  | 0 => Nat.le_refl _
  | j + 1 => by
    have ih := rowG_len q j
    show (if q j then rowG q j ++ [j] else rowG q j).length ≤ j + 1
    split
    · rw [List.length_append, List.length_singleton]; omega
    · omega
theorem all_len (row : Nat → List Nat) : ∀ n : Nat, (mustL row (fun _ => true) n).length = n
  | 0 => rfl
  | n + 1 => by
    show (if true = true then mustL row (fun _ => true) n ++ [row n] else mustL row (fun _ => true) n).length = _
    rw [if_pos rfl, List.length_append, all_len row n]; rfl
theorem all_at (row : Nat → List Nat) {n k : Nat} (h : k < n) : rowF (mustL row (fun _ => true) n) k = row k := by
  have := (mustL_at (row := row) (mu := fun _ => true) (k := k) rfl h).2
  rw [all_len] at this
  exact this
theorem must_len (row : Nat → List Nat) (mu : Nat → Bool) : ∀ n : Nat, (mustL row mu n).length ≤ n
  | 0 => Nat.le_refl _
  | n + 1 => by
    have ih := must_len row mu n
    show (if mu n then mustL row mu n ++ [row n] else mustL row mu n).length ≤ n + 1
    split
    · rw [List.length_append, List.length_singleton]; omega
    · omega
theorem must_mem {row : Nat → List Nat} {mu : Nat → Bool} {x : List Nat} : ∀ {n : Nat}, x ∈ mustL row mu n → ∃ k, k < n ∧ x = row k
  | 0, h => by cases h
  | n + 1, h => by
    have h : x ∈ (if mu n then mustL row mu n ++ [row n] else mustL row mu n) := h
    split at h
    · rcases List.mem_append.1 h with h | h
      · obtain ⟨k, hk, e⟩ := must_mem h; exact ⟨k, by omega, e⟩
      · exact ⟨n, by omega, List.mem_singleton.1 h⟩
    · obtain ⟨k, hk, e⟩ := must_mem h; exact ⟨k, by omega, e⟩
theorem free_bit (l : List Int) (p : Nat) : ∀ k : Nat, k ≤ 6 → (has (freeN l k) p = true ↔ p = 6 ∨ p = 7 ∨ (p < k ∧ l.getD p 0 = -1))
  | 0, _ => by
    show (192 : Nat).testBit p = true ↔ _
    rw [show (192 : Nat) = 2 ^ 6 ||| 2 ^ 7 from rfl, Nat.testBit_or, Nat.testBit_two_pow, Nat.testBit_two_pow, Bool.or_eq_true, decide_eq_true_eq, decide_eq_true_eq]
    constructor
    · rintro (h | h)
      · exact .inl h.symm
      · exact .inr (.inl h.symm)
    · rintro (h | h | h)
      · exact .inl h.symm
      · exact .inr h.symm
      · omega
  | k + 1, hk => by
    have ih := free_bit l p k (by omega)
    show has (if l.getD k 0 = -1 then freeN l k ||| 2 ^ k else freeN l k) p = true ↔ _
    by_cases h : l.getD k 0 = -1
    · rw [if_pos h]
      unfold has at ih ⊢
      rw [Nat.testBit_or, Bool.or_eq_true, ih, Nat.testBit_two_pow, decide_eq_true_eq]
      constructor
      · rintro ((h1 | h1 | h1) | rfl)
        · exact .inl h1
        · exact .inr (.inl h1)
        · exact .inr (.inr ⟨by omega, h1.2⟩)
        · exact .inr (.inr ⟨by omega, h⟩)
      · rintro (h1 | h1 | ⟨h1, h2⟩)
        · exact .inl (.inl h1)
        · exact .inl (.inr (.inl h1))
        · by_cases e : k = p
          · exact .inr e
          · exact .inl (.inr (.inr ⟨by omega, h2⟩))
    · rw [if_neg h, ih]
      constructor
      · rintro (h1 | h1 | h1)
        · exact .inl h1
        · exact .inr (.inl h1)
        · exact .inr (.inr ⟨by omega, h1.2⟩)
      · rintro (h1 | h1 | ⟨h1, h2⟩)
        · exact .inl h1
        · exact .inr (.inl h1)
        · exact .inr (.inr ⟨by
            by_cases e : p = k
            · subst e; exact absurd h2 h
            · omega, h2⟩)
theorem land_none {a b : Nat} : a &&& b = 0 ↔ ∀ p, ¬ (has a p = true ∧ has b p = true) := by
  unfold has
  constructor
  · intro h p hp
    have : (a &&& b).testBit p = true := by rw [Nat.testBit_and, hp.1, hp.2]; rfl
    rw [h, Nat.zero_testBit] at this; cases this
  · intro h
    refine Nat.eq_of_testBit_eq fun p => ?_
    rw [Nat.zero_testBit, Nat.testBit_and]
    have := h p
    cases h1 : a.testBit p
    · rfl
    · cases h2 : b.testBit p
      · rfl
      · exact absurd ⟨h1, h2⟩ this
theorem adm_none {l : List Int} {p : Nat} (h : ∀ x ∈ l, -1 ≤ x) : admA l p = none ↔ l.length ≤ p ∨ l.getD p 0 = -1 := by
  unfold admA
  rw [List.getD_eq_getElem?_getD]
  cases hp : l[p]? with
  | none => exact ⟨fun _ => .inl (List.getElem?_eq_none_iff.1 hp), fun _ => rfl⟩
  | some m =>
    have hlt := (List.getElem?_eq_some_iff.1 hp).1
    have hm := h m (List.mem_of_getElem? hp)
    show (if 0 ≤ m then some m.toNat else none) = none ↔ l.length ≤ p ∨ m = -1
    by_cases h0 : 0 ≤ m
    · rw [if_pos h0]
      exact ⟨fun h => (by cases h), fun h => (by omega)⟩
    · rw [if_neg h0]
      exact ⟨fun _ => .inr (by omega), fun _ => rfl⟩
theorem adm_some {l : List Int} {p m : Nat} (h : admA l p = some m) : p < l.length ∧ m = (l.getD p 0).toNat := by
  unfold admA at h
  rw [List.getD_eq_getElem?_getD]
  cases hp : l[p]? with
  | none => rw [hp] at h; cases h
  | some x =>
    rw [hp] at h
    have h : (if 0 ≤ x then some x.toNat else none) = some m := h
    split at h
    · injection h with h
      exact ⟨(List.getElem?_eq_some_iff.1 hp).1, h.symm⟩
    · cases h
/-- Whose bits a set may have. -/
def OkB (L : Nat) (x : Nat) : Prop := ∀ p, has x p = true → p < L ∨ p = 6 ∨ p = 7
def muB (g : Nat → Nat) (l : List Int) (k : Nat) : Bool := decide (g k &&& freeN l l.length = 0)
def ownP (l : List Int) (s : Nat) : Nat := (slotsL l l.length).getD s 0
def rowP (g : Nat → Nat) (l : List Int) (k : Nat) : List Nat := rowG (fun s => has (g k) (ownP l s)) (slotsL l l.length).length
theorem fits_slots {n : Nat} {g : Nat → Nat} {l : List Int} (h6 : l.length ≤ 6) (hl : ∀ x ∈ l, -1 ≤ x) (hg : ∀ k, k < n → OkB l.length (g k)) : Slots n (slotsL l l.length).length (fun k p => has (g k) p) (admA l) (ownP l) (muB g l) := by
  refine ⟨fun s hs => ?_, fun p m hp => ?_, fun k hk => ?_⟩
  · have hm : ownP l s ∈ slotsL l l.length := by unfold ownP; rw [List.getD_eq_getElem?_getD, List.getElem?_eq_getElem hs]; exact List.getElem_mem hs
    have h1 := slots_mem hm
    cases ha : admA l (ownP l s) with
    | some m => exact ⟨m, rfl⟩
    | none =>
      rcases (adm_none hl).1 ha with h | h <;> omega
  · obtain ⟨h1, h2⟩ := adm_some hp
    have h3 := cntF_list (slotsL l l.length) p _ (Nat.le_refl _)
    rw [List.take_length, slots_count, if_pos h1] at h3
    rw [h2, ← h3]; rfl
  · unfold muB
    rw [decide_eq_true_eq, land_none]
    constructor
    · intro h p hp
      cases ha : admA l p with
      | some m => exact ⟨m, rfl⟩
      | none =>
        refine absurd ⟨hp, (free_bit l p _ h6).2 ?_⟩ (h p)
        rcases hg k hk p hp with h1 | h1 | h1
        · rcases (adm_none hl).1 ha with h2 | h2
          · omega
          · exact .inr (.inr ⟨h1, h2⟩)
        · exact .inl h1
        · exact .inr (.inl h1)
    · rintro h p ⟨hp, hf⟩
      obtain ⟨m, hm⟩ := h p hp
      obtain ⟨h1, h2⟩ := adm_some hm
      rcases (free_bit l p _ h6).1 hf with h3 | h3 | h3
      · omega
      · omega
      · have := (adm_none (p := p) hl).2 (.inr h3.2)
        rw [hm] at this; cases this
theorem fits_plain {n : Nat} {g : Nat → Nat} {l : List Int} (h6 : l.length ≤ 6) (hl : ∀ x ∈ l, -1 ≤ x) (hg : ∀ k, k < n → OkB l.length (g k)) {T T' : Tk} {m1 m2 : Nat}
    (h1 : MtI (rowF (mustL (rowP g l) (muB g l) n)) T (slotsL l l.length).length (mustL (rowP g l) (muB g l) n).length m1) (h2 : MtI (rowF (mustL (rowP g l) (fun _ => true) n)) T' (slotsL l l.length).length n m2) :
    (m1 = (mustL (rowP g l) (muB g l) n).length ∧ m2 = (slotsL l l.length).length) ↔ Fit n (fun k p => has (g k) p) (admA l) := by
  refine fits_law (fits_slots h6 hl hg) (d := 6) ((adm_none hl).2 (.inl h6)) (row := rowP g l) (fun k s _ => ?_) (fun k hk => all_at _ hk) h1 h2
  unfold rowP
  exact rowG_mem
theorem fits_no {n : Nat} {g : Nat → Nat} {l : List Int} (h6 : l.length ≤ 6) (hl : ∀ x ∈ l, -1 ≤ x) (hg : ∀ k, k < n → OkB l.length (g k)) {T : Tk} {m1 : Nat}
    (h1 : MtI (rowF (mustL (rowP g l) (muB g l) n)) T (slotsL l l.length).length (mustL (rowP g l) (muB g l) n).length m1) (hne : m1 ≠ (mustL (rowP g l) (muB g l) n).length) : ¬ Fit n (fun k p => has (g k) p) (admA l) := fun hf => by
  obtain ⟨⟨σ, h2, h3⟩, -⟩ := (fit_slots (fits_slots h6 hl hg) (d := 6) ((adm_none hl).2 (.inl h6))).1 hf
  exact hne ((rows_all h1).2 (must_iff.2 ⟨σ, fun k hk hm => rowG_mem.2 (h2 k hk hm), h3⟩))
end Go.Proofs.YtkcfpnpejaekjaaDoor
