import Derived.Test.YtkcfpnpejaekjaaDoorM3
namespace Go.Proofs.YtkcfpnpejaekjaaDoor
/-! Plain side of LendOrder: loans and looks in another order, and told in two parts. -/
theorem crossL_comm (x y : Loan) : crossL x y = crossL y x := by unfold crossL; rw [Bool.and_comm]
theorem okLoans_iff (m : Nat) : ∀ e l : List Loan, okLoans m e l = true ↔ (∀ x ∈ l, okLoan m x = true ∧ ∀ y ∈ e, crossL x y = false) ∧ l.Pairwise (fun x y => crossL x y = false)
  | e, [] => by unfold okLoans; simp
  | e, x :: l => by
    have ih := okLoans_iff m (e ++ [x]) l
    show (okLoan m x && !(e.any (crossL x)) && okLoans m (e ++ [x]) l) = true ↔ _
    rw [Bool.and_eq_true, Bool.and_eq_true, ih, Bool.not_eq_true', List.any_eq_false, List.pairwise_cons]
    constructor
    · rintro ⟨⟨h1, h2⟩, h3, h4⟩
      refine ⟨fun y hy => ?_, fun y hy => ?_, h4⟩
      · rcases List.mem_cons.1 hy with rfl | hy
        · exact ⟨h1, fun z hz => by simpa using h2 z hz⟩
        · exact ⟨(h3 y hy).1, fun z hz => (h3 y hy).2 z (List.mem_append_left _ hz)⟩
      · rw [crossL_comm]
        exact (h3 y hy).2 x (List.mem_append_right _ (List.mem_singleton.2 rfl))
    · rintro ⟨h1, h2, h3⟩
      refine ⟨⟨(h1 x (List.mem_cons_self ..)).1, fun z hz => by simpa using (h1 x (List.mem_cons_self ..)).2 z hz⟩, fun y hy => ⟨(h1 y (List.mem_cons_of_mem _ hy)).1, fun z hz => ?_⟩, h3⟩
      rcases List.mem_append.1 hz with hz | hz
      · exact (h1 y (List.mem_cons_of_mem _ hy)).2 z hz
      · rw [List.mem_singleton.1 hz, crossL_comm]; exact h2 y hy
theorem okLoans_nil (m : Nat) (l : List Loan) : okLoans m [] l = true ↔ (∀ x ∈ l, okLoan m x = true) ∧ l.Pairwise (fun x y => crossL x y = false) := by
  rw [okLoans_iff]
  exact ⟨fun ⟨h1, h2⟩ => ⟨fun x hx => (h1 x hx).1, h2⟩, fun ⟨h1, h2⟩ => ⟨fun x hx => ⟨h1 x hx, fun _ h => (by cases h)⟩, h2⟩⟩
/-! A list turned. -/
def rotN {α : Type} (d : α) (l : List α) (c i : Nat) : List α := (List.range i).map fun j => l.getD ((j + c) % l.length) d
theorem rotN_length {α : Type} (d : α) (l : List α) (c i : Nat) : (rotN d l c i).length = i := by unfold rotN; rw [List.length_map, List.length_range]
theorem rotN_succ {α : Type} (d : α) (l : List α) (c i : Nat) : rotN d l c (i + 1) = rotN d l c i ++ [l.getD ((i + c) % l.length) d] := by
  unfold rotN; rw [List.range_succ, List.map_append]; rfl
theorem rotN_all {α : Type} (d : α) (l : List α) (c : Nat) (h : 0 < l.length) : rotN d l c l.length = l.drop (c % l.length) ++ l.take (c % l.length) := by
  have hc := Nat.mod_lt c h
  apply List.ext_getElem
  · rw [rotN_length, List.length_append, List.length_drop, List.length_take]; omega
  · intro i h1 h2
    have h3 : (rotN d l c l.length)[i] = l.getD ((i + c) % l.length) d := by
      have h4 : (rotN d l c l.length)[i]? = some (l.getD ((i + c) % l.length) d) := by
        have hi : i < l.length := by rw [rotN_length] at h1; exact h1
        unfold rotN
        rw [List.getElem?_map, List.getElem?_range hi]; rfl
      rw [List.getElem?_eq_getElem h1] at h4
      injection h4
    rw [h3]
    rw [rotN_length] at h1
    have hd : ∀ j, (hj : j < l.length) → l.getD j d = l[j] := fun j hj => by rw [List.getD_eq_getElem?_getD, List.getElem?_eq_getElem hj]; rfl
    have e : (i + c) % l.length = if i + c % l.length < l.length then i + c % l.length else i + c % l.length - l.length := by
      rw [Nat.add_mod, Nat.mod_eq_of_lt h1]
      split
      · rename_i hh; exact Nat.mod_eq_of_lt hh
      · rename_i hh
        rw [Nat.mod_eq_sub_mod (by omega), Nat.mod_eq_of_lt (by omega)]
    rw [List.getElem_append]
    by_cases hlt : i + c % l.length < l.length
    · rw [dif_pos (by rw [List.length_drop]; omega), List.getElem_drop]
      rw [e, if_pos hlt, hd _ hlt]
      congr 1; omega
    · rw [dif_neg (by rw [List.length_drop]; omega), List.getElem_take]
      rw [e, if_neg hlt, hd _ (by omega)]
      congr 1; rw [List.length_drop]; omega
theorem rotN_perm {α : Type} (d : α) (l : List α) (c : Nat) : (rotN d l c l.length).Perm l := by
  by_cases h : 0 < l.length
  · rw [rotN_all d l c h]
    exact List.perm_append_comm.trans (by rw [List.take_append_drop])
  · have : l = [] := List.eq_nil_of_length_eq_zero (by omega)
    subst this
    exact List.Perm.refl _
/-! In two parts. -/
def cutLoan : List Loan → List Loan
  | [] => []
  | f :: l => if 1 < f.b - f.a then { f with b := f.a + 1 } :: l ++ [{ f with a := f.a + 1 }] else f :: l
theorem cutLoan_cons (f : Loan) (l : List Loan) : cutLoan (f :: l) = if 1 < f.b - f.a then { f with b := f.a + 1 } :: l ++ [{ f with a := f.a + 1 }] else f :: l := rfl
def cutLook : List Look → List Look
  | [] => []
  | f :: l => { f with there := 0 } :: l ++ [{ f with gone := 0 }]
def turned (t : Tl) (c : Nat) : Tl := { t with loans := rotN ⟨0, 0, 0⟩ t.loans c t.loans.length, looks := rotN ⟨0, 0, 0⟩ t.looks c t.looks.length }
def ordT (t : Tl) (c : Nat) : Tl := if okTale t = false then turned t c else
  { turned t c with loans := cutLoan (rotN ⟨0, 0, 0⟩ t.loans c t.loans.length), looks := cutLook (rotN ⟨0, 0, 0⟩ t.looks c t.looks.length) }
theorem turned_ok (t : Tl) (c : Nat) : okTale (turned t c) = okTale t := by
  have p1 := rotN_perm (⟨0, 0, 0⟩ : Loan) t.loans c
  have p2 := rotN_perm (⟨0, 0, 0⟩ : Look) t.looks c
  unfold okTale turned
  dsimp only
  rw [p1.length_eq, p2.length_eq]
  congr 1; congr 1; congr 1; congr 1
  have e1 : okLoans t.admits.length [] (rotN ⟨0, 0, 0⟩ t.loans c t.loans.length) = okLoans t.admits.length [] t.loans := by
    rw [Bool.eq_iff_iff, okLoans_nil, okLoans_nil]
    rw [p1.pairwise_iff (fun {x y} h => by rw [crossL_comm]; exact h)]
    constructor
    · rintro ⟨h1, h2⟩; exact ⟨fun x hx => h1 x (p1.mem_iff.2 hx), h2⟩
    · rintro ⟨h1, h2⟩; exact ⟨fun x hx => h1 x (p1.mem_iff.1 hx), h2⟩
  have e2 : (rotN ⟨0, 0, 0⟩ t.looks c t.looks.length).all (okLook t.n.toNat) = t.looks.all (okLook t.n.toNat) := by
    rw [Bool.eq_iff_iff, List.all_eq_true, List.all_eq_true]
    exact ⟨fun h x hx => h x (p2.mem_iff.2 hx), fun h x hx => h x (p2.mem_iff.1 hx)⟩
  rw [e1, e2]
/-- Two tales that tell the same. -/
structure Same (t x : Tl) : Prop where
  n : x.n = t.n
  adm : x.admits = t.admits
  hold : ∀ h p, (∃ y ∈ x.loans, inLoan h y = true ∧ y.p = p) ↔ (∃ y ∈ t.loans, inLoan h y = true ∧ y.p = p)
  there : ∀ (k : Nat) h, (∃ y ∈ x.looks, ibit y.there k = true ∧ y.h = h) ↔ (∃ y ∈ t.looks, ibit y.there k = true ∧ y.h = h)
  gone : ∀ (k : Nat) h, (∃ y ∈ x.looks, ibit y.gone k = true ∧ y.h = h) ↔ (∃ y ∈ t.looks, ibit y.gone k = true ∧ y.h = h)
theorem same_turned (t : Tl) (c : Nat) : Same t (turned t c) := by
  have p1 := rotN_perm (⟨0, 0, 0⟩ : Loan) t.loans c
  have p2 := rotN_perm (⟨0, 0, 0⟩ : Look) t.looks c
  refine ⟨rfl, rfl, fun h p => ?_, fun k h => ?_, fun k h => ?_⟩
  · exact ⟨fun ⟨y, hy, e⟩ => ⟨y, p1.mem_iff.1 hy, e⟩, fun ⟨y, hy, e⟩ => ⟨y, p1.mem_iff.2 hy, e⟩⟩
  · exact ⟨fun ⟨y, hy, e⟩ => ⟨y, p2.mem_iff.1 hy, e⟩, fun ⟨y, hy, e⟩ => ⟨y, p2.mem_iff.2 hy, e⟩⟩
  · exact ⟨fun ⟨y, hy, e⟩ => ⟨y, p2.mem_iff.1 hy, e⟩, fun ⟨y, hy, e⟩ => ⟨y, p2.mem_iff.2 hy, e⟩⟩
theorem cutLoan_mem (l : List Loan) (h p : Int) : (∃ y ∈ cutLoan l, inLoan h y = true ∧ y.p = p) ↔ (∃ y ∈ l, inLoan h y = true ∧ y.p = p) := by
  cases l with
  | nil => exact Iff.rfl
  | cons f l =>
    rw [cutLoan_cons]
    by_cases hc : 1 < f.b - f.a
    · rw [if_pos hc]
      constructor
      · rintro ⟨y, hy, h1, h2⟩
        rcases List.mem_append.1 hy with hy | hy
        · rcases List.mem_cons.1 hy with rfl | hy
          · refine ⟨f, List.mem_cons_self .., inLoan_iff.2 ?_, h2⟩
            have := inLoan_iff.1 h1
            have h3 : f.a ≤ h ∧ h < f.a + 1 := this
            omega
          · exact ⟨y, List.mem_cons_of_mem _ hy, h1, h2⟩
        · rw [List.mem_singleton.1 hy] at h1 h2
          refine ⟨f, List.mem_cons_self .., inLoan_iff.2 ?_, h2⟩
          have h3 : f.a + 1 ≤ h ∧ h < f.b := inLoan_iff.1 h1
          omega
      · rintro ⟨y, hy, h1, h2⟩
        rcases List.mem_cons.1 hy with rfl | hy
        · have h3 := inLoan_iff.1 h1
          by_cases he : h < y.a + 1
          · exact ⟨{ y with b := y.a + 1 }, List.mem_append_left _ (List.mem_cons_self ..), inLoan_iff.2 ⟨h3.1, he⟩, h2⟩
          · exact ⟨{ y with a := y.a + 1 }, List.mem_append_right _ (List.mem_singleton.2 rfl), inLoan_iff.2 ⟨by show y.a + 1 ≤ h; omega, h3.2⟩, h2⟩
        · exact ⟨y, List.mem_append_left _ (List.mem_cons_of_mem _ hy), h1, h2⟩
    · rw [if_neg hc]
theorem cutLoan_ok {m : Nat} {l : List Loan} (h : okLoans m [] l = true) : okLoans m [] (cutLoan l) = true := by
  cases l with
  | nil => exact h
  | cons f l =>
    rw [cutLoan_cons]
    by_cases hc : 1 < f.b - f.a
    · rw [if_pos hc]
      rw [okLoans_nil, List.pairwise_cons] at h
      obtain ⟨h1, h2, h3⟩ := h
      have hf := h1 f (List.mem_cons_self ..)
      unfold okLoan at hf
      simp only [Bool.and_eq_true, inS_iff] at hf
      obtain ⟨hf1, hf2, hf3⟩ := hf
      have hfm : f.b ≤ 1048576 := hf3.2
      rw [okLoans_nil]
      constructor
      · intro x hx
        rcases List.mem_append.1 hx with hx | hx
        · rcases List.mem_cons.1 hx with rfl | hx
          · unfold okLoan
            simp only [Bool.and_eq_true, inS_iff]
            refine ⟨hf1, hf2, by omega, ?_⟩
            show f.a + 1 ≤ 1048576; omega
          · exact h1 x (List.mem_cons_of_mem _ hx)
        · rw [List.mem_singleton.1 hx]
          unfold okLoan
          simp only [Bool.and_eq_true, inS_iff]
          exact ⟨hf1, by omega, by omega, hf3.2⟩
      · rw [List.pairwise_append]
        refine ⟨List.pairwise_cons.2 ⟨fun y hy => ?_, h3⟩, List.pairwise_singleton _ _, fun x hx y hy => ?_⟩
        · have := h2 y hy
          unfold crossL at this ⊢
          rw [Bool.and_eq_false_iff, decide_eq_false_iff_not, decide_eq_false_iff_not] at this ⊢
          show ¬ f.a < y.b ∨ ¬ y.a < f.a + 1
          omega
        · rw [List.mem_singleton.1 hy]
          rcases List.mem_cons.1 hx with rfl | hx
          · unfold crossL
            rw [Bool.and_eq_false_iff, decide_eq_false_iff_not, decide_eq_false_iff_not]
            show ¬ f.a < f.b ∨ ¬ f.a + 1 < f.a + 1
            omega
          · have := h2 x hx
            unfold crossL at this ⊢
            rw [Bool.and_eq_false_iff, decide_eq_false_iff_not, decide_eq_false_iff_not] at this ⊢
            show ¬ x.a < f.b ∨ ¬ f.a + 1 < x.b
            omega
    · rw [if_neg hc]; exact h
theorem cutLoan_len (l : List Loan) : (cutLoan l).length ≤ l.length + 1 := by
  cases l with
  | nil => exact Nat.zero_le _
  | cons f l =>
    rw [cutLoan_cons]
    split
    · rw [List.length_append]; exact Nat.le_refl _
    · exact Nat.le_succ _
theorem cutLook_len (l : List Look) : (cutLook l).length ≤ l.length + 1 := by
  cases l with
  | nil => exact Nat.zero_le _
  | cons f l => unfold cutLook; rw [List.length_append]; exact Nat.le_refl _
theorem cutLook_there (l : List Look) (k : Nat) (h : Int) : (∃ y ∈ cutLook l, ibit y.there k = true ∧ y.h = h) ↔ (∃ y ∈ l, ibit y.there k = true ∧ y.h = h) := by
  cases l with
  | nil => exact Iff.rfl
  | cons f l =>
    unfold cutLook
    constructor
    · rintro ⟨y, hy, h1, h2⟩
      rcases List.mem_append.1 hy with hy | hy
      · rcases List.mem_cons.1 hy with rfl | hy
        · have h1 : ibit 0 k = true := h1
          rw [ibit_zero] at h1; cases h1
        · exact ⟨y, List.mem_cons_of_mem _ hy, h1, h2⟩
      · rw [List.mem_singleton.1 hy] at h1 h2
        exact ⟨f, List.mem_cons_self .., h1, h2⟩
    · rintro ⟨y, hy, h1, h2⟩
      rcases List.mem_cons.1 hy with rfl | hy
      · exact ⟨{ y with gone := 0 }, List.mem_append_right _ (List.mem_singleton.2 rfl), h1, h2⟩
      · exact ⟨y, List.mem_append_left _ (List.mem_cons_of_mem _ hy), h1, h2⟩
theorem cutLook_gone (l : List Look) (k : Nat) (h : Int) : (∃ y ∈ cutLook l, ibit y.gone k = true ∧ y.h = h) ↔ (∃ y ∈ l, ibit y.gone k = true ∧ y.h = h) := by
  cases l with
  | nil => exact Iff.rfl
  | cons f l =>
    unfold cutLook
    constructor
    · rintro ⟨y, hy, h1, h2⟩
      rcases List.mem_append.1 hy with hy | hy
      · rcases List.mem_cons.1 hy with rfl | hy
        · exact ⟨f, List.mem_cons_self .., h1, h2⟩
        · exact ⟨y, List.mem_cons_of_mem _ hy, h1, h2⟩
      · rw [List.mem_singleton.1 hy] at h1 h2
        have h1 : ibit 0 k = true := h1
        rw [ibit_zero] at h1; cases h1
    · rintro ⟨y, hy, h1, h2⟩
      rcases List.mem_cons.1 hy with rfl | hy
      · exact ⟨{ y with there := 0 }, List.mem_append_left _ (List.mem_cons_self ..), h1, h2⟩
      · exact ⟨y, List.mem_append_left _ (List.mem_cons_of_mem _ hy), h1, h2⟩
theorem cutLook_ok {n : Nat} {l : List Look} (h : l.all (okLook n) = true) : (cutLook l).all (okLook n) = true := by
  cases l with
  | nil => exact h
  | cons f l =>
    rw [List.all_cons, Bool.and_eq_true] at h
    obtain ⟨h1, h2⟩ := h
    unfold okLook at h1
    simp only [Bool.and_eq_true, inS_iff, decide_eq_true_eq] at h1
    obtain ⟨h3, h4, h5, h6⟩ := h1
    have hp : (0 : Int) ≤ powI n - 1 := by omega
    show (({ f with there := 0 } : Look) :: l ++ [{ f with gone := 0 }]).all (okLook n) = true
    rw [List.cons_append, List.all_cons, List.all_append, h2, Bool.true_and, List.all_cons, List.all_nil, Bool.and_true]
    unfold okLook
    simp only [Bool.and_eq_true, inS_iff, decide_eq_true_eq]
    refine ⟨⟨h3, ⟨by omega, by omega⟩, h5, ?_⟩, h3, h4, ⟨by omega, by omega⟩, ?_⟩
    · show (0 : Nat) &&& _ = 0
      exact Nat.zero_and _
    · show _ &&& (0 : Nat) = 0
      exact Nat.and_zero _
theorem ord_ok {t : Tl} (c : Nat) (hl : t.loans.length < 12) (hk : t.looks.length < 20) : okTale (ordT t c) = okTale t := by
  unfold ordT
  have h1 := turned_ok t c
  cases ht : okTale t
  · rw [if_pos rfl, h1, ht]
  · rw [if_neg (by decide)]
    rw [ht] at h1
    have l1 := cutLoan_len (rotN ⟨0, 0, 0⟩ t.loans c t.loans.length)
    have l2 := cutLook_len (rotN ⟨0, 0, 0⟩ t.looks c t.looks.length)
    rw [rotN_length] at l1 l2
    unfold okTale at h1 ⊢
    simp only [Bool.and_eq_true, decide_eq_true_eq] at h1 ⊢
    obtain ⟨a1, a2, a3, a4, a5, a6, a7⟩ := h1
    exact ⟨a1, a2, by show ((cutLoan _).length : Int) ≤ 12; omega, by show ((cutLook _).length : Int) ≤ 20; omega, cutLoan_ok a5, cutLook_ok a6, a7⟩
theorem same_ord (t : Tl) (c : Nat) : Same t (ordT t c) := by
  unfold ordT
  have h := same_turned t c
  split
  · exact h
  · exact ⟨rfl, rfl, fun a p => (cutLoan_mem _ a p).trans (h.hold a p), fun k a => (cutLook_there _ k a).trans (h.there k a), fun k a => (cutLook_gone _ k a).trans (h.gone k a)⟩
/-! What follows. -/
theorem eq_of_le_iff {a b : Int} (h : ∀ y, a ≤ y ↔ b ≤ y) : a = b := by
  have h1 := (h a).1 (Int.le_refl _)
  have h2 := (h b).2 (Int.le_refl _)
  omega
theorem Same.seen {t x : Tl} (h : Same t x) (k : Nat) : seenS x.looks k = seenS t.looks k := by
  refine eq_of_le_iff fun y => ?_
  unfold seenS
  rw [seen_foldl, seen_foldl]
  constructor
  · rintro ⟨h1, h2⟩
    refine ⟨h1, fun z hz hb => ?_⟩
    obtain ⟨u, hu, hub, e⟩ := (h.there k z.h).2 ⟨z, hz, hb, rfl⟩
    rw [← e]; exact h2 u hu hub
  · rintro ⟨h1, h2⟩
    refine ⟨h1, fun z hz hb => ?_⟩
    obtain ⟨u, hu, hub, e⟩ := (h.there k z.h).1 ⟨z, hz, hb, rfl⟩
    rw [← e]; exact h2 u hu hub
theorem eq_of_lt_iff {a b : Int} (h : ∀ y, y < a ↔ y < b) : a = b := by
  have h1 := h a
  have h2 := h b
  omega
theorem Same.goneE {t x : Tl} (h : Same t x) (k : Nat) : goneS x.looks k = goneS t.looks k := by
  refine eq_of_lt_iff fun y => ?_
  unfold goneS
  rw [gone_foldl, gone_foldl]
  constructor
  · rintro ⟨h1, h2⟩
    refine ⟨h1, fun z hz hb => ?_⟩
    obtain ⟨u, hu, hub, e⟩ := (h.gone k z.h).2 ⟨z, hz, hb, rfl⟩
    rw [← e]; exact h2 u hu hub
  · rintro ⟨h1, h2⟩
    refine ⟨h1, fun z hz hb => ?_⟩
    obtain ⟨u, hu, hub, e⟩ := (h.gone k z.h).1 ⟨z, hz, hb, rfl⟩
    rw [← e]; exact h2 u hu hub
theorem Same.holdE {t x : Tl} (h : Same t x) (hx : Lent x.loans) (a : Int) : holdS x.loans a = holdS t.loans a := by
  cases e : holdS t.loans a with
  | some p =>
    obtain ⟨y, hy, hin, ep⟩ := holdS_of e
    obtain ⟨z, hz, hzin, ez⟩ := (h.hold a p).2 ⟨y, hy, hin, ep⟩
    rw [holdS_some hx hz hzin, ez]
  | none =>
    rw [holdS_none, List.any_eq_false] at e
    rw [holdS_none, List.any_eq_false]
    intro z hz hin
    obtain ⟨y, hy, hyin, -⟩ := (h.hold a z.p).1 ⟨z, hz, hin, rfl⟩
    exact e y hy hyin
theorem Same.susp {t x : Tl} (h : Same t x) (ht : OkT t) (hx : OkT x) : suspB x = suspB t := by
  funext k p
  rw [Bool.eq_iff_iff]
  unfold suspB has
  rw [susp_iff hx.lent hx.hours, susp_iff ht.lent ht.hours]
  have hw : ∀ y, whoH x.loans y = whoH t.loans y := fun y => by unfold whoH; rw [h.holdE hx.lent]
  have hi : ∀ y, InW x.looks k y ↔ InW t.looks k y := fun y => by rw [inW_iff, inW_iff, h.seen, h.goneE]
  exact ⟨fun ⟨y, h1, h2⟩ => ⟨y, (hi y).1 h1, by rw [← hw]; exact h2⟩, fun ⟨y, h1, h2⟩ => ⟨y, (hi y).2 h1, by rw [hw]; exact h2⟩⟩
theorem Same.fit {t x : Tl} (h : Same t x) (ht : OkT t) (hx : OkT x) : fitB x = fitB t := by
  unfold fitB; rw [h.susp ht hx, h.n, h.adm]
theorem Same.who {t x : Tl} (h : Same t x) (ht : OkT t) (hx : OkT x) : whoB x = whoB t := by
  funext k p
  unfold whoB; rw [h.susp ht hx, h.n, h.adm]
theorem Same.says {t x : Tl} (h : Same t x) (ht : OkT t) (hx : OkT x) (p : Nat) (v : Int) : fitB (saysT x p v) = fitB (saysT t p v) := by
  show canB (suspB x) x.n.toNat (x.admits.set p v) = canB (suspB t) t.n.toNat (t.admits.set p v)
  rw [h.susp ht hx, h.n, h.adm]
theorem Same.lost {t x : Tl} (h : Same t x) (ht : OkT t) (hx : OkT x) (p : Nat) : ∀ n : Nat, lostL x p n = lostL t p n
  | 0 => rfl
  | n + 1 => by unfold lostL; rw [h.says ht hx, h.lost ht hx p n]
theorem order_law {t x : Tl} (h : Same t x) (hok : okTale x = okTale t) (a p q : Int) : holderS x a = holderS t a ∧ winS x p = winS t p ∧ whoS x p = whoS t p ∧ lostS x q = lostS t q ∧ codeC x = codeC t := by
  cases ht : okTale t
  · rw [ht] at hok
    refine ⟨?_, ?_, ?_, ?_, ?_⟩
    · unfold holderS; rw [ht, hok]; rfl
    · unfold winS; rw [ht, hok]; rfl
    · unfold whoS; rw [ht, hok]; rfl
    · unfold lostS; rw [ht, hok]; rfl
    · unfold codeC clashS; rw [ht, hok]; rfl
  · have hx := hok.trans ht
    have okx := okT_of hx
    have okt := okT_of ht
    refine ⟨?_, ?_, ?_, ?_, ?_⟩
    · unfold holderS holdR; rw [hok, h.holdE okx.lent]
    · unfold winS; rw [hok, h.n, h.seen, h.goneE]
    · unfold whoS; rw [hok, h.n, h.fit okt okx, h.who okt okx]
    · unfold lostS; rw [hok, h.n, h.adm, h.fit okt okx, h.lost okt okx]
    · rw [code_ok hx, code_ok ht, h.fit okt okx]
end Go.Proofs.YtkcfpnpejaekjaaDoor
