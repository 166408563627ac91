import Derived.Test.YtjlicbdnppodgaaPlain
namespace Go.Proofs.Ytjlicbdnppodgaa
/-! Plain: what is reached from a cell, and into how many parts the cells of a piece fall. -/
abbrev Pt := Int × Int
def pcOf (c : Cut) (p : Pt) : Int := at2 c p.1 p.2
def inG (c : Cut) (p : Pt) : Prop := isIn c p.1 p.2 = true
theorem inG_iff {c : Cut} (ok : OkC c) (p : Pt) : inG c p ↔ 0 ≤ pcOf c p := by
  constructor
  · exact (ok.at_bd p.1 p.2).2.2
  · intro h
    unfold inG
    cases hi : isIn c p.1 p.2 with
    | true => rfl
    | false =>
      unfold pcOf at2 at h
      rw [hi] at h
      simp at h
theorem Reach.inG {c : Cut} (ok : OkC c) {p q : Pt} (h : Reach c p q) (hp : inG c p) : Go.Proofs.Ytjlicbdnppodgaa.inG c q := by
  rw [inG_iff ok] at hp ⊢
  rw [show pcOf c q = pcOf c p from h.at_eq]; exact hp
def Closed (c : Cut) (R : Pt → Prop) : Prop := ∀ p q, R p → q ∈ around p.1 p.2 → pcOf c q = pcOf c p → R q
theorem Closed.reach {c : Cut} {R : Pt → Prop} (h : Closed c R) {p q : Pt} (hr : Reach c p q) (hp : R p) : R q := by
  induction hr with
  | refl => exact hp
  | step _ h2 h3 ih => exact h _ _ ih h2 h3
/-- What a search from a cell does to what has been reached. -/
structure Dfs (c : Cut) (p : Pt) (R R' : Pt → Prop) : Prop where
  old : ∀ q, R q → R' q
  own : R' p
  new : ∀ q, R' q → R q ∨ Reach c p q
  done : ∀ q, R' q → ¬ R q → ∀ n, n ∈ around q.1 q.2 → pcOf c n = pcOf c q → R' n
theorem Dfs.closed {c : Cut} {p : Pt} {R R' : Pt → Prop} (h : Dfs c p R R') (hc : Closed c R) : Closed c R' := by
  intro q n hq hn he
  by_cases hr : R q
  · exact h.old _ (hc q n hr hn he)
  · exact h.done q hq hr n hn he
/-- Within a search: the cells around p up to some number have been looked at. -/
structure DfsIn (c : Cut) (p : Pt) (R R' : Pt → Prop) (l : List Pt) : Prop where
  old : ∀ q, R q → R' q
  own : R' p
  new : ∀ q, R' q → R q ∨ Reach c p q
  done : ∀ q, R' q → ¬ R q → q ≠ p → ∀ n, n ∈ around q.1 q.2 → pcOf c n = pcOf c q → R' n
  here : ∀ n, n ∈ l → pcOf c n = pcOf c p → R' n
theorem DfsIn.start {c : Cut} {p : Pt} {R : Pt → Prop} : DfsIn c p R (fun q => R q ∨ q = p) [] :=
  ⟨fun _ h => .inl h, .inr rfl, fun q h => h.imp id (fun e => by subst e; exact .refl _), fun q h h1 h2 => absurd (h.resolve_left h1) h2, fun n h => by simp at h⟩
theorem DfsIn.skip {c : Cut} {p n : Pt} {R R' : Pt → Prop} {l : List Pt} (h : DfsIn c p R R' l) (hs : R' n ∨ pcOf c n ≠ pcOf c p) : DfsIn c p R R' (l ++ [n]) :=
  ⟨h.old, h.own, h.new, h.done, fun m hm he => by
    rcases List.mem_append.1 hm with hm | hm
    · exact h.here m hm he
    · rw [List.mem_singleton] at hm
      subst hm
      exact hs.resolve_right (fun h => h he)⟩
theorem DfsIn.go {c : Cut} {p n : Pt} {R R' R'' : Pt → Prop} {l : List Pt} (h : DfsIn c p R R' l) (hn : n ∈ around p.1 p.2) (he : pcOf c n = pcOf c p) (h2 : Dfs c n R' R'') : DfsIn c p R R'' (l ++ [n]) := by
  have hr : Reach c p n := .one hn he
  refine ⟨fun q hq => h2.old _ (h.old q hq), h2.old _ h.own, fun q hq => ?_, fun q hq hnr hne m hm hem => ?_, fun m hm hem => ?_⟩
  · rcases h2.new q hq with h3 | h3
    · exact h.new q h3
    · exact .inr (hr.trans h3)
  · by_cases h3 : R' q
    · exact h2.old _ (h.done q h3 hnr hne m hm hem)
    · exact h2.done q hq h3 m hm hem
  · rcases List.mem_append.1 hm with hm | hm
    · exact h2.old _ (h.here m hm hem)
    · rw [List.mem_singleton] at hm
      subst hm
      exact h2.own
theorem DfsIn.finish {c : Cut} {p : Pt} {R R' : Pt → Prop} (h : DfsIn c p R R' (around p.1 p.2)) : Dfs c p R R' :=
  ⟨h.old, h.own, h.new, fun q hq hnr n hn he => by
    by_cases e : q = p
    · subst e
      exact h.here n hn he
    · exact h.done q hq hnr e n hn he⟩
/-! The parts. -/
structure Starts (c : Cut) (R : Pt → Prop) (ls : List Pt) : Prop where
  cl : Closed c R
  gr : ∀ p, R p → inG c p
  from_ : ∀ r, R r → ∃ s, s ∈ ls ∧ Reach c s r
  ins : ∀ s, s ∈ ls → R s
  apart : ls.Pairwise (fun a b => ¬ Reach c a b)
theorem Starts.nil {c : Cut} : Starts c (fun _ => False) [] := ⟨fun _ _ h => h.elim, fun _ h => h.elim, fun _ h => h.elim, fun _ h => by simp at h, .nil⟩
theorem Starts.next {c : Cut} (ok : OkC c) {R R' : Pt → Prop} {ls : List Pt} {p : Pt} (h : Starts c R ls) (hp : inG c p) (hn : ¬ R p) (hd : Dfs c p R R') : Starts c R' (p :: ls) := by
  refine ⟨hd.closed h.cl, fun q hq => ?_, fun r hr => ?_, fun s hs => ?_, .cons (fun s hs hr => ?_) h.apart⟩
  · rcases hd.new q hq with h1 | h1
    · exact h.gr q h1
    · exact h1.inG ok hp
  · rcases hd.new r hr with h1 | h1
    · obtain ⟨s, hs, h2⟩ := h.from_ r h1
      exact ⟨s, List.mem_cons_of_mem _ hs, h2⟩
    · exact ⟨p, List.mem_cons_self .., h1⟩
  · rcases List.mem_cons.1 hs with rfl | hs
    · exact hd.own
    · exact hd.old _ (h.ins s hs)
  · exact hn (h.cl.reach hr.symm (h.ins s hs))
/-- What is known of the numbers of parts. -/
def PartsOk (c : Cut) (f : Int → Int) : Prop := ∀ k, 0 ≤ f k ∧ (f k = 0 ↔ ∀ p, inG c p → pcOf c p ≠ k) ∧ (1 < f k ↔ ¬ Whole c k)
def partsOf (c : Cut) (ls : List Pt) (k : Int) : Int := ((ls.countP (fun s => pcOf c s == k) : Nat) : Int)
theorem parts_ok {c : Cut} {R : Pt → Prop} {ls : List Pt} (h : Starts c R ls) (hall : ∀ p, inG c p → R p) : PartsOk c (partsOf c ls) := by
  intro k
  unfold partsOf
  rw [List.countP_eq_length_filter]
  have hmem : ∀ s, s ∈ ls.filter (fun s => pcOf c s == k) ↔ s ∈ ls ∧ pcOf c s = k := fun s => by simp
  have hpw : (ls.filter (fun s => pcOf c s == k)).Pairwise (fun a b => ¬ Reach c a b) := h.apart.filter _
  generalize ls.filter (fun s => pcOf c s == k) = l at *
  refine ⟨by omega, ?_, ?_⟩
  · constructor
    · intro h0 p hp e
      obtain ⟨s, hs, hr⟩ := h.from_ p (hall p hp)
      have : s ∈ l := (hmem s).2 ⟨hs, by rw [← show pcOf c p = pcOf c s from hr.at_eq]; exact e⟩
      have := List.length_pos_of_mem this
      omega
    · intro h0
      cases l with
      | nil => rfl
      | cons s l =>
        obtain ⟨h1, h2⟩ := (hmem s).1 (List.mem_cons_self ..)
        exact absurd h2 (h0 s (h.gr s (h.ins s h1)))
  · constructor
    · intro h1 hw
      match l, h1, hpw, hmem with
      | a :: b :: l, _, hpw, hmem =>
        obtain ⟨ha, ea⟩ := (hmem a).1 (List.mem_cons_self ..)
        obtain ⟨hb, eb⟩ := (hmem b).1 (List.mem_cons_of_mem _ (List.mem_cons_self ..))
        rw [List.pairwise_cons] at hpw
        exact hpw.1 b (List.mem_cons_self ..) (hw a b (h.gr a (h.ins a ha)) (h.gr b (h.ins b hb)) ea eb)
    · intro hw
      refine Classical.byContradiction fun hlt => hw fun p q hp hq ep eq => ?_
      obtain ⟨s, hs, hr⟩ := h.from_ p (hall p hp)
      obtain ⟨t, ht, hr'⟩ := h.from_ q (hall q hq)
      have hs' : s ∈ l := (hmem s).2 ⟨hs, by rw [← show pcOf c p = pcOf c s from hr.at_eq]; exact ep⟩
      have ht' : t ∈ l := (hmem t).2 ⟨ht, by rw [← show pcOf c q = pcOf c t from hr'.at_eq]; exact eq⟩
      match l, hlt, hs', ht' with
      | [x], _, hs', ht' =>
        rw [List.mem_singleton] at hs' ht'
        subst hs' ht'
        exact hr.symm.trans hr'
      | _ :: _ :: _, hlt, _, _ => exact absurd (by simp; omega) hlt
/-! The reference's way: one cell, and then cell by cell. -/
structure Grow (c : Cut) (k : Int) (R : Pt → Prop) : Prop where
  gr : ∀ p, R p → inG c p ∧ pcOf c p = k
  one : ∀ p q, R p → R q → Reach c p q
theorem Grow.nil {c : Cut} {k : Int} : Grow c k (fun _ => False) := ⟨fun _ h => h.elim, fun _ _ h => h.elim⟩
theorem Grow.first {c : Cut} {k : Int} {p : Pt} (hp : inG c p) (e : pcOf c p = k) : Grow c k (fun q => q = p) := ⟨fun q h => by subst h; exact ⟨hp, e⟩, fun a b h h' => by subst h h'; exact .refl _⟩
theorem Grow.next {c : Cut} {k : Int} {R : Pt → Prop} (h : Grow c k R) {p n : Pt} (hp : inG c p) (e : pcOf c p = k) (hn : n ∈ around p.1 p.2) (hr : R n) : Grow c k (fun q => R q ∨ q = p) := by
  have e' := (h.gr n hr).2
  have hnp : Reach c n p := .one (around_symm hn) (by show pcOf c p = pcOf c n; rw [e, e'])
  refine ⟨fun q hq => hq.elim (h.gr q) (fun he => by subst he; exact ⟨hp, e⟩), fun a b ha hb => ?_⟩
  have to_ : ∀ a, R a ∨ a = p → Reach c n a := fun a ha => ha.elim (fun h1 => h.one n a hr h1) (fun he => by subst he; exact hnp)
  exact (to_ a ha).symm.trans (to_ b hb)
/-- When no cell can be reached any more: the piece is whole just if all its cells have been. -/
theorem Grow.whole {c : Cut} (ok : OkC c) {k : Int} {R : Pt → Prop} (h : Grow c k R) (hne : (∃ p, inG c p ∧ pcOf c p = k) → ∃ p, R p) (hc : ∀ p n, inG c p → pcOf c p = k → n ∈ around p.1 p.2 → R n → R p) : Whole c k ↔ ∀ p, inG c p → pcOf c p = k → R p := by
  constructor
  · intro hw p hp e
    obtain ⟨s, hs⟩ := hne ⟨p, hp, e⟩
    obtain ⟨hs1, hs2⟩ := h.gr s hs
    have hr : Reach c s p := hw s p hs1 hp hs2 e
    have hcl : Closed c R := fun a b ha hb he => hc b a ((inG_iff ok b).2 (by rw [he]; exact (inG_iff ok a).1 (h.gr a ha).1)) (he.trans (h.gr a ha).2) (around_symm hb) ha
    exact hcl.reach hr hs
  · intro hall p q hp hq ep eq
    exact h.one p q (hall p hp ep) (hall q hq eq)
end Go.Proofs.Ytjlicbdnppodgaa
