import Derived.Test.YtfffhbolaimmdaaDoorQ2
namespace Go.Proofs.YtfffhbolaimmdaaDoor
open Go.RowKit
/-! Plain facts: an order, and the two that it is split into. -/
theorem sumTo_upd {n i : Nat} {f g : Nat → Int} (hi : i < n) (h : ∀ j, j < n → j ≠ i → f j = g j) : sumTo n f = sumTo n g + (f i - g i) := by
  induction n with
  | zero => omega
  | succ n ih =>
    rw [sumTo_split, sumTo_split]
    by_cases e : i = n
    · subst e
      rw [sumTo_congr (g := g) (fun j hj => h j (by omega) (by omega))]; omega
    · rw [ih (by omega) (fun j hj hne => h j (by omega) hne), h n (by omega) (by omega)]; omega
/-- The copies of a picture that a whole set asks for are enough, if each order may be accepted. -/
theorem used_total (t : Store) (y : Nat) (m : Nat) (hm : ∀ j, j < m → has y j = true → okAt t y j = true) {j : Nat} (hj : j < m) (hb : has y j = true) : usedTo t y m (makeAt t j).pic.toNat ≤ (licAt t j).copies := by
  induction m with
  | zero => omega
  | succ m ih =>
    by_cases e : has y m = true ∧ (makeAt t m).pic.toNat = (makeAt t j).pic.toNat
    · have h1 := hm m (by omega) e.1
      unfold okAt at h1
      simp only [Bool.and_eq_true, decide_eq_true_eq] at h1
      have h2 : (licAt t m).copies = (licAt t j).copies := by unfold licAt; rw [e.2]
      rw [← e.2, ← h2]; exact h1.2
    · have hne : j ≠ m := fun he => e (by subst he; exact ⟨hb, rfl⟩)
      have h3 : usedTo t y (m + 1) (makeAt t j).pic.toNat = usedTo t y m (makeAt t j).pic.toNat := by
        unfold usedTo; rw [sumTo_split]
        by_cases hy : has y m = true
        · rw [if_pos hy, if_neg (fun he => e ⟨hy, he⟩)]; omega
        · rw [if_neg hy]; omega
      rw [h3]
      exact ih (fun k hk => hm k (by omega)) (by omega)
theorem used_mono {t : Store} (ok : Ok t) (y p : Nat) {a b : Nat} (hab : a ≤ b) (hb : b ≤ t.wishes.length) : usedTo t y a p ≤ usedTo t y b p := by
  induction b with
  | zero => have : a = 0 := by omega
            subst this; exact Int.le_refl _
  | succ b ih =>
    by_cases e : a = b + 1
    · subst e; exact Int.le_refl _
    · have h1 := ih (by omega) (by omega)
      have h2 := ok.wishOk (i := b) (by omega)
      have h3 : usedTo t y (b + 1) p = usedTo t y b p + (if has y b = true then (if (makeAt t b).pic.toNat = p then (wishAt t b).many else 0) else 0) := rfl
      rw [h3]
      split
      · split <;> omega
      · omega
/-- A set may be accepted, if each order is in the hours of its licence, and there are copies enough for all of them. -/
theorem accepted_iff {t : Store} (ok : Ok t) (y : Nat) : refusedS t y < 0 ↔ (∀ j, j < t.wishes.length → has y j = true → inS (wishAt t j).hour (licAt t j).lo (licAt t j).hi = true) ∧ (∀ j, j < t.wishes.length → has y j = true → usedTo t y t.wishes.length (makeAt t j).pic.toNat ≤ (licAt t j).copies) := by
  rw [refused_iff]
  constructor
  · intro h
    refine ⟨fun j hj hb => ?_, fun j hj hb => used_total t y _ h hj hb⟩
    have := h j hj hb
    unfold okAt at this
    rw [Bool.and_eq_true] at this
    exact this.1
  · rintro ⟨h1, h2⟩ j hj hb
    unfold okAt
    rw [Bool.and_eq_true, decide_eq_true_eq]
    exact ⟨h1 j hj hb, Int.le_trans (used_mono ok y _ (by omega) (Nat.le_refl _)) (h2 j hj hb)⟩
/-- The store in which the order i is split: so many copies first, the rest at the end. -/
def Sp (s : Store) (i : Nat) (a : Int) (x : Store) : Prop := ∃ A c, x = { s with wishes := s.wishes.set i { wishAt s i with many := a } ++ [{ wishAt s i with many := (wishAt s i).many - a, ship := 0 }], A4 := A, c4 := c }
structure SpH (s : Store) (i : Nat) (a : Int) (x : Store) : Prop where
  sp : Sp s i a x
  ok : Ok s
  hi : i < s.wishes.length
  h9 : s.wishes.length < 9
  a1 : 1 ≤ a
  a2 : a < (wishAt s i).many
theorem Sp.nw {s x : Store} {i : Nat} {a : Int} (h : Sp s i a x) : x.wishes.length = s.wishes.length + 1 := by obtain ⟨A, c, rfl⟩ := h; simp
theorem Sp.ns {s x : Store} {i : Nat} {a : Int} (h : Sp s i a x) : x.sheets = s.sheets ∧ x.lics = s.lics ∧ x.makes = s.makes := by obtain ⟨A, c, rfl⟩ := h; exact ⟨rfl, rfl, rfl⟩
theorem Sp.wish {s x : Store} {i : Nat} {a : Int} (h : Sp s i a x) (hi : i < s.wishes.length) (j : Nat) : wishAt x j = if j = i then { wishAt s i with many := a } else if j = s.wishes.length then { wishAt s i with many := (wishAt s i).many - a, ship := 0 } else wishAt s j := by
  obtain ⟨A, c, rfl⟩ := h
  generalize hw : wishAt s i = w0
  have hs : ∀ k, wishAt s k = s.wishes.getD k ⟨0, 0, 0, 0, 0⟩ := fun k => rfl
  rw [hs j]
  unfold wishAt
  dsimp only
  simp only [List.getD_eq_getElem?_getD]
  by_cases e1 : j = i
  · subst e1
    rw [if_pos rfl, List.getElem?_append_left (by simpa using hi), List.getElem?_set]
    simp [hi]
  · rw [if_neg e1]
    by_cases e2 : j = s.wishes.length
    · subst e2
      rw [if_pos rfl, List.getElem?_append_right (by simp)]
      simp
    · rw [if_neg e2]
      by_cases e3 : j < s.wishes.length
      · rw [List.getElem?_append_left (by simpa using e3), List.getElem?_set, if_neg (fun he => e1 he.symm)]
      · rw [List.getElem?_eq_none (by simp; omega), List.getElem?_eq_none (by omega)]
theorem SpH.makeLt {s x : Store} {i : Nat} {a : Int} (h : SpH s i a x) {j : Nat} (hj : j < s.wishes.length) : makeAt x j = makeAt s j ∧ licAt x j = licAt s j := by
  have e : makeAt x j = makeAt s j := by
    unfold makeAt
    rw [h.sp.ns.2.2, h.sp.wish h.hi j]
    by_cases e1 : j = i
    · subst e1; rw [if_pos rfl]
    · rw [if_neg e1, if_neg (by omega)]
  exact ⟨e, by unfold licAt; rw [h.sp.ns.2.1, e]⟩
theorem SpH.makeEnd {s x : Store} {i : Nat} {a : Int} (h : SpH s i a x) : makeAt x s.wishes.length = makeAt s i ∧ licAt x s.wishes.length = licAt s i := by
  have hi := h.hi
  have e : makeAt x s.wishes.length = makeAt s i := by
    unfold makeAt
    rw [h.sp.ns.2.2, h.sp.wish h.hi, if_neg (by omega), if_pos rfl]
  exact ⟨e, by unfold licAt; rw [h.sp.ns.2.1, e]⟩
theorem SpH.okx {s x : Store} {i : Nat} {a : Int} (h : SpH s i a x) : Ok x := by
  have h9 := h.h9
  have ok := h.ok
  have hw := ok.wishOk h.hi
  have a1 := h.a1
  have a2 := h.a2
  have hn := h.sp.nw
  obtain ⟨A, c, rfl⟩ := h.sp
  refine ⟨ok.ns, ok.nl, ok.nm, by omega, ok.sheet, ok.lic, ok.make, fun y hy => ?_⟩
  rcases List.mem_append.1 hy with hy | hy
  · rcases List.mem_or_eq_of_mem_set hy with hy | rfl
    · exact ok.wish y hy
    · exact ⟨hw.1, hw.2.1, a1, by show a ≤ 1000; omega, hw.2.2.2.2⟩
  · obtain rfl := List.mem_singleton.1 hy
    exact ⟨hw.1, hw.2.1, by show 1 ≤ (wishAt s i).many - a; omega, by show (wishAt s i).many - a ≤ 1000; omega, hw.2.2.2.2.1, hw.2.2.2.2.2.1, hw.2.2.2.2.2.2.1, hw.2.2.2.2.2.2.2.1, Int.le_refl _, by show (0 : Int) ≤ 100000; omega⟩
/-- The set with the rest, too. -/
def bothS (s : Store) (i set : Nat) : Nat := if has set i = true then set + 2 ^ s.wishes.length else set
theorem both_lt {s : Store} {i set : Nat} (h : set < 2 ^ s.wishes.length) : bothS s i set < 2 ^ (s.wishes.length + 1) := by
  unfold bothS; rw [Nat.pow_succ]; split <;> omega
theorem both_has {s : Store} {i set j : Nat} (_ : set < 2 ^ s.wishes.length) (hj : j < s.wishes.length) : has (bothS s i set) j = has set j := by
  unfold bothS; split
  · exact has_add_lt hj
  · rfl
theorem both_end {s : Store} {i set : Nat} (h : set < 2 ^ s.wishes.length) : has (bothS s i set) s.wishes.length = has set i := by
  unfold bothS
  by_cases e : has set i = true
  · rw [if_pos e, has_add_same h, e]
  · rw [if_neg e]
    have : has set s.wishes.length = false := by unfold has; exact Nat.testBit_lt_two_pow h
    rw [this]; cases hb : has set i with
    | false => rfl
    | true => exact absurd hb e
/-- A sum over the split store: what the two orders give together is what the one gave. -/
theorem split_sum {s : Store} {i set : Nat} {f g : Nat → Int} (hset : set < 2 ^ s.wishes.length) (hi : i < s.wishes.length) (h : ∀ j, j < s.wishes.length → j ≠ i → f j = g j) (h2 : f i + f s.wishes.length = g i) :
    sumTo (s.wishes.length + 1) (fun j => if has (bothS s i set) j = true then f j else 0) = sumTo s.wishes.length fun j => if has set j = true then g j else 0 := by
  rw [sumTo_split]
  rw [sumTo_upd (g := fun j => if has set j = true then g j else 0) hi (fun j hj hne => by rw [both_has hset hj, h j hj hne])]
  rw [both_has hset hi, both_end hset]
  split <;> omega
theorem SpH.many {s x : Store} {i : Nat} {a : Int} (h : SpH s i a x) : (wishAt x i).many = a ∧ (wishAt x s.wishes.length).many = (wishAt s i).many - a ∧ ∀ j, j < s.wishes.length → j ≠ i → wishAt x j = wishAt s j := by
  have hi := h.hi
  refine ⟨by rw [h.sp.wish h.hi, if_pos rfl], by rw [h.sp.wish h.hi, if_neg (by omega), if_pos rfl], fun j hj hne => by rw [h.sp.wish h.hi, if_neg hne, if_neg (by omega)]⟩
theorem SpH.take {s x : Store} {i : Nat} {a : Int} (h : SpH s i a x) {set : Nat} (hset : set < 2 ^ s.wishes.length) (k : Nat) : takeS x (bothS s i set) k = takeS s set k := by
  obtain ⟨m1, m2, m3⟩ := h.many
  unfold takeS takeTo
  rw [h.sp.nw]
  refine split_sum hset h.hi (f := fun j => (wishAt x j).many * takeAt x j k) (g := fun j => (wishAt s j).many * takeAt s j k) (fun j hj hne => ?_) ?_
  · unfold takeAt; rw [m3 j hj hne, (h.makeLt hj).1]
  · unfold takeAt; rw [m1, m2, (h.makeLt h.hi).1, h.makeEnd.1, ← Int.add_mul]; congr 1; omega
theorem SpH.used {s x : Store} {i : Nat} {a : Int} (h : SpH s i a x) {set : Nat} (hset : set < 2 ^ s.wishes.length) (p : Nat) : usedTo x (bothS s i set) x.wishes.length p = usedTo s set s.wishes.length p := by
  obtain ⟨m1, m2, m3⟩ := h.many
  unfold usedTo
  rw [h.sp.nw]
  refine split_sum hset h.hi (f := fun j => if (makeAt x j).pic.toNat = p then (wishAt x j).many else 0) (g := fun j => if (makeAt s j).pic.toNat = p then (wishAt s j).many else 0) (fun j hj hne => ?_) ?_
  · rw [m3 j hj hne, (h.makeLt hj).1]
  · rw [m1, m2, (h.makeLt h.hi).1, h.makeEnd.1]; split <;> omega
theorem SpH.gain {s x : Store} {i : Nat} {a : Int} (h : SpH s i a x) {set : Nat} (hset : set < 2 ^ s.wishes.length) (f : Nat → Int) : gainS x (bothS s i set) f = gainS s set f := by
  have hi := h.hi
  obtain ⟨m1, m2, m3⟩ := h.many
  have e1 : gainTo x (bothS s i set) x.wishes.length = gainTo s set s.wishes.length := by
    unfold gainTo
    rw [h.sp.nw]
    refine split_sum hset h.hi (f := fun j => (wishAt x j).many * ((wishAt x j).price - (licAt x j).fee) - (wishAt x j).ship) (g := fun j => (wishAt s j).many * ((wishAt s j).price - (licAt s j).fee) - (wishAt s j).ship) (fun j hj hne => ?_) ?_
    · rw [m3 j hj hne, (h.makeLt hj).2]
    · rw [(h.makeLt h.hi).2, h.makeEnd.2, m1, m2, h.sp.wish h.hi i, h.sp.wish h.hi s.wishes.length, if_pos rfl, if_neg (by omega), if_pos rfl]
      dsimp only
      generalize (wishAt s i).price - (licAt s i).fee = z
      rw [Int.sub_mul]; omega
  have e2 : costTo x (bothS s i set) f x.sheets.length = costTo s set f s.sheets.length := by
    rw [h.sp.ns.1]
    unfold costTo
    refine sumTo_congr fun k _ => ?_
    have : sheetAt x k = sheetAt s k := by unfold sheetAt; rw [h.sp.ns.1]
    rw [this]; unfold lackS; rw [h.take hset]
  unfold gainS; rw [e1, e2]
theorem SpH.refused {s x : Store} {i : Nat} {a : Int} (h : SpH s i a x) {set : Nat} (hset : set < 2 ^ s.wishes.length) : refusedS x (bothS s i set) < 0 ↔ refusedS s set < 0 := by
  have hi := h.hi
  obtain ⟨m1, m2, m3⟩ := h.many
  have hh : ∀ j, j < s.wishes.length → (wishAt x j).hour = (wishAt s j).hour := fun j hj => by
    rw [h.sp.wish h.hi]; by_cases e : j = i
    · subst e; rw [if_pos rfl]
    · rw [if_neg e, if_neg (by omega)]
  have he : (wishAt x s.wishes.length).hour = (wishAt s i).hour := by rw [h.sp.wish h.hi, if_neg (by omega), if_pos rfl]
  rw [accepted_iff h.okx, accepted_iff h.ok]
  simp only [h.used hset]
  rw [h.sp.nw]
  constructor
  · rintro ⟨h1, h2⟩
    refine ⟨fun j hj hb => ?_, fun j hj hb => ?_⟩
    · have := h1 j (by omega) (by rw [both_has hset hj]; exact hb)
      rwa [hh j hj, (h.makeLt hj).2] at this
    · have := h2 j (by omega) (by rw [both_has hset hj]; exact hb)
      rwa [(h.makeLt hj).1, (h.makeLt hj).2] at this
  · rintro ⟨h1, h2⟩
    refine ⟨fun j hj hb => ?_, fun j hj hb => ?_⟩
    · by_cases e : j < s.wishes.length
      · rw [both_has hset e] at hb
        rw [hh j e, (h.makeLt e).2]; exact h1 j e hb
      · obtain rfl : j = s.wishes.length := by omega
        rw [both_end hset] at hb
        rw [he, h.makeEnd.2]; exact h1 i h.hi hb
    · by_cases e : j < s.wishes.length
      · rw [both_has hset e] at hb
        rw [(h.makeLt e).1, (h.makeLt e).2]; exact h2 j e hb
      · obtain rfl : j = s.wishes.length := by omega
        rw [both_end hset] at hb
        rw [h.makeEnd.1, h.makeEnd.2]; exact h2 i h.hi hb
theorem SpH.accepted {s x : Store} {i : Nat} {a : Int} (h : SpH s i a x) {set : Nat} (hset : set < 2 ^ s.wishes.length) : acceptedS x (bothS s i set : Nat) = acceptedS s (set : Nat) := by
  have hb : bothS s i set < 2 ^ x.wishes.length := by rw [h.sp.nw]; exact both_lt hset
  rw [accepted_in h.okx hb, accepted_in h.ok hset]
  have := h.refused hset
  by_cases e : refusedS s set < 0
  · rw [if_neg (by omega), if_neg (by have := this.2 e; omega)]
  · rw [if_pos (by omega), if_pos (by have := mt this.1 e; omega)]
theorem SpH.lacks {s x : Store} {i : Nat} {a : Int} (h : SpH s i a x) {set : Nat} (hset : set < 2 ^ s.wishes.length) : lacksS x (bothS s i set) = lacksS s set := by
  funext k
  have : sheetAt x k = sheetAt s k := by unfold sheetAt; rw [h.sp.ns.1]
  unfold lacksS lackS loAt hiAt; rw [h.take hset, this]
theorem SpH.profit {s x : Store} {i : Nat} {a : Int} (h : SpH s i a x) {set : Nat} (hset : set < 2 ^ s.wishes.length) : profitS x (bothS s i set : Nat) = profitS s (set : Nat) := by
  have e1 : loAt x = loAt s := by funext k; unfold loAt sheetAt; rw [h.sp.ns.1]
  have e2 : hiAt x = hiAt s := by funext k; unfold hiAt sheetAt; rw [h.sp.ns.1]
  unfold profitS
  rw [h.accepted hset, e1, e2, show ((bothS s i set : Nat) : Int).toNat = bothS s i set from rfl, show ((set : Nat) : Int).toNat = set from rfl, h.gain hset, h.gain hset]
end Go.Proofs.YtfffhbolaimmdaaDoor
