import Derived.Test.YtfffhbolaimmdaaDoorP21
namespace Go.Proofs.YtfffhbolaimmdaaDoor
open Go.RowKit
/-! The plain law: the search of best finds what the reference finds. -/
def G (s : Store) (x : Nat) : Int := gainS s x (loAt s)
def Ge (a b : Int × Int) : Prop := b.2 < a.2 ∨ (a.2 = b.2 ∧ a.1 ≤ b.1)
theorem Ge.refl (a : Int × Int) : Ge a a := .inr ⟨rfl, Int.le_refl _⟩
theorem Ge.trans {a b c : Int × Int} (h : Ge a b) (k : Ge b c) : Ge a c := by unfold Ge at *; omega
theorem Ge.antisymm {a b : Int × Int} (h : Ge a b) (k : Ge b a) : a = b := by
  obtain ⟨a1, a2⟩ := a
  obtain ⟨b1, b2⟩ := b
  unfold Ge at h k
  simp only [Prod.mk.injEq]
  simp only at h k
  omega
theorem overP_ge (a p b q : Int) : Ge (overP a p b q) (a, p) ∧ Ge (overP a p b q) (b, q) ∧ (overP a p b q = (a, p) ∨ overP a p b q = (b, q)) := by
  unfold overP
  split
  · rename_i h
    refine ⟨Ge.refl _, ?_, .inl rfl⟩
    simp [overB] at h
    unfold Ge
    simp only
    omega
  · rename_i h
    refine ⟨?_, Ge.refl _, .inr rfl⟩
    simp [overB] at h
    unfold Ge
    simp only
    omega
def leaves (s : Store) : Nat → Nat → Nat → List Nat
  | 0, _, x => [x]
  | k + 1, i, x => leaves s k (i + 1) x ++ if takeOk s x i = true then leaves s k (i + 1) (x + 2 ^ i) else []
theorem dfs_leaves (s : Store) (k : Nat) : ∀ (i x : Nat) (o : Int × Int), dfsS s k i x o = (leaves s k i x).foldl (fun o y => overS s y o) o := by
  induction k with
  | zero => intro i x o; rfl
  | succ k ih =>
    intro i x o
    unfold dfsS leaves
    rw [List.foldl_append, ← ih]
    split
    · rw [ih]
    · rfl
theorem fold_over (s : Store) (l : List Nat) : ∀ o : Int × Int, Ge (l.foldl (fun o y => overS s y o) o) o ∧ (∀ y ∈ l, Ge (l.foldl (fun o y => overS s y o) o) ((y : Int), G s y)) ∧
    (l.foldl (fun o y => overS s y o) o = o ∨ ∃ y ∈ l, l.foldl (fun o y => overS s y o) o = ((y : Int), G s y)) := by
  induction l with
  | nil => intro o; exact ⟨Ge.refl _, fun y h => by simp at h, .inl rfl⟩
  | cons a l ih =>
    intro o
    obtain ⟨h1, h2, h3⟩ := ih (overS s a o)
    obtain ⟨g1, g2, g3⟩ := overP_ge (a : Int) (G s a) o.1 o.2
    rw [List.foldl_cons]
    refine ⟨h1.trans g2, fun y hy => ?_, ?_⟩
    · rcases List.mem_cons.1 hy with rfl | hy
      · exact h1.trans g1
      · exact h2 y hy
    · rcases h3 with h3 | ⟨y, hy, h3⟩
      · rw [h3]
        rcases g3 with g3 | g3
        · exact .inr ⟨a, List.mem_cons_self .., g3⟩
        · exact .inl g3
      · exact .inr ⟨y, List.mem_cons_of_mem _ hy, h3⟩
theorem used_mod (s : Store) {x y i : Nat} (h : y % 2 ^ i = x) (p : Nat) : usedTo s y i p = usedTo s x i p := by
  unfold usedTo
  refine sumTo_congr fun j hj => ?_
  have : has y j = has x j := by
    unfold has; rw [← h, Nat.testBit_mod_two_pow]; simp [hj]
  rw [this]
theorem okAt_take (s : Store) {x y i : Nat} (h : y % 2 ^ i = x) (hb : has y i = true) : okAt s y i = takeOk s x i := by
  unfold okAt takeOk leftF usedTo
  rw [sumTo_split, if_pos hb, if_pos rfl, ← licN_at]
  have e := used_mod s h (makeAt s i).pic.toNat
  unfold usedTo at e
  rw [e, Bool.and_comm]
  congr 1
  rw [decide_eq_decide]
  omega
theorem mod_succ {y i : Nat} : y % 2 ^ (i + 1) = y % 2 ^ i + if has y i = true then 2 ^ i else 0 := by
  have h := Nat.mod_mul (a := 2 ^ i) (b := 2) (x := y)
  rw [Nat.pow_succ, h]
  unfold has
  rw [Nat.testBit_eq_decide_div_mod_eq]
  by_cases e : y / 2 ^ i % 2 = 1
  · rw [e]; simp
  · rw [show y / 2 ^ i % 2 = 0 by omega]; simp
theorem mem_leaves (s : Store) (k : Nat) : ∀ (i x y : Nat), x < 2 ^ i → (y ∈ leaves s k i x ↔ y < 2 ^ (i + k) ∧ y % 2 ^ i = x ∧ ∀ j, i ≤ j → j < i + k → has y j = true → okAt s y j = true) := by
  induction k with
  | zero =>
    intro i x y hx
    simp only [leaves, List.mem_singleton, Nat.add_zero]
    constructor
    · rintro rfl; exact ⟨hx, Nat.mod_eq_of_lt hx, fun j h1 h2 => by omega⟩
    · rintro ⟨h1, h2, -⟩; rw [← h2, Nat.mod_eq_of_lt h1]
  | succ k ih =>
    intro i x y hx
    unfold leaves
    rw [List.mem_append, ih (i + 1) x y (lt_pow_succ hx), show i + 1 + k = i + (k + 1) by omega]
    have hm := mod_succ (y := y) (i := i)
    have hym := Nat.mod_lt y (Nat.two_pow_pos i)
    constructor
    · rintro (⟨h1, h2, h3⟩ | h)
      · have hb : has y i = false := by
          cases e : has y i
          · rfl
          · rw [e, if_pos rfl] at hm; omega
        rw [hb] at hm
        simp only [Bool.false_eq_true, if_false, Nat.add_zero] at hm
        refine ⟨h1, by omega, fun j hj1 hj2 hj3 => ?_⟩
        by_cases e : j = i
        · subst e; rw [hb] at hj3; cases hj3
        · exact h3 j (by omega) hj2 hj3
      · split at h
        · rename_i ht
          obtain ⟨h1, h2, h3⟩ := (ih (i + 1) (x + 2 ^ i) y (add_lt_pow hx)).1 h
          have hb : has y i = true := by
            cases e : has y i
            · rw [e] at hm; simp only [Bool.false_eq_true, if_false, Nat.add_zero] at hm; omega
            · rfl
          rw [hb, if_pos rfl] at hm
          have hxm : y % 2 ^ i = x := by omega
          refine ⟨by rw [show i + (k + 1) = i + 1 + k by omega]; exact h1, hxm, fun j hj1 hj2 hj3 => ?_⟩
          by_cases e : j = i
          · subst e; rw [okAt_take s hxm hb]; exact ht
          · exact h3 j (by omega) (by omega) hj3
        · simp at h
    · rintro ⟨h1, h2, h3⟩
      cases hb : has y i
      · rw [hb] at hm
        simp only [Bool.false_eq_true, if_false, Nat.add_zero] at hm
        exact .inl ⟨h1, by omega, fun j hj1 hj2 hj3 => h3 j (by omega) hj2 hj3⟩
      · rw [hb, if_pos rfl] at hm
        have ht := h3 i (Nat.le_refl _) (by omega) hb
        rw [okAt_take s h2 hb] at ht
        right
        rw [if_pos ht, ih (i + 1) (x + 2 ^ i) y (add_lt_pow hx)]
        exact ⟨by rw [show i + 1 + k = i + (k + 1) by omega]; exact h1, by omega, fun j hj1 hj2 hj3 => h3 j (by omega) (by omega) hj3⟩
theorem refusedTo_iff (s : Store) (y n : Nat) : refusedTo s y n = -1 ↔ ∀ j, j < n → has y j = true → okAt s y j = true := by
  induction n with
  | zero => exact ⟨fun _ j h => by omega, fun _ => rfl⟩
  | succ n ih =>
    have hr := refusedTo_range s y n
    unfold refusedTo
    constructor
    · intro h j hj hb
      split at h
      · omega
      · rename_i h0
        have hn : refusedTo s y n = -1 := by omega
        split at h
        · omega
        · rename_i h1
          by_cases e : j = n
          · subst e
            cases e2 : okAt s y j
            · exact absurd ⟨hb, e2⟩ h1
            · rfl
          · exact ih.1 hn j (by omega) hb
    · intro h
      have hn := ih.2 (fun j hj => h j (by omega))
      rw [if_neg (by omega), if_neg]
      rintro ⟨h1, h2⟩
      rw [h n (by omega) h1] at h2
      cases h2
theorem refused_iff (s : Store) (y : Nat) : refusedS s y < 0 ↔ ∀ j, j < s.wishes.length → has y j = true → okAt s y j = true := by
  rw [← refusedTo_iff]
  have := refusedTo_range s y s.wishes.length
  unfold refusedS
  omega
theorem leaf_iff (s : Store) (y : Nat) : y ∈ leaves s s.wishes.length 0 0 ↔ y < setsN s ∧ refusedS s y < 0 := by
  rw [mem_leaves s _ 0 0 y (by decide), refused_iff, Nat.zero_add]
  unfold setsN
  constructor
  · rintro ⟨h1, -, h3⟩; exact ⟨h1, fun j hj => h3 j (Nat.zero_le _) hj⟩
  · rintro ⟨h1, h3⟩; exact ⟨h1, by rw [Nat.pow_zero, Nat.mod_one], fun j _ hj => h3 j hj⟩
theorem bestTo_spec (s : Store) (m : Nat) : (bestTo s m = 0 ∨ (bestTo s m < m ∧ refusedS s (bestTo s m) < 0)) ∧ G s 0 ≤ G s (bestTo s m) ∧ ∀ y, y < m → refusedS s y < 0 → Ge ((bestTo s m : Int), G s (bestTo s m)) ((y : Int), G s y) := by
  induction m with
  | zero => exact ⟨.inl rfl, Int.le_refl _, fun y h => by omega⟩
  | succ m ih =>
    obtain ⟨h1, h2, h3⟩ := ih
    have hle := bestTo_le s m
    unfold bestTo
    by_cases hb : better s m (bestTo s m) = true
    · rw [if_pos hb]
      simp [better] at hb
      obtain ⟨hb1, hb2⟩ := hb
      change G s (bestTo s m) < G s m at hb2
      refine ⟨.inr ⟨by omega, hb1⟩, by omega, fun y hy hr => ?_⟩
      by_cases e : y = m
      · subst e; exact Ge.refl _
      · have := h3 y (by omega) hr
        unfold Ge at *
        simp only at *
        omega
    · rw [if_neg hb]
      refine ⟨?_, h2, fun y hy hr => ?_⟩
      · rcases h1 with h1 | h1
        · exact .inl h1
        · exact .inr ⟨by omega, h1.2⟩
      · by_cases e : y = m
        · subst e
          simp [better] at hb
          have hb2 := hb hr
          change G s y ≤ G s (bestTo s y) at hb2
          unfold Ge
          simp only
          omega
        · exact h3 y (by omega) hr
theorem refused_zero (s : Store) : refusedS s 0 < 0 := by
  rw [refused_iff]
  intro j _ hb
  simp [has] at hb
theorem takeS_zero (s : Store) (k : Nat) : takeS s 0 k = 0 := by
  unfold takeS takeTo
  generalize s.wishes.length = n
  induction n with
  | zero => rfl
  | succ n ih => rw [sumTo_split, ih]; simp [has]
theorem sum_all_zero {n : Nat} {f : Nat → Int} (h : ∀ i, i < n → f i = 0) : sumTo n f = 0 := by
  induction n with
  | zero => rfl
  | succ n ih => rw [sumTo_split, ih (fun i hi => h i (by omega)), h n (by omega)]; rfl
theorem G_zero {s : Store} (ok : Ok s) : G s 0 = 0 := by
  unfold G gainS gainTo costTo
  rw [sum_all_zero (f := fun i => if has 0 i = true then _ else 0) (fun i _ => by simp [has]), sum_all_zero (fun k hk => ?_)]
  · rfl
  · have := loAt_bd ok hk
    unfold lackS
    rw [takeS_zero, show max 0 (0 - loAt s k) = 0 by omega, Int.mul_zero]
theorem best_law {s : Store} (ok : Ok s) : dfsS s s.wishes.length 0 0 (0, 0) = ((bestS s : Int), gainS s (bestS s) (loAt s)) := by
  rw [dfs_leaves]
  obtain ⟨h1, h2, h3⟩ := fold_over s (leaves s s.wishes.length 0 0) (0, 0)
  obtain ⟨b1, b2, b3⟩ := bestTo_spec s (setsN s)
  have hp : 0 < setsN s := Nat.two_pow_pos _
  have hbl : bestS s ∈ leaves s s.wishes.length 0 0 := by
    rw [leaf_iff]
    unfold bestS
    rcases b1 with b1 | b1
    · rw [b1]; exact ⟨hp, refused_zero s⟩
    · exact b1
  refine Ge.antisymm (h2 _ hbl) ?_
  show Ge ((bestTo s (setsN s) : Int), G s (bestTo s (setsN s))) _
  rcases h3 with h3 | ⟨y, hy, h3⟩
  · rw [h3]
    have := b3 0 hp (refused_zero s)
    rw [G_zero ok] at this
    exact this
  · rw [h3]
    obtain ⟨y1, y2⟩ := (leaf_iff s y).1 hy
    exact b3 y y1 y2
end Go.Proofs.YtfffhbolaimmdaaDoor
