import Derived.Test.YtjlicbdnppodgaaWho
namespace Go.Proofs.Ytjlicbdnppodgaa
open Go.RowKit
/-! Plain: parts of points, and of cells; what Euler says of a grid. -/
def jnF (f : Nat → Nat) (e : Nat × Nat) : Nat → Nat := fun i => if f i = f e.1 then f e.2 else f i
/-- The parts, after edges have been joined: the last one first in the list. -/
def lab : List (Nat × Nat) → Nat → Nat
  | [] => id
  | e :: es => jnF (lab es) e
theorem lab_rel {R : Nat → Nat → Prop} (hr : ∀ i, R i i) (hs : ∀ i j, R i j → R j i) (ht : ∀ i j k, R i j → R j k → R i k) : ∀ es : List (Nat × Nat), (∀ e ∈ es, R e.1 e.2) → ∀ i, R i (lab es i)
  | [], _, i => hr i
  | e :: es, h, i => by
    have ih := lab_rel hr hs ht es fun x hx => h x (List.mem_cons_of_mem _ hx)
    have he := h e (List.mem_cons_self ..)
    show R i (jnF (lab es) e i)
    unfold jnF
    split
    · rename_i h1
      have h2 := ih i
      rw [h1] at h2
      exact ht _ _ _ h2 (ht _ _ _ (hs _ _ (ih e.1)) (ht _ _ _ he (ih e.2)))
    · exact ih i
theorem lab_edge : ∀ es : List (Nat × Nat), ∀ e ∈ es, lab es e.1 = lab es e.2
  | e :: es, x, hx => by
    show jnF (lab es) e x.1 = jnF (lab es) e x.2
    unfold jnF
    rcases List.mem_cons.1 hx with rfl | hx
    · rw [if_pos rfl]
      split <;> rfl
    · rw [lab_edge es x hx]
theorem lab_fun {α : Type} (g : Nat → α) (es : List (Nat × Nat)) (h : ∀ e ∈ es, g e.1 = g e.2) (i : Nat) : g i = g (lab es i) :=
  lab_rel (R := fun i j => g i = g j) (fun _ => rfl) (fun _ _ h => h.symm) (fun _ _ _ h k => h.trans k) es h i
theorem lab_idem (es : List (Nat × Nat)) (i : Nat) : lab es (lab es i) = lab es i := (lab_fun (lab es) es (lab_edge es) i).symm
theorem lab_lt {n : Nat} : ∀ {es : List (Nat × Nat)}, (∀ e ∈ es, e.1 < n ∧ e.2 < n) → ∀ {i : Nat}, i < n → lab es i < n
  | [], _, i, hi => hi
  | e :: es, h, i, hi => by
    have ih := fun {i} => lab_lt (es := es) (fun x hx => h x (List.mem_cons_of_mem _ hx)) (i := i)
    show jnF (lab es) e i < n
    unfold jnF
    split
    · exact ih (h e (List.mem_cons_self ..)).2
    · exact ih hi
/-- What no edge has is a part of its own. -/
theorem lab_own {i : Nat} : ∀ {es : List (Nat × Nat)}, (∀ e ∈ es, e.1 ≠ i ∧ e.2 ≠ i) → lab es i = i ∧ ∀ j, lab es j = i → j = i
  | [], _ => ⟨rfl, fun _ h => h⟩
  | e :: es, h => by
    obtain ⟨h1, h2⟩ := lab_own (i := i) (es := es) fun x hx => h x (List.mem_cons_of_mem _ hx)
    have he := h e (List.mem_cons_self ..)
    have h3 : ¬ lab es i = lab es e.1 := fun e' => he.1 (h2 e.1 (by rw [← e', h1]))
    refine ⟨?_, fun j => ?_⟩
    · show jnF (lab es) e i = i
      unfold jnF
      rw [if_neg h3, h1]
    · show jnF (lab es) e j = i → j = i
      unfold jnF
      split
      · intro h4; exact absurd (h2 e.2 h4) he.2
      · exact h2 j
/-- How many parts there are. -/
def kN (f : Nat → Nat) (n : Nat) : Int := sumTo (fun i => b2i (f i == i)) n
theorem b2i_nat (a b : Nat) : b2i (a == b) = if a = b then 1 else 0 := by
  unfold b2i
  by_cases h : a = b <;> simp [h]
theorem kN_step {n : Nat} {es : List (Nat × Nat)} {e : Nat × Nat} (h : ∀ x ∈ e :: es, x.1 < n ∧ x.2 < n) : kN (lab (e :: es)) n = kN (lab es) n - (if lab es e.1 = lab es e.2 then 0 else 1) := by
  by_cases he : lab es e.1 = lab es e.2
  · rw [if_pos he, Int.sub_zero]
    unfold kN
    refine sumTo_congr fun i _ => ?_
    have : lab (e :: es) i = lab es i := by
      show jnF (lab es) e i = _
      unfold jnF
      split
      · rename_i h1; rw [h1, he]
      · rfl
    rw [this]
  · rw [if_neg he]
    have hlt := lab_lt (fun x hx => h x (List.mem_cons_of_mem _ hx)) (h e (List.mem_cons_self ..)).1
    have hid := lab_idem es e.1
    have hid2 := lab_idem es e.2
    unfold kN
    have := sumTo_one (f := fun i => b2i (lab es i == i)) (g := fun i => b2i (lab (e :: es) i == i)) (i := lab es e.1) (d := -1) (by
      rw [b2i_nat, b2i_nat, if_pos hid]
      have : lab (e :: es) (lab es e.1) = lab es e.2 := by
        show jnF (lab es) e (lab es e.1) = _
        unfold jnF
        rw [if_pos hid]
      rw [this, if_neg (fun h => he h.symm)]; rfl) hlt (fun k _ hk => by
      rw [b2i_nat, b2i_nat]
      show (if jnF (lab es) e k = k then (1 : Int) else 0) = _
      unfold jnF
      by_cases h1 : lab es k = lab es e.1
      · rw [if_pos h1, if_neg (show ¬ lab es k = k from fun h => hk (by rw [← h1, h]))]
        rw [if_neg]
        intro h2
        rw [← h2] at h1
        rw [hid2] at h1
        exact he h1.symm
      · rw [if_neg h1])
    rw [this]; omega
theorem kN_pos {n : Nat} (hn : 0 < n) {es : List (Nat × Nat)} (h : ∀ x ∈ es, x.1 < n ∧ x.2 < n) : 1 ≤ kN (lab es) n := by
  have := sumTo_ge (f := fun i => b2i (lab es i == i)) (fun k => by rw [b2i_nat]; split <;> omega) (lab_lt h hn)
  rw [b2i_nat, if_pos (lab_idem es 0)] at this
  exact this
theorem kN_nil (n : Nat) : kN (lab []) n = n := by
  unfold kN
  rw [sumTo_congr (g := fun _ => (1 : Int)) fun i _ => by rw [b2i_nat]; exact if_pos rfl, sumTo_const]; omega
/-! Edges of a grid. -/
abbrev Ed := Bool × Nat × Nat
section
variable (w h : Nat)
def okE (e : Ed) : Prop := if e.1 = true then e.2.1 < w ∧ e.2.2 ≤ h else e.2.1 ≤ w ∧ e.2.2 < h
def ptI (x y : Nat) : Nat := y * (w + 1) + x
def ptE (e : Ed) : Nat × Nat := (ptI w e.2.1 e.2.2, if e.1 = true then ptI w (e.2.1 + 1) e.2.2 else ptI w e.2.1 (e.2.2 + 1))
def fcI (x y : Int) : Nat := if (0 ≤ x ∧ x < w) ∧ 0 ≤ y ∧ y < h then (y * w + x).toNat else w * h
def fcE (e : Ed) : Nat × Nat := (if e.1 = true then fcI w h (e.2.1 : Int) ((e.2.2 : Int) - 1) else fcI w h ((e.2.1 : Int) - 1) (e.2.2 : Int), fcI w h (e.2.1 : Int) (e.2.2 : Int))
end
/-- Does a point lie on the ray? -/
def rayB (p : Nat × Nat) (x y : Int) : Bool := decide ((p.2 : Int) = y ∧ (p.1 : Int) ≤ x)
/-- A chain of edges from one point to another one, and what it goes around. -/
def ChE (M : Bool → Int → Int → Bool) (f : Int → Int → Bool) (a b : Nat × Nat) : Prop :=
  (∀ x y, xor (f (x - 1) y) (f x y) = M false x y) ∧ ∀ x y, xor (f x (y - 1)) (f x y) = xor (M true x y) (xor (rayB a x y) (rayB b x y))
def Ch (T : List Ed) (a b : Nat × Nat) : Prop := ∃ M f, (∀ d x y, M d x y = true → ∃ e ∈ T, e.1 = d ∧ (e.2.1 : Int) = x ∧ (e.2.2 : Int) = y) ∧ ChE M f a b
theorem xor4 (a b c d m n : Bool) (h1 : xor a b = m) (h2 : xor c d = n) : xor (xor a c) (xor b d) = xor m n := by
  subst h1 h2
  cases a <;> cases b <;> cases c <;> cases d <;> rfl
theorem xor_mid : ∀ m n a b c : Bool, xor (xor m (xor a b)) (xor n (xor b c)) = xor (xor m n) (xor a c) := by decide
theorem ChE.join {M N : Bool → Int → Int → Bool} {f g : Int → Int → Bool} {a b c : Nat × Nat} (h : ChE M f a b) (k : ChE N g b c) : ChE (fun d x y => xor (M d x y) (N d x y)) (fun x y => xor (f x y) (g x y)) a c := by
  refine ⟨fun x y => xor4 _ _ _ _ _ _ (h.1 x y) (k.1 x y), fun x y => ?_⟩
  have := xor4 _ _ _ _ _ _ (h.2 x y) (k.2 x y)
  rw [this]
  exact xor_mid _ _ _ _ _
theorem Ch.refl (T : List Ed) (a : Nat × Nat) : Ch T a a := ⟨fun _ _ _ => false, fun _ _ => false, fun _ _ _ h => (by cases h), fun _ _ => rfl, fun x y => (by cases rayB a x y <;> rfl)⟩
theorem Ch.symm {T : List Ed} {a b : Nat × Nat} (h : Ch T a b) : Ch T b a := by
  obtain ⟨M, f, h1, h2, h3⟩ := h
  exact ⟨M, f, h1, h2, fun x y => by rw [h3]; cases M true x y <;> cases rayB a x y <;> cases rayB b x y <;> rfl⟩
theorem Ch.trans {T : List Ed} {a b c : Nat × Nat} (h : Ch T a b) (k : Ch T b c) : Ch T a c := by
  obtain ⟨M, f, h1, h2⟩ := h
  obtain ⟨N, g, k1, k2⟩ := k
  refine ⟨_, _, fun d x y hm => ?_, h2.join k2⟩
  cases hM : M d x y
  · cases hN : N d x y
    · rw [hM, hN] at hm; cases hm
    · exact k1 d x y hN
  · exact h1 d x y hM
/-- One edge. -/
def edM (e : Ed) (d : Bool) (x y : Int) : Bool := decide (e.1 = d ∧ (e.2.1 : Int) = x ∧ (e.2.2 : Int) = y)
def edF (e : Ed) (x y : Int) : Bool := decide (e.1 = false ∧ y = (e.2.2 : Int) ∧ (e.2.1 : Int) ≤ x)
def edA (e : Ed) : Nat × Nat := (e.2.1, e.2.2)
def edB (e : Ed) : Nat × Nat := if e.1 = true then (e.2.1 + 1, e.2.2) else (e.2.1, e.2.2 + 1)
theorem xor_dec (p q r : Prop) [Decidable p] [Decidable q] [Decidable r] (h : r ↔ ¬ (p ↔ q)) : xor (decide p) (decide q) = decide r := by
  by_cases h1 : p <;> by_cases h2 : q <;> by_cases h3 : r <;> simp_all
theorem chE_one (e : Ed) : ChE (edM e) (edF e) (edA e) (edB e) := by
  obtain ⟨d, u, v⟩ := e
  cases d
  · refine ⟨fun x y => ?_, fun x y => ?_⟩
    · unfold edF edM
      dsimp only
      refine xor_dec _ _ _ ?_
      simp only [true_and]
      omega
    · unfold edF edM rayB edA edB
      dsimp only
      simp only [Bool.false_eq_true, if_false, true_and, false_and, decide_false, Bool.false_xor]
      have e1 : xor (decide (y - 1 = (v : Int) ∧ (u : Int) ≤ x)) (decide (y = (v : Int) ∧ (u : Int) ≤ x)) = decide ((y - 1 = (v : Int) ∨ y = (v : Int)) ∧ (u : Int) ≤ x) := xor_dec _ _ _ (by omega)
      have e2 : xor (decide ((v : Int) = y ∧ (u : Int) ≤ x)) (decide (((v + 1 : Nat) : Int) = y ∧ (u : Int) ≤ x)) = decide ((y - 1 = (v : Int) ∨ y = (v : Int)) ∧ (u : Int) ≤ x) := xor_dec _ _ _ (by omega)
      rw [e1, e2]
  · refine ⟨fun x y => ?_, fun x y => ?_⟩
    · unfold edF edM
      simp
    · unfold edF edM rayB edA edB
      dsimp only
      simp only [if_true, true_and, Bool.true_eq_false, false_and, decide_false, Bool.false_xor]
      have e2 : xor (decide ((v : Int) = y ∧ (u : Int) ≤ x)) (decide ((v : Int) = y ∧ ((u + 1 : Nat) : Int) ≤ x)) = decide ((u : Int) = x ∧ (v : Int) = y) := xor_dec _ _ _ (by omega)
      rw [e2]
      cases decide ((u : Int) = x ∧ (v : Int) = y) <;> rfl
theorem Ch.one {T : List Ed} {e : Ed} (h : e ∈ T) : Ch T (edA e) (edB e) := ⟨edM e, edF e, fun d x y hm => by
  unfold edM at hm
  rw [decide_eq_true_eq] at hm
  exact ⟨e, h, hm⟩, chE_one e⟩
/-- From an index to its point. -/
def ptX (w i : Nat) : Nat × Nat := (i % (w + 1), i / (w + 1))
theorem ptX_I {w x y : Nat} (hx : x ≤ w) : ptX w (ptI w x y) = (x, y) := by
  unfold ptX ptI
  rw [Nat.add_comm, Nat.add_mul_mod_self_right, Nat.mod_eq_of_lt (by omega), Nat.add_mul_div_right _ _ (by omega), Nat.div_eq_of_lt (by omega), Nat.zero_add]
theorem ptX_E {w h : Nat} {e : Ed} (he : okE w h e) : ptX w (ptE w e).1 = edA e ∧ ptX w (ptE w e).2 = edB e := by
  obtain ⟨d, u, v⟩ := e
  unfold okE at he
  unfold ptE edA edB
  cases d
  · simp only [Bool.false_eq_true, if_false] at he ⊢
    exact ⟨ptX_I he.1, ptX_I he.1⟩
  · simp only [if_true] at he ⊢
    exact ⟨ptX_I (by omega), ptX_I (by omega)⟩
theorem lab_ch {w h : Nat} {T : List Ed} (hT : ∀ e ∈ T, okE w h e) (i : Nat) : Ch T (ptX w i) (ptX w (lab (T.map (ptE w)) i)) :=
  lab_rel (R := fun i j => Ch T (ptX w i) (ptX w j)) (fun _ => Ch.refl _ _) (fun _ _ h => h.symm) (fun _ _ _ h k => h.trans k) _ (fun x hx => by
    obtain ⟨e, he, rfl⟩ := List.mem_map.1 hx
    rw [(ptX_E (hT e he)).1, (ptX_E (hT e he)).2]
    exact Ch.one he) i
/-- A closed chain parts the cells on both sides of its edges, and no others. -/
theorem ring_parts {w h : Nat} {T : List Ed} {e : Ed} (hT : ∀ x ∈ e :: T, okE w h x) (hn : e ∉ T) (hl : lab (T.map (ptE w)) (ptE w e).1 = lab (T.map (ptE w)) (ptE w e).2) : ∃ g : Nat → Bool, g (fcE w h e).1 ≠ g (fcE w h e).2 ∧ ∀ x, okE w h x → x ∉ e :: T → g (fcE w h x).1 = g (fcE w h x).2 := by
  have hT' : ∀ x ∈ T, okE w h x := fun x hx => hT x (List.mem_cons_of_mem _ hx)
  have hch : Ch T (edA e) (edB e) := by
    have h1 := lab_ch hT' (ptE w e).1
    have h2 := lab_ch hT' (ptE w e).2
    rw [hl] at h1
    have := h1.trans h2.symm
    rw [(ptX_E (hT e (List.mem_cons_self ..))).1, (ptX_E (hT e (List.mem_cons_self ..))).2] at this
    exact this
  obtain ⟨M, f, hM, hf⟩ := hch.symm
  have hj := hf.join (chE_one e)
  -- the two ends are one: the chain is closed
  obtain ⟨K, hK⟩ : ∃ K : Bool → Int → Int → Bool, K = fun d x y => xor (M d x y) (edM e d x y) := ⟨_, rfl⟩
  obtain ⟨q, hq⟩ : ∃ q : Int → Int → Bool, q = fun x y => xor (f x y) (edF e x y) := ⟨_, rfl⟩
  have hV : ∀ x y, xor (q (x - 1) y) (q x y) = K false x y := fun x y => by rw [hq, hK]; exact hj.1 x y
  have hH : ∀ x y, xor (q x (y - 1)) (q x y) = K true x y := fun x y => by
    rw [hq, hK]
    have := hj.2 x y
    dsimp only at this ⊢
    rw [this]
    cases M true x y <;> cases edM e true x y <;> cases rayB (edB e) x y <;> rfl
  have hS : ∀ d x y, K d x y = true → ∃ x' ∈ e :: T, x'.1 = d ∧ (x'.2.1 : Int) = x ∧ (x'.2.2 : Int) = y := fun d x y hk => by
    rw [hK] at hk
    dsimp only at hk
    cases h1 : M d x y
    · rw [h1] at hk
      have h2 : edM e d x y = true := by rw [Bool.false_xor] at hk; exact hk
      unfold edM at h2
      rw [decide_eq_true_eq] at h2
      exact ⟨e, List.mem_cons_self .., h2⟩
    · obtain ⟨x', hx', h3⟩ := hM d x y h1
      exact ⟨x', List.mem_cons_of_mem _ hx', h3⟩
  have hE : K e.1 (e.2.1 : Int) (e.2.2 : Int) = true := by
    rw [hK]
    dsimp only
    have h1 : M e.1 (e.2.1 : Int) (e.2.2 : Int) = false := by
      rw [← Bool.not_eq_true]
      intro h1
      obtain ⟨x', hx', h3, h4, h5⟩ := hM _ _ _ h1
      obtain ⟨d, u, v⟩ := e
      obtain ⟨d', u', v'⟩ := x'
      dsimp only at h3 h4 h5
      have h6 : u' = u := by omega
      have h7 : v' = v := by omega
      subst h3 h6 h7
      exact hn hx'
    rw [h1]
    unfold edM
    rw [decide_eq_true (by exact ⟨rfl, rfl, rfl⟩)]; rfl
  have kv : ∀ x y, (y < 0 ∨ (h : Int) ≤ y) → q (x - 1) y = q x y := fun x y ho => by
    have h1 : K false x y = false := by
      rw [← Bool.not_eq_true]
      intro h1
      obtain ⟨x', hx', h3, h4, h5⟩ := hS _ _ _ h1
      have := hT x' hx'
      unfold okE at this
      rw [h3] at this
      simp only [Bool.false_eq_true, if_false] at this
      omega
    have := hV x y
    rw [h1] at this
    revert this
    cases q (x - 1) y <;> cases q x y <;> simp
  have kh : ∀ x y, (x < 0 ∨ (w : Int) ≤ x) → q x (y - 1) = q x y := fun x y ho => by
    have h1 : K true x y = false := by
      rw [← Bool.not_eq_true]
      intro h1
      obtain ⟨x', hx', h3, h4, h5⟩ := hS _ _ _ h1
      have := hT x' hx'
      unfold okE at this
      rw [h3] at this
      simp only [if_true] at this
      omega
    have := hH x y
    rw [h1] at this
    revert this
    cases q x (y - 1) <;> cases q x y <;> simp
  have r1 : ∀ n : Nat, q ((n : Int) - 1) (-1) = q (-1) (-1) := fun n => by
    induction n with
    | zero => rfl
    | succ n ih => rw [← ih, show (((n + 1 : Nat)) : Int) - 1 = (n : Int) by omega]; exact (kv _ _ (by omega)).symm
  have r2 : ∀ n : Nat, q (-1) ((n : Int) - 1) = q (-1) (-1) := fun n => by
    induction n with
    | zero => rfl
    | succ n ih => rw [← ih, show (((n + 1 : Nat)) : Int) - 1 = (n : Int) by omega]; exact (kh _ _ (by omega)).symm
  have r3 : ∀ n : Nat, q ((n : Int) - 1) (h : Int) = q (-1) (-1) := fun n => by
    induction n with
    | zero =>
      have := r2 (h + 1)
      rw [show (((h + 1 : Nat)) : Int) - 1 = (h : Int) by omega] at this
      exact this
    | succ n ih => rw [← ih, show (((n + 1 : Nat)) : Int) - 1 = (n : Int) by omega]; exact (kv _ _ (by omega)).symm
  have r4 : ∀ n : Nat, q (w : Int) ((n : Int) - 1) = q (-1) (-1) := fun n => by
    induction n with
    | zero =>
      have := r1 (w + 1)
      rw [show (((w + 1 : Nat)) : Int) - 1 = (w : Int) by omega] at this
      exact this
    | succ n ih => rw [← ih, show (((n + 1 : Nat)) : Int) - 1 = (n : Int) by omega]; exact (kh _ _ (by omega)).symm
  obtain ⟨g, hg⟩ : ∃ g : Nat → Bool, g = fun i => if i < w * h then q ((i % w : Nat) : Int) ((i / w : Nat) : Int) else q (-1) (-1) := ⟨_, rfl⟩
  have hgq : ∀ x y : Int, -1 ≤ x → x ≤ w → -1 ≤ y → y ≤ h → g (fcI w h x y) = q x y := fun x y h1 h2 h3 h4 => by
    unfold fcI
    by_cases hin : (0 ≤ x ∧ x < w) ∧ 0 ≤ y ∧ y < h
    · rw [if_pos hin]
      obtain ⟨a, ha⟩ : ∃ a : Nat, (a : Int) = x := ⟨x.toNat, by omega⟩
      obtain ⟨b, hb⟩ : ∃ b : Nat, (b : Int) = y := ⟨y.toNat, by omega⟩
      subst ha hb
      have e1 : ((b : Int) * (w : Int) + (a : Int)).toNat = b * w + a := by
        have : ((b * w + a : Nat) : Int) = (b : Int) * (w : Int) + (a : Int) := by push_cast; rfl
        omega
      have hlt : b * w + a < w * h := by
        have := Nat.mul_le_mul_right w (show b + 1 ≤ h by omega)
        rw [Nat.add_mul, Nat.one_mul, Nat.mul_comm h w] at this
        omega
      rw [e1, hg]
      dsimp only
      rw [if_pos hlt, show (b * w + a) % w = a by rw [Nat.add_comm, Nat.add_mul_mod_self_right, Nat.mod_eq_of_lt (by omega)], show (b * w + a) / w = b by rw [Nat.add_comm, Nat.add_mul_div_right _ _ (by omega), Nat.div_eq_of_lt (by omega), Nat.zero_add]]
    · rw [if_neg hin, hg]
      dsimp only
      rw [if_neg (by omega)]
      by_cases y1 : y = -1
      · have := r1 (x + 1).toNat
        rw [show (((x + 1).toNat : Nat) : Int) - 1 = x by omega] at this
        rw [y1, this]
      · by_cases y2 : y = h
        · have := r3 (x + 1).toNat
          rw [show (((x + 1).toNat : Nat) : Int) - 1 = x by omega] at this
          rw [y2, this]
        · by_cases x1 : x = -1
          · have := r2 (y + 1).toNat
            rw [show (((y + 1).toNat : Nat) : Int) - 1 = y by omega] at this
            rw [x1, this]
          · have x2 : x = w := by omega
            have := r4 (y + 1).toNat
            rw [show (((y + 1).toNat : Nat) : Int) - 1 = y by omega] at this
            rw [x2, this]
  have hfc : ∀ x : Ed, okE w h x → xor (g (fcE w h x).1) (g (fcE w h x).2) = K x.1 (x.2.1 : Int) (x.2.2 : Int) := fun x hx => by
    obtain ⟨d, u, v⟩ := x
    unfold okE at hx
    unfold fcE
    cases d
    · simp only [Bool.false_eq_true, if_false] at hx ⊢
      rw [hgq _ _ (by omega) (by omega) (by omega) (by omega), hgq _ _ (by omega) (by omega) (by omega) (by omega)]
      exact hV _ _
    · simp only [if_true] at hx ⊢
      rw [hgq _ _ (by omega) (by omega) (by omega) (by omega), hgq _ _ (by omega) (by omega) (by omega) (by omega)]
      exact hH _ _
  refine ⟨g, fun he => ?_, fun x hx hxn => ?_⟩
  · have := hfc e (hT e (List.mem_cons_self ..))
    rw [he, hE] at this
    cases h9 : g (fcE w h e).2 <;> rw [h9] at this <;> cases this
  · have h1 : K x.1 (x.2.1 : Int) (x.2.2 : Int) = false := by
      rw [← Bool.not_eq_true]
      intro h1
      obtain ⟨x', hx', h3, h4, h5⟩ := hS _ _ _ h1
      obtain ⟨d, u, v⟩ := x
      obtain ⟨d', u', v'⟩ := x'
      dsimp only at h3 h4 h5
      have h6 : u' = u := by omega
      have h7 : v' = v := by omega
      subst h3 h6 h7
      exact hxn hx'
    have := hfc x hx
    rw [h1] at this
    revert this
    cases g (fcE w h x).1 <;> cases g (fcE w h x).2 <;> simp
/-! Edge by edge: a part of points less, or a part of cells more. -/
def phiE (w h : Nat) (A C : List Ed) : Int := kN (lab (C.map (fcE w h))) (w * h + 1) - kN (lab (A.map (ptE w))) ((w + 1) * (h + 1))
theorem ptI_lt {w h x y : Nat} (hx : x ≤ w) (hy : y ≤ h) : ptI w x y < (w + 1) * (h + 1) := by
  unfold ptI
  have := Nat.mul_le_mul_right (w + 1) (show y + 1 ≤ h + 1 by omega)
  rw [Nat.add_mul, Nat.one_mul, Nat.mul_comm (h + 1)] at this
  omega
theorem ptE_lt {w h : Nat} {e : Ed} (he : okE w h e) : (ptE w e).1 < (w + 1) * (h + 1) ∧ (ptE w e).2 < (w + 1) * (h + 1) := by
  obtain ⟨d, u, v⟩ := e
  unfold okE at he
  unfold ptE
  cases d
  · simp only [Bool.false_eq_true, if_false] at he ⊢
    exact ⟨ptI_lt (by omega) (by omega), ptI_lt (by omega) (by omega)⟩
  · simp only [if_true] at he ⊢
    exact ⟨ptI_lt (by omega) (by omega), ptI_lt (by omega) (by omega)⟩
theorem fcI_lt (w h : Nat) (x y : Int) : fcI w h x y < w * h + 1 := by
  unfold fcI
  split
  · rename_i hin
    obtain ⟨a, ha⟩ : ∃ a : Nat, (a : Int) = x := ⟨x.toNat, by omega⟩
    obtain ⟨b, hb⟩ : ∃ b : Nat, (b : Int) = y := ⟨y.toNat, by omega⟩
    subst ha hb
    have e1 : ((b : Int) * (w : Int) + (a : Int)).toNat = b * w + a := by
      have : ((b * w + a : Nat) : Int) = (b : Int) * (w : Int) + (a : Int) := by push_cast; rfl
      omega
    have := Nat.mul_le_mul_right w (show b + 1 ≤ h by omega)
    rw [Nat.add_mul, Nat.one_mul, Nat.mul_comm h w] at this
    omega
  · omega
theorem fcE_lt (w h : Nat) (e : Ed) : (fcE w h e).1 < w * h + 1 ∧ (fcE w h e).2 < w * h + 1 := by
  unfold fcE
  refine ⟨?_, fcI_lt _ _ _ _⟩
  dsimp only
  split <;> exact fcI_lt _ _ _ _
theorem euler_step {w h : Nat} {A C : List Ed} {e : Ed} (hok : ∀ x ∈ e :: A, okE w h x) (hoc : ∀ x ∈ C, okE w h x) (hea : e ∉ A) (hca : ∀ x ∈ C, x ∉ e :: A) : phiE w h A (e :: C) + 1 ≤ phiE w h (e :: A) C := by
  have k1 := kN_step (n := (w + 1) * (h + 1)) (es := A.map (ptE w)) (e := ptE w e) (fun x hx => by
    rw [← List.map_cons] at hx
    obtain ⟨y, hy, rfl⟩ := List.mem_map.1 hx
    exact ptE_lt (hok y hy))
  have k2 := kN_step (n := w * h + 1) (es := C.map (fcE w h)) (e := fcE w h e) (fun x hx => by
    rw [← List.map_cons] at hx
    obtain ⟨y, _, rfl⟩ := List.mem_map.1 hx
    exact fcE_lt w h y)
  unfold phiE
  rw [List.map_cons, List.map_cons, k1, k2]
  by_cases h1 : lab (A.map (ptE w)) (ptE w e).1 = lab (A.map (ptE w)) (ptE w e).2
  · have h2 : ¬ lab (C.map (fcE w h)) (fcE w h e).1 = lab (C.map (fcE w h)) (fcE w h e).2 := fun h2 => by
      obtain ⟨g, hg1, hg2⟩ := ring_parts hok hea h1
      have hgc : ∀ x ∈ C.map (fcE w h), g x.1 = g x.2 := fun x hx => by
        obtain ⟨y, hy, rfl⟩ := List.mem_map.1 hx
        exact hg2 y (hoc y hy) (hca y hy)
      exact hg1 (by rw [lab_fun g _ hgc, h2, ← lab_fun g _ hgc])
    rw [if_pos h1, if_neg h2]; omega
  · rw [if_neg h1]
    split <;> omega
theorem euler_run {w h : Nat} : ∀ {B A C : List Ed}, (∀ x ∈ A, okE w h x) → (∀ x ∈ B ++ C, okE w h x) → (B ++ C).Nodup → (∀ x ∈ B ++ C, x ∉ A) → phiE w h A (B ++ C) + B.length ≤ phiE w h (B.reverse ++ A) C
  | [], A, C, _, _, _, _ => by show phiE w h A C + ((0 : Nat) : Int) ≤ phiE w h A C; omega
  | e :: B, A, C, ha, hb, hn, hd => by
    rw [List.cons_append] at hb hn hd ⊢
    rw [List.nodup_cons] at hn
    have h1 := euler_step (A := A) (C := B ++ C) (e := e) (fun x hx => by
      rcases List.mem_cons.1 hx with rfl | hx
      · exact hb _ (List.mem_cons_self ..)
      · exact ha x hx) (fun x hx => hb x (List.mem_cons_of_mem _ hx)) (hd e (List.mem_cons_self ..)) (fun x hx hxe => by
      rcases List.mem_cons.1 hxe with rfl | hxa
      · exact hn.1 hx
      · exact hd x (List.mem_cons_of_mem _ hx) hxa)
    have h2 := euler_run (B := B) (A := e :: A) (C := C) (fun x hx => by
      rcases List.mem_cons.1 hx with rfl | hx
      · exact hb _ (List.mem_cons_self ..)
      · exact ha x hx) (fun x hx => hb x (List.mem_cons_of_mem _ hx)) hn.2 (fun x hx hxe => by
      rcases List.mem_cons.1 hxe with rfl | hxa
      · exact hn.1 hx
      · exact hd x (List.mem_cons_of_mem _ hx) hxa)
    rw [List.reverse_cons, List.append_assoc, List.singleton_append, List.length_cons]
    push_cast
    omega
theorem euler_main {w h : Nat} {S D : List Ed} (hs : ∀ x ∈ S, okE w h x) (hd : ∀ x ∈ D, okE w h x) (ns : S.Nodup) (nd : D.Nodup) (hsd : ∀ x ∈ D, x ∉ S) (hlen : ((S.length + D.length : Nat) : Int) = ((w + 1) * (h + 1) + (w * h + 1) : Nat) - 2) :
    kN (lab (D.map (fcE w h))) (w * h + 1) = kN (lab (S.map (ptE w))) ((w + 1) * (h + 1)) + S.length - ((w + 1) * (h + 1) : Nat) + 1 := by
  have a1 := euler_run (w := w) (h := h) (B := S.reverse) (A := []) (C := D) (fun x hx => by simp at hx) (fun x hx => by
    rcases List.mem_append.1 hx with hx | hx
    · exact hs x (List.mem_reverse.1 hx)
    · exact hd x hx) (by
    rw [List.nodup_append]
    exact ⟨List.pairwise_reverse.2 (ns.imp fun h e => h e.symm), nd, fun a ha b hb e => hsd b hb (by rw [← e]; exact List.mem_reverse.1 ha)⟩) (fun x _ hx => by simp at hx)
  have a2 := euler_run (w := w) (h := h) (B := D) (A := S) (C := []) hs (fun x hx => hd x (by rw [List.append_nil] at hx; exact hx)) (by rw [List.append_nil]; exact nd) (fun x hx => hsd x (by rw [List.append_nil] at hx; exact hx))
  rw [List.reverse_reverse, List.append_nil, List.length_reverse] at a1
  rw [List.append_nil] at a2
  have hF : ∀ X : List Ed, 1 ≤ kN (lab (X.map (fcE w h))) (w * h + 1) := fun X => kN_pos (by omega) fun x hx => by
    obtain ⟨y, _, rfl⟩ := List.mem_map.1 hx
    exact fcE_lt w h y
  have hP : 1 ≤ kN (lab ((D.reverse ++ S).map (ptE w))) ((w + 1) * (h + 1)) := kN_pos (Nat.mul_pos (by omega) (by omega)) fun x hx => by
    obtain ⟨y, hy, rfl⟩ := List.mem_map.1 hx
    rcases List.mem_append.1 hy with hy | hy
    · exact ptE_lt (hd y (List.mem_reverse.1 hy))
    · exact ptE_lt (hs y hy)
  have b1 := hF (S.reverse ++ D)
  have e1 : kN (lab (([] : List Ed).map (ptE w))) ((w + 1) * (h + 1)) = ((w + 1) * (h + 1) : Nat) := kN_nil _
  have e2 : kN (lab (([] : List Ed).map (fcE w h))) (w * h + 1) = (w * h + 1 : Nat) := kN_nil _
  unfold phiE at a1 a2
  rw [e1] at a1
  rw [e2] at a2
  generalize kN (lab (D.map (fcE w h))) (w * h + 1) = k1 at *
  generalize kN (lab (S.map (ptE w))) ((w + 1) * (h + 1)) = k2 at *
  push_cast at hlen a1 a2 ⊢
  generalize ((w : Int) + 1) * ((h : Int) + 1) = p at *
  generalize (w : Int) * (h : Int) = q at *
  omega
/-! The lines of a cut as edges of the grid. -/
def sepB (c : Cut) (e : Ed) : Bool := if e.1 = true then at2 c (e.2.1 : Int) ((e.2.2 : Int) - 1) != at2 c (e.2.1 : Int) (e.2.2 : Int) else at2 c ((e.2.1 : Int) - 1) (e.2.2 : Int) != at2 c (e.2.1 : Int) (e.2.2 : Int)
/-- The edges at the first n points: those for which P holds. -/
def edL (w h : Nat) (P : Ed → Bool) : Nat → List Ed
  | 0 => []
  | n + 1 => (if n / (w + 1) < h ∧ P (false, n % (w + 1), n / (w + 1)) = true then [(false, n % (w + 1), n / (w + 1))] else []) ++ ((if n % (w + 1) < w ∧ P (true, n % (w + 1), n / (w + 1)) = true then [(true, n % (w + 1), n / (w + 1))] else []) ++ edL w h P n)
theorem edL_mem {w h : Nat} {P : Ed → Bool} {n : Nat} (hn : n ≤ (w + 1) * (h + 1)) (e : Ed) : e ∈ edL w h P n ↔ okE w h e ∧ P e = true ∧ ptI w e.2.1 e.2.2 < n := by
  induction n with
  | zero => exact ⟨fun h => (by cases h), fun h => (by have := h.2.2; omega)⟩
  | succ n ih =>
    have ih := ih (by omega)
    have hm : n % (w + 1) < w + 1 := Nat.mod_lt _ (by omega)
    have hd : n / (w + 1) < h + 1 := by rw [Nat.div_lt_iff_lt_mul (by omega), Nat.mul_comm]; omega
    have hdm : ptI w (n % (w + 1)) (n / (w + 1)) = n := by
      unfold ptI
      have := Nat.div_add_mod n (w + 1)
      rw [Nat.mul_comm] at this
      omega
    have heq : ∀ u v, u ≤ w → ptI w u v = n → u = n % (w + 1) ∧ v = n / (w + 1) := fun u v hu h1 => by
      have h2 := ptX_I (w := w) (x := u) (y := v) hu
      rw [h1] at h2
      unfold ptX at h2
      injection h2 with h2 h3
      exact ⟨h2.symm, h3.symm⟩
    unfold edL
    rw [List.mem_append, List.mem_append, ih]
    obtain ⟨d, u, v⟩ := e
    constructor
    · rintro (h1 | h1 | h1)
      · split at h1
        · rename_i hc
          rw [List.mem_singleton] at h1
          injection h1 with h1 h2
          injection h2 with h2 h3
          subst h1 h2 h3
          refine ⟨?_, hc.2, ?_⟩
          · unfold okE; simp only [Bool.false_eq_true, if_false]; omega
          · show ptI w (n % (w + 1)) (n / (w + 1)) < n + 1; omega
        · simp at h1
      · split at h1
        · rename_i hc
          rw [List.mem_singleton] at h1
          injection h1 with h1 h2
          injection h2 with h2 h3
          subst h1 h2 h3
          refine ⟨?_, hc.2, ?_⟩
          · unfold okE; simp only [if_true]; omega
          · show ptI w (n % (w + 1)) (n / (w + 1)) < n + 1; omega
        · simp at h1
      · exact ⟨h1.1, h1.2.1, by omega⟩
    · rintro ⟨h1, h2, h3⟩
      dsimp only at h3
      by_cases e1 : ptI w u v = n
      · cases d
        · unfold okE at h1
          simp only [Bool.false_eq_true, if_false] at h1
          obtain ⟨rfl, rfl⟩ := heq u v h1.1 e1
          left
          rw [if_pos ⟨h1.2, h2⟩]
          exact List.mem_singleton.2 rfl
        · unfold okE at h1
          simp only [if_true] at h1
          obtain ⟨rfl, rfl⟩ := heq u v (by omega) e1
          right; left
          rw [if_pos ⟨h1.1, h2⟩]
          exact List.mem_singleton.2 rfl
      · right; right
        exact ⟨h1, h2, by dsimp only; omega⟩
theorem edL_nodup {w h : Nat} {P : Ed → Bool} : ∀ {n : Nat}, n ≤ (w + 1) * (h + 1) → (edL w h P n).Nodup
  | 0, _ => List.nodup_nil
  | n + 1, hn => by
    have ih := edL_nodup (w := w) (h := h) (P := P) (n := n) (by omega)
    have hdm : ptI w (n % (w + 1)) (n / (w + 1)) = n := by
      unfold ptI
      have := Nat.div_add_mod n (w + 1)
      rw [Nat.mul_comm] at this
      omega
    have hnot : ∀ d, (d, n % (w + 1), n / (w + 1)) ∉ edL w h P n := fun d hm => by
      have := ((edL_mem (by omega) _).1 hm).2.2
      dsimp only at this
      omega
    unfold edL
    split <;> split
    · simp only [List.singleton_append, List.nodup_cons, List.mem_cons, not_or]
      exact ⟨⟨by simp, hnot _⟩, hnot _, ih⟩
    · simp only [List.singleton_append, List.nil_append, List.nodup_cons]
      exact ⟨hnot _, ih⟩
    · simp only [List.singleton_append, List.nil_append, List.nodup_cons]
      exact ⟨hnot _, ih⟩
    · simp only [List.nil_append]
      exact ih
theorem len_if (c : Prop) [Decidable c] (b : Bool) (x : Ed) : (((if c ∧ b = true then [x] else []) : List Ed).length : Int) = b2i (decide c && b) := by
  by_cases h : c <;> cases b <;> simp [h, b2i]
theorem edL_len (w h : Nat) (P : Ed → Bool) : ∀ n : Nat, ((edL w h P n).length : Int) = sumTo (fun i => b2i (decide (i % (w + 1) < w) && P (true, i % (w + 1), i / (w + 1))) + b2i (decide (i / (w + 1) < h) && P (false, i % (w + 1), i / (w + 1)))) n
  | 0 => rfl
  | n + 1 => by
    show _ = sumTo _ n + _
    rw [← edL_len w h P n]
    show (((if n / (w + 1) < h ∧ P (false, n % (w + 1), n / (w + 1)) = true then [((false, n % (w + 1), n / (w + 1)) : Ed)] else []) ++ ((if n % (w + 1) < w ∧ P (true, n % (w + 1), n / (w + 1)) = true then [((true, n % (w + 1), n / (w + 1)) : Ed)] else []) ++ edL w h P n)).length : Int) = _
    generalize edL w h P n = l
    rw [List.length_append, List.length_append, Int.natCast_add, Int.natCast_add, len_if, len_if]
    dsimp only
    omega
/-! The cells' parts are the pieces, and what lies without. -/
def pcFE (c : Cut) (i : Nat) : Int := if i < W c * H c then at2 c ((i % W c : Nat) : Int) ((i / W c : Nat) : Int) else -1
theorem WH_eq {c : Cut} (ok : OkC c) : ((W c : Nat) : Int) = c.wide ∧ ((H c : Nat) : Int) = c.high := by
  have hw := ok.w
  have hh := ok.h
  unfold W H
  omega
theorem pc_fc {c : Cut} (ok : OkC c) (x y : Int) : pcFE c (fcI (W c) (H c) x y) = at2 c x y := by
  obtain ⟨hW, hH⟩ := WH_eq ok
  unfold fcI
  by_cases hin : (0 ≤ x ∧ x < (W c : Int)) ∧ 0 ≤ y ∧ y < (H c : Int)
  · rw [if_pos hin]
    obtain ⟨a, ha⟩ : ∃ a : Nat, (a : Int) = x := ⟨x.toNat, by omega⟩
    obtain ⟨b, hb⟩ : ∃ b : Nat, (b : Int) = y := ⟨y.toNat, by omega⟩
    subst ha hb
    have e1 : ((b : Int) * (W c : Int) + (a : Int)).toNat = b * W c + a := by
      have : ((b * W c + a : Nat) : Int) = (b : Int) * (W c : Int) + (a : Int) := by push_cast; rfl
      omega
    have hlt : b * W c + a < W c * H c := by
      have := Nat.mul_le_mul_right (W c) (show b + 1 ≤ H c by omega)
      rw [Nat.add_mul, Nat.one_mul, Nat.mul_comm (H c)] at this
      omega
    unfold pcFE
    rw [e1, if_pos hlt, show (b * W c + a) % W c = a by rw [Nat.add_comm, Nat.add_mul_mod_self_right, Nat.mod_eq_of_lt (by omega)], show (b * W c + a) / W c = b by rw [Nat.add_comm, Nat.add_mul_div_right _ _ (by omega), Nat.div_eq_of_lt (by omega), Nat.zero_add]]
  · rw [if_neg hin]
    unfold pcFE
    rw [if_neg (by omega)]
    exact (at_out (by omega)).symm
def ptN (c : Cut) : Nat := (W c + 1) * (H c + 1)
def sepL (c : Cut) (n : Nat) : List Ed := edL (W c) (H c) (sepB c) n
def sameL (c : Cut) (n : Nat) : List Ed := edL (W c) (H c) (fun e => !sepB c e) n
theorem pc_same {c : Cut} (ok : OkC c) : ∀ x ∈ (sameL c (ptN c)).map (fcE (W c) (H c)), pcFE c x.1 = pcFE c x.2 := fun x hx => by
  obtain ⟨e, he, rfl⟩ := List.mem_map.1 hx
  have h1 := ((edL_mem (Nat.le_refl _) e).1 he).2.1
  rw [Bool.not_eq_true'] at h1
  obtain ⟨d, u, v⟩ := e
  unfold sepB at h1
  unfold fcE
  cases d
  · simp only [Bool.false_eq_true, if_false, bne_eq_false_iff_eq] at h1 ⊢
    rw [pc_fc ok, pc_fc ok]; exact h1
  · simp only [if_true, bne_eq_false_iff_eq] at h1 ⊢
    rw [pc_fc ok, pc_fc ok]; exact h1
theorem same_edge {c : Cut} {e : Ed} (he : okE (W c) (H c) e) (hs : sepB c e = false) : lab ((sameL c (ptN c)).map (fcE (W c) (H c))) (fcE (W c) (H c) e).1 = lab ((sameL c (ptN c)).map (fcE (W c) (H c))) (fcE (W c) (H c) e).2 := by
  refine lab_edge _ (fcE (W c) (H c) e) (List.mem_map.2 ⟨e, (edL_mem (Nat.le_refl _) e).2 ⟨he, by rw [hs]; rfl, ?_⟩, rfl⟩)
  exact (ptE_lt he).1
theorem reach_lab {c : Cut} (ok : OkC c) {p q : Pt} (hp : inG c p) (hr : Reach c p q) : lab ((sameL c (ptN c)).map (fcE (W c) (H c))) (fcI (W c) (H c) p.1 p.2) = lab ((sameL c (ptN c)).map (fcE (W c) (H c))) (fcI (W c) (H c) q.1 q.2) := by
  obtain ⟨hW, hH⟩ := WH_eq ok
  induction hr with
  | refl => rfl
  | step h1 h2 h3 ih =>
    rename_i q r
    have gq : inG c q := h1.inG ok hp
    have gr : inG c r := (Reach.step h1 h2 h3).inG ok hp
    rw [inG_bd] at gq gr
    rw [ih]
    obtain ⟨x, y⟩ := q
    obtain ⟨x', y'⟩ := r
    dsimp only at gq gr h2 h3 ⊢
    obtain ⟨a, ha⟩ : ∃ a : Nat, (a : Int) = x := ⟨x.toNat, by omega⟩
    obtain ⟨b, hb⟩ : ∃ b : Nat, (b : Int) = y := ⟨y.toNat, by omega⟩
    obtain ⟨a', ha'⟩ : ∃ a : Nat, (a : Int) = x' := ⟨x'.toNat, by omega⟩
    obtain ⟨b', hb'⟩ : ∃ b : Nat, (b : Int) = y' := ⟨y'.toNat, by omega⟩
    have ver : ∀ u v : Nat, (u : Int) < c.wide → 1 ≤ u → (v : Int) < c.high → at2 c ((u : Int) - 1) (v : Int) = at2 c (u : Int) (v : Int) → lab ((sameL c (ptN c)).map (fcE (W c) (H c))) (fcI (W c) (H c) ((u : Int) - 1) (v : Int)) = lab ((sameL c (ptN c)).map (fcE (W c) (H c))) (fcI (W c) (H c) (u : Int) (v : Int)) := fun u v hu hu1 hv he =>
      same_edge (e := (false, u, v)) (by unfold okE; simp only [Bool.false_eq_true, if_false]; omega) (by unfold sepB; simp only [Bool.false_eq_true, if_false, bne_eq_false_iff_eq]; exact he)
    have hor : ∀ u v : Nat, (u : Int) < c.wide → 1 ≤ v → (v : Int) < c.high → at2 c (u : Int) ((v : Int) - 1) = at2 c (u : Int) (v : Int) → lab ((sameL c (ptN c)).map (fcE (W c) (H c))) (fcI (W c) (H c) (u : Int) ((v : Int) - 1)) = lab ((sameL c (ptN c)).map (fcE (W c) (H c))) (fcI (W c) (H c) (u : Int) (v : Int)) := fun u v hu hv1 hv he =>
      same_edge (e := (true, u, v)) (by unfold okE; simp only [if_true]; omega) (by unfold sepB; simp only [if_true, bne_eq_false_iff_eq]; exact he)
    unfold around at h2
    simp only [List.mem_cons, Prod.mk.injEq, List.not_mem_nil, or_false] at h2
    subst ha hb ha' hb'
    rcases h2 with ⟨h4, h5⟩ | ⟨h4, h5⟩ | ⟨h4, h5⟩ | ⟨h4, h5⟩
    · have := ver a b (by omega) (by omega) (by omega) (by rw [h4, h5] at h3; exact h3)
      rw [h4, h5]; exact this.symm
    · have := ver a' b' (by omega) (by omega) (by omega) (by rw [show (a' : Int) - 1 = a by omega, h5]; rw [h5] at h3; exact h3.symm)
      rw [show (a' : Int) - 1 = a by omega, h5] at this
      rw [h5]; exact this
    · have := hor a b (by omega) (by omega) (by omega) (by rw [h4, h5] at h3; exact h3)
      rw [h4, h5]; exact this.symm
    · have := hor a' b' (by omega) (by omega) (by omega) (by rw [show (b' : Int) - 1 = b by omega, h4]; rw [h4] at h3; exact h3.symm)
      rw [show (b' : Int) - 1 = b by omega, h4] at this
      rw [h4]; exact this
theorem pc_cell {c : Cut} (ok : OkC c) {i : Nat} (hi : i < W c * H c) : ∃ p, inG c p ∧ fcI (W c) (H c) p.1 p.2 = i ∧ pcFE c i = pcOf c p := by
  obtain ⟨hW, hH⟩ := WH_eq ok
  have hw := ok.w
  have h1 : i % W c < W c := Nat.mod_lt _ (by omega)
  have h2 : i / W c < H c := by rw [Nat.div_lt_iff_lt_mul (by omega), Nat.mul_comm]; exact hi
  refine ⟨(((i % W c : Nat) : Int), ((i / W c : Nat) : Int)), ?_, ?_, ?_⟩
  · rw [inG_bd]
    dsimp only
    generalize i % W c = a at *
    generalize i / W c = b at *
    omega
  · have hdm := Nat.div_add_mod i (W c)
    generalize i % W c = a at *
    generalize i / W c = b at *
    unfold fcI
    dsimp only
    rw [if_pos (by omega)]
    have : ((b * W c + a : Nat) : Int) = (b : Int) * (W c : Int) + (a : Int) := by push_cast; rfl
    rw [Nat.mul_comm] at hdm
    omega
  · unfold pcFE
    rw [if_pos hi]; rfl
theorem lab_pc {c : Cut} (g : GoodC c) {i j : Nat} (hi : i < W c * H c + 1) (hj : j < W c * H c + 1) (h : pcFE c i = pcFE c j) : lab ((sameL c (ptN c)).map (fcE (W c) (H c))) i = lab ((sameL c (ptN c)).map (fcE (W c) (H c))) j := by
  have out : ∀ k : Nat, ¬ k < W c * H c → pcFE c k = -1 := fun k hk => by unfold pcFE; rw [if_neg hk]
  by_cases h1 : i < W c * H c
  · obtain ⟨p, gp, ep, hp⟩ := pc_cell g.ok h1
    have hb := g.ok.at_bd p.1 p.2
    have hp0 : 0 ≤ pcOf c p := (inG_iff g.ok p).1 gp
    by_cases h2 : j < W c * H c
    · obtain ⟨q, gq, eq, hq⟩ := pc_cell g.ok h2
      rw [hp, hq] at h
      have := reach_lab g.ok gp (g.whole (pcOf c p) hp0 (at_great g.ok _ _) p q gp gq rfl h.symm)
      rw [ep, eq] at this
      exact this
    · rw [out j h2] at h; omega
  · by_cases h2 : j < W c * H c
    · obtain ⟨q, gq, eq, hq⟩ := pc_cell g.ok h2
      have := (inG_iff g.ok q).1 gq
      rw [out i h1] at h
      omega
    · rw [show i = j by omega]
theorem cells_cnt {c : Cut} (g : GoodC c) : kN (lab ((sameL c (ptN c)).map (fcE (W c) (H c)))) (W c * H c + 1) = greatS c + 2 := by
  obtain ⟨hW, hH⟩ := WH_eq g.ok
  have hg := great_bd g.ok
  have hbd : ∀ i, -1 ≤ pcFE c i ∧ pcFE c i ≤ greatS c := fun i => by
    unfold pcFE
    split
    · have h1 := g.ok.at_bd ((i % W c : Nat) : Int) ((i / W c : Nat) : Int)
      exact ⟨h1.1, at_great g.ok _ _⟩
    · omega
  obtain ⟨L, hL⟩ : ∃ L, L = lab ((sameL c (ptN c)).map (fcE (W c) (H c))) := ⟨_, rfl⟩
  have hid : ∀ i, L (L i) = L i := fun i => by rw [hL]; exact lab_idem _ i
  have hlt : ∀ i, i < W c * H c + 1 → L i < W c * H c + 1 := fun i hi => by
    rw [hL]
    exact lab_lt (fun x hx => by
      obtain ⟨y, _, rfl⟩ := List.mem_map.1 hx
      exact fcE_lt _ _ y) hi
  have hpl : ∀ i, pcFE c i = pcFE c (L i) := fun i => by rw [hL]; exact lab_fun (pcFE c) _ (pc_same g.ok) i
  have hsame : ∀ i j, i < W c * H c + 1 → j < W c * H c + 1 → pcFE c i = pcFE c j → L i = L j := fun i j hi hj h => by rw [hL]; exact lab_pc g hi hj h
  rw [← hL]
  unfold kN
  rw [sumTo_congr (g := fun i => sumTo (fun v : Nat => b2i (L i == i) * b2i (pcFE c i == (v : Int) + -1)) ((greatS c).toNat + 2)) fun i _ => by
    rw [sumTo_mul, hit_one (by have := hbd i; omega), Int.mul_one]]
  rw [sumTo_swap, sumTo_congr (g := fun _ => (1 : Int)) fun v hv => ?_, sumTo_const]
  · omega
  · have hex : ∃ j, j < W c * H c + 1 ∧ pcFE c j = (v : Int) + -1 := by
      by_cases hv0 : v = 0
      · exact ⟨W c * H c, by omega, by unfold pcFE; rw [if_neg (by omega)]; omega⟩
      · obtain ⟨p, gp, ep⟩ := g.cells ((v : Int) + -1) (by omega) (by omega)
        exact ⟨fcI (W c) (H c) p.1 p.2, fcI_lt _ _ _ _, by rw [pc_fc g.ok]; exact ep⟩
    obtain ⟨j, hj, ej⟩ := hex
    have := sumTo_one (f := fun _ => (0 : Int)) (g := fun i => b2i (L i == i) * b2i (pcFE c i == (v : Int) + -1)) (i := L j) (d := 1) (by
      rw [b2i_nat, if_pos (hid j), ← hpl j, ej]; simp [b2i]) (hlt j hj) (fun k hk hne => by
      rw [b2i_nat]
      by_cases h1 : L k = k
      · by_cases h2 : pcFE c k = (v : Int) + -1
        · exact absurd (by rw [← h1]; exact hsame k j hk hj (by rw [h2, ej])) hne
        · have : (pcFE c k == (v : Int) + -1) = false := by simp [h2]
          rw [this]; simp [b2i]
      · rw [if_neg h1, Int.zero_mul])
    rw [this, sumTo_zero fun _ _ => rfl]; rfl
/-! The counts. -/
theorem sum_rowsN (G : Nat → Nat → Int) {w : Nat} (hw : 0 < w) : ∀ h : Nat, sumTo (fun i => G (i % w) (i / w)) (h * w) = sumTo (fun y => sumTo (fun x => G x y) w) h
  | 0 => by rw [Nat.zero_mul]; rfl
  | h + 1 => by
    rw [Nat.add_mul, Nat.one_mul, sumTo_app, sum_rowsN G hw h]
    show _ = sumTo (fun y => sumTo (fun x => G x y) w) h + sumTo (fun x => G x h) w
    congr 1
    refine sumTo_congr fun j hj => ?_
    rw [show (h * w + j) % w = j by rw [Nat.add_comm, Nat.add_mul_mod_self_right, Nat.mod_eq_of_lt hj], show (h * w + j) / w = h by rw [Nat.add_comm, Nat.add_mul_div_right _ _ hw, Nat.div_eq_of_lt hj, Nat.zero_add]]
theorem sum_lt (f : Nat → Bool) (n : Nat) : sumTo (fun x => b2i (decide (x < n) && f x)) (n + 1) = sumTo (fun x => b2i (f x)) n := by
  show sumTo (fun x => b2i (decide (x < n) && f x)) n + b2i (decide (n < n) && f n) = _
  rw [sumTo_congr (g := fun x => b2i (f x)) fun x hx => by rw [decide_eq_true hx, Bool.true_and]]
  simp [b2i]
/-- Edges across, and upright ones. -/
theorem edL_all (w h : Nat) (P : Ed → Bool) : ((edL w h P ((w + 1) * (h + 1))).length : Int) = sumTo (fun y => sumTo (fun x => b2i (P (true, x, y))) w) (h + 1) + sumTo (fun y => sumTo (fun x => b2i (P (false, x, y))) (w + 1)) h := by
  rw [edL_len, Nat.mul_comm, sum_rowsN (fun x y => b2i (decide (x < w) && P (true, x, y)) + b2i (decide (y < h) && P (false, x, y))) (by omega)]
  rw [sumTo_congr fun y _ => sumTo_add (fun x => b2i (decide (x < w) && P (true, x, y))) (fun x => b2i (decide (y < h) && P (false, x, y))) (w + 1), sumTo_add]
  congr 1
  · exact sumTo_congr fun y _ => sum_lt (fun x => P (true, x, y)) w
  · show sumTo (fun y => sumTo (fun x => b2i (decide (y < h) && P (false, x, y))) (w + 1)) h + sumTo (fun x => b2i (decide (h < h) && P (false, x, h))) (w + 1) = _
    rw [sumTo_zero (f := fun x => b2i (decide (h < h) && P (false, x, h))) fun x _ => by simp [b2i], Int.add_zero]
    exact sumTo_congr fun y hy => sumTo_congr fun x _ => by rw [decide_eq_true hy, Bool.true_and]
theorem b2i_not (b : Bool) : b2i (!b) = 1 - b2i b := by cases b <;> rfl
theorem grid_cnt (w h : Nat) (P : Ed → Bool) : (((edL w h P ((w + 1) * (h + 1))).length + (edL w h (fun e => !P e) ((w + 1) * (h + 1))).length : Nat) : Int) = ((w + 1) * (h + 1) + (w * h + 1) : Nat) - 2 := by
  push_cast
  rw [edL_all, edL_all]
  have e1 : sumTo (fun y => sumTo (fun x => b2i (P (true, x, y))) w) (h + 1) + sumTo (fun y => sumTo (fun x => b2i (!P (true, x, y))) w) (h + 1) = ((h : Int) + 1) * w := by
    rw [← sumTo_add, sumTo_congr (g := fun _ => (w : Int)) fun y _ => by
      rw [← sumTo_add, sumTo_congr (g := fun _ => (1 : Int)) fun x _ => by rw [b2i_not]; omega, sumTo_const, Int.mul_one], sumTo_const]
    push_cast; rfl
  have e2 : sumTo (fun y => sumTo (fun x => b2i (P (false, x, y))) (w + 1)) h + sumTo (fun y => sumTo (fun x => b2i (!P (false, x, y))) (w + 1)) h = (h : Int) * ((w : Int) + 1) := by
    rw [← sumTo_add, sumTo_congr (g := fun _ => (w : Int) + 1) fun y _ => by
      rw [← sumTo_add, sumTo_congr (g := fun _ => (1 : Int)) fun x _ => by rw [b2i_not]; omega, sumTo_const, Int.mul_one]; push_cast; rfl, sumTo_const]
  have e3 : ((w : Int) + 1) * ((h : Int) + 1) + ((w : Int) * (h : Int) + 1) - 2 = ((h : Int) + 1) * w + (h : Int) * ((w : Int) + 1) := by
    simp only [Int.add_mul, Int.mul_add, Int.one_mul, Int.mul_one]
    rw [Int.mul_comm (h : Int) (w : Int)]; omega
  omega
def usedB (es : List (Nat × Nat)) (i : Nat) : Bool := es.any fun e => e.1 == i || e.2 == i
/-- What Euler says. -/
theorem euler_cut {c : Cut} (g : GoodC c) : greatS c + 1 = (sepL c (ptN c)).length - sumTo (fun i => b2i (usedB ((sepL c (ptN c)).map (ptE (W c))) i)) (ptN c) + sumTo (fun i => b2i (usedB ((sepL c (ptN c)).map (ptE (W c))) i && (lab ((sepL c (ptN c)).map (ptE (W c))) i == i))) (ptN c) := by
  have h1 := euler_main (w := W c) (h := H c) (S := sepL c (ptN c)) (D := sameL c (ptN c)) (fun x hx => ((edL_mem (Nat.le_refl _) x).1 hx).1) (fun x hx => ((edL_mem (Nat.le_refl _) x).1 hx).1) (edL_nodup (Nat.le_refl _)) (edL_nodup (Nat.le_refl _)) (fun x hx hx2 => by
    have h2 := ((edL_mem (Nat.le_refl _) x).1 hx).2.1
    have h3 := ((edL_mem (Nat.le_refl _) x).1 hx2).2.1
    rw [h3] at h2; cases h2) (grid_cnt (W c) (H c) (sepB c))
  rw [cells_cnt g] at h1
  have h2 : kN (lab ((sepL c (ptN c)).map (ptE (W c)))) ((W c + 1) * (H c + 1)) = sumTo (fun i => b2i (usedB ((sepL c (ptN c)).map (ptE (W c))) i && (lab ((sepL c (ptN c)).map (ptE (W c))) i == i))) (ptN c) + (((W c + 1) * (H c + 1) : Nat) - sumTo (fun i => b2i (usedB ((sepL c (ptN c)).map (ptE (W c))) i)) (ptN c)) := by
    have e : ∀ i, b2i (lab ((sepL c (ptN c)).map (ptE (W c))) i == i) = b2i (usedB ((sepL c (ptN c)).map (ptE (W c))) i && (lab ((sepL c (ptN c)).map (ptE (W c))) i == i)) + (1 + (-1) * b2i (usedB ((sepL c (ptN c)).map (ptE (W c))) i)) := fun i => by
      cases hu : usedB ((sepL c (ptN c)).map (ptE (W c))) i
      · have hown := (lab_own (i := i) (es := (sepL c (ptN c)).map (ptE (W c))) fun x hx => by
          unfold usedB at hu
          rw [← Bool.not_eq_true, List.any_eq_true] at hu
          constructor
          · intro e; exact hu ⟨x, hx, by simp [e]⟩
          · intro e; exact hu ⟨x, hx, by simp [e]⟩).1
        rw [hown]
        simp [b2i]
      · cases lab ((sepL c (ptN c)).map (ptE (W c))) i == i <;> simp [b2i]
    unfold kN
    rw [sumTo_congr fun i _ => e i, sumTo_add, sumTo_add, sumTo_const, sumTo_mul]
    show _ + (((ptN c : Nat) : Int) * 1 + _) = _ + (((ptN c : Nat) : Int) - _)
    rw [Int.mul_one]; unfold ptN; omega
  rw [h2] at h1
  unfold ptN at h1 ⊢
  omega
/-! How many edges there are. -/
theorem len_selfE {c : Cut} (ok : OkC c) : 2 * lenS c = 4 * (c.wide * c.high) - sumTo (fun a : Nat => edgesR c (a : Int) (a : Int)) ((greatS c).toNat + 1) - 2 * (c.wide + c.high) := by
  have hg := great_bd ok
  have h1 := common_all ok ((greatS c).toNat + 1)
  have e1 : ∀ a : Nat, a < (greatS c).toNat + 1 → sumTo (fun b : Nat => othE c (a : Int) (b : Int)) ((greatS c).toNat + 1) = 4 * (cellsS c (a : Int) : Int) + ((-1) * edgesR c (a : Int) (a : Int) + (-1) * edgesR c (a : Int) (-1)) := fun a ha => by
    have h2 := oth_all ok (a := (a : Int)) (by omega)
    rw [sumTo_first] at h2
    have e2 : othE c (a : Int) (numK 0) = edgesR c (a : Int) (-1) := by
      unfold othE numK
      rw [if_pos (by omega)]; rfl
    rw [e2, sumTo_congr (g := fun b : Nat => othE c (a : Int) (b : Int)) fun k _ => by rw [show numK (k + 1) = (k : Int) by unfold numK; omega]] at h2
    omega
  rw [sumTo_congr e1, sumTo_add, sumTo_add, sumTo_mul, sumTo_mul, sumTo_mul, cells_all ok, border_all ok] at h1
  show 2 * sumTo (fun a : Nat => sumTo (fun b : Nat => edgesR c (a : Int) (b : Int)) a) ((greatS c).toNat + 1) = _
  omega
def hsI (c : Cut) (x y : Nat) : Int := b2i (sepB c (true, x, y))
def vsI (c : Cut) (x y : Nat) : Int := b2i (sepB c (false, x, y))
theorem vs_end {c : Cut} (ok : OkC c) {y : Nat} (hy : y < H c) : vsI c 0 y = 1 ∧ vsI c (W c) y = 1 := by
  obtain ⟨hW, hH⟩ := WH_eq ok
  have hw := ok.w
  have h1 := at_in ok (x := 0) (y := (y : Int)) (by omega)
  have h2 := at_in ok (x := (W c : Int) - 1) (y := (y : Int)) (by omega)
  unfold vsI sepB
  simp only [Bool.false_eq_true, if_false]
  constructor
  · rw [show at2 c (((0 : Nat) : Int) - 1) (y : Int) = -1 from at_out (by omega)]
    have : ((-1 : Int) != at2 c ((0 : Nat) : Int) (y : Int)) = true := by rw [bne_iff_ne]; exact fun e => h1 e.symm
    rw [this]; rfl
  · rw [show at2 c ((W c : Nat) : Int) (y : Int) = -1 from at_out (by omega)]
    have : (at2 c ((W c : Int) - 1) (y : Int) != (-1 : Int)) = true := by rw [bne_iff_ne]; exact h2
    rw [this]; rfl
theorem hs_end {c : Cut} (ok : OkC c) {x : Nat} (hx : x < W c) : hsI c x 0 = 1 ∧ hsI c x (H c) = 1 := by
  obtain ⟨hW, hH⟩ := WH_eq ok
  have hh := ok.h
  have h1 := at_in ok (x := (x : Int)) (y := 0) (by omega)
  have h2 := at_in ok (x := (x : Int)) (y := (H c : Int) - 1) (by omega)
  unfold hsI sepB
  simp only [if_true]
  constructor
  · rw [show at2 c (x : Int) (((0 : Nat) : Int) - 1) = -1 from at_out (by omega)]
    have : ((-1 : Int) != at2 c (x : Int) ((0 : Nat) : Int)) = true := by rw [bne_iff_ne]; exact fun e => h1 e.symm
    rw [this]; rfl
  · rw [show at2 c (x : Int) ((H c : Nat) : Int) = -1 from at_out (by omega)]
    have : (at2 c (x : Int) ((H c : Int) - 1) != (-1 : Int)) = true := by rw [bne_iff_ne]; exact h2
    rw [this]; rfl
/-- A sum of neighbours: all twice, but for both ends. -/
theorem sum_two (f : Nat → Int) (n : Nat) : sumTo (fun x => f x + f (x + 1)) n = 2 * sumTo f (n + 1) - f 0 - f n := by
  have h1 := sumTo_first f n
  have h2 : sumTo f (n + 1) = sumTo f n + f n := rfl
  rw [sumTo_add]; omega
theorem same_cell {c : Cut} (ok : OkC c) {x y : Nat} (hx : x < W c) (hy : y < H c) : sumTo (fun a : Nat => cellE c (x : Int) (y : Int) (a : Int) (a : Int)) ((greatS c).toNat + 1) = 4 + (-1) * ((vsI c x y + vsI c (x + 1) y) + (hsI c x y + hsI c x (y + 1))) := by
  obtain ⟨hW, hH⟩ := WH_eq ok
  have hg := great_bd ok
  have hin := at_in ok (x := (x : Int)) (y := (y : Int)) (by omega)
  have hb := ok.at_bd (x : Int) (y : Int)
  have hgr := at_great ok (x : Int) (y : Int)
  obtain ⟨a, ha⟩ : ∃ a : Nat, (a : Int) = at2 c (x : Int) (y : Int) := ⟨(at2 c (x : Int) (y : Int)).toNat, by omega⟩
  have := sumTo_one (f := fun _ => (0 : Int)) (g := fun a : Nat => cellE c (x : Int) (y : Int) (a : Int) (a : Int)) (i := a) (d := 4 + (-1) * ((vsI c x y + vsI c (x + 1) y) + (hsI c x y + hsI c x (y + 1)))) (by
    unfold cellE vsI hsI sepB
    rw [if_pos ha.symm]
    simp only [Bool.false_eq_true, if_false, if_true]
    rw [show (((x + 1 : Nat)) : Int) - 1 = (x : Int) by omega, show (((y + 1 : Nat)) : Int) - 1 = (y : Int) by omega, show (((x + 1 : Nat)) : Int) = (x : Int) + 1 by omega, show (((y + 1 : Nat)) : Int) = (y : Int) + 1 by omega, ha]
    have key : ∀ u v : Int, b2i (u == v) = 1 - b2i (u != v) := fun u v => by by_cases h : u = v <;> simp [h, b2i]
    have key2 : ∀ u v : Int, b2i (u == v) = 1 - b2i (v != u) := fun u v => by
      rw [key]
      by_cases h : u = v
      · simp [h, b2i]
      · have h' : ¬ v = u := fun e => h e.symm
        simp [h, h', b2i]
    rw [key (at2 c ((x : Int) - 1) (y : Int)), key2 (at2 c ((x : Int) + 1) (y : Int)), key (at2 c (x : Int) ((y : Int) - 1)), key2 (at2 c (x : Int) ((y : Int) + 1))]
    omega) (n := (greatS c).toNat + 1) (by omega) (fun k _ hk => by
    unfold cellE
    rw [if_neg (by omega)])
  rw [this, sumTo_zero fun _ _ => rfl]; omega
theorem sep_cnt {c : Cut} (ok : OkC c) : ((sepL c (ptN c)).length : Int) = lenS c + 2 * (c.wide + c.high) ∧ ((sepL c (ptN c)).length : Int) = sumTo (fun y => sumTo (fun x => hsI c x y) (W c)) (H c + 1) + sumTo (fun y => sumTo (fun x => vsI c x y) (W c + 1)) (H c) := by
  obtain ⟨hW, hH⟩ := WH_eq ok
  have h1 := len_selfE ok
  have h0 : ((sepL c (ptN c)).length : Int) = sumTo (fun y => sumTo (fun x => hsI c x y) (W c)) (H c + 1) + sumTo (fun y => sumTo (fun x => vsI c x y) (W c + 1)) (H c) := edL_all (W c) (H c) (sepB c)
  have h2 : sumTo (fun a : Nat => edgesR c (a : Int) (a : Int)) ((greatS c).toNat + 1) = 4 * (c.wide * c.high) - 2 * ((sepL c (ptN c)).length : Int) + 2 * (c.wide + c.high) := by
    unfold edgesR
    rw [sumTo_swap, sumTo_congr (g := fun y => 4 * c.wide + (-1) * (sumTo (fun x => vsI c x y + vsI c (x + 1) y) (W c) + sumTo (fun x => hsI c x y + hsI c x (y + 1)) (W c))) fun y hy => by
      rw [sumTo_swap, sumTo_congr fun x hx => same_cell ok hx hy, sumTo_add, sumTo_const, sumTo_mul, sumTo_add, hW, Int.mul_comm c.wide 4]]
    rw [sumTo_add, sumTo_const, sumTo_mul, sumTo_add, hH]
    have v1 : sumTo (fun y => sumTo (fun x => vsI c x y + vsI c (x + 1) y) (W c)) (H c) = 2 * sumTo (fun y => sumTo (fun x => vsI c x y) (W c + 1)) (H c) + (-2) * c.high := by
      rw [sumTo_congr (g := fun y => 2 * sumTo (fun x => vsI c x y) (W c + 1) + -2) fun y hy => by
        rw [sum_two (fun x => vsI c x y) (W c), (vs_end ok hy).1, (vs_end ok hy).2]; omega]
      rw [sumTo_add, sumTo_mul, sumTo_const, hH]; omega
    have v2 : sumTo (fun y => sumTo (fun x => hsI c x y + hsI c x (y + 1)) (W c)) (H c) = 2 * sumTo (fun y => sumTo (fun x => hsI c x y) (W c)) (H c + 1) + (-2) * c.wide := by
      rw [sumTo_swap, sumTo_congr (g := fun x => 2 * sumTo (fun y => hsI c x y) (H c + 1) + -2) fun x hx => by
        rw [sum_two (fun y => hsI c x y) (H c), (hs_end ok hx).1, (hs_end ok hx).2]; omega]
      rw [sumTo_add, sumTo_mul, sumTo_const, hW, sumTo_swap (fun y x => hsI c x y)]; omega
    rw [v1, v2, h0]
    rw [show c.high * (4 * c.wide) = 4 * (c.wide * c.high) by rw [Int.mul_comm c.high, Int.mul_assoc]]
    omega
  exact ⟨by omega, h0⟩
/-! The border; joints, bends and starts. -/
def bordB (c : Cut) (e : Ed) : Bool := if e.1 = true then decide (e.2.2 = 0) || decide (e.2.2 = H c) else decide (e.2.1 = 0) || decide (e.2.1 = W c)
def bordL (c : Cut) (n : Nat) : List Ed := edL (W c) (H c) (fun e => sepB c e && bordB c e) n
theorem two_ends {n : Nat} (hn : 1 ≤ n) (f : Nat → Int) : sumTo (fun x => f x * b2i (decide (x = 0) || decide (x = n))) (n + 1) = f 0 + f n := by
  rw [sumTo_ends _ n hn, sumTo_zero fun x hx => by
    have h1 : ¬ x + 1 = n := by omega
    simp [b2i, h1]]
  have h2 : ¬ n = 0 := by omega
  simp [b2i]
theorem b2i_andE (p q : Bool) : b2i (p && q) = b2i p * b2i q := by cases p <;> cases q <;> rfl
theorem bord_t (c : Cut) (x y : Nat) : bordB c (true, x, y) = (decide (y = 0) || decide (y = H c)) := by unfold bordB; rw [if_pos rfl]
theorem bord_f (c : Cut) (x y : Nat) : bordB c (false, x, y) = (decide (x = 0) || decide (x = W c)) := by unfold bordB; rw [if_neg (by simp)]
theorem bord_cnt {c : Cut} (ok : OkC c) : ((bordL c (ptN c)).length : Int) = 2 * (c.wide + c.high) := by
  obtain ⟨hW, hH⟩ := WH_eq ok
  have hw := ok.w
  have hh := ok.h
  have h0 : ((bordL c (ptN c)).length : Int) = sumTo (fun y => sumTo (fun x => b2i (sepB c (true, x, y) && bordB c (true, x, y))) (W c)) (H c + 1) + sumTo (fun y => sumTo (fun x => b2i (sepB c (false, x, y) && bordB c (false, x, y))) (W c + 1)) (H c) := edL_all (W c) (H c) (fun e => sepB c e && bordB c e)
  have v1 : sumTo (fun y => sumTo (fun x => b2i (sepB c (true, x, y) && bordB c (true, x, y))) (W c)) (H c + 1) = 2 * c.wide := by
    rw [sumTo_swap, sumTo_congr (g := fun _ => (2 : Int)) fun x hx => by
      rw [sumTo_congr (g := fun y => hsI c x y * b2i (decide (y = 0) || decide (y = H c))) fun y _ => by rw [bord_t, b2i_andE]; rfl, two_ends (by omega), (hs_end ok hx).1, (hs_end ok hx).2]; rfl, sumTo_const, hW]; omega
  have v2 : sumTo (fun y => sumTo (fun x => b2i (sepB c (false, x, y) && bordB c (false, x, y))) (W c + 1)) (H c) = 2 * c.high := by
    rw [sumTo_congr (g := fun _ => (2 : Int)) fun y hy => by
      rw [sumTo_congr (g := fun x => vsI c x y * b2i (decide (x = 0) || decide (x = W c))) fun x _ => by rw [bord_f, b2i_andE]; rfl, two_ends (by omega), (vs_end ok hy).1, (vs_end ok hy).2]; rfl, sumTo_const, hH]; omega
  omega
theorem sum_nn {f : Nat → Int} (h : ∀ k, 0 ≤ f k) (n : Nat) : 0 ≤ sumTo f n := by
  induction n with
  | zero => exact Int.le_refl _
  | succ n ih => have := h n; show 0 ≤ sumTo f n + f n; omega
theorem sum_le {f g : Nat → Int} : ∀ {n : Nat}, (∀ k, k < n → f k ≤ g k) → sumTo f n ≤ sumTo g n
  | 0, _ => Int.le_refl _
  | n + 1, h => by
    have h1 := sum_le (f := f) (g := g) (n := n) fun k hk => h k (by omega)
    have h2 := h n (by omega)
    show sumTo f n + f n ≤ sumTo g n + g n
    omega
theorem b2i_bdE (b : Bool) : 0 ≤ b2i b ∧ b2i b ≤ 1 := by cases b <;> decide
theorem many_nn (c : Cut) (x y : Int) : 0 ≤ manyP c x y := by
  unfold manyP
  have h1 := b2i_bdE (upB c x y)
  have h2 := b2i_bdE (rightB c x y)
  have h3 := b2i_bdE (downB c x y)
  have h4 := b2i_bdE (leftB c x y)
  omega
def vI (c : Cut) (x y : Int) : Int := b2i (cutB (at2 c (x - 1) y) (at2 c x y))
def hI (c : Cut) (x y : Int) : Int := b2i (cutB (at2 c x (y - 1)) (at2 c x y))
theorem cutB_symE (m k : Int) : cutB m k = cutB k m := by
  unfold cutB
  rw [Bool.eq_iff_iff, decide_eq_true_eq, decide_eq_true_eq]
  omega
theorem many_eq (c : Cut) (x y : Int) : manyP c x y = (vI c x (y - 1) + vI c x y) + (hI c (x - 1) y + hI c x y) := by
  unfold manyP upB rightB downB leftB vI hI cornA cornB cornF cornD
  rw [cutB_symE (at2 c x (y - 1)) (at2 c (x - 1) (y - 1)), cutB_symE (at2 c x y) (at2 c x (y - 1))]; omega
theorem cutB_none (m k : Int) (h : m = -1 ∨ k = -1) : b2i (cutB m k) = 0 := by
  unfold cutB b2i
  rw [decide_eq_false (by omega)]; rfl
theorem sum_pre (f : Int → Int) (n : Nat) (h0 : f (-1) = 0) (hn : f (n : Int) = 0) : sumTo (fun x : Nat => f ((x : Int) - 1) + f (x : Int)) (n + 1) = 2 * sumTo (fun x : Nat => f (x : Int)) n := by
  rw [sumTo_add, sumTo_first, show f (((0 : Nat) : Int) - 1) = 0 from h0, sumTo_congr (g := fun x : Nat => f (x : Int)) fun k _ => by congr 1; omega]
  show 0 + _ + (sumTo (fun x : Nat => f (x : Int)) n + f (n : Int)) = _
  rw [hn]; omega
theorem many_all {c : Cut} (ok : OkC c) : overP c (manyP c) = 2 * lenS c := by
  obtain ⟨hW, hH⟩ := WH_eq ok
  have hw := ok.w
  have hh := ok.h
  obtain ⟨h1, h2⟩ := sep_cnt ok
  have vin : ∀ x y : Nat, 1 ≤ x → x < W c → y < H c → vI c (x : Int) (y : Int) = vsI c x y := fun x y h3 h4 h5 => by
    unfold vI vsI sepB
    simp only [Bool.false_eq_true, if_false]
    rw [(cutB_ne (at_in ok (by omega)) (at_in ok (by omega))).2]
  have hin : ∀ x y : Nat, x < W c → 1 ≤ y → y < H c → hI c (x : Int) (y : Int) = hsI c x y := fun x y h3 h4 h5 => by
    unfold hI hsI sepB
    simp only [if_true]
    rw [(cutB_ne (at_in ok (by omega)) (at_in ok (by omega))).2]
  have vz : ∀ x y : Int, (x ≤ 0 ∨ c.wide ≤ x ∨ y < 0 ∨ c.high ≤ y) → vI c x y = 0 := fun x y h3 => by
    unfold vI
    refine cutB_none _ _ ?_
    by_cases h4 : x ≤ 0
    · exact .inl (at_out (by omega))
    · exact .inr (at_out (by omega))
  have hz : ∀ x y : Int, (y ≤ 0 ∨ c.high ≤ y ∨ x < 0 ∨ c.wide ≤ x) → hI c x y = 0 := fun x y h3 => by
    unfold hI
    refine cutB_none _ _ ?_
    by_cases h4 : y ≤ 0
    · exact .inl (at_out (by omega))
    · exact .inr (at_out (by omega))
  have v1 : sumTo (fun y : Nat => sumTo (fun x : Nat => vI c (x : Int) ((y : Int) - 1) + vI c (x : Int) (y : Int)) (W c + 1)) (H c + 1) = 2 * (sumTo (fun y => sumTo (fun x => vsI c x y) (W c + 1)) (H c) + (-2) * c.high) := by
    rw [sumTo_swap, sumTo_congr (g := fun x : Nat => 2 * sumTo (fun y : Nat => vI c (x : Int) (y : Int)) (H c)) fun x _ => sum_pre (fun y => vI c (x : Int) y) (H c) (vz _ _ (by omega)) (vz _ _ (by omega)), sumTo_mul, ← sumTo_swap (fun y x => vI c (x : Int) (y : Int))]
    congr 1
    rw [sumTo_congr (g := fun y => sumTo (fun x => vsI c x y) (W c + 1) + -2) fun y hy => by
      rw [sumTo_ends _ (W c) (by omega), sumTo_ends (fun x => vsI c x y) (W c) (by omega), (vs_end ok hy).1, (vs_end ok hy).2, vz _ _ (by omega), vz _ _ (by omega), sumTo_congr fun k hk => vin (k + 1) y (by omega) (by omega) hy]; omega]
    rw [sumTo_add, sumTo_const, hH]; omega
  have v2 : sumTo (fun y : Nat => sumTo (fun x : Nat => hI c ((x : Int) - 1) (y : Int) + hI c (x : Int) (y : Int)) (W c + 1)) (H c + 1) = 2 * (sumTo (fun y => sumTo (fun x => hsI c x y) (W c)) (H c + 1) + (-2) * c.wide) := by
    rw [sumTo_congr (g := fun y : Nat => 2 * sumTo (fun x : Nat => hI c (x : Int) (y : Int)) (W c)) fun y _ => sum_pre (fun x => hI c x (y : Int)) (W c) (hz _ _ (by omega)) (hz _ _ (by omega)), sumTo_mul]
    congr 1
    rw [sumTo_swap, sumTo_congr (g := fun x => sumTo (fun y => hsI c x y) (H c + 1) + -2) fun x hx => by
      rw [sumTo_ends _ (H c) (by omega), sumTo_ends (fun y => hsI c x y) (H c) (by omega), (hs_end ok hx).1, (hs_end ok hx).2, hz _ _ (by omega), hz _ _ (by omega), sumTo_congr fun k hk => hin x (k + 1) hx (by omega) (by omega)]; omega]
    rw [sumTo_add, sumTo_const, hW, sumTo_swap (fun y x => hsI c x y)]; omega
  unfold overP
  rw [sumTo_congr fun y _ => by rw [sumTo_congr fun x _ => many_eq c (x : Int) (y : Int), sumTo_add], sumTo_add, v1, v2]
  omega
theorem joints_le {c : Cut} (ok : OkC c) : (0 ≤ overP c (jointP c) ∧ overP c (jointP c) ≤ 2 * lenS c) ∧ 0 ≤ overP c (bendP c) ∧ overP c (startP c) ≤ 2 * (c.wide + c.high) := by
  obtain ⟨hW, hH⟩ := WH_eq ok
  have hw := ok.w
  have hh := ok.h
  refine ⟨⟨sum_nn (fun _ => sum_nn (fun _ => by unfold jointP; split <;> (try split) <;> omega) _) _, ?_⟩, sum_nn (fun _ => sum_nn (fun _ => by unfold bendP; split <;> (try split) <;> (try split) <;> omega) _) _, ?_⟩
  · rw [← many_all ok]
    refine sum_le fun y _ => sum_le fun x _ => ?_
    have := many_nn c (x : Int) (y : Int)
    unfold jointP
    split
    · omega
    · split <;> omega
  · rw [starts_eq ok]
    unfold startsR
    have b1 := sumTo_bd (f := fun x : Nat => b2i (at2 c ((x + 1 : Nat) - 1 : Int) 0 != at2 c ((x + 1 : Nat) : Int) 0) + b2i (at2 c ((x + 1 : Nat) - 1 : Int) (c.high - 1) != at2 c ((x + 1 : Nat) : Int) (c.high - 1))) (B := 2) (fun k => by
      have h1 := b2i_bdE (at2 c ((k + 1 : Nat) - 1 : Int) 0 != at2 c ((k + 1 : Nat) : Int) 0)
      have h2 := b2i_bdE (at2 c ((k + 1 : Nat) - 1 : Int) (c.high - 1) != at2 c ((k + 1 : Nat) : Int) (c.high - 1))
      omega) (W c - 1)
    have b2 := sumTo_bd (f := fun y : Nat => b2i (at2 c 0 ((y + 1 : Nat) - 1 : Int) != at2 c 0 ((y + 1 : Nat) : Int)) + b2i (at2 c (c.wide - 1) ((y + 1 : Nat) - 1 : Int) != at2 c (c.wide - 1) ((y + 1 : Nat) : Int))) (B := 2) (fun k => by
      have h1 := b2i_bdE (at2 c 0 ((k + 1 : Nat) - 1 : Int) != at2 c 0 ((k + 1 : Nat) : Int))
      have h2 := b2i_bdE (at2 c (c.wide - 1) ((k + 1 : Nat) - 1 : Int) != at2 c (c.wide - 1) ((k + 1 : Nat) : Int))
      omega) (H c - 1)
    omega
end Go.Proofs.Ytjlicbdnppodgaa
