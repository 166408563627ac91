import Derived.Test.YtonnemkecppmiaaGreatDoorS0
import Derived.OrdersHeld
namespace Go.Proofs.YtonnemkecppmiaaGreatDoor
open Go.RowKit
/-! A region that draws its order and holds several calls, each of which makes memory, and at most some allocs: one walk for all orders. -/
section
variable {P : Program} {md : Region.Mode} {ops : Array Oper} {Q : Exit → Act → World → Prop} {S0 : World → Prop}
/-- What an operation hands on in a world: a value, and a world that has kept what there was. -/
def Makes1 (P : Program) (r : Result Next) (u : Value) (W : World) : Prop := match r with
  | .ok (.value v) W' => v = u ∧ Below W.heap.size W W'
  | .ok (.enter f args) W' => Calls P f args W' (fun e W'' => e = .returned u ∧ Below W.heap.size W W'')
  | _ => False
def MakesIf (P : Program) (ops : Array Oper) (S0 : World → Prop) (o : Oper) (u : Value) (a : Act) : Prop :=
  (Region.wanted o (yielded ops a.tmps) = true ∧ ∀ W, S0 W → Makes1 P ((execOp a.eval o).run P W) u W) ∨ (Region.wanted o (yielded ops a.tmps) = false ∧ u = undef)
def AllocIf (P : Program) (ops : Array Oper) (S0 : World → Prop) (o : Oper) (vs : Array Value) (t : TypeId) (a : Act) : Prop :=
  Region.wanted o (yielded ops a.tmps) = true ∧ ∀ W, S0 W → (execOp a.eval o).run P W = .ok (.value (.pointer (some ⟨W.heap.size, 0, none⟩))) (W.alloc (.cells vs t))
theorem MakesIf.wpOp {i : Nat} {o : Oper} {u : Value} {a : Act} (hi : ops[i]? = some o) (hy : MakesIf P ops S0 o u a) {K : Act → World → Prop} {W : World} (hS : S0 W)
    (h : ∀ W', Below W.heap.size W W' → K (a.put o.dst u) W') : Go.wpOp P ops Q i K a W := by
  unfold Go.wpOp
  simp only [hi]
  rcases hy with ⟨hw, hv⟩ | ⟨hw, rfl⟩
  · simp only [hw, if_true]
    left
    unfold Oper.wp
    have h1 := hv W hS
    generalize (execOp a.eval o).run P W = r at *
    cases r with
    | ok n W' =>
      cases n with
      | value v =>
        obtain ⟨rfl, h2⟩ : v = u ∧ Below W.heap.size W W' := h1
        exact h W' h2
      | enter f args =>
        have h2 : Calls P f args W' (fun e W'' => e = .returned u ∧ Below W.heap.size W W'') := h1
        exact h2.mono fun e W'' he => by
          obtain ⟨rfl, hb⟩ := he
          exact h W'' hb
      | _ => exact h1.elim
    | halt x W' => exact h1.elim
  · simp only [hw, Bool.false_eq_true, if_false]
    exact h W (Below.refl _ _)
theorem AllocIf.wpOp {i : Nat} {o : Oper} {vs : Array Value} {t : TypeId} {a : Act} (hi : ops[i]? = some o) (hy : AllocIf P ops S0 o vs t a) {K : Act → World → Prop} {W : World} (hS : S0 W)
    (h : K (a.put o.dst (.pointer (some ⟨W.heap.size, 0, none⟩))) (W.alloc (.cells vs t))) : Go.wpOp P ops Q i K a W := by
  unfold Go.wpOp
  simp only [hi]
  simp only [hy.1, if_true, Oper.wp, hy.2 W hS, Oper.upon]
  exact .inl h
theorem MakesIf.same {o : Oper} {u : Value} {a a' : Act} (hy : MakesIf P ops S0 o u a) (he : execOp a'.eval o = execOp a.eval o) (hw : Region.wanted o (yielded ops a'.tmps) = Region.wanted o (yielded ops a.tmps)) : MakesIf P ops S0 o u a' := by
  unfold MakesIf at *
  rw [he, hw]
  exact hy
theorem AllocIf.same {o : Oper} {vs : Array Value} {t : TypeId} {a a' : Act} (hy : AllocIf P ops S0 o vs t a) (he : execOp a'.eval o = execOp a.eval o) (hw : Region.wanted o (yielded ops a'.tmps) = Region.wanted o (yielded ops a.tmps)) : AllocIf P ops S0 o vs t a' := by
  unfold AllocIf at *
  rw [he, hw]
  exact hy
/-- Those that come now wait for all that have come. -/
def Late (md : Region.Mode) (ops : Array Oper) (listed : Array Bool) : Prop := ∀ j ∈ Region.ready md ops listed, ∀ i, listed.getD i false = true → ∃ oj, ops[j]? = some oj ∧ ∃ e ∈ oj.after, Region.binds md e = true ∧ e.on = i
def lateB (md : Region.Mode) (ops : Array Oper) (listed : Array Bool) : Bool := (Region.ready md ops listed).all fun j => (List.range listed.size).all fun i => !listed.getD i false || (match ops[j]? with | some oj => oj.after.any (fun e => Region.binds md e && e.on == i) | none => false)
theorem late_of {listed : Array Bool} (h : lateB md ops listed = true) : Late md ops listed := by
  intro j hj i hi
  unfold lateB at h
  rw [List.all_eq_true] at h
  have h1 := h j hj
  rw [List.all_eq_true] at h1
  have hlt : i < listed.size := by
    rcases Nat.lt_or_ge i listed.size with h' | h'
    · exact h'
    · simp [Array.getElem?_eq_none h'] at hi
  have h2 := h1 i (List.mem_range.2 hlt)
  rw [hi] at h2
  obtain ⟨-, oj, hoj, -⟩ := mem_ready.1 hj
  rw [hoj] at h2
  simp only [Bool.not_true, Bool.false_or, Array.any_eq_true'] at h2
  obtain ⟨e, he, hb⟩ := h2
  rw [Bool.and_eq_true, beq_iff_eq] at hb
  exact ⟨oj, hoj, e, he, hb.1, hb.2⟩
def GG (P : Program) (md : Region.Mode) (ops : Array Oper) (Q : Exit → Act → World → Prop) (S0 : World → Prop) : Nat → (World → Prop) → Array Bool → Act → Prop
  | 0, T, listed, a => Region.ready md ops listed = [] ∧ ∀ W, T W → Q .normal a W
  | fuel + 1, T, listed, a => (Late md ops listed ∧ ∀ W, T W → wpAnyH P md ops Q (fun _ => True) (fuel + 1) listed a W) ∨
    (Region.ready md ops listed ≠ [] ∧ ∀ j ∈ Region.ready md ops listed, ∃ oj, ops[j]? = some oj ∧
      ((∃ u, MakesIf P ops S0 oj u a ∧ GG P md ops Q S0 fuel T (listed.setIfInBounds j true) (a.put oj.dst u)) ∨
       (∃ vs t, AllocIf P ops S0 oj vs t a ∧ ∀ g, (∃ W0, T W0 ∧ W0.heap.size = g) → GG P md ops Q S0 fuel (fun W => T W ∧ Bx W g vs.toList) (listed.setIfInBounds j true) (a.put oj.dst (.pointer (some ⟨g, 0, none⟩))))))
theorem GG.sound : ∀ (fuel : Nat) (T : World → Prop) (listed : Array Bool) (a : Act), (∀ W W', T W → Below W.heap.size W W' → T W') → (∀ W, T W → S0 W) → GG P md ops Q S0 fuel T listed a → ∀ W, T W → wpAnyH P md ops Q (fun _ => True) fuel listed a W
  | 0, T, listed, a, _, _, h, W, hT => ⟨h.1, h.2 W hT⟩
  | fuel + 1, T, listed, a, hst, hS, h, W, hT => by
    rcases h with ⟨-, h⟩ | ⟨hne, h⟩
    · exact h W hT
    · refine ⟨fun h0 => absurd h0 hne, fun j hj => ?_⟩
      obtain ⟨oj, hoj, ⟨u, hy, hg⟩ | ⟨vs, t, hy, hg⟩⟩ := h j hj
      · exact hy.wpOp hoj (hS W hT) fun W' hb => ⟨trivial, GG.sound fuel T _ _ hst hS hg W' (hst W W' hT hb)⟩
      · refine hy.wpOp hoj (hS W hT) ⟨trivial, ?_⟩
        exact GG.sound fuel (fun W' => T W' ∧ Bx W' W.heap.size vs.toList) _ _ (fun W1 W2 h1 hb => ⟨hst W1 W2 h1.1 hb, h1.2.next hb⟩) (fun W1 h1 => hS W1 h1.1) (hg W.heap.size ⟨W, hT, rfl⟩) _ ⟨hst W _ hT (nxA _ _), Bx.new _ _ _⟩
theorem GG.take_ {i : Nat} {oi : Oper} {v : Value} (hi : ops[i]? = some oi) (hsel : ∀ (j : Nat) (o : Oper) cs b, ops[j]? = some o → o.op ≠ .select cs b) :
    ∀ (fuel : Nat) (T : World → Prop) (listed : Array Bool) (a : Act),
      (∀ j oj, ops[j]? = some oj → j ≠ i → listed.getD j true = false → (∀ e ∈ oj.after, Region.binds md e = true → e.on ≠ i) → oi.apart ops oj = true) →
      i ∈ Region.ready md ops listed → MakesIf P ops S0 oi v a →
      GG P md ops Q S0 fuel T (listed.setIfInBounds i true) (a.put oi.dst v) → GG P md ops Q S0 (fuel + 1) T listed a := by
  intro fuel
  induction fuel with
  | zero =>
    intro T listed a _ hr hy H
    refine .inr ⟨fun h => (by rw [h] at hr; cases hr), fun j hj => ?_⟩
    by_cases hji : j = i
    · subst hji; exact ⟨oi, hi, .inl ⟨v, hy, H⟩⟩
    · have := ready_mono hj hji
      rw [H.1] at this
      cases this
  | succ fuel ih =>
    intro T listed a hfree hr hy H
    refine .inr ⟨fun h => (by rw [h] at hr; cases hr), fun j hj => ?_⟩
    by_cases hji : j = i
    · subst hji; exact ⟨oi, hi, .inl ⟨v, hy, H⟩⟩
    · obtain ⟨hjun, oj, hoj, hall⟩ := mem_ready.1 hj
      have hnot : ∀ e ∈ oj.after, Region.binds md e = true → e.on ≠ i := fun e he hb heq => by
        have h1 := hall e he hb
        have h0 := (mem_ready.1 hr).1
        rw [heq] at h1
        rcases Nat.lt_or_ge i listed.size with h' | h'
        · simp [h'] at h0 h1; rw [h0] at h1; cases h1
        · simp [Array.getElem?_eq_none h'] at h1
      have hap := hfree j oj hoj hji hjun hnot
      obtain ⟨a1, a2, a3⟩ := Oper.apart_spec hap
      have hsi := fun cs b => hsel i oi cs b hi
      have hsj := fun cs b => hsel j oj cs b hoj
      have hfree' : ∀ k ok, ops[k]? = some ok → k ≠ i → (listed.setIfInBounds j true).getD k true = false →
          (∀ e ∈ ok.after, Region.binds md e = true → e.on ≠ i) → oi.apart ops ok = true := fun k ok hk hki hun hno => by
        refine hfree k ok hk hki ?_ hno
        by_cases hjk : j = k
        · subst hjk; exact hjun
        · rw [getD_set_ne true hjk] at hun; exact hun
      have keep : ∀ u, MakesIf P ops S0 oi v (a.put oj.dst u) := fun u => hy.same (execOp_put oi hsi a oj.dst u a3) (wanted_put oi a oj.dst u a3)
      rcases H with ⟨hl, -⟩ | ⟨-, H⟩
      · obtain ⟨oj', hoj', e, he, hb, hon⟩ := hl j (ready_mono hj hji) i (by
          have h0 := (mem_ready.1 hr).1
          rcases Nat.lt_or_ge i listed.size with h' | h'
          · simp [h']
          · simp [Array.getElem?_eq_none h'] at h0)
        rw [hoj] at hoj'
        injection hoj' with hoj'
        subst hoj'
        exact absurd hon (hnot e he hb)
      · obtain ⟨oj', hoj', hcase⟩ := H j (ready_mono hj hji)
        rw [hoj] at hoj'
        injection hoj' with hoj'
        subst hoj'
        refine ⟨oj, hoj, ?_⟩
        rcases hcase with ⟨u, hu, hg⟩ | ⟨vs, t, hu, hg⟩
        · refine .inl ⟨u, hu.same (execOp_put oj hsj a oi.dst v a1).symm (wanted_put oj a oi.dst v a1).symm, ih T _ _ hfree' (ready_mono hr (Ne.symm hji)) (keep u) ?_⟩
          rw [Array.setIfInBounds_comm _ _ hji, ← Act.put_comm a v u a2]
          exact hg
        · refine .inr ⟨vs, t, hu.same (execOp_put oj hsj a oi.dst v a1).symm (wanted_put oj a oi.dst v a1).symm, fun g h0 => ih _ _ _ hfree' (ready_mono hr (Ne.symm hji)) (keep _) ?_⟩
          rw [Array.setIfInBounds_comm _ _ hji, ← Act.put_comm a v _ a2]
          exact hg g h0
/-- Take number i first. -/
theorem gtake {i : Nat} {oi : Oper} {v : Value} {fuel : Nat} {T : World → Prop} {listed : Array Bool} {a : Act} (hi : ops.toList[i]? = some oi)
    (hs : Region.noSelect ops = true) (hf : Region.free md ops listed i = true) (hr : (Region.ready md ops listed).contains i = true) (hy : MakesIf P ops S0 oi v a)
    (h : GG P md ops Q S0 fuel T (listed.setIfInBounds i true) (a.put oi.dst v)) : GG P md ops Q S0 (fuel + 1) T listed a :=
  GG.take_ (by simpa using hi) (Region.noSelect_spec hs) fuel T listed a (Region.free_spec (by simpa using hi) hf) (by simpa using hr) hy h
/-- The one that is left lays an object. -/
theorem galloc {i : Nat} {oi : Oper} {vs : Array Value} {t : TypeId} {fuel : Nat} {T : World → Prop} {listed : Array Bool} {a : Act} (hi : ops.toList[i]? = some oi)
    (hr : Region.ready md ops listed = [i]) (hy : AllocIf P ops S0 oi vs t a) (h : ∀ g, (∃ W0, T W0 ∧ W0.heap.size = g) → GG P md ops Q S0 fuel (fun W => T W ∧ Bx W g vs.toList) (listed.setIfInBounds i true) (a.put oi.dst (.pointer (some ⟨g, 0, none⟩)))) : GG P md ops Q S0 (fuel + 1) T listed a :=
  .inr ⟨by rw [hr]; simp, fun j hj => by rw [hr, List.mem_singleton] at hj; subst hj; exact ⟨oi, by simpa using hi, .inr ⟨vs, t, hy, h⟩⟩⟩
/-- What an operation does that yields without writing. -/
theorem MakesIf.yields {o : Oper} {u : Value} {a : Act} (h : YieldsIf P ops S0 o u a) : MakesIf P ops S0 o u a :=
  h.imp (fun ⟨hw, hv⟩ => ⟨hw, fun W hS => by rw [hv W hS]; exact ⟨rfl, Below.refl _ _⟩⟩) id
theorem glate {fuel : Nat} {T : World → Prop} {listed : Array Bool} {a : Act} (hl : Late md ops listed) (h : ∀ W, T W → wpAnyH P md ops Q (fun _ => True) (fuel + 1) listed a W) : GG P md ops Q S0 (fuel + 1) T listed a := .inl ⟨hl, h⟩
theorem gdone {T : World → Prop} {listed : Array Bool} {a : Act} (hr : Region.ready md ops listed = []) (h : ∀ W, T W → Q .normal a W) : GG P md ops Q S0 0 T listed a := ⟨hr, h⟩
end
end Go.Proofs.YtonnemkecppmiaaGreatDoor
