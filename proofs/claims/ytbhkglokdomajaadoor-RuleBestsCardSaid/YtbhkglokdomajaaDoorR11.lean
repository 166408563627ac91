import Derived.Test.YtbhkglokdomajaaDoorR10
namespace Go.Proofs.YtbhkglokdomajaaDoor
open Go.RowKit
/-! The reference: all plans. -/
/-- A plan in memory: a row of ints. -/
def RowAt (W : World) (x : Value) (p : List Nat) : Prop := (p = [] ∧ x = .slice none 0 0) ∨ (p ≠ [] ∧ ∃ b c cur fr, x = .slice (some ⟨b, 0, none⟩) p.length c ∧ W.heap[b]? = some (.cells cur 3 fr) ∧ ∀ k, k < p.length → W.cell? ⟨b, k, none⟩ = some (.int .i64 ((p.getD k 0 : Nat) : Int)))
/-- What may have turned while a list of lists has grown. -/
structure Grew (W : World) (v : Value) (W' : World) (v' : Value) : Prop where
  g : W.grownBy W' v.ownBlock
  o : ∀ k, v'.ownBlock = some k → v.ownBlock = some k ∨ W.heap.size ≤ k
theorem Grew.trans {W W1 W2 : World} {v v1 v2 : Value} (h : Grew W v W1 v1) (k : Grew W1 v1 W2 v2) : Grew W v W2 v2 := by
  refine ⟨⟨k.g.os.trans h.g.os, k.g.tape.trans h.g.tape, k.g.output.trans h.g.output, Nat.le_trans h.g.size k.g.size, fun i hi hne => ?_⟩, fun i hi => ?_⟩
  · refine (k.g.block i (Nat.lt_of_lt_of_le hi h.g.size) (fun e => ?_)).trans (h.g.block i hi hne)
    rcases h.o i e.symm with h1 | h1
    · exact hne h1.symm
    · omega
  · rcases k.o i hi with h1 | h1
    · exact h.o i h1
    · exact .inr (Nat.le_trans h.g.size h1)
theorem Grew.refl (W : World) (v : Value) : Grew W v W v := ⟨only_of_below (Below.refl _ _) _, fun _ h => .inl h⟩
theorem Grew.of_below {W W' : World} (hb : Below W.heap.size W W') (v : Value) : Grew W v W' v := ⟨only_of_below hb _, fun _ h => .inl h⟩
theorem own_block {w : World} {base : Nat} {e : TypeId} {size : Nat} {v : Value} {n : Nat} {xs : List Value} (h : w.ownsRow base e size v n xs) {g : Nat} (hg : v.ownBlock = some g) : ∃ cur, w.heap[g]? = some (.cells cur e (0, 0)) := by
  rcases h.2 with ⟨rfl, -⟩ | ⟨g', cap, cur, rfl, -, hh, -⟩
  · cases hg
  · injection hg with hg
    simp only at hg
    subst hg
    exact ⟨cur, hh⟩
theorem RowAt.grow {W W' : World} {x : Value} {p : List Nat} (h : RowAt W x p) {base : Nat} {size : Nat} {v : Value} {n : Nat} {xs : List Value} (hown : W.ownsRow base 34 size v n xs) (hg : W.grownBy W' v.ownBlock) : RowAt W' x p := by
  refine h.imp id ?_
  rintro ⟨h0, b, c, cur, fr, e, hh, hc⟩
  have hne : some b ≠ v.ownBlock := fun e' => by
    obtain ⟨cur', hh'⟩ := own_block hown e'.symm
    rw [hh] at hh'
    injection hh' with hh'
    injection hh' with _ h2 _
    exact absurd h2 (by decide)
  have hb := hg.block b (Array.getElem?_eq_some_iff.1 hh).1 hne
  exact ⟨h0, b, c, cur, fr, e, hb.trans hh, fun k hk => (World.cell?_of_block (a := ⟨b, k, none⟩) hb).trans (hc k hk)⟩
theorem RowAt.next {W W' : World} {x : Value} {p : List Nat} (h : RowAt W x p) (hb : Below W.heap.size W W') : RowAt W' x p := by
  refine h.imp id ?_
  rintro ⟨h0, b, c, cur, fr, e, hh, hc⟩
  have hbk := hb.block b (Array.getElem?_eq_some_iff.1 hh).1
  exact ⟨h0, b, c, cur, fr, e, hbk.trans hh, fun k hk => (World.cell?_of_block (a := ⟨b, k, none⟩) hbk).trans (hc k hk)⟩
theorem RowAt.of_own {W : World} {base : Nat} {v : Value} {p : List Nat} (hp : p ≠ []) (h : W.ownsRow base 3 1 v p.length (p.map fun k => Value.int .i64 ((k : Nat) : Int))) : RowAt W v p := by
  obtain ⟨g, cap, rfl, hb, hlt⟩ := h.form (List.length_pos_iff.2 hp)
  obtain ⟨cur, hh⟩ := own_block h rfl
  refine .inr ⟨hp, g, cap, cur, _, rfl, hh, fun k hk => ?_⟩
  rw [h.cellAt k (by omega), List.getElem?_map, List.getElem?_eq_getElem hk, List.getD_eq_getElem?_getD, List.getElem?_eq_getElem hk]; rfl
/-- The rows of a list of lists. -/
def RowsAt (W : World) (xs : List Value) (L : List (List Nat)) : Prop := xs.length = L.length ∧ ∀ (i : Nat) (x : Value) (p : List Nat), xs[i]? = some x → L[i]? = some p → RowAt W x p
theorem RowsAt.imp {W W' : World} {xs : List Value} {L : List (List Nat)} (h : RowsAt W xs L) (hi : ∀ x p, RowAt W x p → RowAt W' x p) : RowsAt W' xs L := ⟨h.1, fun i x p hx hp => hi x p (h.2 i x p hx hp)⟩
theorem RowsAt.app {W : World} {xs ys : List Value} {L M : List (List Nat)} (h : RowsAt W xs L) (k : RowsAt W ys M) : RowsAt W (xs ++ ys) (L ++ M) := by
  refine ⟨by rw [List.length_append, List.length_append, h.1, k.1], fun i x p hx hp => ?_⟩
  by_cases hi : i < xs.length
  · rw [List.getElem?_append_left hi] at hx
    rw [List.getElem?_append_left (by rw [← h.1]; exact hi)] at hp
    exact h.2 i x p hx hp
  · rw [List.getElem?_append_right (by omega)] at hx
    rw [List.getElem?_append_right (by rw [← h.1]; omega), ← h.1] at hp
    exact k.2 _ x p hx hp
theorem RowAt.one {W : World} {x : Value} {p : List Nat} (h : RowAt W x p) : x.oneCell' = true := by
  rcases h with ⟨-, rfl⟩ | ⟨-, b, c, cur, fr, rfl, -⟩ <;> rfl
/-- All plans that go on from some, m sets being wanted still. -/
def extS (n m : Nat) (p : List Nat) : List (List Nat) := (plansS (List.replicate m n)).map (p ++ ·)
theorem extS_zero (n : Nat) (p : List Nat) : extS n 0 p = [p] := by simp [extS, plansS]
theorem extS_succ (n m : Nat) (p : List Nat) : extS n (m + 1) p = (List.range n).flatMap fun s => extS n m (p ++ [s]) := by
  unfold extS
  rw [List.replicate_succ]
  show ((List.range n).flatMap fun s => (plansS (List.replicate m n)).map (s :: ·)).map (p ++ ·) = _
  rw [List.map_flatMap]
  congr 1
  funext s
  rw [List.map_map]
  apply List.map_congr_left
  intro q _
  simp
end Go.Proofs.YtbhkglokdomajaaDoor
