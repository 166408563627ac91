import Derived.Test.YtbhkglokdomajaaDoorW0
import Derived.Test.YtbhkglokdomajaaDoorR7
namespace Go.Proofs.YtbhkglokdomajaaDoor
open Go.RowKit
/-! Lists of lists' cells: what a call has appended, as a slice. -/
theorem flat_get {α : Type} {cells : α → List Value} {size : Nat} (hs : ∀ x, (cells x).length = size) : ∀ (l : List α) (k : Nat) (x : α) (j : Nat) (u : Value), l[k]? = some x → (cells x)[j]? = some u → (l.flatMap cells)[k * size + j]? = some u
  | [], k, x, j, u, h, _ => by simp at h
  | y :: l, 0, x, j, u, h, hu => by
    rw [List.getElem?_cons_zero] at h
    injection h with h
    subst h
    have hj := (List.getElem?_eq_some_iff.1 hu).1
    rw [List.flatMap_cons, Nat.zero_mul, Nat.zero_add, List.getElem?_append_left hj]
    exact hu
  | y :: l, k + 1, x, j, u, h, hu => by
    rw [List.getElem?_cons_succ] at h
    rw [List.flatMap_cons, List.getElem?_append_right (by rw [hs y, Nat.add_mul]; omega), hs y, show (k + 1) * size + j - size = k * size + j by rw [Nat.add_mul]; omega]
    exact flat_get hs l k x j u h hu
theorem own_at {α : Type} {cells : α → List Value} {size : Nat} (hs : ∀ x, (cells x).length = size) (h0 : 0 < size) {w : World} {base : Nat} {e : TypeId} {v : Value} {l : List α} (h : w.ownsRow base e size v l.length (l.flatMap cells)) :
    ∃ A c, v = .slice A l.length c ∧ At w w.heap.size size cells A l := by
  obtain ⟨A, c, rfl, hc⟩ := own_form h
  refine ⟨A, c, rfl, fun k x hx => ?_⟩
  have hp0 : 0 < (cells x).length := by rw [hs x]; exact h0
  have g0 : (cells x)[0]? = some ((cells x)[0]'hp0) := List.getElem?_eq_getElem hp0
  obtain ⟨b, e, -, hb, -⟩ := hc _ _ (flat_get hs l k x 0 _ hx g0)
  refine ⟨b, 0, e, hb, fun j u hu => ?_⟩
  obtain ⟨b', e', -, -, hcell⟩ := hc _ _ (flat_get hs l k x j u hx hu)
  rw [e] at e'
  injection e' with e'
  injection e' with e1
  subst e1
  rw [Nat.zero_add]
  exact hcell
theorem own_apart {w : World} {base base' e e' size size' : Nat} {v v' : Value} {n n' : Nat} {xs xs' : List Value} (h : w.ownsRow base e size v n xs) (h' : w.ownsRow base' e' size' v' n' xs') (he : e ≠ e') : v.ownBlock = none ∨ v.ownBlock ≠ v'.ownBlock := by
  rcases h.2 with ⟨rfl, -⟩ | ⟨g, cap, cur, rfl, -, hh, -⟩
  · exact .inl rfl
  · right
    intro eq
    rcases h'.2 with ⟨rfl, -⟩ | ⟨g', cap', cur', rfl, -, hh', -⟩
    · cases eq
    · injection eq with eq
      simp only at eq
      rw [eq, hh'] at hh
      injection hh with hh
      injection hh with _ h2 _
      exact he h2.symm
theorem Bx.grown {W W' : World} {row : Option Nat} {b : Nat} {vs : List Value} (h : Bx W b vs) (hg : W.grownBy W' row) (hr : row ≠ some b) : Bx W' b vs :=
  have hk := hg.block b h.lt (fun e => hr e.symm)
  ⟨Nat.lt_of_lt_of_le h.lt hg.size, fun j u hu => (World.cell?_of_block (a := ⟨b, j, none⟩) hk).trans (h.c j u hu), fun j => (World.frozen?_of_block (a := ⟨b, j, none⟩) hk).trans (h.fr j)⟩
theorem own_row_ne {w : World} {base b : Nat} {e : TypeId} {size : Nat} {v : Value} {n : Nat} {xs : List Value} (h : w.ownsRow base e size v n xs) (hb : b < base) : v.ownBlock ≠ some b := fun e => by have := (h.lt b e).1; omega
def spansOf (rs : List (Nat × Nat × Nat)) : List (Int × Int) := rs.map fun x => ((x.1 : Int), (x.2.1 : Int))
def firstsOf (rs : List (Nat × Nat × Nat)) : List Int := rs.map fun x => ((x.2.2 : Nat) : Int)
theorem spans_add (rs : List (Nat × Nat × Nat)) (a b k : Nat) : (spansOf (rs ++ [(a, b, k)])).flatMap spv = (spansOf rs).flatMap spv ++ [.int .i64 (a : Int), .int .i64 (b : Int)] := by
  unfold spansOf; simp [spv]
theorem firsts_add (rs : List (Nat × Nat × Nat)) (a b k : Nat) : (firstsOf (rs ++ [(a, b, k)])).flatMap icell = (firstsOf rs).flatMap icell ++ [.int .i64 (k : Int)] := by
  unfold firstsOf; simp [icell]
/-- What Proof hands back. -/
def RetPr (p : List (Nat × Nat × Nat) × Int) (w : World) (e : Ending) (w' : World) : Prop := ∃ A1 c1 A2 c2, e = .returned (.tuple #[.slice A1 p.1.length c1, .slice A2 p.1.length c2, .int .i64 p.2]) ∧ At w' w'.heap.size 2 spv A1 (spansOf p.1) ∧ At w' w'.heap.size 1 icell A2 (firstsOf p.1) ∧ Below w.heap.size w w'
theorem retPr_nil {x : Int} {w w' : World} (hb : Below w.heap.size w w') : RetPr ([], x) w (.returned (.tuple #[.slice none 0 0, .slice none 0 0, .int .i64 x])) w' := ⟨none, 0, none, 0, rfl, At.nil, At.nil, hb⟩
theorem retPr_own {rs : List (Nat × Nat × Nat)} {x : Int} {w w' : World} {v1 v2 : Value} {b1 b2 e1 e2 : Nat} (h1 : w'.ownsRow b1 e1 2 v1 rs.length ((spansOf rs).flatMap spv)) (h2 : w'.ownsRow b2 e2 1 v2 rs.length ((firstsOf rs).flatMap icell)) (hb : Below w.heap.size w w') :
    RetPr (rs, x) w (.returned (.tuple #[v1, v2, .int .i64 x])) w' := by
  have l1 : (spansOf rs).length = rs.length := by unfold spansOf; simp
  have l2 : (firstsOf rs).length = rs.length := by unfold firstsOf; simp
  rw [← l1] at h1
  rw [← l2] at h2
  obtain ⟨A1, c1, rfl, a1⟩ := own_at (size := 2) (fun _ => rfl) (by omega) h1
  obtain ⟨A2, c2, rfl, a2⟩ := own_at (size := 1) (fun _ => rfl) (by omega) h2
  rw [l1, l2]
  exact ⟨A1, c1, A2, c2, rfl, a1, a2, hb⟩
end Go.Proofs.YtbhkglokdomajaaDoor
