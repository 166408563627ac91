import Derived.Test.YtjlicbdnppodgaaSd
import Derived.Test.YtjlicbdnppodgaaSym
import Derived.Test.YtjlicbdnppodgaaChk
namespace Go.Proofs.Ytjlicbdnppodgaa
open Go.RowKit
/-! Plain: what the lines of a cut are like. -/
theorem sumTo_pos {f : Nat → Int} (h0 : ∀ k, 0 ≤ f k) : ∀ {n : Nat}, 0 < sumTo f n → ∃ k, k < n ∧ 0 < f k
  | n + 1, h => by
    show ∃ k, _
    have h1 := h0 n
    have h : 0 < sumTo f n + f n := h
    by_cases e : 0 < f n
    · exact ⟨n, by omega, e⟩
    · obtain ⟨k, hk, h2⟩ := sumTo_pos h0 (n := n) (by omega)
      exact ⟨k, by omega, h2⟩
/-- Where two pieces have an edge in common, they have cells there. -/
theorem edges_pos {c : Cut} {a b : Int} (h : 0 < edgesR c a b) : ∃ x y : Int, (0 ≤ x ∧ x < W c) ∧ (0 ≤ y ∧ y < H c) ∧ at2 c x y = a ∧ (∃ p ∈ around x y, at2 c p.1 p.2 = b) := by
  obtain ⟨y, hy, h1⟩ := sumTo_pos (fun y => (sumTo_bd (fun x => cellE_bd c x y a b) (W c)).1) h
  obtain ⟨x, hx, h2⟩ := sumTo_pos (fun x => (cellE_bd c x y a b).1) h1
  refine ⟨x, y, by omega, by omega, ?_⟩
  unfold cellE at h2
  by_cases e : at2 c x y = a
  · rw [if_pos e] at h2
    refine ⟨e, ?_⟩
    refine Classical.byContradiction fun hn => ?_
    have key : ∀ p ∈ around (x : Int) (y : Int), b2i (at2 c p.1 p.2 == b) = 0 := fun p hp => by
      have : ¬ at2 c p.1 p.2 = b := fun e => hn ⟨p, hp, e⟩
      simp [b2i, this]
    have k1 := key _ (List.mem_cons_self ..)
    have k2 := key _ (List.mem_cons_of_mem _ (List.mem_cons_self ..))
    have k3 := key _ (List.mem_cons_of_mem _ (List.mem_cons_of_mem _ (List.mem_cons_self ..)))
    have k4 := key _ (List.mem_cons_of_mem _ (List.mem_cons_of_mem _ (List.mem_cons_of_mem _ (List.mem_cons_self ..))))
    dsimp only at k1 k2 k3 k4
    omega
  · rw [if_neg e] at h2; omega
theorem at_great {c : Cut} (ok : OkC c) (x y : Int) : at2 c x y ≤ greatS c := by
  have hg := great_bd ok
  by_cases h : isIn c x y = true
  · obtain ⟨j, hj, -, -⟩ := idx_of ok (p := (x, y)) h
    have h0 := ok.idx h
    unfold at2
    rw [if_pos h]
    have hl : (y * c.wide + x).toNat < c.piece.length := by omega
    rw [getD_get hl]
    exact great_max _ (List.getElem_mem hl)
  · unfold at2
    rw [if_neg h]; omega
theorem edges_bd {c : Cut} (ok : OkC c) {a b : Int} (h : 0 < edgesR c a b) : (0 ≤ a ∧ a ≤ greatS c) ∧ (-1 ≤ b ∧ b ≤ greatS c) := by
  have hw := ok.w
  have hh := ok.h
  obtain ⟨x, y, hx, hy, ea, ⟨p, -, eb⟩⟩ := edges_pos h
  unfold W at hx
  unfold H at hy
  have h1 := at_great ok x y
  have h2 := at_great ok p.1 p.2
  have h3 := ok.at_bd x y
  have h4 := ok.at_bd p.1 p.2
  have h5 : isIn c x y = true := by unfold isIn inS; simp only [Bool.and_eq_true, decide_eq_true_eq]; omega
  have h6 := h3.2.2 h5
  omega
/-! How long the lines are. -/
def lenD (c : Cut) (D : Pt → Bool) : Int := sumTo (fun a => sumTo (fun b => if D ((b : Int), (a : Int)) = true then edgesR c (a : Int) (b : Int) else 0) a) ((greatS c).toNat + 1)
def lenS (c : Cut) : Int := sumTo (fun a => sumTo (fun b => edgesR c (a : Int) (b : Int)) a) ((greatS c).toNat + 1)
theorem lenD_none (c : Cut) : lenD c (fun _ => false) = 0 := sumTo_zero fun _ _ => sumTo_zero fun _ _ => by simp
theorem lenD_all {c : Cut} {D : Pt → Bool} (hD : ∀ p, D p = (edgO c p).isSome) : lenD c D = lenS c := by
  unfold lenD lenS
  refine sumTo_congr fun a _ => sumTo_congr fun b hb => ?_
  rw [hD]
  unfold edgO posO
  dsimp only
  rw [if_pos (show ((b : Int)) ≠ (a : Int) by omega)]
  have := edgesR_nn c (a : Int) (b : Int)
  by_cases h : 0 < edgesR c (a : Int) (b : Int)
  · rw [if_pos h]; rfl
  · rw [if_neg h]; simp; omega
theorem lenD_skip {c : Cut} {D : Pt → Bool} {p : Pt} (h : ¬ (p.1 ≠ -1 ∧ p.1 < p.2)) (hp : 0 ≤ p.2) : lenD c (fun q => D q || decide (q = p)) = lenD c D := by
  unfold lenD
  refine sumTo_congr fun a _ => sumTo_congr fun b hb => ?_
  have : ((b : Int), (a : Int)) ≠ p := fun e => h (by subst e; exact ⟨by dsimp only; omega, by dsimp only; omega⟩)
  simp [this]
theorem lenD_add {c : Cut} {D : Pt → Bool} {p : Pt} (h0 : D p = false) (h : p.1 ≠ -1 ∧ p.1 < p.2) (hp : -1 ≤ p.1 ∧ p.2 ≤ greatS c) : lenD c (fun q => D q || decide (q = p)) = lenD c D + edgesR c p.2 p.1 := by
  obtain ⟨b, hb⟩ : ∃ b : Nat, (b : Int) = p.1 := ⟨p.1.toNat, by omega⟩
  obtain ⟨a, ha⟩ : ∃ a : Nat, (a : Int) = p.2 := ⟨p.2.toNat, by omega⟩
  have hpe : p = ((b : Int), (a : Int)) := by rw [hb, ha]
  unfold lenD
  refine sumTo_one (i := a) ?_ (by omega) fun k _ hk => sumTo_congr fun j _ => ?_
  · refine sumTo_one (i := b) ?_ (by omega) fun j _ hj => ?_
    · have e1 : (D ((b : Int), (a : Int)) || decide (((b : Int), (a : Int)) = p)) = true := by rw [← hpe]; simp
      have e2 : D ((b : Int), (a : Int)) = false := by rw [← hpe]; exact h0
      dsimp only
      rw [if_pos e1, if_neg (by rw [e2]; simp), ha, hb]; omega
    · have : ((j : Int), (a : Int)) ≠ p := fun e => hj (by rw [hpe] at e; injection e with e1 e2; omega)
      simp [this]
  · have : ((j : Int), (k : Int)) ≠ p := fun e => hk (by rw [hpe] at e; injection e with e1 e2; omega)
    simp [this]
theorem lenD_bd {c : Cut} (ok : OkC c) (D : Pt → Bool) : 0 ≤ lenD c D ∧ lenD c D ≤ 10000000 := by
  have hg := great_bd ok
  have h1 : ∀ a b : Nat, 0 ≤ (if D ((b : Int), (a : Int)) = true then edgesR c (a : Int) (b : Int) else 0) ∧ (if D ((b : Int), (a : Int)) = true then edgesR c (a : Int) (b : Int) else 0) ≤ 1000 := fun a b => by
    have h1 := edgesR_nn c (a : Int) (b : Int)
    have h2 := edges_lt ok (a : Int) (b : Int)
    split <;> omega
  have h3 : ∀ a : Nat, 0 ≤ sumTo (fun b : Nat => if D ((b : Int), (a : Int)) = true then edgesR c (a : Int) (b : Int) else 0) a ∧ (a < 41 → sumTo (fun b : Nat => if D ((b : Int), (a : Int)) = true then edgesR c (a : Int) (b : Int) else 0) a ≤ 1000 * 41) := fun a => by
    have := sumTo_bd (h1 a) a
    exact ⟨this.1, fun h => by have := this.2; omega⟩
  have h4 : lenD c D = sumTo (fun a => if a < 41 then sumTo (fun b : Nat => if D ((b : Int), (a : Int)) = true then edgesR c (a : Int) (b : Int) else 0) a else 0) ((greatS c).toNat + 1) := by
    unfold lenD
    refine sumTo_congr fun a ha => ?_
    rw [if_pos (by omega)]
  rw [h4]
  have := sumTo_bd (f := fun a : Nat => if a < 41 then sumTo (fun b : Nat => if D ((b : Int), (a : Int)) = true then edgesR c (a : Int) (b : Int) else 0) a else 0) (B := 1000 * 41) (fun a => by
    have := h3 a
    split
    · rename_i h; exact ⟨this.1, this.2 h⟩
    · omega) ((greatS c).toNat + 1)
  omega
/-- The error of a cut. -/
noncomputable def cutE (c : Cut) : Int := (checkS c).2
/-- The lines of a good cut. -/
noncomputable def linesS (c : Cut) : Int × Int × Int × Int := if cutE c = 0 then (lenS c, overP c (bendP c), overP c (jointP c), overP c (startP c)) else (0, 0, 0, 0)
noncomputable def linesV (c : Cut) : Value := .tuple #[.agg #[.int .i64 (linesS c).1, .int .i64 (linesS c).2.1, .int .i64 (linesS c).2.2.1, .int .i64 (linesS c).2.2.2], .int .i64 (cutE c)]
end Go.Proofs.Ytjlicbdnppodgaa
