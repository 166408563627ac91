import Derived.Test.YtjlicbdnppodgaaR4
import Derived.Test.YtjlicbdnppodgaaP7
namespace Go.Proofs.Ytjlicbdnppodgaa
open Go.RowKit
/-! Plain: the edges that pieces have in common, counted cell by cell in any order. -/
/-- Of the cells l next to p: those of piece q.1, where p is of piece q.2. -/
def cntP (c : Cut) (p q : Pt) (l : List Pt) : Int := if pcOf c p = q.2 ∧ q.1 ≠ q.2 then (l.countP (fun n => pcOf c n == q.1) : Nat) else 0
def edgN (c : Cut) (D : Pt → Bool) (q : Pt) : Int := sumTo (fun i => if D (cellOf c i) = true then cntP c (cellOf c i) q (around (cellOf c i).1 (cellOf c i).2) else 0) c.piece.length
def posO (x : Int) : Option Int := if 0 < x then some x else none
theorem posO_get {x : Int} (h : 0 ≤ x) : (posO x).getD 0 = x := by
  unfold posO
  split
  · rfl
  · show (0 : Int) = x; omega
def edgF (c : Cut) (D : Pt → Bool) (p : Pt) (l : List Pt) (q : Pt) : Option Int := posO (edgN c D q + cntP c p q l)
theorem cntP_bd (c : Cut) (p q : Pt) (l : List Pt) : 0 ≤ cntP c p q l ∧ cntP c p q l ≤ l.length := by
  unfold cntP
  split
  · have := List.countP_le_length (p := fun n => pcOf c n == q.1) (l := l)
    omega
  · omega
theorem edgN_bd (c : Cut) (D : Pt → Bool) (q : Pt) : 0 ≤ edgN c D q ∧ edgN c D q ≤ 4 * c.piece.length := by
  unfold edgN
  refine sumTo_bd (fun k => ?_) _
  split
  · exact cntP_bd c _ q (around _ _)
  · omega
theorem edgF_nil (c : Cut) (D : Pt → Bool) (p q : Pt) : edgF c D p [] q = posO (edgN c D q) := by
  unfold edgF cntP
  simp
theorem edgN_none (c : Cut) (q : Pt) : edgN c (fun _ => false) q = 0 := by
  unfold edgN
  exact sumTo_zero fun k _ => by simp
theorem sumTo_one {f g : Nat → Int} {i : Nat} {d : Int} (hi : g i = f i + d) : ∀ {n : Nat}, i < n → (∀ k, k < n → k ≠ i → g k = f k) → sumTo g n = sumTo f n + d
  | n + 1, hn, h => by
    unfold sumTo
    by_cases e : i = n
    · subst e
      rw [sumTo_congr (f := g) (g := f) fun k hk => h k (by omega) (by omega), hi]; omega
    · rw [sumTo_one hi (n := n) (by omega) fun k hk hne => h k (by omega) hne, h n (by omega) (by omega)]; omega
theorem edgN_add {c : Cut} (ok : OkC c) {D : Pt → Bool} {p : Pt} (hp : inG c p) (h0 : D p = false) (q : Pt) : edgN c (fun r => D r || decide (r = p)) q = edgN c D q + cntP c p q (around p.1 p.2) := by
  obtain ⟨j, hj, rfl, -⟩ := idx_of ok hp
  unfold edgN
  refine sumTo_one (i := j) ?_ hj fun k hk hne => ?_
  · rw [h0]; simp
  · have : cellOf c k ≠ cellOf c j := fun e => hne (cell_inj ok hk hj e)
    simp [this]
theorem edgF_add {c : Cut} (ok : OkC c) {D : Pt → Bool} {p p' : Pt} (hp : inG c p) (h0 : D p = false) (q : Pt) : edgF c (fun r => D r || decide (r = p)) p' [] q = edgF c D p (around p.1 p.2) q := by
  rw [edgF_nil, edgN_add ok hp h0]; rfl
theorem edgF_skip {c : Cut} {D : Pt → Bool} {p n : Pt} {l : List Pt} (h : pcOf c n = pcOf c p) (q : Pt) : edgF c D p (l ++ [n]) q = edgF c D p l q := by
  unfold edgF cntP
  congr 2
  by_cases e : pcOf c p = q.2 ∧ q.1 ≠ q.2
  · rw [if_pos e, if_pos e, List.countP_append]
    have : (pcOf c n == q.1) = false := by
      rw [h, e.1]; simp; exact fun e' => e.2 e'.symm
    simp [this]
  · rw [if_neg e, if_neg e]
theorem edgF_up {c : Cut} {D : Pt → Bool} {p n : Pt} {l : List Pt} (h : pcOf c n ≠ pcOf c p) (q : Pt) : upK (edgF c D p l) (pcOf c n, pcOf c p) q = edgF c D p (l ++ [n]) q := by
  unfold upK setO
  by_cases e : q = (pcOf c n, pcOf c p)
  · subst e
    rw [if_pos rfl]
    unfold edgF
    have h1 := edgN_bd c D (pcOf c n, pcOf c p)
    have h2 := cntP_bd c p (pcOf c n, pcOf c p) l
    rw [posO_get (by omega)]
    have h3 : cntP c p (pcOf c n, pcOf c p) (l ++ [n]) = cntP c p (pcOf c n, pcOf c p) l + 1 := by
      unfold cntP
      rw [if_pos ⟨rfl, h⟩, if_pos ⟨rfl, h⟩, List.countP_append]
      simp
    rw [h3]
    unfold posO
    rw [if_pos (by omega), Int.add_assoc]
  · rw [if_neg e]
    unfold edgF cntP
    congr 2
    by_cases e1 : pcOf c p = q.2 ∧ q.1 ≠ q.2
    · rw [if_pos e1, if_pos e1, List.countP_append]
      have : (pcOf c n == q.1) = false := by
        simp
        intro e2
        exact e (by rw [e2, e1.1])
      simp [this]
    · rw [if_neg e1, if_neg e1]
theorem edgF_val {c : Cut} (ok : OkC c) {D : Pt → Bool} {p : Pt} {l : List Pt} (hl : l.length ≤ 4) (q : Pt) : 0 ≤ (edgF c D p l q).getD 0 ∧ (edgF c D p l q).getD 0 ≤ 1000000 := by
  unfold edgF
  have h1 := edgN_bd c D q
  have h2 := cntP_bd c p q l
  rw [posO_get (by omega)]
  have := Int.mul_le_mul ok.w.2 (ok.h).2 (show (0 : Int) ≤ c.high by have := ok.h; omega) (show (0 : Int) ≤ 12 by omega)
  have := ok.len
  omega
/-- A sum over all cells, row by row. -/
theorem sumTo_app (f : Nat → Int) (a : Nat) : ∀ b, sumTo f (a + b) = sumTo f a + sumTo (fun j => f (a + j)) b
  | 0 => by show sumTo f a = sumTo f a + 0; omega
  | b + 1 => by
    show sumTo f (a + b) + f (a + b) = sumTo f a + (sumTo (fun j => f (a + j)) b + f (a + b))
    rw [sumTo_app f a b]; omega
theorem sum_rows (g : Int → Int → Int) {w : Nat} (hw : 0 < w) : ∀ h : Nat, sumTo (fun i => g ((i : Int) % (w : Int)) ((i : Int) / (w : Int))) (h * w) = sumTo (fun y => sumTo (fun x => g (x : Int) (y : Int)) w) h
  | 0 => by rw [Nat.zero_mul]; rfl
  | h + 1 => by
    rw [Nat.add_mul, Nat.one_mul, sumTo_app, sum_rows g hw h]
    show _ = sumTo (fun y => sumTo (fun x => g (x : Int) (y : Int)) w) h + sumTo (fun x => g (x : Int) (h : Int)) w
    congr 1
    refine sumTo_congr fun j hj => ?_
    have e1 : (((h * w + j : Nat)) : Int) = (j : Int) + (h : Int) * (w : Int) := by push_cast; omega
    have e2 : (((h * w + j : Nat)) : Int) % (w : Int) = j := by
      rw [e1, Int.add_mul_emod_self_right]
      exact Int.emod_eq_of_lt (by omega) (by omega)
    have e3 : (((h * w + j : Nat)) : Int) / (w : Int) = h := by
      rw [e1, Int.add_mul_ediv_right _ _ (by omega), Int.ediv_eq_zero_of_lt (by omega) (by omega)]; omega
    rw [e2, e3]
theorem sum_cells {c : Cut} (ok : OkC c) (g : Int → Int → Int) : sumTo (fun i => g (colI c i) (rowI c i)) c.piece.length = sumTo (fun y => sumTo (fun x => g (x : Int) (y : Int)) (W c)) (H c) := by
  have hw := ok.w
  have hh := ok.h
  have hW : ((W c : Nat) : Int) = c.wide := by unfold W; omega
  have hH : ((H c : Nat) : Int) = c.high := by unfold H; omega
  have hl : c.piece.length = H c * W c := by
    have h1 := ok.len
    have h2 : ((H c * W c : Nat) : Int) = c.wide * c.high := by rw [Int.natCast_mul, hW, hH, Int.mul_comm]
    omega
  rw [hl, ← sum_rows g (w := W c) (by omega)]
  refine sumTo_congr fun i _ => ?_
  unfold colI rowI
  rw [hW]
theorem cnt_cell (c : Cut) (x y : Int) (q : Pt) (h : q.1 ≠ q.2) : cntP c (x, y) q (around x y) = cellE c x y q.2 q.1 := by
  unfold cntP cellE around b2i
  show (if at2 c x y = q.2 ∧ q.1 ≠ q.2 then _ else _) = _
  by_cases e : at2 c x y = q.2
  · rw [if_pos ⟨e, h⟩, if_pos e]
    simp only [List.countP_cons, List.countP_nil, pcOf]
    split <;> split <;> split <;> split <;> rfl
  · rw [if_neg (fun h' => e h'.1), if_neg e]
/-- What edges hands back, as a map. -/
def edgO (c : Cut) (q : Pt) : Option Int := if q.1 ≠ q.2 then posO (edgesR c q.2 q.1) else none
theorem edgO_all {c : Cut} (ok : OkC c) {D : Pt → Bool} (hD : ∀ p, D p = isIn c p.1 p.2) (p q : Pt) : edgF c D p [] q = edgO c q := by
  rw [edgF_nil]
  unfold edgO edgN
  by_cases h : q.1 ≠ q.2
  · rw [if_pos h]
    congr 1
    unfold edgesR
    rw [← sum_cells ok (fun x y => cellE c x y q.2 q.1)]
    refine sumTo_congr fun i hi => ?_
    rw [hD, if_pos (show isIn c (cellOf c i).1 (cellOf c i).2 = true from (cell_in ok hi).1)]
    exact cnt_cell c _ _ q h
  · rw [if_neg h, sumTo_zero fun k _ => by unfold cntP; rw [if_neg (fun h' : _ ∧ _ => h h'.2)]; simp]
    rfl
theorem edgO_none (c : Cut) (p q : Pt) : edgF c (fun _ => false) p [] q = none := by
  rw [edgF_nil, edgN_none]; rfl
theorem edgesR_nn (c : Cut) (a b : Int) : 0 ≤ edgesR c a b := (sumTo_bd (B := 4 * W c) (fun y => sumTo_bd (fun x => cellE_bd c x y a b) (W c)) (H c)).1
theorem edgO_get (c : Cut) (q : Pt) : (edgO c q).getD 0 = if q.1 ≠ q.2 then edgesR c q.2 q.1 else 0 := by
  unfold edgO
  split
  · exact posO_get (edgesR_nn c _ _)
  · rfl
end Go.Proofs.Ytjlicbdnppodgaa
