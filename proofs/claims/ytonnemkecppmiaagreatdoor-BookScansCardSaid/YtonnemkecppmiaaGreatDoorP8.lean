import Derived.Test.YtonnemkecppmiaaGreatDoorP7
import Derived.Test.YtonnemkecppmiaaGreatDoorPln
namespace Go.Proofs.YtonnemkecppmiaaGreatDoor
open Go.RowKit
/-! What a file that is being written holds. -/
/-- A block of cells of a type. -/
def Kd (W : World) (g : Nat) (t : TypeId) : Prop := ∃ c fz, W.heap[g]? = some (.cells c t fz)
theorem Kd.new (w : World) (vs : Array Value) (t : TypeId) : Kd (w.alloc (.cells vs t)) w.heap.size t := ⟨vs, (0, 0), heap_alloc_new w _⟩
theorem Kd.setCell {W : World} {g : Nat} {t : TypeId} (h : Kd W g t) (a : Addr) (v : Value) : Kd (W.setCell a v) g t := by
  obtain ⟨c, fz, h⟩ := h
  by_cases e : a.block = g
  · unfold World.setCell
    exact ⟨if a.spot.isSome = true then c else c.setIfInBounds a.off v, fz, by rw [Array.getElem?_modify, if_pos e, h]; rfl⟩
  · exact ⟨c, fz, by unfold World.setCell; rw [Array.getElem?_modify, if_neg e]; exact h⟩
theorem Kd.setCells {g b : Nat} {t : TypeId} : ∀ (vs : List Value) (j : Nat) {W : World}, Kd W g t → Kd (Go.Proofs.YtonnemkecppmiaaGreatDoor.setCells W b j vs) g t
  | [], _, _, h => h
  | v :: vs, j, _, h => Kd.setCells vs (j + 1) (h.setCell ⟨b, j, none⟩ v)
theorem Kd.next {W W' : World} {g : Nat} {t : TypeId} (h : Kd W g t) (hb : Below W.heap.size W W') : Kd W' g t := by
  obtain ⟨c, fz, h⟩ := h
  exact ⟨c, fz, by rw [hb.block g (Array.getElem?_eq_some_iff.1 h).1]; exact h⟩
theorem Kd.others {W W' : World} {g b : Nat} {t e : TypeId} (h : Kd W g t) (hk : Lib.OthersKept e (some b) W W') (hgb : g ≠ b) (ht : t ≠ e) : Kd W' g t := by
  obtain ⟨c, fz, h⟩ := h
  exact ⟨c, fz, hk g _ h (by intro e; injection e with e; exact hgb e) (by intro c' fz' e; injection e with _ e2 _; exact ht e2)⟩
theorem Bx.others {W W' : World} {g b : Nat} {t e : TypeId} {vs : List Value} (h : Bx W g vs) (hd : Kd W g t) (hk : Lib.OthersKept e (some b) W W') (hgb : g ≠ b) (ht : t ≠ e) : Bx W' g vs := by
  obtain ⟨c, fz, hd⟩ := hd
  have hblk : W'.heap[g]? = W.heap[g]? := by
    rw [hd]; exact hk g _ hd (by intro e; injection e with e; exact hgb e) (by intro c' fz' e; injection e with _ e2 _; exact ht e2)
  exact ⟨by rw [hd] at hblk; exact (Array.getElem?_eq_some_iff.1 hblk).1, fun j u hu => (World.cell?_of_block (a := ⟨g, j, none⟩) hblk).trans (h.c j u hu), fun j => (World.frozen?_of_block (a := ⟨g, j, none⟩) hblk).trans (h.fr j)⟩
/-- A builder that holds these lines. -/
def Hld (ls : List (List Tx)) (b : Nat) (W : World) : Prop := Lib.IsBuilder 115 5 b b (Lib.byteCells (textL ls)) W
theorem textL_app (a b : List (List Tx)) : textL (a ++ b) = textL a ++ textL b := by unfold textL; rw [List.flatMap_append]
theorem Hld.new (w : World) : Hld [] w.heap.size (w.alloc (.cells #[.pointer none, .slice none 0 0] 115)) := Lib.fresh_isBuilder _ _ w
theorem Hld.lt {ls : List (List Tx)} {b : Nat} {W : World} (h : Hld ls b W) : b < W.heap.size := by
  rcases h with h | h <;> exact h.lt
theorem bld_below {T e B b : Nat} {p : Value} {bs : List Value} {w w' : World} (h : Lib.BuilderAt T e B b p bs w) (hb : Below w.heap.size w w') : Lib.BuilderAt T e B b p bs w' := by
  have hlt := h.lt
  obtain ⟨h1, v, h2, h3, h4⟩ := h
  exact ⟨h1, v, by rw [hb.block b hlt]; exact h2, own_below h3 hb, h4⟩
theorem Hld.next {ls : List (List Tx)} {b : Nat} {W W' : World} (h : Hld ls b W) (hb : Below W.heap.size W W') : Hld ls b W' := by
  rcases h with h | h
  · exact .inl (bld_below h hb)
  · exact .inr (bld_below h hb)
theorem write_lines (ls : List (List Tx)) (ms : List (List Tx)) (t : Tx) (ht : t = textL ms) (b : Nat) (w : World) (h : Hld ls b w) (hlen : (textL (ls ++ ms)).length ≤ 140737488355328) :
    Calls Tryz.prog 73 #[.pointer (some ⟨b, 0, none⟩), tx t] w fun e w' => e = .returned (.tuple #[.int .i64 t.length, .nilIface]) ∧ (Hld (ls ++ ms) b w' ∧ Below b w w' ∧ Lib.OthersKept 5 (some b) w w') := by
  subst ht
  refine (writeString_any b b _ ⟨(textL ms).toArray⟩ w h (by rw [textL_app, List.length_append] at hlen; rw [Lib.byteCells_length]; exact hlen) (Nat.le_of_lt h.lt)).mono ?_
  rintro e w' ⟨rfl, h1, h2, h3⟩
  refine ⟨rfl, .inr ?_, h2, h3⟩
  rw [textL_app, Lib.byteCells_append]
  exact h1
theorem String_any (ls : List (List Tx)) (b : Nat) (w : World) (h : Hld ls b w) : Calls Tryz.prog 76 #[.pointer (some ⟨b, 0, none⟩)] w fun e w' => e = .returned (tx (textL ls)) ∧ Below b w w' :=
  Tryz.Builder_String_any b b (textL ls) w h (Nat.le_of_lt h.lt)
/-! The lines of a drawing. -/
theorem take_len (ls : List (List Tx)) (n : Nat) : (textL (ls.take n)).length ≤ (textL ls).length := by
  have h : textL ls = textL (ls.take n) ++ textL (ls.drop n) := by rw [← textL_app, List.take_append_drop]
  rw [h, List.length_append]; omega
theorem take_one {ls : List (List Tx)} {n : Nat} {x : List Tx} (h : ls[n]? = some x) : ls.take (n + 1) = ls.take n ++ [x] := by
  obtain ⟨h1, h2⟩ := List.getElem?_eq_some_iff.1 h
  rw [List.take_succ_eq_append_getElem h1, h2]
theorem pcL_len (i : Nat) (p : Pc) : (pcL i p).length = 5 := rfl
theorem pcsL_at : ∀ (l : List Pc) (i k j : Nat) (p : Pc), l[k]? = some p → j < 5 → (pcsL i l)[5 * k + j]? = (pcL (i + k) p)[j]?
  | [], _, _, _, _, h, _ => by simp at h
  | q :: l, i, 0, j, p, h, hj => by
    rw [List.getElem?_cons_zero] at h
    injection h with h
    subst h
    show (pcL i q ++ pcsL (i + 1) l)[5 * 0 + j]? = _
    rw [Nat.mul_zero, Nat.zero_add, List.getElem?_append_left (by rw [pcL_len]; exact hj)]
    rfl
  | q :: l, i, k + 1, j, p, h, hj => by
    rw [List.getElem?_cons_succ] at h
    show (pcL i q ++ pcsL (i + 1) l)[5 * (k + 1) + j]? = _
    rw [List.getElem?_append_right (by rw [pcL_len]; omega), pcL_len, show 5 * (k + 1) + j - 5 = 5 * k + j by omega, pcsL_at l (i + 1) k j p h hj, show i + 1 + k = i + (k + 1) by omega]
theorem dL_piece {d : Pu} {k : Nat} {p : Pc} (h : d.pieces[k]? = some p) : (dL d)[2 + 5 * k]? = some [wPiece, Lib.itoa k] := by
  show (_ :: _ :: pcsL 0 d.pieces)[2 + 5 * k]? = _
  have := pcsL_at d.pieces 0 k 0 p h (by omega)
  rw [show 2 + 5 * k = 5 * k + 1 + 1 by omega, List.getElem?_cons_succ, List.getElem?_cons_succ, show 5 * k = 5 * k + 0 from rfl, this, Nat.zero_add]
  rfl
theorem dL_edge {d : Pu} {k j : Nat} {p : Pc} (h : d.pieces[k]? = some p) (hj : j < 4) : (dL d)[2 + 5 * k + 1 + j]? = some (edW (pe p j)) := by
  show (_ :: _ :: pcsL 0 d.pieces)[2 + 5 * k + 1 + j]? = _
  rw [show 2 + 5 * k + 1 + j = 5 * k + (j + 1) + 1 + 1 by omega, List.getElem?_cons_succ, List.getElem?_cons_succ, pcsL_at _ 0 k (j + 1) p h (by omega), Nat.zero_add]
  match j, hj with
  | 0, _ => rfl
  | 1, _ => rfl
  | 2, _ => rfl
  | 3, _ => rfl
theorem dL_all (d : Pu) : (dL d).take (2 + 5 * d.pieces.length) = dL d := List.take_of_length_le (by show (pcsL 0 d.pieces).length + 1 + 1 ≤ _; rw [pcsL_len]; omega)
end Go.Proofs.YtonnemkecppmiaaGreatDoor
