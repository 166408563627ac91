import Derived.Test.YtonnemkecppmiaaGreatDoorQ2
import Derived.Test.YtonnemkecppmiaaGreatDoorP15
namespace Go.Proofs.YtonnemkecppmiaaGreatDoor
open Go.RowKit
/-! What holds between two lines of a drawing that is read; steps that keep the iterators' own blocks. -/
def puC (d : Pu) (v : Value) : List Value := [.int .i64 d.play.len, .int .i64 d.play.slack, .int .i64 d.play.loose, .int .i64 d.play.damp.lo, .int .i64 d.play.damp.hi, .int .i64 d.wide, .int .i64 d.high, .bool d.turn, v]
def DI (w : World) (B bd ba : Nat) (d : Pu) (i : Nat) (W : World) : Prop := ∃ v, Bx W bd (puC d v) ∧ Bx W ba [.int .i64 (i : Int)] ∧ W.ownsRow B 51 28 v d.pieces.length (d.pieces.flatMap Pc.cells) ∧ Env W ∧ Below w.heap.size w W
theorem not_own {W : World} {base B g : Nat} {size : Nat} {v : Value} {n : Nat} {xs : List Value} (h : W.ownsRow base 51 size v n xs) (ht : TMine B W g) : v.ownBlock ≠ some g := fun e => by
  obtain ⟨-, o, ho, hm⟩ := ht
  rcases h.2 with ⟨rfl, -⟩ | ⟨g', cap, cur, rfl, -, hh, -⟩
  · cases e
  · injection e with e
    simp only at e
    subst e
    rw [hh] at ho
    injection ho with ho
    subst ho
    cases hm
theorem DI.turn {w W W' : World} {bd ba B i : Nat} {d : Pu} {row : Option Nat} (h : DI w B bd ba d i W) (hbd : bd < B) (hba : ba < B) (h9 : 9 ≤ B) (hw : w.heap.size ≤ B) (hg : W.grownBy W' row) (hr : ∀ r, row = some r → TMine B W r) : DI w B bd ba d i W' := by
  obtain ⟨v, h1, h2, h3, h4, h5⟩ := h
  refine ⟨v, h1.grown hg (fun e => by have := (hr _ e).1; omega), h2.grown hg (fun e => by have := (hr _ e).1; omega), h3.kept hg ?_, h4.grown hg (fun r e => by have := (hr r e).1; omega), ⟨hg.os.trans h5.os, hg.tape.trans h5.tape, hg.output.trans h5.output, Nat.le_trans h5.size hg.size, fun k hk => (hg.block k (Nat.lt_of_lt_of_le hk h5.size) (fun e => by have := (hr _ e.symm).1; omega)).trans (h5.block k hk)⟩⟩
  cases row with
  | none =>
    cases hv : v.ownBlock with
    | none => exact .inl rfl
    | some g => exact .inr (by simp)
  | some r => exact .inr (not_own h3 (hr r rfl))
theorem DI.next {w W W' : World} {B bd ba i : Nat} {d : Pu} (h : DI w B bd ba d i W) (hb : Below W.heap.size W W') : DI w B bd ba d i W' := by
  obtain ⟨v, h1, h2, h3, h4, h5⟩ := h
  exact ⟨v, h1.next hb, h2.next hb, own_below h3 hb, h4.next hb, h5.trans (hb.mono h5.size)⟩
theorem KMine.setBox {B b : Nat} (W : World) (j : Nat) (v : Value) (h : b < B) : KMine B W (W.setCell ⟨b, j, none⟩ v) :=
  ⟨by rw [World.size_setCell]; exact Nat.le_refl _, fun k o hk ho _ => by unfold World.setCell; rw [Array.getElem?_modify, if_neg (by show ¬ b = k; omega)]; exact ho⟩
theorem KMine.ownGrown {B base size n : Nat} {W W' : World} {v : Value} {xs : List Value} (h : W.ownsRow base 51 size v n xs) (hg : W.grownBy W' v.ownBlock) : KMine B W W' :=
  ⟨hg.size, fun k o hk ho hm => (hg.block k (Array.getElem?_eq_some_iff.1 ho).1 (fun e => not_own h ⟨hk, o, ho, hm⟩ e.symm)).trans ho⟩
theorem KMine.setOwn {B g : Nat} {W : World} (j : Nat) (v : Value) (h : Kd W g 51) : KMine B W (W.setCell ⟨g, j, none⟩ v) :=
  ⟨by rw [World.size_setCell]; exact Nat.le_refl _, fun k o hk ho hm => by
    unfold World.setCell
    rw [Array.getElem?_modify, if_neg]
    · exact ho
    · show ¬ g = k
      rintro rfl
      obtain ⟨c, fz, h⟩ := h
      rw [h] at ho
      injection ho with ho
      subst ho
      cases hm⟩
theorem KMine.more {B B' : Nat} {W W' : World} (h : KMine B W W') (hB : B ≤ B') : KMine B' W W' := ⟨h.size, fun k o hk => h.same k o (by omega)⟩
theorem own_set {W : World} {base g cap n size j : Nat} {e : TypeId} {xs : List Value} (h : W.ownsRow base e size (.slice (some ⟨g, 0, none⟩) n cap) n xs) (u : Value) : (W.setCell ⟨g, j, none⟩ u).ownsRow base e size (.slice (some ⟨g, 0, none⟩) n cap) n (xs.set j u) := by
  rcases h.2 with ⟨hv, -⟩ | ⟨g', cap', cur, hv, h1, h2, h3, h4, h5, h6⟩
  · cases hv
  · injection hv with e1 _ e2
    injection e1 with e1
    injection e1 with e1
    subst e1 e2
    refine ⟨by rw [List.length_set]; exact h.1, .inr ⟨g, cap, cur.setIfInBounds j u, rfl, h1, ?_, h3, h4, by simp [h5], ?_⟩⟩
    · unfold World.setCell
      rw [Array.getElem?_modify, if_pos rfl, h2]
      rfl
    · rw [Array.toList_setIfInBounds, List.take_set, h6]
theorem flat_set (k : Nat) (hk : k < 4) (e : Ed) (ps : List Pc) (p : Pc) :
    (((((((((ps ++ [p]).flatMap Pc.cells).set (ps.length * 28 + k * 7) (.int .i64 e.kind)).set (ps.length * 28 + k * 7 + 1) (.int .i64 e.a.lo)).set (ps.length * 28 + k * 7 + 2) (.int .i64 e.a.hi)).set (ps.length * 28 + k * 7 + 3) (.int .i64 e.w.lo)).set (ps.length * 28 + k * 7 + 4) (.int .i64 e.w.hi)).set (ps.length * 28 + k * 7 + 5) (.int .i64 e.d.lo)).set (ps.length * 28 + k * 7 + 6) (.int .i64 e.d.hi)) = (ps ++ [setE p k e]).flatMap Pc.cells := by
  have hl : (ps.flatMap Pc.cells).length = ps.length * 28 := flat_len pc_len ps
  rw [List.flatMap_append, List.flatMap_append, ← hl]
  simp only [List.flatMap_cons, List.flatMap_nil, List.append_nil, Nat.add_assoc, List.set_append_right _ _ (Nat.le_add_right _ _), Nat.add_sub_cancel_left]
  congr 1
  match k, hk with
  | 0, _ => rfl
  | 1, _ => rfl
  | 2, _ => rfl
  | 3, _ => rfl
/-- How many pieces there are behind so many lines. -/
theorem read_count : ∀ (ls : List (List Tx)) (i : Nat) (d d' : Pu), readP i d ls = some d' → d.pieces.length = (i + 2) / 5 → d'.pieces.length = (i + ls.length + 2) / 5
  | [], i, d, d', h, hc => by
    injection h with h
    subst h
    simpa using hc
  | ws :: ls, i, d, d', h, hc => by
    rw [readP] at h
    split at h
    · rename_i d1 h1
      have hc1 : d1.pieces.length = (i + 1 + 2) / 5 := by
        unfold stepP at h1
        split at h1
        · rename_i hi
          subst hi
          split at h1
          · split at h1
            · injection h1 with h1
              subst h1
              exact hc
            · cases h1
          · cases h1
        · split at h1
          · rename_i hi
            subst hi
            split at h1
            · split at h1
              · injection h1 with h1
                subst h1
                exact hc
              · cases h1
            · cases h1
          · split at h1
            · split at h1
              · injection h1 with h1
                subst h1
                show (d.pieces ++ [pc0]).length = _
                rw [List.length_append, hc]
                show _ + 1 = _
                omega
              · cases h1
            · split at h1
              · injection h1 with h1
                subst h1
                show (setLast d.pieces _ _).length = _
                unfold setLast
                rw [List.length_set, hc]
                omega
              · cases h1
      have := read_count ls (i + 1) d1 d' h hc1
      rw [this, List.length_cons]
      congr 1
      omega
    · cases h
theorem read_stop {pre ls : List (List Tx)} {ws : List Tx} {d : Pu} (hp : (pre ++ [ws]) <+: ls) (h : readP 0 pu0 pre = some d) (hs : stepP pre.length d ws = none) : readP 0 pu0 ls = none := by
  obtain ⟨r, rfl⟩ := hp
  rw [List.append_assoc, readP_app, h]
  show readP (0 + pre.length) d ([ws] ++ r) = none
  rw [Nat.zero_add, List.singleton_append, readP, hs]
theorem read_go {pre : List (List Tx)} {ws : List Tx} {d d' : Pu} (h : readP 0 pu0 pre = some d) (hs : stepP pre.length d ws = some d') : readP 0 pu0 (pre ++ [ws]) = some d' := by
  rw [readP_app, h]
  show readP (0 + pre.length) d [ws] = some d'
  rw [Nat.zero_add, readP, hs]
  rfl
theorem splitC_len (c : UInt8) : ∀ (s t : Tx), t ∈ splitC c s → t.length ≤ s.length
  | [], t, h => by
    rw [show splitC c [] = [[]] from rfl] at h
    rw [List.mem_singleton.1 h]
    exact Nat.le_refl _
  | b :: s, t, h => by
    rw [splitC_eq] at h
    split at h
    · rcases List.mem_cons.1 h with rfl | h
      · exact Nat.zero_le _
      · have := splitC_len c s t h
        simp; omega
    · have ih := splitC_len c s
      have hne := splitC_ne c s
      cases e : splitC c s with
      | nil => exact absurd e hne
      | cons y r =>
        rw [e] at h ih
        rw [show putC b (y :: r) = (b :: y) :: r from rfl] at h
        rcases List.mem_cons.1 h with rfl | h
        · have := ih y (List.mem_cons_self ..)
          simp; omega
        · have := ih t (List.mem_cons_of_mem _ h)
          simp; omega
theorem linesP_mem {s x : Tx} (h : x ∈ linesP s) : x.length ≤ s.length := by
  unfold linesP at h
  split at h
  · exact splitC_len 10 s x (List.dropLast_subset _ h)
  · exact splitC_len 10 s x h
theorem words_len {s : Tx} {ws : List Tx} (h : ws ∈ wordsL s) : ∀ t ∈ ws, t.length ≤ s.length := fun t ht => by
  unfold wordsL at h
  obtain ⟨x, hx, rfl⟩ := List.mem_map.1 h
  exact Nat.le_trans (splitC_len 32 x t ht) (linesP_mem hx)
end Go.Proofs.YtonnemkecppmiaaGreatDoor
