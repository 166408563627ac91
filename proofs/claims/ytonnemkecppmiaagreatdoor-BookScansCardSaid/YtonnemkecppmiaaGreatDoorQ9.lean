import Derived.Test.YtonnemkecppmiaaGreatDoorQ8
import Derived.Test.YtonnemkecppmiaaGreatDoorP15
namespace Go.Proofs.YtonnemkecppmiaaGreatDoor
open Go.RowKit
/-! The program: what ReadScans reads: plain part and memory. -/
theorem nxt_lt : ∀ (k acc unit : Nat) (s r : Tx) (n : Nat), acc < unit → nxt k acc unit s = some (n, r) → n < unit * 128 ^ k
  | 0, _, _, _, _, _, _, h => by cases h
  | k + 1, _, _, [], _, _, _, h => by cases h
  | k + 1, acc, unit, x :: s, r, n, ha, h => by
    have hu : 0 < unit := by omega
    unfold nxt at h
    split at h
    · rename_i hx
      injection h with h
      injection h with h1 h2
      subst h1
      have h1 : x.toNat * unit ≤ 127 * unit := Nat.mul_le_mul_right _ (by omega)
      have h2 : unit * 1 ≤ unit * 128 ^ k := Nat.mul_le_mul_left _ (Nat.one_le_two_pow_128 k)
      rw [Nat.pow_succ, ← Nat.mul_assoc]
      omega
    · have hx : x.toNat < 256 := x.toNat_lt
      have h1 : (x.toNat - 128) * unit ≤ 127 * unit := Nat.mul_le_mul_right _ (by omega)
      have := nxt_lt k (acc + (x.toNat - 128) * unit) (unit * 128) s r n (by omega) h
      rw [Nat.pow_succ, Nat.mul_comm (128 ^ k) 128, ← Nat.mul_assoc]
      exact this
where Nat.one_le_two_pow_128 (k : Nat) : 1 ≤ 128 ^ k := Nat.one_le_pow _ _ (by decide)
theorem next3_lt {s r : Tx} {n : Nat} (h : next3 s = some (n, r)) : n < 2097152 := by
  have := nxt_lt 3 0 1 s r n (by decide) h
  simpa using this
/-- Spans of an edge, from the i-th on. -/
def setS (e : Ed) (i : Nat) (x : Sp) : Ed := match i with
  | 0 => { e with a := x }
  | 1 => { e with w := x }
  | _ => { e with d := x }
def spsF : Nat → Nat → Ed → Tx → Option (Ed × Tx)
  | 0, _, e, r => some (e, r)
  | n + 1, i, e, r => match spN r with
    | none => none
    | some (x, r') => spsF n (i + 1) (setS e i x) r'
theorem edN_sps (s : Tx) : edN s = match next3 s with
  | none => none
  | some (k, r) => if k = 0 then some (ed0, r) else spsF 3 0 ⟨(k : Int), sp0, sp0, sp0⟩ r := by
  unfold edN
  cases next3 s with
  | none => rfl
  | some x =>
    obtain ⟨k, r⟩ := x
    dsimp only
    split
    · rfl
    · show _ = spsF 3 0 _ r
      unfold spsF
      cases spN r with
      | none => rfl
      | some y =>
        obtain ⟨a, r1⟩ := y
        dsimp only
        unfold spsF
        cases spN r1 with
        | none => rfl
        | some y =>
          obtain ⟨b, r2⟩ := y
          dsimp only
          unfold spsF
          cases spN r2 with
          | none => rfl
          | some y =>
            obtain ⟨c, r3⟩ := y
            rfl
/-- Edges of a piece, from the k-th on. -/
def edsF : Nat → Nat → Pc → Tx → Option (Pc × Tx)
  | 0, _, p, r => some (p, r)
  | n + 1, k, p, r => match edN r with
    | none => none
    | some (e, r') => edsF n (k + 1) (setE p k e) r'
theorem pcN_eds (s : Tx) : pcN s = edsF 4 0 pc0 s := by
  unfold pcN edsF
  cases edN s with
  | none => rfl
  | some y =>
    obtain ⟨a, r1⟩ := y
    dsimp only
    unfold edsF
    cases edN r1 with
    | none => rfl
    | some y =>
      obtain ⟨b, r2⟩ := y
      dsimp only
      unfold edsF
      cases edN r2 with
      | none => rfl
      | some y =>
        obtain ⟨c, r3⟩ := y
        dsimp only
        unfold edsF
        cases edN r3 with
        | none => rfl
        | some y =>
          obtain ⟨d, r4⟩ := y
          rfl
/-- What is still to be read, behind these pieces. -/
def restP (n : Nat) (l : List Pc) (r : Tx) : Option (List Pc) := (pcsN n r).map (l ++ ·)
def restE (n k : Nat) (l : List Pc) (p : Pc) (r : Tx) : Option (List Pc) := match edsF (4 - k) k p r with
  | none => none
  | some (p', r') => restP n (l ++ [p']) r'
def restS (n k i : Nat) (l : List Pc) (p : Pc) (e : Ed) (r : Tx) : Option (List Pc) := match spsF (3 - i) i e r with
  | none => none
  | some (e', r') => restE n (k + 1) l (setE p k e') r'
theorem restP_zero (l : List Pc) (r : Tx) : restP 0 l r = some l := by unfold restP pcsN; simp
theorem restP_succ (n : Nat) (l : List Pc) (r : Tx) : restP (n + 1) l r = restE n 0 l pc0 r := by
  unfold restP restE
  rw [show 4 - 0 = 4 from rfl, ← pcN_eds, pcsN]
  cases pcN r with
  | none => rfl
  | some y =>
    obtain ⟨p, r'⟩ := y
    dsimp only
    unfold restP
    cases pcsN n r' with
    | none => rfl
    | some m => simp
theorem restE_four (n : Nat) (l : List Pc) (p : Pc) (r : Tx) : restE n 4 l p r = restP n (l ++ [p]) r := rfl
theorem restE_none {n k : Nat} {l : List Pc} {p : Pc} {r : Tx} (hk : k < 4) (h : next3 r = none) : restE n k l p r = none := by
  unfold restE
  rw [show 4 - k = (4 - (k + 1)) + 1 by omega, edsF, edN_sps, h]
theorem restE_flat {n k : Nat} {l : List Pc} {p : Pc} {r r' : Tx} (hk : k < 4) (h : next3 r = some (0, r')) : restE n k l p r = restE n (k + 1) l (setE p k ed0) r' := by
  unfold restE
  rw [show 4 - k = (4 - (k + 1)) + 1 by omega, edsF, edN_sps, h]
  rfl
theorem restE_bowed {n k K : Nat} {l : List Pc} {p : Pc} {r r' : Tx} (hk : k < 4) (h : next3 r = some (K, r')) (hK : K ≠ 0) : restE n k l p r = restS n k 0 l p ⟨(K : Int), sp0, sp0, sp0⟩ r' := by
  unfold restS
  rw [restE, show 4 - k = (4 - (k + 1)) + 1 by omega, edsF, edN_sps, h]
  dsimp only
  rw [if_neg hK, show 3 - 0 = 3 from rfl]
  cases spsF 3 0 ⟨(K : Int), sp0, sp0, sp0⟩ r' with
  | none => rfl
  | some y => rfl
theorem restS_three (n k : Nat) (l : List Pc) (p : Pc) (e : Ed) (r : Tx) : restS n k 3 l p e r = restE n (k + 1) l (setE p k e) r := rfl
theorem restS_none1 {n k i : Nat} {l : List Pc} {p : Pc} {e : Ed} {r : Tx} (hi : i < 3) (h : next3 r = none) : restS n k i l p e r = none := by
  unfold restS
  rw [show 3 - i = (3 - (i + 1)) + 1 by omega, spsF, spN, h]
theorem restS_none2 {n k i a : Nat} {l : List Pc} {p : Pc} {e : Ed} {r r' : Tx} (hi : i < 3) (h : next3 r = some (a, r')) (h2 : next3 r' = none) : restS n k i l p e r = none := by
  unfold restS
  rw [show 3 - i = (3 - (i + 1)) + 1 by omega, spsF, spN, h]
  dsimp only
  rw [h2]
theorem restS_next {n k i a b : Nat} {l : List Pc} {p : Pc} {e : Ed} {r r' r2 : Tx} (hi : i < 3) (h : next3 r = some (a, r')) (h2 : next3 r' = some (b, r2)) : restS n k i l p e r = restS n k (i + 1) l p (setS e i ⟨(a : Int), (a : Int) + b⟩) r2 := by
  unfold restS
  rw [show 3 - i = (3 - (i + 1)) + 1 by omega, spsF, spN, h]
  dsimp only
  rw [h2]
/-! Cells of a piece, set one by one. -/
theorem cells_kind (p : Pc) (k : Nat) (hk : k < 4) (K : Int) : p.cells.set (k * 7) (.int .i64 K) = (setE p k { pe p k with kind := K }).cells := by
  match k, hk with
  | 0, _ => rfl
  | 1, _ => rfl
  | 2, _ => rfl
  | 3, _ => rfl
theorem cells_kind_get (p : Pc) (k : Nat) (hk : k < 4) (e : Ed) : (setE p k e).cells[k * 7]? = some (.int .i64 e.kind) := by
  match k, hk with
  | 0, _ => rfl
  | 1, _ => rfl
  | 2, _ => rfl
  | 3, _ => rfl
theorem pe_other (p : Pc) (k j : Nat) (hk : k < j) (hj : j < 4) (e : Ed) : pe (setE p k e) j = pe p j := by
  rcases (show (k = 0 ∧ j = 1) ∨ (k = 0 ∧ j = 2) ∨ (k = 0 ∧ j = 3) ∨ (k = 1 ∧ j = 2) ∨ (k = 1 ∧ j = 3) ∨ (k = 2 ∧ j = 3) by omega) with ⟨rfl, rfl⟩ | ⟨rfl, rfl⟩ | ⟨rfl, rfl⟩ | ⟨rfl, rfl⟩ | ⟨rfl, rfl⟩ | ⟨rfl, rfl⟩ <;> rfl
theorem pe_setE (p : Pc) (k : Nat) (hk : k < 4) (e : Ed) : pe (setE p k e) k = e := by
  match k, hk with
  | 0, _ => rfl
  | 1, _ => rfl
  | 2, _ => rfl
  | 3, _ => rfl
theorem setE_setE (p : Pc) (k : Nat) (e f : Ed) : setE (setE p k e) k f = setE p k f := by
  unfold setE; match k with
  | 0 => rfl
  | 1 => rfl
  | 2 => rfl
  | _ + 3 => rfl
def spI (e : Ed) (i : Nat) : Sp := match i with
  | 0 => e.a
  | 1 => e.w
  | _ => e.d
theorem spI_setS (e : Ed) (i j : Nat) (x : Sp) (hj : j < 3) (hij : i < j) (h : spI e j = sp0) : spI (setS e i x) j = sp0 := by
  rcases (show (i = 0 ∧ j = 1) ∨ (i = 0 ∧ j = 2) ∨ (i = 1 ∧ j = 2) by omega) with ⟨rfl, rfl⟩ | ⟨rfl, rfl⟩ | ⟨rfl, rfl⟩ <;> exact h
theorem cells_lo (p : Pc) (k i : Nat) (hk : k < 4) (hi : i < 3) (e : Ed) (x : Int) (h0 : spI e i = sp0) : (setE p k e).cells.set (k * 7 + (1 + 2 * i)) (.int .i64 x) = (setE p k (setS e i ⟨x, 0⟩)).cells := by
  match k, hk, i, hi with
  | 0, _, 0, _ => cases e; cases h0; rfl
  | 0, _, 1, _ => cases e; cases h0; rfl
  | 0, _, 2, _ => cases e; cases h0; rfl
  | 1, _, 0, _ => cases e; cases h0; rfl
  | 1, _, 1, _ => cases e; cases h0; rfl
  | 1, _, 2, _ => cases e; cases h0; rfl
  | 2, _, 0, _ => cases e; cases h0; rfl
  | 2, _, 1, _ => cases e; cases h0; rfl
  | 2, _, 2, _ => cases e; cases h0; rfl
  | 3, _, 0, _ => cases e; cases h0; rfl
  | 3, _, 1, _ => cases e; cases h0; rfl
  | 3, _, 2, _ => cases e; cases h0; rfl
theorem cells_hi (p : Pc) (k i : Nat) (hk : k < 4) (hi : i < 3) (e : Ed) (x y z : Int) : (setE p k (setS e i ⟨x, z⟩)).cells.set (k * 7 + (2 + 2 * i)) (.int .i64 y) = (setE p k (setS e i ⟨x, y⟩)).cells := by
  match k, hk, i, hi with
  | 0, _, 0, _ => rfl
  | 0, _, 1, _ => rfl
  | 0, _, 2, _ => rfl
  | 1, _, 0, _ => rfl
  | 1, _, 1, _ => rfl
  | 1, _, 2, _ => rfl
  | 2, _, 0, _ => rfl
  | 2, _, 1, _ => rfl
  | 2, _, 2, _ => rfl
  | 3, _, 0, _ => rfl
  | 3, _, 1, _ => rfl
  | 3, _, 2, _ => rfl
theorem cells_lo_get (p : Pc) (k i : Nat) (hk : k < 4) (hi : i < 3) (e : Ed) (x y : Int) : (setE p k (setS e i ⟨x, y⟩)).cells[k * 7 + (1 + 2 * i)]? = some (.int .i64 x) := by
  match k, hk, i, hi with
  | 0, _, 0, _ => rfl
  | 0, _, 1, _ => rfl
  | 0, _, 2, _ => rfl
  | 1, _, 0, _ => rfl
  | 1, _, 1, _ => rfl
  | 1, _, 2, _ => rfl
  | 2, _, 0, _ => rfl
  | 2, _, 1, _ => rfl
  | 2, _, 2, _ => rfl
  | 3, _, 0, _ => rfl
  | 3, _, 1, _ => rfl
  | 3, _, 2, _ => rfl
theorem cells_hi_get (p : Pc) (k i : Nat) (hk : k < 4) (hi : i < 3) (e : Ed) (x y : Int) : (setE p k (setS e i ⟨x, y⟩)).cells[k * 7 + (2 + 2 * i)]? = some (.int .i64 y) := by
  match k, hk, i, hi with
  | 0, _, 0, _ => rfl
  | 0, _, 1, _ => rfl
  | 0, _, 2, _ => rfl
  | 1, _, 0, _ => rfl
  | 1, _, 1, _ => rfl
  | 1, _, 2, _ => rfl
  | 2, _, 0, _ => rfl
  | 2, _, 1, _ => rfl
  | 2, _, 2, _ => rfl
  | 3, _, 0, _ => rfl
  | 3, _, 1, _ => rfl
  | 3, _, 2, _ => rfl
theorem cells_zero_get (p : Pc) (k i : Nat) (hk : k < 4) (hi : i < 3) (e : Ed) (h0 : spI e i = sp0) : (setE p k e).cells[k * 7 + (1 + 2 * i)]? = some (.int .i64 0) := by
  match k, hk, i, hi with
  | 0, _, 0, _ => cases e; cases h0; rfl
  | 0, _, 1, _ => cases e; cases h0; rfl
  | 0, _, 2, _ => cases e; cases h0; rfl
  | 1, _, 0, _ => cases e; cases h0; rfl
  | 1, _, 1, _ => cases e; cases h0; rfl
  | 1, _, 2, _ => cases e; cases h0; rfl
  | 2, _, 0, _ => cases e; cases h0; rfl
  | 2, _, 1, _ => cases e; cases h0; rfl
  | 2, _, 2, _ => cases e; cases h0; rfl
  | 3, _, 0, _ => cases e; cases h0; rfl
  | 3, _, 1, _ => cases e; cases h0; rfl
  | 3, _, 2, _ => cases e; cases h0; rfl
theorem ptr_get (b k i : Nat) (hi : i < 3) : ([.pointer (some ⟨b, k * 7 + 1, none⟩), .pointer (some ⟨b, k * 7 + 3, none⟩), .pointer (some ⟨b, k * 7 + 5, none⟩)] : List Value)[i]? = some (.pointer (some ⟨b, k * 7 + (1 + 2 * i), none⟩)) := by
  match i, hi with
  | 0, _ => rfl
  | 1, _ => rfl
  | 2, _ => rfl
/-! What holds while scans are read. -/
structure SI (w0 : World) (br : Nat) (r : Tx) (v : Value) (l : List Pc) (W : World) : Prop where
  rd : Bx W br [tx r]
  own : W.ownsRow (br + 1) 51 28 v l.length (l.flatMap Pc.cells)
  b : Below w0.heap.size w0 W
theorem SI.turn {w0 W W' : World} {br : Nat} {r r' : Tx} {v : Value} {l : List Pc} (h : SI w0 br r v l W) (hw : w0.heap.size ≤ br) (hx : Bx W' br [tx r']) (hg : W.grownBy W' (some br)) : SI w0 br r' v l W' :=
  ⟨hx, h.own.kept hg (.inr (own_far h.own (by omega))), ⟨hg.os.trans h.b.os, hg.tape.trans h.b.tape, hg.output.trans h.b.output, Nat.le_trans h.b.size hg.size, fun k hk => (hg.block k (Nat.lt_of_lt_of_le hk h.b.size) (fun e => by injection e with e; omega)).trans (h.b.block k hk)⟩⟩
theorem SI.pan {w0 W W' : World} {br : Nat} {r : Tx} {v : Value} {l : List Pc} (h : SI w0 br r v l W) (hw : w0.heap.size ≤ br) (hg : W.grownBy W' (some br)) : Below w0.heap.size w0 W' :=
  ⟨hg.os.trans h.b.os, hg.tape.trans h.b.tape, hg.output.trans h.b.output, Nat.le_trans h.b.size hg.size, fun k hk => (hg.block k (Nat.lt_of_lt_of_le hk h.b.size) (fun e => by injection e with e; omega)).trans (h.b.block k hk)⟩
theorem SI.next {w0 W W' : World} {br : Nat} {r : Tx} {v : Value} {l : List Pc} (h : SI w0 br r v l W) (hb : Below W.heap.size W W') : SI w0 br r v l W' :=
  ⟨h.rd.next hb, own_below h.own hb, h.b.trans (hb.mono h.b.size)⟩
theorem sets_grown1 (W : World) (b j : Nat) (v : Value) : W.grownBy (W.setCell ⟨b, j, none⟩ v) (some b) := by
  refine ⟨rfl, rfl, rfl, by rw [World.size_setCell]; exact Nat.le_refl _, fun k _ hne => ?_⟩
  unfold World.setCell
  rw [Array.getElem?_modify, if_neg (by show ¬ b = k; exact fun e => hne (by rw [e]))]
theorem SI.set {w0 W : World} {br bp : Nat} {r : Tx} {v : Value} {l : List Pc} (h : SI w0 br r v l W) (hne : v.ownBlock ≠ some bp) (hbp : br ≠ bp) (hwb : w0.heap.size ≤ bp) (j : Nat) (u : Value) : SI w0 br r v l (W.setCell ⟨bp, j, none⟩ u) :=
  ⟨h.rd.other hbp j u, h.own.kept (sets_grown1 W bp j u) (.inr hne), h.b.setCell (p := ⟨bp, j, none⟩) hwb u⟩
end Go.Proofs.YtonnemkecppmiaaGreatDoor
