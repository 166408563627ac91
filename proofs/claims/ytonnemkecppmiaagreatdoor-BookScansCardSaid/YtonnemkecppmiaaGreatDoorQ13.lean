import Derived.Test.YtonnemkecppmiaaGreatDoorQ4
import Derived.Test.YtonnemkecppmiaaGreatDoorP11
namespace Go.Proofs.YtonnemkecppmiaaGreatDoor
open Go.RowKit
attribute [local go_sem] Oper.semAt_some
/-! The program: what ReadLog reads. -/
theorem parse_lt : ∀ (l : Tx) (acc m : Nat), Lib.parseUint10 acc l = .ok m → m < (acc + 1) * 10 ^ l.length
  | [], acc, m, h => by
    simp only [Lib.parseUint10] at h
    injection h with h
    subst h
    simp
  | c :: r, acc, m, h => by
    unfold Lib.parseUint10 at h
    split at h
    · rename_i hc
      split at h
      · cases h
      · split at h
        · cases h
        · have h1 := parse_lt r _ m h
          have h2 : (acc * 10 + (c.toNat - 48) + 1) * 10 ^ r.length ≤ (acc + 1) * 10 * 10 ^ r.length := Nat.mul_le_mul_right _ (by omega)
          rw [List.length_cons, Nat.pow_succ, Nat.mul_comm (10 ^ r.length) 10, ← Nat.mul_assoc]
          exact Nat.lt_of_lt_of_le h1 h2
    · cases h
theorem mag_lt {l : Tx} {u : Nat} (h : Lib.parseMag l = .ok u) (hl : l.length ≤ 5) : u < 100000 := by
  unfold Lib.parseMag at h
  split at h
  · cases h
  · have h1 := parse_lt l 0 u h
    have h2 : 10 ^ l.length ≤ 10 ^ 5 := Nat.pow_le_pow_right (by decide) hl
    omega
theorem numP_bound {l : Tx} {v : Int} (h : numP l = some v) : -100000 < v ∧ v < 100000 := by
  have hl := (numP_range h).1
  unfold numP at h
  cases l with
  | nil => cases h
  | cons c r =>
    simp only [List.length_cons] at hl
    unfold Lib.atoiAll at h
    dsimp only at h
    rcases hm : Lib.parseMag (if c.toNat = 43 ∨ c.toNat = 45 then r else c :: r) with u | _ | _
    · skip
      have hu : u < 100000 := mag_lt hm (by split; (show r.length ≤ 5; omega); (show r.length + 1 ≤ 5; omega))
      rw [hm] at h
      dsimp only at h
      rw [if_neg (by omega), if_neg (by omega)] at h
      dsimp only at h
      rw [if_pos (by show r.length + 1 ≤ 5; omega)] at h
      injection h with h
      subst h
      split <;> omega
    · rw [hm] at h; cases h
    · rw [hm] at h; cases h
/-- What was read of the lines: the minute, and the words. -/
def readLs : Int → List Wo → List (List Tx) → Option (Int × List Wo)
  | last, out, [] => some (last, out)
  | last, out, ws :: ls => match stepL last out ws with
    | some (last', out') => readLs last' out' ls
    | none => none
theorem readL_s : ∀ (ls : List (List Tx)) (last : Int) (out : List Wo), readL last out ls = (readLs last out ls).map (·.2)
  | [], _, _ => rfl
  | ws :: ls, last, out => by
    rw [readL, readLs]
    cases stepL last out ws with
    | none => rfl
    | some x => exact readL_s ls x.1 x.2
theorem readLs_app (l1 : List (List Tx)) : ∀ (last : Int) (out : List Wo) (l2 : List (List Tx)), readLs last out (l1 ++ l2) = match readLs last out l1 with
    | some (last', out') => readLs last' out' l2
    | none => none := by
  induction l1 with
  | nil => intro last out l2; rfl
  | cons ws l1 ih =>
    intro last out l2
    rw [List.cons_append, readLs, readLs]
    cases stepL last out ws with
    | none => rfl
    | some x => exact ih x.1 x.2 l2
theorem readLs_stop {pre ls : List (List Tx)} {ws : List Tx} {last : Int} {out : List Wo} (hp : (pre ++ [ws]) <+: ls) (h : readLs 0 [] pre = some (last, out)) (hs : stepL last out ws = none) : readL 0 [] ls = none := by
  obtain ⟨r, rfl⟩ := hp
  rw [readL_s, List.append_assoc, readLs_app, h]
  show (readLs last out ([ws] ++ r)).map _ = none
  rw [List.singleton_append, readLs, hs]
  rfl
theorem readLs_go {pre : List (List Tx)} {ws : List Tx} {last last' : Int} {out out' : List Wo} (h : readLs 0 [] pre = some (last, out)) (hs : stepL last out ws = some (last', out')) : readLs 0 [] (pre ++ [ws]) = some (last', out') := by
  rw [readLs_app, h]
  show readLs last out [ws] = some (last', out')
  rw [readLs, hs]
  rfl
theorem stepL_bad {last : Int} {out : List Wo} {ws : List Tx} (h : ¬ (ws.length = 3 ∧ out.length < 40)) : stepL last out ws = none := by unfold stepL; rw [if_neg h]
def addT (last : Int) (out : List Wo) (w1 w2 : Tx) : Option (Int × List Wo) := match numP w1 with
  | none => none
  | some t => match spanP w2 with
    | none => none
    | some s => some (last, out ++ [⟨t, last, s⟩])
theorem stepL_eq {last : Int} {out : List Wo} {ws : List Tx} (h : ws.length = 3 ∧ out.length < 40) : stepL last out ws =
    if Lib.hasPrefix (ws.getD 0 []) [43] = true then (match numP ((ws.getD 0 []).drop 1) with | none => none | some n => addT (last + n) out (ws.getD 1 []) (ws.getD 2 [])) else addT last out (ws.getD 1 []) (ws.getD 2 []) := by
  unfold stepL addT
  rw [if_pos h]
  cases Lib.hasPrefix (ws.getD 0 []) [43]
  · simp only [Bool.false_eq_true, if_false]
    cases numP (ws.getD 1 []) <;> cases spanP (ws.getD 2 []) <;> rfl
  · simp only [if_true]
    cases numP ((ws.getD 0 []).drop 1) with
    | none => rfl
    | some n =>
      dsimp only
      cases numP (ws.getD 1 []) <;> cases spanP (ws.getD 2 []) <;> rfl
/-! What holds between two lines of a log. -/
theorem wo_mine (c : Array Value) (f : Nat × Nat) : mineO (.cells c 66 f) = false := rfl
theorem not_ownW {W : World} {base B g : Nat} {size : Nat} {v : Value} {n : Nat} {xs : List Value} (h : W.ownsRow base 66 size v n xs) (ht : TMine B W g) : v.ownBlock ≠ some g := fun e => by
  obtain ⟨-, o, ho, hm⟩ := ht
  rcases h.2 with ⟨rfl, -⟩ | ⟨g', cap, cur, rfl, -, hh, -⟩
  · cases e
  · injection e with e
    simp only at e
    subst e
    rw [hh] at ho
    injection ho with ho
    subst ho
    cases hm
theorem KMine.ownGrownW {B base size n : Nat} {W W' : World} {v : Value} {xs : List Value} (h : W.ownsRow base 66 size v n xs) (hg : W.grownBy W' v.ownBlock) : KMine B W W' :=
  ⟨hg.size, fun k o hk ho hm => (hg.block k (Array.getElem?_eq_some_iff.1 ho).1 (fun e => not_ownW h ⟨hk, o, ho, hm⟩ e.symm)).trans ho⟩
def LI (w : World) (B bd ba : Nat) (last : Int) (out : List Wo) (W : World) : Prop := ∃ v, Bx W bd [v] ∧ Bx W ba [.int .i64 last] ∧ W.ownsRow B 66 4 v out.length (out.flatMap Wo.cells) ∧ Env W ∧ Below w.heap.size w W
theorem LI.turn {w W W' : World} {bd ba B : Nat} {last : Int} {out : List Wo} {row : Option Nat} (h : LI w B bd ba last out W) (hbd : bd < B) (hba : ba < B) (h9 : 9 ≤ B) (hw : w.heap.size ≤ B) (hg : W.grownBy W' row) (hr : ∀ r, row = some r → TMine B W r) : LI w B bd ba last out W' := by
  obtain ⟨v, h1, h2, h3, h4, h5⟩ := h
  refine ⟨v, h1.grown hg (fun e => by have := (hr _ e).1; omega), h2.grown hg (fun e => by have := (hr _ e).1; omega), h3.kept hg ?_, h4.grown hg (fun r e => by have := (hr r e).1; omega), ⟨hg.os.trans h5.os, hg.tape.trans h5.tape, hg.output.trans h5.output, Nat.le_trans h5.size hg.size, fun k hk => (hg.block k (Nat.lt_of_lt_of_le hk h5.size) (fun e => by have := (hr _ e.symm).1; omega)).trans (h5.block k hk)⟩⟩
  cases row with
  | none =>
    cases hv : v.ownBlock with
    | none => exact .inl rfl
    | some g => exact .inr (by simp)
  | some r => exact .inr (not_ownW h3 (hr r rfl))
def ILg (w : World) (B bd ba : Nat) (pre : List Wl) (W : World) : Prop := ∃ last out, readLs 0 [] (pre.map (·.ws)) = some (last, out) ∧ (-100000 * (pre.length : Int) ≤ last ∧ last ≤ 100000 * (pre.length : Int)) ∧ LI w B bd ba last out W
def LPn (w : World) (s : Tx) (ch : List PanicEntry) (W : World) : Prop := ch = [{ v := .iface 129 (.agg #[]), recovered := false }] ∧ parseL s = none ∧ Below w.heap.size w W
theorem ILg.turn {w W W' : World} {bd ba B : Nat} {pre : List Wl} {row : Option Nat} (h : ILg w B bd ba pre W) (hbd : bd < B) (hba : ba < B) (h9 : 9 ≤ B) (hw : w.heap.size ≤ B) (hg : W.grownBy W' row) (hr : ∀ r, row = some r → TMine B W r) : ILg w B bd ba pre W' := by
  obtain ⟨last, out, h1, h2, h3⟩ := h
  exact ⟨last, out, h1, h2, h3.turn hbd hba h9 hw hg hr⟩
theorem LPn.turn {w W W' : World} {B : Nat} {s : Tx} {ch : List PanicEntry} {row : Option Nat} (h : LPn w s ch W) (hw : w.heap.size ≤ B) (hg : W.grownBy W' row) (hr : ∀ r, row = some r → B ≤ r) : LPn w s ch W' := by
  obtain ⟨h1, h2, h5⟩ := h
  exact ⟨h1, h2, hg.os.trans h5.os, hg.tape.trans h5.tape, hg.output.trans h5.output, Nat.le_trans h5.size hg.size, fun k hk => (hg.block k (Nat.lt_of_lt_of_le hk h5.size) (fun e => by have := hr _ e.symm; omega)).trans (h5.block k hk)⟩
/-- Within a round. -/
def LV (w W : World) (B bd ba : Nat) (v : Value) (last : Int) (out : List Wo) (V : World) : Prop := Bx V bd [v] ∧ Bx V ba [.int .i64 last] ∧ V.ownsRow B 66 4 v out.length (out.flatMap Wo.cells) ∧ Env V ∧ Below w.heap.size w V ∧ KMine B W V
theorem LV.next {w W V V' : World} {B bd ba : Nat} {v : Value} {last : Int} {out : List Wo} (h : LV w W B bd ba v last out V) (hb : Below V.heap.size V V') : LV w W B bd ba v last out V' := by
  obtain ⟨h1, h2, h3, h4, h5, h6⟩ := h
  exact ⟨h1.next hb, h2.next hb, own_below h3 hb, h4.next hb, h5.trans (hb.mono h5.size), h6.trans (KMine.next hb)⟩
theorem LV.setA {w W V : World} {B bd ba : Nat} {v : Value} {last : Int} {out : List Wo} (h : LV w W B bd ba v last out V) (h1' : ba < B) (h2' : w.heap.size ≤ ba) (h3' : 9 ≤ ba) (h4' : bd ≠ ba) (i' : Int) : LV w W B bd ba v i' out (V.setCell ⟨ba, 0, none⟩ (.int .i64 i')) := by
  obtain ⟨h1, h2, h3, h4, h5, h6⟩ := h
  exact ⟨h1.other h4' 0 _, h2.set (k := 0) (by simp) _, h3.kept (set_grown V ba 0 _) (.inr (own_far h3 h1')), h4.grown (set_grown V ba 0 _) (fun r e => by cases e; exact h3'), h5.setCell (p := ⟨ba, 0, none⟩) h2' _, h6.trans (KMine.setBox V 0 _ h1')⟩
/-- A word is appended and the list stored. -/
theorem LV.add {w W V V' : World} {B bd ba : Nat} {v v' : Value} {last : Int} {out : List Wo} {x : Wo} (h : LV w W B bd ba v last out V) (hbd : bd < B) (hba : ba < B) (h9 : 9 ≤ bd) (hw : w.heap.size ≤ bd) (hda : bd ≠ ba) (ho : V'.ownsRow B 66 4 v' (out.length + 1) (out.flatMap Wo.cells ++ x.cells)) (hg : V.grownBy V' v.ownBlock) :
    LV w W B bd ba v' last (out ++ [x]) (V'.setCell ⟨bd, 0, none⟩ v') := by
  obtain ⟨h1, h2, h3, h4, h5, h6⟩ := h
  have e1 := h1.grown hg (own_far h3 hbd)
  have ho' : V'.ownsRow B 66 4 v' (out ++ [x]).length ((out ++ [x]).flatMap Wo.cells) := by rw [List.length_append, List.flatMap_append]; simpa using ho
  refine ⟨e1.set (k := 0) (by simp) v', (h2.grown hg (own_far h3 hba)).other (fun e => hda e.symm) 0 v', ho'.kept (set_grown V' bd 0 v') (.inr (own_far ho' hbd)), ?_, ?_, ?_⟩
  · exact (h4.grown hg (fun r e => by have := (h3.lt r e).1; omega)).grown (set_grown V' bd 0 v') (fun r e => by cases e; exact h9)
  · exact (grown_from h5 hg h5.size (fun g e => by have := (h3.lt g e).1; omega)).setCell (p := ⟨bd, 0, none⟩) hw _
  · exact (h6.trans (KMine.ownGrownW h3 hg)).trans (KMine.setBox V' 0 v' hbd)
theorem wo_len (x : Wo) : x.cells.length = 4 := rfl
theorem wo_one (x : Wo) : ∀ u ∈ x.cells, u.oneCell' = true := fun u hu => by
  simp only [Wo.cells, List.mem_cons, List.not_mem_nil, or_false] at hu
  rcases hu with rfl | rfl | rfl | rfl <;> rfl
theorem wo_info : (Tryz.prog.info? 66).map (fun i => (i.zero, i.size, i.bytes)) = some (some (.agg #[.int .i64 0, .int .i64 0, .int .i64 0, .int .i64 0]), 4, 32) := by kernel_rfl
theorem loadLg {w : World} {b : Nat} {A : Option Addr} {n c : Nat} (h : Bx w b [.slice A n c]) : (loadVar 44 ⟨b, 0, none⟩).run Tryz.prog w = .ok (.slice A n c) w := by
  have c0 := h.c 0 _ rfl
  clear h
  go_simp
theorem cutp_any (s p : Tx) (w : World) : Calls Tryz.prog 60 #[tx s, tx p] w fun e w' => e = .returned (.tuple #[tx (Lib.trimPrefix s p), .bool (Lib.hasPrefix s p)]) ∧ w' = w := Tryz.strings_CutPrefix ⟨s.toArray⟩ ⟨p.toArray⟩ w
theorem trimp_drop {s : Tx} (h : Lib.hasPrefix s [43] = true) : Lib.trimPrefix s [43] = s.drop 1 := by
  unfold Lib.trimPrefix
  rw [if_pos h]
  rfl
def RetLg (o : Option (List Wo)) (w : World) (e : Ending) (w' : World) : Prop := match o with
  | none => Miss w e w'
  | some l => ∃ v, e = .returned v ∧ w'.ownsRow w.heap.size 66 4 v l.length (l.flatMap Wo.cells) ∧ Below w.heap.size w w'
end Go.Proofs.YtonnemkecppmiaaGreatDoor
