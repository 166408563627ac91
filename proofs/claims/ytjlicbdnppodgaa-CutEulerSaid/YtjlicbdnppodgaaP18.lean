import Derived.Test.YtjlicbdnppodgaaP17
import Derived.Test.YtjlicbdnppodgaaApp
import Derived.Test.YtjlicbdnppodgaaR12
import Derived.Deep.AppendLies
import Derived.Maps.AppendAt
namespace Go.Proofs.Ytjlicbdnppodgaa
section
open Go.RowKit
/-! Plain: what saw asks of the pieces of rectangles. -/
theorem one_iff {c : Cut} (ok : OkC c) {n : Nat} {x0 y0 x1 y1 : Int} (hR : Rec c n x0 y0 x1 y1) : oneB c x0 y0 x1 y1 = true ↔ ∀ p, HasR c x0 y0 x1 y1 p → p = at2 c x0 y0 := by
  unfold oneB
  rw [List.all_eq_true]
  have hx := hR.x
  have hy := hR.y
  constructor
  · rintro h p ⟨x, y, h1, h2, e⟩
    have hin : inG c (x, y) := by unfold inG isIn inS; simp only [Bool.and_eq_true, decide_eq_true_eq]; omega
    obtain ⟨j, hj, e2, -⟩ := idx_of ok hin
    have h3 := h j (List.mem_range.2 hj)
    have e4 : colI c j = x := (congrArg Prod.fst e2).symm
    have e5 : rowI c j = y := (congrArg Prod.snd e2).symm
    have h6 : insR c j x0 y0 x1 y1 = true := by unfold insR inS; rw [e4, e5]; simp only [Bool.and_eq_true, decide_eq_true_eq]; omega
    rw [h6] at h3
    simp only [Bool.not_true, Bool.false_or, decide_eq_true_eq] at h3
    rw [← h3, ← e, ← ok.at_cell hj, e4, e5]
  · intro h i hi
    have hi := List.mem_range.1 hi
    cases h6 : insR c i x0 y0 x1 y1
    · rfl
    · unfold insR inS at h6
      simp only [Bool.and_eq_true, decide_eq_true_eq] at h6
      have := h (atI c i) ⟨colI c i, rowI c i, by omega, by omega, ok.at_cell hi⟩
      simp [this]
theorem goes_row_iff {c : Cut} (ok : OkC c) {n : Nat} {x0 y0 x1 y1 y : Int} (hR : Rec c n x0 y0 x1 y1) (hy : y0 < y ∧ y < y1) : goesB c x0 y0 x1 y1 false y = true ↔ ∀ p, ¬ (HasR c x0 y0 x1 y p ∧ HasR c x0 y x1 y1 p) := by
  have hx := hR.x
  have hy2 := hR.y
  unfold goesB
  rw [List.all_eq_true]
  constructor
  · rintro h p ⟨⟨xa, ya, h1, h2, ea⟩, xb, yb, h3, h4, eb⟩
    have ina : inG c (xa, ya) := by unfold inG isIn inS; simp only [Bool.and_eq_true, decide_eq_true_eq]; omega
    have inb : inG c (xb, yb) := by unfold inG isIn inS; simp only [Bool.and_eq_true, decide_eq_true_eq]; omega
    obtain ⟨i, hi, ei, -⟩ := idx_of ok ina
    obtain ⟨k, hk, ek, -⟩ := idx_of ok inb
    have ci : colI c i = xa := (congrArg Prod.fst ei).symm
    have ri : rowI c i = ya := (congrArg Prod.snd ei).symm
    have ck : colI c k = xb := (congrArg Prod.fst ek).symm
    have rk : rowI c k = yb := (congrArg Prod.snd ek).symm
    have h5 := h i (List.mem_range.2 hi)
    rw [List.all_eq_true] at h5
    have h6 := h5 k (List.mem_range.2 hk)
    have ai := ok.at_cell hi
    have ak := ok.at_cell hk
    rw [ci, ri, ea] at ai
    rw [ck, rk, eb] at ak
    have hm : meetB c x0 y0 x1 y1 false y i k = true := by
      unfold meetB insR nearB inS
      rw [ci, ri, ck, rk, ← ai, ← ak]
      simp only [Bool.and_eq_true, decide_eq_true_eq, if_false, Bool.not_eq_true', decide_eq_false_iff_not, Bool.false_eq_true]
      refine ⟨⟨⟨⟨trivial, by omega⟩, by omega⟩, ?_⟩, ?_⟩ <;> first | omega | (simp; omega)
    rw [hm] at h6
    simp at h6
  · intro h i hi
    rw [List.all_eq_true]
    intro k hk
    have hi := List.mem_range.1 hi
    have hk := List.mem_range.1 hk
    cases hm : meetB c x0 y0 x1 y1 false y i k
    · rfl
    · unfold meetB insR nearB inS at hm
      simp only [Bool.and_eq_true, decide_eq_true_eq, if_false, Bool.not_eq_true', decide_eq_false_iff_not, Bool.false_eq_true] at hm
      exact absurd ⟨⟨colI c i, rowI c i, by omega, by omega, ok.at_cell hi⟩, ⟨colI c k, rowI c k, by omega, by omega, (ok.at_cell hk).trans hm.1.1.1.1.symm⟩⟩ (h (atI c i))
theorem goes_col_iff {c : Cut} (ok : OkC c) {n : Nat} {x0 y0 x1 y1 y : Int} (hR : Rec c n x0 y0 x1 y1) (hy : x0 < y ∧ y < x1) : goesB c x0 y0 x1 y1 true y = true ↔ ∀ p, ¬ (HasR c x0 y0 y y1 p ∧ HasR c y y0 x1 y1 p) := by
  have hx := hR.x
  have hy2 := hR.y
  unfold goesB
  rw [List.all_eq_true]
  constructor
  · rintro h p ⟨⟨xa, ya, h1, h2, ea⟩, xb, yb, h3, h4, eb⟩
    have ina : inG c (xa, ya) := by unfold inG isIn inS; simp only [Bool.and_eq_true, decide_eq_true_eq]; omega
    have inb : inG c (xb, yb) := by unfold inG isIn inS; simp only [Bool.and_eq_true, decide_eq_true_eq]; omega
    obtain ⟨i, hi, ei, -⟩ := idx_of ok ina
    obtain ⟨k, hk, ek, -⟩ := idx_of ok inb
    have ci : colI c i = xa := (congrArg Prod.fst ei).symm
    have ri : rowI c i = ya := (congrArg Prod.snd ei).symm
    have ck : colI c k = xb := (congrArg Prod.fst ek).symm
    have rk : rowI c k = yb := (congrArg Prod.snd ek).symm
    have h5 := h i (List.mem_range.2 hi)
    rw [List.all_eq_true] at h5
    have h6 := h5 k (List.mem_range.2 hk)
    have ai := ok.at_cell hi
    have ak := ok.at_cell hk
    rw [ci, ri, ea] at ai
    rw [ck, rk, eb] at ak
    have hm : meetB c x0 y0 x1 y1 true y i k = true := by
      unfold meetB insR nearB inS
      rw [ci, ri, ck, rk, ← ai, ← ak]
      simp only [Bool.and_eq_true, decide_eq_true_eq, if_true, Bool.not_eq_true', decide_eq_false_iff_not]
      refine ⟨⟨⟨⟨trivial, by omega⟩, by omega⟩, ?_⟩, ?_⟩ <;> first | omega | (simp; omega)
    rw [hm] at h6
    simp at h6
  · intro h i hi
    rw [List.all_eq_true]
    intro k hk
    have hi := List.mem_range.1 hi
    have hk := List.mem_range.1 hk
    cases hm : meetB c x0 y0 x1 y1 true y i k
    · rfl
    · unfold meetB insR nearB inS at hm
      simp only [Bool.and_eq_true, decide_eq_true_eq, if_true, Bool.not_eq_true', decide_eq_false_iff_not] at hm
      exact absurd ⟨⟨colI c i, rowI c i, by omega, by omega, ok.at_cell hi⟩, ⟨colI c k, rowI c k, by omega, by omega, (ok.at_cell hk).trans hm.1.1.1.1.symm⟩⟩ (h (atI c i))
/-- How many keys a map has: one just if all are one. -/
theorem map_len {b : Nat} {f : Int → Option Int} {W : World} (h : MapIs Try.prog 3 vvI vvI b f W) (t : TypeId) (ht : Try.prog.underlying t = some (.map 3 3)) (ty : TypeId) :
    ∃ n : Nat, (Builtin.len_ #[t] ty #[.map (some b)]).run Try.prog W = Result.ok (.int .i64 (n : Int)) W ∧ (n = 1 ↔ (∃ p, (f p).isSome = true) ∧ ∀ p q, (f p).isSome = true → (f q).isSome = true → p = q) := by
  obtain ⟨es, clock, hb, hh⟩ := h
  have hst := (MapKept.stamped_iff es clock).1 hh.st
  refine ⟨es.size, ?_, ?_⟩
  · simp [Builtin.len_, run_underlying ht, MapKept.run_getObj_map hb, goInt, Result.andThen]
  · have keyAt : ∀ p, (f p).isSome = true → ∃ x ∈ es.toList, x.key = vvI p := fun p hp => by
      obtain ⟨v, hv⟩ := Option.isSome_iff_exists.1 hp
      exact hh.al p v hv
    constructor
    · intro h1
      have h1 : es.toList.length = 1 := by simpa using h1
      match hl : es.toList, h1 with
      | [x], _ =>
        obtain ⟨p, v, l, h2, h3, h4, h5⟩ := hh.en x (by rw [hl]; simp)
        refine ⟨⟨p, by rw [h5]; rfl⟩, fun a b ha hb2 => ?_⟩
        obtain ⟨xa, hxa, ka⟩ := keyAt a ha
        obtain ⟨xb, hxb, kb⟩ := keyAt b hb2
        rw [hl, List.mem_singleton] at hxa hxb
        subst hxa
        subst hxb
        exact kvI_inj _ _ (ka.symm.trans kb)
    · rintro ⟨⟨p, hp⟩, hu⟩
      obtain ⟨x, hx, -⟩ := keyAt p hp
      show es.size = 1
      rw [← Array.length_toList]
      match hl : es.toList, hx with
      | [x], _ => rfl
      | x :: y :: l, _ =>
        exfalso
        obtain ⟨p1, v1, l1, a1, a2, a3, a4⟩ := hh.en x (by rw [hl]; simp)
        obtain ⟨p2, v2, l2, b1, b2, b3, b4⟩ := hh.en y (by rw [hl]; simp)
        have hpw := hst.2.2
        rw [hl, List.pairwise_cons] at hpw
        refine hpw.1 y (List.mem_cons_self ..) ?_
        rw [a2, b2, hu p1 p2 (by rw [a4]; rfl) (by rw [b4]; rfl)]
end
section
open Go.RowKit
open Go.Maps (Keyed)
attribute [local go_sem] Oper.semAt_some
/-! The program: saw. -/
/-- All that lay there is as it lay, but the variable bl and the row of v. -/
structure KpS (bl : Nat) (v : Value) (w w' : World) : Prop where
  os : w'.os = w.os
  tape : w'.tape = w.tape
  output : w'.output = w.output
  size : w.heap.size ≤ w'.heap.size
  block : ∀ b, b < w.heap.size → b ≠ bl → v.ownBlock ≠ some b → w'.heap[b]? = w.heap[b]?
theorem KpS.of_below {bl : Nat} {v : Value} {w w' : World} (h : Below w.heap.size w w') : KpS bl v w w' := ⟨h.os, h.tape, h.output, h.size, fun b hb _ _ => h.block b hb⟩
/-- On from there, where the row has grown. -/
theorem KpS.trans {bl : Nat} {v v1 : Value} {a b c : World} (h : KpS bl v a b) (k : KpS bl v1 b c) (hv : ∀ q, v1.ownBlock = some q → v.ownBlock = some q ∨ a.heap.size ≤ q) : KpS bl v a c :=
  ⟨k.os.trans h.os, k.tape.trans h.tape, k.output.trans h.output, Nat.le_trans h.size k.size, fun q hq h1 h2 => (k.block q (Nat.lt_of_lt_of_le hq h.size) h1 (fun e => (hv q e).elim (fun e2 => h2 e2) (fun e2 => by omega))).trans (h.block q hq h1 h2)⟩
theorem KpS.bx {bl : Nat} {v : Value} {w w' : World} (k : KpS bl v w w') {b : Nat} {vs : List Value} (h : Bx w b vs) (h1 : b ≠ bl) (h2 : v.ownBlock ≠ some b) : Bx w' b vs := h.of k.size (k.block b h.lt h1 h2)
structure SwPost (r : List Ln × Bool) (area : Int) (bl B : Nat) (w : World) (v : Value) (l0 : List Ln) (w' : World) (v' : Value) (l' : List Ln) : Prop where
  own : w'.ownsRow B 61 4 v' l'.length (l'.flatMap lineC)
  bx : Bx w' bl [v']
  ok : r.2 = true → l' = l0 ++ r.1
  len : (l'.length : Int) + 1 ≤ l0.length + area
  kp : KpS bl v w w'
  ob : ∀ q, v'.ownBlock = some q → v.ownBlock = some q ∨ w.heap.size ≤ q
def RetSP (r : List Ln × Bool) (area : Int) (bl B : Nat) (w : World) (v : Value) (l0 : List Ln) (e : Ending) (w' : World) : Prop := e = .returned (.bool r.2) ∧ ∃ v' l', SwPost r area bl B w v l0 w' v' l'
theorem SwPost.put {r : List Ln × Bool} {area : Int} {bl B : Nat} {w : World} {v : Value} {l0 : List Ln} {w' : World} {v' : Value} {l' : List Ln} (h : SwPost r area bl B w v l0 w' v' l') (D : Nat) (hD : w.heap.size ≤ D) (hd : w'.heap[D]? = some (.deferred (some []))) : SwPost r area bl B w v l0 (w'.putObj D (.deferred none)) v' l' := by
  have hg := grownBy_putObj' w' D (.deferred none)
  have hnb : bl ≠ D := fun e => by
    have := h.bx.c 0 _ rfl
    unfold World.cell? at this
    rw [e, hd] at this
    simp at this
  have hno : v'.ownBlock ≠ some D := fun e => by
    rcases h.own.2 with ⟨rfl, -⟩ | ⟨g, cap, cur, rfl, -, hh, -⟩
    · cases e
    · injection e with e
      simp only at e
      rw [e, hd] at hh
      injection hh with hh
      cases hh
  refine ⟨h.own.kept hg (.inr hno), h.bx.gk hg (fun r e => by injection e with e; omega), h.ok, h.len, ⟨h.kp.os, h.kp.tape, h.kp.output, Nat.le_trans h.kp.size hg.size, fun b hb h1 h2 => ?_⟩, h.ob⟩
  rw [World.putObj_heap_other (by omega)]
  exact h.kp.block b hb h1 h2
/-- Before any line has been found. -/
structure SwI (V W : World) (Ds : List Nat) : Prop where
  b : Below V.heap.size V W
  d : DefsOk V.heap.size W.heap.size Ds W
structure RO (c : Cut) (x0 y0 x1 y1 : Int) (g23 : Nat) (V W : World) (Ds : List Nat) (i : Nat) : Prop where
  hi : i ≤ 2
  si : SwI V W Ds
  fn : Bx W g23 [.func (.func 70) #[] #[], .func (.func 71) #[] #[]]
  rows : 1 ≤ i → ∀ t : Nat, y0 + 1 + (t : Int) < y1 → goesB c x0 y0 x1 y1 false (y0 + 1 + (t : Int)) = false
  cols : 2 ≤ i → ∀ t : Nat, x0 + 1 + (t : Int) < x1 → goesB c x0 y0 x1 y1 true (x0 + 1 + (t : Int)) = false
structure RN (c : Cut) (x0 y0 x1 y1 : Int) (up : Bool) (z0 : Int) (g23 : Nat) (V W : World) (Ds : List Nat) (j : Nat) : Prop where
  si : SwI V W Ds
  fn : Bx W g23 [.func (.func 70) #[] #[], .func (.func 71) #[] #[]]
  al : ∀ t : Nat, t < j → goesB c x0 y0 x1 y1 up (z0 + 1 + (t : Int)) = false
/-- The range over the near part's keys. -/
def KyI (W0 : World) (Far : Int → Prop) {f : Int → Option Int} (pre : List (KeyI f)) (W : World) : Prop := Below W0.heap.size W0 W ∧ ∀ x : KeyI f, x ∈ pre → ¬ Far x.1
def KyX (W0 : World) (Both : Int → Prop) {f : Int → Option Int} (cc : Code) (_ : List (KeyI f)) (W : World) : Prop := cc = .exit 3 ∧ Below W0.heap.size W0 W ∧ ∃ p, Both p
theorem KyI.own (W0 : World) (Far : Int → Prop) {f : Int → Option Int} : OwnFrom W0.heap.size (KyI W0 Far (f := f)) := fun _ _ _ _ h hg hr => ⟨h.1.grown hg h.1.size (fun k e => (hr k e).1), h.2⟩
theorem KyX.own (W0 : World) (Both : Int → Prop) {f : Int → Option Int} (cc : Code) : OwnFrom W0.heap.size (KyX W0 Both (f := f) cc) := fun _ _ _ _ h hg hr => ⟨h.1, h.2.1.grown hg h.2.1.size (fun k e => (hr k e).1), h.2.2⟩
theorem wpIn_rangeFunc_ownV {F : Fence} {n : Nat} {P : Program} {α : Type} {g : Operand} {ps : Array Tmp} {assign body : Code} {Q : Exit → Act → World → Prop} {a : Act} {w : World}
    (hro : F.round = none) (h1 : 1 ≤ n) {gf : Nat} {lb : Array Value} (hg : a.eval g = .func (.func gf) #[] lb) (hFg : F.fn gf) (eg : ∀ args w, (callFunc gf args).run P w = .ok (.enter gf args) w)
    {encs : α → Array Value} {Kp : World → World → Prop} {S Sp : List α → Prop} {N : Nat} {w0 : World} (hseq : SeqStopsK F (n - 1) P gf lb encs Kp S Sp N w0)
    (hKt : ∀ {A B C : World}, Kp A B → Kp B C → Kp A C) (hKr : ∀ A, Kp A A) (hKb : ∀ (W : World) (l : Nat) (o o' : Obj), w.heap.size ≤ l → W.heap[l]? = some o → o.isCells = false → o.isWalk = false → Kp W (W.putObj l o')) (hb0 : Below w0.heap.size w0 w) (hps : ∀ x, (encs x).size = ps.size)
    (I : List α → World → Prop) (Ix : Code → List α → World → Prop) (hI : OwnFrom w.heap.size I) (hIx : ∀ c, OwnFrom w.heap.size (Ix c)) (h0 : I [] w) (a₁ : α → Act)
    (hassign : ∀ (l : Nat) (x : α) (W : World) (K : Act → World → Prop), K (a₁ x) W →
      assign.wpIn (F.inRound l) (n - 1 - 1) P (Exit.then K (fun _ _ _ => False)) { tmps := (ps.zip (encs x)).foldl (fun t (p, v) => t.setIfInBounds p v) a.tmps, defers := [] } W)
    (hbody : ∀ (l : Nat) (pre : List α) (x : α) (W : World), w.heap.size ≤ l → (∃ r, W.heap[l]? = some (.loop r)) → I pre W → pre.length < N → body.wpIn (F.inRound l) (n - 1 - 1) P (ownPostG w.heap.size Kp I Ix (pre ++ [x]) W) (a₁ x) W)
    (hdone : ∀ (D : Nat) (xs : List α) (W : World), w.heap.size ≤ D → S xs → I xs W → W.heap[D]? = some (.deferred (some [])) → Q .normal { a with defers := { target := .collected D, args := #[] } :: a.defers } W)
    (hstop : ∀ (D : Nat) (c : Code) (pre : List α) (W : World), w.heap.size ≤ D → Sp pre → Ix c pre W → W.heap[D]? = some (.deferred (some [])) → c.wpIn F n P Q { a with defers := { target := .collected D, args := #[] } :: a.defers } W) :
    (Code.rangeFunc g ps assign body).wpIn F n P Q a w :=
  wpIn_rangeFunc_ownH hro h1 hg hFg eg hseq hKt hKb hb0 hps I Ix hI hIx h0 (fun x a' _ => a' = a₁ x) (fun _ _ _ _ _ _ h _ _ => h)
    (fun l pre x W K hp hK => hassign l x W K (hK _ _ (KeepsFrom.refl _ _) (hKr _) hp rfl))
    (fun l pre x a' W h1 h2 h3 h4 h5 => by subst h4; exact hbody l pre x W h1 h2 h3 h5) hdone hstop
theorem KpM.refl (bc b : Nat) (W : World) : KpM bc b W W := ⟨Nat.le_refl _, rfl, rfl, fun _ _ h _ => h⟩
theorem hasR_i64 {c : Cut} (ok : OkC c) {x0 y0 x1 y1 p : Int} (h : HasR c x0 y0 x1 y1 p) : I64 p := by
  obtain ⟨x, y, -, -, e⟩ := h
  have := ok.at_bd x y
  constructor <;> omega
/-! What stands when a line has been found. -/
theorem own_kind {w : World} {base : Nat} {e : TypeId} {size : Nat} {v : Value} {n : Nat} {xs : List Value} (h : w.ownsRow base e size v n xs) {b : Nat} {o : Obj} (ho : w.heap[b]? = some o) (hc : o.isCells = false) : v.ownBlock ≠ some b := fun e1 => by
  rcases h.2 with ⟨rfl, -⟩ | ⟨g, cap, cur, rfl, -, hh, -⟩
  · cases e1
  · injection e1 with e1
    simp only at e1
    rw [e1, ho] at hh
    injection hh with hh
    subst hh
    cases hc
theorem bx_kind {w : World} {b d : Nat} {x : Value} {vs : List Value} (h : Bx w b (x :: vs)) {o : Obj} (ho : w.heap[d]? = some o) (hc : o.isCells = false) : d ≠ b := fun e => by
  obtain ⟨o2, h2, hc2⟩ := cells_of_cell (h.c 0 _ rfl)
  simp only at h2
  rw [← e, ho] at h2
  injection h2 with h2
  subst h2
  rw [hc] at hc2
  cases hc2
theorem KpS.kind {bl : Nat} {v : Value} {w w' : World} (k : KpS bl v w w') {base : Nat} {e : TypeId} {size n : Nat} {xs : List Value} {x : Value} (hown : w.ownsRow base e size v n xs) (hbx : Bx w bl [x]) {d : Nat} {o : Obj} (ho : w.heap[d]? = some o) (hc : o.isCells = false) : w'.heap[d]? = w.heap[d]? :=
  k.block d (Array.getElem?_eq_some_iff.1 ho).1 (bx_kind hbx ho hc) (own_kind hown ho hc)
structure SwB (c : Cut) (bm bl B g12 g13 lo : Nat) (rA rB : List Value) (w : World) (v : Value) (Ds : List Nat) (W : World) (v' : Value) (l : List Ln) : Prop where
  own : W.ownsRow B 61 4 v' l.length (l.flatMap lineC)
  bx : Bx W bl [v']
  kp : KpS bl v w W
  ob : ∀ q, v'.ownBlock = some q → v.ownBlock = some q ∨ w.heap.size ≤ q
  pic : PicAt c bm W
  x3 : Bx W w.heap.size (picL c bm)
  xa : Bx W g12 rA
  xb : Bx W g13 rB
  far : v'.ownBlock ≠ some w.heap.size ∧ v'.ownBlock ≠ some g12 ∧ v'.ownBlock ≠ some g13
  ne : w.heap.size ≠ bl ∧ g12 ≠ bl ∧ g13 ≠ bl
  df : DefsOk lo W.heap.size Ds W
theorem SwB.step {c : Cut} {bm bl B g12 g13 lo : Nat} {rA rB : List Value} {w : World} {v : Value} {Ds : List Nat} {W : World} {v' : Value} {l : List Ln} (h : SwB c bm bl B g12 g13 lo rA rB w v Ds W v' l) {r : List Ln × Bool} {area : Int} {W1 : World} {v1 : Value} {l1 : List Ln} (p : SwPost r area bl B W v' l W1 v1 l1) : SwB c bm bl B g12 g13 lo rA rB w v Ds W1 v1 l1 := by
  have hfar : ∀ x : Nat, x < W.heap.size → v'.ownBlock ≠ some x → v1.ownBlock ≠ some x := fun x hx hn e => (p.ob x e).elim hn (fun h2 => by omega)
  refine ⟨p.own, p.bx, h.kp.trans p.kp h.ob, fun q hq => (p.ob q hq).elim (fun h2 => h.ob q h2) (fun h2 => .inr (Nat.le_trans h.kp.size h2)), h.pic.of ?_, p.kp.bx h.x3 h.ne.1 h.far.1, p.kp.bx h.xa h.ne.2.1 h.far.2.1, p.kp.bx h.xb h.ne.2.2 h.far.2.2, ⟨hfar _ h.x3.lt h.far.1, hfar _ h.xa.lt h.far.2.1, hfar _ h.xb.lt h.far.2.2⟩, h.ne, (h.df.of fun D hD => p.kp.kind h.own h.bx (h.df.at_ D hD) rfl).more p.kp.size⟩
  obtain ⟨es, clock, hb, -⟩ := h.pic
  exact p.kp.kind h.own h.bx hb rfl
theorem SwB.end_ {c : Cut} {bm bl B g12 g13 lo : Nat} {rA rB : List Value} {w : World} {v : Value} {Ds : List Nat} {W : World} {v' : Value} {l l0 : List Ln} (h : SwB c bm bl B g12 g13 lo rA rB w v Ds W v' l) {r : List Ln × Bool} {area : Int} (h1 : r.2 = true → l = l0 ++ r.1) (h2 : (l.length : Int) + 1 ≤ l0.length + area) : SwPost r area bl B w v l0 W v' l := ⟨h.own, h.bx, h1, h2, h.kp, h.ob⟩
theorem own_setP {w : World} {base b : Nat} {e : TypeId} {size : Nat} {v : Value} {n : Nat} {xs : List Value} (h : w.ownsRow base e size v n xs) (hb : b < base) (o : Nat) (u : Value) : (w.setCell ⟨b, o, none⟩ u).ownsRow base e size v n xs :=
  h.kept (row := some b) ⟨rfl, rfl, rfl, by rw [World.size_setCell]; exact Nat.le_refl _, fun i _ hi => blkSet (fun e => hi (by rw [e])) _ _⟩ (.inr (own_row_ne h hb))
theorem news_bx {W : World} {g : Nat} {vs : List Value} (h : Bx W g vs) : ∀ j u, vs[j]? = some u → W.cell? ((⟨g, 0, none⟩ : Addr).add j) = some u := fun j u hu => by
  have hadd : (⟨g, 0, none⟩ : Addr).add j = ⟨g, j, none⟩ := by unfold Addr.add; split <;> simp_all
  rw [hadd]
  exact h.c j u hu
theorem swB_start {c : Cut} {bm bl B g12 g13 lo : Nat} {rA rB : List Value} {w WA w5 w6 : World} {v : Value} {Ds : List Nat} {l0 : List Ln} {ln : Ln} {g6 cap6 : Nat}
    (hown : w.ownsRow B 61 4 v l0.length (l0.flatMap lineC)) (hbl : Bx w bl [v]) (hlt : bl < B) (hp : PicAt c bm w) (hbA : Below w.heap.size w WA) (x3 : Bx WA w.heap.size (picL c bm)) (xa : Bx WA g12 rA) (xb : Bx WA g13 rB) (hg : w.heap.size < g12 ∧ w.heap.size < g13) (df : DefsOk lo WA.heap.size Ds WA) (hlo : w.heap.size ≤ lo)
    (h5 : Below WA.heap.size WA w5) (ho6 : w6.ownsRow B 61 4 (.slice (some ⟨g6, 0, none⟩) (l0.length + 1) cap6) (l0.length + 1) (l0.flatMap lineC ++ lineC ln)) (hg6 : w5.grownBy w6 v.ownBlock) (hv6 : v.ownBlock = some g6 ∨ g6 = w5.heap.size) :
    SwB c bm bl B g12 g13 lo rA rB w v Ds (w6.setCell ⟨bl, 0, none⟩ (.slice (some ⟨g6, 0, none⟩) (l0.length + 1) cap6)) (.slice (some ⟨g6, 0, none⟩) (l0.length + 1) cap6) (l0 ++ [ln]) := by
  have hbl0 := hbl.lt
  have hz5 := h5.size
  have hzA := hbA.size
  have l12 := xa.lt
  have l13 := xb.lt
  have hvlt : ∀ q, v.ownBlock = some q → B ≤ q ∧ q < w.heap.size := hown.lt
  have hB5 : Below w.heap.size w w5 := hbA.trans (h5.mono hzA)
  have k5 : ∀ {b : Nat} {vs : List Value}, Bx WA b vs → w.heap.size ≤ b → Bx (w6.setCell ⟨bl, 0, none⟩ (.slice (some ⟨g6, 0, none⟩) (l0.length + 1) cap6)) b vs := fun hb hle =>
    ((hb.next h5).gk hg6 (fun r e e2 => by have := hvlt r e; omega)).far (by omega) _
  have hb6 : Bx w6 bl [v] := ((hbl.next hB5)).gk hg6 (fun r e e2 => by have := hvlt r e; omega)
  have hq : ∀ x : Nat, x < WA.heap.size → w.heap.size ≤ x → (Value.slice (some ⟨g6, 0, none⟩) (l0.length + 1) cap6).ownBlock ≠ some x := fun x hx hle e => by
    injection e with e
    simp only at e
    rcases hv6 with h | h
    · have := hvlt _ h; omega
    · omega
  refine ⟨?_, hb6.set (k := 0) (by simp) _, ⟨hg6.os.trans hB5.os, hg6.tape.trans hB5.tape, hg6.output.trans hB5.output, by rw [World.size_setCell]; exact Nat.le_trans hB5.size hg6.size, fun b hb h1 h2 => (blkSet (fun e => h1 e.symm) _ _).trans ((hg6.block b (Nat.lt_of_lt_of_le hb hB5.size) (fun e => h2 e.symm)).trans (hB5.block b hb))⟩, ?_, ?_, k5 x3 (Nat.le_refl _), k5 xa (by omega), k5 xb (by omega), ⟨hq _ (by omega) (Nat.le_refl _), hq _ l12 (by omega), hq _ l13 (by omega)⟩, ⟨by omega, by omega, by omega⟩, ?_⟩
  · rw [List.length_append, List.flatMap_append, List.length_singleton, List.flatMap_singleton]
    exact own_setP ho6 hlt _ _
  · intro q e
    injection e with e
    simp only at e
    rcases hv6 with h | h
    · left; rw [h, e]
    · right; omega
  · obtain ⟨es, clock, hb, -⟩ := id hp
    refine hp.of ((blkSet (fun e => bx_kind hbl hb rfl e.symm) _ _).trans ((hg6.block bm (Nat.lt_of_lt_of_le hp.lt hB5.size) (fun e => own_kind hown hb rfl e.symm)).trans (hB5.block bm hp.lt)))
  · rw [World.size_setCell]
    refine (df.of fun D hD => ?_).more (Nat.le_trans hz5 hg6.size)
    have := df.lt D hD
    exact (blkSet (by omega) _ _).trans ((hg6.block D (by omega) (fun e => by have := hvlt D e.symm; omega)).trans (h5.block D this.2))
def swOut : List (Option Nat) := [none, none, none, none, none, none, some 6, none, some 8, some 9, some 10, some 11, some 12, some 13, some 14, some 15, some 16, none, none, none, none, none, none, none, none, some 25, some 26, some 27, some 28, some 29, some 30, some 31, some 32, some 33, some 34, some 35, some 36, some 37, some 38, some 39, some 40, some 41, some 42, some 43, some 44, some 45, some 46, some 47, some 48, some 49, some 50, some 51, some 52, some 53, some 54, some 55, some 56, some 57, some 58, none, some 60, some 61, some 62, some 63, some 64, some 65, some 66, some 67, some 68, some 69, some 70, some 71, some 72, some 73, some 74, some 75, some 76, some 77, some 78, some 79, some 80, some 81, some 82, some 83, some 84, some 85, some 86, some 87, some 88, some 89, some 90, some 91, some 92, some 93, some 94, some 95, some 96, some 97, some 98, some 99, some 100]
def swIn : List (Option Nat) := [none, none, none, none, none, none, some 6, none, none, none, none, some 11, some 12, some 13, some 14, some 15, some 16, none, none, none, none, none, none, none, none, none, none, none, none, none, none, none, none, none, none, none, none, some 37, some 38, some 39, some 40, some 41, some 42, some 43, some 44, some 45, some 46, some 47, some 48, some 49, some 50, some 51, some 52, some 53, some 54, some 55, some 56, some 57, some 58, none, some 60, some 61, some 62, some 63, some 64, some 65, some 66, some 67, some 68, some 69, some 70, some 71, some 72, some 73, some 74, some 75, some 76, some 77, some 78, some 79, some 80, some 81, some 82, some 83, some 84, some 85, some 86, some 87, some 88, some 89, some 90, some 91, some 92, some 93, some 94, some 95, some 96, some 97, some 98, some 99, none]
theorem swI_next {V W W' : World} {Ds : List Nat} (h : SwI V W Ds) (hb : Below W.heap.size W W') : SwI V W' Ds :=
  ⟨h.b.trans (hb.mono h.b.size), (h.d.of fun D hD => hb.block D (h.d.lt D hD).2).more hb.size⟩
set_option maxRecDepth 100000 in
set_option maxHeartbeats 16000000 in
theorem sawP_any (c : Cut) (ok : OkC c) (bm bl B : Nat) (n : Nat) : ∀ (x0 y0 x1 y1 : Int) (v : Value) (l0 : List Ln) (w : World), Rec c n x0 y0 x1 y1 → PicAt c bm w → w.ownsRow B 61 4 v l0.length (l0.flatMap lineC) → Bx w bl [v] → bl < B ∧ B ≤ w.heap.size → (l0.length : Int) + (x1 - x0) * (y1 - y0) ≤ 1000 →
    Calls Try.prog 57 #[.agg #[.int .i64 c.wide, .int .i64 c.high, .slice c.A c.piece.length c.c, .map (some (bm))], .agg #[.int .i64 x0, .int .i64 y0, .int .i64 x1, .int .i64 y1], .pointer (some ⟨bl, 0, none⟩)] w (RetSP (sawF c n x0 y0 x1 y1) ((x1 - x0) * (y1 - y0)) bl B w v l0) := by
  have OK := Lib.hid ok
  clear ok
  induction n with
  | zero =>
    intro x0 y0 x1 y1 v l0 w hR _ _ _ _ _
    have := hR.n
    have := hR.x
    have := hR.y
    omega
  | succ n ih =>
    intro x0 y0 x1 y1 v l0 w hR hp hown hbl hlt hlen
    have IH := Lib.hid ih
    have HRC := Lib.hid hR
    have hx := hR.x
    have hy := hR.y
    have hwd := OK.out.w
    have hhd := OK.out.h
    have n1 := nxA w (.cells #[.int .i64 c.wide, .int .i64 c.high, .slice c.A c.piece.length c.c, .map (some (bm))] 71)
    have n2 := nxA (w.alloc (.cells #[.int .i64 c.wide, .int .i64 c.high, .slice c.A c.piece.length c.c, .map (some (bm))] 71)) (.cells #[.int .i64 x0, .int .i64 y0, .int .i64 x1, .int .i64 y1] 98)
    have HX3 := Lib.hid ((Bx.new w #[.int .i64 c.wide, .int .i64 c.high, .slice c.A c.piece.length c.c, .map (some (bm))] 71).next n2)
    have HX4 := Lib.hid (Bx.new (w.alloc (.cells #[.int .i64 c.wide, .int .i64 c.high, .slice c.A c.piece.length c.c, .map (some (bm))] 71)) #[.int .i64 x0, .int .i64 y0, .int .i64 x1, .int .i64 y1] 98)
    simp only [World.size_alloc] at HX4
    have HBV := Lib.hid (n1.trans (n2.mono n1.size))
    have HVZ := Lib.hid (show ((w.alloc (.cells #[.int .i64 c.wide, .int .i64 c.high, .slice c.A c.piece.length c.c, .map (some (bm))] 71)).alloc (.cells #[.int .i64 x0, .int .i64 y0, .int .i64 x1, .int .i64 y1] 98)).heap.size = w.heap.size + 1 + 1 from by simp)
    have HPM := Lib.hid hp
    have HOWN := Lib.hid hown
    obtain ⟨vA, vc, hvf, -⟩ := own_form hown
    have HVF := Lib.hid hvf
    clear hvf
    have HBL := Lib.hid hbl
    have HLEN := Lib.hid hlen
    have HBLT := Lib.hid hlt
    clear ih hR hp hown hbl hlt hlen n1 n2
    refine (callsIn_wide (n := 6)).1 ?_
    refine callsIn_of_wp_marks Try.func57 rfl trivial ?_ rfl
    simp only [Try.ntmps57, List.size_toArray, List.length_cons, List.length_nil, Nat.reduceAdd, Nat.reduceSub, Array.replicate_succ, Array.replicate_zero, List.push_toArray, List.append_toArray, List.nil_append, List.cons_append]
    obtain ⟨V, hV⟩ : ∃ V, V = ((w.alloc (.cells #[.int .i64 c.wide, .int .i64 c.high, .slice c.A c.piece.length c.c, .map (some (bm))] 71)).alloc (.cells #[.int .i64 x0, .int .i64 y0, .int .i64 x1, .int .i64 y1] 98)) := ⟨_, rfl⟩
    rw [← hV] at HX3 HX4 HBV HVZ
    have c0 := HX3.out.c 0 _ rfl
    have c1 := HX3.out.c 1 _ rfl
    have c2 := HX3.out.c 2 _ rfl
    have c3 := HX3.out.c 3 _ rfl
    have d0 := HX4.out.c 0 _ rfl
    have d1 := HX4.out.c 1 _ rfl
    have d2 := HX4.out.c 2 _ rfl
    have d3 := HX4.out.c 3 _ rfl
    rw [hV] at c0 c1 c2 c3 d0 d1 d2 d3
    gi_wp2_with fail
    rw [← hV]
    refine ⟨trivial, (callsIn_wide.2 (pieces_any c bm x0 y0 x1 y1 _ V OK.out (MapIs.next HPM.out HBV.out) HRC.out)).mono ?_⟩
    rintro e W1 ⟨ba, fa, rfl, hba, hfa, hma, hb1⟩
    clear hV c0 c1 c2 c3 d0 d1 d2 d3
    obtain ⟨nk, hlen1, hone1⟩ := map_len hma 114 mapI_und 3
    have hhas : HasR c x0 y0 x1 y1 (at2 c x0 y0) := ⟨x0, y0, by omega, by omega, rfl⟩
    have hone : nk = 1 ↔ oneB c x0 y0 x1 y1 = true := by
      rw [hone1, one_iff OK.out HRC.out]
      constructor
      · rintro ⟨-, h2⟩ p hp
        exact h2 p _ ((hfa.has p).2 hp) ((hfa.has _).2 hhas)
      · intro h
        exact ⟨⟨_, (hfa.has _).2 hhas⟩, fun p q hp hq => by rw [h p ((hfa.has p).1 hp), h q ((hfa.has q).1 hq)]⟩
    have HI1 := Lib.hid (show SwI V W1 [] from ⟨hb1, DefsOk.nil _ _ _⟩)
    have HB1 := Lib.hid hb1
    clear hba hfa hone1 hhas hb1 hma
    have harea := Int.mul_le_mul (show (1 : Int) ≤ x1 - x0 by omega) (show (1 : Int) ≤ y1 - y0 by omega) (by omega) (by omega)
    have HKW := Lib.hid (fun (W : World) (h : Below V.heap.size V W) => (HBV.out.trans (h.mono HBV.out.size) : Below w.heap.size w W))
    cases ho : oneB c x0 y0 x1 y1
    · have hnk : ¬ nk = 1 := fun e => by rw [hone.1 e] at ho; cases ho
      have HON := Lib.hid ho
      have e1 : ((nk : Int) == 1) = false := by simp; omega
      clear hone ho
      gi_wp2_with fail
      clear hlen1 e1 hnk
      have n5 := nxA W1 (.cells #[.func (.func 70) #[] #[], .func (.func 71) #[] #[]] 88)
      obtain ⟨g23, hg23⟩ : ∃ g, g = W1.heap.size := ⟨_, rfl⟩
      have HRO := Lib.hid (show RO c x0 y0 x1 y1 g23 V (W1.alloc (.cells #[.func (.func 70) #[] #[], .func (.func 71) #[] #[]] 88)) [] 0 from ⟨by omega, swI_next HI1.out n5, by rw [hg23]; exact Bx.new _ _ _, fun h => by omega, fun h => by omega⟩)
      rw [← hg23]
      clear n5 hg23 HI1 HB1
      refine wpIn_loopD swOut (fun f ds W => ∃ i Ds, f 25 = .int .i64 (i : Nat) ∧ ds = marks Ds ∧ RO c x0 y0 x1 y1 g23 V W Ds i) (fun f _ => 2 - (intOf (f 25)).toNat) (by kernel_rfl) ⟨0, [], slotF_at rfl, rfl, HRO.out⟩ ?_
      clear HRO
      rintro f ds W ⟨i, Ds, e25, rfl, hr⟩
      simp only [swOut, mixF, e25]
      have HMUO := Lib.hid (show (intOf (f 25)).toNat = i from by rw [e25]; simp [intOf])
      have HRO := Lib.hid hr
      have hi := hr.hi
      have q0 := hr.fn.c 0 _ rfl
      have q1 := hr.fn.c 1 _ rfl
      clear hr e25
      rcases (by omega : i = 0 ∨ i = 1 ∨ i = 2) with rfl | rfl | rfl
      · skip
        gi_wp2_with fail
        refine wpIn_scope_straight ?_
        gi_wp2_with fail
        clear q0 q1
        refine wpIn_label ?_
        have d0 := (HX4.out.next HRO.out.si.b).c 0 _ rfl
        have d1 := (HX4.out.next HRO.out.si.b).c 1 _ rfl
        gi_wp2_with fail
        refine ⟨trivial, (callsIn_wide.2 (row_any _ _ _)).mono ?_⟩
        rintro e W1p ⟨rfl, hbp⟩
        have hw1 : IntKind.i64.wrap (y0 + 1) = y0 + 1 := IntWalk.i64_in _ (by omega)
        have HRN := Lib.hid (show RN c x0 y0 x1 y1 false y0 g23 V W1p Ds 0 from ⟨swI_next HRO.out.si hbp, HRO.out.fn.next hbp, fun t ht => by omega⟩)
        clear d0 d1 hbp
        gi_wp2_with fail
        refine wpIn_loopD swIn (fun f ds W => ∃ j Ds, f 11 = .int .i64 (y0 + 1 + ((j : Nat) : Int)) ∧ ds = marks Ds ∧ RN c x0 y0 x1 y1 false y0 g23 V W Ds j) (fun f _ => (y1 - intOf (f 11)).toNat) (by kernel_rfl) ⟨0, Ds, slotF_at (by simp), rfl, HRN.out⟩ ?_
        clear HRN
        rintro f2 ds W ⟨j, Ds2, e11, rfl, hr⟩
        simp only [swIn, mixF, e11]
        have HMUI := Lib.hid (show intOf (f2 11) = y0 + 1 + (j : Int) from by rw [e11]; simp [intOf])
        have HRN := Lib.hid hr
        clear hr e11
        obtain ⟨z, hz⟩ : ∃ z : Int, z = y0 + 1 + (j : Int) := ⟨_, rfl⟩
        rw [← hz] at HMUI ⊢
        have HZ := Lib.hid hz
        have hzl : y0 < z := by omega
        clear hz
        have d2 := (HX4.out.next HRN.out.si.b).c 2 _ rfl
        have d3 := (HX4.out.next HRN.out.si.b).c 3 _ rfl
        gi_wp2_with fail
        refine ⟨trivial, (callsIn_wide.2 (row_any _ _ _)).mono ?_⟩
        rintro e W2p ⟨rfl, hbp⟩
        have HS2 := Lib.hid (swI_next HRN.out.si hbp)
        have HF2 := Lib.hid (HRN.out.fn.next hbp)
        clear d2 d3 hbp
        by_cases hlt : z < y1
        · have hw2 : IntKind.i64.wrap (z + 1) = z + 1 := IntWalk.i64_in _ (by omega)
          obtain ⟨hra, hrb⟩ := HRC.out.row ⟨hzl, hlt⟩
          have HRA := Lib.hid hra
          have HRB := Lib.hid hrb
          have d0 := (HX4.out.next HS2.out.b).c 0 _ rfl
          have d1 := (HX4.out.next HS2.out.b).c 1 _ rfl
          have d2 := (HX4.out.next HS2.out.b).c 2 _ rfl
          have d3 := (HX4.out.next HS2.out.b).c 3 _ rfl
          clear hra hrb
          gi_wp2_with fail
          refine ⟨trivial, (callsIn_wide.2 (split_row _ _ _ _ _ _)).mono ?_⟩
          rintro e W3p ⟨rfl, hbp⟩
          have HS3 := Lib.hid (swI_next HS2.out hbp)
          have HF3 := Lib.hid (HF2.out.next hbp)
          clear d0 d1 d2 d3 hbp HS2 HF2
          have m1 := nxA W3p (.cells #[.int .i64 x0, .int .i64 y0, .int .i64 x1, .int .i64 z] 98)
          have m2 := nxA (W3p.alloc (.cells #[.int .i64 x0, .int .i64 y0, .int .i64 x1, .int .i64 z] 98)) (.cells #[.int .i64 x0, .int .i64 z, .int .i64 x1, .int .i64 y1] 98)
          have HX12 := Lib.hid ((Bx.new W3p #[.int .i64 x0, .int .i64 y0, .int .i64 x1, .int .i64 z] 98).next m2)
          have HX13 := Lib.hid (Bx.new (W3p.alloc (.cells #[.int .i64 x0, .int .i64 y0, .int .i64 x1, .int .i64 z] 98)) #[.int .i64 x0, .int .i64 z, .int .i64 x1, .int .i64 y1] 98)
          simp only [World.size_alloc] at HX13
          have hb4 := m1.trans (m2.mono m1.size)
          have HS4 := Lib.hid (swI_next HS3.out hb4)
          have HF4 := Lib.hid (HF3.out.next hb4)
          obtain ⟨g12, hg12⟩ : ∃ g, g = W3p.heap.size := ⟨_, rfl⟩
          have HG12 := Lib.hid (show V.heap.size ≤ g12 from by rw [hg12]; exact HS3.out.b.size)
          obtain ⟨W4p, hW4⟩ : ∃ W, W = (W3p.alloc (.cells #[.int .i64 x0, .int .i64 y0, .int .i64 x1, .int .i64 z] 98)).alloc (.cells #[.int .i64 x0, .int .i64 z, .int .i64 x1, .int .i64 y1] 98) := ⟨_, rfl⟩
          rw [← hW4, ← hg12] at HX12 HX13
          rw [← hW4] at HS4 HF4
          have e0 := HX13.out.c 0 _ rfl
          have e1 := HX13.out.c 1 _ rfl
          have e2 := HX13.out.c 2 _ rfl
          have e3 := HX13.out.c 3 _ rfl
          have c0 := (HX3.out.next HS4.out.b).c 0 _ rfl
          have c1 := (HX3.out.next HS4.out.b).c 1 _ rfl
          have c2 := (HX3.out.next HS4.out.b).c 2 _ rfl
          have c3 := (HX3.out.next HS4.out.b).c 3 _ rfl
          rw [hW4, hg12] at e0 e1 e2 e3
          rw [hW4] at c0 c1 c2 c3
          clear m1 m2 hb4 HS3 HF3
          gi_wp2_with fail
          rw [← hW4, ← hg12]
          clear hW4 hg12 e0 e1 e2 e3 c0 c1 c2 c3
          refine ⟨trivial, (callsIn_wide.2 (pieces_any c bm x0 z x1 y1 _ W4p OK.out (MapIs.next HPM.out (HKW.out _ HS4.out.b)) HRB.out)).mono ?_⟩
          rintro e W5p ⟨mb, fb, rfl, hmbl, hfb, hmb, hb5⟩
          have n5 := nxA W5p (.cells #[.map (some mb)] 114)
          have HX14 := Lib.hid (Bx.new W5p #[.map (some mb)] 114)
          have HS5 := Lib.hid (swI_next (swI_next HS4.out hb5) n5)
          have HF5 := Lib.hid ((HF4.out.next hb5).next n5)
          have HX12b := Lib.hid ((HX12.out.next hb5).next n5)
          have HX13b := Lib.hid ((HX13.out.next hb5).next n5)
          have HMB := Lib.hid (MapIs.next hmb n5)
          have HFB := Lib.hid hfb
          obtain ⟨g14, hg14⟩ : ∃ g, g = W5p.heap.size := ⟨_, rfl⟩
          obtain ⟨W6p, hW6⟩ : ∃ W, W = W5p.alloc (.cells #[.map (some mb)] 114) := ⟨_, rfl⟩
          rw [← hW6] at HX14 HS5 HF5 HX12b HX13b HMB
          rw [← hg14] at HX14
          have HG14 := Lib.hid (show V.heap.size ≤ g14 from by rw [hg14]; exact (HS4.out.b.trans (hb5.mono HS4.out.b.size)).size)
          have e0 := HX12b.out.c 0 _ rfl
          have e1 := HX12b.out.c 1 _ rfl
          have e2 := HX12b.out.c 2 _ rfl
          have e3 := HX12b.out.c 3 _ rfl
          have c0 := (HX3.out.next HS5.out.b).c 0 _ rfl
          have c1 := (HX3.out.next HS5.out.b).c 1 _ rfl
          have c2 := (HX3.out.next HS5.out.b).c 2 _ rfl
          have c3 := (HX3.out.next HS5.out.b).c 3 _ rfl
          rw [hW6] at e0 e1 e2 e3 c0 c1 c2 c3
          clear n5 hmbl hfb hmb hb5 HS4 HF4 HX12 HX13
          gi_wp2_with fail
          rw [← hW6, ← hg14]
          clear hW6 hg14 e0 e1 e2 e3 c0 c1 c2 c3
          refine ⟨trivial, (callsIn_wide.2 (pieces_any c bm x0 y0 x1 z _ W6p OK.out (MapIs.next HPM.out (HKW.out _ HS5.out.b)) HRA.out)).mono ?_⟩
          rintro e W7p ⟨mk, fk, rfl, hmkl, hfk, hmk, hb7⟩
          gi_wp2_with fail
          refine ⟨trivial, (callsIn_wide.2 (keys_any _ _)).mono ?_⟩
          rintro e w' ⟨rfl, rfl⟩
          gi_wp2_with fail
          obtain ⟨W8p, hW8⟩ : ∃ W, W = W7p.alloc (.cells #[.map (some mk)] 114) := ⟨_, rfl⟩
          obtain ⟨g8, hg8⟩ : ∃ g, g = W7p.heap.size := ⟨_, rfl⟩
          have n8 := nxA W7p (.cells #[.map (some mk)] 114)
          have HX8 := Lib.hid (show Bx W8p g8 [.map (some mk)] from by rw [hW8, hg8]; exact Bx.new _ _ _)
          rw [← hW8] at n8
          rw [← hW8, ← hg8]
          have HB8 := Lib.hid (show Below W6p.heap.size W6p W8p from hb7.trans (n8.mono hb7.size))
          have HMK := Lib.hid (MapIs.next hmk n8)
          have HFK := Lib.hid hfk
          clear n8 hfk hmk hmkl hb7 hW8 hg8
          have hseq := keys1_stops 5 (by omega) fk (fun k hk => hasR_i64 OK.out ((HFK.out.has k).1 hk)) g8 mk W8p HX8.out HMK.out
          refine' wpIn_rangeFunc_ownV rfl (by omega) (gf := 77) (lb := #[.pointer (some ⟨g8, 0, none⟩)]) rfl trivial (enters_of Try.func77 (by kernel_rfl) rfl)
            hseq (fun h k => KpM.trans h k) (KpM.refl _ _) (kpm_put ⟨HX8.out.lt, HMK.out.lt⟩) (Below.refl _ _) (fun _ => rfl)
            (KyI W8p (fun p => HasR c x0 z x1 y1 p)) (KyX W8p (fun p => HasR c x0 y0 x1 z p ∧ HasR c x0 z x1 y1 p)) (KyI.own _ _) (KyX.own _ _)
            ⟨Below.refl _ _, fun x hx => by simp at hx⟩
            _ ?assign ?body ?done ?stop
          case assign =>
            rintro l x W' K hK
            dsimp only [encK]
            gi_wp2
            exact hK
          case body =>
            rintro l pre x W' hl ⟨r, hr⟩ hI hlen
            have HI := Lib.hid hI
            have hx := HX14.out.next (HB8.out.trans (hI.1.mono HB8.out.size))
            have e0 := hx.c 0 _ rfl
            have hi64 := x.2.1
            obtain ⟨kl, hkl⟩ := int_key x.1 hi64
            have hlk := (MapIs.look (p := x.1) (MapIs.next HMB.out (HB8.out.trans (hI.1.mono HB8.out.size))) int_keyed' kvI_inj mapI_und zero_int hkl).1
            rw [show ((fb x.1).elim (vvI 0) vvI) = .int .i64 ((fb x.1).getD 0) by cases fb x.1 <;> rfl] at hlk
            unfold vvI at hlk
            have hpos := HFB.out.pos x.1
            have HPOS := Lib.hid hpos
            obtain ⟨cnt, hcnt⟩ : ∃ cnt, cnt = (fb x.1).getD 0 := ⟨_, rfl⟩
            rw [← hcnt] at hlk hpos
            have HN := Lib.hid (fun (h : ¬ HasR c x0 z x1 y1 x.1) => (show KyI W8p (fun p => HasR c x0 z x1 y1 p) (pre ++ [x]) W' from ⟨HI.out.1, fun y hy => by
              rcases List.mem_append.1 hy with hy | hy
              · exact HI.out.2 y hy
              · rw [List.mem_singleton] at hy; subst hy; exact h⟩))
            by_cases hc : 0 < cnt
            · have HY := Lib.hid (hpos.1 hc)
              have HYA := Lib.hid ((HFK.out.has x.1).1 x.2.2)
              clear hI hx hi64 hpos hcnt HPOS hseq HN hkl
              gi_wp2_with fail
              exact ⟨KeepsFrom.refl _ _, rfl, HI.out.1, _, HYA.out, HY.out⟩
            · have HY := Lib.hid (HN.out (fun h => hc (hpos.2 h)))
              clear hI hx hi64 hpos hcnt HPOS hseq HN hkl
              gi_wp2_with fail
              exact ⟨KeepsFrom.refl _ _, KpM.refl _ _ _, HY.out⟩
          case done =>
            rintro D xs W' hD hS hI hK
            have HG := Lib.hid (show goesB c x0 y0 x1 y1 false z = true from (goes_row_iff OK.out HRC.out ⟨hzl, hlt⟩).2 fun p hp => hI.2 ⟨p, hasR_i64 OK.out hp.1, (HFK.out.has p).2 hp.1⟩ (hS _) hp.2)
            have hb8 := HB8.out.trans (hI.1.mono HB8.out.size)
            have hds : DefsOk V.heap.size W'.heap.size (D :: Ds2) W' := (HS5.out.d.of fun D hD => hb8.block D (HS5.out.d.lt D hD).2).cons HS5.out.b.size (Nat.le_trans HB8.out.size hD) (Array.getElem?_eq_some_iff.1 hK).1 hK
            have HS9 := Lib.hid (show SwI V W' (D :: Ds2) from ⟨HS5.out.b.trans (hb8.mono HS5.out.b.size), hds⟩)
            have HX12c := Lib.hid (HX12b.out.next hb8)
            have HX13c := Lib.hid (HX13b.out.next hb8)
            have hsaw := saw_row (n := n) HON.out (j := j) (by rw [← HZ.out]; exact hlt) (by rw [← HZ.out]; exact HG.out) HRN.out.al
            rw [← HZ.out] at hsaw
            have HSAW := Lib.hid hsaw
            have d0 := (HX4.out.next HS9.out.b).c 0 _ rfl
            have d1 := (HX4.out.next HS9.out.b).c 1 _ rfl
            have d2 := (HX4.out.next HS9.out.b).c 2 _ rfl
            have d3 := (HX4.out.next HS9.out.b).c 3 _ rfl
            clear hsaw hds hb8 hK hD hS hI hseq HX14 HMB HMK HFK HFB HX8 HB8
            obtain ⟨b16, hb16⟩ : ∃ b, b = W'.heap.size := ⟨_, rfl⟩
            obtain ⟨WA, hWZ⟩ : ∃ W, W = W'.alloc (.cells #[.bool false, .int .i64 z, .int .i64 x0, .int .i64 x1] 61) := ⟨_, rfl⟩
            have HXL := Lib.hid (show Bx WA b16 [.bool false, .int .i64 z, .int .i64 x0, .int .i64 x1] from by rw [hWZ, hb16]; exact Bx.new _ _ _)
            have NX := Lib.hid (show Below W'.heap.size W' WA from by rw [hWZ]; exact nxA _ _)
            have HVB := Lib.hid (show V.heap.size ≤ b16 from by rw [hb16]; exact HS9.out.b.size)
            have HB16 := Lib.hid hb16
            gi_wp2_with fail
            rw [← hWZ, ← hb16]
            clear hWZ hb16 d0 d1 d2 d3
            refine wpIn_wide.2 ?_
            have HSA := Lib.hid (swI_next HS9.out NX.out)
            have HXA := Lib.hid (HX12c.out.next NX.out)
            have HXB := Lib.hid (HX13c.out.next NX.out)
            clear NX HS9 HX12c HX13c HB16
            have H4 := Lib.hid (show ∀ W : World, (∀ o, W.cell? ⟨b16, o, none⟩ = WA.cell? ⟨b16, o, none⟩) → (W.cell? ⟨b16, 0, none⟩ = some (.bool false) ∧ W.cell? ⟨b16, 1, none⟩ = some (.int .i64 z) ∧ W.cell? ⟨b16, 2, none⟩ = some (.int .i64 x0) ∧ W.cell? ⟨b16, 3, none⟩ = some (.int .i64 x1)) from fun W h => ⟨(h 0).trans (HXL.out.c 0 _ rfl), (h 1).trans (HXL.out.c 1 _ rfl), (h 2).trans (HXL.out.c 2 _ rfl), (h 3).trans (HXL.out.c 3 _ rfl)⟩)
            have HBA := Lib.hid (HKW.out _ HSA.out.b)
            have HNB := Lib.hid (show v.ownBlock ≠ some b16 ∧ bl ≠ b16 ∧ bl < w.heap.size ∧ b16 < WA.heap.size ∧ ∀ r, v.ownBlock = some r → bl ≠ r from ⟨fun e => by have := HOWN.out.lt _ e; have := HVB.out; have := HVZ.out; omega, by have := HBL.out.lt; have := HVB.out; have := HVZ.out; omega, HBL.out.lt, HXL.out.lt, fun r e => by have := HOWN.out.lt _ e; have := HBLT.out; omega⟩)
            have hll := HLEN.out
            have hbase := HBLT.out.2
            obtain ⟨i0, hi0, hz0, hz1, hz2⟩ := info_parts line_info
            have hc : Below WA.heap.size WA WA.drew := (Below.refl _ _).drew
            have HQ1 := Lib.hid (show (WA.alloc (.cells #[.bool false, .int .i64 z, .int .i64 x0, .int .i64 x1] 61)).cell? ⟨bl, 0, none⟩ = some (.slice vA l0.length vc) from by rw [← HVF.out]; exact (HBL.out.next (HBA.out.trans ((nxA WA _).mono HBA.out.size))).c 0 _ rfl)
            have HQ0 := Lib.hid (show WA.cell? ⟨bl, 0, none⟩ = some (.slice vA l0.length vc) from by rw [← HVF.out]; exact (HBL.out.next HBA.out).c 0 _ rfl)
            go_cut [] from 82 to 89 (fun wx => ∃ v6, SwB c bm bl B g12 (g12 + 1) V.heap.size [.int .i64 x0, .int .i64 y0, .int .i64 x1, .int .i64 z] [.int .i64 x0, .int .i64 z, .int .i64 x1, .int .i64 y1] w v (D :: Ds2) wx v6 (l0 ++ [(false, z, x0, x1)]))
            case first =>
              refine wp_region_noPanic ?_
              refine wp_region_held_drew (S := (fun W => W.cell? ⟨b16, 0, none⟩ = some (.bool false) ∧ W.cell? ⟨b16, 1, none⟩ = some (.int .i64 z) ∧ W.cell? ⟨b16, 2, none⟩ = some (.int .i64 x0) ∧ W.cell? ⟨b16, 3, none⟩ = some (.int .i64 x1))) (by kernel_rfl) ?_ (fun hHeld => ?_)
              · (try dsimp only); exact H4.out _ (fun o => hc.cell (p := ⟨b16, o, none⟩) HNB.out.2.2.2.1)
              refine htake (i := 0) (v := ?v1) rfl (by kernel_rfl) (by kernel_rfl) (by kernel_rfl) (fun _ _ _ h => h) (Or.inl ⟨by rfl, ?hy1⟩) (by assumption) ?_
              case hy1 => (intro w hSw; (try dsimp only at hSw); go_simp; try (with_reducible rfl))
              try simp only [Act.put, List.setIfInBounds_toArray, List.set_cons_zero, List.set_cons_succ]
              refine htake (i := 1) (v := ?v2) rfl (by kernel_rfl) (by kernel_rfl) (by kernel_rfl) (fun _ _ _ h => h) (Or.inl ⟨by rfl, ?hy2⟩) (by assumption) ?_
              case hy2 => (intro w hSw; (try dsimp only at hSw); go_simp; try (with_reducible rfl))
              try simp only [Act.put, List.setIfInBounds_toArray, List.set_cons_zero, List.set_cons_succ]
              refine htake (i := 2) (v := ?v3) rfl (by kernel_rfl) (by kernel_rfl) (by kernel_rfl) (fun _ _ _ h => h) (Or.inl ⟨by rfl, ?hy3⟩) (by assumption) ?_
              case hy3 => (intro w hSw; (try dsimp only at hSw); go_simp; try (with_reducible rfl))
              try simp only [Act.put, List.setIfInBounds_toArray, List.set_cons_zero, List.set_cons_succ]
              refine htake (i := 4) (v := ?v4) rfl (by kernel_rfl) (by kernel_rfl) (by kernel_rfl) (fun _ _ _ h => h) (Or.inl ⟨by rfl, ?hy4⟩) (by assumption) ?_
              case hy4 => (intro w hSw; (try dsimp only at hSw); go_simp; try (with_reducible rfl))
              try simp only [Act.put, List.setIfInBounds_toArray, List.set_cons_zero, List.set_cons_succ]
              refine wpAnyH_ready (rs := [3, 5]) (by kernel_rfl) (by simp) ?_
              refine hcons rfl (fun K hK => ?_) (hcons rfl (fun K hK => ?_) (AllReadyH.nil))
              have q0 := HQ0.out; have q1 := HQ1.out; go_simp
              refine hK.out _ _ ?_ (fun hHeld => ?_)
              · (try dsimp only); exact H4.out _ (fun o => hc.cell (p := ⟨b16, o, none⟩) HNB.out.2.2.2.1)
              clear hK K
              try simp only [Act.put, List.setIfInBounds_toArray, List.set_cons_zero, List.set_cons_succ]
              refine wpAnyH_ready (rs := [5]) (by kernel_rfl) (by simp) ?_
              refine hcons rfl (fun K hK => ?_) (AllReadyH.nil)
              go_simp
              replace hc := hc.alloc hc.size (.cells #[.bool false, .int .i64 z, .int .i64 x0, .int .i64 x1] 61)
              refine hK.out _ _ ?_ (fun hHeld => ?_)
              · (try dsimp only); exact H4.out _ (fun o => hc.cell (p := ⟨b16, o, none⟩) HNB.out.2.2.2.1)
              clear hK K
              try simp only [Act.put, List.setIfInBounds_toArray, List.set_cons_zero, List.set_cons_succ]
              refine wpAnyH_ready (rs := [6]) (by kernel_rfl) (by simp) ?_
              refine hcons rfl (fun K hK => ?_) (AllReadyH.nil)
              have hbs := Nat.le_trans hbase (HBA.out.trans (hc.mono HBA.out.size)).size; have hlt6 : b16 < (WA.drew.alloc (.cells #[.bool false, .int .i64 z, .int .i64 x0, .int .i64 x1] 61)).heap.size := Nat.lt_of_lt_of_le HNB.out.2.2.2.1 hc.size; refine step_append_lies _ rfl (.tmp 85) (.tmp 87) 42 rfl B 61 i0 (.agg #[.bool false, .int .i64 0, .int .i64 0, .int .i64 0]) 4 32 Try.underlying42 hi0 hz0 hz1 hz2 rfl (by decide) (.slice vA l0.length vc) l0.length (l0.flatMap lineC) rfl (by rw [← HVF.out]; exact own_below HOWN.out (HBA.out.trans (hc.mono HBA.out.size))) ⟨WA.heap.size, 0, none⟩ 1 1 (lineC (false, z, x0, x1)) rfl rfl (World.news_of_block (heap_alloc_new WA.drew _)) (by simp [lineC, Value.oneCell']) (by decide) (by unfold maxLen; omega) (by omega) hbs _ rfl ?_; intro g6 cap6 w6 ho6 hg6 hv6 _; rw [← HVF.out] at hg6 hv6; have hc6 : ∀ o, w6.cell? ⟨b16, o, none⟩ = WA.cell? ⟨b16, o, none⟩ := fun o => (grown_cell hg6 hlt6 HNB.out.1 o).trans (hc.cell (p := ⟨b16, o, none⟩) HNB.out.2.2.2.1); have HB6 := Lib.hid ((HBL.out.next (HBA.out.trans (hc.mono HBA.out.size))).gk hg6 HNB.out.2.2.2.2)
              refine hK.out _ _ ?_ (fun hHeld => ?_)
              · (try dsimp only); exact H4.out _ hc6
              clear hK K
              try simp only [Act.put, List.setIfInBounds_toArray, List.set_cons_zero, List.set_cons_succ]
              refine htake (i := 7) (v := ?v5) rfl (by kernel_rfl) (by kernel_rfl) (by kernel_rfl) (fun _ _ _ h => h) (Or.inl ⟨by rfl, ?hy5⟩) (by assumption) ?_
              case hy5 => (intro w hSw; (try dsimp only at hSw); go_simp; try (with_reducible rfl))
              try simp only [Act.put, List.setIfInBounds_toArray, List.set_cons_zero, List.set_cons_succ]
              refine wpAnyH_ready (rs := [8]) (by kernel_rfl) (by simp) ?_
              refine hcons rfl (fun K hK => ?_) (AllReadyH.nil)
              have zb := HB6.out.c 0 _ rfl; have yb := HB6.out.fr 0; go_simp
              refine hK.out _ _ ?_ (fun hHeld => ?_)
              · (try dsimp only); exact H4.out _ (fun o => (World.cell?_setCell_other _ _ _ _ (by intro e; injection e with e; exact HNB.out.2.1 e)).trans (hc6 o))
              clear hK K
              try simp only [Act.put]
              refine wpAnyH_done (by kernel_rfl) ?_ _
              refine NoPanic.normal ?_
              rotate_left
              go_simp
              replace hc := hc.alloc hc.size (.cells #[.bool false, .int .i64 z, .int .i64 x0, .int .i64 x1] 61)
              refine hK.out _ _ ?_ (fun hHeld => ?_)
              · (try dsimp only); exact H4.out _ (fun o => hc.cell (p := ⟨b16, o, none⟩) HNB.out.2.2.2.1)
              clear hK K
              try simp only [Act.put, List.setIfInBounds_toArray, List.set_cons_zero, List.set_cons_succ]
              refine wpAnyH_ready (rs := [3]) (by kernel_rfl) (by simp) ?_
              refine hcons rfl (fun K hK => ?_) (AllReadyH.nil)
              have q0 := HQ0.out; have q1 := HQ1.out; go_simp
              refine hK.out _ _ ?_ (fun hHeld => ?_)
              · (try dsimp only); exact H4.out _ (fun o => hc.cell (p := ⟨b16, o, none⟩) HNB.out.2.2.2.1)
              clear hK K
              try simp only [Act.put, List.setIfInBounds_toArray, List.set_cons_zero, List.set_cons_succ]
              refine wpAnyH_ready (rs := [6]) (by kernel_rfl) (by simp) ?_
              refine hcons rfl (fun K hK => ?_) (AllReadyH.nil)
              have hbs := Nat.le_trans hbase (HBA.out.trans (hc.mono HBA.out.size)).size; have hlt6 : b16 < (WA.drew.alloc (.cells #[.bool false, .int .i64 z, .int .i64 x0, .int .i64 x1] 61)).heap.size := Nat.lt_of_lt_of_le HNB.out.2.2.2.1 hc.size; refine step_append_lies _ rfl (.tmp 85) (.tmp 87) 42 rfl B 61 i0 (.agg #[.bool false, .int .i64 0, .int .i64 0, .int .i64 0]) 4 32 Try.underlying42 hi0 hz0 hz1 hz2 rfl (by decide) (.slice vA l0.length vc) l0.length (l0.flatMap lineC) rfl (by rw [← HVF.out]; exact own_below HOWN.out (HBA.out.trans (hc.mono HBA.out.size))) ⟨WA.heap.size, 0, none⟩ 1 1 (lineC (false, z, x0, x1)) rfl rfl (World.news_of_block (heap_alloc_new WA.drew _)) (by simp [lineC, Value.oneCell']) (by decide) (by unfold maxLen; omega) (by omega) hbs _ rfl ?_; intro g6 cap6 w6 ho6 hg6 hv6 _; rw [← HVF.out] at hg6 hv6; have hc6 : ∀ o, w6.cell? ⟨b16, o, none⟩ = WA.cell? ⟨b16, o, none⟩ := fun o => (grown_cell hg6 hlt6 HNB.out.1 o).trans (hc.cell (p := ⟨b16, o, none⟩) HNB.out.2.2.2.1); have HB6 := Lib.hid ((HBL.out.next (HBA.out.trans (hc.mono HBA.out.size))).gk hg6 HNB.out.2.2.2.2)
              refine hK.out _ _ ?_ (fun hHeld => ?_)
              · (try dsimp only); exact H4.out _ hc6
              clear hK K
              try simp only [Act.put, List.setIfInBounds_toArray, List.set_cons_zero, List.set_cons_succ]
              refine htake (i := 7) (v := ?v6) rfl (by kernel_rfl) (by kernel_rfl) (by kernel_rfl) (fun _ _ _ h => h) (Or.inl ⟨by rfl, ?hy6⟩) (by assumption) ?_
              case hy6 => (intro w hSw; (try dsimp only at hSw); go_simp; try (with_reducible rfl))
              try simp only [Act.put, List.setIfInBounds_toArray, List.set_cons_zero, List.set_cons_succ]
              refine wpAnyH_ready (rs := [8]) (by kernel_rfl) (by simp) ?_
              refine hcons rfl (fun K hK => ?_) (AllReadyH.nil)
              have zb := HB6.out.c 0 _ rfl; have yb := HB6.out.fr 0; go_simp
              refine hK.out _ _ ?_ (fun hHeld => ?_)
              · (try dsimp only); exact H4.out _ (fun o => (World.cell?_setCell_other _ _ _ _ (by intro e; injection e with e; exact HNB.out.2.1 e)).trans (hc6 o))
              clear hK K
              try simp only [Act.put]
              refine wpAnyH_done (by kernel_rfl) ?_ _
              refine NoPanic.normal ?_
              iterate 10 (try clear hHeld)
              all_goals (go_wp2_with fail; go_meet)
              all_goals exact ⟨_, swB_start HOWN.out HBL.out HBLT.out.1 HPM.out HBA.out (HX3.out.next HSA.out.b) HXA.out HXB.out (by have := HG12.out; have := HVZ.out; omega) HSA.out.d (by have := HVZ.out; omega) hc ho6 hg6 hv6⟩
            case rest =>
              obtain ⟨v6, hsb⟩ := hcut
              have HSB := Lib.hid hsb
              clear hsb H4 HQ0 HQ1 hc HXL HSA HXA HXB HBA HNB HVB
              generalize wc = WB at *
              have HAR := Lib.hid (show (x1 - x0) * (y1 - y0) = (x1 - x0) * (z - y0) + (x1 - x0) * (y1 - z) ∧ 1 ≤ (x1 - x0) * (z - y0) ∧ 1 ≤ (x1 - x0) * (y1 - z) from by
                have h1 := Int.mul_le_mul (show (1 : Int) ≤ x1 - x0 by omega) (show (1 : Int) ≤ z - y0 by omega) (by omega) (by omega)
                have h2 := Int.mul_le_mul (show (1 : Int) ≤ x1 - x0 by omega) (show (1 : Int) ≤ y1 - z by omega) (by omega) (by omega)
                refine ⟨?_, by omega, by omega⟩
                rw [← Int.mul_add]
                congr 1
                omega)
              have c0 := HSB.out.x3.c 0 _ rfl
              have c1 := HSB.out.x3.c 1 _ rfl
              have c2 := HSB.out.x3.c 2 _ rfl
              have c3 := HSB.out.x3.c 3 _ rfl
              have e0 := HSB.out.xa.c 0 _ rfl
              have e1 := HSB.out.xa.c 1 _ rfl
              have e2 := HSB.out.xa.c 2 _ rfl
              have e3 := HSB.out.xa.c 3 _ rfl
              have HL1 := Lib.hid (show ((l0 ++ [(false, z, x0, x1)]).length : Int) = l0.length + 1 from by simp)
              gi_wp2_with fail
              clear c0 c1 c2 c3 e0 e1 e2 e3
              refine ⟨trivial, (callsIn_wide.2 (IH.out x0 y0 x1 z v6 (l0 ++ [(false, z, x0, x1)]) WB HRA.out HSB.out.pic HSB.out.own HSB.out.bx ⟨HBLT.out.1, Nat.le_trans HBLT.out.2 HSB.out.kp.size⟩ (by have := HL1.out; have := HAR.out; have := HLEN.out; omega))).mono ?_⟩
              rintro e W1b ⟨rfl, v1, l1, p1⟩
              have HP1 := Lib.hid p1
              obtain ⟨ra, hra⟩ : ∃ r, r = sawF c n x0 y0 x1 z := ⟨_, rfl⟩
              rw [← hra] at HP1 HSAW ⊢
              obtain ⟨la, qa⟩ := ra
              have HSB1 := Lib.hid (HSB.out.step p1)
              have HM1 := Lib.hid p1.len
              clear hra p1
              dsimp only
              cases qa
              · gi_wp2_with fail
                refine ⟨trivial, ?_⟩
                gi_wp2_with fail
                unfold Exit.noGoto
                gi_wp2_with fail
                unfold bodyPostM
                refine leaves_marks (by simp) (fun W => SwPost (sawF c (n + 1) x0 y0 x1 y1) ((x1 - x0) * (y1 - y0)) bl B w v l0 W v1 l1) V.heap.size ?_ ?_ (D :: Ds2) _ W1b HSB1.out.df ?_
                · rintro W' D hD hW h
                  exact h.put D (by have := HVZ.out; omega) hW
                · rintro W' h
                  exact ⟨_, results_tmp rfl _ _ _, by rw [HSAW.out]; rfl, v1, l1, h⟩
                · exact HSB1.out.end_ (fun h => by rw [HSAW.out] at h; exact absurd h (by simp [joinL])) (by have := HM1.out; have := HL1.out; have := HAR.out; omega)
              · have c0 := HSB1.out.x3.c 0 _ rfl
                have c1 := HSB1.out.x3.c 1 _ rfl
                have c2 := HSB1.out.x3.c 2 _ rfl
                have c3 := HSB1.out.x3.c 3 _ rfl
                have e0 := HSB1.out.xb.c 0 _ rfl
                have e1 := HSB1.out.xb.c 1 _ rfl
                have e2 := HSB1.out.xb.c 2 _ rfl
                have e3 := HSB1.out.xb.c 3 _ rfl
                gi_wp2_with fail
                clear c0 c1 c2 c3 e0 e1 e2 e3
                refine ⟨trivial, (callsIn_wide.2 (IH.out x0 z x1 y1 v1 l1 W1b HRB.out HSB1.out.pic HSB1.out.own HSB1.out.bx ⟨HBLT.out.1, Nat.le_trans HBLT.out.2 HSB1.out.kp.size⟩ (by have := HM1.out; have := HL1.out; have := HAR.out; have := HLEN.out; omega))).mono ?_⟩
                rintro e W2b ⟨rfl, v2, l2, p2⟩
                have HP2 := Lib.hid p2
                obtain ⟨rb, hrb⟩ : ∃ r, r = sawF c n x0 z x1 y1 := ⟨_, rfl⟩
                rw [← hrb] at HP2 HSAW ⊢
                have HSB2 := Lib.hid (HSB1.out.step p2)
                have HM2 := Lib.hid p2.len
                clear hrb p2
                gi_wp2_with fail
                unfold Exit.noGoto
                gi_wp2_with fail
                unfold bodyPostM
                refine leaves_marks (by simp) (fun W => SwPost (sawF c (n + 1) x0 y0 x1 y1) ((x1 - x0) * (y1 - y0)) bl B w v l0 W v2 l2) V.heap.size ?_ ?_ (D :: Ds2) _ W2b HSB2.out.df ?_
                · rintro W' D hD hW h
                  exact h.put D (by have := HVZ.out; omega) hW
                · rintro W' h
                  refine ⟨_, results_tmp rfl _ _ _, ?_, v2, l2, h⟩
                  rw [HSAW.out]
                  show _ = Ending.returned (.bool (true && rb.2))
                  rw [Bool.true_and]; rfl
                · refine HSB2.out.end_ (fun h => ?_) (by have := HM1.out; have := HM2.out; have := HL1.out; have := HAR.out; omega)
                  rw [HSAW.out] at h ⊢
                  have hb : rb.2 = true := by simpa [joinL] using h
                  rw [HP2.out.ok hb, HP1.out.ok rfl]
                  simp [joinL]
          case stop =>
            rintro D cc pre W' hD _ ⟨rfl, hbb, p, hpa, hpb⟩ hK
            have HG := Lib.hid (show goesB c x0 y0 x1 y1 false z = false from by
              cases hg : goesB c x0 y0 x1 y1 false z with
              | false => rfl
              | true => exact absurd ⟨hpa, hpb⟩ ((goes_row_iff OK.out HRC.out ⟨hzl, hlt⟩).1 hg p))
            have hb8 := HB8.out.trans (hbb.mono HB8.out.size)
            have hds : DefsOk V.heap.size W'.heap.size (D :: Ds2) W' := (HS5.out.d.of fun D hD => hb8.block D (HS5.out.d.lt D hD).2).cons HS5.out.b.size (Nat.le_trans HB8.out.size hD) (Array.getElem?_eq_some_iff.1 hK).1 hK
            have HRN2 := Lib.hid (show RN c x0 y0 x1 y1 false y0 g23 V W' (D :: Ds2) (j + 1) from ⟨⟨HS5.out.b.trans (hb8.mono HS5.out.b.size), hds⟩, HF5.out.next hb8, fun t ht => by
              by_cases e : t < j
              · exact HRN.out.al t e
              · obtain rfl : t = j := by omega
                rw [← HZ.out]; exact HG.out⟩)
            have HZ1 := Lib.hid (show y0 + 1 + (((j + 1 : Nat)) : Int) = z + 1 from by rw [HZ.out]; push_cast; omega)
            have HMU := Lib.hid (show (y1 - (z + 1)).toNat < (y1 - z).toNat from by omega)
            clear hK hD hseq hbb hpa hpb hb8 hds
            gi_wp2_with fail
            refine endD (by kernel_rfl) (by kernel_rfl) ⟨j + 1, D :: Ds2, ?_, rfl, HRN2.out⟩ ?_
            · rw [HZ1.out]; exact slotF_at rfl
            · show (y1 - intOf (slotF _ 11)).toNat < (y1 - intOf (f2 11)).toNat
              rw [slotF_at rfl, HMUI.out]
              exact HMU.out
        · have HRO2 := Lib.hid (show RO c x0 y0 x1 y1 g23 V W2p Ds2 1 from ⟨by omega, HS2.out, HF2.out, fun _ t ht => HRN.out.al t (by have := HZ.out; omega), fun h => by omega⟩)
          clear HZ
          gi_wp2_with fail
          unfold Exit.noGoto
          gi_wp2_with fail
          refine endD (by kernel_rfl) (by kernel_rfl) ⟨1, Ds2, slotF_at rfl, rfl, HRO2.out⟩ ?_
          show 2 - (intOf (slotF _ 25)).toNat < 2 - (intOf (f 25)).toNat
          rw [slotF_at rfl, HMUO.out]
          simp [intOf]
      · skip
        gi_wp2_with fail
        refine wpIn_scope_straight ?_
        gi_wp2_with fail
        clear q0 q1
        refine wpIn_label ?_
        have d0 := (HX4.out.next HRO.out.si.b).c 0 _ rfl
        have d1 := (HX4.out.next HRO.out.si.b).c 1 _ rfl
        gi_wp2_with fail
        refine ⟨trivial, (callsIn_wide.2 (column_any _ _ _)).mono ?_⟩
        rintro e W1p ⟨rfl, hbp⟩
        have hw1 : IntKind.i64.wrap (x0 + 1) = x0 + 1 := IntWalk.i64_in _ (by omega)
        have HRN := Lib.hid (show RN c x0 y0 x1 y1 true x0 g23 V W1p Ds 0 from ⟨swI_next HRO.out.si hbp, HRO.out.fn.next hbp, fun t ht => by omega⟩)
        clear d0 d1 hbp
        gi_wp2_with fail
        refine wpIn_loopD swIn (fun f ds W => ∃ j Ds, f 11 = .int .i64 (x0 + 1 + ((j : Nat) : Int)) ∧ ds = marks Ds ∧ RN c x0 y0 x1 y1 true x0 g23 V W Ds j) (fun f _ => (x1 - intOf (f 11)).toNat) (by kernel_rfl) ⟨0, Ds, slotF_at (by simp), rfl, HRN.out⟩ ?_
        clear HRN
        rintro f2 ds W ⟨j, Ds2, e11, rfl, hr⟩
        simp only [swIn, mixF, e11]
        have HMUI := Lib.hid (show intOf (f2 11) = x0 + 1 + (j : Int) from by rw [e11]; simp [intOf])
        have HRN := Lib.hid hr
        clear hr e11
        obtain ⟨z, hz⟩ : ∃ z : Int, z = x0 + 1 + (j : Int) := ⟨_, rfl⟩
        rw [← hz] at HMUI ⊢
        have HZ := Lib.hid hz
        have hzl : x0 < z := by omega
        clear hz
        have d2 := (HX4.out.next HRN.out.si.b).c 2 _ rfl
        have d3 := (HX4.out.next HRN.out.si.b).c 3 _ rfl
        gi_wp2_with fail
        refine ⟨trivial, (callsIn_wide.2 (column_any _ _ _)).mono ?_⟩
        rintro e W2p ⟨rfl, hbp⟩
        have HS2 := Lib.hid (swI_next HRN.out.si hbp)
        have HF2 := Lib.hid (HRN.out.fn.next hbp)
        clear d2 d3 hbp
        by_cases hlt : z < x1
        · have hw2 : IntKind.i64.wrap (z + 1) = z + 1 := IntWalk.i64_in _ (by omega)
          obtain ⟨hra, hrb⟩ := HRC.out.col ⟨hzl, hlt⟩
          have HRA := Lib.hid hra
          have HRB := Lib.hid hrb
          have d0 := (HX4.out.next HS2.out.b).c 0 _ rfl
          have d1 := (HX4.out.next HS2.out.b).c 1 _ rfl
          have d2 := (HX4.out.next HS2.out.b).c 2 _ rfl
          have d3 := (HX4.out.next HS2.out.b).c 3 _ rfl
          clear hra hrb
          gi_wp2_with fail
          refine ⟨trivial, (callsIn_wide.2 (split_col _ _ _ _ _ _)).mono ?_⟩
          rintro e W3p ⟨rfl, hbp⟩
          have HS3 := Lib.hid (swI_next HS2.out hbp)
          have HF3 := Lib.hid (HF2.out.next hbp)
          clear d0 d1 d2 d3 hbp HS2 HF2
          have m1 := nxA W3p (.cells #[.int .i64 x0, .int .i64 y0, .int .i64 z, .int .i64 y1] 98)
          have m2 := nxA (W3p.alloc (.cells #[.int .i64 x0, .int .i64 y0, .int .i64 z, .int .i64 y1] 98)) (.cells #[.int .i64 z, .int .i64 y0, .int .i64 x1, .int .i64 y1] 98)
          have HX12 := Lib.hid ((Bx.new W3p #[.int .i64 x0, .int .i64 y0, .int .i64 z, .int .i64 y1] 98).next m2)
          have HX13 := Lib.hid (Bx.new (W3p.alloc (.cells #[.int .i64 x0, .int .i64 y0, .int .i64 z, .int .i64 y1] 98)) #[.int .i64 z, .int .i64 y0, .int .i64 x1, .int .i64 y1] 98)
          simp only [World.size_alloc] at HX13
          have hb4 := m1.trans (m2.mono m1.size)
          have HS4 := Lib.hid (swI_next HS3.out hb4)
          have HF4 := Lib.hid (HF3.out.next hb4)
          obtain ⟨g12, hg12⟩ : ∃ g, g = W3p.heap.size := ⟨_, rfl⟩
          have HG12 := Lib.hid (show V.heap.size ≤ g12 from by rw [hg12]; exact HS3.out.b.size)
          obtain ⟨W4p, hW4⟩ : ∃ W, W = (W3p.alloc (.cells #[.int .i64 x0, .int .i64 y0, .int .i64 z, .int .i64 y1] 98)).alloc (.cells #[.int .i64 z, .int .i64 y0, .int .i64 x1, .int .i64 y1] 98) := ⟨_, rfl⟩
          rw [← hW4, ← hg12] at HX12 HX13
          rw [← hW4] at HS4 HF4
          have e0 := HX13.out.c 0 _ rfl
          have e1 := HX13.out.c 1 _ rfl
          have e2 := HX13.out.c 2 _ rfl
          have e3 := HX13.out.c 3 _ rfl
          have c0 := (HX3.out.next HS4.out.b).c 0 _ rfl
          have c1 := (HX3.out.next HS4.out.b).c 1 _ rfl
          have c2 := (HX3.out.next HS4.out.b).c 2 _ rfl
          have c3 := (HX3.out.next HS4.out.b).c 3 _ rfl
          rw [hW4, hg12] at e0 e1 e2 e3
          rw [hW4] at c0 c1 c2 c3
          clear m1 m2 hb4 HS3 HF3
          gi_wp2_with fail
          rw [← hW4, ← hg12]
          clear hW4 hg12 e0 e1 e2 e3 c0 c1 c2 c3
          refine ⟨trivial, (callsIn_wide.2 (pieces_any c bm z y0 x1 y1 _ W4p OK.out (MapIs.next HPM.out (HKW.out _ HS4.out.b)) HRB.out)).mono ?_⟩
          rintro e W5p ⟨mb, fb, rfl, hmbl, hfb, hmb, hb5⟩
          have n5 := nxA W5p (.cells #[.map (some mb)] 114)
          have HX14 := Lib.hid (Bx.new W5p #[.map (some mb)] 114)
          have HS5 := Lib.hid (swI_next (swI_next HS4.out hb5) n5)
          have HF5 := Lib.hid ((HF4.out.next hb5).next n5)
          have HX12b := Lib.hid ((HX12.out.next hb5).next n5)
          have HX13b := Lib.hid ((HX13.out.next hb5).next n5)
          have HMB := Lib.hid (MapIs.next hmb n5)
          have HFB := Lib.hid hfb
          obtain ⟨g14, hg14⟩ : ∃ g, g = W5p.heap.size := ⟨_, rfl⟩
          obtain ⟨W6p, hW6⟩ : ∃ W, W = W5p.alloc (.cells #[.map (some mb)] 114) := ⟨_, rfl⟩
          rw [← hW6] at HX14 HS5 HF5 HX12b HX13b HMB
          rw [← hg14] at HX14
          have HG14 := Lib.hid (show V.heap.size ≤ g14 from by rw [hg14]; exact (HS4.out.b.trans (hb5.mono HS4.out.b.size)).size)
          have e0 := HX12b.out.c 0 _ rfl
          have e1 := HX12b.out.c 1 _ rfl
          have e2 := HX12b.out.c 2 _ rfl
          have e3 := HX12b.out.c 3 _ rfl
          have c0 := (HX3.out.next HS5.out.b).c 0 _ rfl
          have c1 := (HX3.out.next HS5.out.b).c 1 _ rfl
          have c2 := (HX3.out.next HS5.out.b).c 2 _ rfl
          have c3 := (HX3.out.next HS5.out.b).c 3 _ rfl
          rw [hW6] at e0 e1 e2 e3 c0 c1 c2 c3
          clear n5 hmbl hfb hmb hb5 HS4 HF4 HX12 HX13
          gi_wp2_with fail
          rw [← hW6, ← hg14]
          clear hW6 hg14 e0 e1 e2 e3 c0 c1 c2 c3
          refine ⟨trivial, (callsIn_wide.2 (pieces_any c bm x0 y0 z y1 _ W6p OK.out (MapIs.next HPM.out (HKW.out _ HS5.out.b)) HRA.out)).mono ?_⟩
          rintro e W7p ⟨mk, fk, rfl, hmkl, hfk, hmk, hb7⟩
          gi_wp2_with fail
          refine ⟨trivial, (callsIn_wide.2 (keys_any _ _)).mono ?_⟩
          rintro e w' ⟨rfl, rfl⟩
          gi_wp2_with fail
          obtain ⟨W8p, hW8⟩ : ∃ W, W = W7p.alloc (.cells #[.map (some mk)] 114) := ⟨_, rfl⟩
          obtain ⟨g8, hg8⟩ : ∃ g, g = W7p.heap.size := ⟨_, rfl⟩
          have n8 := nxA W7p (.cells #[.map (some mk)] 114)
          have HX8 := Lib.hid (show Bx W8p g8 [.map (some mk)] from by rw [hW8, hg8]; exact Bx.new _ _ _)
          rw [← hW8] at n8
          rw [← hW8, ← hg8]
          have HB8 := Lib.hid (show Below W6p.heap.size W6p W8p from hb7.trans (n8.mono hb7.size))
          have HMK := Lib.hid (MapIs.next hmk n8)
          have HFK := Lib.hid hfk
          clear n8 hfk hmk hmkl hb7 hW8 hg8
          have hseq := keys1_stops 5 (by omega) fk (fun k hk => hasR_i64 OK.out ((HFK.out.has k).1 hk)) g8 mk W8p HX8.out HMK.out
          refine' wpIn_rangeFunc_ownV rfl (by omega) (gf := 77) (lb := #[.pointer (some ⟨g8, 0, none⟩)]) rfl trivial (enters_of Try.func77 (by kernel_rfl) rfl)
            hseq (fun h k => KpM.trans h k) (KpM.refl _ _) (kpm_put ⟨HX8.out.lt, HMK.out.lt⟩) (Below.refl _ _) (fun _ => rfl)
            (KyI W8p (fun p => HasR c z y0 x1 y1 p)) (KyX W8p (fun p => HasR c x0 y0 z y1 p ∧ HasR c z y0 x1 y1 p)) (KyI.own _ _) (KyX.own _ _)
            ⟨Below.refl _ _, fun x hx => by simp at hx⟩
            _ ?assign ?body ?done ?stop
          case assign =>
            rintro l x W' K hK
            dsimp only [encK]
            gi_wp2
            exact hK
          case body =>
            rintro l pre x W' hl ⟨r, hr⟩ hI hlen
            have HI := Lib.hid hI
            have hx := HX14.out.next (HB8.out.trans (hI.1.mono HB8.out.size))
            have e0 := hx.c 0 _ rfl
            have hi64 := x.2.1
            obtain ⟨kl, hkl⟩ := int_key x.1 hi64
            have hlk := (MapIs.look (p := x.1) (MapIs.next HMB.out (HB8.out.trans (hI.1.mono HB8.out.size))) int_keyed' kvI_inj mapI_und zero_int hkl).1
            rw [show ((fb x.1).elim (vvI 0) vvI) = .int .i64 ((fb x.1).getD 0) by cases fb x.1 <;> rfl] at hlk
            unfold vvI at hlk
            have hpos := HFB.out.pos x.1
            have HPOS := Lib.hid hpos
            obtain ⟨cnt, hcnt⟩ : ∃ cnt, cnt = (fb x.1).getD 0 := ⟨_, rfl⟩
            rw [← hcnt] at hlk hpos
            have HN := Lib.hid (fun (h : ¬ HasR c z y0 x1 y1 x.1) => (show KyI W8p (fun p => HasR c z y0 x1 y1 p) (pre ++ [x]) W' from ⟨HI.out.1, fun y hy => by
              rcases List.mem_append.1 hy with hy | hy
              · exact HI.out.2 y hy
              · rw [List.mem_singleton] at hy; subst hy; exact h⟩))
            by_cases hc : 0 < cnt
            · have HY := Lib.hid (hpos.1 hc)
              have HYA := Lib.hid ((HFK.out.has x.1).1 x.2.2)
              clear hI hx hi64 hpos hcnt HPOS hseq HN hkl
              gi_wp2_with fail
              exact ⟨KeepsFrom.refl _ _, rfl, HI.out.1, _, HYA.out, HY.out⟩
            · have HY := Lib.hid (HN.out (fun h => hc (hpos.2 h)))
              clear hI hx hi64 hpos hcnt HPOS hseq HN hkl
              gi_wp2_with fail
              exact ⟨KeepsFrom.refl _ _, KpM.refl _ _ _, HY.out⟩
          case done =>
            rintro D xs W' hD hS hI hK
            have HG := Lib.hid (show goesB c x0 y0 x1 y1 true z = true from (goes_col_iff OK.out HRC.out ⟨hzl, hlt⟩).2 fun p hp => hI.2 ⟨p, hasR_i64 OK.out hp.1, (HFK.out.has p).2 hp.1⟩ (hS _) hp.2)
            have hb8 := HB8.out.trans (hI.1.mono HB8.out.size)
            have hds : DefsOk V.heap.size W'.heap.size (D :: Ds2) W' := (HS5.out.d.of fun D hD => hb8.block D (HS5.out.d.lt D hD).2).cons HS5.out.b.size (Nat.le_trans HB8.out.size hD) (Array.getElem?_eq_some_iff.1 hK).1 hK
            have HS9 := Lib.hid (show SwI V W' (D :: Ds2) from ⟨HS5.out.b.trans (hb8.mono HS5.out.b.size), hds⟩)
            have HX12c := Lib.hid (HX12b.out.next hb8)
            have HX13c := Lib.hid (HX13b.out.next hb8)
            have hsaw := saw_col (n := n) HON.out (HRO.out.rows (by omega)) (j := j) (by rw [← HZ.out]; exact hlt) (by rw [← HZ.out]; exact HG.out) HRN.out.al
            rw [← HZ.out] at hsaw
            have HSAW := Lib.hid hsaw
            have d0 := (HX4.out.next HS9.out.b).c 0 _ rfl
            have d1 := (HX4.out.next HS9.out.b).c 1 _ rfl
            have d2 := (HX4.out.next HS9.out.b).c 2 _ rfl
            have d3 := (HX4.out.next HS9.out.b).c 3 _ rfl
            clear hsaw hds hb8 hK hD hS hI hseq HX14 HMB HMK HFK HFB HX8 HB8
            obtain ⟨b16, hb16⟩ : ∃ b, b = W'.heap.size := ⟨_, rfl⟩
            obtain ⟨WZ, hWZ⟩ : ∃ W, W = W'.alloc (.cells #[.bool true, .int .i64 z, .int .i64 x0, .int .i64 x1] 61) := ⟨_, rfl⟩
            have HXZ := Lib.hid (show Bx WZ b16 [.bool true, .int .i64 z, .int .i64 x0, .int .i64 x1] from by rw [hWZ, hb16]; exact Bx.new _ _ _)
            have NZ := Lib.hid (show Below W'.heap.size W' WZ from by rw [hWZ]; exact nxA _ _)
            have HVB := Lib.hid (show V.heap.size ≤ b16 from by rw [hb16]; exact HS9.out.b.size)
            have HB16 := Lib.hid hb16
            gi_wp2_with fail
            rw [← hWZ, ← hb16]
            clear hWZ hb16 d0 d1 d2 d3
            refine wpIn_wide.2 ?_
            have m2 := HXZ.out.c 2 _ rfl
            have m3 := HXZ.out.c 3 _ rfl
            have y2 := HXZ.out.fr 2
            have y3 := HXZ.out.fr 3
            have HS9z := HX4.out.next (HS9.out.b.trans (NZ.out.mono HS9.out.b.size))
            have d1 := HS9z.c 1 _ rfl
            have d3 := HS9z.c 3 _ rfl
            have HN4 := Lib.hid (show b16 ≠ w.heap.size + 1 from by have := HVB.out; have := HVZ.out; omega)
            refine wp_region_noPanic ?_
            refine wp_region_held_drew (S := (fun W => W.cell? ⟨w.heap.size + 1, 1, none⟩ = some (.int .i64 y0) ∧ W.cell? ⟨w.heap.size + 1, 3, none⟩ = some (.int .i64 y1))) (by kernel_rfl) ?_ (fun hHeld => ?_)
            · (try dsimp only); exact ⟨d1, d3⟩
            refine htake (i := 0) (v := ?v7) rfl (by kernel_rfl) (by kernel_rfl) (by kernel_rfl) (fun _ _ _ h => h) (Or.inl ⟨by rfl, ?hy7⟩) (by assumption) ?_
            case hy7 => (intro w hSw; (try dsimp only at hSw); go_simp; try (with_reducible rfl))
            try simp only [Act.put, List.setIfInBounds_toArray, List.set_cons_zero, List.set_cons_succ]
            refine htake (i := 1) (v := ?v8) rfl (by kernel_rfl) (by kernel_rfl) (by kernel_rfl) (fun _ _ _ h => h) (Or.inl ⟨by rfl, ?hy8⟩) (by assumption) ?_
            case hy8 => (intro w hSw; (try dsimp only at hSw); go_simp; try (with_reducible rfl))
            try simp only [Act.put, List.setIfInBounds_toArray, List.set_cons_zero, List.set_cons_succ]
            refine htake (i := 2) (v := ?v9) rfl (by kernel_rfl) (by kernel_rfl) (by kernel_rfl) (fun _ _ _ h => h) (Or.inl ⟨by rfl, ?hy9⟩) (by assumption) ?_
            case hy9 => (intro w hSw; (try dsimp only at hSw); go_simp; try (with_reducible rfl))
            try simp only [Act.put, List.setIfInBounds_toArray, List.set_cons_zero, List.set_cons_succ]
            refine htake (i := 3) (v := ?v10) rfl (by kernel_rfl) (by kernel_rfl) (by kernel_rfl) (fun _ _ _ h => h) (Or.inl ⟨by rfl, ?hy10⟩) (by assumption) ?_
            case hy10 => (intro w hSw; (try dsimp only at hSw); go_simp; try (with_reducible rfl))
            try simp only [Act.put, List.setIfInBounds_toArray, List.set_cons_zero, List.set_cons_succ]
            refine htake (i := 4) (v := ?v11) rfl (by kernel_rfl) (by kernel_rfl) (by kernel_rfl) (fun _ _ _ h => h) (Or.inl ⟨by rfl, ?hy11⟩) (by assumption) ?_
            case hy11 => (intro w hSw; (try dsimp only at hSw); go_simp; try (with_reducible rfl))
            try simp only [Act.put, List.setIfInBounds_toArray, List.set_cons_zero, List.set_cons_succ]
            refine htake (i := 5) (v := ?v12) rfl (by kernel_rfl) (by kernel_rfl) (by kernel_rfl) (fun _ _ _ h => h) (Or.inl ⟨by rfl, ?hy12⟩) (by assumption) ?_
            case hy12 => (intro w hSw; (try dsimp only at hSw); go_simp; try (with_reducible rfl))
            try simp only [Act.put, List.setIfInBounds_toArray, List.set_cons_zero, List.set_cons_succ]
            refine htake (i := 6) (v := ?v13) rfl (by kernel_rfl) (by kernel_rfl) (by kernel_rfl) (fun _ _ _ h => h) (Or.inl ⟨by rfl, ?hy13⟩) (by assumption) ?_
            case hy13 => (intro w hSw; (try dsimp only at hSw); go_simp; try (with_reducible rfl))
            try simp only [Act.put, List.setIfInBounds_toArray, List.set_cons_zero, List.set_cons_succ]
            refine wpAnyH_ready (rs := [7]) (by kernel_rfl) (by simp) ?_
            refine hcons rfl (fun K hK => ?_) (AllReadyH.nil)
            go_simp
            refine hK.out _ _ ?_ (fun hHeld => ?_)
            · (try dsimp only); exact ⟨(World.cell?_setCell_other _ _ _ _ (by intro e; injection e with e; exact HN4.out e)).trans d1, (World.cell?_setCell_other _ _ _ _ (by intro e; injection e with e; exact HN4.out e)).trans d3⟩
            clear hK K
            try simp only [Act.put]
            refine htake (i := 8) (v := ?v14) rfl (by kernel_rfl) (by kernel_rfl) (by kernel_rfl) (fun _ _ _ h => h) (Or.inl ⟨by rfl, ?hy14⟩) (by assumption) ?_
            case hy14 => (intro w hSw; (try dsimp only at hSw); go_simp; try (with_reducible rfl))
            try simp only [Act.put, List.setIfInBounds_toArray, List.set_cons_zero, List.set_cons_succ]
            refine wpAnyH_ready (rs := [9]) (by kernel_rfl) (by simp) ?_
            refine hcons rfl (fun K hK => ?_) (AllReadyH.nil)
            go_simp
            refine hK.out _ _ ?_ (fun hHeld => ?_)
            · (try dsimp only); exact ⟨(World.cell?_setCell_other _ _ _ _ (by intro e; injection e with e; exact HN4.out e)).trans ((World.cell?_setCell_other _ _ _ _ (by intro e; injection e with e; exact HN4.out e)).trans d1), (World.cell?_setCell_other _ _ _ _ (by intro e; injection e with e; exact HN4.out e)).trans ((World.cell?_setCell_other _ _ _ _ (by intro e; injection e with e; exact HN4.out e)).trans d3)⟩
            clear hK K
            try simp only [Act.put]
            refine wpAnyH_done (by kernel_rfl) ?_ _
            refine NoPanic.normal ?_
            iterate 11 (try clear hHeld)
            clear d1 d3 m2 m3 y2 y3 HS9z
            obtain ⟨WA, hWA⟩ : ∃ W, W = ((WZ.setCell ⟨b16, 2, none⟩ (.int .i64 y0)).setCell ⟨b16, 3, none⟩ (.int .i64 y1)).drew := ⟨_, rfl⟩
            have HXL := Lib.hid (show Bx WA b16 [.bool true, .int .i64 z, .int .i64 y0, .int .i64 y1] from by rw [hWA]; exact ((HXZ.out.set (k := 2) (by simp) _).set (k := 3) (by simp) _).drew)
            have NX := Lib.hid (show Below W'.heap.size W' WA from by rw [hWA]; exact ((NZ.out.setCell (p := ⟨b16, 2, none⟩) (by show _ ≤ b16; rw [HB16.out]; exact Nat.le_refl _) _).setCell (p := ⟨b16, 3, none⟩) (by show _ ≤ b16; rw [HB16.out]; exact Nat.le_refl _) _).drew)
            gi_wp2_with fail
            rw [← hWA]
            clear hWA
            refine wpIn_wide.2 ?_
            have HSA := Lib.hid (swI_next HS9.out NX.out)
            have HXA := Lib.hid (HX12c.out.next NX.out)
            have HXB := Lib.hid (HX13c.out.next NX.out)
            clear NX HS9 HX12c HX13c HB16
            have H4 := Lib.hid (show ∀ W : World, (∀ o, W.cell? ⟨b16, o, none⟩ = WA.cell? ⟨b16, o, none⟩) → (W.cell? ⟨b16, 0, none⟩ = some (.bool true) ∧ W.cell? ⟨b16, 1, none⟩ = some (.int .i64 z) ∧ W.cell? ⟨b16, 2, none⟩ = some (.int .i64 y0) ∧ W.cell? ⟨b16, 3, none⟩ = some (.int .i64 y1)) from fun W h => ⟨(h 0).trans (HXL.out.c 0 _ rfl), (h 1).trans (HXL.out.c 1 _ rfl), (h 2).trans (HXL.out.c 2 _ rfl), (h 3).trans (HXL.out.c 3 _ rfl)⟩)
            have HBA := Lib.hid (HKW.out _ HSA.out.b)
            have HNB := Lib.hid (show v.ownBlock ≠ some b16 ∧ bl ≠ b16 ∧ bl < w.heap.size ∧ b16 < WA.heap.size ∧ ∀ r, v.ownBlock = some r → bl ≠ r from ⟨fun e => by have := HOWN.out.lt _ e; have := HVB.out; have := HVZ.out; omega, by have := HBL.out.lt; have := HVB.out; have := HVZ.out; omega, HBL.out.lt, HXL.out.lt, fun r e => by have := HOWN.out.lt _ e; have := HBLT.out; omega⟩)
            have hll := HLEN.out
            have hbase := HBLT.out.2
            obtain ⟨i0, hi0, hz0, hz1, hz2⟩ := info_parts line_info
            have hc : Below WA.heap.size WA WA.drew := (Below.refl _ _).drew
            have HQ1 := Lib.hid (show (WA.alloc (.cells #[.bool true, .int .i64 z, .int .i64 y0, .int .i64 y1] 61)).cell? ⟨bl, 0, none⟩ = some (.slice vA l0.length vc) from by rw [← HVF.out]; exact (HBL.out.next (HBA.out.trans ((nxA WA _).mono HBA.out.size))).c 0 _ rfl)
            have HQ0 := Lib.hid (show WA.cell? ⟨bl, 0, none⟩ = some (.slice vA l0.length vc) from by rw [← HVF.out]; exact (HBL.out.next HBA.out).c 0 _ rfl)
            go_cut [] from 82 to 89 (fun wx => ∃ v6, SwB c bm bl B g12 (g12 + 1) V.heap.size [.int .i64 x0, .int .i64 y0, .int .i64 z, .int .i64 y1] [.int .i64 z, .int .i64 y0, .int .i64 x1, .int .i64 y1] w v (D :: Ds2) wx v6 (l0 ++ [(true, z, y0, y1)]))
            case first =>
              refine wp_region_noPanic ?_
              refine wp_region_held_drew (S := (fun W => W.cell? ⟨b16, 0, none⟩ = some (.bool true) ∧ W.cell? ⟨b16, 1, none⟩ = some (.int .i64 z) ∧ W.cell? ⟨b16, 2, none⟩ = some (.int .i64 y0) ∧ W.cell? ⟨b16, 3, none⟩ = some (.int .i64 y1))) (by kernel_rfl) ?_ (fun hHeld => ?_)
              · (try dsimp only); exact H4.out _ (fun o => hc.cell (p := ⟨b16, o, none⟩) HNB.out.2.2.2.1)
              refine htake (i := 0) (v := ?v15) rfl (by kernel_rfl) (by kernel_rfl) (by kernel_rfl) (fun _ _ _ h => h) (Or.inl ⟨by rfl, ?hy15⟩) (by assumption) ?_
              case hy15 => (intro w hSw; (try dsimp only at hSw); go_simp; try (with_reducible rfl))
              try simp only [Act.put, List.setIfInBounds_toArray, List.set_cons_zero, List.set_cons_succ]
              refine htake (i := 1) (v := ?v16) rfl (by kernel_rfl) (by kernel_rfl) (by kernel_rfl) (fun _ _ _ h => h) (Or.inl ⟨by rfl, ?hy16⟩) (by assumption) ?_
              case hy16 => (intro w hSw; (try dsimp only at hSw); go_simp; try (with_reducible rfl))
              try simp only [Act.put, List.setIfInBounds_toArray, List.set_cons_zero, List.set_cons_succ]
              refine htake (i := 2) (v := ?v17) rfl (by kernel_rfl) (by kernel_rfl) (by kernel_rfl) (fun _ _ _ h => h) (Or.inl ⟨by rfl, ?hy17⟩) (by assumption) ?_
              case hy17 => (intro w hSw; (try dsimp only at hSw); go_simp; try (with_reducible rfl))
              try simp only [Act.put, List.setIfInBounds_toArray, List.set_cons_zero, List.set_cons_succ]
              refine htake (i := 4) (v := ?v18) rfl (by kernel_rfl) (by kernel_rfl) (by kernel_rfl) (fun _ _ _ h => h) (Or.inl ⟨by rfl, ?hy18⟩) (by assumption) ?_
              case hy18 => (intro w hSw; (try dsimp only at hSw); go_simp; try (with_reducible rfl))
              try simp only [Act.put, List.setIfInBounds_toArray, List.set_cons_zero, List.set_cons_succ]
              refine wpAnyH_ready (rs := [3, 5]) (by kernel_rfl) (by simp) ?_
              refine hcons rfl (fun K hK => ?_) (hcons rfl (fun K hK => ?_) (AllReadyH.nil))
              have q0 := HQ0.out; have q1 := HQ1.out; go_simp
              refine hK.out _ _ ?_ (fun hHeld => ?_)
              · (try dsimp only); exact H4.out _ (fun o => hc.cell (p := ⟨b16, o, none⟩) HNB.out.2.2.2.1)
              clear hK K
              try simp only [Act.put, List.setIfInBounds_toArray, List.set_cons_zero, List.set_cons_succ]
              refine wpAnyH_ready (rs := [5]) (by kernel_rfl) (by simp) ?_
              refine hcons rfl (fun K hK => ?_) (AllReadyH.nil)
              go_simp
              replace hc := hc.alloc hc.size (.cells #[.bool true, .int .i64 z, .int .i64 y0, .int .i64 y1] 61)
              refine hK.out _ _ ?_ (fun hHeld => ?_)
              · (try dsimp only); exact H4.out _ (fun o => hc.cell (p := ⟨b16, o, none⟩) HNB.out.2.2.2.1)
              clear hK K
              try simp only [Act.put, List.setIfInBounds_toArray, List.set_cons_zero, List.set_cons_succ]
              refine wpAnyH_ready (rs := [6]) (by kernel_rfl) (by simp) ?_
              refine hcons rfl (fun K hK => ?_) (AllReadyH.nil)
              have hbs := Nat.le_trans hbase (HBA.out.trans (hc.mono HBA.out.size)).size; have hlt6 : b16 < (WA.drew.alloc (.cells #[.bool true, .int .i64 z, .int .i64 y0, .int .i64 y1] 61)).heap.size := Nat.lt_of_lt_of_le HNB.out.2.2.2.1 hc.size; refine step_append_lies _ rfl (.tmp 85) (.tmp 87) 42 rfl B 61 i0 (.agg #[.bool false, .int .i64 0, .int .i64 0, .int .i64 0]) 4 32 Try.underlying42 hi0 hz0 hz1 hz2 rfl (by decide) (.slice vA l0.length vc) l0.length (l0.flatMap lineC) rfl (by rw [← HVF.out]; exact own_below HOWN.out (HBA.out.trans (hc.mono HBA.out.size))) ⟨WA.heap.size, 0, none⟩ 1 1 (lineC (true, z, y0, y1)) rfl rfl (World.news_of_block (heap_alloc_new WA.drew _)) (by simp [lineC, Value.oneCell']) (by decide) (by unfold maxLen; omega) (by omega) hbs _ rfl ?_; intro g6 cap6 w6 ho6 hg6 hv6 _; rw [← HVF.out] at hg6 hv6; have hc6 : ∀ o, w6.cell? ⟨b16, o, none⟩ = WA.cell? ⟨b16, o, none⟩ := fun o => (grown_cell hg6 hlt6 HNB.out.1 o).trans (hc.cell (p := ⟨b16, o, none⟩) HNB.out.2.2.2.1); have HB6 := Lib.hid ((HBL.out.next (HBA.out.trans (hc.mono HBA.out.size))).gk hg6 HNB.out.2.2.2.2)
              refine hK.out _ _ ?_ (fun hHeld => ?_)
              · (try dsimp only); exact H4.out _ hc6
              clear hK K
              try simp only [Act.put, List.setIfInBounds_toArray, List.set_cons_zero, List.set_cons_succ]
              refine htake (i := 7) (v := ?v19) rfl (by kernel_rfl) (by kernel_rfl) (by kernel_rfl) (fun _ _ _ h => h) (Or.inl ⟨by rfl, ?hy19⟩) (by assumption) ?_
              case hy19 => (intro w hSw; (try dsimp only at hSw); go_simp; try (with_reducible rfl))
              try simp only [Act.put, List.setIfInBounds_toArray, List.set_cons_zero, List.set_cons_succ]
              refine wpAnyH_ready (rs := [8]) (by kernel_rfl) (by simp) ?_
              refine hcons rfl (fun K hK => ?_) (AllReadyH.nil)
              have zb := HB6.out.c 0 _ rfl; have yb := HB6.out.fr 0; go_simp
              refine hK.out _ _ ?_ (fun hHeld => ?_)
              · (try dsimp only); exact H4.out _ (fun o => (World.cell?_setCell_other _ _ _ _ (by intro e; injection e with e; exact HNB.out.2.1 e)).trans (hc6 o))
              clear hK K
              try simp only [Act.put]
              refine wpAnyH_done (by kernel_rfl) ?_ _
              refine NoPanic.normal ?_
              rotate_left
              go_simp
              replace hc := hc.alloc hc.size (.cells #[.bool true, .int .i64 z, .int .i64 y0, .int .i64 y1] 61)
              refine hK.out _ _ ?_ (fun hHeld => ?_)
              · (try dsimp only); exact H4.out _ (fun o => hc.cell (p := ⟨b16, o, none⟩) HNB.out.2.2.2.1)
              clear hK K
              try simp only [Act.put, List.setIfInBounds_toArray, List.set_cons_zero, List.set_cons_succ]
              refine wpAnyH_ready (rs := [3]) (by kernel_rfl) (by simp) ?_
              refine hcons rfl (fun K hK => ?_) (AllReadyH.nil)
              have q0 := HQ0.out; have q1 := HQ1.out; go_simp
              refine hK.out _ _ ?_ (fun hHeld => ?_)
              · (try dsimp only); exact H4.out _ (fun o => hc.cell (p := ⟨b16, o, none⟩) HNB.out.2.2.2.1)
              clear hK K
              try simp only [Act.put, List.setIfInBounds_toArray, List.set_cons_zero, List.set_cons_succ]
              refine wpAnyH_ready (rs := [6]) (by kernel_rfl) (by simp) ?_
              refine hcons rfl (fun K hK => ?_) (AllReadyH.nil)
              have hbs := Nat.le_trans hbase (HBA.out.trans (hc.mono HBA.out.size)).size; have hlt6 : b16 < (WA.drew.alloc (.cells #[.bool true, .int .i64 z, .int .i64 y0, .int .i64 y1] 61)).heap.size := Nat.lt_of_lt_of_le HNB.out.2.2.2.1 hc.size; refine step_append_lies _ rfl (.tmp 85) (.tmp 87) 42 rfl B 61 i0 (.agg #[.bool false, .int .i64 0, .int .i64 0, .int .i64 0]) 4 32 Try.underlying42 hi0 hz0 hz1 hz2 rfl (by decide) (.slice vA l0.length vc) l0.length (l0.flatMap lineC) rfl (by rw [← HVF.out]; exact own_below HOWN.out (HBA.out.trans (hc.mono HBA.out.size))) ⟨WA.heap.size, 0, none⟩ 1 1 (lineC (true, z, y0, y1)) rfl rfl (World.news_of_block (heap_alloc_new WA.drew _)) (by simp [lineC, Value.oneCell']) (by decide) (by unfold maxLen; omega) (by omega) hbs _ rfl ?_; intro g6 cap6 w6 ho6 hg6 hv6 _; rw [← HVF.out] at hg6 hv6; have hc6 : ∀ o, w6.cell? ⟨b16, o, none⟩ = WA.cell? ⟨b16, o, none⟩ := fun o => (grown_cell hg6 hlt6 HNB.out.1 o).trans (hc.cell (p := ⟨b16, o, none⟩) HNB.out.2.2.2.1); have HB6 := Lib.hid ((HBL.out.next (HBA.out.trans (hc.mono HBA.out.size))).gk hg6 HNB.out.2.2.2.2)
              refine hK.out _ _ ?_ (fun hHeld => ?_)
              · (try dsimp only); exact H4.out _ hc6
              clear hK K
              try simp only [Act.put, List.setIfInBounds_toArray, List.set_cons_zero, List.set_cons_succ]
              refine htake (i := 7) (v := ?v20) rfl (by kernel_rfl) (by kernel_rfl) (by kernel_rfl) (fun _ _ _ h => h) (Or.inl ⟨by rfl, ?hy20⟩) (by assumption) ?_
              case hy20 => (intro w hSw; (try dsimp only at hSw); go_simp; try (with_reducible rfl))
              try simp only [Act.put, List.setIfInBounds_toArray, List.set_cons_zero, List.set_cons_succ]
              refine wpAnyH_ready (rs := [8]) (by kernel_rfl) (by simp) ?_
              refine hcons rfl (fun K hK => ?_) (AllReadyH.nil)
              have zb := HB6.out.c 0 _ rfl; have yb := HB6.out.fr 0; go_simp
              refine hK.out _ _ ?_ (fun hHeld => ?_)
              · (try dsimp only); exact H4.out _ (fun o => (World.cell?_setCell_other _ _ _ _ (by intro e; injection e with e; exact HNB.out.2.1 e)).trans (hc6 o))
              clear hK K
              try simp only [Act.put]
              refine wpAnyH_done (by kernel_rfl) ?_ _
              refine NoPanic.normal ?_
              iterate 10 (try clear hHeld)
              all_goals (go_wp2_with fail; go_meet)
              all_goals exact ⟨_, swB_start HOWN.out HBL.out HBLT.out.1 HPM.out HBA.out (HX3.out.next HSA.out.b) HXA.out HXB.out (by have := HG12.out; have := HVZ.out; omega) HSA.out.d (by have := HVZ.out; omega) hc ho6 hg6 hv6⟩
            case rest =>
              obtain ⟨v6, hsb⟩ := hcut
              have HSB := Lib.hid hsb
              clear hsb H4 HQ0 HQ1 hc HXL HSA HXA HXB HBA HNB HVB
              generalize wc = WB at *
              have HAR := Lib.hid (show (x1 - x0) * (y1 - y0) = (z - x0) * (y1 - y0) + (x1 - z) * (y1 - y0) ∧ 1 ≤ (z - x0) * (y1 - y0) ∧ 1 ≤ (x1 - z) * (y1 - y0) from by
                have h1 := Int.mul_le_mul (show (1 : Int) ≤ z - x0 by omega) (show (1 : Int) ≤ y1 - y0 by omega) (by omega) (by omega)
                have h2 := Int.mul_le_mul (show (1 : Int) ≤ x1 - z by omega) (show (1 : Int) ≤ y1 - y0 by omega) (by omega) (by omega)
                refine ⟨?_, by omega, by omega⟩
                rw [← Int.add_mul]
                congr 1
                omega)
              have c0 := HSB.out.x3.c 0 _ rfl
              have c1 := HSB.out.x3.c 1 _ rfl
              have c2 := HSB.out.x3.c 2 _ rfl
              have c3 := HSB.out.x3.c 3 _ rfl
              have e0 := HSB.out.xa.c 0 _ rfl
              have e1 := HSB.out.xa.c 1 _ rfl
              have e2 := HSB.out.xa.c 2 _ rfl
              have e3 := HSB.out.xa.c 3 _ rfl
              have HL1 := Lib.hid (show ((l0 ++ [(true, z, y0, y1)]).length : Int) = l0.length + 1 from by simp)
              gi_wp2_with fail
              clear c0 c1 c2 c3 e0 e1 e2 e3
              refine ⟨trivial, (callsIn_wide.2 (IH.out x0 y0 z y1 v6 (l0 ++ [(true, z, y0, y1)]) WB HRA.out HSB.out.pic HSB.out.own HSB.out.bx ⟨HBLT.out.1, Nat.le_trans HBLT.out.2 HSB.out.kp.size⟩ (by have := HL1.out; have := HAR.out; have := HLEN.out; omega))).mono ?_⟩
              rintro e W1b ⟨rfl, v1, l1, p1⟩
              have HP1 := Lib.hid p1
              obtain ⟨ra, hra⟩ : ∃ r, r = sawF c n x0 y0 z y1 := ⟨_, rfl⟩
              rw [← hra] at HP1 HSAW ⊢
              obtain ⟨la, qa⟩ := ra
              have HSB1 := Lib.hid (HSB.out.step p1)
              have HM1 := Lib.hid p1.len
              clear hra p1
              dsimp only
              cases qa
              · gi_wp2_with fail
                refine ⟨trivial, ?_⟩
                gi_wp2_with fail
                unfold Exit.noGoto
                gi_wp2_with fail
                unfold bodyPostM
                refine leaves_marks (by simp) (fun W => SwPost (sawF c (n + 1) x0 y0 x1 y1) ((x1 - x0) * (y1 - y0)) bl B w v l0 W v1 l1) V.heap.size ?_ ?_ (D :: Ds2) _ W1b HSB1.out.df ?_
                · rintro W' D hD hW h
                  exact h.put D (by have := HVZ.out; omega) hW
                · rintro W' h
                  exact ⟨_, results_tmp rfl _ _ _, by rw [HSAW.out]; rfl, v1, l1, h⟩
                · exact HSB1.out.end_ (fun h => by rw [HSAW.out] at h; exact absurd h (by simp [joinL])) (by have := HM1.out; have := HL1.out; have := HAR.out; omega)
              · have c0 := HSB1.out.x3.c 0 _ rfl
                have c1 := HSB1.out.x3.c 1 _ rfl
                have c2 := HSB1.out.x3.c 2 _ rfl
                have c3 := HSB1.out.x3.c 3 _ rfl
                have e0 := HSB1.out.xb.c 0 _ rfl
                have e1 := HSB1.out.xb.c 1 _ rfl
                have e2 := HSB1.out.xb.c 2 _ rfl
                have e3 := HSB1.out.xb.c 3 _ rfl
                gi_wp2_with fail
                clear c0 c1 c2 c3 e0 e1 e2 e3
                refine ⟨trivial, (callsIn_wide.2 (IH.out z y0 x1 y1 v1 l1 W1b HRB.out HSB1.out.pic HSB1.out.own HSB1.out.bx ⟨HBLT.out.1, Nat.le_trans HBLT.out.2 HSB1.out.kp.size⟩ (by have := HM1.out; have := HL1.out; have := HAR.out; have := HLEN.out; omega))).mono ?_⟩
                rintro e W2b ⟨rfl, v2, l2, p2⟩
                have HP2 := Lib.hid p2
                obtain ⟨rb, hrb⟩ : ∃ r, r = sawF c n z y0 x1 y1 := ⟨_, rfl⟩
                rw [← hrb] at HP2 HSAW ⊢
                have HSB2 := Lib.hid (HSB1.out.step p2)
                have HM2 := Lib.hid p2.len
                clear hrb p2
                gi_wp2_with fail
                unfold Exit.noGoto
                gi_wp2_with fail
                unfold bodyPostM
                refine leaves_marks (by simp) (fun W => SwPost (sawF c (n + 1) x0 y0 x1 y1) ((x1 - x0) * (y1 - y0)) bl B w v l0 W v2 l2) V.heap.size ?_ ?_ (D :: Ds2) _ W2b HSB2.out.df ?_
                · rintro W' D hD hW h
                  exact h.put D (by have := HVZ.out; omega) hW
                · rintro W' h
                  refine ⟨_, results_tmp rfl _ _ _, ?_, v2, l2, h⟩
                  rw [HSAW.out]
                  show _ = Ending.returned (.bool (true && rb.2))
                  rw [Bool.true_and]; rfl
                · refine HSB2.out.end_ (fun h => ?_) (by have := HM1.out; have := HM2.out; have := HL1.out; have := HAR.out; omega)
                  rw [HSAW.out] at h ⊢
                  have hb : rb.2 = true := by simpa [joinL] using h
                  rw [HP2.out.ok hb, HP1.out.ok rfl]
                  simp [joinL]
          case stop =>
            rintro D cc pre W' hD _ ⟨rfl, hbb, p, hpa, hpb⟩ hK
            have HG := Lib.hid (show goesB c x0 y0 x1 y1 true z = false from by
              cases hg : goesB c x0 y0 x1 y1 true z with
              | false => rfl
              | true => exact absurd ⟨hpa, hpb⟩ ((goes_col_iff OK.out HRC.out ⟨hzl, hlt⟩).1 hg p))
            have hb8 := HB8.out.trans (hbb.mono HB8.out.size)
            have hds : DefsOk V.heap.size W'.heap.size (D :: Ds2) W' := (HS5.out.d.of fun D hD => hb8.block D (HS5.out.d.lt D hD).2).cons HS5.out.b.size (Nat.le_trans HB8.out.size hD) (Array.getElem?_eq_some_iff.1 hK).1 hK
            have HRN2 := Lib.hid (show RN c x0 y0 x1 y1 true x0 g23 V W' (D :: Ds2) (j + 1) from ⟨⟨HS5.out.b.trans (hb8.mono HS5.out.b.size), hds⟩, HF5.out.next hb8, fun t ht => by
              by_cases e : t < j
              · exact HRN.out.al t e
              · obtain rfl : t = j := by omega
                rw [← HZ.out]; exact HG.out⟩)
            have HZ1 := Lib.hid (show x0 + 1 + (((j + 1 : Nat)) : Int) = z + 1 from by rw [HZ.out]; push_cast; omega)
            have HMU := Lib.hid (show (x1 - (z + 1)).toNat < (x1 - z).toNat from by omega)
            clear hK hD hseq hbb hpa hpb hb8 hds
            gi_wp2_with fail
            refine endD (by kernel_rfl) (by kernel_rfl) ⟨j + 1, D :: Ds2, ?_, rfl, HRN2.out⟩ ?_
            · rw [HZ1.out]; exact slotF_at rfl
            · show (x1 - intOf (slotF _ 11)).toNat < (x1 - intOf (f2 11)).toNat
              rw [slotF_at rfl, HMUI.out]
              exact HMU.out
        · have HRO2 := Lib.hid (show RO c x0 y0 x1 y1 g23 V W2p Ds2 2 from ⟨by omega, HS2.out, HF2.out, fun _ => HRO.out.rows (by omega), fun _ t ht => HRN.out.al t (by have := HZ.out; omega)⟩)
          clear HZ
          gi_wp2_with fail
          unfold Exit.noGoto
          gi_wp2_with fail
          refine endD (by kernel_rfl) (by kernel_rfl) ⟨2, Ds2, slotF_at rfl, rfl, HRO2.out⟩ ?_
          show 2 - (intOf (slotF _ 25)).toNat < 2 - (intOf (f 25)).toNat
          rw [slotF_at rfl, HMUO.out]
          simp [intOf]
      · have HSW := Lib.hid (saw_none (n := n) HON.out (HRO.out.rows (by omega)) (HRO.out.cols (by omega)))
        gi_wp2_with fail
        unfold bodyPostM
        refine leaves_marks (by simp) (fun W => SwPost (sawF c (n + 1) x0 y0 x1 y1) ((x1 - x0) * (y1 - y0)) bl B w v l0 W v l0) V.heap.size ?_ ?_ Ds _ W HRO.out.si.d ?_
        · rintro W' D hD hW h
          exact h.put D (by have := HVZ.out; omega) hW
        · rintro W' h
          exact ⟨_, results_tmp rfl _ _ _, by rw [HSW.out]; rfl, v, l0, h⟩
        · have hbw := HKW.out _ HRO.out.si.b
          exact ⟨own_below HOWN.out hbw, HBL.out.next hbw, fun h => (by rw [HSW.out] at h; cases h), by omega, KpS.of_below hbw, fun q h => .inl h⟩
    · have hnk : nk = 1 := hone.2 ho
      have HSW := Lib.hid (saw_one (n := n) ho)
      subst hnk
      clear hone ho
      gi_wp2_with fail
      refine ⟨_, results_tmp rfl _ _ _, by rw [HSW.out]; rfl, v, l0, ?_⟩
      have hbw := HKW.out _ HB1.out
      rw [HSW.out]
      exact ⟨own_below HOWN.out hbw, HBL.out.next hbw, fun _ => by simp, by omega, KpS.of_below hbw, fun q h => .inl h⟩
end
end Go.Proofs.Ytjlicbdnppodgaa
