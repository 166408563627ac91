import Derived.Test.YtonnemkecppmiaaGreatDoorQ3
namespace Go.Proofs.YtonnemkecppmiaaGreatDoor
open Go.RowKit
attribute [local go_sem] Oper.semAt_some
/-! The program: what ReadDrawing reads. -/
def RetPu (o : Option Pu) (w : World) (e : Ending) (w' : World) : Prop := match o with
  | none => Miss w e w'
  | some d => ∃ m : Mp, m.d = d ∧ e = .returned (.agg #[.int .i64 m.d.play.len, .int .i64 m.d.play.slack, .int .i64 m.d.play.loose, .int .i64 m.d.play.damp.lo, .int .i64 m.d.play.damp.hi, .int .i64 m.d.wide, .int .i64 m.d.high, .bool m.d.turn, .slice m.A m.d.pieces.length m.c]) ∧ PuAt w' w'.heap.size m ∧ (∀ a, m.A = some a → w.heap.size ≤ a.block) ∧ Below w.heap.size w w'
def IDr (w : World) (B bd ba : Nat) (pre : List Wl) (W : World) : Prop := ∃ d, readP 0 pu0 (pre.map (·.ws)) = some d ∧ DI w B bd ba d pre.length W
def IPn (w : World) (s : Tx) (ch : List PanicEntry) (W : World) : Prop := ch = [{ v := .iface 129 (.agg #[]), recovered := false }] ∧ parseP s = none ∧ Below w.heap.size w W
theorem IDr.turn {w W W' : World} {bd ba B : Nat} {pre : List Wl} {row : Option Nat} (h : IDr w B bd ba pre W) (hbd : bd < B) (hba : ba < B) (h9 : 9 ≤ B) (hw : w.heap.size ≤ B) (hg : W.grownBy W' row) (hr : ∀ r, row = some r → TMine B W r) : IDr w B bd ba pre W' := by
  obtain ⟨d, h1, h2⟩ := h
  exact ⟨d, h1, h2.turn hbd hba h9 hw hg hr⟩
theorem IPn.turn {w W W' : World} {B : Nat} {s : Tx} {ch : List PanicEntry} {row : Option Nat} (h : IPn w s ch W) (hw : w.heap.size ≤ B) (hg : W.grownBy W' row) (hr : ∀ r, row = some r → B ≤ r) : IPn w s ch W' := by
  obtain ⟨h1, h2, h5⟩ := h
  exact ⟨h1, h2, ⟨hg.os.trans h5.os, hg.tape.trans h5.tape, hg.output.trans h5.output, Nat.le_trans h5.size hg.size, fun k hk => (hg.block k (Nat.lt_of_lt_of_le hk h5.size) (fun e => by have := hr _ e.symm; omega)).trans (h5.block k hk)⟩⟩
theorem KMineE.trans {base : Nat} {A B C : World} (h : KMineE base A B) (k : KMineE base B C) : KMineE base A C := ⟨h.1.trans k.1, fun e => k.2 (h.2 e)⟩
theorem KMineE.put {B : Nat} {W : World} {o' : Obj} (h9 : 9 ≤ B) : KMineE (B + 2) W (W.putObj (B + 1) o') :=
  ⟨⟨(grownBy_putObj' W (B + 1) o').size, fun k o hk ho _ => (World.putObj_heap_other (by omega)).trans ho⟩, fun e => e.grown (grownBy_putObj' W (B + 1) o') (fun r hr => by cases hr; omega)⟩
theorem WlAt.ownX {B B' : Nat} : OwnX B (WlAt B') := by
  rintro x W W' row ⟨h1, h2, h2', h2'', h5⟩ hg hr
  refine ⟨fun k t ht => ?_, h2, h2', h2'', fun a ha => (h5 a ha).grown hg (fun e => by
    obtain ⟨-, ⟨o, ho, hoc⟩, -⟩ := hr _ e
    obtain ⟨c, fz, hk⟩ := h5 a ha
    rw [hk] at ho
    injection ho with ho
    subst ho
    cases hoc)⟩
  obtain ⟨b, off, e, hb, hc⟩ := h1 k t ht
  refine ⟨b, off, e, Nat.lt_of_lt_of_le hb hg.size, fun j u hu => ?_⟩
  have h3 := hc j u hu
  have hne : row ≠ some b := fun e => by
    obtain ⟨-, ⟨o, ho, hoc⟩, -⟩ := hr b e
    unfold World.cell? at h3
    rw [ho] at h3
    cases o <;> first | (cases hoc; done) | (simp at h3)
  exact (World.cell?_of_block (a := ⟨b, off + k * 1 + j, none⟩) (hg.block b hb (fun e => hne e.symm))).trans h3
theorem sets_grown (b : Nat) : ∀ (vs : List Value) (j : Nat) (W : World), W.grownBy (setCells W b j vs) (some b)
  | [], _, W => ⟨rfl, rfl, rfl, Nat.le_refl _, fun _ _ _ => rfl⟩
  | v :: vs, j, W => by
    have h := sets_grown b vs (j + 1) (W.setCell ⟨b, j, none⟩ v)
    have hs : (W.setCell ⟨b, j, none⟩ v).heap.size = W.heap.size := World.size_setCell _ _ _
    exact ⟨h.os, h.tape, h.output, by have := h.size; rw [hs] at this; exact this, fun k hk hne => (h.block k (by rw [hs]; exact hk) hne).trans (by unfold World.setCell; rw [Array.getElem?_modify, if_neg (by show ¬ b = k; rintro rfl; exact hne rfl)])⟩
theorem own_not_obj {W : World} {base D size n : Nat} {e : TypeId} {v : Value} {xs : List Value} {ds : Option (List Deferred)} (h : W.ownsRow base e size v n xs) (hD : W.heap[D]? = some (.deferred ds)) : v.ownBlock = none ∨ v.ownBlock ≠ some D := by
  rcases h.2 with ⟨rfl, -⟩ | ⟨g, cap, cur, rfl, -, hh, -⟩
  · exact .inl rfl
  · right
    intro e
    injection e with e
    simp only at e
    rw [e, hD] at hh
    cases hh
theorem loadPu {w : World} {b : Nat} {a0 a1 a2 a3 a4 a5 a6 a7 a8 : Value} (h : Bx w b [a0, a1, a2, a3, a4, a5, a6, a7, a8]) : (loadVar 28 ⟨b, 0, none⟩).run Tryz.prog w = .ok (.agg #[a0, a1, a2, a3, a4, a5, a6, a7, a8]) w := by
  have c0 := h.c 0 _ rfl
  have c1 := h.c 1 _ rfl
  have c2 := h.c 2 _ rfl
  have c3 := h.c 3 _ rfl
  have c4 := h.c 4 _ rfl
  have c5 := h.c 5 _ rfl
  have c6 := h.c 6 _ rfl
  have c7 := h.c 7 _ rfl
  have c8 := h.c 8 _ rfl
  clear h
  go_simp
theorem step_zero {d : Pu} {ws : List Tx} (h : ws.length = 3) : stepP 0 d ws = (numP (ws.getD 1 [])).bind fun a => (numP (ws.getD 2 [])).map fun b => { d with turn := decide (ws.getD 0 [] = wTurning), wide := a, high := b } := by
  unfold stepP
  rw [if_pos rfl, if_pos h]
  cases numP (ws.getD 1 []) <;> cases numP (ws.getD 2 []) <;> rfl
theorem step_zero_no {d : Pu} {ws : List Tx} (h : ws.length ≠ 3) : stepP 0 d ws = none := by
  unfold stepP
  rw [if_pos rfl, if_neg h]
theorem step_one {d : Pu} {ws : List Tx} (h : ws.length = 5) : stepP 1 d ws = (numP (ws.getD 1 [])).bind fun a => (numP (ws.getD 2 [])).bind fun b => (numP (ws.getD 3 [])).bind fun c => (spanP (ws.getD 4 [])).map fun s => { d with play := ⟨a, b, c, s⟩ } := by
  unfold stepP
  rw [if_neg (by decide), if_pos rfl, if_pos h]
  cases numP (ws.getD 1 []) <;> cases numP (ws.getD 2 []) <;> cases numP (ws.getD 3 []) <;> cases spanP (ws.getD 4 []) <;> rfl
theorem step_one_no {d : Pu} {ws : List Tx} (h : ws.length ≠ 5) : stepP 1 d ws = none := by
  unfold stepP
  rw [if_neg (by decide), if_pos rfl, if_neg h]
theorem step_piece {i : Nat} {d : Pu} {ws : List Tx} (h2 : 2 ≤ i) (hm : (i - 2) % 5 = 0) : stepP i d ws = if d.pieces.length < 9 then some { d with pieces := d.pieces ++ [pc0] } else none := by
  unfold stepP
  rw [if_neg (by omega), if_neg (by omega), if_pos hm]
theorem step_side {i r : Nat} {d : Pu} {ws : List Tx} (h2 : 2 ≤ i) (hm : (i - 2) % 5 = r + 1) : stepP i d ws = (edP ws).map fun e => { d with pieces := setLast d.pieces r e } := by
  unfold stepP
  rw [if_neg (by omega), if_neg (by omega), if_neg (by omega), hm]
  cases edP ws <;> rfl
theorem pc_info : (Tryz.prog.info? 51).map (fun i => (i.zero, i.size, i.bytes)) = some (some (.agg #[.int .i64 0, .int .i64 0, .int .i64 0, .int .i64 0, .int .i64 0, .int .i64 0, .int .i64 0, .int .i64 0, .int .i64 0, .int .i64 0, .int .i64 0, .int .i64 0, .int .i64 0, .int .i64 0, .int .i64 0, .int .i64 0, .int .i64 0, .int .i64 0, .int .i64 0, .int .i64 0, .int .i64 0, .int .i64 0, .int .i64 0, .int .i64 0, .int .i64 0, .int .i64 0, .int .i64 0, .int .i64 0]), 28, 224) := by kernel_rfl
theorem set_grown (W : World) (b j : Nat) (v : Value) : W.grownBy (W.setCell ⟨b, j, none⟩ v) (some b) := sets_grown b [v] j W
/-- What holds within a round. -/
def DV (w W : World) (B bd ba : Nat) (vs : List Value) (i : Int) (ps : List Pc) (v : Value) (V : World) : Prop := Bx V bd vs ∧ Bx V ba [.int .i64 i] ∧ V.ownsRow B 51 28 v ps.length (ps.flatMap Pc.cells) ∧ Env V ∧ Below w.heap.size w V ∧ KMine B W V
theorem DV.next {w W V V' : World} {B bd ba : Nat} {vs : List Value} {i : Int} {ps : List Pc} {v : Value} (h : DV w W B bd ba vs i ps v V) (hb : Below V.heap.size V V') : DV w W B bd ba vs i ps v V' := by
  obtain ⟨h1, h2, h3, h4, h5, h6⟩ := h
  exact ⟨h1.next hb, h2.next hb, own_below h3 hb, h4.next hb, h5.trans (hb.mono h5.size), h6.trans (KMine.next hb)⟩
theorem DV.setD {w W V : World} {B bd ba : Nat} {vs : List Value} {i : Int} {ps : List Pc} {v : Value} (h : DV w W B bd ba vs i ps v V) (h1' : bd < B) (h2' : w.heap.size ≤ bd) (h3' : 9 ≤ bd) (h4' : bd ≠ ba) {k : Nat} (hk : k < vs.length) (u : Value) : DV w W B bd ba (vs.set k u) i ps v (V.setCell ⟨bd, k, none⟩ u) := by
  obtain ⟨h1, h2, h3, h4, h5, h6⟩ := h
  exact ⟨h1.set hk u, h2.other (fun e => h4' e.symm) k u, h3.kept (set_grown V bd k u) (.inr (own_far h3 h1')), h4.grown (set_grown V bd k u) (fun r e => by cases e; exact h3'), h5.setCell (p := ⟨bd, k, none⟩) h2' u, h6.trans (KMine.setBox V k u h1')⟩
theorem DV.setA {w W V : World} {B bd ba : Nat} {vs : List Value} {i : Int} {ps : List Pc} {v : Value} (h : DV w W B bd ba vs i ps v V) (h1' : ba < B) (h2' : w.heap.size ≤ ba) (h3' : 9 ≤ ba) (h4' : bd ≠ ba) (i' : Int) : DV w W B bd ba vs i' ps v (V.setCell ⟨ba, 0, none⟩ (.int .i64 i')) := by
  obtain ⟨h1, h2, h3, h4, h5, h6⟩ := h
  exact ⟨h1.other h4' 0 _, h2.set (k := 0) (by simp) _, h3.kept (set_grown V ba 0 _) (.inr (own_far h3 h1')), h4.grown (set_grown V ba 0 _) (fun r e => by cases e; exact h3'), h5.setCell (p := ⟨ba, 0, none⟩) h2' _, h6.trans (KMine.setBox V 0 _ h1')⟩
theorem DV.grown {w W V V' : World} {B bd ba : Nat} {vs : List Value} {i : Int} {ps ps' : List Pc} {v v' : Value} (h : DV w W B bd ba vs i ps v V) (hbd : bd < B) (hba : ba < B) (h9 : 9 ≤ B) (hw : w.heap.size ≤ B) (ho : V'.ownsRow B 51 28 v' ps'.length (ps'.flatMap Pc.cells)) (hg : V.grownBy V' v.ownBlock) : DV w W B bd ba vs i ps' v' V' := by
  obtain ⟨h1, h2, h3, h4, h5, h6⟩ := h
  exact ⟨h1.grown hg (own_far h3 hbd), h2.grown hg (own_far h3 hba), ho, h4.grown hg (fun r e => by have := (h3.lt r e).1; omega), grown_from h5 hg h5.size (fun g e => by have := (h3.lt g e).1; omega), h6.trans (KMine.ownGrown h3 hg)⟩
theorem own_some {W : World} {base g cap n size : Nat} {e : TypeId} {xs : List Value} (h : W.ownsRow base e size (.slice (some ⟨g, 0, none⟩) n cap) n xs) {m : Nat} (hm : m < n * size) : ∃ u, W.cell? ⟨g, m, none⟩ = some u := by
  have hl : m < xs.length := by rw [h.1]; exact hm
  have := h.cells (g := g) rfl m xs[m] (List.getElem?_eq_getElem hl)
  rw [addr_add, Nat.zero_add] at this
  exact ⟨_, this⟩
theorem own_kd {W : World} {base g cap n size : Nat} {e : TypeId} {xs : List Value} (h : W.ownsRow base e size (.slice (some ⟨g, 0, none⟩) n cap) n xs) : Kd W g e ∧ ∀ m, W.frozen? ⟨g, m, none⟩ = false := by
  rcases h.2 with ⟨hv, -⟩ | ⟨g', cap', cur, hv, h1, h2, -⟩
  · cases hv
  · injection hv with e1 _ _
    injection e1 with e1
    injection e1 with e1
    subst e1
    exact ⟨⟨cur, (0, 0), h2⟩, fun m => Lib.frozen_of_heap h2 m⟩
/-- A cell of a piece is stored. -/
theorem DV.setP {w W V : World} {B bd ba g n cap : Nat} {vs : List Value} {i : Int} {xs : List Value} (h1 : Bx V bd vs) (h2 : Bx V ba [.int .i64 i]) (h3 : V.ownsRow B 51 28 (.slice (some ⟨g, 0, none⟩) n cap) n xs) (h4 : Env V) (h5 : Below w.heap.size w V) (h6 : KMine B W V) (hbd : bd < B) (hba : ba < B) (h9 : 9 ≤ B) (hw : w.heap.size ≤ B) (j : Nat) (u : Value) :
    Bx (V.setCell ⟨g, j, none⟩ u) bd vs ∧ Bx (V.setCell ⟨g, j, none⟩ u) ba [.int .i64 i] ∧ (V.setCell ⟨g, j, none⟩ u).ownsRow B 51 28 (.slice (some ⟨g, 0, none⟩) n cap) n (xs.set j u) ∧ Env (V.setCell ⟨g, j, none⟩ u) ∧ Below w.heap.size w (V.setCell ⟨g, j, none⟩ u) ∧ KMine B W (V.setCell ⟨g, j, none⟩ u) := by
  have hg := (h3.lt g rfl).1
  exact ⟨h1.other (by omega) j u, h2.other (by omega) j u, own_set h3 u, h4.grown (set_grown V g j u) (fun r e => by cases e; omega), h5.setCell (p := ⟨g, j, none⟩) (by show w.heap.size ≤ g; omega) u, h6.trans (KMine.setOwn j u (own_kd h3).1)⟩
theorem DV.setSide {w W V : World} {B bd ba g n cap r : Nat} {vs : List Value} {i : Int} {ps : List Pc} {pl : Pc} (h : DV w W B bd ba vs i (ps ++ [pl]) (.slice (some ⟨g, 0, none⟩) (n + 1) cap) V) (hn : ps.length = n) (hr : r < 4) (hbd : bd < B) (hba : ba < B) (h9 : 9 ≤ B) (hw : w.heap.size ≤ B) (e : Ed) :
    DV w W B bd ba vs i (ps ++ [setE pl r e]) (.slice (some ⟨g, 0, none⟩) (n + 1) cap) (((((((V.setCell ⟨g, n * 28 + r * 7, none⟩ (.int .i64 e.kind)).setCell ⟨g, n * 28 + r * 7 + 1, none⟩ (.int .i64 e.a.lo)).setCell ⟨g, n * 28 + r * 7 + 2, none⟩ (.int .i64 e.a.hi)).setCell ⟨g, n * 28 + r * 7 + 3, none⟩ (.int .i64 e.w.lo)).setCell ⟨g, n * 28 + r * 7 + 4, none⟩ (.int .i64 e.w.hi)).setCell ⟨g, n * 28 + r * 7 + 5, none⟩ (.int .i64 e.d.lo)).setCell ⟨g, n * 28 + r * 7 + 6, none⟩ (.int .i64 e.d.hi)) := by
  subst hn
  have hf := flat_set r hr e ps pl
  obtain ⟨a1, a2, a3, a4, a5, a6⟩ := h
  have hl1 : (ps ++ [pl]).length = ps.length + 1 := by simp
  have hl2 : (ps ++ [setE pl r e]).length = ps.length + 1 := by simp
  rw [hl1] at a3
  have st := fun (V : World) (xs : List Value) h1 h2 h3 h4 h5 h6 j u => DV.setP (w := w) (W := W) (V := V) (g := g) (cap := cap) (n := ps.length + 1) (vs := vs) (i := i) (xs := xs) h1 h2 h3 h4 h5 h6 hbd hba h9 hw j u
  obtain ⟨b1, b2, b3, b4, b5, b6⟩ := st V _ a1 a2 a3 a4 a5 a6 (ps.length * 28 + r * 7) (.int .i64 e.kind)
  obtain ⟨c1, c2, c3, c4, c5, c6⟩ := st _ _ b1 b2 b3 b4 b5 b6 (ps.length * 28 + r * 7 + 1) (.int .i64 e.a.lo)
  obtain ⟨d1, d2, d3, d4, d5, d6⟩ := st _ _ c1 c2 c3 c4 c5 c6 (ps.length * 28 + r * 7 + 2) (.int .i64 e.a.hi)
  obtain ⟨e1, e2, e3, e4, e5, e6⟩ := st _ _ d1 d2 d3 d4 d5 d6 (ps.length * 28 + r * 7 + 3) (.int .i64 e.w.lo)
  obtain ⟨f1, f2, f3, f4, f5, f6⟩ := st _ _ e1 e2 e3 e4 e5 e6 (ps.length * 28 + r * 7 + 4) (.int .i64 e.w.hi)
  obtain ⟨g1, g2, g3, g4, g5, g6⟩ := st _ _ f1 f2 f3 f4 f5 f6 (ps.length * 28 + r * 7 + 5) (.int .i64 e.d.lo)
  obtain ⟨k1, k2, k3, k4, k5, k6⟩ := st _ _ g1 g2 g3 g4 g5 g6 (ps.length * 28 + r * 7 + 6) (.int .i64 e.d.hi)
  rw [hf] at k3
  exact ⟨k1, k2, by rw [hl2]; exact k3, k4, k5, k6⟩
theorem setLast_snoc (ps : List Pc) (pl : Pc) (r : Nat) (e : Ed) : setLast (ps ++ [pl]) r e = ps ++ [setE pl r e] := setLast_app ps pl r e
theorem splitC_count (c : UInt8) : ∀ s : Tx, (splitC c s).length ≤ s.length + 1
  | [] => Nat.le_refl _
  | b :: s => by
    have ih := splitC_count c s
    rw [splitC_eq]
    split
    · simp; omega
    · cases e : splitC c s with
      | nil => exact absurd e (splitC_ne c s)
      | cons y r =>
        rw [e] at ih
        show ((b :: y) :: r).length ≤ _
        simp at ih ⊢
        omega
theorem words_count (s : Tx) : (wordsL s).length ≤ s.length + 1 := by
  unfold wordsL linesP
  rw [List.length_map]
  have := splitC_count 10 s
  split
  · rw [List.length_dropLast]; omega
  · exact this
set_option maxRecDepth 100000 in
set_option maxHeartbeats 8000000 in
theorem ReadDrawing1_any (s : Tx) (hlen : s.length ≤ 65536) (w : World) (hE : Env w) : Calls Tryz.prog 38 #[tx s] w (RetPu (parseP s) w) := by
  have HE := Lib.hid hE
  clear hE
  refine (callsIn_wide (n := 6)).1 ?_
  refine callsIn_of_wpAt Tryz.func38 rfl trivial ?_ rfl
  simp only [Tryz.ntmps38, List.size_toArray, List.length_cons, List.length_nil, Nat.reduceAdd, Nat.reduceSub, Array.replicate_succ, Array.replicate_zero, List.push_toArray, List.append_toArray, List.nil_append, List.cons_append]
  refine wpAt_seq trivial (wpAt_of_wpIn trivial ?_)
  have HX0 := Lib.hid (Bx.new w #[.int .i64 0, .int .i64 0, .int .i64 0, .int .i64 0, .int .i64 0, .int .i64 0, .int .i64 0, .bool false, .slice none 0 0] 28)
  have HB0 := Lib.hid (nxA w (.cells #[.int .i64 0, .int .i64 0, .int .i64 0, .int .i64 0, .int .i64 0, .int .i64 0, .int .i64 0, .bool false, .slice none 0 0] 28))
  gi_wp2_with fail
  generalize (w.alloc (.cells #[.int .i64 0, .int .i64 0, .int .i64 0, .int .i64 0, .int .i64 0, .int .i64 0, .int .i64 0, .bool false, .slice none 0 0] 28)) = V0 at *
  obtain ⟨bd, hbd⟩ : ∃ b, b = w.heap.size := ⟨_, rfl⟩
  rw [← hbd] at HX0 ⊢
  have HBD := Lib.hid hbd
  clear hbd
  refine wpAt_seq trivial (wpAt_of_wpIn trivial ?_)
  have HX1 := Lib.hid (Bx.new V0 #[.int .i64 0] 3)
  have HB1 := Lib.hid (nxA V0 (.cells #[.int .i64 0] 3))
  gi_wp2_with fail
  have HB2 := Lib.hid (HB0.out.trans (HB1.out.mono HB0.out.size))
  have HX2 := Lib.hid (HX0.out.next HB1.out)
  generalize hV1 : (V0.alloc (.cells #[.int .i64 0] 3)) = V1 at *
  obtain ⟨ba, hba⟩ : ∃ b, b = V0.heap.size := ⟨_, rfl⟩
  rw [← hba] at HX1 ⊢
  have HBA := Lib.hid (show bd ≠ ba by have := HX0.out.lt; omega)
  have HBA2 := Lib.hid (show w.heap.size ≤ ba by rw [hba]; exact HB0.out.size)
  clear hV1 hba HX0 HB0 HB1
  refine wpAt_seq trivial ?_
  refine wpAt_seq trivial (wpAt_of_wpIn trivial ?_)
  gi_wp2_with fail
  refine ⟨trivial, (callsIn_wide.2 (bookLines_any ⟨s.toArray⟩ V1)).mono ?_⟩
  rintro e w' ⟨rfl, rfl⟩
  have HB3 := Lib.hid (nxA V1 (.cells #[tx s] 9))
  have HXS := Lib.hid (Bx.new V1 #[tx s] 9)
  gi_wp2_with fail
  have HB4 := Lib.hid (HB2.out.trans (HB3.out.mono HB2.out.size))
  have HX4 := Lib.hid (HX2.out.next HB3.out)
  have HA4 := Lib.hid (HX1.out.next HB3.out)
  generalize hV2 : (V1.alloc (.cells #[tx s] 9)) = V2 at *
  obtain ⟨bs, hbs⟩ : ∃ b, b = V1.heap.size := ⟨_, rfl⟩
  rw [← hbs] at HXS ⊢
  have HE4 := Lib.hid (HE.out.next HB4.out)
  clear hV2 hbs HX1 HX2 HB2 HB3
  obtain ⟨B, hB⟩ : ∃ B, V2.heap.size = B := ⟨_, rfl⟩
  have hbdB : bd < B := by rw [← hB]; exact HX4.out.lt
  have hbaB : ba < B := by rw [← hB]; exact HA4.out.lt
  have h9B : 9 ≤ B := by rw [← hB]; exact HE4.out.sz
  have hwB : w.heap.size ≤ B := by rw [← hB]; exact HB4.out.size
  refine wpAt_block trivial (fun _ _ _ h => h) (fun _ _ _ h => h) ?_
  refine wpAt_rangeFunc_x (fn₀ := Tryz.f38) Tryz.func38 trivial rfl (by omega) (gf := 81) (lb := #[.pointer (some ⟨bs, 0, none⟩)]) rfl trivial (enters_of Tryz.func81 (by kernel_rfl) rfl)
    (fun W hW hs => bookLines1_x (6 - 1) (by omega) s (by omega) bs W (HE4.out.next hW) (HXS.out.next hW) (B + 2) (by omega))
    (fun A r h => by have := h.1; omega) (fun h k => h.trans k) (fun W o' => by rw [hB]; exact KMineE.put h9B) (fun _ => rfl)
    (IDr w B bd ba) (fun _ _ _ => False) (IPn w s) ?hI ?hIx ?hR ?tI ?tIx ?tIp ⟨pu0, rfl, _, HX4.out, HA4.out, World.ownsRow_nil _ _ _ _, HE4.out, HB4.out⟩
    (fun x => { tmps := (tx s :: undef :: .pointer (some ⟨bd, 0, none⟩) :: .pointer (some ⟨ba, 0, none⟩) :: .slice x.A x.ws.length x.c :: undef :: tx s :: .func (.func 81) #[] #[.pointer (some ⟨bs, 0, none⟩)] :: .slice x.A x.ws.length x.c :: undef :: undef :: undef :: undef :: undef :: undef :: undef :: undef :: undef :: undef :: undef :: undef :: undef :: undef :: undef :: undef :: undef :: undef :: undef :: undef :: undef :: undef :: undef :: undef :: undef :: undef :: undef :: undef :: undef :: undef :: undef :: undef :: undef :: undef :: undef :: undef :: undef :: undef :: undef :: undef :: undef :: undef :: undef :: undef :: undef :: undef :: undef :: undef :: undef :: undef :: undef :: undef :: undef :: undef :: undef :: undef :: undef :: undef :: undef :: undef :: undef :: undef :: undef :: undef :: undef :: undef :: undef :: undef :: undef :: undef :: undef :: undef :: undef :: undef :: undef :: undef :: undef :: undef :: undef :: undef :: []).toArray, defers := [] }) ?assign ?body ?done ?stop ?pan
  case assign =>
    intro l x W K hK
    dsimp only [encW]
    gi_wp2
    exact hK
  case hI =>
    rw [hB]
    intro pre A A' row h hg hr
    exact IDr.turn h hbdB hbaB h9B hwB hg (fun r e => by obtain ⟨h1, ⟨o, h2, h3⟩, -⟩ := hr r e; exact ⟨h1, o, h2, not_mine h3⟩)
  case hIx => exact fun _ _ _ _ _ h _ _ => h
  case hR =>
    rw [hB]
    exact WlAt.ownX
  case tI =>
    intro pre A A' row h hg hr
    exact IDr.turn h hbdB hbaB h9B hwB hg (fun r e => by obtain ⟨⟨h1, h2⟩, -⟩ := hr r e; exact ⟨by omega, h2⟩)
  case tIx => exact fun _ _ _ _ _ h _ _ => h
  case tIp =>
    intro ch A A' row h hg hr
    exact IPn.turn h hwB hg (fun r e => by obtain ⟨⟨h1, -⟩, -⟩ := hr r e; omega)
  case stop => rintro D c pre W _ _ h _; exact h.elim
  case pan =>
    rintro D ch W hD h hK
    rw [hB] at hD
    refine ⟨by simp, .inl ⟨_, _, rfl, run_takeDeferred hK, ?_⟩⟩
    obtain ⟨rfl, h2, h3⟩ := IPn.turn h hwB (grownBy_putObj' W D (.deferred none)) (fun r e => by cases e; exact hD)
    show RetPu (parseP s) w _ _
    rw [h2]
    exact ⟨rfl, h3⟩
  case done =>
    rintro D xs W hD hxs ⟨d, hrd, hdi⟩ hK
    rw [hB] at hD
    have HP := Lib.hid (show parseP s = some d by unfold parseP; rw [← show xs.map (·.ws) = (linesP s).map (splitC 32) from hxs]; exact hrd)
    obtain ⟨v, hxd, hxa, hown, hEn, hbw⟩ := hdi
    obtain ⟨A, c, rfl, hat⟩ := own_at pc_len (by decide) hown
    have HN1 := Lib.hid (show d.pieces.length ≤ c by
      rcases Nat.eq_zero_or_pos d.pieces.length with h | h
      · omega
      · exact own_le hown h)
    have HN2 := Lib.hid (show d.pieces.length ≤ 9223372036854775807 from Nat.le_trans HN1.out (by
      rcases hown.2 with ⟨h, -⟩ | ⟨g, cap, cur, h, -, -, -, h6, -⟩
      · injection h with _ _ h
        omega
      · injection h with _ _ h
        subst h
        unfold maxLen at h6
        omega))
    have HXD := Lib.hid hxd
    have HOW := Lib.hid hown
    have HBW := Lib.hid hbw
    have HK := Lib.hid hK
    clear hxd hown hbw hK hrd hxs hat hxa
    have c0 := HXD.out.c 0 _ rfl
    have f0 := HXD.out.fr 0
    have c1 := HXD.out.c 1 _ rfl
    have f1 := HXD.out.fr 1
    have c2 := HXD.out.c 2 _ rfl
    have f2 := HXD.out.fr 2
    have c3 := HXD.out.c 3 _ rfl
    have f3 := HXD.out.fr 3
    have c4 := HXD.out.c 4 _ rfl
    have f4 := HXD.out.fr 4
    have c5 := HXD.out.c 5 _ rfl
    have f5 := HXD.out.fr 5
    have c6 := HXD.out.c 6 _ rfl
    have f6 := HXD.out.fr 6
    have c7 := HXD.out.c 7 _ rfl
    have f7 := HXD.out.fr 7
    have c8 := HXD.out.c 8 _ rfl
    have f8 := HXD.out.fr 8
    rw [HP.out]
    refine wpAt_of_wpIn trivial ?_
    gi_wp2_with fail
    have HG9 := Lib.hid (sets_grown bd (puC d (.slice A d.pieces.length c)) 0 W)
    have HX9 := Lib.hid (HXD.out.setAll (puC d (.slice A d.pieces.length c)) rfl)
    have HB9 := Lib.hid (below_setCells (b := bd) (by rw [HBD.out]; exact Nat.le_refl _) (puC d (.slice A d.pieces.length c)) 0 HBW.out)
    have HO9 := Lib.hid (HOW.out.kept HG9.out (.inr (own_far HOW.out hbdB)))
    have HK9 := Lib.hid (show (setCells W bd 0 (puC d (.slice A d.pieces.length c))).heap[D]? = some (.deferred (some [])) from (HG9.out.block D (Array.getElem?_eq_some_iff.1 HK.out).1 (fun e => by injection e with e; omega)).trans HK.out)
    change bodyPostM _ _ _ _ _ _ _ (setCells W bd 0 (puC d (.slice A d.pieces.length c)))
    generalize (setCells W bd 0 (puC d (.slice A d.pieces.length c))) = W9 at *
    have hG := grownBy_putObj' W9 D (.deferred none)
    refine ⟨by simp, .inl ⟨_, _, rfl, run_takeDeferred HK9.out, ?_⟩⟩
    have HXF := Lib.hid (HX9.out.grown hG (fun e => by injection e with e; omega))
    refine ⟨_, results_cell1 rfl rfl (loadPu HXF.out), ⟨d, A, c⟩, rfl, rfl, ⟨?_, HN2.out, HN1.out⟩, (fun a ha => by (have ha' : A = some a := ha); subst ha'; exact Nat.le_trans hwB (HOW.out.lt a.block rfl).1), ⟨hG.os.trans HB9.out.os, hG.tape.trans HB9.out.tape, hG.output.trans HB9.out.output, Nat.le_trans HB9.out.size hG.size, fun k hk => (hG.block k (Nat.lt_of_lt_of_le hk HB9.out.size) (fun e => by injection e with e; omega)).trans (HB9.out.block k hk)⟩⟩
    obtain ⟨A', c', e', hat'⟩ := own_at pc_len (by decide) (HO9.out.kept hG (own_not_obj HO9.out HK9.out))
    injection e' with e1 e2 e3
    subst e1 e3
    exact hat'
  case body =>
    rintro l' pre ⟨ws, A, c⟩ W ⟨d, hrd, v, hxd, hxa, hown, hEn, hbw⟩ hsp ⟨hat, hne, hc, hfar, -⟩
    dsimp only at hat hne hc hfar ⊢
    obtain ⟨q, off, rfl, hq, hcs⟩ := tx_at hat hne
    obtain ⟨i, hi⟩ : ∃ i, pre.length = i := ⟨_, rfl⟩
    have HLW := Lib.hid (show ∀ k, (ws.getD k []).length ≤ 70000 from fun k => by
      rw [List.getD_eq_getElem?_getD]
      cases hk : ws[k]? with
      | none => exact Nat.zero_le _
      | some t => exact Nat.le_trans (words_len (List.IsPrefix.mem (by simp) hsp) t (List.mem_of_getElem? hk)) (by omega))
    have hib : i ≤ 65537 := by
      have h1 := hsp.length_le
      have h2 := words_count s
      rw [List.length_map, List.length_append, hi] at h1
      omega
    have HWL := Lib.hid (show ∀ t ∈ ws, t.length ≤ 70000 from fun t ht => Nat.le_trans (words_len (List.IsPrefix.mem (by simp) hsp) t ht) (by omega))
    have HBS := Lib.hid (show B ≤ W.heap.size by have h1 : B + 2 ≤ q := hfar _ rfl; omega)
    have HWS := Lib.hid (show ∀ W' : World, Below W.heap.size W W' → ∀ k, k < ws.length → W'.cell? ⟨q, off + k, none⟩ = some (tx (ws.getD k [])) from fun W' hb k hk => (hb.cell (p := ⟨q, off + k, none⟩) hq).trans (hcs k hk))
    have HAT := Lib.hid hat
    have HQ := Lib.hid (show B + 2 ≤ q from hfar _ rfl)
    have HCN := Lib.hid (show d.pieces.length = (i + 2) / 5 by
      have := read_count _ 0 pu0 d hrd (by rfl)
      rw [this, List.length_map, hi, Nat.zero_add])
    have HFIN := Lib.hid (show ∀ d' v' W', stepP i d ws = some d' → DV w W B bd ba (puC d' v') ((i : Int) + 1) d'.pieces v' W' → KeepsFrom V2.heap.size W W' ∧ KMineE (B + 2) W W' ∧ IDr w B bd ba (pre ++ [⟨ws, some ⟨q, off, none⟩, c⟩]) W' from fun d' v' W' h1 h3 => by
      obtain ⟨g1, g2, g3, g4, g5, h2⟩ := h3
      refine ⟨h2.from' (by omega), ⟨h2.more (by omega), fun _ => g4⟩, d', ?_, v', g1, ?_, g3, g4, g5⟩
      · rw [List.map_append]
        exact read_go hrd (by rw [List.length_map, hi]; exact h1)
      · rw [List.length_append, hi]
        push_cast
        exact g2)
    have HPAN := Lib.hid (show ∀ W', stepP i d ws = none → KMine B W W' → Env W' → Below w.heap.size w W' → KeepsFrom V2.heap.size W W' ∧ KMineE (B + 2) W W' ∧ IPn w s [{ v := .iface 129 (.agg #[]), recovered := false }] W' from fun W' h1 h2 h3 h4 =>
      ⟨h2.from' (by omega), ⟨h2.more (by omega), fun _ => h3⟩, rfl, by
        unfold parseP
        unfold LSp at hsp
        rw [List.map_append] at hsp
        exact read_stop hsp hrd (by rw [List.length_map, hi]; exact h1), h4⟩)
    rw [hi] at hxa
    have HDV := Lib.hid (show DV w W B bd ba (puC d v) (i : Int) d.pieces v W from ⟨hxd, hxa, hown, hEn, hbw, KMine.next (Below.refl _ _)⟩)
    have HXA := Lib.hid hxa
    have HOW := Lib.hid hown
    have HEN := Lib.hid hEn
    have hbd9 : 9 ≤ bd := by rw [HBD.out]; exact HE.out.sz
    have hba9 : 9 ≤ ba := Nat.le_trans HE.out.sz HBA2.out
    have hbdw : w.heap.size ≤ bd := by rw [HBD.out]; exact Nat.le_refl _
    have hbda := HBA.out
    have HBW := Lib.hid hbw
    have HNE := Lib.hid hne
    have HPO := Lib.hid (List.length_pos_iff.2 hne)
    have HCL := Lib.hid hc
    clear hat hne hc hfar hcs hrd hxd hxa hown hEn hbw hsp hq hi
    have hn1 : 1 ≤ 6 - 1 - 1 := by decide
    rcases Nat.lt_or_ge i 1 with hi0 | hi1
    · obtain rfl : i = 0 := by omega
      have c0 := HXA.out.c 0 _ rfl
      by_cases h3 : ws.length = 3
      · have h3i : ((ws.length : Int) == 3) = true := by rw [h3]; rfl
        have HST := Lib.hid (step_zero (d := d) h3)
        have HS := Lib.hid (show ∀ W' : World, Below W.heap.size W W' → W'.cell? ⟨q, off, none⟩ = some (tx (ws.getD 0 [])) ∧ W'.cell? ⟨q, off + 1, none⟩ = some (tx (ws.getD 1 [])) ∧ W'.cell? ⟨q, off + 2, none⟩ = some (tx (ws.getD 2 [])) from fun W' hb => ⟨HWS.out W' hb 0 (by omega), HWS.out W' hb 1 (by omega), HWS.out W' hb 2 (by omega)⟩)
        have h3n : (ws.length : Int) = 3 := by omega
        have HN1 := Lib.hid (fun W' hW => number_any (ws.getD 1 []) W' hW (HLW.out 1))
        have HN2 := Lib.hid (fun W' hW => number_any (ws.getD 2 []) W' hW (HLW.out 2))
        generalize ws.getD 0 [] = w0 at HST HS
        generalize ws.getD 1 [] = w1 at HST HS HN1
        generalize ws.getD 2 [] = w2 at HST HS HN2
        have HSK := Lib.hid (show ∀ (V : World) (j : Nat) (u : Value), (V.cell? ⟨q, off, none⟩ = some (tx w0) ∧ V.cell? ⟨q, off + 1, none⟩ = some (tx w1) ∧ V.cell? ⟨q, off + 2, none⟩ = some (tx w2)) → ((V.setCell ⟨bd, j, none⟩ u).cell? ⟨q, off, none⟩ = some (tx w0) ∧ (V.setCell ⟨bd, j, none⟩ u).cell? ⟨q, off + 1, none⟩ = some (tx w1) ∧ (V.setCell ⟨bd, j, none⟩ u).cell? ⟨q, off + 2, none⟩ = some (tx w2)) from fun V j u h => by
          have hq := HQ.out
          refine ⟨?_, ?_, ?_⟩ <;> rw [World.cell?_setCell_other _ _ _ _ (by intro e; injection e with e; omega)]
          · exact h.1
          · exact h.2.1
          · exact h.2.2)
        have HC := Lib.hid ((Below.refl W.heap.size W).drew)
        generalize numP w1 = p1 at HST HN1
        generalize numP w2 = p2 at HST HN2
        generalize hnl : ws.length = nl at *
        subst h3
        gi_wp2_with fail
        refine ⟨trivial, CallsIn.inRound l' (callsIn_wide.2 ((need_true W).mono ?_))⟩
        rintro e W' ⟨rfl, rfl⟩
        gi_wp2_with fail
        rcases p1 with _ | a1
        · have HNO := Lib.hid (show stepP 0 d ws = none from HST.out)
          refine region_inX (S := (fun W' => W'.cell? ⟨q, off, none⟩ = some (tx w0) ∧ W'.cell? ⟨q, off + 1, none⟩ = some (tx w1) ∧ W'.cell? ⟨q, off + 2, none⟩ = some (tx w2))) (fun ch W' => ch = [{ v := .iface 129 (.agg #[]), recovered := false }] ∧ stepP 0 d ws = none ∧ KMine B W W' ∧ Env W' ∧ Below w.heap.size w W') (by kernel_rfl) (by kernel_rfl) (fun ch a' w' hd h => by obtain ⟨rfl, h1, h2, h3, h4⟩ := h; exact ⟨hd, HPAN.out w' h1 h2 h3 h4⟩) ?_ (fun hHeld => ?_)
          · (try dsimp only); exact HS.out _ HC.out
          refine htake (i := 0) (v := ?v1) rfl (by kernel_rfl) (by kernel_rfl) (by kernel_rfl) (fun _ _ _ h => pan_put h) (Or.inl ⟨by rfl, ?hy1⟩) (by assumption) ?_
          case hy1 => (intro w hSw; (try dsimp only at hSw); go_simp; try (with_reducible rfl))
          try simp only [Act.put, List.setIfInBounds_toArray, List.set_cons_zero, List.set_cons_succ]
          refine htake (i := 1) (v := ?v2) rfl (by kernel_rfl) (by kernel_rfl) (by kernel_rfl) (fun _ _ _ h => pan_put h) (Or.inl ⟨by rfl, ?hy2⟩) (by assumption) ?_
          case hy2 => (intro w hSw; (try dsimp only at hSw); go_simp; try (with_reducible rfl))
          try simp only [Act.put, List.setIfInBounds_toArray, List.set_cons_zero, List.set_cons_succ]
          refine htake (i := 2) (v := ?v3) rfl (by kernel_rfl) (by kernel_rfl) (by kernel_rfl) (fun _ _ _ h => pan_put h) (Or.inl ⟨by rfl, ?hy3⟩) (by assumption) ?_
          case hy3 => (intro w hSw; (try dsimp only at hSw); go_simp; try (with_reducible rfl))
          try simp only [Act.put, List.setIfInBounds_toArray, List.set_cons_zero, List.set_cons_succ]
          refine htake (i := 3) (v := ?v4) rfl (by kernel_rfl) (by kernel_rfl) (by kernel_rfl) (fun _ _ _ h => pan_put h) (Or.inl ⟨by rfl, ?hy4⟩) (by assumption) ?_
          case hy4 => (intro w hSw; (try dsimp only at hSw); go_simp; try (with_reducible rfl))
          try simp only [Act.put, List.setIfInBounds_toArray, List.set_cons_zero, List.set_cons_succ]
          refine htake (i := 4) (v := ?v5) rfl (by kernel_rfl) (by kernel_rfl) (by kernel_rfl) (fun _ _ _ h => pan_put h) (Or.inl ⟨by rfl, ?hy5⟩) (by assumption) ?_
          case hy5 => (intro w hSw; (try dsimp only at hSw); go_simp; try (with_reducible rfl))
          try simp only [Act.put, List.setIfInBounds_toArray, List.set_cons_zero, List.set_cons_succ]
          refine htake (i := 5) (v := ?v6) rfl (by kernel_rfl) (by kernel_rfl) (by kernel_rfl) (fun _ _ _ h => pan_put h) (Or.inl ⟨by rfl, ?hy6⟩) (by assumption) ?_
          case hy6 => (intro w hSw; (try dsimp only at hSw); go_simp; try (with_reducible rfl))
          try simp only [Act.put, List.setIfInBounds_toArray, List.set_cons_zero, List.set_cons_succ]
          refine htake (i := 6) (v := ?v7) rfl (by kernel_rfl) (by kernel_rfl) (by kernel_rfl) (fun _ _ _ h => pan_put h) (Or.inl ⟨by rfl, ?hy7⟩) (by assumption) ?_
          case hy7 => (intro w hSw; (try dsimp only at hSw); go_simp; try (with_reducible rfl))
          try simp only [Act.put, List.setIfInBounds_toArray, List.set_cons_zero, List.set_cons_succ]
          refine htake (i := 8) (v := ?v8) rfl (by kernel_rfl) (by kernel_rfl) (by kernel_rfl) (fun _ _ _ h => pan_put h) (Or.inl ⟨by rfl, ?hy8⟩) (by assumption) ?_
          case hy8 => (intro w hSw; (try dsimp only at hSw); go_simp; try (with_reducible rfl))
          try simp only [Act.put, List.setIfInBounds_toArray, List.set_cons_zero, List.set_cons_succ]
          refine htake (i := 9) (v := ?v9) rfl (by kernel_rfl) (by kernel_rfl) (by kernel_rfl) (fun _ _ _ h => pan_put h) (Or.inl ⟨by rfl, ?hy9⟩) (by assumption) ?_
          case hy9 => (intro w hSw; (try dsimp only at hSw); go_simp; try (with_reducible rfl))
          try simp only [Act.put, List.setIfInBounds_toArray, List.set_cons_zero, List.set_cons_succ]
          refine htake (i := 10) (v := ?v10) rfl (by kernel_rfl) (by kernel_rfl) (by kernel_rfl) (fun _ _ _ h => pan_put h) (Or.inl ⟨by rfl, ?hy10⟩) (by assumption) ?_
          case hy10 => (intro w hSw; (try dsimp only at hSw); go_simp; try (with_reducible rfl))
          try simp only [Act.put, List.setIfInBounds_toArray, List.set_cons_zero, List.set_cons_succ]
          refine htake (i := 12) (v := ?v11) rfl (by kernel_rfl) (by kernel_rfl) (by kernel_rfl) (fun _ _ _ h => pan_put h) (Or.inl ⟨by rfl, ?hy11⟩) (by assumption) ?_
          case hy11 => (intro w hSw; (try dsimp only at hSw); go_simp; try (with_reducible rfl))
          try simp only [Act.put, List.setIfInBounds_toArray, List.set_cons_zero, List.set_cons_succ]
          refine wpAnyH_ready (rs := [7]) (by kernel_rfl) (by simp) ?_
          refine hcons rfl (fun K hK => ?_) (AllReadyH.nil)
          go_simp
          refine (HN1.out _ (HEN.out.next HC.out)).mono ?_; rintro e9 V9 ⟨rfl, hb⟩; replace HC := Lib.hid (HC.out.trans (hb.mono HC.out.size)); exact ⟨rfl, rfl, HNO.out, KMine.next HC.out, HEN.out.next HC.out, HBW.out.trans (HC.out.mono HBW.out.size)⟩
        · rcases p2 with _ | a2
          · have HNO := Lib.hid (show stepP 0 d ws = none from HST.out)
            refine region_inX (S := (fun W' => W'.cell? ⟨q, off, none⟩ = some (tx w0) ∧ W'.cell? ⟨q, off + 1, none⟩ = some (tx w1) ∧ W'.cell? ⟨q, off + 2, none⟩ = some (tx w2))) (fun ch W' => ch = [{ v := .iface 129 (.agg #[]), recovered := false }] ∧ stepP 0 d ws = none ∧ KMine B W W' ∧ Env W' ∧ Below w.heap.size w W') (by kernel_rfl) (by kernel_rfl) (fun ch a' w' hd h => by obtain ⟨rfl, h1, h2, h3, h4⟩ := h; exact ⟨hd, HPAN.out w' h1 h2 h3 h4⟩) ?_ (fun hHeld => ?_)
            · (try dsimp only); exact HS.out _ HC.out
            refine htake (i := 0) (v := ?v12) rfl (by kernel_rfl) (by kernel_rfl) (by kernel_rfl) (fun _ _ _ h => pan_put h) (Or.inl ⟨by rfl, ?hy12⟩) (by assumption) ?_
            case hy12 => (intro w hSw; (try dsimp only at hSw); go_simp; try (with_reducible rfl))
            try simp only [Act.put, List.setIfInBounds_toArray, List.set_cons_zero, List.set_cons_succ]
            refine htake (i := 1) (v := ?v13) rfl (by kernel_rfl) (by kernel_rfl) (by kernel_rfl) (fun _ _ _ h => pan_put h) (Or.inl ⟨by rfl, ?hy13⟩) (by assumption) ?_
            case hy13 => (intro w hSw; (try dsimp only at hSw); go_simp; try (with_reducible rfl))
            try simp only [Act.put, List.setIfInBounds_toArray, List.set_cons_zero, List.set_cons_succ]
            refine htake (i := 2) (v := ?v14) rfl (by kernel_rfl) (by kernel_rfl) (by kernel_rfl) (fun _ _ _ h => pan_put h) (Or.inl ⟨by rfl, ?hy14⟩) (by assumption) ?_
            case hy14 => (intro w hSw; (try dsimp only at hSw); go_simp; try (with_reducible rfl))
            try simp only [Act.put, List.setIfInBounds_toArray, List.set_cons_zero, List.set_cons_succ]
            refine htake (i := 3) (v := ?v15) rfl (by kernel_rfl) (by kernel_rfl) (by kernel_rfl) (fun _ _ _ h => pan_put h) (Or.inl ⟨by rfl, ?hy15⟩) (by assumption) ?_
            case hy15 => (intro w hSw; (try dsimp only at hSw); go_simp; try (with_reducible rfl))
            try simp only [Act.put, List.setIfInBounds_toArray, List.set_cons_zero, List.set_cons_succ]
            refine htake (i := 4) (v := ?v16) rfl (by kernel_rfl) (by kernel_rfl) (by kernel_rfl) (fun _ _ _ h => pan_put h) (Or.inl ⟨by rfl, ?hy16⟩) (by assumption) ?_
            case hy16 => (intro w hSw; (try dsimp only at hSw); go_simp; try (with_reducible rfl))
            try simp only [Act.put, List.setIfInBounds_toArray, List.set_cons_zero, List.set_cons_succ]
            refine htake (i := 5) (v := ?v17) rfl (by kernel_rfl) (by kernel_rfl) (by kernel_rfl) (fun _ _ _ h => pan_put h) (Or.inl ⟨by rfl, ?hy17⟩) (by assumption) ?_
            case hy17 => (intro w hSw; (try dsimp only at hSw); go_simp; try (with_reducible rfl))
            try simp only [Act.put, List.setIfInBounds_toArray, List.set_cons_zero, List.set_cons_succ]
            refine htake (i := 6) (v := ?v18) rfl (by kernel_rfl) (by kernel_rfl) (by kernel_rfl) (fun _ _ _ h => pan_put h) (Or.inl ⟨by rfl, ?hy18⟩) (by assumption) ?_
            case hy18 => (intro w hSw; (try dsimp only at hSw); go_simp; try (with_reducible rfl))
            try simp only [Act.put, List.setIfInBounds_toArray, List.set_cons_zero, List.set_cons_succ]
            refine htake (i := 8) (v := ?v19) rfl (by kernel_rfl) (by kernel_rfl) (by kernel_rfl) (fun _ _ _ h => pan_put h) (Or.inl ⟨by rfl, ?hy19⟩) (by assumption) ?_
            case hy19 => (intro w hSw; (try dsimp only at hSw); go_simp; try (with_reducible rfl))
            try simp only [Act.put, List.setIfInBounds_toArray, List.set_cons_zero, List.set_cons_succ]
            refine htake (i := 9) (v := ?v20) rfl (by kernel_rfl) (by kernel_rfl) (by kernel_rfl) (fun _ _ _ h => pan_put h) (Or.inl ⟨by rfl, ?hy20⟩) (by assumption) ?_
            case hy20 => (intro w hSw; (try dsimp only at hSw); go_simp; try (with_reducible rfl))
            try simp only [Act.put, List.setIfInBounds_toArray, List.set_cons_zero, List.set_cons_succ]
            refine htake (i := 10) (v := ?v21) rfl (by kernel_rfl) (by kernel_rfl) (by kernel_rfl) (fun _ _ _ h => pan_put h) (Or.inl ⟨by rfl, ?hy21⟩) (by assumption) ?_
            case hy21 => (intro w hSw; (try dsimp only at hSw); go_simp; try (with_reducible rfl))
            try simp only [Act.put, List.setIfInBounds_toArray, List.set_cons_zero, List.set_cons_succ]
            refine htake (i := 12) (v := ?v22) rfl (by kernel_rfl) (by kernel_rfl) (by kernel_rfl) (fun _ _ _ h => pan_put h) (Or.inl ⟨by rfl, ?hy22⟩) (by assumption) ?_
            case hy22 => (intro w hSw; (try dsimp only at hSw); go_simp; try (with_reducible rfl))
            try simp only [Act.put, List.setIfInBounds_toArray, List.set_cons_zero, List.set_cons_succ]
            refine wpAnyH_ready (rs := [7]) (by kernel_rfl) (by simp) ?_
            refine hcons rfl (fun K hK => ?_) (AllReadyH.nil)
            go_simp
            refine (HN1.out _ (HEN.out.next HC.out)).mono ?_; rintro e7 V7 ⟨rfl, hb⟩; replace HC := Lib.hid (HC.out.trans (hb.mono HC.out.size)); clear hb
            refine hK.out _ _ ?_ (fun hHeld => ?_)
            · (try dsimp only); exact HS.out _ HC.out
            clear hK K
            try simp only [Act.put, List.setIfInBounds_toArray, List.set_cons_zero, List.set_cons_succ]
            refine wpAnyH_ready (rs := [11]) (by kernel_rfl) (by simp) ?_
            refine hcons rfl (fun K hK => ?_) (AllReadyH.nil)
            go_simp
            refine (HN2.out _ (HEN.out.next HC.out)).mono ?_; rintro e9 V9 ⟨rfl, hb⟩; replace HC := Lib.hid (HC.out.trans (hb.mono HC.out.size)); exact ⟨rfl, rfl, HNO.out, KMine.next HC.out, HEN.out.next HC.out, HBW.out.trans (HC.out.mono HBW.out.size)⟩
          · have HGO := Lib.hid (show stepP 0 d ws = some { d with turn := decide (w0 = wTurning), wide := a1, high := a2 } from HST.out)
            replace HN1 := Lib.hid (show ∀ W' : World, Env W' → Calls Tryz.prog 41 #[tx w1] W' (Got (some (.int .i64 a1)) W') from HN1.out)
            replace HN2 := Lib.hid (show ∀ W' : World, Env W' → Calls Tryz.prog 41 #[tx w2] W' (Got (some (.int .i64 a2)) W') from HN2.out)
            refine region_inX (S := (fun W' => W'.cell? ⟨q, off, none⟩ = some (tx w0) ∧ W'.cell? ⟨q, off + 1, none⟩ = some (tx w1) ∧ W'.cell? ⟨q, off + 2, none⟩ = some (tx w2))) (fun ch W' => ch = [{ v := .iface 129 (.agg #[]), recovered := false }] ∧ stepP 0 d ws = none ∧ KMine B W W' ∧ Env W' ∧ Below w.heap.size w W') (by kernel_rfl) (by kernel_rfl) (fun ch a' w' hd h => by obtain ⟨rfl, h1, h2, h3, h4⟩ := h; exact ⟨hd, HPAN.out w' h1 h2 h3 h4⟩) ?_ (fun hHeld => ?_)
            · (try dsimp only); exact HS.out _ HC.out
            refine htake (i := 0) (v := ?v23) rfl (by kernel_rfl) (by kernel_rfl) (by kernel_rfl) (fun _ _ _ h => pan_put h) (Or.inl ⟨by rfl, ?hy23⟩) (by assumption) ?_
            case hy23 => (intro w hSw; (try dsimp only at hSw); go_simp; try (with_reducible rfl))
            try simp only [Act.put, List.setIfInBounds_toArray, List.set_cons_zero, List.set_cons_succ]
            refine htake (i := 1) (v := ?v24) rfl (by kernel_rfl) (by kernel_rfl) (by kernel_rfl) (fun _ _ _ h => pan_put h) (Or.inl ⟨by rfl, ?hy24⟩) (by assumption) ?_
            case hy24 => (intro w hSw; (try dsimp only at hSw); go_simp; try (with_reducible rfl))
            try simp only [Act.put, List.setIfInBounds_toArray, List.set_cons_zero, List.set_cons_succ]
            refine htake (i := 2) (v := ?v25) rfl (by kernel_rfl) (by kernel_rfl) (by kernel_rfl) (fun _ _ _ h => pan_put h) (Or.inl ⟨by rfl, ?hy25⟩) (by assumption) ?_
            case hy25 => (intro w hSw; (try dsimp only at hSw); go_simp; try (with_reducible rfl))
            try simp only [Act.put, List.setIfInBounds_toArray, List.set_cons_zero, List.set_cons_succ]
            refine htake (i := 3) (v := ?v26) rfl (by kernel_rfl) (by kernel_rfl) (by kernel_rfl) (fun _ _ _ h => pan_put h) (Or.inl ⟨by rfl, ?hy26⟩) (by assumption) ?_
            case hy26 => (intro w hSw; (try dsimp only at hSw); go_simp; try (with_reducible rfl))
            try simp only [Act.put, List.setIfInBounds_toArray, List.set_cons_zero, List.set_cons_succ]
            refine htake (i := 4) (v := ?v27) rfl (by kernel_rfl) (by kernel_rfl) (by kernel_rfl) (fun _ _ _ h => pan_put h) (Or.inl ⟨by rfl, ?hy27⟩) (by assumption) ?_
            case hy27 => (intro w hSw; (try dsimp only at hSw); go_simp; try (with_reducible rfl))
            try simp only [Act.put, List.setIfInBounds_toArray, List.set_cons_zero, List.set_cons_succ]
            refine htake (i := 5) (v := ?v28) rfl (by kernel_rfl) (by kernel_rfl) (by kernel_rfl) (fun _ _ _ h => pan_put h) (Or.inl ⟨by rfl, ?hy28⟩) (by assumption) ?_
            case hy28 => (intro w hSw; (try dsimp only at hSw); go_simp; try (with_reducible rfl))
            try simp only [Act.put, List.setIfInBounds_toArray, List.set_cons_zero, List.set_cons_succ]
            refine htake (i := 6) (v := ?v29) rfl (by kernel_rfl) (by kernel_rfl) (by kernel_rfl) (fun _ _ _ h => pan_put h) (Or.inl ⟨by rfl, ?hy29⟩) (by assumption) ?_
            case hy29 => (intro w hSw; (try dsimp only at hSw); go_simp; try (with_reducible rfl))
            try simp only [Act.put, List.setIfInBounds_toArray, List.set_cons_zero, List.set_cons_succ]
            refine htake (i := 8) (v := ?v30) rfl (by kernel_rfl) (by kernel_rfl) (by kernel_rfl) (fun _ _ _ h => pan_put h) (Or.inl ⟨by rfl, ?hy30⟩) (by assumption) ?_
            case hy30 => (intro w hSw; (try dsimp only at hSw); go_simp; try (with_reducible rfl))
            try simp only [Act.put, List.setIfInBounds_toArray, List.set_cons_zero, List.set_cons_succ]
            refine htake (i := 9) (v := ?v31) rfl (by kernel_rfl) (by kernel_rfl) (by kernel_rfl) (fun _ _ _ h => pan_put h) (Or.inl ⟨by rfl, ?hy31⟩) (by assumption) ?_
            case hy31 => (intro w hSw; (try dsimp only at hSw); go_simp; try (with_reducible rfl))
            try simp only [Act.put, List.setIfInBounds_toArray, List.set_cons_zero, List.set_cons_succ]
            refine htake (i := 10) (v := ?v32) rfl (by kernel_rfl) (by kernel_rfl) (by kernel_rfl) (fun _ _ _ h => pan_put h) (Or.inl ⟨by rfl, ?hy32⟩) (by assumption) ?_
            case hy32 => (intro w hSw; (try dsimp only at hSw); go_simp; try (with_reducible rfl))
            try simp only [Act.put, List.setIfInBounds_toArray, List.set_cons_zero, List.set_cons_succ]
            refine htake (i := 12) (v := ?v33) rfl (by kernel_rfl) (by kernel_rfl) (by kernel_rfl) (fun _ _ _ h => pan_put h) (Or.inl ⟨by rfl, ?hy33⟩) (by assumption) ?_
            case hy33 => (intro w hSw; (try dsimp only at hSw); go_simp; try (with_reducible rfl))
            try simp only [Act.put, List.setIfInBounds_toArray, List.set_cons_zero, List.set_cons_succ]
            refine wpAnyH_ready (rs := [7]) (by kernel_rfl) (by simp) ?_
            refine hcons rfl (fun K hK => ?_) (AllReadyH.nil)
            go_simp
            refine (HN1.out _ (HEN.out.next HC.out)).mono ?_; rintro e7 V7 ⟨rfl, hb⟩; replace HC := Lib.hid (HC.out.trans (hb.mono HC.out.size)); clear hb
            refine hK.out _ _ ?_ (fun hHeld => ?_)
            · (try dsimp only); exact HS.out _ HC.out
            clear hK K
            try simp only [Act.put, List.setIfInBounds_toArray, List.set_cons_zero, List.set_cons_succ]
            refine wpAnyH_ready (rs := [11]) (by kernel_rfl) (by simp) ?_
            refine hcons rfl (fun K hK => ?_) (AllReadyH.nil)
            go_simp
            refine (HN2.out _ (HEN.out.next HC.out)).mono ?_; rintro e11 V11 ⟨rfl, hb⟩; replace HC := Lib.hid (HC.out.trans (hb.mono HC.out.size)); clear hb; have HDC := Lib.hid (HDV.out.next HC.out); have b5 := HDC.out.1.c 5 _ rfl; have f5 := HDC.out.1.fr 5; have b6 := HDC.out.1.c 6 _ rfl; have f6 := HDC.out.1.fr 6; have b7 := HDC.out.1.c 7 _ rfl; have f7 := HDC.out.1.fr 7
            refine hK.out _ _ ?_ (fun hHeld => ?_)
            · (try dsimp only); exact HS.out _ HC.out
            clear hK K
            try simp only [Act.put, List.setIfInBounds_toArray, List.set_cons_zero, List.set_cons_succ]
            refine wpAnyH_ready (rs := [13]) (by kernel_rfl) (by simp) ?_
            refine hcons rfl (fun K hK => ?_) (AllReadyH.nil)
            go_simp
            refine hK.out _ _ ?_ (fun hHeld => ?_)
            · (try dsimp only); exact HSK.out _ _ _ (by assumption)
            clear hK K
            try simp only [Act.put, List.setIfInBounds_toArray, List.set_cons_zero, List.set_cons_succ]
            refine htake (i := 14) (v := ?v34) rfl (by kernel_rfl) (by kernel_rfl) (by kernel_rfl) (fun _ _ _ h => pan_put h) (Or.inl ⟨by rfl, ?hy34⟩) (by assumption) ?_
            case hy34 => (intro w hSw; (try dsimp only at hSw); go_simp; try (with_reducible rfl))
            try simp only [Act.put, List.setIfInBounds_toArray, List.set_cons_zero, List.set_cons_succ]
            refine wpAnyH_ready (rs := [15]) (by kernel_rfl) (by simp) ?_
            refine hcons rfl (fun K hK => ?_) (AllReadyH.nil)
            go_simp
            refine hK.out _ _ ?_ (fun hHeld => ?_)
            · (try dsimp only); exact HSK.out _ _ _ (HSK.out _ _ _ (by assumption))
            clear hK K
            try simp only [Act.put, List.setIfInBounds_toArray, List.set_cons_zero, List.set_cons_succ]
            refine htake (i := 16) (v := ?v35) rfl (by kernel_rfl) (by kernel_rfl) (by kernel_rfl) (fun _ _ _ h => pan_put h) (Or.inl ⟨by rfl, ?hy35⟩) (by assumption) ?_
            case hy35 => (intro w hSw; (try dsimp only at hSw); go_simp; try (with_reducible rfl))
            try simp only [Act.put, List.setIfInBounds_toArray, List.set_cons_zero, List.set_cons_succ]
            refine wpAnyH_ready (rs := [17]) (by kernel_rfl) (by simp) ?_
            refine hcons rfl (fun K hK => ?_) (AllReadyH.nil)
            go_simp
            refine hK.out _ _ ?_ (fun hHeld => ?_)
            · (try dsimp only); exact HSK.out _ _ _ (HSK.out _ _ _ (HSK.out _ _ _ (by assumption)))
            clear hK K
            try simp only [Act.put, List.setIfInBounds_toArray, List.set_cons_zero, List.set_cons_succ]
            refine wpAnyH_done (by kernel_rfl) ?_ _
            dsimp only [PanTo]
            iterate 19 (try clear hHeld)
            have htn : (w0 == [116, 117, 114, 110, 105, 110, 103]) = decide (w0 = wTurning) := by show (w0 == wTurning) = _; rw [Bool.eq_iff_iff, beq_iff_eq, decide_eq_true_iff]
            rw [htn]
            have HDW := Lib.hid (show DV w W B bd ba (puC { d with turn := decide (w0 = wTurning), wide := a1, high := a2 } v) ((0 : Nat) : Int) d.pieces v _ from (((HDC.out.setD hbdB hbdw hbd9 hbda (k := 7) (by simp [puC]) (.bool (decide (w0 = wTurning)))).setD hbdB hbdw hbd9 hbda (k := 5) (by simp [puC]) (.int .i64 a1)).setD hbdB hbdw hbd9 hbda (k := 6) (by simp [puC]) (.int .i64 a2)))
            generalize ((((V11.setCell ⟨bd, 7, none⟩ (.bool (decide (w0 = wTurning)))).setCell ⟨bd, 5, none⟩ (.int .i64 a1)).setCell ⟨bd, 6, none⟩ (.int .i64 a2))) = W9 at HDW ⊢
            have ca := HDW.out.2.1.c 0 _ rfl
            have fa := HDW.out.2.1.fr 0
            have HFF := Lib.hid (HFIN.out _ _ _ HGO.out (HDW.out.setA hbaB HBA2.out hba9 hbda (((0 : Nat) : Int) + 1)))
            gi_wp2_with fail
            exact HFF.out
      · have h3i : ((ws.length : Int) == 3) = false := by simp; omega
        gi_wp2_with fail
        refine ⟨trivial, CallsIn.inRound l' (callsIn_wide.2 ((need_false W).mono ?_))⟩
        rintro e W' ⟨rfl, hb⟩
        exact ⟨rfl, HPAN.out W' (step_zero_no h3) (KMine.next hb) (HEN.out.next hb) (HBW.out.trans (hb.mono HBW.out.size))⟩
    · rcases Nat.lt_or_ge i 2 with hi1 | hi2
      · obtain rfl : i = 1 := by omega
        have c0 := HXA.out.c 0 _ rfl
        by_cases h5 : ws.length = 5
        · have h5i : ((ws.length : Int) == 5) = true := by rw [h5]; rfl
          have HST := Lib.hid (step_one (d := d) h5)
          have HS := Lib.hid (show ∀ W' : World, Below W.heap.size W W' → (W'.cell? ⟨q, off + 1, none⟩ = some (tx (ws.getD 1 [])) ∧ W'.cell? ⟨q, off + 2, none⟩ = some (tx (ws.getD 2 [])) ∧ W'.cell? ⟨q, off + 3, none⟩ = some (tx (ws.getD 3 [])) ∧ W'.cell? ⟨q, off + 4, none⟩ = some (tx (ws.getD 4 []))) from fun W' hb => ⟨HWS.out W' hb 1 (by omega), HWS.out W' hb 2 (by omega), HWS.out W' hb 3 (by omega), HWS.out W' hb 4 (by omega)⟩)
          have h5n : (ws.length : Int) = 5 := by omega
          have HN1 := Lib.hid (fun W' hW => number_any (ws.getD 1 []) W' hW (HLW.out 1))
          have HN2 := Lib.hid (fun W' hW => number_any (ws.getD 2 []) W' hW (HLW.out 2))
          have HN3 := Lib.hid (fun W' hW => number_any (ws.getD 3 []) W' hW (HLW.out 3))
          have HN4 := Lib.hid (fun W' hW => span_any (ws.getD 4 []) W' hW (HLW.out 4))
          generalize ws.getD 1 [] = w1 at HST HS HN1
          generalize ws.getD 2 [] = w2 at HST HS HN2
          generalize ws.getD 3 [] = w3 at HST HS HN3
          generalize ws.getD 4 [] = w4 at HST HS HN4
          have HSK := Lib.hid (show ∀ (V : World) (j : Nat) (u : Value), (V.cell? ⟨q, off + 1, none⟩ = some (tx w1) ∧ V.cell? ⟨q, off + 2, none⟩ = some (tx w2) ∧ V.cell? ⟨q, off + 3, none⟩ = some (tx w3) ∧ V.cell? ⟨q, off + 4, none⟩ = some (tx w4)) → ((V.setCell ⟨bd, j, none⟩ u).cell? ⟨q, off + 1, none⟩ = some (tx w1) ∧ (V.setCell ⟨bd, j, none⟩ u).cell? ⟨q, off + 2, none⟩ = some (tx w2) ∧ (V.setCell ⟨bd, j, none⟩ u).cell? ⟨q, off + 3, none⟩ = some (tx w3) ∧ (V.setCell ⟨bd, j, none⟩ u).cell? ⟨q, off + 4, none⟩ = some (tx w4)) from fun V j u h => by
            have hq := HQ.out
            refine ⟨?_, ?_, ?_, ?_⟩ <;> rw [World.cell?_setCell_other _ _ _ _ (by intro e; injection e with e; omega)]
            · exact h.1
            · exact h.2.1
            · exact h.2.2.1
            · exact h.2.2.2)
          have HC := Lib.hid ((Below.refl W.heap.size W).drew)
          generalize numP w1 = p1 at HST HN1
          generalize numP w2 = p2 at HST HN2
          generalize numP w3 = p3 at HST HN3
          generalize spanP w4 = p4 at HST HN4
          generalize hnl : ws.length = nl at *
          subst h5
          gi_wp2_with fail
          refine ⟨trivial, CallsIn.inRound l' (callsIn_wide.2 ((need_true W).mono ?_))⟩
          rintro e W' ⟨rfl, rfl⟩
          gi_wp2_with fail
          rcases p1 with _ | a1
          · have HNO := Lib.hid (show stepP 1 d ws = none from HST.out)
            refine region_inX (S := (fun W' => W'.cell? ⟨q, off + 1, none⟩ = some (tx w1) ∧ W'.cell? ⟨q, off + 2, none⟩ = some (tx w2) ∧ W'.cell? ⟨q, off + 3, none⟩ = some (tx w3) ∧ W'.cell? ⟨q, off + 4, none⟩ = some (tx w4))) (fun ch W' => ch = [{ v := .iface 129 (.agg #[]), recovered := false }] ∧ stepP 1 d ws = none ∧ KMine B W W' ∧ Env W' ∧ Below w.heap.size w W') (by kernel_rfl) (by kernel_rfl) (fun ch a' w' hd h => by obtain ⟨rfl, h1, h2, h3, h4⟩ := h; exact ⟨hd, HPAN.out w' h1 h2 h3 h4⟩) ?_ (fun hHeld => ?_)
            · (try dsimp only); exact HS.out _ HC.out
            refine htake (i := 0) (v := ?v36) rfl (by kernel_rfl) (by kernel_rfl) (by kernel_rfl) (fun _ _ _ h => pan_put h) (Or.inl ⟨by rfl, ?hy36⟩) (by assumption) ?_
            case hy36 => (intro w hSw; (try dsimp only at hSw); go_simp; try (with_reducible rfl))
            try simp only [Act.put, List.setIfInBounds_toArray, List.set_cons_zero, List.set_cons_succ]
            refine htake (i := 1) (v := ?v37) rfl (by kernel_rfl) (by kernel_rfl) (by kernel_rfl) (fun _ _ _ h => pan_put h) (Or.inl ⟨by rfl, ?hy37⟩) (by assumption) ?_
            case hy37 => (intro w hSw; (try dsimp only at hSw); go_simp; try (with_reducible rfl))
            try simp only [Act.put, List.setIfInBounds_toArray, List.set_cons_zero, List.set_cons_succ]
            refine htake (i := 2) (v := ?v38) rfl (by kernel_rfl) (by kernel_rfl) (by kernel_rfl) (fun _ _ _ h => pan_put h) (Or.inl ⟨by rfl, ?hy38⟩) (by assumption) ?_
            case hy38 => (intro w hSw; (try dsimp only at hSw); go_simp; try (with_reducible rfl))
            try simp only [Act.put, List.setIfInBounds_toArray, List.set_cons_zero, List.set_cons_succ]
            refine htake (i := 4) (v := ?v39) rfl (by kernel_rfl) (by kernel_rfl) (by kernel_rfl) (fun _ _ _ h => pan_put h) (Or.inl ⟨by rfl, ?hy39⟩) (by assumption) ?_
            case hy39 => (intro w hSw; (try dsimp only at hSw); go_simp; try (with_reducible rfl))
            try simp only [Act.put, List.setIfInBounds_toArray, List.set_cons_zero, List.set_cons_succ]
            refine htake (i := 5) (v := ?v40) rfl (by kernel_rfl) (by kernel_rfl) (by kernel_rfl) (fun _ _ _ h => pan_put h) (Or.inl ⟨by rfl, ?hy40⟩) (by assumption) ?_
            case hy40 => (intro w hSw; (try dsimp only at hSw); go_simp; try (with_reducible rfl))
            try simp only [Act.put, List.setIfInBounds_toArray, List.set_cons_zero, List.set_cons_succ]
            refine htake (i := 6) (v := ?v41) rfl (by kernel_rfl) (by kernel_rfl) (by kernel_rfl) (fun _ _ _ h => pan_put h) (Or.inl ⟨by rfl, ?hy41⟩) (by assumption) ?_
            case hy41 => (intro w hSw; (try dsimp only at hSw); go_simp; try (with_reducible rfl))
            try simp only [Act.put, List.setIfInBounds_toArray, List.set_cons_zero, List.set_cons_succ]
            refine htake (i := 8) (v := ?v42) rfl (by kernel_rfl) (by kernel_rfl) (by kernel_rfl) (fun _ _ _ h => pan_put h) (Or.inl ⟨by rfl, ?hy42⟩) (by assumption) ?_
            case hy42 => (intro w hSw; (try dsimp only at hSw); go_simp; try (with_reducible rfl))
            try simp only [Act.put, List.setIfInBounds_toArray, List.set_cons_zero, List.set_cons_succ]
            refine htake (i := 9) (v := ?v43) rfl (by kernel_rfl) (by kernel_rfl) (by kernel_rfl) (fun _ _ _ h => pan_put h) (Or.inl ⟨by rfl, ?hy43⟩) (by assumption) ?_
            case hy43 => (intro w hSw; (try dsimp only at hSw); go_simp; try (with_reducible rfl))
            try simp only [Act.put, List.setIfInBounds_toArray, List.set_cons_zero, List.set_cons_succ]
            refine htake (i := 10) (v := ?v44) rfl (by kernel_rfl) (by kernel_rfl) (by kernel_rfl) (fun _ _ _ h => pan_put h) (Or.inl ⟨by rfl, ?hy44⟩) (by assumption) ?_
            case hy44 => (intro w hSw; (try dsimp only at hSw); go_simp; try (with_reducible rfl))
            try simp only [Act.put, List.setIfInBounds_toArray, List.set_cons_zero, List.set_cons_succ]
            refine htake (i := 12) (v := ?v45) rfl (by kernel_rfl) (by kernel_rfl) (by kernel_rfl) (fun _ _ _ h => pan_put h) (Or.inl ⟨by rfl, ?hy45⟩) (by assumption) ?_
            case hy45 => (intro w hSw; (try dsimp only at hSw); go_simp; try (with_reducible rfl))
            try simp only [Act.put, List.setIfInBounds_toArray, List.set_cons_zero, List.set_cons_succ]
            refine htake (i := 13) (v := ?v46) rfl (by kernel_rfl) (by kernel_rfl) (by kernel_rfl) (fun _ _ _ h => pan_put h) (Or.inl ⟨by rfl, ?hy46⟩) (by assumption) ?_
            case hy46 => (intro w hSw; (try dsimp only at hSw); go_simp; try (with_reducible rfl))
            try simp only [Act.put, List.setIfInBounds_toArray, List.set_cons_zero, List.set_cons_succ]
            refine htake (i := 14) (v := ?v47) rfl (by kernel_rfl) (by kernel_rfl) (by kernel_rfl) (fun _ _ _ h => pan_put h) (Or.inl ⟨by rfl, ?hy47⟩) (by assumption) ?_
            case hy47 => (intro w hSw; (try dsimp only at hSw); go_simp; try (with_reducible rfl))
            try simp only [Act.put, List.setIfInBounds_toArray, List.set_cons_zero, List.set_cons_succ]
            refine wpAnyH_ready (rs := [3]) (by kernel_rfl) (by simp) ?_
            refine hcons rfl (fun K hK => ?_) (AllReadyH.nil)
            go_simp
            refine (HN1.out _ (HEN.out.next HC.out)).mono ?_; rintro e9 V9 ⟨rfl, hb⟩; replace HC := Lib.hid (HC.out.trans (hb.mono HC.out.size)); exact ⟨rfl, rfl, HNO.out, KMine.next HC.out, HEN.out.next HC.out, HBW.out.trans (HC.out.mono HBW.out.size)⟩
          · rcases p2 with _ | a2
            · have HNO := Lib.hid (show stepP 1 d ws = none from HST.out)
              refine region_inX (S := (fun W' => W'.cell? ⟨q, off + 1, none⟩ = some (tx w1) ∧ W'.cell? ⟨q, off + 2, none⟩ = some (tx w2) ∧ W'.cell? ⟨q, off + 3, none⟩ = some (tx w3) ∧ W'.cell? ⟨q, off + 4, none⟩ = some (tx w4))) (fun ch W' => ch = [{ v := .iface 129 (.agg #[]), recovered := false }] ∧ stepP 1 d ws = none ∧ KMine B W W' ∧ Env W' ∧ Below w.heap.size w W') (by kernel_rfl) (by kernel_rfl) (fun ch a' w' hd h => by obtain ⟨rfl, h1, h2, h3, h4⟩ := h; exact ⟨hd, HPAN.out w' h1 h2 h3 h4⟩) ?_ (fun hHeld => ?_)
              · (try dsimp only); exact HS.out _ HC.out
              refine htake (i := 0) (v := ?v48) rfl (by kernel_rfl) (by kernel_rfl) (by kernel_rfl) (fun _ _ _ h => pan_put h) (Or.inl ⟨by rfl, ?hy48⟩) (by assumption) ?_
              case hy48 => (intro w hSw; (try dsimp only at hSw); go_simp; try (with_reducible rfl))
              try simp only [Act.put, List.setIfInBounds_toArray, List.set_cons_zero, List.set_cons_succ]
              refine htake (i := 1) (v := ?v49) rfl (by kernel_rfl) (by kernel_rfl) (by kernel_rfl) (fun _ _ _ h => pan_put h) (Or.inl ⟨by rfl, ?hy49⟩) (by assumption) ?_
              case hy49 => (intro w hSw; (try dsimp only at hSw); go_simp; try (with_reducible rfl))
              try simp only [Act.put, List.setIfInBounds_toArray, List.set_cons_zero, List.set_cons_succ]
              refine htake (i := 2) (v := ?v50) rfl (by kernel_rfl) (by kernel_rfl) (by kernel_rfl) (fun _ _ _ h => pan_put h) (Or.inl ⟨by rfl, ?hy50⟩) (by assumption) ?_
              case hy50 => (intro w hSw; (try dsimp only at hSw); go_simp; try (with_reducible rfl))
              try simp only [Act.put, List.setIfInBounds_toArray, List.set_cons_zero, List.set_cons_succ]
              refine htake (i := 4) (v := ?v51) rfl (by kernel_rfl) (by kernel_rfl) (by kernel_rfl) (fun _ _ _ h => pan_put h) (Or.inl ⟨by rfl, ?hy51⟩) (by assumption) ?_
              case hy51 => (intro w hSw; (try dsimp only at hSw); go_simp; try (with_reducible rfl))
              try simp only [Act.put, List.setIfInBounds_toArray, List.set_cons_zero, List.set_cons_succ]
              refine htake (i := 5) (v := ?v52) rfl (by kernel_rfl) (by kernel_rfl) (by kernel_rfl) (fun _ _ _ h => pan_put h) (Or.inl ⟨by rfl, ?hy52⟩) (by assumption) ?_
              case hy52 => (intro w hSw; (try dsimp only at hSw); go_simp; try (with_reducible rfl))
              try simp only [Act.put, List.setIfInBounds_toArray, List.set_cons_zero, List.set_cons_succ]
              refine htake (i := 6) (v := ?v53) rfl (by kernel_rfl) (by kernel_rfl) (by kernel_rfl) (fun _ _ _ h => pan_put h) (Or.inl ⟨by rfl, ?hy53⟩) (by assumption) ?_
              case hy53 => (intro w hSw; (try dsimp only at hSw); go_simp; try (with_reducible rfl))
              try simp only [Act.put, List.setIfInBounds_toArray, List.set_cons_zero, List.set_cons_succ]
              refine htake (i := 8) (v := ?v54) rfl (by kernel_rfl) (by kernel_rfl) (by kernel_rfl) (fun _ _ _ h => pan_put h) (Or.inl ⟨by rfl, ?hy54⟩) (by assumption) ?_
              case hy54 => (intro w hSw; (try dsimp only at hSw); go_simp; try (with_reducible rfl))
              try simp only [Act.put, List.setIfInBounds_toArray, List.set_cons_zero, List.set_cons_succ]
              refine htake (i := 9) (v := ?v55) rfl (by kernel_rfl) (by kernel_rfl) (by kernel_rfl) (fun _ _ _ h => pan_put h) (Or.inl ⟨by rfl, ?hy55⟩) (by assumption) ?_
              case hy55 => (intro w hSw; (try dsimp only at hSw); go_simp; try (with_reducible rfl))
              try simp only [Act.put, List.setIfInBounds_toArray, List.set_cons_zero, List.set_cons_succ]
              refine htake (i := 10) (v := ?v56) rfl (by kernel_rfl) (by kernel_rfl) (by kernel_rfl) (fun _ _ _ h => pan_put h) (Or.inl ⟨by rfl, ?hy56⟩) (by assumption) ?_
              case hy56 => (intro w hSw; (try dsimp only at hSw); go_simp; try (with_reducible rfl))
              try simp only [Act.put, List.setIfInBounds_toArray, List.set_cons_zero, List.set_cons_succ]
              refine htake (i := 12) (v := ?v57) rfl (by kernel_rfl) (by kernel_rfl) (by kernel_rfl) (fun _ _ _ h => pan_put h) (Or.inl ⟨by rfl, ?hy57⟩) (by assumption) ?_
              case hy57 => (intro w hSw; (try dsimp only at hSw); go_simp; try (with_reducible rfl))
              try simp only [Act.put, List.setIfInBounds_toArray, List.set_cons_zero, List.set_cons_succ]
              refine htake (i := 13) (v := ?v58) rfl (by kernel_rfl) (by kernel_rfl) (by kernel_rfl) (fun _ _ _ h => pan_put h) (Or.inl ⟨by rfl, ?hy58⟩) (by assumption) ?_
              case hy58 => (intro w hSw; (try dsimp only at hSw); go_simp; try (with_reducible rfl))
              try simp only [Act.put, List.setIfInBounds_toArray, List.set_cons_zero, List.set_cons_succ]
              refine htake (i := 14) (v := ?v59) rfl (by kernel_rfl) (by kernel_rfl) (by kernel_rfl) (fun _ _ _ h => pan_put h) (Or.inl ⟨by rfl, ?hy59⟩) (by assumption) ?_
              case hy59 => (intro w hSw; (try dsimp only at hSw); go_simp; try (with_reducible rfl))
              try simp only [Act.put, List.setIfInBounds_toArray, List.set_cons_zero, List.set_cons_succ]
              refine wpAnyH_ready (rs := [3]) (by kernel_rfl) (by simp) ?_
              refine hcons rfl (fun K hK => ?_) (AllReadyH.nil)
              go_simp
              refine (HN1.out _ (HEN.out.next HC.out)).mono ?_; rintro e3 V3 ⟨rfl, hb⟩; replace HC := Lib.hid (HC.out.trans (hb.mono HC.out.size)); clear hb
              refine hK.out _ _ ?_ (fun hHeld => ?_)
              · (try dsimp only); exact HS.out _ HC.out
              clear hK K
              try simp only [Act.put, List.setIfInBounds_toArray, List.set_cons_zero, List.set_cons_succ]
              refine wpAnyH_ready (rs := [7]) (by kernel_rfl) (by simp) ?_
              refine hcons rfl (fun K hK => ?_) (AllReadyH.nil)
              go_simp
              refine (HN2.out _ (HEN.out.next HC.out)).mono ?_; rintro e9 V9 ⟨rfl, hb⟩; replace HC := Lib.hid (HC.out.trans (hb.mono HC.out.size)); exact ⟨rfl, rfl, HNO.out, KMine.next HC.out, HEN.out.next HC.out, HBW.out.trans (HC.out.mono HBW.out.size)⟩
            · rcases p3 with _ | a3
              · have HNO := Lib.hid (show stepP 1 d ws = none from HST.out)
                refine region_inX (S := (fun W' => W'.cell? ⟨q, off + 1, none⟩ = some (tx w1) ∧ W'.cell? ⟨q, off + 2, none⟩ = some (tx w2) ∧ W'.cell? ⟨q, off + 3, none⟩ = some (tx w3) ∧ W'.cell? ⟨q, off + 4, none⟩ = some (tx w4))) (fun ch W' => ch = [{ v := .iface 129 (.agg #[]), recovered := false }] ∧ stepP 1 d ws = none ∧ KMine B W W' ∧ Env W' ∧ Below w.heap.size w W') (by kernel_rfl) (by kernel_rfl) (fun ch a' w' hd h => by obtain ⟨rfl, h1, h2, h3, h4⟩ := h; exact ⟨hd, HPAN.out w' h1 h2 h3 h4⟩) ?_ (fun hHeld => ?_)
                · (try dsimp only); exact HS.out _ HC.out
                refine htake (i := 0) (v := ?v60) rfl (by kernel_rfl) (by kernel_rfl) (by kernel_rfl) (fun _ _ _ h => pan_put h) (Or.inl ⟨by rfl, ?hy60⟩) (by assumption) ?_
                case hy60 => (intro w hSw; (try dsimp only at hSw); go_simp; try (with_reducible rfl))
                try simp only [Act.put, List.setIfInBounds_toArray, List.set_cons_zero, List.set_cons_succ]
                refine htake (i := 1) (v := ?v61) rfl (by kernel_rfl) (by kernel_rfl) (by kernel_rfl) (fun _ _ _ h => pan_put h) (Or.inl ⟨by rfl, ?hy61⟩) (by assumption) ?_
                case hy61 => (intro w hSw; (try dsimp only at hSw); go_simp; try (with_reducible rfl))
                try simp only [Act.put, List.setIfInBounds_toArray, List.set_cons_zero, List.set_cons_succ]
                refine htake (i := 2) (v := ?v62) rfl (by kernel_rfl) (by kernel_rfl) (by kernel_rfl) (fun _ _ _ h => pan_put h) (Or.inl ⟨by rfl, ?hy62⟩) (by assumption) ?_
                case hy62 => (intro w hSw; (try dsimp only at hSw); go_simp; try (with_reducible rfl))
                try simp only [Act.put, List.setIfInBounds_toArray, List.set_cons_zero, List.set_cons_succ]
                refine htake (i := 4) (v := ?v63) rfl (by kernel_rfl) (by kernel_rfl) (by kernel_rfl) (fun _ _ _ h => pan_put h) (Or.inl ⟨by rfl, ?hy63⟩) (by assumption) ?_
                case hy63 => (intro w hSw; (try dsimp only at hSw); go_simp; try (with_reducible rfl))
                try simp only [Act.put, List.setIfInBounds_toArray, List.set_cons_zero, List.set_cons_succ]
                refine htake (i := 5) (v := ?v64) rfl (by kernel_rfl) (by kernel_rfl) (by kernel_rfl) (fun _ _ _ h => pan_put h) (Or.inl ⟨by rfl, ?hy64⟩) (by assumption) ?_
                case hy64 => (intro w hSw; (try dsimp only at hSw); go_simp; try (with_reducible rfl))
                try simp only [Act.put, List.setIfInBounds_toArray, List.set_cons_zero, List.set_cons_succ]
                refine htake (i := 6) (v := ?v65) rfl (by kernel_rfl) (by kernel_rfl) (by kernel_rfl) (fun _ _ _ h => pan_put h) (Or.inl ⟨by rfl, ?hy65⟩) (by assumption) ?_
                case hy65 => (intro w hSw; (try dsimp only at hSw); go_simp; try (with_reducible rfl))
                try simp only [Act.put, List.setIfInBounds_toArray, List.set_cons_zero, List.set_cons_succ]
                refine htake (i := 8) (v := ?v66) rfl (by kernel_rfl) (by kernel_rfl) (by kernel_rfl) (fun _ _ _ h => pan_put h) (Or.inl ⟨by rfl, ?hy66⟩) (by assumption) ?_
                case hy66 => (intro w hSw; (try dsimp only at hSw); go_simp; try (with_reducible rfl))
                try simp only [Act.put, List.setIfInBounds_toArray, List.set_cons_zero, List.set_cons_succ]
                refine htake (i := 9) (v := ?v67) rfl (by kernel_rfl) (by kernel_rfl) (by kernel_rfl) (fun _ _ _ h => pan_put h) (Or.inl ⟨by rfl, ?hy67⟩) (by assumption) ?_
                case hy67 => (intro w hSw; (try dsimp only at hSw); go_simp; try (with_reducible rfl))
                try simp only [Act.put, List.setIfInBounds_toArray, List.set_cons_zero, List.set_cons_succ]
                refine htake (i := 10) (v := ?v68) rfl (by kernel_rfl) (by kernel_rfl) (by kernel_rfl) (fun _ _ _ h => pan_put h) (Or.inl ⟨by rfl, ?hy68⟩) (by assumption) ?_
                case hy68 => (intro w hSw; (try dsimp only at hSw); go_simp; try (with_reducible rfl))
                try simp only [Act.put, List.setIfInBounds_toArray, List.set_cons_zero, List.set_cons_succ]
                refine htake (i := 12) (v := ?v69) rfl (by kernel_rfl) (by kernel_rfl) (by kernel_rfl) (fun _ _ _ h => pan_put h) (Or.inl ⟨by rfl, ?hy69⟩) (by assumption) ?_
                case hy69 => (intro w hSw; (try dsimp only at hSw); go_simp; try (with_reducible rfl))
                try simp only [Act.put, List.setIfInBounds_toArray, List.set_cons_zero, List.set_cons_succ]
                refine htake (i := 13) (v := ?v70) rfl (by kernel_rfl) (by kernel_rfl) (by kernel_rfl) (fun _ _ _ h => pan_put h) (Or.inl ⟨by rfl, ?hy70⟩) (by assumption) ?_
                case hy70 => (intro w hSw; (try dsimp only at hSw); go_simp; try (with_reducible rfl))
                try simp only [Act.put, List.setIfInBounds_toArray, List.set_cons_zero, List.set_cons_succ]
                refine htake (i := 14) (v := ?v71) rfl (by kernel_rfl) (by kernel_rfl) (by kernel_rfl) (fun _ _ _ h => pan_put h) (Or.inl ⟨by rfl, ?hy71⟩) (by assumption) ?_
                case hy71 => (intro w hSw; (try dsimp only at hSw); go_simp; try (with_reducible rfl))
                try simp only [Act.put, List.setIfInBounds_toArray, List.set_cons_zero, List.set_cons_succ]
                refine wpAnyH_ready (rs := [3]) (by kernel_rfl) (by simp) ?_
                refine hcons rfl (fun K hK => ?_) (AllReadyH.nil)
                go_simp
                refine (HN1.out _ (HEN.out.next HC.out)).mono ?_; rintro e3 V3 ⟨rfl, hb⟩; replace HC := Lib.hid (HC.out.trans (hb.mono HC.out.size)); clear hb
                refine hK.out _ _ ?_ (fun hHeld => ?_)
                · (try dsimp only); exact HS.out _ HC.out
                clear hK K
                try simp only [Act.put, List.setIfInBounds_toArray, List.set_cons_zero, List.set_cons_succ]
                refine wpAnyH_ready (rs := [7]) (by kernel_rfl) (by simp) ?_
                refine hcons rfl (fun K hK => ?_) (AllReadyH.nil)
                go_simp
                refine (HN2.out _ (HEN.out.next HC.out)).mono ?_; rintro e7 V7 ⟨rfl, hb⟩; replace HC := Lib.hid (HC.out.trans (hb.mono HC.out.size)); clear hb
                refine hK.out _ _ ?_ (fun hHeld => ?_)
                · (try dsimp only); exact HS.out _ HC.out
                clear hK K
                try simp only [Act.put, List.setIfInBounds_toArray, List.set_cons_zero, List.set_cons_succ]
                refine wpAnyH_ready (rs := [11]) (by kernel_rfl) (by simp) ?_
                refine hcons rfl (fun K hK => ?_) (AllReadyH.nil)
                go_simp
                refine (HN3.out _ (HEN.out.next HC.out)).mono ?_; rintro e9 V9 ⟨rfl, hb⟩; replace HC := Lib.hid (HC.out.trans (hb.mono HC.out.size)); exact ⟨rfl, rfl, HNO.out, KMine.next HC.out, HEN.out.next HC.out, HBW.out.trans (HC.out.mono HBW.out.size)⟩
              · rcases p4 with _ | a4
                · have HNO := Lib.hid (show stepP 1 d ws = none from HST.out)
                  refine region_inX (S := (fun W' => W'.cell? ⟨q, off + 1, none⟩ = some (tx w1) ∧ W'.cell? ⟨q, off + 2, none⟩ = some (tx w2) ∧ W'.cell? ⟨q, off + 3, none⟩ = some (tx w3) ∧ W'.cell? ⟨q, off + 4, none⟩ = some (tx w4))) (fun ch W' => ch = [{ v := .iface 129 (.agg #[]), recovered := false }] ∧ stepP 1 d ws = none ∧ KMine B W W' ∧ Env W' ∧ Below w.heap.size w W') (by kernel_rfl) (by kernel_rfl) (fun ch a' w' hd h => by obtain ⟨rfl, h1, h2, h3, h4⟩ := h; exact ⟨hd, HPAN.out w' h1 h2 h3 h4⟩) ?_ (fun hHeld => ?_)
                  · (try dsimp only); exact HS.out _ HC.out
                  refine htake (i := 0) (v := ?v72) rfl (by kernel_rfl) (by kernel_rfl) (by kernel_rfl) (fun _ _ _ h => pan_put h) (Or.inl ⟨by rfl, ?hy72⟩) (by assumption) ?_
                  case hy72 => (intro w hSw; (try dsimp only at hSw); go_simp; try (with_reducible rfl))
                  try simp only [Act.put, List.setIfInBounds_toArray, List.set_cons_zero, List.set_cons_succ]
                  refine htake (i := 1) (v := ?v73) rfl (by kernel_rfl) (by kernel_rfl) (by kernel_rfl) (fun _ _ _ h => pan_put h) (Or.inl ⟨by rfl, ?hy73⟩) (by assumption) ?_
                  case hy73 => (intro w hSw; (try dsimp only at hSw); go_simp; try (with_reducible rfl))
                  try simp only [Act.put, List.setIfInBounds_toArray, List.set_cons_zero, List.set_cons_succ]
                  refine htake (i := 2) (v := ?v74) rfl (by kernel_rfl) (by kernel_rfl) (by kernel_rfl) (fun _ _ _ h => pan_put h) (Or.inl ⟨by rfl, ?hy74⟩) (by assumption) ?_
                  case hy74 => (intro w hSw; (try dsimp only at hSw); go_simp; try (with_reducible rfl))
                  try simp only [Act.put, List.setIfInBounds_toArray, List.set_cons_zero, List.set_cons_succ]
                  refine htake (i := 4) (v := ?v75) rfl (by kernel_rfl) (by kernel_rfl) (by kernel_rfl) (fun _ _ _ h => pan_put h) (Or.inl ⟨by rfl, ?hy75⟩) (by assumption) ?_
                  case hy75 => (intro w hSw; (try dsimp only at hSw); go_simp; try (with_reducible rfl))
                  try simp only [Act.put, List.setIfInBounds_toArray, List.set_cons_zero, List.set_cons_succ]
                  refine htake (i := 5) (v := ?v76) rfl (by kernel_rfl) (by kernel_rfl) (by kernel_rfl) (fun _ _ _ h => pan_put h) (Or.inl ⟨by rfl, ?hy76⟩) (by assumption) ?_
                  case hy76 => (intro w hSw; (try dsimp only at hSw); go_simp; try (with_reducible rfl))
                  try simp only [Act.put, List.setIfInBounds_toArray, List.set_cons_zero, List.set_cons_succ]
                  refine htake (i := 6) (v := ?v77) rfl (by kernel_rfl) (by kernel_rfl) (by kernel_rfl) (fun _ _ _ h => pan_put h) (Or.inl ⟨by rfl, ?hy77⟩) (by assumption) ?_
                  case hy77 => (intro w hSw; (try dsimp only at hSw); go_simp; try (with_reducible rfl))
                  try simp only [Act.put, List.setIfInBounds_toArray, List.set_cons_zero, List.set_cons_succ]
                  refine htake (i := 8) (v := ?v78) rfl (by kernel_rfl) (by kernel_rfl) (by kernel_rfl) (fun _ _ _ h => pan_put h) (Or.inl ⟨by rfl, ?hy78⟩) (by assumption) ?_
                  case hy78 => (intro w hSw; (try dsimp only at hSw); go_simp; try (with_reducible rfl))
                  try simp only [Act.put, List.setIfInBounds_toArray, List.set_cons_zero, List.set_cons_succ]
                  refine htake (i := 9) (v := ?v79) rfl (by kernel_rfl) (by kernel_rfl) (by kernel_rfl) (fun _ _ _ h => pan_put h) (Or.inl ⟨by rfl, ?hy79⟩) (by assumption) ?_
                  case hy79 => (intro w hSw; (try dsimp only at hSw); go_simp; try (with_reducible rfl))
                  try simp only [Act.put, List.setIfInBounds_toArray, List.set_cons_zero, List.set_cons_succ]
                  refine htake (i := 10) (v := ?v80) rfl (by kernel_rfl) (by kernel_rfl) (by kernel_rfl) (fun _ _ _ h => pan_put h) (Or.inl ⟨by rfl, ?hy80⟩) (by assumption) ?_
                  case hy80 => (intro w hSw; (try dsimp only at hSw); go_simp; try (with_reducible rfl))
                  try simp only [Act.put, List.setIfInBounds_toArray, List.set_cons_zero, List.set_cons_succ]
                  refine htake (i := 12) (v := ?v81) rfl (by kernel_rfl) (by kernel_rfl) (by kernel_rfl) (fun _ _ _ h => pan_put h) (Or.inl ⟨by rfl, ?hy81⟩) (by assumption) ?_
                  case hy81 => (intro w hSw; (try dsimp only at hSw); go_simp; try (with_reducible rfl))
                  try simp only [Act.put, List.setIfInBounds_toArray, List.set_cons_zero, List.set_cons_succ]
                  refine htake (i := 13) (v := ?v82) rfl (by kernel_rfl) (by kernel_rfl) (by kernel_rfl) (fun _ _ _ h => pan_put h) (Or.inl ⟨by rfl, ?hy82⟩) (by assumption) ?_
                  case hy82 => (intro w hSw; (try dsimp only at hSw); go_simp; try (with_reducible rfl))
                  try simp only [Act.put, List.setIfInBounds_toArray, List.set_cons_zero, List.set_cons_succ]
                  refine htake (i := 14) (v := ?v83) rfl (by kernel_rfl) (by kernel_rfl) (by kernel_rfl) (fun _ _ _ h => pan_put h) (Or.inl ⟨by rfl, ?hy83⟩) (by assumption) ?_
                  case hy83 => (intro w hSw; (try dsimp only at hSw); go_simp; try (with_reducible rfl))
                  try simp only [Act.put, List.setIfInBounds_toArray, List.set_cons_zero, List.set_cons_succ]
                  refine wpAnyH_ready (rs := [3]) (by kernel_rfl) (by simp) ?_
                  refine hcons rfl (fun K hK => ?_) (AllReadyH.nil)
                  go_simp
                  refine (HN1.out _ (HEN.out.next HC.out)).mono ?_; rintro e3 V3 ⟨rfl, hb⟩; replace HC := Lib.hid (HC.out.trans (hb.mono HC.out.size)); clear hb
                  refine hK.out _ _ ?_ (fun hHeld => ?_)
                  · (try dsimp only); exact HS.out _ HC.out
                  clear hK K
                  try simp only [Act.put, List.setIfInBounds_toArray, List.set_cons_zero, List.set_cons_succ]
                  refine wpAnyH_ready (rs := [7]) (by kernel_rfl) (by simp) ?_
                  refine hcons rfl (fun K hK => ?_) (AllReadyH.nil)
                  go_simp
                  refine (HN2.out _ (HEN.out.next HC.out)).mono ?_; rintro e7 V7 ⟨rfl, hb⟩; replace HC := Lib.hid (HC.out.trans (hb.mono HC.out.size)); clear hb
                  refine hK.out _ _ ?_ (fun hHeld => ?_)
                  · (try dsimp only); exact HS.out _ HC.out
                  clear hK K
                  try simp only [Act.put, List.setIfInBounds_toArray, List.set_cons_zero, List.set_cons_succ]
                  refine wpAnyH_ready (rs := [11]) (by kernel_rfl) (by simp) ?_
                  refine hcons rfl (fun K hK => ?_) (AllReadyH.nil)
                  go_simp
                  refine (HN3.out _ (HEN.out.next HC.out)).mono ?_; rintro e11 V11 ⟨rfl, hb⟩; replace HC := Lib.hid (HC.out.trans (hb.mono HC.out.size)); clear hb
                  refine hK.out _ _ ?_ (fun hHeld => ?_)
                  · (try dsimp only); exact HS.out _ HC.out
                  clear hK K
                  try simp only [Act.put, List.setIfInBounds_toArray, List.set_cons_zero, List.set_cons_succ]
                  refine wpAnyH_ready (rs := [15]) (by kernel_rfl) (by simp) ?_
                  refine hcons rfl (fun K hK => ?_) (AllReadyH.nil)
                  go_simp
                  refine (HN4.out _ (HEN.out.next HC.out)).mono ?_; rintro e9 V9 ⟨rfl, hb⟩; replace HC := Lib.hid (HC.out.trans (hb.mono HC.out.size)); exact ⟨rfl, rfl, HNO.out, KMine.next HC.out, HEN.out.next HC.out, HBW.out.trans (HC.out.mono HBW.out.size)⟩
                · have HGO := Lib.hid (show stepP 1 d ws = some { d with play := ⟨a1, a2, a3, a4⟩ } from HST.out)
                  replace HN1 := Lib.hid (show ∀ W' : World, Env W' → Calls Tryz.prog 41 #[tx w1] W' (Got (some (.int .i64 a1)) W') from HN1.out)
                  replace HN2 := Lib.hid (show ∀ W' : World, Env W' → Calls Tryz.prog 41 #[tx w2] W' (Got (some (.int .i64 a2)) W') from HN2.out)
                  replace HN3 := Lib.hid (show ∀ W' : World, Env W' → Calls Tryz.prog 41 #[tx w3] W' (Got (some (.int .i64 a3)) W') from HN3.out)
                  replace HN4 := Lib.hid (show ∀ W' : World, Env W' → Calls Tryz.prog 42 #[tx w4] W' (Got (some (.agg #[.int .i64 a4.lo, .int .i64 a4.hi])) W') from HN4.out)
                  refine region_inX (S := (fun W' => W'.cell? ⟨q, off + 1, none⟩ = some (tx w1) ∧ W'.cell? ⟨q, off + 2, none⟩ = some (tx w2) ∧ W'.cell? ⟨q, off + 3, none⟩ = some (tx w3) ∧ W'.cell? ⟨q, off + 4, none⟩ = some (tx w4))) (fun ch W' => ch = [{ v := .iface 129 (.agg #[]), recovered := false }] ∧ stepP 1 d ws = none ∧ KMine B W W' ∧ Env W' ∧ Below w.heap.size w W') (by kernel_rfl) (by kernel_rfl) (fun ch a' w' hd h => by obtain ⟨rfl, h1, h2, h3, h4⟩ := h; exact ⟨hd, HPAN.out w' h1 h2 h3 h4⟩) ?_ (fun hHeld => ?_)
                  · (try dsimp only); exact HS.out _ HC.out
                  refine htake (i := 0) (v := ?v84) rfl (by kernel_rfl) (by kernel_rfl) (by kernel_rfl) (fun _ _ _ h => pan_put h) (Or.inl ⟨by rfl, ?hy84⟩) (by assumption) ?_
                  case hy84 => (intro w hSw; (try dsimp only at hSw); go_simp; try (with_reducible rfl))
                  try simp only [Act.put, List.setIfInBounds_toArray, List.set_cons_zero, List.set_cons_succ]
                  refine htake (i := 1) (v := ?v85) rfl (by kernel_rfl) (by kernel_rfl) (by kernel_rfl) (fun _ _ _ h => pan_put h) (Or.inl ⟨by rfl, ?hy85⟩) (by assumption) ?_
                  case hy85 => (intro w hSw; (try dsimp only at hSw); go_simp; try (with_reducible rfl))
                  try simp only [Act.put, List.setIfInBounds_toArray, List.set_cons_zero, List.set_cons_succ]
                  refine htake (i := 2) (v := ?v86) rfl (by kernel_rfl) (by kernel_rfl) (by kernel_rfl) (fun _ _ _ h => pan_put h) (Or.inl ⟨by rfl, ?hy86⟩) (by assumption) ?_
                  case hy86 => (intro w hSw; (try dsimp only at hSw); go_simp; try (with_reducible rfl))
                  try simp only [Act.put, List.setIfInBounds_toArray, List.set_cons_zero, List.set_cons_succ]
                  refine htake (i := 4) (v := ?v87) rfl (by kernel_rfl) (by kernel_rfl) (by kernel_rfl) (fun _ _ _ h => pan_put h) (Or.inl ⟨by rfl, ?hy87⟩) (by assumption) ?_
                  case hy87 => (intro w hSw; (try dsimp only at hSw); go_simp; try (with_reducible rfl))
                  try simp only [Act.put, List.setIfInBounds_toArray, List.set_cons_zero, List.set_cons_succ]
                  refine htake (i := 5) (v := ?v88) rfl (by kernel_rfl) (by kernel_rfl) (by kernel_rfl) (fun _ _ _ h => pan_put h) (Or.inl ⟨by rfl, ?hy88⟩) (by assumption) ?_
                  case hy88 => (intro w hSw; (try dsimp only at hSw); go_simp; try (with_reducible rfl))
                  try simp only [Act.put, List.setIfInBounds_toArray, List.set_cons_zero, List.set_cons_succ]
                  refine htake (i := 6) (v := ?v89) rfl (by kernel_rfl) (by kernel_rfl) (by kernel_rfl) (fun _ _ _ h => pan_put h) (Or.inl ⟨by rfl, ?hy89⟩) (by assumption) ?_
                  case hy89 => (intro w hSw; (try dsimp only at hSw); go_simp; try (with_reducible rfl))
                  try simp only [Act.put, List.setIfInBounds_toArray, List.set_cons_zero, List.set_cons_succ]
                  refine htake (i := 8) (v := ?v90) rfl (by kernel_rfl) (by kernel_rfl) (by kernel_rfl) (fun _ _ _ h => pan_put h) (Or.inl ⟨by rfl, ?hy90⟩) (by assumption) ?_
                  case hy90 => (intro w hSw; (try dsimp only at hSw); go_simp; try (with_reducible rfl))
                  try simp only [Act.put, List.setIfInBounds_toArray, List.set_cons_zero, List.set_cons_succ]
                  refine htake (i := 9) (v := ?v91) rfl (by kernel_rfl) (by kernel_rfl) (by kernel_rfl) (fun _ _ _ h => pan_put h) (Or.inl ⟨by rfl, ?hy91⟩) (by assumption) ?_
                  case hy91 => (intro w hSw; (try dsimp only at hSw); go_simp; try (with_reducible rfl))
                  try simp only [Act.put, List.setIfInBounds_toArray, List.set_cons_zero, List.set_cons_succ]
                  refine htake (i := 10) (v := ?v92) rfl (by kernel_rfl) (by kernel_rfl) (by kernel_rfl) (fun _ _ _ h => pan_put h) (Or.inl ⟨by rfl, ?hy92⟩) (by assumption) ?_
                  case hy92 => (intro w hSw; (try dsimp only at hSw); go_simp; try (with_reducible rfl))
                  try simp only [Act.put, List.setIfInBounds_toArray, List.set_cons_zero, List.set_cons_succ]
                  refine htake (i := 12) (v := ?v93) rfl (by kernel_rfl) (by kernel_rfl) (by kernel_rfl) (fun _ _ _ h => pan_put h) (Or.inl ⟨by rfl, ?hy93⟩) (by assumption) ?_
                  case hy93 => (intro w hSw; (try dsimp only at hSw); go_simp; try (with_reducible rfl))
                  try simp only [Act.put, List.setIfInBounds_toArray, List.set_cons_zero, List.set_cons_succ]
                  refine htake (i := 13) (v := ?v94) rfl (by kernel_rfl) (by kernel_rfl) (by kernel_rfl) (fun _ _ _ h => pan_put h) (Or.inl ⟨by rfl, ?hy94⟩) (by assumption) ?_
                  case hy94 => (intro w hSw; (try dsimp only at hSw); go_simp; try (with_reducible rfl))
                  try simp only [Act.put, List.setIfInBounds_toArray, List.set_cons_zero, List.set_cons_succ]
                  refine htake (i := 14) (v := ?v95) rfl (by kernel_rfl) (by kernel_rfl) (by kernel_rfl) (fun _ _ _ h => pan_put h) (Or.inl ⟨by rfl, ?hy95⟩) (by assumption) ?_
                  case hy95 => (intro w hSw; (try dsimp only at hSw); go_simp; try (with_reducible rfl))
                  try simp only [Act.put, List.setIfInBounds_toArray, List.set_cons_zero, List.set_cons_succ]
                  refine wpAnyH_ready (rs := [3]) (by kernel_rfl) (by simp) ?_
                  refine hcons rfl (fun K hK => ?_) (AllReadyH.nil)
                  go_simp
                  refine (HN1.out _ (HEN.out.next HC.out)).mono ?_; rintro e3 V3 ⟨rfl, hb⟩; replace HC := Lib.hid (HC.out.trans (hb.mono HC.out.size)); clear hb
                  refine hK.out _ _ ?_ (fun hHeld => ?_)
                  · (try dsimp only); exact HS.out _ HC.out
                  clear hK K
                  try simp only [Act.put, List.setIfInBounds_toArray, List.set_cons_zero, List.set_cons_succ]
                  refine wpAnyH_ready (rs := [7]) (by kernel_rfl) (by simp) ?_
                  refine hcons rfl (fun K hK => ?_) (AllReadyH.nil)
                  go_simp
                  refine (HN2.out _ (HEN.out.next HC.out)).mono ?_; rintro e7 V7 ⟨rfl, hb⟩; replace HC := Lib.hid (HC.out.trans (hb.mono HC.out.size)); clear hb
                  refine hK.out _ _ ?_ (fun hHeld => ?_)
                  · (try dsimp only); exact HS.out _ HC.out
                  clear hK K
                  try simp only [Act.put, List.setIfInBounds_toArray, List.set_cons_zero, List.set_cons_succ]
                  refine wpAnyH_ready (rs := [11]) (by kernel_rfl) (by simp) ?_
                  refine hcons rfl (fun K hK => ?_) (AllReadyH.nil)
                  go_simp
                  refine (HN3.out _ (HEN.out.next HC.out)).mono ?_; rintro e11 V11 ⟨rfl, hb⟩; replace HC := Lib.hid (HC.out.trans (hb.mono HC.out.size)); clear hb
                  refine hK.out _ _ ?_ (fun hHeld => ?_)
                  · (try dsimp only); exact HS.out _ HC.out
                  clear hK K
                  try simp only [Act.put, List.setIfInBounds_toArray, List.set_cons_zero, List.set_cons_succ]
                  refine wpAnyH_ready (rs := [15]) (by kernel_rfl) (by simp) ?_
                  refine hcons rfl (fun K hK => ?_) (AllReadyH.nil)
                  go_simp
                  refine (HN4.out _ (HEN.out.next HC.out)).mono ?_; rintro e15 V15 ⟨rfl, hb⟩; replace HC := Lib.hid (HC.out.trans (hb.mono HC.out.size)); clear hb; have HDC := Lib.hid (HDV.out.next HC.out); have b0 := HDC.out.1.c 0 _ rfl; have f0 := HDC.out.1.fr 0; have b1 := HDC.out.1.c 1 _ rfl; have f1 := HDC.out.1.fr 1; have b2 := HDC.out.1.c 2 _ rfl; have f2 := HDC.out.1.fr 2; have b3 := HDC.out.1.c 3 _ rfl; have f3 := HDC.out.1.fr 3; have b4 := HDC.out.1.c 4 _ rfl; have f4 := HDC.out.1.fr 4
                  refine hK.out _ _ ?_ (fun hHeld => ?_)
                  · (try dsimp only); exact HS.out _ HC.out
                  clear hK K
                  try simp only [Act.put, List.setIfInBounds_toArray, List.set_cons_zero, List.set_cons_succ]
                  refine htake (i := 16) (v := ?v96) rfl (by kernel_rfl) (by kernel_rfl) (by kernel_rfl) (fun _ _ _ h => pan_put h) (Or.inl ⟨by rfl, ?hy96⟩) (by assumption) ?_
                  case hy96 => (intro w hSw; (try dsimp only at hSw); go_simp; try (with_reducible rfl))
                  try simp only [Act.put, List.setIfInBounds_toArray, List.set_cons_zero, List.set_cons_succ]
                  refine htake (i := 17) (v := ?v97) rfl (by kernel_rfl) (by kernel_rfl) (by kernel_rfl) (fun _ _ _ h => pan_put h) (Or.inl ⟨by rfl, ?hy97⟩) (by assumption) ?_
                  case hy97 => (intro w hSw; (try dsimp only at hSw); go_simp; try (with_reducible rfl))
                  try simp only [Act.put, List.setIfInBounds_toArray, List.set_cons_zero, List.set_cons_succ]
                  refine wpAnyH_ready (rs := [18]) (by kernel_rfl) (by simp) ?_
                  refine hcons rfl (fun K hK => ?_) (AllReadyH.nil)
                  go_simp
                  refine hK.out _ _ ?_ (fun hHeld => ?_)
                  · (try dsimp only); exact (HSK.out _ _ _ (HSK.out _ _ _ (HSK.out _ _ _ (HSK.out _ _ _ (HSK.out _ _ _ (by assumption))))))
                  clear hK K
                  try simp only [Act.put, List.setIfInBounds_toArray, List.set_cons_zero, List.set_cons_succ]
                  refine wpAnyH_done (by kernel_rfl) ?_ _
                  dsimp only [PanTo]
                  iterate 20 (try clear hHeld)
                  have HDW := Lib.hid (show DV w W B bd ba (puC { d with play := ⟨a1, a2, a3, a4⟩ } v) ((1 : Nat) : Int) d.pieces v _ from (((((HDC.out.setD hbdB hbdw hbd9 hbda (k := 0) (by simp [puC]) (.int .i64 a1)).setD hbdB hbdw hbd9 hbda (k := 1) (by simp [puC]) (.int .i64 a2)).setD hbdB hbdw hbd9 hbda (k := 2) (by simp [puC]) (.int .i64 a3)).setD hbdB hbdw hbd9 hbda (k := 3) (by simp [puC]) (.int .i64 a4.lo)).setD hbdB hbdw hbd9 hbda (k := 4) (by simp [puC]) (.int .i64 a4.hi)))
                  generalize (((((V15.setCell ⟨bd, 0, none⟩ (.int .i64 a1)).setCell ⟨bd, 1, none⟩ (.int .i64 a2)).setCell ⟨bd, 2, none⟩ (.int .i64 a3)).setCell ⟨bd, 3, none⟩ (.int .i64 a4.lo)).setCell ⟨bd, 4, none⟩ (.int .i64 a4.hi)) = W9 at HDW ⊢
                  have ca := HDW.out.2.1.c 0 _ rfl
                  have fa := HDW.out.2.1.fr 0
                  have HFF := Lib.hid (HFIN.out _ _ _ HGO.out (HDW.out.setA hbaB HBA2.out hba9 hbda (((1 : Nat) : Int) + 1)))
                  gi_wp2_with fail
                  exact HFF.out
        · have h5i : ((ws.length : Int) == 5) = false := by simp; omega
          gi_wp2_with fail
          refine ⟨trivial, CallsIn.inRound l' (callsIn_wide.2 ((need_false W).mono ?_))⟩
          rintro e W' ⟨rfl, hb⟩
          exact ⟨rfl, HPAN.out W' (step_one_no h5) (KMine.next hb) (HEN.out.next hb) (HBW.out.trans (hb.mono HBW.out.size))⟩
      · have c0 := HXA.out.c 0 _ rfl
        have hi0 : ((i : Int) == 0) = false := by simp; omega
        have hi1 : ((i : Int) == 1) = false := by simp; omega
        have hwi : IntKind.i64.wrap ((i : Int) - 2) = (i : Int) - 2 := IntWalk.i64_in _ (by omega)
        obtain ⟨k, hk⟩ : ∃ k, (i - 2) % 5 = k := ⟨_, rfl⟩
        have hk5 : k < 5 := by omega
        have hr1 : Int.tmod ((i : Int) - 2) 5 = (k : Int) := by rw [Int.tmod_eq_emod_of_nonneg (by omega)]; omega
        have hr2 : ((i : Int) - 2) % 5 = (k : Int) := by omega
        obtain ⟨A, cp, hv, -⟩ := own_form HOW.out
        subst hv
        rcases Nat.eq_zero_or_pos k with hk0 | hk0
        · subst hk0
          have HST := Lib.hid (step_piece (d := d) (ws := ws) hi2 hk)
          by_cases hp : d.pieces.length < 9
          · have hpi : ((d.pieces.length : Int) < 9) := by omega
            rw [if_pos hp] at HST
            have b8 := HDV.out.1.c 8 _ rfl
            gi_wp2_with fail
            refine ⟨trivial, CallsIn.inRound l' (callsIn_wide.2 ((need_true W).mono ?_))⟩
            rintro e W' ⟨rfl, rfl⟩
            obtain ⟨i0, hi, hz0, hz1, hz2⟩ := info_parts pc_info
            have hx := Bx.new W #[.int .i64 0, .int .i64 0, .int .i64 0, .int .i64 0, .int .i64 0, .int .i64 0, .int .i64 0, .int .i64 0, .int .i64 0, .int .i64 0, .int .i64 0, .int .i64 0, .int .i64 0, .int .i64 0, .int .i64 0, .int .i64 0, .int .i64 0, .int .i64 0, .int .i64 0, .int .i64 0, .int .i64 0, .int .i64 0, .int .i64 0, .int .i64 0, .int .i64 0, .int .i64 0, .int .i64 0, .int .i64 0] 51
            have hN := nxA W (.cells #[.int .i64 0, .int .i64 0, .int .i64 0, .int .i64 0, .int .i64 0, .int .i64 0, .int .i64 0, .int .i64 0, .int .i64 0, .int .i64 0, .int .i64 0, .int .i64 0, .int .i64 0, .int .i64 0, .int .i64 0, .int .i64 0, .int .i64 0, .int .i64 0, .int .i64 0, .int .i64 0, .int .i64 0, .int .i64 0, .int .i64 0, .int .i64 0, .int .i64 0, .int .i64 0, .int .i64 0, .int .i64 0] 51)
            have HD2 := Lib.hid (HDV.out.next hN)
            have HNW := Lib.hid (show ∀ (j : Nat) u, pc0.cells[j]? = some u → (W.alloc (.cells #[.int .i64 0, .int .i64 0, .int .i64 0, .int .i64 0, .int .i64 0, .int .i64 0, .int .i64 0, .int .i64 0, .int .i64 0, .int .i64 0, .int .i64 0, .int .i64 0, .int .i64 0, .int .i64 0, .int .i64 0, .int .i64 0, .int .i64 0, .int .i64 0, .int .i64 0, .int .i64 0, .int .i64 0, .int .i64 0, .int .i64 0, .int .i64 0, .int .i64 0, .int .i64 0, .int .i64 0, .int .i64 0] 51)).cell? ((⟨W.heap.size, 0, none⟩ : Addr).add j) = some u from hx.news)
            have b8' := HD2.out.1.c 8 _ rfl
            have f8' := HD2.out.1.fr 8
            have HSZ := Lib.hid (show B ≤ (W.alloc (.cells #[.int .i64 0, .int .i64 0, .int .i64 0, .int .i64 0, .int .i64 0, .int .i64 0, .int .i64 0, .int .i64 0, .int .i64 0, .int .i64 0, .int .i64 0, .int .i64 0, .int .i64 0, .int .i64 0, .int .i64 0, .int .i64 0, .int .i64 0, .int .i64 0, .int .i64 0, .int .i64 0, .int .i64 0, .int .i64 0, .int .i64 0, .int .i64 0, .int .i64 0, .int .i64 0, .int .i64 0, .int .i64 0] 51)).heap.size from Nat.le_trans HBS.out hN.size)
            clear hx hN
            have hpl := hp
            have hwi1 : IntKind.i64.wrap ((i : Int) + 1) = (i : Int) + 1 := IntWalk.i64_in _ (by omega)
            gi_wp2_with (gi_at_builtin; refine wpListIn_append_own _ rfl (.tmp 81) (.tmp 83) 26 rfl B 51 i0 (.agg #[.int .i64 0, .int .i64 0, .int .i64 0, .int .i64 0, .int .i64 0, .int .i64 0, .int .i64 0, .int .i64 0, .int .i64 0, .int .i64 0, .int .i64 0, .int .i64 0, .int .i64 0, .int .i64 0, .int .i64 0, .int .i64 0, .int .i64 0, .int .i64 0, .int .i64 0, .int .i64 0, .int .i64 0, .int .i64 0, .int .i64 0, .int .i64 0, .int .i64 0, .int .i64 0, .int .i64 0, .int .i64 0]) 28 224 Tryz.underlying26 hi hz0 hz1 hz2 rfl (by decide) _ d.pieces.length _ rfl HD2.out.2.2.1 ⟨W.heap.size, 0, none⟩ 1 1 pc0.cells rfl rfl HNW.out (pc_one pc0) (by unfold maxLen; omega) (by omega) HSZ.out ?_; intro v' w' hown' hgrow _; obtain ⟨A', cp', rfl, -⟩ := own_form hown'; have HD3 := Lib.hid (show DV w W B bd ba (puC d (.slice A d.pieces.length cp)) (i : Int) (d.pieces ++ [pc0]) (.slice A' (d.pieces.length + 1) cp') w' from HD2.out.grown hbdB hbaB h9B hwB (by rw [List.length_append, List.flatMap_append]; exact hown') hgrow); have g8 := HD3.out.1.c 8 _ rfl; have e8 := HD3.out.1.fr 8; have HDW := Lib.hid (show DV w W B bd ba (puC { d with pieces := d.pieces ++ [pc0] } (.slice A' (d.pieces.length + 1) cp')) (i : Int) (d.pieces ++ [pc0]) (.slice A' (d.pieces.length + 1) cp') _ from HD3.out.setD hbdB hbdw hbd9 hbda (k := 8) (by simp [puC]) (.slice A' (d.pieces.length + 1) cp')); have ca := HDW.out.2.1.c 0 _ rfl; have fa := HDW.out.2.1.fr 0; have HFF := Lib.hid (HFIN.out _ _ _ HST.out (HDW.out.setA hbaB HBA2.out hba9 hbda ((i : Int) + 1))); clear hown' hgrow)
            exact HFF.out
          · have hpi : ¬ ((d.pieces.length : Int) < 9) := by omega
            rw [if_neg hp] at HST
            have b8 := HDV.out.1.c 8 _ rfl
            gi_wp2_with fail
            refine ⟨trivial, CallsIn.inRound l' (callsIn_wide.2 ((need_false W).mono ?_))⟩
            rintro e W' ⟨rfl, hb⟩
            exact ⟨rfl, HPAN.out W' HST.out (KMine.next hb) (HEN.out.next hb) (HBW.out.trans (hb.mono HBW.out.size))⟩
        · obtain ⟨r, rfl⟩ : ∃ r, k = r + 1 := ⟨k - 1, by omega⟩
          have hr4 : r < 4 := by omega
          have hr4i : (r : Int) < 4 := by omega
          have HST := Lib.hid (step_side (d := d) (ws := ws) hi2 hk)
          have hkz : ((r : Int) + 1 == 0) = false := by simp; omega
          have hwr : IntKind.i64.wrap (r : Int) = (r : Int) := IntWalk.i64_in _ (by omega)
          have hpos : 0 < d.pieces.length := by rw [HCN.out]; omega
          have hcnt : d.pieces.length ≤ 70000 := by rw [HCN.out]; omega
          obtain ⟨g, cp', e0, -⟩ := HOW.out.form hpos
          injection e0 with e1 e2 e3
          subst e1
          clear e2 e3 hpos
          obtain ⟨ps, pl, hps⟩ : ∃ ps pl, d.pieces = ps ++ [pl] := by
            rcases List.eq_nil_or_concat d.pieces with h | ⟨ps, pl, h⟩
            · rw [h] at hcnt; have := HCN.out; rw [h] at this; simp at this; omega
            · exact ⟨ps, pl, by rw [h]; simp⟩
          obtain ⟨n, hn⟩ : ∃ n, ps.length = n := ⟨_, rfl⟩
          have hnl : d.pieces.length = n + 1 := by rw [hps, List.length_append, hn]; rfl
          have hwn : IntKind.i64.wrap (n : Int) = (n : Int) := IntWalk.i64_in _ (by omega)
          have hnn : (n : Int) < (n : Int) + 1 := by omega
          have hnn2 : n < n + 1 := by omega
          have HDN := Lib.hid (show DV w W B bd ba (puC d (.slice (some ⟨g, 0, none⟩) (n + 1) cp)) (i : Int) (ps ++ [pl]) (.slice (some ⟨g, 0, none⟩) (n + 1) cp) W by rw [← hps, ← hnl]; exact HDV.out)
          have HED := Lib.hid (fun W' hW hA => edge_any (some ⟨q, off, none⟩) c ws W' hW hA HNE.out HWL.out HCL.out)
          have HS := Lib.hid (show ∀ W' : World, Below W.heap.size W W' → W'.cell? ⟨bd, 8, none⟩ = some (.slice (some ⟨g, 0, none⟩) (n + 1) cp) from fun W' hb => (HDN.out.next hb).1.c 8 _ rfl)
          have hgbd : g ≠ bd := by have := (HDN.out.2.2.1.lt g rfl).1; omega
          have HC := Lib.hid ((Below.refl W.heap.size W).drew)
          have HPS := Lib.hid hps
          have HNN := Lib.hid hn
          clear hcnt hnl hn hps HDV HOW
          generalize edP ws = pe at HST HED
          gi_wp2_with fail
          rcases pe with _ | e
          · have HNO := Lib.hid (show stepP i d ws = none from HST.out)
            refine region_inX (S := (fun W' => W'.cell? ⟨bd, 8, none⟩ = some (.slice (some ⟨g, 0, none⟩) (n + 1) cp))) (fun ch W' => ch = [{ v := .iface 129 (.agg #[]), recovered := false }] ∧ stepP i d ws = none ∧ KMine B W W' ∧ Env W' ∧ Below w.heap.size w W') (by kernel_rfl) (by kernel_rfl) (fun ch a' w' hd h => by obtain ⟨rfl, h1, h2, h3, h4⟩ := h; exact ⟨hd, HPAN.out w' h1 h2 h3 h4⟩) ?_ (fun hHeld => ?_)
            · (try dsimp only); exact HS.out _ HC.out
            refine htake (i := 0) (v := ?v98) rfl (by kernel_rfl) (by kernel_rfl) (by kernel_rfl) (fun _ _ _ h => pan_put h) (Or.inl ⟨by rfl, ?hy98⟩) (by assumption) ?_
            case hy98 => (intro w hSw; (try dsimp only at hSw); go_simp; try (with_reducible rfl))
            try simp only [Act.put, List.setIfInBounds_toArray, List.set_cons_zero, List.set_cons_succ]
            refine htake (i := 1) (v := ?v99) rfl (by kernel_rfl) (by kernel_rfl) (by kernel_rfl) (fun _ _ _ h => pan_put h) (Or.inl ⟨by rfl, ?hy99⟩) (by assumption) ?_
            case hy99 => (intro w hSw; (try dsimp only at hSw); go_simp; try (with_reducible rfl))
            try simp only [Act.put, List.setIfInBounds_toArray, List.set_cons_zero, List.set_cons_succ]
            refine htake (i := 2) (v := ?v100) rfl (by kernel_rfl) (by kernel_rfl) (by kernel_rfl) (fun _ _ _ h => pan_put h) (Or.inl ⟨by rfl, ?hy100⟩) (by assumption) ?_
            case hy100 => (intro w hSw; (try dsimp only at hSw); go_simp; try (with_reducible rfl))
            try simp only [Act.put, List.setIfInBounds_toArray, List.set_cons_zero, List.set_cons_succ]
            refine htake (i := 3) (v := ?v101) rfl (by kernel_rfl) (by kernel_rfl) (by kernel_rfl) (fun _ _ _ h => pan_put h) (Or.inl ⟨by rfl, ?hy101⟩) (by assumption) ?_
            case hy101 => (intro w hSw; (try dsimp only at hSw); go_simp; try (with_reducible rfl))
            try simp only [Act.put, List.setIfInBounds_toArray, List.set_cons_zero, List.set_cons_succ]
            refine htake (i := 4) (v := ?v102) rfl (by kernel_rfl) (by kernel_rfl) (by kernel_rfl) (fun _ _ _ h => pan_put h) (Or.inl ⟨by rfl, ?hy102⟩) (by assumption) ?_
            case hy102 => (intro w hSw; (try dsimp only at hSw); go_simp; try (with_reducible rfl))
            try simp only [Act.put, List.setIfInBounds_toArray, List.set_cons_zero, List.set_cons_succ]
            refine htake (i := 5) (v := ?v103) rfl (by kernel_rfl) (by kernel_rfl) (by kernel_rfl) (fun _ _ _ h => pan_put h) (Or.inl ⟨by rfl, ?hy103⟩) (by assumption) ?_
            case hy103 => (intro w hSw; (try dsimp only at hSw); go_simp; try (with_reducible rfl))
            try simp only [Act.put, List.setIfInBounds_toArray, List.set_cons_zero, List.set_cons_succ]
            refine htake (i := 6) (v := ?v104) rfl (by kernel_rfl) (by kernel_rfl) (by kernel_rfl) (fun _ _ _ h => pan_put h) (Or.inl ⟨by rfl, ?hy104⟩) (by assumption) ?_
            case hy104 => (intro w hSw; (try dsimp only at hSw); go_simp; try (with_reducible rfl))
            try simp only [Act.put, List.setIfInBounds_toArray, List.set_cons_zero, List.set_cons_succ]
            refine htake (i := 7) (v := ?v105) rfl (by kernel_rfl) (by kernel_rfl) (by kernel_rfl) (fun _ _ _ h => pan_put h) (Or.inl ⟨by rfl, ?hy105⟩) (by assumption) ?_
            case hy105 => (intro w hSw; (try dsimp only at hSw); go_simp; try (with_reducible rfl))
            try simp only [Act.put, List.setIfInBounds_toArray, List.set_cons_zero, List.set_cons_succ]
            refine htake (i := 8) (v := ?v106) rfl (by kernel_rfl) (by kernel_rfl) (by kernel_rfl) (fun _ _ _ h => pan_put h) (Or.inl ⟨by rfl, ?hy106⟩) (by assumption) ?_
            case hy106 => (intro w hSw; (try dsimp only at hSw); go_simp; try (with_reducible rfl))
            try simp only [Act.put, List.setIfInBounds_toArray, List.set_cons_zero, List.set_cons_succ]
            refine htake (i := 10) (v := ?v107) rfl (by kernel_rfl) (by kernel_rfl) (by kernel_rfl) (fun _ _ _ h => pan_put h) (Or.inl ⟨by rfl, ?hy107⟩) (by assumption) ?_
            case hy107 => (intro w hSw; (try dsimp only at hSw); go_simp; try (with_reducible rfl))
            try simp only [Act.put, List.setIfInBounds_toArray, List.set_cons_zero, List.set_cons_succ]
            refine htake (i := 11) (v := ?v108) rfl (by kernel_rfl) (by kernel_rfl) (by kernel_rfl) (fun _ _ _ h => pan_put h) (Or.inl ⟨by rfl, ?hy108⟩) (by assumption) ?_
            case hy108 => (intro w hSw; (try dsimp only at hSw); go_simp; try (with_reducible rfl))
            try simp only [Act.put, List.setIfInBounds_toArray, List.set_cons_zero, List.set_cons_succ]
            refine wpAnyH_ready (rs := [9]) (by kernel_rfl) (by simp) ?_
            refine hcons rfl (fun K hK => ?_) (AllReadyH.nil)
            go_simp
            refine (HED.out _ (HEN.out.next HC.out) (HAT.out.next HC.out)).mono ?_; rintro e9 V9 ⟨rfl, hb⟩; replace HC := Lib.hid (HC.out.trans (hb.mono HC.out.size)); exact ⟨rfl, rfl, HNO.out, KMine.next HC.out, HEN.out.next HC.out, HBW.out.trans (HC.out.mono HBW.out.size)⟩
          · have HGO := Lib.hid (show stepP i d ws = some { d with pieces := ps ++ [setE pl r e] } by rw [HST.out]; show some { d with pieces := setLast d.pieces r e } = _; rw [HPS.out, setLast_snoc])
            replace HED := Lib.hid (show ∀ W' : World, Env W' → At W' W'.heap.size 1 tcell (some ⟨q, off, none⟩) ws → Calls Tryz.prog 43 #[.slice (some ⟨q, off, none⟩) ws.length c] W' (Got (some (.agg #[.int .i64 e.kind, .int .i64 e.a.lo, .int .i64 e.a.hi, .int .i64 e.w.lo, .int .i64 e.w.hi, .int .i64 e.d.lo, .int .i64 e.d.hi])) W') from HED.out)
            refine region_inX (S := (fun W' => W'.cell? ⟨bd, 8, none⟩ = some (.slice (some ⟨g, 0, none⟩) (n + 1) cp))) (fun ch W' => ch = [{ v := .iface 129 (.agg #[]), recovered := false }] ∧ stepP i d ws = none ∧ KMine B W W' ∧ Env W' ∧ Below w.heap.size w W') (by kernel_rfl) (by kernel_rfl) (fun ch a' w' hd h => by obtain ⟨rfl, h1, h2, h3, h4⟩ := h; exact ⟨hd, HPAN.out w' h1 h2 h3 h4⟩) ?_ (fun hHeld => ?_)
            · (try dsimp only); exact HS.out _ HC.out
            refine htake (i := 0) (v := ?v109) rfl (by kernel_rfl) (by kernel_rfl) (by kernel_rfl) (fun _ _ _ h => pan_put h) (Or.inl ⟨by rfl, ?hy109⟩) (by assumption) ?_
            case hy109 => (intro w hSw; (try dsimp only at hSw); go_simp; try (with_reducible rfl))
            try simp only [Act.put, List.setIfInBounds_toArray, List.set_cons_zero, List.set_cons_succ]
            refine htake (i := 1) (v := ?v110) rfl (by kernel_rfl) (by kernel_rfl) (by kernel_rfl) (fun _ _ _ h => pan_put h) (Or.inl ⟨by rfl, ?hy110⟩) (by assumption) ?_
            case hy110 => (intro w hSw; (try dsimp only at hSw); go_simp; try (with_reducible rfl))
            try simp only [Act.put, List.setIfInBounds_toArray, List.set_cons_zero, List.set_cons_succ]
            refine htake (i := 2) (v := ?v111) rfl (by kernel_rfl) (by kernel_rfl) (by kernel_rfl) (fun _ _ _ h => pan_put h) (Or.inl ⟨by rfl, ?hy111⟩) (by assumption) ?_
            case hy111 => (intro w hSw; (try dsimp only at hSw); go_simp; try (with_reducible rfl))
            try simp only [Act.put, List.setIfInBounds_toArray, List.set_cons_zero, List.set_cons_succ]
            refine htake (i := 3) (v := ?v112) rfl (by kernel_rfl) (by kernel_rfl) (by kernel_rfl) (fun _ _ _ h => pan_put h) (Or.inl ⟨by rfl, ?hy112⟩) (by assumption) ?_
            case hy112 => (intro w hSw; (try dsimp only at hSw); go_simp; try (with_reducible rfl))
            try simp only [Act.put, List.setIfInBounds_toArray, List.set_cons_zero, List.set_cons_succ]
            refine htake (i := 4) (v := ?v113) rfl (by kernel_rfl) (by kernel_rfl) (by kernel_rfl) (fun _ _ _ h => pan_put h) (Or.inl ⟨by rfl, ?hy113⟩) (by assumption) ?_
            case hy113 => (intro w hSw; (try dsimp only at hSw); go_simp; try (with_reducible rfl))
            try simp only [Act.put, List.setIfInBounds_toArray, List.set_cons_zero, List.set_cons_succ]
            refine htake (i := 5) (v := ?v114) rfl (by kernel_rfl) (by kernel_rfl) (by kernel_rfl) (fun _ _ _ h => pan_put h) (Or.inl ⟨by rfl, ?hy114⟩) (by assumption) ?_
            case hy114 => (intro w hSw; (try dsimp only at hSw); go_simp; try (with_reducible rfl))
            try simp only [Act.put, List.setIfInBounds_toArray, List.set_cons_zero, List.set_cons_succ]
            refine htake (i := 6) (v := ?v115) rfl (by kernel_rfl) (by kernel_rfl) (by kernel_rfl) (fun _ _ _ h => pan_put h) (Or.inl ⟨by rfl, ?hy115⟩) (by assumption) ?_
            case hy115 => (intro w hSw; (try dsimp only at hSw); go_simp; try (with_reducible rfl))
            try simp only [Act.put, List.setIfInBounds_toArray, List.set_cons_zero, List.set_cons_succ]
            refine htake (i := 7) (v := ?v116) rfl (by kernel_rfl) (by kernel_rfl) (by kernel_rfl) (fun _ _ _ h => pan_put h) (Or.inl ⟨by rfl, ?hy116⟩) (by assumption) ?_
            case hy116 => (intro w hSw; (try dsimp only at hSw); go_simp; try (with_reducible rfl))
            try simp only [Act.put, List.setIfInBounds_toArray, List.set_cons_zero, List.set_cons_succ]
            refine htake (i := 8) (v := ?v117) rfl (by kernel_rfl) (by kernel_rfl) (by kernel_rfl) (fun _ _ _ h => pan_put h) (Or.inl ⟨by rfl, ?hy117⟩) (by assumption) ?_
            case hy117 => (intro w hSw; (try dsimp only at hSw); go_simp; try (with_reducible rfl))
            try simp only [Act.put, List.setIfInBounds_toArray, List.set_cons_zero, List.set_cons_succ]
            refine htake (i := 10) (v := ?v118) rfl (by kernel_rfl) (by kernel_rfl) (by kernel_rfl) (fun _ _ _ h => pan_put h) (Or.inl ⟨by rfl, ?hy118⟩) (by assumption) ?_
            case hy118 => (intro w hSw; (try dsimp only at hSw); go_simp; try (with_reducible rfl))
            try simp only [Act.put, List.setIfInBounds_toArray, List.set_cons_zero, List.set_cons_succ]
            refine htake (i := 11) (v := ?v119) rfl (by kernel_rfl) (by kernel_rfl) (by kernel_rfl) (fun _ _ _ h => pan_put h) (Or.inl ⟨by rfl, ?hy119⟩) (by assumption) ?_
            case hy119 => (intro w hSw; (try dsimp only at hSw); go_simp; try (with_reducible rfl))
            try simp only [Act.put, List.setIfInBounds_toArray, List.set_cons_zero, List.set_cons_succ]
            refine wpAnyH_ready (rs := [9]) (by kernel_rfl) (by simp) ?_
            refine hcons rfl (fun K hK => ?_) (AllReadyH.nil)
            go_simp
            refine (HED.out _ (HEN.out.next HC.out) (HAT.out.next HC.out)).mono ?_; rintro e9 V9 ⟨rfl, hb⟩; replace HC := Lib.hid (HC.out.trans (hb.mono HC.out.size)); clear hb; have HDC := Lib.hid (HDN.out.next HC.out); have HOC := Lib.hid (show V9.ownsRow B 51 28 (.slice (some ⟨g, 0, none⟩) (n + 1) cp) (n + 1) _ by have h := HDC.out.2.2.1; rw [List.length_append, HNN.out] at h; exact h); obtain ⟨u0, z0⟩ := own_some HOC.out (m := n * 28 + r * 7) (by omega); have y0 := (own_kd HOC.out).2 (n * 28 + r * 7); obtain ⟨u1, z1⟩ := own_some HOC.out (m := n * 28 + r * 7 + 1) (by omega); have y1 := (own_kd HOC.out).2 (n * 28 + r * 7 + 1); obtain ⟨u2, z2⟩ := own_some HOC.out (m := n * 28 + r * 7 + 2) (by omega); have y2 := (own_kd HOC.out).2 (n * 28 + r * 7 + 2); obtain ⟨u3, z3⟩ := own_some HOC.out (m := n * 28 + r * 7 + 3) (by omega); have y3 := (own_kd HOC.out).2 (n * 28 + r * 7 + 3); obtain ⟨u4, z4⟩ := own_some HOC.out (m := n * 28 + r * 7 + 4) (by omega); have y4 := (own_kd HOC.out).2 (n * 28 + r * 7 + 4); obtain ⟨u5, z5⟩ := own_some HOC.out (m := n * 28 + r * 7 + 5) (by omega); have y5 := (own_kd HOC.out).2 (n * 28 + r * 7 + 5); obtain ⟨u6, z6⟩ := own_some HOC.out (m := n * 28 + r * 7 + 6) (by omega); have y6 := (own_kd HOC.out).2 (n * 28 + r * 7 + 6)
            refine hK.out _ _ ?_ (fun hHeld => ?_)
            · (try dsimp only); exact HS.out _ HC.out
            clear hK K
            try simp only [Act.put, List.setIfInBounds_toArray, List.set_cons_zero, List.set_cons_succ]
            refine htake (i := 12) (v := ?v120) rfl (by kernel_rfl) (by kernel_rfl) (by kernel_rfl) (fun _ _ _ h => pan_put h) (Or.inl ⟨by rfl, ?hy120⟩) (by assumption) ?_
            case hy120 => (intro w hSw; (try dsimp only at hSw); go_simp; try (with_reducible rfl))
            try simp only [Act.put, List.setIfInBounds_toArray, List.set_cons_zero, List.set_cons_succ]
            refine wpAnyH_ready (rs := [13]) (by kernel_rfl) (by simp) ?_
            refine hcons rfl (fun K hK => ?_) (AllReadyH.nil)
            go_simp
            refine hK.out _ _ ?_ (fun hHeld => ?_)
            · (try dsimp only); (iterate 7 rw [World.cell?_setCell_other _ _ _ _ (by intro e; injection e with e; exact hgbd e)]); assumption
            clear hK K
            try simp only [Act.put, List.setIfInBounds_toArray, List.set_cons_zero, List.set_cons_succ]
            refine wpAnyH_done (by kernel_rfl) ?_ _
            dsimp only [PanTo]
            iterate 15 (try clear hHeld)
            have HDW := Lib.hid (show DV w W B bd ba (puC { d with pieces := ps ++ [setE pl r e] } (.slice (some ⟨g, 0, none⟩) (n + 1) cp)) (i : Int) (ps ++ [setE pl r e]) (.slice (some ⟨g, 0, none⟩) (n + 1) cp) _ from HDC.out.setSide HNN.out hr4 hbdB hbaB h9B hwB e)
            generalize (((((((V9.setCell ⟨g, n * 28 + r * 7, none⟩ (.int .i64 e.kind)).setCell ⟨g, n * 28 + r * 7 + 1, none⟩ (.int .i64 e.a.lo)).setCell ⟨g, n * 28 + r * 7 + 2, none⟩ (.int .i64 e.a.hi)).setCell ⟨g, n * 28 + r * 7 + 3, none⟩ (.int .i64 e.w.lo)).setCell ⟨g, n * 28 + r * 7 + 4, none⟩ (.int .i64 e.w.hi)).setCell ⟨g, n * 28 + r * 7 + 5, none⟩ (.int .i64 e.d.lo)).setCell ⟨g, n * 28 + r * 7 + 6, none⟩ (.int .i64 e.d.hi)) = W9 at HDW ⊢
            have hwi1 : IntKind.i64.wrap ((i : Int) + 1) = (i : Int) + 1 := IntWalk.i64_in _ (by omega)
            have ca := HDW.out.2.1.c 0 _ rfl
            have fa := HDW.out.2.1.fr 0
            have HFF := Lib.hid (HFIN.out _ _ _ HGO.out (HDW.out.setA hbaB HBA2.out hba9 hbda ((i : Int) + 1)))
            gi_wp2_with fail
            exact HFF.out
        
end Go.Proofs.YtonnemkecppmiaaGreatDoor

