import Derived.Test.YtbhkglokdomajaaDoorT3
namespace Go.Proofs.YtbhkglokdomajaaDoor
open Go.RowKit
/-! Of the law RuleMore: lists that the call itself has made, and what it makes of a die and of stints. -/
theorem bxOf {B : Nat} {V W : World} (_ : Below B V W) (vs : Array Value) (t : TypeId) : Bx (W.alloc (.cells vs t)) W.heap.size vs.toList := Bx.new W vs t
theorem two_box (V : World) (vs : Array Value) (t : TypeId) : Bx ((V.alloc (.cells vs t)).alloc (.cells vs t)) V.heap.size vs.toList ∧ Bx ((V.alloc (.cells vs t)).alloc (.cells vs t)) (V.heap.size + 1) vs.toList ∧ Below V.heap.size V ((V.alloc (.cells vs t)).alloc (.cells vs t)) := by
  have hs : (V.alloc (.cells vs t)).heap.size = V.heap.size + 1 := by simp
  refine ⟨(Bx.new V vs t).next (nxA _ _), ?_, (nxA _ _).trans ((nxA _ _).mono (by omega))⟩
  rw [← hs]
  exact Bx.new _ vs t
structure LBlk {α : Type} (cells : α → List Value) (size : Nat) (W : World) (g : Nat) (l : List α) : Prop where
  lt : g < W.heap.size
  at_ : At W W.heap.size size cells (some ⟨g, 0, none⟩) l
  fr : ∀ j, W.frozen? ⟨g, j, none⟩ = false
theorem LBlk.below {α : Type} {cells : α → List Value} {size : Nat} {W W' : World} {B g : Nat} {l : List α} (h : LBlk cells size W g l) (hb : Below B W W') (hg : g < B) : LBlk cells size W' g l := by
  refine ⟨Nat.lt_of_lt_of_le h.lt hb.size, fun k x hx => ?_, fun j => (hb.frozen (p := ⟨g, j, none⟩) hg).trans (h.fr j)⟩
  obtain ⟨b, off, e, hl, hc⟩ := h.at_ k x hx
  injection e with e
  injection e with e1 e2
  subst e1 e2
  exact ⟨g, 0, rfl, Nat.lt_of_lt_of_le hl hb.size, fun j u hu => (hb.cell (p := ⟨g, 0 + k * size + j, none⟩) hg).trans (hc j u hu)⟩
theorem LBlk.next {α : Type} {cells : α → List Value} {size : Nat} {W W' : World} {g : Nat} {l : List α} (h : LBlk cells size W g l) (hb : Below W.heap.size W W') : LBlk cells size W' g l := h.below hb h.lt
theorem Bx.far {W : World} {b g k : Nat} {vs : List Value} (h : Bx W b vs) (hne : g ≠ b) (v : Value) : Bx (W.setCell ⟨g, k, none⟩ v) b vs :=
  ⟨by rw [World.size_setCell]; exact h.lt, fun j u hu => by rw [World.cell?_setCell_other _ _ _ _ (by intro e; injection e with e; exact hne e)]; exact h.c j u hu, fun j => by rw [World.frozen?_setCell]; exact h.fr j⟩
theorem LBlk.far {α : Type} {cells : α → List Value} {size : Nat} {W : World} {g b k : Nat} {l : List α} (h : LBlk cells size W b l) (hne : g ≠ b) (v : Value) : LBlk cells size (W.setCell ⟨g, k, none⟩ v) b l := by
  refine ⟨by rw [World.size_setCell]; exact h.lt, fun i x hx => ?_, fun j => by rw [World.frozen?_setCell]; exact h.fr j⟩
  obtain ⟨b', off, e, hl, hc⟩ := h.at_ i x hx
  injection e with e
  injection e with e1 e2
  subst e1 e2
  exact ⟨b, 0, rfl, by rw [World.size_setCell]; exact hl, fun j u hu => by rw [World.cell?_setCell_other _ _ _ _ (by intro e; injection e with e; exact hne e)]; exact hc j u hu⟩
theorem LBlk.drew {α : Type} {cells : α → List Value} {size : Nat} {W : World} {g : Nat} {l : List α} (h : LBlk cells size W g l) : LBlk cells size W.drew g l := ⟨h.lt, h.at_, h.fr⟩
theorem LBlk.cell {α : Type} {cells : α → List Value} {size : Nat} {W : World} {g : Nat} {l : List α} (h : LBlk cells size W g l) {k : Nat} {x : α} (hx : l[k]? = some x) {j : Nat} {u : Value} (hu : (cells x)[j]? = some u) : W.cell? ⟨g, k * size + j, none⟩ = some u := by
  obtain ⟨b, off, e, hl, hc⟩ := h.at_ k x hx
  injection e with e
  injection e with e1 e2
  subst e1 e2
  have := hc j u hu
  rwa [Nat.zero_add] at this
theorem idx_eq {size k j k' j' : Nat} (hj : j < size) (hj' : j' < size) (h : k * size + j = k' * size + j') : k = k' ∧ j = j' := by
  have h1 : (k * size + j) / size = k := by rw [Nat.mul_comm, Nat.mul_add_div (by omega), Nat.div_eq_of_lt hj]; rfl
  have h2 : (k' * size + j') / size = k' := by rw [Nat.mul_comm, Nat.mul_add_div (by omega), Nat.div_eq_of_lt hj']; rfl
  have h3 : k = k' := by rw [← h1, ← h2, h]
  subst h3
  exact ⟨rfl, by omega⟩
theorem LBlk.set {α : Type} {cells : α → List Value} {size : Nat} (hs : ∀ x, (cells x).length = size) {W : World} {g : Nat} {l : List α} (h : LBlk cells size W g l) {k j : Nat} {x x' : α} {v : Value} (hx : l[k]? = some x) (hj : j < size) (hx' : cells x' = (cells x).set j v) : LBlk cells size (W.setCell ⟨g, k * size + j, none⟩ v) g (l.set k x') := by
  refine ⟨by rw [World.size_setCell]; exact h.lt, fun k2 y hy => ?_, fun i => by rw [World.frozen?_setCell]; exact h.fr i⟩
  refine ⟨g, 0, rfl, by rw [World.size_setCell]; exact h.lt, fun i u hu => ?_⟩
  rw [Nat.zero_add]
  have hi : i < size := by have := (List.getElem?_eq_some_iff.1 hu).1; rw [hs] at this; exact this
  by_cases e : k2 = k
  · subst e
    rw [List.getElem?_set_self (List.getElem?_eq_some_iff.1 hx).1] at hy
    injection hy with hy
    subst hy
    rw [hx'] at hu
    by_cases e2 : i = j
    · subst e2
      rw [List.getElem?_set_self (by rw [hs]; exact hj)] at hu
      injection hu with hu
      subst hu
      have hv : (cells x)[i]? = some ((cells x)[i]'(by rw [hs]; exact hj)) := List.getElem?_eq_getElem _
      exact World.cell?_setCell_same' _ _ _ (by rw [h.cell hx hv]; rfl)
    · rw [List.getElem?_set_ne (by omega)] at hu
      rw [World.cell?_setCell_other _ _ _ _ (by intro e'; injection e' with _ e3; exact e2 (by omega))]
      exact h.cell hx hu
  · rw [List.getElem?_set_ne (by omega)] at hy
    rw [World.cell?_setCell_other _ _ _ _ (by intro e'; injection e' with _ e3; exact e (idx_eq hi hj e3.symm).1)]
    exact h.cell hy hu
theorem own_lblk {α : Type} {cells : α → List Value} {size : Nat} (hs : ∀ x, (cells x).length = size) (h0 : 0 < size) {W : World} {base n : Nat} {e : TypeId} {v : Value} {l : List α} (h : W.ownsRow base e size v n (l.flatMap cells)) (hn : n = l.length) (hne : v ≠ .slice none 0 0) :
    ∃ g cap, v = .slice (some ⟨g, 0, none⟩) l.length cap ∧ base ≤ g ∧ LBlk cells size W g l := by
  subst hn
  rcases h.2 with ⟨e1, -⟩ | ⟨g, cap, cur, rfl, hb, hg, -, -, -, -⟩
  · exact absurd e1 hne
  · refine ⟨g, cap, rfl, hb, ?_⟩
    have hlt : g < W.heap.size := (Array.getElem?_eq_some_iff.1 hg).1
    obtain ⟨A, c, ev, hat⟩ := own_at hs h0 h
    injection ev with ev _ _
    subst ev
    exact ⟨hlt, hat, fun j => by simp [World.frozen?, hg]⟩
theorem wpList_append_none {P : Program} {w : World} {ops : Array Oper} {rest : List Oper} {o : Oper} {a : Act} {Q : Exit → Act → World → Prop} (hgd : o.guard = none) (s x : Operand) (t : TypeId)
    (ho : o.op = .call { callee := .builtin .append, args := #[s, x], argTypes := #[t, t] })
    (e : TypeId) (i : TypeInfo) (ht : P.underlying t = some (.slice e)) (hi : P.info? e = some i)
    (H c : Nat) (hs : a.eval s = .slice (some ⟨H, 0, none⟩) 0 0) (hx : a.eval x = .slice none 0 c) (h : wpList P ops Q rest (a.put o.dst (.slice (some ⟨H, 0, none⟩) 0 0)) w) : wpList P ops Q (o :: rest) a w := by
  refine wpList_plain hgd fun K hK => ?_
  have hr : (Builtin.append_ #[t, t] o.type #[.slice (some ⟨H, 0, none⟩) 0 0, .slice none 0 c]).run P w = .ok (.slice (some ⟨H, 0, none⟩) 0 0) w := by
    simp [Builtin.append_, run_underlying ht, sizeOf, typeInfo, hi, Builtin.lenOf, Builtin.firstCells, loadCells, loadCellsFrom, storeCells]
  unfold Oper.wp execOp
  simp only [ho, resolve, invoke, builtin, Sem.run_bind, Sem.run_pure, Result.andThen_ok, List.map_toArray, List.map_cons, List.map_nil, hs, hx, hr]
  exact hK _ _ h
theorem stint_set {W : World} {g : Nat} {l : List Stint} (h : LBlk Stint.cells 2 W g l) {k : Nat} {t : Stint} (hx : l[k]? = some t) (a b : Int) : LBlk Stint.cells 2 ((W.setCell ⟨g, k * 2, none⟩ (.int .i64 a)).setCell ⟨g, k * 2 + 1, none⟩ (.int .i64 b)) g (l.set k ⟨a, b⟩) := by
  have h1 := h.set (size := 2) (fun _ => rfl) (k := k) (j := 0) (x := t) (x' := ⟨a, t.more⟩) (v := .int .i64 a) hx (by omega) rfl
  have hk := (List.getElem?_eq_some_iff.1 hx).1
  have h2 := h1.set (size := 2) (fun _ => rfl) (k := k) (j := 1) (x := ⟨a, t.more⟩) (x' := ⟨a, b⟩) (v := .int .i64 b) (List.getElem?_set_self hk) (by omega) rfl
  rw [List.set_set] at h2
  exact h2
theorem at_split {α : Type} {W : World} {B size : Nat} {cells : α → List Value} {A : Option Addr} {l : List α} (hs : ∀ x, (cells x).length = size) (h : At W B size cells A l) : (A = none ∧ l = []) ∨ ∃ a, A = some a ∧ ∀ W' B', At W' B' size cells A l → ∀ j u, (l.flatMap cells)[j]? = some u → W'.cell? (a.add j) = some u := by
  match l, h with
  | [], _ =>
    cases A with
    | none => exact .inl ⟨rfl, rfl⟩
    | some a => exact .inr ⟨a, rfl, fun W' B' _ j u hu => by simp at hu⟩
  | x :: l, h =>
    obtain ⟨b, off, e, -, -⟩ := h 0 x rfl
    subst e
    exact .inr ⟨_, rfl, fun W' B' h' => h'.news hs⟩
theorem index_three0 (a0 a1 a2 a3 a4 a5 a6 a7 a8 a9 a10 a11 : Value) (W : World) : (Instr.index 68 (.agg #[a0, a1, a2, a3, a4, a5, a6, a7, a8, a9, a10, a11]) (.int .i64 0)).run Tryd.prog W = .ok (.agg #[a0, a1, a2, a3]) W := by kernel_rfl
theorem index_three1 (a0 a1 a2 a3 a4 a5 a6 a7 a8 a9 a10 a11 : Value) (W : World) : (Instr.index 68 (.agg #[a0, a1, a2, a3, a4, a5, a6, a7, a8, a9, a10, a11]) (.int .i64 1)).run Tryd.prog W = .ok (.agg #[a4, a5, a6, a7]) W := by kernel_rfl
theorem index_three2 (a0 a1 a2 a3 a4 a5 a6 a7 a8 a9 a10 a11 : Value) (W : World) : (Instr.index 68 (.agg #[a0, a1, a2, a3, a4, a5, a6, a7, a8, a9, a10, a11]) (.int .i64 2)).run Tryd.prog W = .ok (.agg #[a8, a9, a10, a11]) W := by kernel_rfl
/-! The three dies, and the stints. -/
def sharpB (y : Int) (b : Blade) : Blade := ⟨b.fl, max b.fl (b.fh - y % 5), b.wl, max b.wl (b.wh - y % 3)⟩
def moreT (x y : Int) (t : Stint) : Stint := ⟨max 1 (t.n - y % 4), min 100000 (t.more + x % 6)⟩
theorem getD_of {α : Type} {l : List α} {k : Nat} (d : α) (hk : k < l.length) : l[k]? = some (l.getD k d) := by
  rw [List.getD_eq_getElem?_getD, List.getElem?_eq_getElem hk]; rfl
theorem sharp_mor {d d' : Die} {l : List Stint} (ok : OkD d) (okl : OkL l) {k : Nat} (hk : k < d.blades.length) {y : Int} (hb : d'.blades = d.blades.set k (sharpB y (bladeAt d k))) (h1 : d'.bound = d.bound) (h2 : d'.stop = d.stop) (h3 : d'.bend = d.bend) : Mor d d' l l := by
  have hl : d'.blades.length = d.blades.length := by rw [hb, List.length_set]
  have hy5 := Int.emod_nonneg y (b := 5) (by omega)
  have hy3 := Int.emod_nonneg y (b := 3) (by omega)
  have hs : ∀ b, OkB b → OkB (sharpB y b) := fun b h => ⟨by have := h.f; show 0 ≤ b.fl ∧ b.fl ≤ max b.fl (b.fh - y % 5) ∧ max b.fl (b.fh - y % 5) ≤ 10000; omega, by have := h.w; show 0 ≤ b.wl ∧ b.wl ≤ max b.wl (b.wh - y % 3) ∧ max b.wl (b.wh - y % 3) ≤ 10000; omega⟩
  have hat : ∀ j, j < d.blades.length → d'.blades.getD j ⟨0, 0, 0, 0⟩ = if j = k then sharpB y (bladeAt d k) else bladeAt d j := fun j hj => by
    rw [hb, List.getD_eq_getElem?_getD]
    by_cases e : j = k
    · subst e
      rw [List.getElem?_set_self hj, if_pos rfl]; rfl
    · rw [List.getElem?_set_ne (by omega), if_neg e, bladeAt_get hj]; rfl
  refine ⟨ok, okl, ⟨by rw [hl]; exact ok.nb, fun b hm => ?_, by rw [h1]; exact ok.bound, by rw [h2]; exact ok.stop, by rw [h3]; exact ok.bend⟩, okl, hl, ⟨fun j hj => by omega, fun j hj => ?_, fun j hj => ?_⟩, h2, h3, rfl, fun j hj => ?_⟩
  · rw [hb] at hm
    rcases List.mem_or_eq_of_mem_set hm with h | h
    · exact ok.bl b h
    · rw [h]; exact hs _ (ok.at hk)
  · rw [hat j (by omega)]
    show _ ≤ (bladeAt d j).fh
    by_cases e : j = k
    · subst e
      have := (ok.at hk).f
      rw [if_pos rfl]
      show max (bladeAt d j).fl ((bladeAt d j).fh - y % 5) ≤ _
      omega
    · rw [if_neg e]; exact Int.le_refl _
  · rw [hat j (by omega)]
    show _ ≤ (bladeAt d j).wh ∧ _
    by_cases e : j = k
    · subst e
      have := (ok.at hk).w
      rw [if_pos rfl]
      show max (bladeAt d j).wl ((bladeAt d j).wh - y % 3) ≤ _ ∧ 0 ≤ max (bladeAt d j).wl ((bladeAt d j).wh - y % 3)
      omega
    · rw [if_neg e]
      have := (ok.at (k := j) (by omega)).w
      exact ⟨Int.le_refl _, by omega⟩
  · have ht := okl.st (l.getD j ⟨0, 0⟩) (by rw [List.getD_eq_getElem?_getD, List.getElem?_eq_getElem hj]; exact List.getElem_mem hj)
    rw [h1]; omega
theorem loose_mor {d d' : Die} {l : List Stint} (ok : OkD d) (okl : OkL l) {y : Int} (hy : 0 ≤ y) (hb : d'.blades = d.blades) (h1 : d'.bound = min 100000 (d.bound + y)) (h2 : d'.stop = d.stop) (h3 : d'.bend = d.bend) : Mor d d' l l := by
  have hbd := ok.bound
  refine ⟨ok, okl, ⟨by rw [hb]; exact ok.nb, fun b hm => ok.bl b (by rw [← hb]; exact hm), by rw [h1]; omega, by rw [h2]; exact ok.stop, by rw [h3]; exact ok.bend⟩, okl, by rw [hb], by rw [hb]; exact Wear.refl ok.bl, h2, h3, rfl, fun j hj => ?_⟩
  have ht := okl.st (l.getD j ⟨0, 0⟩) (by rw [List.getD_eq_getElem?_getD, List.getElem?_eq_getElem hj]; exact List.getElem_mem hj)
  rw [h1]; omega
theorem short_mor {d : Die} {l : List Stint} (ok : OkD d) (okl : OkL l) {x y : Int} : Mor d d l (l.map (moreT x y)) := by
  have hy4 := Int.emod_nonneg y (b := 4) (by omega)
  have hx6 := Int.emod_nonneg x (b := 6) (by omega)
  have hm : ∀ t, (1 ≤ t.n ∧ t.n ≤ 1000 ∧ 0 ≤ t.more ∧ t.more ≤ 100000) → 1 ≤ (moreT x y t).n ∧ (moreT x y t).n ≤ t.n ∧ t.more ≤ (moreT x y t).more ∧ (moreT x y t).more ≤ 100000 := fun t h => by
    show 1 ≤ max 1 (t.n - y % 4) ∧ max 1 (t.n - y % 4) ≤ t.n ∧ t.more ≤ min 100000 (t.more + x % 6) ∧ min 100000 (t.more + x % 6) ≤ 100000
    omega
  refine ⟨ok, okl, ok, ⟨by rw [List.length_map]; exact okl.nl, fun t ht => ?_⟩, rfl, Wear.refl ok.bl, rfl, rfl, by rw [List.length_map], fun j hj => ?_⟩
  · obtain ⟨u, hu, rfl⟩ := List.mem_map.1 ht
    have h1 := okl.st u hu
    have h2 := hm u h1
    omega
  · have h1 := okl.st (l.getD j ⟨0, 0⟩) (by rw [List.getD_eq_getElem?_getD, List.getElem?_eq_getElem hj]; exact List.getElem_mem hj)
    have h2 := hm _ h1
    rw [show (l.map (moreT x y)).getD j ⟨0, 0⟩ = moreT x y (l.getD j ⟨0, 0⟩) by rw [List.getD_eq_getElem?_getD, List.getElem?_map, List.getElem?_eq_getElem hj, List.getD_eq_getElem?_getD, List.getElem?_eq_getElem hj]; rfl]
    omega
theorem mor_all {d d' : Die} {l l' : List Stint} (h : Mor d d' l l') {x : Pl} (hb : bestD d l = some x) : followS d' l' (x.1.tail.map Int.ofNat) = (x.2, (l'.length : Int), 0, 0) ∧ ∃ x' : Pl, planS d' l' = (x'.1.tail, x'.2, 0) ∧ x'.2 ≤ x.2 ∧ proofR d' l' = (proofS d'.blades d'.bound l', 0) ∧ (proofS d'.blades d'.bound l').length ≤ (proofS d.blades d.bound l).length := by
  obtain ⟨h1, ⟨x', h2, h3⟩, -, h5⟩ := h.best hb
  obtain ⟨h6, h7⟩ := ans_some h.ok' h.okl' h2
  exact ⟨h1, x', h6, h3, h7, h5⟩
/-- The stints of which the first are made more. -/
def moreL (x y : Int) (i : Nat) (l : List Stint) : List Stint := (l.take i).map (moreT x y) ++ l.drop i
theorem moreL_zero (x y : Int) (l : List Stint) : moreL x y 0 l = l := by unfold moreL; simp
theorem moreL_all (x y : Int) (l : List Stint) : moreL x y l.length l = l.map (moreT x y) := by unfold moreL; simp
theorem moreL_get {x y : Int} {i : Nat} {l : List Stint} (hi : i < l.length) : (moreL x y i l)[i]? = some (l.getD i ⟨0, 0⟩) := by
  unfold moreL
  rw [List.getElem?_append_right (by rw [List.length_map, List.length_take]; omega), List.length_map, List.length_take, List.getElem?_drop, show i + (i - min i l.length) = i by omega]
  exact getD_of _ hi
theorem moreL_set {x y : Int} {i : Nat} {l : List Stint} (hi : i < l.length) : (moreL x y i l).set i (moreT x y (l.getD i ⟨0, 0⟩)) = moreL x y (i + 1) l := by
  unfold moreL
  rw [List.set_append_right _ _ (by rw [List.length_map, List.length_take]; omega), List.length_map, List.length_take, show i - min i l.length = 0 by omega, List.drop_eq_getElem_cons hi, List.set_cons_zero, List.take_add_one, List.getElem?_eq_getElem hi, List.getD_eq_getElem?_getD, List.getElem?_eq_getElem hi, List.map_append, List.append_assoc]
  rfl
theorem moreL_len (x y : Int) (i : Nat) (l : List Stint) : (moreL x y i l).length = l.length := by
  unfold moreL; rw [List.length_append, List.length_map, List.length_take, List.length_drop]; omega
end Go.Proofs.YtbhkglokdomajaaDoor
