import Derived.Test.YtfffhbolaimmdaaDoorC2
import Derived.Test.YtfffhbolaimmdaaDoorQ6
import Derived.Test.YtfffhbolaimmdaaDoorG0
import Derived.BigQuiet
import Derived.Deep.DeepCutAuto
namespace Go.Proofs.YtfffhbolaimmdaaDoor
open Go.RowKit
theorem addr_add (b o j : Nat) : (⟨b, o, none⟩ : Addr).add j = ⟨b, o + j, none⟩ := by unfold Addr.add; split <;> simp_all
theorem flat_split {α : Type} {size : Nat} {cells : α → List Value} (hs : ∀ x, (cells x).length = size) : ∀ (l : List α) (j : Nat) (u : Value), (l.flatMap cells)[j]? = some u → ∃ k r x, j = k * size + r ∧ l[k]? = some x ∧ (cells x)[r]? = some u
  | [], j, u, h => by simp at h
  | x :: l, j, u, h => by
    rw [List.flatMap_cons] at h
    by_cases hj : j < size
    · rw [List.getElem?_append_left (by rw [hs]; exact hj)] at h
      exact ⟨0, j, x, by omega, rfl, h⟩
    · rw [List.getElem?_append_right (by rw [hs]; omega), hs] at h
      obtain ⟨k, r, y, e, h1, h2⟩ := flat_split hs l _ u h
      exact ⟨k + 1, r, y, by rw [Nat.succ_mul]; omega, h1, h2⟩
theorem flat_len {α : Type} {size : Nat} {cells : α → List Value} (hs : ∀ x, (cells x).length = size) (l : List α) : (l.flatMap cells).length = l.length * size := by
  induction l with
  | nil => simp
  | cons x l ih => rw [List.flatMap_cons, List.length_append, ih, hs, List.length_cons, Nat.succ_mul]; omega
theorem at_flat {α : Type} {size : Nat} {cells : α → List Value} (hs : ∀ x, (cells x).length = size) {W : World} {B b o : Nat} {l : List α} (h : At W B size cells (some ⟨b, o, none⟩) l) : ∀ j u, (l.flatMap cells)[j]? = some u → W.cell? ((⟨b, o, none⟩ : Addr).add j) = some u := by
  intro j u hj
  obtain ⟨k, r, x, e, h1, h2⟩ := flat_split hs l j u hj
  obtain ⟨b', o', e', -, hc⟩ := h k x h1
  injection e' with e'
  injection e' with e1 e2
  subst e1 e2
  rw [addr_add, e]
  have := hc r u h2
  rw [← this]; congr 2; omega
theorem own_at {α : Type} {size : Nat} {cells : α → List Value} (hs : ∀ x, (cells x).length = size) {W : World} {base n g cap : Nat} {e : TypeId} {l : List α} (h : W.ownsRow base e size (.slice (some ⟨g, 0, none⟩) n cap) n (l.flatMap cells)) : At W W.heap.size size cells (some ⟨g, 0, none⟩) l := by
  obtain ⟨A, c, hv, hc⟩ := own_form h
  injection hv with hv _ _
  intro k x hx
  refine ⟨g, 0, rfl, (h.lt g rfl).2, fun j u hu => ?_⟩
  obtain ⟨b, hA, -, -, h1⟩ := hc (k * size + j) u (flat_get hs l k j x u hx hu)
  rw [← hv] at hA
  injection hA with hA
  injection hA with hA
  subst hA
  rw [← h1]; congr 2; omega
theorem row_five {W : World} {g : Nat} {a b c d f : Value} {t : TypeId} {fr : Nat × Nat} (h : W.heap[g]? = some (.cells #[a, b, c, d, f] t fr)) : ∀ j u, [a, b, c, d, f][j]? = some u → W.cell? ((⟨g, 0, none⟩ : Addr).add j) = some u := by
  intro j u hj
  rw [addr_add, Nat.zero_add, cell_of_row W g _ _ _ _ h]
  simpa using hj
theorem sz_drewA (W : World) : W.drew.heap.size = W.heap.size := rfl
theorem lt_heapA {W : World} {b : Nat} {x : Obj} (h : W.heap[b]? = some x) : b < W.heap.size := (Array.getElem?_eq_some_iff.1 h).1
theorem al_newA {V W : World} (_ : Below V.heap.size V W) (o : Obj) : (W.alloc o).heap[W.heap.size]? = some o := heap_alloc_new W o
theorem al_oldA {W : World} {b : Nat} {x : Obj} (h : W.heap[b]? = some x) (o : Obj) : (W.alloc o).heap[b]? = some x := (Below.heap_alloc _ _ _ (lt_heapA h)).trans h
theorem own_empty {V W : World} (h : Below V.heap.size V W) (e : TypeId) (size : Nat) : (W.alloc (.cells #[] e)).ownsRow V.heap.size e size (.slice (some ⟨W.heap.size, 0, none⟩) 0 0) 0 [] := World.ownsRow_made W #[] 0 h.size (by unfold maxLen; omega) (by simp)
theorem grow_below {V W W' : World} {v : Value} (h : Below V.heap.size V W) (hg : W.grownBy W' v.ownBlock) (hr : ∀ k, v.ownBlock = some k → V.heap.size ≤ k) : Below V.heap.size V W' := h.grown hg h.size hr
theorem wish_len (x : Wish) : x.cells.length = 5 := rfl
theorem wish_info : (Tryd.prog.info? 57).map (fun i => (i.zero, i.size, i.bytes)) = some (some (.agg #[.int .i64 0, .int .i64 0, .int .i64 0, .int .i64 0, .int .i64 0]), 5, 40) := by kernel_rfl
theorem cell_set {W : World} {g o : Nat} {v u : Value} (h : W.cell? ⟨g, o, none⟩ = some u) (p : Nat) : (W.setCell ⟨g, o, none⟩ v).cell? ⟨g, p, none⟩ = if p = o then some v else W.cell? ⟨g, p, none⟩ := by
  by_cases e : p = o
  · subst e; rw [if_pos rfl]; exact World.cell?_setCell_same' _ _ _ (by rw [h]; rfl)
  · rw [if_neg e]; exact World.cell?_setCell_other _ _ _ _ (by intro e'; injection e' with _ e2; exact e e2.symm)
theorem own_setCellA {w : World} {base : Nat} {e : TypeId} {size : Nat} {v : Value} {n : Nat} {xs : List Value} (h : w.ownsRow base e size v n xs) {b : Nat} (hb : b < base) (o : Nat) (x : Value) : (w.setCell ⟨b, o, none⟩ x).ownsRow base e size v n xs := by
  refine ⟨h.1, h.2.imp id ?_⟩
  rintro ⟨g, cap, cur, hv, hg, hh, r⟩
  exact ⟨g, cap, cur, hv, hg, by unfold World.setCell; rw [Array.getElem?_modify, if_neg (by show ¬ b = g; omega)]; exact hh, r⟩
theorem row_grown {W W' : World} {b c o n k : Nat} {x : Obj} (hg : W.grownBy W' (Value.slice (some ⟨c, o, none⟩) n k).ownBlock) (h : W.heap[b]? = some x) (hne : b ≠ c) : W'.heap[b]? = some x := (hg.block b (lt_heapA h) (by intro e; exact hne (Option.some.inj e))).trans h
theorem at_five {W : World} {B g : Nat} {l : List Wish} (h : At W B 5 Wish.cells (some ⟨g, 0, none⟩) l) {k : Nat} {y : Wish} (hk : l[k]? = some y) : W.cell? ⟨g, k * 5, none⟩ = some (.int .i64 y.puz) ∧ W.cell? ⟨g, k * 5 + 1, none⟩ = some (.int .i64 y.many) ∧ W.cell? ⟨g, k * 5 + 2, none⟩ = some (.int .i64 y.hour) ∧ W.cell? ⟨g, k * 5 + 3, none⟩ = some (.int .i64 y.price) ∧ W.cell? ⟨g, k * 5 + 4, none⟩ = some (.int .i64 y.ship) := by
  obtain ⟨b', o', e', -, hc⟩ := h k y hk
  injection e' with e'
  injection e' with e1 e2
  subst e1 e2
  simp only [Nat.zero_add] at hc
  exact ⟨hc 0 _ rfl, hc 1 _ rfl, hc 2 _ rfl, hc 3 _ rfl, hc 4 _ rfl⟩
theorem own_row {W : World} {base g n cap size : Nat} {e : TypeId} {xs : List Value} (h : W.ownsRow base e size (.slice (some ⟨g, 0, none⟩) n cap) n xs) (hn : 0 < n) : ∃ cur, W.heap[g]? = some (.cells cur e (0, 0)) := by
  rcases h.2 with ⟨-, h0⟩ | ⟨g', c', cur, hv, -, hh, -⟩
  · omega
  · injection hv with hv _ _
    injection hv with hv
    injection hv with hv
    subst hv
    exact ⟨cur, hh⟩
def set5 (W : World) (g o : Nat) (y : Wish) : World := ((((W.setCell ⟨g, o, none⟩ (.int .i64 y.puz)).setCell ⟨g, o + 1, none⟩ (.int .i64 y.many)).setCell ⟨g, o + 2, none⟩ (.int .i64 y.hour)).setCell ⟨g, o + 3, none⟩ (.int .i64 y.price)).setCell ⟨g, o + 4, none⟩ (.int .i64 y.ship)
theorem set5_cell {W : World} {g o : Nat} {y z : Wish} (h0 : W.cell? ⟨g, o, none⟩ = some (.int .i64 z.puz)) (h1 : W.cell? ⟨g, o + 1, none⟩ = some (.int .i64 z.many)) (h2 : W.cell? ⟨g, o + 2, none⟩ = some (.int .i64 z.hour)) (h3 : W.cell? ⟨g, o + 3, none⟩ = some (.int .i64 z.price)) (h4 : W.cell? ⟨g, o + 4, none⟩ = some (.int .i64 z.ship)) (p : Nat) :
    (set5 W g o y).cell? ⟨g, p, none⟩ = if p = o + 4 then some (.int .i64 y.ship) else if p = o + 3 then some (.int .i64 y.price) else if p = o + 2 then some (.int .i64 y.hour) else if p = o + 1 then some (.int .i64 y.many) else if p = o then some (.int .i64 y.puz) else W.cell? ⟨g, p, none⟩ := by
  have k1 := cell_set (v := .int .i64 y.puz) h0
  have e1 := (k1 (o + 1)).trans ((if_neg (by omega)).trans h1)
  have k2 := cell_set (v := .int .i64 y.many) e1
  have e2 := (k2 (o + 2)).trans ((if_neg (by omega)).trans ((k1 (o + 2)).trans ((if_neg (by omega)).trans h2)))
  have k3 := cell_set (v := .int .i64 y.hour) e2
  have e3 := (k3 (o + 3)).trans ((if_neg (by omega)).trans ((k2 (o + 3)).trans ((if_neg (by omega)).trans ((k1 (o + 3)).trans ((if_neg (by omega)).trans h3)))))
  have k4 := cell_set (v := .int .i64 y.price) e3
  have e4 := (k4 (o + 4)).trans ((if_neg (by omega)).trans ((k3 (o + 4)).trans ((if_neg (by omega)).trans ((k2 (o + 4)).trans ((if_neg (by omega)).trans ((k1 (o + 4)).trans ((if_neg (by omega)).trans h4)))))))
  have k5 := cell_set (v := .int .i64 y.ship) e4
  unfold set5
  rw [k5, k4, k3, k2, k1]
theorem set5_below {W V : World} {B g o : Nat} {y : Wish} (h : Below B V W) (hg : B ≤ g) : Below B V (set5 W g o y) := ((((h.setCell hg _).setCell hg _).setCell hg _).setCell hg _).setCell hg _
theorem set5_row {W : World} {g o b : Nat} {y : Wish} {x : Obj} (h : W.heap[b]? = some x) (hne : g ≠ b) : (set5 W g o y).heap[b]? = some x := by
  have k : ∀ (U : World) (q : Nat) (u : Value), U.heap[b]? = some x → (U.setCell ⟨g, q, none⟩ u).heap[b]? = some x := fun U q u hU => by
    unfold World.setCell; rw [Array.getElem?_modify, if_neg (by show ¬ g = b; exact hne)]; exact hU
  exact k _ _ _ (k _ _ _ (k _ _ _ (k _ _ _ (k _ _ _ h))))
theorem at_set5 {W : World} {B g i : Nat} {l : List Wish} {y z : Wish} (h : At W B 5 Wish.cells (some ⟨g, 0, none⟩) l) (hz : l[i]? = some z) : At (set5 W g (i * 5) y) B 5 Wish.cells (some ⟨g, 0, none⟩) (l.set i y) := by
  obtain ⟨h0, h1, h2, h3, h4⟩ := at_five h hz
  have hs := set5_cell (y := y) h0 h1 h2 h3 h4
  have hi := (List.getElem?_eq_some_iff.1 hz).1
  obtain ⟨bb, ob, eb, hlt, -⟩ := h i z hz
  injection eb with eb
  injection eb with eb1 eb2
  subst eb1 eb2
  intro k x hk
  refine ⟨g, 0, rfl, hlt, fun j u hu => ?_⟩
  have hj : j < 5 := (List.getElem?_eq_some_iff.1 hu).1
  rw [Nat.zero_add, hs]
  rw [List.getElem?_set] at hk
  by_cases e : i = k
  · subst e
    rw [if_pos rfl, if_pos hi] at hk
    obtain rfl := Option.some.inj hk
    match j, hj, hu with
    | 0, _, hu => rw [if_neg (by omega), if_neg (by omega), if_neg (by omega), if_neg (by omega), if_pos (by omega)]; exact hu
    | 1, _, hu => rw [if_neg (by omega), if_neg (by omega), if_neg (by omega), if_pos (by omega)]; exact hu
    | 2, _, hu => rw [if_neg (by omega), if_neg (by omega), if_pos (by omega)]; exact hu
    | 3, _, hu => rw [if_neg (by omega), if_pos (by omega)]; exact hu
    | 4, _, hu => rw [if_pos (by omega)]; exact hu
  · rw [if_neg e] at hk
    obtain ⟨b', o', e', -, hc⟩ := h k x hk
    injection e' with e'
    injection e' with e1 e2
    subst e1 e2
    rw [if_neg (by omega), if_neg (by omega), if_neg (by omega), if_neg (by omega), if_neg (by omega)]
    have := hc j u hu
    rwa [Nat.zero_add] at this
theorem row_set1 {w : World} {g : Nat} {a b c d f : Value} {t : TypeId} {fr : Nat × Nat} (h : w.heap[g]? = some (.cells #[a, b, c, d, f] t fr)) (x : Value) : (w.setCell ⟨g, 1, none⟩ x).heap[g]? = some (.cells #[a, x, c, d, f] t fr) := by
  unfold World.setCell; rw [Array.getElem?_modify, if_pos rfl, h]; rfl
theorem row_set4 {w : World} {g : Nat} {a b c d f : Value} {t : TypeId} {fr : Nat × Nat} (h : w.heap[g]? = some (.cells #[a, b, c, d, f] t fr)) (x : Value) : (w.setCell ⟨g, 4, none⟩ x).heap[g]? = some (.cells #[a, b, c, d, x] t fr) := by
  unfold World.setCell; rw [Array.getElem?_modify, if_pos rfl, h]; rfl
theorem row_set3 {w : World} {g : Nat} {a b c d : Value} {t : TypeId} {fr : Nat × Nat} (h : w.heap[g]? = some (.cells #[a, b, c, d] t fr)) (x : Value) : (w.setCell ⟨g, 3, none⟩ x).heap[g]? = some (.cells #[a, b, c, x] t fr) := by
  unfold World.setCell; rw [Array.getElem?_modify, if_pos rfl, h]; rfl
theorem row_set_other {w : World} {g b : Nat} {o : Obj} (h : w.heap[g]? = some o) (hne : b ≠ g) (i : Nat) (x : Value) : (w.setCell ⟨b, i, none⟩ x).heap[g]? = some o := by
  unfold World.setCell; rw [Array.getElem?_modify, if_neg (by show ¬ b = g; exact hne)]; exact h
/-- What the longer list of orders leaves. -/
def SplitR (s : Store) (V3 V6 : World) (pz a ho pr sp mn : Int) (g12 : Nat) (W : World) : Prop := ∃ g cap, Below V3.heap.size V3 W ∧ V6.heap.size ≤ g ∧ W.heap[V3.heap.size]? = some (.cells #[.int .i64 pz, .int .i64 a, .int .i64 ho, .int .i64 pr, .int .i64 sp] 57 (0, 0)) ∧
  W.heap[g12]? = some (.cells #[.slice s.A1 s.sheets.length s.c1, .slice s.A2 s.lics.length s.c2, .slice s.A3 s.makes.length s.c3, .slice (some ⟨g, 0, none⟩) (s.wishes.length + 1) cap] 27 (0, 0)) ∧
  W.ownsRow V6.heap.size 57 5 (.slice (some ⟨g, 0, none⟩) (s.wishes.length + 1) cap) (s.wishes.length + 1) ((s.wishes ++ [(⟨pz, mn - a, ho, pr, 0⟩ : Wish)]).flatMap Wish.cells)
theorem below_drew {B : Nat} {a w : World} (h : Below B a w) : Below B a w.drew := h.drew
theorem shl_w3 {s : Store} (ok : Ok s) : wrap64 (2 ^ s.wishes.length) = ((2 ^ s.wishes.length : Nat) : Int) := by
  have h := ok.nw
  have hp : 2 ^ s.wishes.length ≤ 2 ^ 9 := Nat.pow_le_pow_right (by omega) h
  rw [show ((2 : Int) ^ s.wishes.length) = ((2 ^ s.wishes.length : Nat) : Int) by rw [Int.natCast_pow]; rfl]
  generalize 2 ^ s.wishes.length = q at *
  simp only [wrap64]
  omega
structure SWk (s x : Store) (bs b5 : Nat) (W : World) : Prop where
  aw : AwW s bs W
  x5 : SBox W b5 x
  s5 : StoreAt W W.heap.size x
theorem SWk.next {s x : Store} {bs b5 : Nat} {W W' : World} (h : SWk s x bs b5 W) (hb : Below W.heap.size W W') : SWk s x bs b5 W' := ⟨h.aw.next hb, h.x5.next hb, h.s5.next hb⟩
set_option maxRecDepth 100000
section
variable {s x : Store} {i set y : Nat} {a : Int} (h : SpH s i a x) (hset : set < 2 ^ s.wishes.length) (hy : y = bothS s i set) (W : World)
include h hset
theorem split14s (hr : StoreAt W W.heap.size s) (he : Env W) : Calls Tryd.prog 14 #[.agg #[.slice s.A1 s.sheets.length s.c1, .slice s.A2 s.lics.length s.c2, .slice s.A3 s.makes.length s.c3, .slice s.A4 s.wishes.length s.c4], .int .i64 (set : Nat)] W (RetL1 s.sheets.length (takeS s set) 0 W) := by
  have e : RetL1 (lenIf (checkS s (set : Nat)) s.sheets.length) (takeS s ((set : Nat) : Int).toNat) (checkS s (set : Nat)) W = RetL1 s.sheets.length (takeS s set) 0 W := by rw [check_in h.ok hset]; rfl
  rw [← e]; exact Takes14_any s (set : Nat) W hr he
include hy
theorem split_y : acceptedS x (y : Nat) = acceptedS s (set : Nat) ∧ checkS x (y : Nat) = 0 ∧ x.sheets.length = s.sheets.length := by
  have hy2 : y < 2 ^ x.wishes.length := by rw [hy, h.sp.nw]; exact both_lt hset
  exact ⟨by rw [hy]; exact h.accepted hset, check_in h.okx hy2, by rw [h.sp.ns.1]⟩
theorem split14x (hr : StoreAt W W.heap.size x) (he : Env W) : Calls Tryd.prog 14 #[.agg #[.slice x.A1 x.sheets.length x.c1, .slice x.A2 x.lics.length x.c2, .slice x.A3 x.makes.length x.c3, .slice x.A4 x.wishes.length x.c4], .int .i64 (y : Nat)] W (RetL1 s.sheets.length (takeS s set) 0 W) := by
  obtain ⟨h1, h2, h3⟩ := split_y h hset hy
  have e : RetL1 (lenIf (checkS x (y : Nat)) x.sheets.length) (takeS x ((y : Nat) : Int).toNat) (checkS x (y : Nat)) W = RetL1 s.sheets.length (takeS s set) 0 W := by
    rw [h2, h3, show takeS x ((y : Nat) : Int).toNat = takeS s set by funext k; rw [show ((y : Nat) : Int).toNat = y from rfl, hy]; exact h.take hset k]; rfl
  rw [← e]; exact Takes14_any x (y : Nat) W hr he
theorem split16x (hr : StoreAt W W.heap.size x) (he : Env W) : ∃ m, Calls Tryd.prog 16 #[.agg #[.slice x.A1 x.sheets.length x.c1, .slice x.A2 x.lics.length x.c2, .slice x.A3 x.makes.length x.c3, .slice x.A4 x.wishes.length x.c4], .int .i64 (y : Nat)] W (Ret2 (.int .i64 m) (.int .i64 (acceptedS s (set : Nat))) W) := by
  obtain ⟨h1, h2, h3⟩ := split_y h hset hy
  have := May16_any x (y : Nat) W hr he
  rw [h1] at this; exact ⟨_, this⟩
theorem split19x (hr : StoreAt W W.heap.size x) (he : Env W) : Calls Tryd.prog 19 #[.agg #[.slice x.A1 x.sheets.length x.c1, .slice x.A2 x.lics.length x.c2, .slice x.A3 x.makes.length x.c3, .slice x.A4 x.wishes.length x.c4], .int .i64 (y : Nat)] W (RetL2 (lenIf (acceptedS s (set : Nat)) s.sheets.length) (lacksS s set) (acceptedS s (set : Nat)) W) := by
  obtain ⟨h1, h2, h3⟩ := split_y h hset hy
  have e : RetL2 (lenIf (acceptedS x (y : Nat)) x.sheets.length) (lacksS x ((y : Nat) : Int).toNat) (acceptedS x (y : Nat)) W = RetL2 (lenIf (acceptedS s (set : Nat)) s.sheets.length) (lacksS s set) (acceptedS s (set : Nat)) W := by
    rw [h1, h3, show lacksS x ((y : Nat) : Int).toNat = lacksS s set by rw [show ((y : Nat) : Int).toNat = y from rfl, hy]; exact h.lacks hset]
  rw [← e]; exact Lacks19_any x (y : Nat) W hr he
theorem split23x (hr : StoreAt W W.heap.size x) (he : Env W) : Calls Tryd.prog 23 #[.agg #[.slice x.A1 x.sheets.length x.c1, .slice x.A2 x.lics.length x.c2, .slice x.A3 x.makes.length x.c3, .slice x.A4 x.wishes.length x.c4], .int .i64 (y : Nat)] W (RetP (profitS s (set : Nat)) (acceptedS s (set : Nat)) W) := by
  obtain ⟨h1, h2, h3⟩ := split_y h hset hy
  have := Profit23_any x (y : Nat) W hr he
  rw [h1, show profitS x (y : Nat) = profitS s (set : Nat) by rw [hy]; exact h.profit hset] at this; exact this
end
set_option maxRecDepth 100000 in
set_option maxHeartbeats 4000000 in
theorem StockSplit_walk (s : Store) (st wh ta : Int) (w : World) (hr : StoreAt w w.heap.size s) (he : Env w) (wf2 : (Lit.int .u16 wh).wf = true) (wf3 : (Lit.int .u16 ta).wf = true) : Calls Tryd.prog 11 #[.agg #[.slice s.A1 s.sheets.length s.c1, .slice s.A2 s.lics.length s.c2, .slice s.A3 s.makes.length s.c3, .slice s.A4 s.wishes.length s.c4], .int .i64 st, .int .u16 wh, .int .u16 ta] w (Ret (.bool true) w) := by
  have K1 := Lib.hid (AwW.start hr he 27)
  have B1 := Lib.hid (nxA w (.cells #[.slice s.A1 s.sheets.length s.c1, .slice s.A2 s.lics.length s.c2, .slice s.A3 s.makes.length s.c3, .slice s.A4 s.wishes.length s.c4] 27))
  obtain ⟨wn, rfl, hwn⟩ : ∃ q : Nat, wh = (q : Int) ∧ q < 65536 := by
    simp [Lit.wf, IntKind.min, IntKind.max, IntKind.bits, IntKind.signed] at wf2
    exact ⟨wh.toNat, by omega, by omega⟩
  obtain ⟨tn, rfl, htn⟩ : ∃ q : Nat, ta = (q : Int) ∧ q < 65536 := by
    simp [Lit.wf, IntKind.min, IntKind.max, IntKind.bits, IntKind.signed] at wf3
    exact ⟨ta.toNat, by omega, by omega⟩
  clear hr he wf2 wf3
  have p0 := True.intro
  have p1 := True.intro
  have p2 := True.intro
  have p3 := True.intro
  go_enter Tryd.func11, Tryd.ntmps11
  go_wp2_with fail
  generalize (w.alloc (.cells #[.slice s.A1 s.sheets.length s.c1, .slice s.A2 s.lics.length s.c2, .slice s.A3 s.makes.length s.c3, .slice s.A4 s.wishes.length s.c4] 27)) = V1 at *
  refine (far_any s V1 K1.out.st).mono ?_
  rintro e V2 ⟨rfl, hb⟩
  have K2 := Lib.hid (K1.out.next hb)
  have B2 := Lib.hid (B1.out.trans (hb.mono B1.out.size))
  clear hb K1 B1 p0 p1 p2 p3
  obtain ⟨-, -, -, p0, p1, p2, p3⟩ := id K2.out
  cases hf : farS s
  · clear hf
    go_wp2_with fail
    refine (Store_any s V2 K2.out.st).mono ?_
    rintro e V3 ⟨rfl, hb⟩
    have K3 := Lib.hid (K2.out.next hb)
    have B3 := Lib.hid (B2.out.trans (hb.mono B2.out.size))
    clear hb K2 B2 p0 p1 p2 p3
    obtain ⟨-, -, -, p0, p1, p2, p3⟩ := id K3.out
    cases hs : storeS s
    · clear hs
      go_wp2_with fail
      refine (awake_any V3 K3.out.en).mono ?_
      rintro e VZ ⟨rfl, hb⟩
      have BZ := Lib.hid (B3.out.trans (hb.mono B3.out.size))
      clear hb
      go_wp2
      go_ret
      exact ⟨rfl, BZ.out⟩
    · have Hok := Lib.hid ((ok_iff s).1 hs)
      clear hs
      have hn9 := Hok.out.nw
      by_cases hn0 : s.wishes.length = 0
      · go_wp2_with fail
        refine (awake_any V3 K3.out.en).mono ?_
        rintro e VZ ⟨rfl, hb⟩
        have BZ := Lib.hid (B3.out.trans (hb.mono B3.out.size))
        clear hb
        go_wp2
        go_ret
        exact ⟨rfl, BZ.out⟩
      by_cases hn8 : 9 ≤ s.wishes.length
      · have d1 : decide ((9 : Int) ≤ (s.wishes.length : Int)) = true := by simp; omega
        go_wp2_with fail
        refine (awake_any V3 K3.out.en).mono ?_
        rintro e VZ ⟨rfl, hb⟩
        have BZ := Lib.hid (B3.out.trans (hb.mono B3.out.size))
        clear hb
        go_wp2
        go_ret
        exact ⟨rfl, BZ.out⟩
      have d1 : decide ((9 : Int) ≤ (s.wishes.length : Int)) = false := by simp; omega
      by_cases hneg : st < 0
      · have d2 : decide (st < 0) = true := by simpa using hneg
        go_wp2_with fail
        refine (awake_any V3 K3.out.en).mono ?_
        rintro e VZ ⟨rfl, hb⟩
        have BZ := Lib.hid (B3.out.trans (hb.mono B3.out.size))
        clear hb
        go_wp2
        go_ret
        exact ⟨rfl, BZ.out⟩
      have d2 : decide (st < 0) = false := by simpa using hneg
      obtain ⟨set, rfl⟩ := Int.eq_ofNat_of_zero_le (by omega : 0 ≤ st)
      have sh := shl_w3 Hok.out
      obtain ⟨P2, hP2⟩ : ∃ P2 : Nat, P2 = 2 ^ s.wishes.length := ⟨_, rfl⟩
      rw [← hP2] at sh
      have HP2 := Lib.hid hP2
      have hp9 : P2 ≤ 2 ^ 9 := by rw [hP2]; exact Nat.pow_le_pow_right (by omega) hn9
      clear hP2
      by_cases hge : P2 ≤ set
      · have d3 : decide (P2 ≤ set) = true := by simpa using hge
        go_wp2_with fail
        refine (awake_any V3 K3.out.en).mono ?_
        rintro e VZ ⟨rfl, hb⟩
        have BZ := Lib.hid (B3.out.trans (hb.mono B3.out.size))
        clear hb
        go_wp2
        go_ret
        exact ⟨rfl, BZ.out⟩
      have d3 : decide (P2 ≤ set) = false := by simpa using hge
      have hwm : wn % s.wishes.length < s.wishes.length := Nat.mod_lt _ (by omega)
      have htm : (wn : Int).tmod (s.wishes.length : Int) = ((wn % s.wishes.length : Nat) : Int) := by rw [Int.tmod_eq_emod_of_nonneg (by omega)]; exact (Int.natCast_emod wn s.wishes.length).symm
      generalize wn % s.wishes.length = i at hwm htm
      obtain ⟨bw, ow, e4, hbw, c0, c1, c2, c3, c4⟩ := K3.out.st.wishC hwm
      rw [e4] at p3
      have E4 := Lib.hid e4
      have HW := Lib.hid (Hok.out.wishOk hwm)
      obtain ⟨⟨pz, mn, ho, pr, sp⟩, ew⟩ : ∃ y, wishAt s i = y := ⟨_, rfl⟩
      rw [ew] at c0 c1 c2 c3 c4 HW
      dsimp only at c0 c1 c2 c3 c4 HW
      have hmn := HW.out.2.2
      have EW := Lib.hid ew
      clear e4 ew
      by_cases hm2 : mn < 2
      · have d4 : decide (mn < 2) = true := by simpa using hm2
        go_wp2_with fail
        have hb2 := nxA V3 (.cells #[.int .i64 pz, .int .i64 mn, .int .i64 ho, .int .i64 pr, .int .i64 sp] 57)
        refine (awake_any _ (K3.out.next hb2).en).mono ?_
        rintro e VZ ⟨rfl, hb⟩
        have BZ := Lib.hid (B3.out.trans ((hb2.trans (hb.mono hb2.size)).mono B3.out.size))
        clear hb hb2
        go_wp2
        go_ret
        exact ⟨rfl, BZ.out⟩
      have d4 : decide (mn < 2) = false := by simpa using hm2
      obtain ⟨a, hA, ha1, ha2⟩ : ∃ a : Int, wrap64 (1 + (tn : Int) % (mn - 1)) = a ∧ 1 ≤ a ∧ a < mn := by
        have r0 := Int.emod_nonneg (tn : Int) (b := mn - 1) (by omega)
        have r1 := Int.emod_lt_of_pos (tn : Int) (b := mn - 1) (by omega)
        exact ⟨1 + (tn : Int) % (mn - 1), IntWalk.wrap64_in _ ⟨by omega, by omega⟩, by omega, by omega⟩
      go_wp2_with fail
      have hB4 := (nxA V3 (.cells #[.int .i64 pz, .int .i64 a, .int .i64 ho, .int .i64 pr, .int .i64 sp] 57)).alloc (by simp) (.cells #[.int .i64 pz, .int .i64 mn, .int .i64 ho, .int .i64 pr, .int .i64 sp] 57)
      have r10 : ((V3.alloc (.cells #[.int .i64 pz, .int .i64 a, .int .i64 ho, .int .i64 pr, .int .i64 sp] 57)).alloc (.cells #[.int .i64 pz, .int .i64 mn, .int .i64 ho, .int .i64 pr, .int .i64 sp] 57)).heap[V3.heap.size]? = some (.cells #[.int .i64 pz, .int .i64 a, .int .i64 ho, .int .i64 pr, .int .i64 sp] 57 (0, 0)) := (Below.heap_alloc _ _ _ (by simp)).trans (heap_alloc_new' rfl)
      have r11 : ((V3.alloc (.cells #[.int .i64 pz, .int .i64 a, .int .i64 ho, .int .i64 pr, .int .i64 sp] 57)).alloc (.cells #[.int .i64 pz, .int .i64 mn, .int .i64 ho, .int .i64 pr, .int .i64 sp] 57)).heap[V3.heap.size + 1]? = some (.cells #[.int .i64 pz, .int .i64 mn, .int .i64 ho, .int .i64 pr, .int .i64 sp] 57 (0, 0)) := heap_alloc_new' (by simp)
      have hz4 : ((V3.alloc (.cells #[.int .i64 pz, .int .i64 a, .int .i64 ho, .int .i64 pr, .int .i64 sp] 57)).alloc (.cells #[.int .i64 pz, .int .i64 mn, .int .i64 ho, .int .i64 pr, .int .i64 sp] 57)).heap.size = V3.heap.size + 1 + 1 := by simp
      generalize (V3.alloc (.cells #[.int .i64 pz, .int .i64 a, .int .i64 ho, .int .i64 pr, .int .i64 sp] 57)).alloc (.cells #[.int .i64 pz, .int .i64 mn, .int .i64 ho, .int .i64 pr, .int .i64 sp] 57) = V4 at *
      have hz3 : w.heap.size < V3.heap.size := K3.out.bx.lt
      have hp3 := Lib.hid p3
      have HS := Lib.hid (show ∀ W : World, (∀ b o, b ≤ V3.heap.size → W.cell? ⟨b, o, none⟩ = V4.cell? ⟨b, o, none⟩) → (W.cell? ⟨w.heap.size, 3, none⟩ = some (.slice (some ⟨bw, ow, none⟩) s.wishes.length s.c4) ∧ W.cell? ⟨bw, ow + i * 5 + 1, none⟩ = some (.int .i64 mn) ∧ W.cell? ⟨V3.heap.size, 1, none⟩ = some (.int .i64 a)) from fun W h =>
        ⟨(h _ _ (by omega)).trans (((bcell hB4).1 _ _ hz3).trans p3), (h _ _ (by omega)).trans (((bcell hB4).1 _ _ hbw).trans c1), (h _ _ (Nat.le_refl _)).trans (by rw [cell_of_row V4 _ 1 _ _ _ r10]; rfl)⟩)
      have v1 : V4.cell? ⟨V3.heap.size + 1, 1, none⟩ = some (.int .i64 mn) := by rw [cell_of_row V4 _ 1 _ _ _ r11]; rfl
      have f1 : V4.frozen? ⟨V3.heap.size + 1, 1, none⟩ = false := frozen_of_row V4 _ 1 _ _ r11
      clear p0 p1 p2 p3 c0 c1 c2 c3 c4
      refine wp_region_noPanic ?_
      refine wp_region_held_drew (S := (fun W => W.cell? ⟨w.heap.size, 3, none⟩ = some (.slice (some ⟨bw, ow, none⟩) s.wishes.length s.c4) ∧ W.cell? ⟨bw, ow + i * 5 + 1, none⟩ = some (.int .i64 mn) ∧ W.cell? ⟨V3.heap.size, 1, none⟩ = some (.int .i64 a))) (by kernel_rfl) ?_ (fun hHeld => ?_)
      · (try dsimp only); exact HS.out _ (fun b o hlt => rfl)
      refine htake (i := 0) (v := ?v1) rfl (by kernel_rfl) (by kernel_rfl) (by kernel_rfl) (fun _ _ _ h => h) (Or.inl ⟨by rfl, ?hy1⟩) (by assumption) ?_
      case hy1 => (intro w hSw; (try dsimp only at hSw); go_simp; try (with_reducible rfl))
      try simp only [Act.put, List.setIfInBounds_toArray, List.set_cons_zero, List.set_cons_succ]
      refine htake (i := 1) (v := ?v2) rfl (by kernel_rfl) (by kernel_rfl) (by kernel_rfl) (fun _ _ _ h => h) (Or.inl ⟨by rfl, ?hy2⟩) (by assumption) ?_
      case hy2 => (intro w hSw; (try dsimp only at hSw); go_simp; try (with_reducible rfl))
      try simp only [Act.put, List.setIfInBounds_toArray, List.set_cons_zero, List.set_cons_succ]
      refine htake (i := 2) (v := ?v3) rfl (by kernel_rfl) (by kernel_rfl) (by kernel_rfl) (fun _ _ _ h => h) (Or.inl ⟨by rfl, ?hy3⟩) (by assumption) ?_
      case hy3 => (intro w hSw; (try dsimp only at hSw); go_simp; try (with_reducible rfl))
      try simp only [Act.put, List.setIfInBounds_toArray, List.set_cons_zero, List.set_cons_succ]
      refine htake (i := 3) (v := ?v4) rfl (by kernel_rfl) (by kernel_rfl) (by kernel_rfl) (fun _ _ _ h => h) (Or.inl ⟨by rfl, ?hy4⟩) (by assumption) ?_
      case hy4 => (intro w hSw; (try dsimp only at hSw); go_simp; try (with_reducible rfl))
      try simp only [Act.put, List.setIfInBounds_toArray, List.set_cons_zero, List.set_cons_succ]
      refine htake (i := 4) (v := ?v5) rfl (by kernel_rfl) (by kernel_rfl) (by kernel_rfl) (fun _ _ _ h => h) (Or.inl ⟨by rfl, ?hy5⟩) (by assumption) ?_
      case hy5 => (intro w hSw; (try dsimp only at hSw); go_simp; try (with_reducible rfl))
      try simp only [Act.put, List.setIfInBounds_toArray, List.set_cons_zero, List.set_cons_succ]
      refine htake (i := 5) (v := ?v6) rfl (by kernel_rfl) (by kernel_rfl) (by kernel_rfl) (fun _ _ _ h => h) (Or.inl ⟨by rfl, ?hy6⟩) (by assumption) ?_
      case hy6 => (intro w hSw; (try dsimp only at hSw); go_simp; try (with_reducible rfl))
      try simp only [Act.put, List.setIfInBounds_toArray, List.set_cons_zero, List.set_cons_succ]
      refine htake (i := 6) (v := ?v7) rfl (by kernel_rfl) (by kernel_rfl) (by kernel_rfl) (fun _ _ _ h => h) (Or.inl ⟨by rfl, ?hy7⟩) (by assumption) ?_
      case hy7 => (intro w hSw; (try dsimp only at hSw); go_simp; try (with_reducible rfl))
      try simp only [Act.put, List.setIfInBounds_toArray, List.set_cons_zero, List.set_cons_succ]
      refine htake (i := 7) (v := ?v8) rfl (by kernel_rfl) (by kernel_rfl) (by kernel_rfl) (fun _ _ _ h => h) (Or.inl ⟨by rfl, ?hy8⟩) (by assumption) ?_
      case hy8 => (intro w hSw; (try dsimp only at hSw); go_simp; try (with_reducible rfl))
      try simp only [Act.put, List.setIfInBounds_toArray, List.set_cons_zero, List.set_cons_succ]
      refine htake (i := 8) (v := ?v9) rfl (by kernel_rfl) (by kernel_rfl) (by kernel_rfl) (fun _ _ _ h => h) (Or.inl ⟨by rfl, ?hy9⟩) (by assumption) ?_
      case hy9 => (intro w hSw; (try dsimp only at hSw); go_simp; try (with_reducible rfl))
      try simp only [Act.put, List.setIfInBounds_toArray, List.set_cons_zero, List.set_cons_succ]
      refine htake (i := 9) (v := ?v10) rfl (by kernel_rfl) (by kernel_rfl) (by kernel_rfl) (fun _ _ _ h => h) (Or.inl ⟨by rfl, ?hy10⟩) (by assumption) ?_
      case hy10 => (intro w hSw; (try dsimp only at hSw); go_simp; try (with_reducible rfl))
      try simp only [Act.put, List.setIfInBounds_toArray, List.set_cons_zero, List.set_cons_succ]
      refine wpAnyH_ready (rs := [10]) (by kernel_rfl) (by simp) ?_
      refine hcons rfl (fun K hK => ?_) (AllReadyH.nil)
      go_simp
      refine hK.out _ _ ?_ (fun hHeld => ?_)
      · (try dsimp only); exact HS.out _ (fun b o hlt => World.cell?_setCell_other _ _ _ _ (by intro e; injection e with e; omega))
      clear hK K
      try simp only [Act.put, List.setIfInBounds_toArray, List.set_cons_zero, List.set_cons_succ]
      refine wpAnyH_done (by kernel_rfl) ?_ _
      refine NoPanic.normal ?_
      iterate 12 (try clear hHeld)
      rw [show IntKind.i64.wrap (mn - a) = mn - a from IntWalk.i64_in _ (by omega)]
      have q10 : (V4.setCell ⟨V3.heap.size + 1, 1, none⟩ (.int .i64 (mn - a))).drew.heap[V3.heap.size]? = some (.cells #[.int .i64 pz, .int .i64 a, .int .i64 ho, .int .i64 pr, .int .i64 sp] 57 (0, 0)) := row_set_other r10 (by omega) 1 _
      have q11 : (V4.setCell ⟨V3.heap.size + 1, 1, none⟩ (.int .i64 (mn - a))).drew.heap[V3.heap.size + 1]? = some (.cells #[.int .i64 pz, .int .i64 (mn - a), .int .i64 ho, .int .i64 pr, .int .i64 sp] 57 (0, 0)) := row_set1 r11 _
      have hB5 : Below V3.heap.size V3 (V4.setCell ⟨V3.heap.size + 1, 1, none⟩ (.int .i64 (mn - a))).drew := (hB4.setCell (p := ⟨V3.heap.size + 1, 1, none⟩) (by simp) _).drew
      generalize (V4.setCell ⟨V3.heap.size + 1, 1, none⟩ (.int .i64 (mn - a))).drew = V5 at *
      clear r10 r11 v1 f1 HS hB4 hz4
      have K5 := Lib.hid (K3.out.next hB5)
      have f4 : V5.frozen? ⟨V3.heap.size + 1, 4, none⟩ = false := frozen_of_row V5 _ 4 _ _ q11
      have v4 : V5.cell? ⟨V3.heap.size + 1, 4, none⟩ = some (.int .i64 sp) := by rw [cell_of_row V5 _ 4 _ _ _ q11]; rfl
      obtain ⟨-, -, -, p0, p1, p2, p3⟩ := id K5.out
      go_upto_region 12 with fail
      have hB6 : Below V3.heap.size V3 ((V5.setCell ⟨V3.heap.size + 1, 4, none⟩ (.int .i64 0)).alloc (.cells #[.slice s.A1 s.sheets.length s.c1, .slice s.A2 s.lics.length s.c2, .slice s.A3 s.makes.length s.c3, .slice s.A4 s.wishes.length s.c4] 27)) := (hB5.setCell (p := ⟨V3.heap.size + 1, 4, none⟩) (by simp) _).alloc (by rw [World.size_setCell]; exact hB5.size) _
      have r10 : ((V5.setCell ⟨V3.heap.size + 1, 4, none⟩ (.int .i64 0)).alloc (.cells #[.slice s.A1 s.sheets.length s.c1, .slice s.A2 s.lics.length s.c2, .slice s.A3 s.makes.length s.c3, .slice s.A4 s.wishes.length s.c4] 27)).heap[V3.heap.size]? = some (.cells #[.int .i64 pz, .int .i64 a, .int .i64 ho, .int .i64 pr, .int .i64 sp] 57 (0, 0)) := (Below.heap_alloc _ _ _ (by rw [World.size_setCell]; exact (Array.getElem?_eq_some_iff.1 q10).1)).trans (row_set_other q10 (by omega) 4 _)
      have r11 : ((V5.setCell ⟨V3.heap.size + 1, 4, none⟩ (.int .i64 0)).alloc (.cells #[.slice s.A1 s.sheets.length s.c1, .slice s.A2 s.lics.length s.c2, .slice s.A3 s.makes.length s.c3, .slice s.A4 s.wishes.length s.c4] 27)).heap[V3.heap.size + 1]? = some (.cells #[.int .i64 pz, .int .i64 (mn - a), .int .i64 ho, .int .i64 pr, .int .i64 0] 57 (0, 0)) := (Below.heap_alloc _ _ _ (by rw [World.size_setCell]; exact (Array.getElem?_eq_some_iff.1 q11).1)).trans (row_set4 q11 _)
      have r12 : ((V5.setCell ⟨V3.heap.size + 1, 4, none⟩ (.int .i64 0)).alloc (.cells #[.slice s.A1 s.sheets.length s.c1, .slice s.A2 s.lics.length s.c2, .slice s.A3 s.makes.length s.c3, .slice s.A4 s.wishes.length s.c4] 27)).heap[V5.heap.size]? = some (.cells #[.slice s.A1 s.sheets.length s.c1, .slice s.A2 s.lics.length s.c2, .slice s.A3 s.makes.length s.c3, .slice s.A4 s.wishes.length s.c4] 27 (0, 0)) := heap_alloc_new' (by simp [World.size_setCell])
      have hz6 : ((V5.setCell ⟨V3.heap.size + 1, 4, none⟩ (.int .i64 0)).alloc (.cells #[.slice s.A1 s.sheets.length s.c1, .slice s.A2 s.lics.length s.c2, .slice s.A3 s.makes.length s.c3, .slice s.A4 s.wishes.length s.c4] 27)).heap.size = V5.heap.size + 1 := by simp [World.size_setCell]
      have hz5 : V3.heap.size + 1 < V5.heap.size := (Array.getElem?_eq_some_iff.1 q11).1
      have hB6' := Lib.hid hB6.size
      generalize (V5.setCell ⟨V3.heap.size + 1, 4, none⟩ (.int .i64 0)).alloc (.cells #[.slice s.A1 s.sheets.length s.c1, .slice s.A2 s.lics.length s.c2, .slice s.A3 s.makes.length s.c3, .slice s.A4 s.wishes.length s.c4] 27) = V6 at *
      generalize V5.heap.size = g12 at *
      have hlt12 : g12 < V6.heap.size := by omega
      clear hz6
      have K6 := Lib.hid (K3.out.next hB6)
      clear q10 q11 f4 v4 p0 p1 p2 p3 hB5 K5
      have hat := K6.out.st.wishes
      rw [E4.out] at hat
      have HN := Lib.hid (fun (W : World) (h : Below V6.heap.size V6 W) => at_flat wish_len (hat.below h))
      have HO := Lib.hid (show ∀ u ∈ s.wishes.flatMap Wish.cells, u.oneCell' = true from fun u hu => by
        obtain ⟨x, -, hx⟩ := List.mem_flatMap.1 hu
        simp [Wish.cells] at hx
        rcases hx with rfl | rfl | rfl | rfl | rfl <;> rfl)
      have hp3 := K6.out.bx.c3
      rw [E4.out] at hp3
      have HS := Lib.hid (show ∀ W : World, (∀ b o, b < g12 → W.cell? ⟨b, o, none⟩ = V6.cell? ⟨b, o, none⟩) → (W.cell? ⟨w.heap.size, 3, none⟩ = some (.slice (some ⟨bw, ow, none⟩) s.wishes.length s.c4) ∧ W.cell? ⟨V3.heap.size + 1, 0, none⟩ = some (.int .i64 pz) ∧ W.cell? ⟨V3.heap.size + 1, 1, none⟩ = some (.int .i64 (mn - a)) ∧ W.cell? ⟨V3.heap.size + 1, 2, none⟩ = some (.int .i64 ho) ∧ W.cell? ⟨V3.heap.size + 1, 3, none⟩ = some (.int .i64 pr) ∧ W.cell? ⟨V3.heap.size + 1, 4, none⟩ = some (.int .i64 0)) from fun W h =>
        ⟨(h _ _ (by omega)).trans hp3, (h _ _ (by omega)).trans (by rw [cell_of_row V6 _ 0 _ _ _ r11]; rfl), (h _ _ (by omega)).trans (by rw [cell_of_row V6 _ 1 _ _ _ r11]; rfl), (h _ _ (by omega)).trans (by rw [cell_of_row V6 _ 2 _ _ _ r11]; rfl), (h _ _ (by omega)).trans (by rw [cell_of_row V6 _ 3 _ _ _ r11]; rfl), (h _ _ (by omega)).trans (by rw [cell_of_row V6 _ 4 _ _ _ r11]; rfl)⟩)
      obtain ⟨i0, hi, hz0, hz1, hz2⟩ := info_parts wish_info
      clear hat hp3
      go_cut [] (fun wx => SplitR s V3 V6 pz a ho pr sp mn g12 wx)
      case first =>
        have hc : Below V6.heap.size V6 V6.drew := (Below.refl _ _).drew
        refine wp_region_noPanic ?_
        refine wp_region_held_drew (S := (fun W => (W.cell? ⟨w.heap.size, 3, none⟩ = some (.slice (some ⟨bw, ow, none⟩) s.wishes.length s.c4) ∧ W.cell? ⟨V3.heap.size + 1, 0, none⟩ = some (.int .i64 pz) ∧ W.cell? ⟨V3.heap.size + 1, 1, none⟩ = some (.int .i64 (mn - a)) ∧ W.cell? ⟨V3.heap.size + 1, 2, none⟩ = some (.int .i64 ho) ∧ W.cell? ⟨V3.heap.size + 1, 3, none⟩ = some (.int .i64 pr) ∧ W.cell? ⟨V3.heap.size + 1, 4, none⟩ = some (.int .i64 0)))) (by kernel_rfl) ?_ (fun hHeld => ?_)
        · (try dsimp only); exact HS.out _ (fun b o hlt => (bcell hc).1 _ _ (by omega))
        refine htake (i := 1) (v := ?v11) rfl (by kernel_rfl) (by kernel_rfl) (by kernel_rfl) (fun _ _ _ h => h) (Or.inl ⟨by rfl, ?hy11⟩) (by assumption) ?_
        case hy11 => (intro w hSw; (try dsimp only at hSw); go_simp; try (with_reducible rfl))
        try simp only [Act.put, List.setIfInBounds_toArray, List.set_cons_zero, List.set_cons_succ]
        refine htake (i := 2) (v := ?v12) rfl (by kernel_rfl) (by kernel_rfl) (by kernel_rfl) (fun _ _ _ h => h) (Or.inl ⟨by rfl, ?hy12⟩) (by assumption) ?_
        case hy12 => (intro w hSw; (try dsimp only at hSw); go_simp; try (with_reducible rfl))
        try simp only [Act.put, List.setIfInBounds_toArray, List.set_cons_zero, List.set_cons_succ]
        refine htake (i := 4) (v := ?v13) rfl (by kernel_rfl) (by kernel_rfl) (by kernel_rfl) (fun _ _ _ h => h) (Or.inl ⟨by rfl, ?hy13⟩) (by assumption) ?_
        case hy13 => (intro w hSw; (try dsimp only at hSw); go_simp; try (with_reducible rfl))
        try simp only [Act.put, List.setIfInBounds_toArray, List.set_cons_zero, List.set_cons_succ]
        refine wpAnyH_ready (rs := [0, 5]) (by kernel_rfl) (by simp) ?_
        refine hcons rfl (fun K hK => ?_) (hcons rfl (fun K hK => ?_) (AllReadyH.nil))
        go_simp
        have hown := own_empty hc 57 5; (try replace h5 := al_oldA h5 (.cells #[] 57)); replace hc := hc.alloc hc.size (.cells #[] 57); (try simp only [World.size_alloc] at hown); (try simp only [sz_drewA] at hown)
        refine hK.out _ _ ?_ (fun hHeld => ?_)
        · (try dsimp only); exact HS.out _ (fun b o hlt => (bcell hc).1 _ _ (by omega))
        clear hK K
        try simp only [Act.put, List.setIfInBounds_toArray, List.set_cons_zero, List.set_cons_succ]
        refine wpAnyH_ready (rs := [3, 5]) (by kernel_rfl) (by simp) ?_
        refine hcons rfl (fun K hK => ?_) (hcons rfl (fun K hK => ?_) (AllReadyH.nil))
        (refine step_append_lies _ rfl (.tmp 98) (.tmp 100) 25 rfl V6.heap.size 57 i0 (.agg #[.int .i64 0, .int .i64 0, .int .i64 0, .int .i64 0, .int .i64 0]) 5 40 Tryd.underlying25 hi hz0 hz1 hz2 rfl (by decide) (.slice (some ⟨_, 0, none⟩) 0 0) 0 [] rfl hown ⟨bw, ow, none⟩ s.wishes.length s.c4 (s.wishes.flatMap Wish.cells) rfl (flat_len wish_len _) (HN.out _ hc) HO.out (by omega) (by unfold maxLen; omega) (by omega) hc.size _ rfl ?_); intro g cap w3 hown3 hgrow hgg hlt3; (try replace h5 := row_grown hgrow h5 (by omega)); replace hc := grow_below hc hgrow (fun k hk => (hown.lt k hk).1); replace hown := hown3; simp only [Nat.zero_add, List.nil_append] at hown; clear hgrow hgg hown3; (try simp only [Nat.zero_add])
        refine hK.out _ _ ?_ (fun hHeld => ?_)
        · (try dsimp only); exact HS.out _ (fun b o hlt => (bcell hc).1 _ _ (by omega))
        clear hK K
        try simp only [Act.put, List.setIfInBounds_toArray, List.set_cons_zero, List.set_cons_succ]
        refine wpAnyH_ready (rs := [5]) (by kernel_rfl) (by simp) ?_
        refine hcons rfl (fun K hK => ?_) (AllReadyH.nil)
        go_simp
        have h5 := al_newA hc (.cells #[.int .i64 pz, .int .i64 (mn - a), .int .i64 ho, .int .i64 pr, .int .i64 0] 57); (try replace hown := hown.alloc (.cells #[.int .i64 pz, .int .i64 (mn - a), .int .i64 ho, .int .i64 pr, .int .i64 0] 57)); replace hc := hc.alloc hc.size (.cells #[.int .i64 pz, .int .i64 (mn - a), .int .i64 ho, .int .i64 pr, .int .i64 0] 57); (try simp only [World.size_alloc] at h5); (try simp only [sz_drewA] at h5)
        refine hK.out _ _ ?_ (fun hHeld => ?_)
        · (try dsimp only); exact HS.out _ (fun b o hlt => (bcell hc).1 _ _ (by omega))
        clear hK K
        try simp only [Act.put, List.setIfInBounds_toArray, List.set_cons_zero, List.set_cons_succ]
        refine wpAnyH_ready (rs := [6]) (by kernel_rfl) (by simp) ?_
        refine hcons rfl (fun K hK => ?_) (AllReadyH.nil)
        (refine step_append_lies _ rfl (.tmp 101) (.tmp 103) 25 rfl V6.heap.size 57 i0 (.agg #[.int .i64 0, .int .i64 0, .int .i64 0, .int .i64 0, .int .i64 0]) 5 40 Tryd.underlying25 hi hz0 hz1 hz2 rfl (by decide) (.slice (some ⟨g, 0, none⟩) s.wishes.length cap) s.wishes.length (s.wishes.flatMap Wish.cells) rfl hown ⟨_, 0, none⟩ 1 1 [.int .i64 pz, .int .i64 (mn - a), .int .i64 ho, .int .i64 pr, .int .i64 0] rfl rfl (row_five h5) (by simp [Value.oneCell']) (by omega) (by unfold maxLen; omega) (by omega) hc.size _ rfl ?_); intro g6 cap6 w6 hown6 hgrow6 hgg6 hlt6; replace hc := grow_below hc hgrow6 (fun k hk => (hown.lt k hk).1); have q12 := (hc.block g12 (by omega)).trans r12; have cf3 : w6.frozen? ⟨g12, 3, none⟩ = false := frozen_of_row w6 _ 3 _ _ q12; have cc3 : w6.cell? ⟨g12, 3, none⟩ = some (.slice s.A4 s.wishes.length s.c4) := (cell_of_row w6 _ 3 _ _ _ q12).trans rfl
        refine hK.out _ _ ?_ (fun hHeld => ?_)
        · (try dsimp only); exact HS.out _ (fun b o hlt => (bcell hc).1 _ _ (by omega))
        clear hK K
        try simp only [Act.put, List.setIfInBounds_toArray, List.set_cons_zero, List.set_cons_succ]
        refine htake (i := 7) (v := ?v14) rfl (by kernel_rfl) (by kernel_rfl) (by kernel_rfl) (fun _ _ _ h => h) (Or.inl ⟨by rfl, ?hy14⟩) (by assumption) ?_
        case hy14 => (intro w hSw; (try dsimp only at hSw); go_simp; try (with_reducible rfl))
        try simp only [Act.put, List.setIfInBounds_toArray, List.set_cons_zero, List.set_cons_succ]
        refine wpAnyH_ready (rs := [8]) (by kernel_rfl) (by simp) ?_
        refine hcons rfl (fun K hK => ?_) (AllReadyH.nil)
        go_simp
        skip
        refine hK.out _ _ ?_ (fun hHeld => ?_)
        · (try dsimp only); exact HS.out _ (fun b o hlt => (World.cell?_setCell_other _ _ _ _ (by intro e; injection e with e; omega)).trans ((bcell hc).1 _ _ (by omega)))
        clear hK K
        try simp only [Act.put, List.setIfInBounds_toArray, List.set_cons_zero, List.set_cons_succ]
        refine wpAnyH_done (by kernel_rfl) ?_ _
        refine NoPanic.normal ?_
        rotate_left
        go_simp
        have h5 := al_newA hc (.cells #[.int .i64 pz, .int .i64 (mn - a), .int .i64 ho, .int .i64 pr, .int .i64 0] 57); (try replace hown := hown.alloc (.cells #[.int .i64 pz, .int .i64 (mn - a), .int .i64 ho, .int .i64 pr, .int .i64 0] 57)); replace hc := hc.alloc hc.size (.cells #[.int .i64 pz, .int .i64 (mn - a), .int .i64 ho, .int .i64 pr, .int .i64 0] 57); (try simp only [World.size_alloc] at h5); (try simp only [sz_drewA] at h5)
        refine hK.out _ _ ?_ (fun hHeld => ?_)
        · (try dsimp only); exact HS.out _ (fun b o hlt => (bcell hc).1 _ _ (by omega))
        clear hK K
        try simp only [Act.put, List.setIfInBounds_toArray, List.set_cons_zero, List.set_cons_succ]
        refine wpAnyH_ready (rs := [3]) (by kernel_rfl) (by simp) ?_
        refine hcons rfl (fun K hK => ?_) (AllReadyH.nil)
        (refine step_append_lies _ rfl (.tmp 98) (.tmp 100) 25 rfl V6.heap.size 57 i0 (.agg #[.int .i64 0, .int .i64 0, .int .i64 0, .int .i64 0, .int .i64 0]) 5 40 Tryd.underlying25 hi hz0 hz1 hz2 rfl (by decide) (.slice (some ⟨_, 0, none⟩) 0 0) 0 [] rfl hown ⟨bw, ow, none⟩ s.wishes.length s.c4 (s.wishes.flatMap Wish.cells) rfl (flat_len wish_len _) (HN.out _ hc) HO.out (by omega) (by unfold maxLen; omega) (by omega) hc.size _ rfl ?_); intro g cap w3 hown3 hgrow hgg hlt3; (try replace h5 := row_grown hgrow h5 (by omega)); replace hc := grow_below hc hgrow (fun k hk => (hown.lt k hk).1); replace hown := hown3; simp only [Nat.zero_add, List.nil_append] at hown; clear hgrow hgg hown3; (try simp only [Nat.zero_add])
        refine hK.out _ _ ?_ (fun hHeld => ?_)
        · (try dsimp only); exact HS.out _ (fun b o hlt => (bcell hc).1 _ _ (by omega))
        clear hK K
        try simp only [Act.put, List.setIfInBounds_toArray, List.set_cons_zero, List.set_cons_succ]
        refine wpAnyH_ready (rs := [6]) (by kernel_rfl) (by simp) ?_
        refine hcons rfl (fun K hK => ?_) (AllReadyH.nil)
        (refine step_append_lies _ rfl (.tmp 101) (.tmp 103) 25 rfl V6.heap.size 57 i0 (.agg #[.int .i64 0, .int .i64 0, .int .i64 0, .int .i64 0, .int .i64 0]) 5 40 Tryd.underlying25 hi hz0 hz1 hz2 rfl (by decide) (.slice (some ⟨g, 0, none⟩) s.wishes.length cap) s.wishes.length (s.wishes.flatMap Wish.cells) rfl hown ⟨_, 0, none⟩ 1 1 [.int .i64 pz, .int .i64 (mn - a), .int .i64 ho, .int .i64 pr, .int .i64 0] rfl rfl (row_five h5) (by simp [Value.oneCell']) (by omega) (by unfold maxLen; omega) (by omega) hc.size _ rfl ?_); intro g6 cap6 w6 hown6 hgrow6 hgg6 hlt6; replace hc := grow_below hc hgrow6 (fun k hk => (hown.lt k hk).1); have q12 := (hc.block g12 (by omega)).trans r12; have cf3 : w6.frozen? ⟨g12, 3, none⟩ = false := frozen_of_row w6 _ 3 _ _ q12; have cc3 : w6.cell? ⟨g12, 3, none⟩ = some (.slice s.A4 s.wishes.length s.c4) := (cell_of_row w6 _ 3 _ _ _ q12).trans rfl
        refine hK.out _ _ ?_ (fun hHeld => ?_)
        · (try dsimp only); exact HS.out _ (fun b o hlt => (bcell hc).1 _ _ (by omega))
        clear hK K
        try simp only [Act.put, List.setIfInBounds_toArray, List.set_cons_zero, List.set_cons_succ]
        refine htake (i := 7) (v := ?v15) rfl (by kernel_rfl) (by kernel_rfl) (by kernel_rfl) (fun _ _ _ h => h) (Or.inl ⟨by rfl, ?hy15⟩) (by assumption) ?_
        case hy15 => (intro w hSw; (try dsimp only at hSw); go_simp; try (with_reducible rfl))
        try simp only [Act.put, List.setIfInBounds_toArray, List.set_cons_zero, List.set_cons_succ]
        refine wpAnyH_ready (rs := [8]) (by kernel_rfl) (by simp) ?_
        refine hcons rfl (fun K hK => ?_) (AllReadyH.nil)
        go_simp
        skip
        refine hK.out _ _ ?_ (fun hHeld => ?_)
        · (try dsimp only); exact HS.out _ (fun b o hlt => (World.cell?_setCell_other _ _ _ _ (by intro e; injection e with e; omega)).trans ((bcell hc).1 _ _ (by omega)))
        clear hK K
        try simp only [Act.put, List.setIfInBounds_toArray, List.set_cons_zero, List.set_cons_succ]
        refine wpAnyH_done (by kernel_rfl) ?_ _
        refine NoPanic.normal ?_
        rotate_left
        go_simp
        have h5 := al_newA hc (.cells #[.int .i64 pz, .int .i64 (mn - a), .int .i64 ho, .int .i64 pr, .int .i64 0] 57); (try replace hown := hown.alloc (.cells #[.int .i64 pz, .int .i64 (mn - a), .int .i64 ho, .int .i64 pr, .int .i64 0] 57)); replace hc := hc.alloc hc.size (.cells #[.int .i64 pz, .int .i64 (mn - a), .int .i64 ho, .int .i64 pr, .int .i64 0] 57); (try simp only [World.size_alloc] at h5); (try simp only [sz_drewA] at h5)
        refine hK.out _ _ ?_ (fun hHeld => ?_)
        · (try dsimp only); exact HS.out _ (fun b o hlt => (bcell hc).1 _ _ (by omega))
        clear hK K
        try simp only [Act.put, List.setIfInBounds_toArray, List.set_cons_zero, List.set_cons_succ]
        refine wpAnyH_ready (rs := [0]) (by kernel_rfl) (by simp) ?_
        refine hcons rfl (fun K hK => ?_) (AllReadyH.nil)
        go_simp
        have hown := own_empty hc 57 5; (try replace h5 := al_oldA h5 (.cells #[] 57)); replace hc := hc.alloc hc.size (.cells #[] 57); (try simp only [World.size_alloc] at hown); (try simp only [sz_drewA] at hown)
        refine hK.out _ _ ?_ (fun hHeld => ?_)
        · (try dsimp only); exact HS.out _ (fun b o hlt => (bcell hc).1 _ _ (by omega))
        clear hK K
        try simp only [Act.put, List.setIfInBounds_toArray, List.set_cons_zero, List.set_cons_succ]
        refine wpAnyH_ready (rs := [3]) (by kernel_rfl) (by simp) ?_
        refine hcons rfl (fun K hK => ?_) (AllReadyH.nil)
        (refine step_append_lies _ rfl (.tmp 98) (.tmp 100) 25 rfl V6.heap.size 57 i0 (.agg #[.int .i64 0, .int .i64 0, .int .i64 0, .int .i64 0, .int .i64 0]) 5 40 Tryd.underlying25 hi hz0 hz1 hz2 rfl (by decide) (.slice (some ⟨_, 0, none⟩) 0 0) 0 [] rfl hown ⟨bw, ow, none⟩ s.wishes.length s.c4 (s.wishes.flatMap Wish.cells) rfl (flat_len wish_len _) (HN.out _ hc) HO.out (by omega) (by unfold maxLen; omega) (by omega) hc.size _ rfl ?_); intro g cap w3 hown3 hgrow hgg hlt3; (try replace h5 := row_grown hgrow h5 (by omega)); replace hc := grow_below hc hgrow (fun k hk => (hown.lt k hk).1); replace hown := hown3; simp only [Nat.zero_add, List.nil_append] at hown; clear hgrow hgg hown3; (try simp only [Nat.zero_add])
        refine hK.out _ _ ?_ (fun hHeld => ?_)
        · (try dsimp only); exact HS.out _ (fun b o hlt => (bcell hc).1 _ _ (by omega))
        clear hK K
        try simp only [Act.put, List.setIfInBounds_toArray, List.set_cons_zero, List.set_cons_succ]
        refine wpAnyH_ready (rs := [6]) (by kernel_rfl) (by simp) ?_
        refine hcons rfl (fun K hK => ?_) (AllReadyH.nil)
        (refine step_append_lies _ rfl (.tmp 101) (.tmp 103) 25 rfl V6.heap.size 57 i0 (.agg #[.int .i64 0, .int .i64 0, .int .i64 0, .int .i64 0, .int .i64 0]) 5 40 Tryd.underlying25 hi hz0 hz1 hz2 rfl (by decide) (.slice (some ⟨g, 0, none⟩) s.wishes.length cap) s.wishes.length (s.wishes.flatMap Wish.cells) rfl hown ⟨_, 0, none⟩ 1 1 [.int .i64 pz, .int .i64 (mn - a), .int .i64 ho, .int .i64 pr, .int .i64 0] rfl rfl (row_five h5) (by simp [Value.oneCell']) (by omega) (by unfold maxLen; omega) (by omega) hc.size _ rfl ?_); intro g6 cap6 w6 hown6 hgrow6 hgg6 hlt6; replace hc := grow_below hc hgrow6 (fun k hk => (hown.lt k hk).1); have q12 := (hc.block g12 (by omega)).trans r12; have cf3 : w6.frozen? ⟨g12, 3, none⟩ = false := frozen_of_row w6 _ 3 _ _ q12; have cc3 : w6.cell? ⟨g12, 3, none⟩ = some (.slice s.A4 s.wishes.length s.c4) := (cell_of_row w6 _ 3 _ _ _ q12).trans rfl
        refine hK.out _ _ ?_ (fun hHeld => ?_)
        · (try dsimp only); exact HS.out _ (fun b o hlt => (bcell hc).1 _ _ (by omega))
        clear hK K
        try simp only [Act.put, List.setIfInBounds_toArray, List.set_cons_zero, List.set_cons_succ]
        refine htake (i := 7) (v := ?v16) rfl (by kernel_rfl) (by kernel_rfl) (by kernel_rfl) (fun _ _ _ h => h) (Or.inl ⟨by rfl, ?hy16⟩) (by assumption) ?_
        case hy16 => (intro w hSw; (try dsimp only at hSw); go_simp; try (with_reducible rfl))
        try simp only [Act.put, List.setIfInBounds_toArray, List.set_cons_zero, List.set_cons_succ]
        refine wpAnyH_ready (rs := [8]) (by kernel_rfl) (by simp) ?_
        refine hcons rfl (fun K hK => ?_) (AllReadyH.nil)
        go_simp
        skip
        refine hK.out _ _ ?_ (fun hHeld => ?_)
        · (try dsimp only); exact HS.out _ (fun b o hlt => (World.cell?_setCell_other _ _ _ _ (by intro e; injection e with e; omega)).trans ((bcell hc).1 _ _ (by omega)))
        clear hK K
        try simp only [Act.put, List.setIfInBounds_toArray, List.set_cons_zero, List.set_cons_succ]
        refine wpAnyH_done (by kernel_rfl) ?_ _
        refine NoPanic.normal ?_
        iterate 10 (try clear hHeld)
        all_goals
          go_wp2_with fail
          go_meet
          refine ⟨g6, cap6, (hB6.trans (hc.mono hB6.size)).setCell (p := ⟨g12, 3, none⟩) (by simp; omega) _, (hown6.lt g6 rfl).1, row_set_other ((hc.block V3.heap.size (by omega)).trans r10) (by omega) 3 _, row_set3 q12 _, ?_⟩
          have e : (s.wishes ++ [(⟨pz, mn - a, ho, pr, 0⟩ : Wish)]).flatMap Wish.cells = s.wishes.flatMap Wish.cells ++ [.int .i64 pz, .int .i64 (mn - a), .int .i64 ho, .int .i64 pr, .int .i64 0] := by rw [List.flatMap_append]; rfl
          rw [e]
          exact own_setCellA hown6 hlt12 3 _
      case rest =>
        obtain ⟨g, cap, hB7, hg, r10', r12', hown⟩ := hcut
        generalize wc = V7 at *
        clear r10 r11 r12 hB6 HS HN HO hi hz0 hz1 hz2
        have hgl := (hown.lt g rfl).2
        obtain ⟨cur, hcur⟩ := own_row hown (Nat.succ_pos _)
        have hat := own_at wish_len hown
        have hiz : (s.wishes ++ [(⟨pz, mn - a, ho, pr, 0⟩ : Wish)])[i]? = some ⟨pz, mn, ho, pr, sp⟩ := by
          rw [List.getElem?_append_left hwm]
          have h1 := EW.out
          unfold wishAt at h1
          rw [List.getD_eq_getElem?_getD, List.getElem?_eq_getElem hwm] at h1
          rw [List.getElem?_eq_getElem hwm, ← h1]; rfl
        obtain ⟨y0, y1, y2, y3, y4⟩ := at_five hat hiz
        dsimp only at y0 y1 y2 y3 y4
        have z0 := frozen_of_row V7 g (i * 5) _ _ hcur
        have z1 := frozen_of_row V7 g (i * 5 + 1) _ _ hcur
        have z2 := frozen_of_row V7 g (i * 5 + 2) _ _ hcur
        have z3 := frozen_of_row V7 g (i * 5 + 3) _ _ hcur
        have z4 := frozen_of_row V7 g (i * 5 + 4) _ _ hcur
        have c12 : V7.cell? ⟨g12, 3, none⟩ = some (.slice (some ⟨g, 0, none⟩) (s.wishes.length + 1) cap) := (cell_of_row V7 _ 3 _ _ _ r12').trans rfl
        have x0 : V7.cell? ⟨V3.heap.size, 0, none⟩ = some (.int .i64 pz) := (cell_of_row V7 _ 0 _ _ _ r10').trans rfl
        have x1 : V7.cell? ⟨V3.heap.size, 1, none⟩ = some (.int .i64 a) := (cell_of_row V7 _ 1 _ _ _ r10').trans rfl
        have x2 : V7.cell? ⟨V3.heap.size, 2, none⟩ = some (.int .i64 ho) := (cell_of_row V7 _ 2 _ _ _ r10').trans rfl
        have x3 : V7.cell? ⟨V3.heap.size, 3, none⟩ = some (.int .i64 pr) := (cell_of_row V7 _ 3 _ _ _ r10').trans rfl
        have x4 : V7.cell? ⟨V3.heap.size, 4, none⟩ = some (.int .i64 sp) := (cell_of_row V7 _ 4 _ _ _ r10').trans rfl
        have hidx : i < s.wishes.length + 1 := by omega
        go_upto_region 14 with fail
        have hB8 := set5_below (y := ⟨pz, a, ho, pr, sp⟩) (o := i * 5) hB7 (show V3.heap.size ≤ g by have := hB6'.out; omega)
        have r12 := set5_row (y := ⟨pz, a, ho, pr, sp⟩) (g := g) (o := i * 5) r12' (by omega)
        have hat8 := at_set5 (y := ⟨pz, a, ho, pr, sp⟩) hat hiz
        have hz8 : (set5 V7 g (i * 5) ⟨pz, a, ho, pr, sp⟩).heap.size = V7.heap.size := by unfold set5; simp only [World.size_setCell]
        rw [show ((((V7.setCell ⟨g, i * 5, none⟩ (.int .i64 pz)).setCell ⟨g, i * 5 + 1, none⟩ (.int .i64 a)).setCell ⟨g, i * 5 + 2, none⟩ (.int .i64 ho)).setCell ⟨g, i * 5 + 3, none⟩ (.int .i64 pr)).setCell ⟨g, i * 5 + 4, none⟩ (.int .i64 sp) = set5 V7 g (i * 5) ⟨pz, a, ho, pr, sp⟩ from rfl]
        generalize set5 V7 g (i * 5) ⟨pz, a, ho, pr, sp⟩ = V8 at *
        have hK8 := K3.out.next hB8
        obtain ⟨x, hx⟩ : ∃ x : Store, x = { s with wishes := s.wishes.set i { wishAt s i with many := a } ++ [{ wishAt s i with many := (wishAt s i).many - a, ship := 0 }], A4 := some ⟨g, 0, none⟩, c4 := cap } := ⟨_, rfl⟩
        have hsp : SpH s i a x := ⟨⟨_, _, hx⟩, Hok.out, hwm, by omega, ha1, by rw [EW.out]; exact ha2⟩
        have hxw : x.wishes = (s.wishes ++ [(⟨pz, mn - a, ho, pr, 0⟩ : Wish)]).set i ⟨pz, a, ho, pr, sp⟩ := by rw [hx, EW.out, List.set_append_left _ _ hwm]
        have hxl : x.wishes.length = s.wishes.length + 1 := hsp.sp.nw
        have hsx : StoreAt V8 V8.heap.size x := by
          have h1 := hK8.st
          have h2 : At V8 V8.heap.size 5 Wish.cells (some ⟨g, 0, none⟩) x.wishes := by rw [hxw, hz8]; exact hat8
          refine ⟨by rw [hx]; exact h1.sheets, by rw [hx]; exact h1.lics, by rw [hx]; exact h1.makes, by rw [hx]; exact h1.takes, by rw [show x.A4 = some ⟨g, 0, none⟩ by rw [hx]]; exact h2, by rw [hx]; exact h1.l1, by rw [hx]; exact h1.l2, by rw [hx]; exact h1.l3, by rw [hxl]; omega⟩
        have hbx : SBox V8 g12 x := by
          refine ⟨(Array.getElem?_eq_some_iff.1 r12).1, (cell_of_row V8 _ 0 _ _ _ r12).trans (by rw [hx]; rfl), (cell_of_row V8 _ 1 _ _ _ r12).trans (by rw [hx]; rfl), (cell_of_row V8 _ 2 _ _ _ r12).trans (by rw [hx]; rfl), (cell_of_row V8 _ 3 _ _ _ r12).trans (by rw [hxl, hx]; rfl)⟩
        have K8 := Lib.hid (show SWk s x w.heap.size g12 V8 from ⟨hK8, hbx, hsx⟩)
        have B8 := Lib.hid (B3.out.trans (hB8.mono B3.out.size))
        have HX := Lib.hid hsp
        have hset : set < 2 ^ s.wishes.length := by rw [← HP2.out]; omega
        have HSET := Lib.hid hset
        have hbe := bit_eqG set i (by omega)
        have hor : has set i = true → bits BinOp.or IntKind.i64 (set : Int) (P2 : Int) = ((bothS s i set : Nat) : Int) := fun hb => by
          rw [HP2.out, i64_or_add hset (by omega)]; unfold bothS; rw [if_pos hb]
        obtain ⟨xp, yp, hxy⟩ : ∃ u v, profitS s (set : Nat) = (u, v) := ⟨_, _, rfl⟩
        have HPS := Lib.hid (fun (W : World) (h1 : StoreAt W W.heap.size s) (h2 : Env W) => (show Calls Tryd.prog 23 #[.agg #[.slice s.A1 s.sheets.length s.c1, .slice s.A2 s.lics.length s.c2, .slice s.A3 s.makes.length s.c3, .slice s.A4 s.wishes.length s.c4], .int .i64 (set : Nat)] W (RetP (xp, yp) (acceptedS s (set : Nat)) W) from by have := Profit23_any s (set : Nat) W h1 h2; rw [hxy] at this; exact this))
        have HMS := Lib.hid (fun (W : World) (h1 : StoreAt W W.heap.size s) (h2 : Env W) => May16_any s (set : Nat) W h1 h2)
        have HLS := Lib.hid (fun (W : World) (h1 : StoreAt W W.heap.size s) (h2 : Env W) => Lacks19_any s (set : Nat) W h1 h2)
        have H14X := Lib.hid (fun (y : Nat) (hy : y = bothS s i set) (W : World) (h1 : StoreAt W W.heap.size x) (h2 : Env W) => split14x hsp hset hy W h1 h2)
        have H16X := Lib.hid (fun (y : Nat) (hy : y = bothS s i set) (W : World) (h1 : StoreAt W W.heap.size x) (h2 : Env W) => split16x hsp hset hy W h1 h2)
        have H19X := Lib.hid (fun (y : Nat) (hy : y = bothS s i set) (W : World) (h1 : StoreAt W W.heap.size x) (h2 : Env W) => split19x hsp hset hy W h1 h2)
        have H23X := Lib.hid (fun (y : Nat) (hy : y = bothS s i set) (W : World) (h1 : StoreAt W W.heap.size x) (h2 : Env W) => (show Calls Tryd.prog 23 #[.agg #[.slice x.A1 x.sheets.length x.c1, .slice x.A2 x.lics.length x.c2, .slice x.A3 x.makes.length x.c3, .slice x.A4 x.wishes.length x.c4], .int .i64 (y : Nat)] W (RetP (xp, yp) (acceptedS s (set : Nat)) W) from by have := split23x hsp hset hy W h1 h2; rw [hxy] at this; exact this))
        obtain ⟨av, hav⟩ : ∃ av, av = acceptedS s (set : Nat) := ⟨_, rfl⟩
        rw [← hav] at HPS HMS HLS H16X H19X H23X
        have hnl := lenIf_le av s.sheets.length
        obtain ⟨nl, hnle⟩ : ∃ nl, nl = lenIf av s.sheets.length := ⟨_, rfl⟩
        rw [← hnle] at HLS H19X hnl
        obtain ⟨m1, hm1⟩ : ∃ m1, m1 = mayS s (set : Nat) := ⟨_, rfl⟩
        rw [← hm1] at HMS
        have hns := Hok.out.ns
        have hq : ∀ W, (binOp .eql 44 (.agg #[.int .i64 xp, .int .i64 yp]) (.agg #[.int .i64 xp, .int .i64 yp])).run Tryd.prog W = .ok (.bool true) W := fun W => by rw [span_eql]; simp
        clear hav hnle hm1 hx hsp hxw hxl hsx hbx hK8 hxy hat8 hat r12 r12' r10' hown hcur y0 y1 y2 y3 y4 z0 z1 z2 z3 z4 c12 x0 x1 x2 x3 x4 hB7 hB8 hiz hz8 hgl hg K3 B3 K6 d1 d2 d3 d4 htm
        obtain ⟨-, -, -, p0, p1, p2, p3⟩ := id K8.out.aw
        obtain ⟨-, q0, q1, q2, q3⟩ := id K8.out.x5
        cases hhas : has set i
        · have hbit : (bits BinOp.and IntKind.i64 ((set : Int) / 2 ^ i) 1 == 1) = false := by rw [hbe, hhas]; rfl
          have hy : set = bothS s i set := by unfold bothS; rw [if_neg (by rw [hhas]; simp)]
          have HY := Lib.hid hy
          clear hbe hor hy hset
          go_wp2_with fail
          refine (split14s HX.out HSET.out V8 K8.out.aw.st K8.out.aw.en).mono ?_
          rintro e V9 ⟨Aa, ca, rfl, hA, hb⟩
          have K9 := Lib.hid (K8.out.next hb)
          have B9 := Lib.hid (B8.out.trans (hb.mono B8.out.size))
          have Ta9 := Lib.hid hA
          clear hb K8 B8 hA p0 p1 p2 p3 q0 q1 q2 q3
          obtain ⟨-, -, -, p0, p1, p2, p3⟩ := id K9.out.aw
          obtain ⟨-, q0, q1, q2, q3⟩ := id K9.out.x5
          go_wp2_with fail
          refine (H14X.out set HY.out V9 K9.out.s5 K9.out.aw.en).mono ?_
          rintro e V10 ⟨Ab, cb, rfl, hA, hb⟩
          have K10 := Lib.hid (K9.out.next hb)
          have B10 := Lib.hid (B9.out.trans (hb.mono B9.out.size))
          have Ta10 := Lib.hid (Ta9.out.nextB hb)
          have Tb10 := Lib.hid hA
          clear hb K9 B9 Ta9 hA p0 p1 p2 p3 q0 q1 q2 q3
          obtain ⟨-, -, -, p0, p1, p2, p3⟩ := id K10.out.aw
          obtain ⟨-, q0, q1, q2, q3⟩ := id K10.out.x5
          go_wp2_with fail
          refine (HMS.out V10 K10.out.aw.st K10.out.aw.en).mono ?_
          rintro e V11 ⟨rfl, hb⟩
          have K11 := Lib.hid (K10.out.next hb)
          have B11 := Lib.hid (B10.out.trans (hb.mono B10.out.size))
          have Ta11 := Lib.hid (Ta10.out.nextB hb)
          have Tb11 := Lib.hid (Tb10.out.nextB hb)
          clear hb K10 B10 Ta10 Tb10 p0 p1 p2 p3 q0 q1 q2 q3
          obtain ⟨-, -, -, p0, p1, p2, p3⟩ := id K11.out.aw
          obtain ⟨-, q0, q1, q2, q3⟩ := id K11.out.x5
          go_wp2_with fail
          obtain ⟨m2, H16⟩ := H16X.out set HY.out V11 K11.out.s5 K11.out.aw.en
          refine (H16).mono ?_
          rintro e V12 ⟨rfl, hb⟩
          have K12 := Lib.hid (K11.out.next hb)
          have B12 := Lib.hid (B11.out.trans (hb.mono B11.out.size))
          have Ta12 := Lib.hid (Ta11.out.nextB hb)
          have Tb12 := Lib.hid (Tb11.out.nextB hb)
          clear hb K11 B11 Ta11 Tb11 p0 p1 p2 p3 q0 q1 q2 q3
          obtain ⟨-, -, -, p0, p1, p2, p3⟩ := id K12.out.aw
          obtain ⟨-, q0, q1, q2, q3⟩ := id K12.out.x5
          go_wp2_with fail
          clear H16
          refine (HLS.out V12 K12.out.aw.st K12.out.aw.en).mono ?_
          rintro e V13 ⟨Al, cl, rfl, hA, hb⟩
          have K13 := Lib.hid (K12.out.next hb)
          have B13 := Lib.hid (B12.out.trans (hb.mono B12.out.size))
          have Ta13 := Lib.hid (Ta12.out.nextB hb)
          have Tb13 := Lib.hid (Tb12.out.nextB hb)
          have Tl13 := Lib.hid hA
          clear hb K12 B12 Ta12 Tb12 hA p0 p1 p2 p3 q0 q1 q2 q3
          obtain ⟨-, -, -, p0, p1, p2, p3⟩ := id K13.out.aw
          obtain ⟨-, q0, q1, q2, q3⟩ := id K13.out.x5
          go_wp2_with fail
          refine (H19X.out set HY.out V13 K13.out.s5 K13.out.aw.en).mono ?_
          rintro e V14 ⟨Ao, co, rfl, hA, hb⟩
          have K14 := Lib.hid (K13.out.next hb)
          have B14 := Lib.hid (B13.out.trans (hb.mono B13.out.size))
          have Ta14 := Lib.hid (Ta13.out.nextB hb)
          have Tb14 := Lib.hid (Tb13.out.nextB hb)
          have Tl14 := Lib.hid (Tl13.out.nextB hb)
          have To14 := Lib.hid hA
          clear hb K13 B13 Ta13 Tb13 Tl13 hA p0 p1 p2 p3 q0 q1 q2 q3
          obtain ⟨-, -, -, p0, p1, p2, p3⟩ := id K14.out.aw
          obtain ⟨-, q0, q1, q2, q3⟩ := id K14.out.x5
          go_wp2_with fail
          refine (HPS.out V14 K14.out.aw.st K14.out.aw.en).mono ?_
          rintro e V15 ⟨rfl, hb⟩
          dsimp only
          replace hb := hb.alloc hb.size (.cells #[.int .i64 xp, .int .i64 yp] 44)
          have Pp15 := Lib.hid (IBlk.span V15 xp yp 44)
          have K15 := Lib.hid (K14.out.next hb)
          have B15 := Lib.hid (B14.out.trans (hb.mono B14.out.size))
          have Ta15 := Lib.hid (Ta14.out.nextB hb)
          have Tb15 := Lib.hid (Tb14.out.nextB hb)
          have Tl15 := Lib.hid (Tl14.out.nextB hb)
          have To15 := Lib.hid (To14.out.nextB hb)
          clear hb K14 B14 Ta14 Tb14 Tl14 To14 p0 p1 p2 p3 q0 q1 q2 q3
          obtain ⟨-, -, -, p0, p1, p2, p3⟩ := id K15.out.aw
          obtain ⟨-, q0, q1, q2, q3⟩ := id K15.out.x5
          go_wp2_with fail
          generalize (V15.alloc (.cells #[.int .i64 xp, .int .i64 yp] 44)) = W15 at *
          generalize V15.heap.size = gPp at *
          refine (H23X.out set HY.out W15 K15.out.s5 K15.out.aw.en).mono ?_
          rintro e V16 ⟨rfl, hb⟩
          dsimp only
          replace hb := hb.alloc hb.size (.cells #[.int .i64 xp, .int .i64 yp] 44)
          have Pq16 := Lib.hid (IBlk.span V16 xp yp 44)
          have K16 := Lib.hid (K15.out.next hb)
          have B16 := Lib.hid (B15.out.trans (hb.mono B15.out.size))
          have Ta16 := Lib.hid (Ta15.out.nextB hb)
          have Tb16 := Lib.hid (Tb15.out.nextB hb)
          have Tl16 := Lib.hid (Tl15.out.nextB hb)
          have To16 := Lib.hid (To15.out.nextB hb)
          have Pp16 := Lib.hid (Pp15.out.next hb)
          clear hb K15 B15 Ta15 Tb15 Tl15 To15 Pp15 p0 p1 p2 p3 q0 q1 q2 q3
          obtain ⟨-, -, -, p0, p1, p2, p3⟩ := id K16.out.aw
          obtain ⟨-, q0, q1, q2, q3⟩ := id K16.out.x5
          go_wp2_with fail
          generalize (V16.alloc (.cells #[.int .i64 xp, .int .i64 yp] 44)) = W16 at *
          generalize V16.heap.size = gPq at *
          clear p0 p1 p2 p3 q0 q1 q2 q3 HPS HMS HLS H14X H16X H19X H23X
          refine (ints_tab s.sheets.length (takeS s set) (by omega) Ta16.out Tb16.out).mono ?_
          rintro e V17 ⟨rfl, hb⟩
          have K17 := Lib.hid (K16.out.next hb)
          have Tl17 := Lib.hid (Tl16.out.nextB hb)
          have To17 := Lib.hid (To16.out.nextB hb)
          have Pp17 := Lib.hid (Pp16.out.next hb)
          have Pq17 := Lib.hid (Pq16.out.next hb)
          have B17 := Lib.hid (B16.out.trans (hb.mono B16.out.size))
          clear hb K16 B16 Ta16 Tb16 Tl16 To16 Pp16 Pq16
          go_wp2_with fail
          refine (spans_tab nl (lacksS s set) (by omega) Tl17.out To17.out).mono ?_
          rintro e V18 ⟨rfl, hb⟩
          have K18 := Lib.hid (K17.out.next hb)
          have Pp18 := Lib.hid (Pp17.out.next hb)
          have Pq18 := Lib.hid (Pq17.out.next hb)
          have B18 := Lib.hid (B17.out.trans (hb.mono B17.out.size))
          clear hb K17 B17 Tl17 To17 Pp17 Pq17
          obtain ⟨pp0, pp1⟩ := IBlk2.cells Pp18.out
          obtain ⟨pq0, pq1⟩ := IBlk2.cells Pq18.out
          go_wp2_with fail
          refine (awake_any V18 K18.out.aw.en).mono ?_
          rintro e V19 ⟨rfl, hb⟩
          have BE := Lib.hid (B18.out.trans (hb.mono B18.out.size))
          clear hb
          go_wp2
          go_ret
          exact ⟨rfl, BE.out⟩
        · have hbit : (bits BinOp.and IntKind.i64 ((set : Int) / 2 ^ i) 1 == 1) = true := by rw [hbe, hhas]; rfl
          have hor1 := hor hhas
          obtain ⟨y, hy⟩ : ∃ y : Nat, y = bothS s i set := ⟨_, rfl⟩
          rw [← hy] at hor1
          have HY := Lib.hid hy
          clear hbe hor hy hset
          go_wp2_with fail
          refine (split14s HX.out HSET.out V8 K8.out.aw.st K8.out.aw.en).mono ?_
          rintro e V9 ⟨Aa, ca, rfl, hA, hb⟩
          have K9 := Lib.hid (K8.out.next hb)
          have B9 := Lib.hid (B8.out.trans (hb.mono B8.out.size))
          have Ta9 := Lib.hid hA
          clear hb K8 B8 hA p0 p1 p2 p3 q0 q1 q2 q3
          obtain ⟨-, -, -, p0, p1, p2, p3⟩ := id K9.out.aw
          obtain ⟨-, q0, q1, q2, q3⟩ := id K9.out.x5
          go_wp2_with fail
          refine (H14X.out y HY.out V9 K9.out.s5 K9.out.aw.en).mono ?_
          rintro e V10 ⟨Ab, cb, rfl, hA, hb⟩
          have K10 := Lib.hid (K9.out.next hb)
          have B10 := Lib.hid (B9.out.trans (hb.mono B9.out.size))
          have Ta10 := Lib.hid (Ta9.out.nextB hb)
          have Tb10 := Lib.hid hA
          clear hb K9 B9 Ta9 hA p0 p1 p2 p3 q0 q1 q2 q3
          obtain ⟨-, -, -, p0, p1, p2, p3⟩ := id K10.out.aw
          obtain ⟨-, q0, q1, q2, q3⟩ := id K10.out.x5
          go_wp2_with fail
          refine (HMS.out V10 K10.out.aw.st K10.out.aw.en).mono ?_
          rintro e V11 ⟨rfl, hb⟩
          have K11 := Lib.hid (K10.out.next hb)
          have B11 := Lib.hid (B10.out.trans (hb.mono B10.out.size))
          have Ta11 := Lib.hid (Ta10.out.nextB hb)
          have Tb11 := Lib.hid (Tb10.out.nextB hb)
          clear hb K10 B10 Ta10 Tb10 p0 p1 p2 p3 q0 q1 q2 q3
          obtain ⟨-, -, -, p0, p1, p2, p3⟩ := id K11.out.aw
          obtain ⟨-, q0, q1, q2, q3⟩ := id K11.out.x5
          go_wp2_with fail
          obtain ⟨m2, H16⟩ := H16X.out y HY.out V11 K11.out.s5 K11.out.aw.en
          refine (H16).mono ?_
          rintro e V12 ⟨rfl, hb⟩
          have K12 := Lib.hid (K11.out.next hb)
          have B12 := Lib.hid (B11.out.trans (hb.mono B11.out.size))
          have Ta12 := Lib.hid (Ta11.out.nextB hb)
          have Tb12 := Lib.hid (Tb11.out.nextB hb)
          clear hb K11 B11 Ta11 Tb11 p0 p1 p2 p3 q0 q1 q2 q3
          obtain ⟨-, -, -, p0, p1, p2, p3⟩ := id K12.out.aw
          obtain ⟨-, q0, q1, q2, q3⟩ := id K12.out.x5
          go_wp2_with fail
          clear H16
          refine (HLS.out V12 K12.out.aw.st K12.out.aw.en).mono ?_
          rintro e V13 ⟨Al, cl, rfl, hA, hb⟩
          have K13 := Lib.hid (K12.out.next hb)
          have B13 := Lib.hid (B12.out.trans (hb.mono B12.out.size))
          have Ta13 := Lib.hid (Ta12.out.nextB hb)
          have Tb13 := Lib.hid (Tb12.out.nextB hb)
          have Tl13 := Lib.hid hA
          clear hb K12 B12 Ta12 Tb12 hA p0 p1 p2 p3 q0 q1 q2 q3
          obtain ⟨-, -, -, p0, p1, p2, p3⟩ := id K13.out.aw
          obtain ⟨-, q0, q1, q2, q3⟩ := id K13.out.x5
          go_wp2_with fail
          refine (H19X.out y HY.out V13 K13.out.s5 K13.out.aw.en).mono ?_
          rintro e V14 ⟨Ao, co, rfl, hA, hb⟩
          have K14 := Lib.hid (K13.out.next hb)
          have B14 := Lib.hid (B13.out.trans (hb.mono B13.out.size))
          have Ta14 := Lib.hid (Ta13.out.nextB hb)
          have Tb14 := Lib.hid (Tb13.out.nextB hb)
          have Tl14 := Lib.hid (Tl13.out.nextB hb)
          have To14 := Lib.hid hA
          clear hb K13 B13 Ta13 Tb13 Tl13 hA p0 p1 p2 p3 q0 q1 q2 q3
          obtain ⟨-, -, -, p0, p1, p2, p3⟩ := id K14.out.aw
          obtain ⟨-, q0, q1, q2, q3⟩ := id K14.out.x5
          go_wp2_with fail
          refine (HPS.out V14 K14.out.aw.st K14.out.aw.en).mono ?_
          rintro e V15 ⟨rfl, hb⟩
          dsimp only
          replace hb := hb.alloc hb.size (.cells #[.int .i64 xp, .int .i64 yp] 44)
          have Pp15 := Lib.hid (IBlk.span V15 xp yp 44)
          have K15 := Lib.hid (K14.out.next hb)
          have B15 := Lib.hid (B14.out.trans (hb.mono B14.out.size))
          have Ta15 := Lib.hid (Ta14.out.nextB hb)
          have Tb15 := Lib.hid (Tb14.out.nextB hb)
          have Tl15 := Lib.hid (Tl14.out.nextB hb)
          have To15 := Lib.hid (To14.out.nextB hb)
          clear hb K14 B14 Ta14 Tb14 Tl14 To14 p0 p1 p2 p3 q0 q1 q2 q3
          obtain ⟨-, -, -, p0, p1, p2, p3⟩ := id K15.out.aw
          obtain ⟨-, q0, q1, q2, q3⟩ := id K15.out.x5
          go_wp2_with fail
          generalize (V15.alloc (.cells #[.int .i64 xp, .int .i64 yp] 44)) = W15 at *
          generalize V15.heap.size = gPp at *
          refine (H23X.out y HY.out W15 K15.out.s5 K15.out.aw.en).mono ?_
          rintro e V16 ⟨rfl, hb⟩
          dsimp only
          replace hb := hb.alloc hb.size (.cells #[.int .i64 xp, .int .i64 yp] 44)
          have Pq16 := Lib.hid (IBlk.span V16 xp yp 44)
          have K16 := Lib.hid (K15.out.next hb)
          have B16 := Lib.hid (B15.out.trans (hb.mono B15.out.size))
          have Ta16 := Lib.hid (Ta15.out.nextB hb)
          have Tb16 := Lib.hid (Tb15.out.nextB hb)
          have Tl16 := Lib.hid (Tl15.out.nextB hb)
          have To16 := Lib.hid (To15.out.nextB hb)
          have Pp16 := Lib.hid (Pp15.out.next hb)
          clear hb K15 B15 Ta15 Tb15 Tl15 To15 Pp15 p0 p1 p2 p3 q0 q1 q2 q3
          obtain ⟨-, -, -, p0, p1, p2, p3⟩ := id K16.out.aw
          obtain ⟨-, q0, q1, q2, q3⟩ := id K16.out.x5
          go_wp2_with fail
          generalize (V16.alloc (.cells #[.int .i64 xp, .int .i64 yp] 44)) = W16 at *
          generalize V16.heap.size = gPq at *
          clear p0 p1 p2 p3 q0 q1 q2 q3 HPS HMS HLS H14X H16X H19X H23X
          refine (ints_tab s.sheets.length (takeS s set) (by omega) Ta16.out Tb16.out).mono ?_
          rintro e V17 ⟨rfl, hb⟩
          have K17 := Lib.hid (K16.out.next hb)
          have Tl17 := Lib.hid (Tl16.out.nextB hb)
          have To17 := Lib.hid (To16.out.nextB hb)
          have Pp17 := Lib.hid (Pp16.out.next hb)
          have Pq17 := Lib.hid (Pq16.out.next hb)
          have B17 := Lib.hid (B16.out.trans (hb.mono B16.out.size))
          clear hb K16 B16 Ta16 Tb16 Tl16 To16 Pp16 Pq16
          go_wp2_with fail
          refine (spans_tab nl (lacksS s set) (by omega) Tl17.out To17.out).mono ?_
          rintro e V18 ⟨rfl, hb⟩
          have K18 := Lib.hid (K17.out.next hb)
          have Pp18 := Lib.hid (Pp17.out.next hb)
          have Pq18 := Lib.hid (Pq17.out.next hb)
          have B18 := Lib.hid (B17.out.trans (hb.mono B17.out.size))
          clear hb K17 B17 Tl17 To17 Pp17 Pq17
          obtain ⟨pp0, pp1⟩ := IBlk2.cells Pp18.out
          obtain ⟨pq0, pq1⟩ := IBlk2.cells Pq18.out
          go_wp2_with fail
          refine (awake_any V18 K18.out.aw.en).mono ?_
          rintro e V19 ⟨rfl, hb⟩
          have BE := Lib.hid (B18.out.trans (hb.mono B18.out.size))
          clear hb
          go_wp2
          go_ret
          exact ⟨rfl, BE.out⟩
  · go_wp2_with fail
    refine (awake_any V2 K2.out.en).mono ?_
    rintro e VZ ⟨rfl, hb⟩
    have BZ := Lib.hid (B2.out.trans (hb.mono B2.out.size))
    clear hb
    go_wp2
    go_ret
    exact ⟨rfl, BZ.out⟩
end Go.Proofs.YtfffhbolaimmdaaDoor
