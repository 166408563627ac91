import Derived.Test.YtkcfpnpejaekjaaDoorP8
import Derived.Laws.AppendOwn
import Derived.Maps.AppendAt
namespace Go.Proofs.YtkcfpnpejaekjaaDoor
open Go.RowKit
/-! Words for lists that a call makes. -/
theorem flat_get {α : Type} {cells : α → List Value} {size : Nat} (hs : ∀ x, (cells x).length = size) : ∀ (l : List α) (k : Nat) (x : α) (j : Nat) (u : Value), l[k]? = some x → (cells x)[j]? = some u → (l.flatMap cells)[k * size + j]? = some u
  | [], k, x, j, u, h, _ => by simp at h
  | y :: l, 0, x, j, u, h, hu => by
    rw [List.getElem?_cons_zero] at h
    injection h with h
    subst h
    have hj := (List.getElem?_eq_some_iff.1 hu).1
    rw [List.flatMap_cons, Nat.zero_mul, Nat.zero_add, List.getElem?_append_left hj]
    exact hu
  | y :: l, k + 1, x, j, u, h, hu => by
    rw [List.getElem?_cons_succ] at h
    rw [List.flatMap_cons, List.getElem?_append_right (by rw [hs y, Nat.add_mul]; omega), hs y, show (k + 1) * size + j - size = k * size + j by rw [Nat.add_mul]; omega]
    exact flat_get hs l k x j u h hu
theorem own_at {α : Type} {cells : α → List Value} {size : Nat} (hs : ∀ x, (cells x).length = size) (h0 : 0 < size) {w : World} {base : Nat} {e : TypeId} {v : Value} {l : List α} (h : w.ownsRow base e size v l.length (l.flatMap cells)) :
    ∃ A c, v = .slice A l.length c ∧ At w w.heap.size size cells A l := by
  obtain ⟨A, c, rfl, hc⟩ := own_form h
  refine ⟨A, c, rfl, fun k x hx => ?_⟩
  have hp0 : 0 < (cells x).length := by rw [hs x]; exact h0
  have g0 : (cells x)[0]? = some ((cells x)[0]'hp0) := List.getElem?_eq_getElem hp0
  obtain ⟨b, e, -, hb, -⟩ := hc _ _ (flat_get hs l k x 0 _ hx g0)
  refine ⟨b, 0, e, hb, fun j u hu => ?_⟩
  obtain ⟨b', e', -, -, hcell⟩ := hc _ _ (flat_get hs l k x j u hx hu)
  rw [e] at e'
  injection e' with e'
  injection e' with e1
  subst e1
  rw [Nat.zero_add]
  exact hcell
theorem own_apart {w : World} {base base' e e' size size' : Nat} {v v' : Value} {n n' : Nat} {xs xs' : List Value} (h : w.ownsRow base e size v n xs) (h' : w.ownsRow base' e' size' v' n' xs') (he : e ≠ e') : v.ownBlock = none ∨ v.ownBlock ≠ v'.ownBlock := by
  rcases h.2 with ⟨rfl, -⟩ | ⟨g, cap, cur, rfl, -, hh, -⟩
  · exact .inl rfl
  · right
    intro eq
    rcases h'.2 with ⟨rfl, -⟩ | ⟨g', cap', cur', rfl, -, hh', -⟩
    · cases eq
    · injection eq with eq
      simp only at eq
      rw [eq, hh'] at hh
      injection hh with hh
      injection hh with _ h2 _
      exact he h2.symm
theorem Bx.grown {W W' : World} {row : Option Nat} {b : Nat} {vs : List Value} (h : Bx W b vs) (hg : W.grownBy W' row) (hr : row ≠ some b) : Bx W' b vs :=
  have hk := hg.block b h.lt (fun e => hr e.symm)
  ⟨Nat.lt_of_lt_of_le h.lt hg.size, fun j u hu => (World.cell?_of_block (a := ⟨b, j, none⟩) hk).trans (h.c j u hu), fun j => (World.frozen?_of_block (a := ⟨b, j, none⟩) hk).trans (h.fr j)⟩
theorem own_row_ne {w : World} {base b : Nat} {e : TypeId} {size : Nat} {v : Value} {n : Nat} {xs : List Value} (h : w.ownsRow base e size v n xs) (hb : b < base) : v.ownBlock ≠ some b := fun e => by have := (h.lt b e).1; omega
theorem At.pre {α : Type} {w : World} {B size : Nat} {cells : α → List Value} {A : Option Addr} {l z : List α} (h : At w B size cells A (l ++ z)) : At w B size cells A l := fun k x hx =>
  h k x (by rw [List.getElem?_append_left (List.getElem?_eq_some_iff.1 hx).1]; exact hx)
theorem At.drop {α : Type} {w : World} {B size b off : Nat} {cells : α → List Value} {l : List α} (h : At w B size cells (some ⟨b, off, none⟩) l) (n : Nat) : At w B size cells (some ⟨b, off + n * size, none⟩) (l.drop n) := fun k x hx => by
  rw [List.getElem?_drop] at hx
  obtain ⟨b', off', e, hb, hc⟩ := h _ _ hx
  injection e with e
  injection e with e1 e2
  subst e1 e2
  refine ⟨b, _, rfl, hb, fun j u hu => ?_⟩
  have := hc j u hu
  rw [Nat.add_mul] at this
  rw [Nat.add_assoc off]
  exact this
theorem flat_inv {α : Type} {cells : α → List Value} {size : Nat} (hs : ∀ x, (cells x).length = size) : ∀ (l : List α) (j : Nat) (u : Value), (l.flatMap cells)[j]? = some u → ∃ k x r, l[k]? = some x ∧ (cells x)[r]? = some u ∧ j = k * size + r
  | [], j, u, h => by simp at h
  | y :: l, j, u, h => by
    rw [List.flatMap_cons] at h
    by_cases hj : j < size
    · rw [List.getElem?_append_left (by rw [hs]; exact hj)] at h
      exact ⟨0, y, j, rfl, h, by omega⟩
    · rw [List.getElem?_append_right (by rw [hs]; omega), hs] at h
      obtain ⟨k, x, r, h1, h2, h3⟩ := flat_inv hs l _ u h
      exact ⟨k + 1, x, r, by rw [List.getElem?_cons_succ]; exact h1, h2, by rw [Nat.add_mul]; omega⟩
theorem At.news {α : Type} {w : World} {B size b off : Nat} {cells : α → List Value} {l : List α} (hs : ∀ x, (cells x).length = size) (h : At w B size cells (some ⟨b, off, none⟩) l) : ∀ j u, (l.flatMap cells)[j]? = some u → w.cell? ((⟨b, off, none⟩ : Addr).add j) = some u := fun j u hu => by
  obtain ⟨k, x, r, h1, h2, rfl⟩ := flat_inv hs l j u hu
  obtain ⟨b', off', e, hb, hc⟩ := h _ _ h1
  injection e with e
  injection e with e1 e2
  subst e1 e2
  have := hc r u h2
  have hadd : (⟨b, off, none⟩ : Addr).add (k * size + r) = ⟨b, off + (k * size + r), none⟩ := by unfold Addr.add; split <;> simp_all
  rw [hadd, ← Nat.add_assoc]
  exact this
theorem flat_len {α : Type} {cells : α → List Value} {size : Nat} (hs : ∀ x, (cells x).length = size) : ∀ l : List α, (l.flatMap cells).length = l.length * size
  | [] => by simp
  | y :: l => by rw [List.flatMap_cons, List.length_append, hs, flat_len hs l, List.length_cons, Nat.add_mul]; omega
theorem step_append_any {P : Program} {w : World} {ops : Array Oper} {o : Oper} {a : Act} {K : Act → World → Prop} {Q : Exit → Act → World → Prop} {E : Prop} (hgd : o.guard = none) (s x : Operand) (t : TypeId)
    (ho : o.op = .call { callee := .builtin .append, args := #[s, x], argTypes := #[t, t] })
    (base : Nat) (e : TypeId) (i : TypeInfo) (z : Value) (size bytes : Nat) (ht : P.underlying t = some (.slice e)) (hi : P.info? e = some i) (hz : i.zero = some z)
    (hsize : i.size = size) (hby : i.bytes = bytes) (hzs : z.cells.size = size) (hsz : 0 < size)
    (v : Value) (n : Nat) (xs : List Value) (hs : a.eval s = v) (hown : w.ownsRow base e size v n xs)
    (ad : Addr) (m c : Nat) (news : List Value) (hx : a.eval x = .slice (some ad) m c) (hl : news.length = m * size) (hnews : ∀ j u, news[j]? = some u → w.cell? (ad.add j) = some u) (h1 : ∀ u ∈ news, u.oneCell' = true)
    (h63 : n + m ≤ maxLen) (hbytes : (n + m) * bytes ≤ 140737488355328) (hbase : base ≤ w.heap.size)
    (h : ∀ v' w', w'.ownsRow base e size v' (n + m) (xs ++ news) → w.grownBy w' v.ownBlock → K (a.put o.dst v') w') :
    if Region.wanted o (yielded ops a.tmps) = true then Oper.wp P o a w K Q else E := by
  have hw : Region.wanted o (yielded ops a.tmps) = true := by simp [Region.wanted, hgd]
  rw [if_pos hw]
  obtain ⟨v', w', hr, h2, h3, -, -⟩ := run_append_own_at (P := P) w base t o.type e i z size bytes ht hi hz hsize hby hzs hsz v n xs hown ad m c news hl hnews h1 h63 hbytes hbase
  unfold Oper.wp execOp
  simp only [ho, resolve, invoke, builtin, Sem.run_bind, Sem.run_pure, Result.andThen_ok, List.map_toArray, List.map_cons, List.map_nil, hs, hx, hr]
  exact h v' w' h2 h3
theorem grown_from {B : Nat} {V W W' : World} {row : Option Nat} (hb : Below B V W) (h : W.grownBy W' row) (hs : B ≤ W.heap.size) (hr : ∀ g, row = some g → B ≤ g) : Below B V W' :=
  ⟨h.os.trans hb.os, h.tape.trans hb.tape, h.output.trans hb.output, Nat.le_trans hb.size h.size, fun k hk => (h.block k (by omega) (fun e => by have := hr k e.symm; omega)).trans (hb.block k hk)⟩
theorem own_empty {W : World} {H base size : Nat} {e : TypeId} (h : W.heap[H]? = some (.cells #[] e (0, 0))) (hb : base ≤ H) : W.ownsRow base e size (.slice (some ⟨H, 0, none⟩) 0 0) 0 [] :=
  ⟨by simp, .inr ⟨H, 0, #[], rfl, hb, h, Nat.le_refl _, by unfold maxLen; omega, by simp, by simp⟩⟩
theorem At.pre' {α : Type} {w : World} {B size : Nat} {cells : α → List Value} {A : Option Addr} {l l0 z : List α} (h : At w B size cells A l) (e : l = l0 ++ z) : At w B size cells A l0 := by subst e; exact h.pre
theorem wpList_append_none {P : Program} {w : World} {ops : Array Oper} {rest : List Oper} {o : Oper} {a : Act} {Q : Exit → Act → World → Prop} (hgd : o.guard = none) (s x : Operand) (t : TypeId)
    (ho : o.op = .call { callee := .builtin .append, args := #[s, x], argTypes := #[t, t] })
    (e : TypeId) (i : TypeInfo) (ht : P.underlying t = some (.slice e)) (hi : P.info? e = some i)
    (H c : Nat) (hs : a.eval s = .slice (some ⟨H, 0, none⟩) 0 0) (hx : a.eval x = .slice none 0 c) (h : wpList P ops Q rest (a.put o.dst (.slice (some ⟨H, 0, none⟩) 0 0)) w) : wpList P ops Q (o :: rest) a w := by
  refine wpList_plain hgd fun K hK => ?_
  have hr : (Builtin.append_ #[t, t] o.type #[.slice (some ⟨H, 0, none⟩) 0 0, .slice none 0 c]).run P w = .ok (.slice (some ⟨H, 0, none⟩) 0 0) w := by
    simp [Builtin.append_, run_underlying ht, sizeOf, typeInfo, hi, Builtin.lenOf, Builtin.firstCells, loadCells, loadCellsFrom, storeCells]
  unfold Oper.wp execOp
  simp only [ho, resolve, invoke, builtin, Sem.run_bind, Sem.run_pure, Result.andThen_ok, List.map_toArray, List.map_cons, List.map_nil, hs, hx, hr]
  exact hK _ _ h
theorem at_split {α : Type} {W : World} {B size : Nat} {cells : α → List Value} {A : Option Addr} {l : List α} (hs : ∀ x, (cells x).length = size) (h : At W B size cells A l) : (A = none ∧ l = []) ∨ ∃ a, A = some a ∧ ∀ W' B', At W' B' size cells A l → ∀ j u, (l.flatMap cells)[j]? = some u → W'.cell? (a.add j) = some u := by
  match l, h with
  | [], _ =>
    cases A with
    | none => exact .inl ⟨rfl, rfl⟩
    | some a => exact .inr ⟨a, rfl, fun W' B' _ j u hu => by simp at hu⟩
  | x :: l, h =>
    obtain ⟨b, off, e, -, -⟩ := h 0 x rfl
    subst e
    exact .inr ⟨_, rfl, fun W' B' h' => h'.news hs⟩
theorem wpList_append_list {α : Type} {cells : α → List Value} {P : Program} {w : World} {ops : Array Oper} {rest : List Oper} {o : Oper} {a : Act} {Q : Exit → Act → World → Prop} (hgd : o.guard = none) (s x : Operand) (t : TypeId)
    (ho : o.op = .call { callee := .builtin .append, args := #[s, x], argTypes := #[t, t] })
    (base : Nat) (e : TypeId) (i : TypeInfo) (z : Value) (size bytes : Nat) (ht : P.underlying t = some (.slice e)) (hi : P.info? e = some i) (hz : i.zero = some z)
    (hsize : i.size = size) (hby : i.bytes = bytes) (hzs : z.cells.size = size) (hsz : 0 < size) (hcs : ∀ y, (cells y).length = size) (h1 : ∀ y, ∀ u ∈ cells y, u.oneCell' = true)
    (v : Value) (n : Nat) (xs : List Value) (hs : a.eval s = v) (hown : w.ownsRow base e size v n xs) (hn : 1 ≤ n)
    (A : Option Addr) (l : List α) (c B : Nat) (hx : a.eval x = .slice A l.length c) (hat : At w B size cells A l)
    (h63 : n + l.length ≤ maxLen) (hbytes : (n + l.length) * bytes ≤ 140737488355328) (hbase : base ≤ w.heap.size)
    (h : ∀ v' w', w'.ownsRow base e size v' (n + l.length) (xs ++ l.flatMap cells) → w.grownBy w' v.ownBlock → wpList P ops Q rest (a.put o.dst v') w') : wpList P ops Q (o :: rest) a w := by
  rcases at_split hcs hat with ⟨rfl, rfl⟩ | ⟨ad, rfl, hcell⟩
  · refine wpList_plain hgd fun K hK => ?_
    obtain ⟨g, cap, rfl, hb, hlt⟩ := hown.form (by omega)
    have hcap : n ≤ cap := by
      rcases hown.2 with ⟨e1, _⟩ | ⟨g', cap', cur, e1, _, hh, hnc, _⟩
      · cases e1
      · injection e1 with _ _ e2
        omega
    have hr : (Builtin.append_ #[t, t] o.type #[.slice (some ⟨g, 0, none⟩) n cap, .slice none 0 c]).run P w = .ok (.slice (some ⟨g, 0, none⟩) n cap) w := by
      simp [Builtin.append_, run_underlying ht, sizeOf, typeInfo, hi, Builtin.lenOf, Builtin.firstCells, loadCells, storeCells, hcap]
    unfold Oper.wp execOp
    have hx' : a.eval x = .slice none 0 c := hx
    simp only [ho, resolve, invoke, builtin, Sem.run_bind, Sem.run_pure, Result.andThen_ok, List.map_toArray, List.map_cons, List.map_nil, hs, hx', hr]
    refine hK _ _ (h _ _ ?_ (World.grownBy.refl _ _))
    simpa using hown
  · refine wpList_append_own w hgd s x t ho base e i z size bytes ht hi hz hsize hby hzs hsz v n xs hs hown ad l.length c (l.flatMap cells) hx (flat_len hcs l) (hcell w B hat) (fun u hu => ?_) h63 hbytes hbase (fun v' w' h2 h3 _ => h v' w' h2 h3)
    obtain ⟨y, -, hy⟩ := List.mem_flatMap.1 hu
    exact h1 y u hy
def RwAt (W : World) (x : Value) (p : List Nat) : Prop := (p = [] ∧ x = .slice none 0 0) ∨ (p ≠ [] ∧ ∃ b c cur fr, x = .slice (some ⟨b, 0, none⟩) p.length c ∧ W.heap[b]? = some (.cells cur 3 fr) ∧ ∀ k, k < p.length → W.cell? ⟨b, k, none⟩ = some (.int .i64 ((p.getD k 0 : Nat) : Int)))
theorem own_block {w : World} {base : Nat} {e : TypeId} {size : Nat} {v : Value} {n : Nat} {xs : List Value} (h : w.ownsRow base e size v n xs) {g : Nat} (hg : v.ownBlock = some g) : ∃ cur, w.heap[g]? = some (.cells cur e (0, 0)) := by
  rcases h.2 with ⟨rfl, -⟩ | ⟨g', cap, cur, rfl, -, hh, -⟩
  · cases hg
  · injection hg with hg
    simp only at hg
    subst hg
    exact ⟨cur, hh⟩
theorem RwAt.grow {W W' : World} {x : Value} {p : List Nat} (h : RwAt W x p) {base : Nat} {size : Nat} {v : Value} {n : Nat} {xs : List Value} (hown : W.ownsRow base 24 size v n xs) (hg : W.grownBy W' v.ownBlock) : RwAt W' x p := by
  refine h.imp id ?_
  rintro ⟨h0, b, c, cur, fr, e, hh, hc⟩
  have hne : some b ≠ v.ownBlock := fun e' => by
    obtain ⟨cur', hh'⟩ := own_block hown e'.symm
    rw [hh] at hh'
    injection hh' with hh'
    injection hh' with _ h2 _
    exact absurd h2 (by decide)
  have hb := hg.block b (Array.getElem?_eq_some_iff.1 hh).1 hne
  exact ⟨h0, b, c, cur, fr, e, hb.trans hh, fun k hk => (World.cell?_of_block (a := ⟨b, k, none⟩) hb).trans (hc k hk)⟩
theorem RwAt.next {W W' : World} {x : Value} {p : List Nat} (h : RwAt W x p) (hb : Below W.heap.size W W') : RwAt W' x p := by
  refine h.imp id ?_
  rintro ⟨h0, b, c, cur, fr, e, hh, hc⟩
  have hbk := hb.block b (Array.getElem?_eq_some_iff.1 hh).1
  exact ⟨h0, b, c, cur, fr, e, hbk.trans hh, fun k hk => (World.cell?_of_block (a := ⟨b, k, none⟩) hbk).trans (hc k hk)⟩
theorem RwAt.of_own {W : World} {base : Nat} {v : Value} {p : List Nat} (hp : p ≠ []) (h : W.ownsRow base 3 1 v p.length (p.map fun k => Value.int .i64 ((k : Nat) : Int))) : RwAt W v p := by
  obtain ⟨g, cap, rfl, hb, hlt⟩ := h.form (List.length_pos_iff.2 hp)
  obtain ⟨cur, hh⟩ := own_block h rfl
  refine .inr ⟨hp, g, cap, cur, _, rfl, hh, fun k hk => ?_⟩
  rw [h.cellAt k (by omega), List.getElem?_map, List.getElem?_eq_getElem hk, List.getD_eq_getElem?_getD, List.getElem?_eq_getElem hk]; rfl
def RwsAt (W : World) (xs : List Value) (L : List (List Nat)) : Prop := xs.length = L.length ∧ ∀ (i : Nat) (x : Value) (p : List Nat), xs[i]? = some x → L[i]? = some p → RwAt W x p
theorem RwsAt.imp {W W' : World} {xs : List Value} {L : List (List Nat)} (h : RwsAt W xs L) (hi : ∀ x p, RwAt W x p → RwAt W' x p) : RwsAt W' xs L := ⟨h.1, fun i x p hx hp => hi x p (h.2 i x p hx hp)⟩
theorem RwsAt.app {W : World} {xs ys : List Value} {L M : List (List Nat)} (h : RwsAt W xs L) (k : RwsAt W ys M) : RwsAt W (xs ++ ys) (L ++ M) := by
  refine ⟨by rw [List.length_append, List.length_append, h.1, k.1], fun i x p hx hp => ?_⟩
  by_cases hi : i < xs.length
  · rw [List.getElem?_append_left hi] at hx
    rw [List.getElem?_append_left (by rw [← h.1]; exact hi)] at hp
    exact h.2 i x p hx hp
  · rw [List.getElem?_append_right (by omega)] at hx
    rw [List.getElem?_append_right (by rw [← h.1]; omega), ← h.1] at hp
    exact k.2 _ x p hx hp
theorem RwAt.one {W : World} {x : Value} {p : List Nat} (h : RwAt W x p) : x.oneCell' = true := by
  rcases h with ⟨-, rfl⟩ | ⟨-, b, c, cur, fr, rfl, -⟩ <;> rfl
/-- The block of what an append hands back is the old one or a new one. -/
theorem append_blk {P : Program} {w : World} {base : Nat} {t ty e : TypeId} {i : TypeInfo} {z : Value} {size bytes : Nat} (ht : P.underlying t = some (.slice e)) (hi : P.info? e = some i) (hz : i.zero = some z)
    (hsize : i.size = size) (hby : i.bytes = bytes) {v : Value} {n : Nat} {xs : List Value} (hown : w.ownsRow base e size v n xs)
    {a : Addr} {m c : Nat} {news : List Value} (hl : news.length = m * size) (hnews : ∀ j u, news[j]? = some u → w.cell? (a.add j) = some u) (h1 : ∀ u ∈ news, u.oneCell' = true)
    (h63 : n + m ≤ maxLen) (hbytes : (n + m) * bytes ≤ 140737488355328) (hm : 0 < m) {v' : Value} {w' : World}
    (hr : (Builtin.append_ #[t, t] ty #[v, .slice (some a) m c]).run P w = .ok v' w') : ∀ k, v'.ownBlock = some k → v.ownBlock = some k ∨ w.heap.size ≤ k := by
  subst hsize
  subst hby
  have hsmall : n + m ≤ 9223372036854775807 := by simp only [maxLen] at h63; omega
  intro k hk
  rcases hown.2 with ⟨rfl, rfl⟩ | ⟨g, cap, cur, rfl, hbg, hg, hnc, hcm, hcs, htake⟩
  · rw [run_append_nil (P := P) w t ty e i z ht hi hz a m c news hl hnews hm (by omega) (by have hb := hbytes; simp only [Nat.zero_add] at hb; omega)] at hr
    injection hr with h2 _
    rw [← h2] at hk
    injection hk with hk
    exact .inr (by simp only at hk; omega)
  · by_cases hroom : n + m ≤ cap
    · rw [run_append_room (P := P) w t ty e i ht hi g n cap cur hg a m c news hl hnews h1 hroom (by rw [hl, hcs, ← Nat.add_mul]; exact Nat.mul_le_mul_right _ hroom)] at hr
      injection hr with h2 _
      rw [← h2] at hk
      exact .inl hk
    · rw [run_append_grow (P := P) w t ty e i z ht hi hz ⟨g, 0, none⟩ n cap xs hown.1 (hown.cells (g := g) rfl) a m c news hl hnews (by omega) (by omega) (growslice_fits (by omega) hbytes)] at hr
      injection hr with h2 _
      rw [← h2] at hk
      injection hk with hk
      exact .inr (by simp only at hk; omega)
theorem wpList_append_blk {P : Program} {w : World} {ops : Array Oper} {rest : List Oper} {o : Oper} {a : Act} {Q : Exit → Act → World → Prop} (hgd : o.guard = none) (s x : Operand) (t : TypeId)
    (ho : o.op = .call { callee := .builtin .append, args := #[s, x], argTypes := #[t, t] })
    (base : Nat) (e : TypeId) (i : TypeInfo) (z : Value) (size bytes : Nat) (ht : P.underlying t = some (.slice e)) (hi : P.info? e = some i) (hz : i.zero = some z)
    (hsize : i.size = size) (hby : i.bytes = bytes) (hzs : z.cells.size = size) (hsz : 0 < size)
    (v : Value) (n : Nat) (xs : List Value) (hs : a.eval s = v) (hown : w.ownsRow base e size v n xs)
    (ad : Addr) (m c : Nat) (news : List Value) (hx : a.eval x = .slice (some ad) m c) (hl : news.length = m * size) (hnews : ∀ j u, news[j]? = some u → w.cell? (ad.add j) = some u) (h1 : ∀ u ∈ news, u.oneCell' = true)
    (h63 : n + m ≤ maxLen) (hbytes : (n + m) * bytes ≤ 140737488355328) (hbase : base ≤ w.heap.size) (hm : 0 < m)
    (h : ∀ v' w', w'.ownsRow base e size v' (n + m) (xs ++ news) → w.grownBy w' v.ownBlock → (∀ k, v'.ownBlock = some k → v.ownBlock = some k ∨ w.heap.size ≤ k) → wpList P ops Q rest (a.put o.dst v') w') : wpList P ops Q (o :: rest) a w := by
  refine wpList_plain hgd fun K hK => ?_
  obtain ⟨v', w', hr, h2, h3, -⟩ := run_append_own (P := P) w base t o.type e i z size bytes ht hi hz hsize hby hzs hsz v n xs hown ad m c news hl hnews h1 h63 hbytes hbase
  have h4 := append_blk (P := P) ht hi hz hsize hby hown hl hnews h1 h63 hbytes hm hr
  unfold Oper.wp execOp
  simp only [ho, resolve, invoke, builtin, Sem.run_bind, Sem.run_pure, Result.andThen_ok, List.map_toArray, List.map_cons, List.map_nil, hs, hx, hr]
  exact hK _ _ (h v' w' h2 h3 h4)
end Go.Proofs.YtkcfpnpejaekjaaDoor
