import Derived.Test.YtkcfpnpejaekjaaDoorC3
import Derived.Test.YtkcfpnpejaekjaaDoorR10
import Derived.Deep.DeepCutAuto
import Derived.Deep.CutRange
namespace Go.Proofs.YtkcfpnpejaekjaaDoor
open Go.RowKit
/-! Words for a list of looks that is made anew with some looks more, in a region that draws its order. -/
theorem own_le {w : World} {base : Nat} {e : TypeId} {size : Nat} {A : Option Addr} {n m cap : Nat} {xs : List Value} (h : w.ownsRow base e size (.slice A n cap) m xs) (hm : 0 < m) : m ≤ cap := by
  obtain ⟨g, cap', e0, -⟩ := h.form hm
  rcases h.2 with ⟨e1, -⟩ | ⟨g', cap', cur, e1, -, -, hnc, -⟩
  · rw [e0] at e1; cases e1
  · injection e1 with _ _ e2
    omega
theorem hold_alloc {K : Act → World → Prop} {a : Act} {W : World} {vs : Array Value} {t : TypeId}
    (h : ∀ W', Below W.heap.size W W' → Bx W' W.heap.size vs.toList → W'.heap[W.heap.size]? = some (.cells vs t (0, 0)) → K a W') : K a (W.alloc (.cells vs t)) :=
  h _ (nxA W _) (Bx.new W vs t) (heap_alloc_new W _)
theorem hold_alloc_drew {K : Act → World → Prop} {a : Act} {W : World} {vs : Array Value} {t : TypeId}
    (h : ∀ W', Below W.heap.size W W' → Bx W' W.heap.size vs.toList → W'.heap[W.heap.size]? = some (.cells vs t (0, 0)) → K a W') : K a (W.alloc (.cells vs t)).drew :=
  h _ (nxA W _).drew (Bx.new W vs t).drew (heap_alloc_new W _)
theorem sight_info : (Tryd.prog.info? 50).map (fun i => (i.zero, i.size, i.bytes)) = some (some (.agg #[.int .i64 0, .int .i64 0, .int .i64 0]), 3, 24) := by kernel_rfl
theorem sight_one : ∀ (x : Look), ∀ u ∈ x.cells, u.oneCell' = true := fun x u hu => by
  simp only [Look.cells, List.mem_cons, List.not_mem_nil, or_false] at hu
  rcases hu with rfl | rfl | rfl <;> rfl
theorem run_append_list {α : Type} {cells : α → List Value} {P : Program} {w : World} {ty : TypeId} (t : TypeId)
    (base : Nat) (e : TypeId) (i : TypeInfo) (z : Value) (size bytes : Nat) (ht : P.underlying t = some (.slice e)) (hi : P.info? e = some i) (hz : i.zero = some z)
    (hsize : i.size = size) (hby : i.bytes = bytes) (hzs : z.cells.size = size) (hsz : 0 < size) (hcs : ∀ y, (cells y).length = size) (h1 : ∀ y, ∀ u ∈ cells y, u.oneCell' = true)
    (v : Value) (n : Nat) (xs : List Value) (hown : w.ownsRow base e size v n xs)
    (A : Option Addr) (l : List α) (c B : Nat) (hat : At w B size cells A l)
    (h63 : n + l.length ≤ maxLen) (hbytes : (n + l.length) * bytes ≤ 140737488355328) (hbase : base ≤ w.heap.size) :
    ∃ v' w', (Builtin.append_ #[t, t] ty #[v, .slice A l.length c]).run P w = .ok v' w' ∧ w'.ownsRow base e size v' (n + l.length) (xs ++ l.flatMap cells) ∧ w.grownBy w' v.ownBlock := by
  rcases at_split hcs hat with ⟨rfl, rfl⟩ | ⟨ad, rfl, hcell⟩
  · refine ⟨v, w, ?_, by simpa using hown, World.grownBy.refl _ _⟩
    rcases hown.2 with ⟨rfl, e0⟩ | ⟨g, cap, cur, rfl, -, -, hnc, -⟩
    · simp [Builtin.append_, run_underlying ht, sizeOf, typeInfo, hi, Builtin.lenOf, Builtin.firstCells, loadCells, loadCellsFrom, storeCells, e0]
    · simp [Builtin.append_, run_underlying ht, sizeOf, typeInfo, hi, Builtin.lenOf, Builtin.firstCells, loadCells, loadCellsFrom, storeCells, hnc]
  · obtain ⟨v', w', hr, h2, h3, -⟩ := run_append_own (P := P) w base t ty e i z size bytes ht hi hz hsize hby hzs hsz v n xs hown ad l.length c (l.flatMap cells) (flat_len hcs l) (hcell w B hat) (fun u hu => by
      obtain ⟨y, -, hy⟩ := List.mem_flatMap.1 hu
      exact h1 y u hy) h63 hbytes hbase
    exact ⟨v', w', hr, h2, h3⟩
theorem step_append_list {α : Type} {cells : α → List Value} {P : Program} {w : World} {ops : Array Oper} {o : Oper} {a : Act} {K : Act → World → Prop} {Q : Exit → Act → World → Prop} {E : Prop} (hgd : o.guard = none) (s x : Operand) (t : TypeId)
    (ho : o.op = .call { callee := .builtin .append, args := #[s, x], argTypes := #[t, t] })
    (base : Nat) (e : TypeId) (i : TypeInfo) (z : Value) (size bytes : Nat) (ht : P.underlying t = some (.slice e)) (hi : P.info? e = some i) (hz : i.zero = some z)
    (hsize : i.size = size) (hby : i.bytes = bytes) (hzs : z.cells.size = size) (hsz : 0 < size) (hcs : ∀ y, (cells y).length = size) (h1 : ∀ y, ∀ u ∈ cells y, u.oneCell' = true)
    (v : Value) (n : Nat) (xs : List Value) (hs : a.eval s = v) (hown : w.ownsRow base e size v n xs)
    (A : Option Addr) (l : List α) (c B : Nat) (hx : a.eval x = .slice A l.length c) (hat : At w B size cells A l)
    (h63 : n + l.length ≤ maxLen) (hbytes : (n + l.length) * bytes ≤ 140737488355328) (hbase : base ≤ w.heap.size)
    (h : ∀ v' w', w'.ownsRow base e size v' (n + l.length) (xs ++ l.flatMap cells) → w.grownBy w' v.ownBlock → K (a.put o.dst v') w') :
    if Region.wanted o (yielded ops a.tmps) = true then Oper.wp P o a w K Q else E := by
  have hw : Region.wanted o (yielded ops a.tmps) = true := by simp [Region.wanted, hgd]
  rw [if_pos hw]
  obtain ⟨v', w', hr, h2, h3⟩ := run_append_list (P := P) (w := w) (ty := o.type) t base e i z size bytes ht hi hz hsize hby hzs hsz hcs h1 v n xs hown A l c B hat h63 hbytes hbase
  unfold Oper.wp execOp
  simp only [ho, resolve, invoke, builtin, Sem.run_bind, Sem.run_pure, Result.andThen_ok, List.map_toArray, List.map_cons, List.map_nil, hs, hx, hr]
  exact h v' w' h2 h3
theorem Bx.news {W : World} {b : Nat} {vs : List Value} (h : Bx W b vs) : ∀ j u, vs[j]? = some u → W.cell? ((⟨b, 0, none⟩ : Addr).add j) = some u := fun j u hu => by
  rw [show (⟨b, 0, none⟩ : Addr).add j = ⟨b, j, none⟩ by unfold Addr.add; split <;> simp_all]; exact h.c j u hu
theorem own_more {w : World} {base : Nat} {e : TypeId} {v : Value} {N : Nat} {l l2 : List Look} (h : w.ownsRow base e 3 v N (l.flatMap Look.cells ++ l2.flatMap Look.cells)) : w.ownsRow base e 3 v N ((l ++ l2).flatMap Look.cells) := by
  rw [List.flatMap_append]
  exact h
/-- A block that holds a list of looks, from its cells. -/
theorem At.one {α : Type} {w : World} {cells : α → List Value} {b : Nat} {size : Nat} (h : List α) (hs : ∀ x, (cells x).length = size) {vs : List Value} (hv : vs = h.flatMap cells) (hb : Bx w b vs) : At w w.heap.size size cells (some ⟨b, 0, none⟩) h := fun k x hx =>
  ⟨b, 0, rfl, hb.lt, fun j u hu => by rw [Nat.zero_add]; exact hb.c _ _ (by rw [hv]; exact flat_get hs h k x j u hx hu)⟩
/-- A tale with another list of looks. -/
def lookM (m : Mt) (l : List Look) (A : Option Addr) (c : Nat) : Mt := ⟨{ m.t with looks := l }, m.A1, m.c1, A, c, m.A3, m.c3⟩
structure MoreAt (V : World) (b : Nat) (m : Mt) (l : List Look) (W : World) : Prop where
  lo : V.heap.size ≤ b
  bw : Below V.heap.size V W
  at_ : ∃ A c, l.length ≤ c ∧ Bx W b (lookM m l A c).cells ∧ At W W.heap.size 3 Look.cells A l ∧ ∀ a, A = some a → V.heap.size ≤ a.block
theorem more_at {V w6 : World} {b : Nat} {m : Mt} {v v2 : Value} {l : List Look} (hX : Bx w6 b [.int .i64 m.t.n, .slice m.A1 m.t.loans.length m.c1, v2, .slice m.A3 m.t.admits.length m.c3]) (hlo : V.heap.size ≤ b) (hb : Below V.heap.size V w6) (hl : 0 < l.length) {base N : Nat} (hbs : b < base) (hN : N = l.length) (ho : w6.ownsRow base 50 3 v N (l.flatMap Look.cells)) : MoreAt V b m l (w6.setCell ⟨b, 2, none⟩ v) := by
  subst hN
  obtain ⟨A, c, rfl, hat⟩ := own_at (size := 3) (fun _ => rfl) (by omega) (ho.kept (w' := w6.setCell ⟨b, 2, none⟩ v) (row := some b) ⟨rfl, rfl, rfl, by rw [World.size_setCell]; exact Nat.le_refl _, fun k _ hk => blkSet (fun e => hk (by rw [e])) _ _⟩ (.inr (own_row_ne ho hbs)))
  obtain ⟨g, cap, e0, hg, -⟩ := ho.form hl
  injection e0 with e0 _ _
  exact ⟨hlo, hb.setCell (p := ⟨b, 2, none⟩) hlo _, A, c, own_le ho hl, hX.set (k := 2) (by simp) _, hat, fun a ha => by rw [e0] at ha; injection ha with ha; subst ha; show V.heap.size ≤ g; omega⟩
theorem At.keepBlk {α : Type} {w : World} {B size b : Nat} {cells : α → List Value} {A : Option Addr} {l : List α} (h : At w B size cells A l) (hA : ∀ a, A = some a → a.block ≠ b) (j : Nat) (vs : List Value) : At (setCells w b j vs) B size cells A l := fun k x hx => by
  obtain ⟨b', off, e, hb, hc⟩ := h k x hx
  exact ⟨b', off, e, hb, fun i u hu => (setCells_other b vs j w b' _ (hA _ e)).trans (hc i u hu)⟩
theorem lookM_tale {W : World} {m : Mt} {l : List Look} {A : Option Addr} {c : Nat} (hT : TaleAt W W.heap.size m) (hl : l.length ≤ 9223372036854775807) (hc : l.length ≤ c) (hat : At W W.heap.size 3 Look.cells A l) : TaleAt W W.heap.size (lookM m l A c) := ⟨hT.lo, hat, hT.ad, hT.l1, hl, hT.l3, hT.k1, hc, hT.k3⟩
end Go.Proofs.YtkcfpnpejaekjaaDoor
