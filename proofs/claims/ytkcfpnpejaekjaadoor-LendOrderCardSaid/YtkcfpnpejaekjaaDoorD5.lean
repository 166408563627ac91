import Derived.Test.YtkcfpnpejaekjaaDoorM5
import Derived.Test.YtkcfpnpejaekjaaDoorD4
namespace Go.Proofs.YtkcfpnpejaekjaaDoor
open Go.RowKit
/-! Words for a tale whose loans and looks are told anew, one after the other. -/
theorem own_far {w : World} {base e size n b : Nat} {v : Value} {xs : List Value} (h : w.ownsRow base e size v n xs) (hb : b < base) : v.ownBlock ≠ some b := fun e => by have := (h.lt b e).1; omega
theorem loan_info : (Tryd.prog.info? 44).map (fun i => (i.zero, i.size, i.bytes)) = some (some (.agg #[.int .i64 0, .int .i64 0, .int .i64 0]), 3, 24) := by kernel_rfl
theorem loan_one : ∀ (x : Loan), ∀ u ∈ x.cells, u.oneCell' = true := fun x u hu => by
  simp only [Loan.cells, List.mem_cons, List.not_mem_nil, or_false] at hu
  rcases hu with rfl | rfl | rfl <;> rfl
theorem rem_idx {n : Nat} (h : 0 < n) (x : Nat) : ∃ k : Nat, k = x % n ∧ k < n ∧ Int.tmod (x : Int) (n : Int) = (k : Int) ∧ (x : Int) % (n : Int) = (k : Int) :=
  ⟨x % n, rfl, Nat.mod_lt _ h, by rw [Int.tmod_eq_emod_of_nonneg (by omega)]; rfl, rfl⟩
def xcells (m : Mt) (v1 v2 : Value) : List Value := [.int .i64 m.t.n, v1, v2, .slice m.A3 m.t.admits.length m.c3]
/-- The lists of the tale that is made, where it lies, and what lay there before. -/
structure XAt (V : World) (b : Nat) (m : Mt) (v1 v2 : Value) (l : List Loan) (k : List Look) (W : World) : Prop where
  lo : V.heap.size ≤ b
  bw : Below V.heap.size V W
  x : Bx W b (xcells m v1 v2)
  o1 : W.ownsRow (b + 1) 44 3 v1 l.length (l.flatMap Loan.cells)
  o2 : W.ownsRow (b + 1) 50 3 v2 k.length (k.flatMap Look.cells)
section
variable {V W W' : World} {b : Nat} {m : Mt} {v1 v2 : Value} {l : List Loan} {k : List Look}
theorem XAt.next (h : XAt V b m v1 v2 l k W) (hb : Below W.heap.size W W') : XAt V b m v1 v2 l k W' :=
  ⟨h.lo, h.bw.trans (hb.mono h.bw.size), h.x.next hb, own_below h.o1 hb, own_below h.o2 hb⟩
theorem XAt.drew (h : XAt V b m v1 v2 l k W) : XAt V b m v1 v2 l k W.drew := ⟨h.lo, h.bw.drew, h.x.drew, h.o1.drew, h.o2.drew⟩
theorem XAt.loan (h : XAt V b m v1 v2 l k W) {v : Value} {n : Nat} {xs : List Value} (hg : W.grownBy W' v1.ownBlock) (ho : W'.ownsRow (b + 1) 44 3 v n xs) {x : Loan} (hn : n = l.length + 1) (hx : xs = l.flatMap Loan.cells ++ x.cells) :
    Below V.heap.size V W' ∧ Bx W' b (xcells m v1 v2) ∧ XAt V b m v v2 (l ++ [x]) k (W'.setCell ⟨b, 1, none⟩ v) := by
  have hx' := h.x.grown hg (own_far h.o1 (Nat.lt_succ_self b))
  have hb' : Below V.heap.size V W' := grown_from h.bw hg h.bw.size (fun g e => by have := (h.o1.lt g e).1; have := h.lo; omega)
  refine ⟨hb', hx', ⟨h.lo, hb'.setCell (p := ⟨b, 1, none⟩) h.lo _, hx'.set (k := 1) (by simp [xcells]) _, ?_, ?_⟩⟩
  · have e1 : (l ++ [x]).length = n := by rw [hn, List.length_append]; rfl
    have e2 : (l ++ [x]).flatMap Loan.cells = xs := by rw [hx, List.flatMap_append, List.flatMap_cons, List.flatMap_nil, List.append_nil]
    rw [e1, e2]
    exact ownsRow_setCell_below ho (show b < b + 1 by omega) _
  · exact ownsRow_setCell_below (h.o2.kept hg (own_apart h.o2 h.o1 (by decide))) (show b < b + 1 by omega) _
theorem XAt.look (h : XAt V b m v1 v2 l k W) {v : Value} {n : Nat} {xs : List Value} (hg : W.grownBy W' v2.ownBlock) (ho : W'.ownsRow (b + 1) 50 3 v n xs) {x : Look} (hn : n = k.length + 1) (hx : xs = k.flatMap Look.cells ++ x.cells) :
    Below V.heap.size V W' ∧ Bx W' b (xcells m v1 v2) ∧ XAt V b m v1 v l (k ++ [x]) (W'.setCell ⟨b, 2, none⟩ v) := by
  have hx' := h.x.grown hg (own_far h.o2 (Nat.lt_succ_self b))
  have hb' : Below V.heap.size V W' := grown_from h.bw hg h.bw.size (fun g e => by have := (h.o2.lt g e).1; have := h.lo; omega)
  refine ⟨hb', hx', ⟨h.lo, hb'.setCell (p := ⟨b, 2, none⟩) h.lo _, hx'.set (k := 2) (by simp [xcells]) _, ?_, ?_⟩⟩
  · exact ownsRow_setCell_below (h.o1.kept hg (own_apart h.o1 h.o2 (by decide))) (show b < b + 1 by omega) _
  · have e1 : (k ++ [x]).length = n := by rw [hn, List.length_append]; rfl
    have e2 : (k ++ [x]).flatMap Look.cells = xs := by rw [hx, List.flatMap_append, List.flatMap_cons, List.flatMap_nil, List.append_nil]
    rw [e1, e2]
    exact ownsRow_setCell_below ho (show b < b + 1 by omega) _
/-- The first loan, and a store into it. -/
theorem XAt.loan0 {f : Loan} (h : XAt V b m v1 v2 (f :: l) k W) : ∃ g c, v1 = .slice (some ⟨g, 0, none⟩) (l.length + 1) c ∧ b < g ∧ g < W.heap.size ∧ W.cell? ⟨g, 0, none⟩ = some (.int .i64 f.p) ∧ W.cell? ⟨g, 1, none⟩ = some (.int .i64 f.a) ∧ W.cell? ⟨g, 2, none⟩ = some (.int .i64 f.b) ∧ (∀ j, W.frozen? ⟨g, j, none⟩ = false) := by
  have ho := h.o1
  obtain ⟨g, c, e, hb, hlt⟩ := ho.form (by simp)
  subst e
  refine ⟨g, c, rfl, by omega, hlt, ?_, ?_, ?_, fun j => ho.frozenAt j⟩
  · exact ho.cellAt 0 (by simp)
  · exact ho.cellAt 1 (by simp; omega)
  · exact ho.cellAt 2 (by simp; omega)
theorem XAt.setLoan {f f' : Loan} {g c : Nat} (h : XAt V b m (.slice (some ⟨g, 0, none⟩) (l.length + 1) c) v2 (f :: l) k W) {j : Nat} {u : Value} (hj : j < 3) (hf : f'.cells = f.cells.set j u) : XAt V b m (.slice (some ⟨g, 0, none⟩) (l.length + 1) c) v2 (f' :: l) k (W.setCell ⟨g, j, none⟩ u) := by
  have hg := (h.o1.lt g rfl).1
  obtain ⟨h1, h2⟩ := h.o1.stored j u
  have hne : (some g : Option Nat) ≠ some b := fun e => by injection e with e; omega
  refine ⟨h.lo, h.bw.setCell (p := ⟨g, j, none⟩) (by have := h.lo; show V.heap.size ≤ g; omega) _, h.x.grown h2 hne, ?_, h.o2.kept h2 (own_apart h.o2 h.o1 (by decide))⟩
  have e : (f' :: l).flatMap Loan.cells = ((f :: l).flatMap Loan.cells).set j u := by
    rw [List.flatMap_cons, List.flatMap_cons, hf, List.set_append_left j u (by show j < 3; exact hj)]
  rw [e]
  exact h1
theorem XAt.look0 {f : Look} {k : List Look} (h : XAt V b m v1 v2 l (f :: k) W) : ∃ g c, v2 = .slice (some ⟨g, 0, none⟩) (k.length + 1) c ∧ b < g ∧ g < W.heap.size ∧ W.cell? ⟨g, 0, none⟩ = some (.int .i64 f.h) ∧ W.cell? ⟨g, 1, none⟩ = some (.int .i64 f.there) ∧ W.cell? ⟨g, 2, none⟩ = some (.int .i64 f.gone) ∧ (∀ j, W.frozen? ⟨g, j, none⟩ = false) := by
  have ho := h.o2
  obtain ⟨g, c, e, hb, hlt⟩ := ho.form (by simp)
  subst e
  refine ⟨g, c, rfl, by omega, hlt, ?_, ?_, ?_, fun j => ho.frozenAt j⟩
  · exact ho.cellAt 0 (by simp)
  · exact ho.cellAt 1 (by simp; omega)
  · exact ho.cellAt 2 (by simp; omega)
theorem XAt.setLook {f f' : Look} {k : List Look} {g c : Nat} (h : XAt V b m v1 (.slice (some ⟨g, 0, none⟩) (k.length + 1) c) l (f :: k) W) {j : Nat} {u : Value} (hj : j < 3) (hf : f'.cells = f.cells.set j u) : XAt V b m v1 (.slice (some ⟨g, 0, none⟩) (k.length + 1) c) l (f' :: k) (W.setCell ⟨g, j, none⟩ u) := by
  have hg := (h.o2.lt g rfl).1
  obtain ⟨h1, h2⟩ := h.o2.stored j u
  have hne : (some g : Option Nat) ≠ some b := fun e => by injection e with e; omega
  refine ⟨h.lo, h.bw.setCell (p := ⟨g, j, none⟩) (by have := h.lo; show V.heap.size ≤ g; omega) _, h.x.grown h2 hne, h.o1.kept h2 (own_apart h.o1 h.o2 (by decide)), ?_⟩
  have e : (f' :: k).flatMap Look.cells = ((f :: k).flatMap Look.cells).set j u := by
    rw [List.flatMap_cons, List.flatMap_cons, hf, List.set_append_left j u (by show j < 3; exact hj)]
  rw [e]
  exact h1
theorem XAt.form (h : XAt V b m v1 v2 l k W) : ∃ A1 c1 A2 c2, v1 = .slice A1 l.length c1 ∧ v2 = .slice A2 k.length c2 ∧ l.length ≤ c1 ∧ k.length ≤ c2 ∧ At W W.heap.size 3 Loan.cells A1 l ∧ At W W.heap.size 3 Look.cells A2 k := by
  obtain ⟨A1, c1, e1, h1⟩ := own_at (size := 3) (cells := Loan.cells) (fun _ => rfl) (by omega) h.o1
  obtain ⟨A2, c2, e2, h2⟩ := own_at (size := 3) (cells := Look.cells) (fun _ => rfl) (by omega) h.o2
  subst e1 e2
  have k1 : l.length ≤ c1 := by
    by_cases hl : 0 < l.length
    · exact own_le h.o1 hl
    · omega
  have k2 : k.length ≤ c2 := by
    by_cases hl : 0 < k.length
    · exact own_le h.o2 hl
    · omega
  exact ⟨A1, c1, A2, c2, rfl, rfl, k1, k2, h1, h2⟩
/-- A store elsewhere. -/
theorem XAt.other (h : XAt V b m v1 v2 l k W) (p : Addr) (u : Value) (hV : V.heap.size ≤ p.block) (hb : p.block ≠ b) (h1 : v1.ownBlock ≠ some p.block) (h2 : v2.ownBlock ≠ some p.block) : XAt V b m v1 v2 l k (W.setCell p u) := by
  have hg : W.grownBy (W.setCell p u) (some p.block) := ⟨rfl, rfl, rfl, by simp, fun i _ hi => heap_setCell_other W p i _ (fun e => hi (by simp [e]))⟩
  exact ⟨h.lo, h.bw.setCell (p := p) hV _, h.x.grown hg (fun e => by injection e with e; exact hb e), ownsRow_setCell_other h.o1 h1 _, ownsRow_setCell_other h.o2 h2 _⟩
end
/-- A tale with other loans and looks. -/
def bothM (m : Mt) (l : List Loan) (k : List Look) (A1 : Option Addr) (c1 : Nat) (A2 : Option Addr) (c2 : Nat) : Mt := ⟨{ m.t with loans := l, looks := k }, A1, c1, A2, c2, m.A3, m.c3⟩
theorem XAt.tale {V W : World} {b bt : Nat} {m : Mt} {A1 A2 : Option Addr} {c1 c2 : Nat} {l : List Loan} {k : List Look} (h : XAt V b m (.slice A1 l.length c1) (.slice A2 k.length c2) l k W) (hk : LwT m bt W) (h1 : l.length ≤ c1) (h2 : k.length ≤ c2) (ha : At W W.heap.size 3 Loan.cells A1 l) (hb : At W W.heap.size 3 Look.cells A2 k) (hl : l.length ≤ 12) (hl2 : k.length ≤ 20) : LwT (bothM m l k A1 c1 A2 c2) b W :=
  ⟨⟨ha, hb, hk.ta.ad, (show l.length ≤ _ by omega), (show k.length ≤ _ by omega), hk.ta.l3, h1, h2, hk.ta.k3⟩, hk.en, h.x⟩
def bigL : List Loan → Bool
  | [] => false
  | f :: _ => decide (1 < f.b - f.a)
theorem cut_small {l : List Loan} (h : bigL l = false) : cutLoan l = l := by
  cases l with
  | nil => rfl
  | cons f l => rw [cutLoan_cons, if_neg (of_decide_eq_false h)]
def someL : List Look → Bool
  | [] => false
  | _ :: _ => true
end Go.Proofs.YtkcfpnpejaekjaaDoor
