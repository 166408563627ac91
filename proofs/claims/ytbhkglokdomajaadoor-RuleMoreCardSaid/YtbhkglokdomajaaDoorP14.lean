import Derived.Test.YtbhkglokdomajaaDoorP13
namespace Go.Proofs.YtbhkglokdomajaaDoor
open Go.RowKit
open Go.Maps (Keyed)
/-! The program: Plan; what is known while it searches. -/
theorem fm_range_succ (f : Nat → Option Pl) (q : Nat) : fm ((List.range (q + 1)).map f) = better (fm ((List.range q).map f)) (f q) := by
  rw [List.range_succ, List.map_append, fm_append]
  congr 1
  exact none_better _
def bestAt (d : Die) (l : List Stint) (j : Nat) (r : Nat → Int) : Option Pl := bestS d.blades d.bound (costS d.stop d.bend) ((pairsS (2 ^ d.blades.length) l).drop j) r
def setsN (d : Die) (j : Nat) : Nat := if j = 0 then 1 else 2 ^ d.blades.length
theorem pairs_at (n : Nat) (l : List Stint) {j : Nat} (hj : j < l.length) : (pairsS n l).getD j (0, ⟨0, 0⟩) = (if j = 0 then 1 else n, l.getD j ⟨0, 0⟩) := by
  cases l with
  | nil => simp at hj
  | cons t l =>
    cases j with
    | zero => rfl
    | succ j =>
      show (((1, t) :: l.map fun t => (n, t)).getD (j + 1) (0, ⟨0, 0⟩)) = (n, (t :: l).getD (j + 1) ⟨0, 0⟩)
      have hj' : j < l.length := by simpa using hj
      simp [List.getD_eq_getElem?_getD, List.getElem?_eq_getElem hj']
theorem best_at (d : Die) (l : List Stint) {j : Nat} (hj : j < l.length) (r : Nat → Int) : bestAt d l j r = fm ((List.range (setsN d j)).map (tryS d.blades d.bound (costS d.stop d.bend) (bestAt d l (j + 1)) (l.getD j ⟨0, 0⟩) r)) := by
  unfold bestAt
  rw [getD_cons_drop (0, ⟨0, 0⟩) (show j < (pairsS (2 ^ d.blades.length) l).length by rw [pairs_len]; exact hj), pairs_at _ _ hj]
  rfl
theorem best_end (d : Die) (l : List Stint) (r : Nat → Int) : bestAt d l l.length r = some ([], 0) := by
  unfold bestAt
  rw [List.drop_of_length_le (by rw [pairs_len]; exact Nat.le_refl _)]; rfl
theorem best_bd {d : Die} (ok : OkD d) {l : List Stint} {j : Nat} {r : Nat → Int} {x : Pl} (h : bestAt d l j r = some x) : 0 ≤ x.2 ∧ x.2 ≤ 60000 * ((l.length - j : Nat) : Int) ∧ x.1.length = l.length - j := by
  obtain ⟨h1, -, h3⟩ := best_is h
  have hl := plans_len _ _ h1
  rw [List.length_map, List.length_drop, pairs_len] at hl
  have hs := sum_bd ok x.1
  rw [hl] at hs
  rw [h3]
  exact ⟨hs.1, hs.2, hl⟩
theorem run_five {nb : Nat} (hn : nb ≤ 5) {r : Nat → Int} (h : ∀ k, 5 ≤ k → r k = 0) (set : Nat) (n : Int) : ∀ k, 5 ≤ k → runR nb r set n k = 0 := fun k hk => by
  unfold runR
  rw [if_neg (show ¬ k < nb by omega), h k hk]
  split <;> rfl
/-- A plan that lies behind the map's block, and changes no more. -/
def PlanAt (W : World) (bk : Nat) (p : List Nat) (A : Option Addr) (n cc : Nat) : Prop := n = p.length ∧ ((p = [] ∧ A = none ∧ cc = 0) ∨ (p ≠ [] ∧ n ≤ cc ∧ ∃ b, A = some ⟨b, 0, none⟩ ∧ bk < b ∧ ∀ k, k < p.length → W.cell? ⟨b, k, none⟩ = some (.int .i64 ((p.getD k 0 : Nat) : Int))))
def restL (A : Option Addr) (n cc : Nat) (c : Int) (is : Bool) : List Value := [.slice A n cc, .int .i64 c, .bool is]
def restV (A : Option Addr) (n cc : Nat) (c : Int) (is : Bool) : Value := .agg #[.slice A n cc, .int .i64 c, .bool is]
def RestC (W : World) (bk : Nat) (A : Option Addr) (n cc : Nat) (c : Int) (is : Bool) : Option Pl → Prop
  | none => A = none ∧ n = 0 ∧ cc = 0 ∧ c = 0 ∧ is = false
  | some q => PlanAt W bk q.1 A n cc ∧ c = q.2 ∧ is = true
def RestAt (W : World) (bk : Nat) (o : Option Pl) (x : Value) : Prop := ∃ A n cc c is, x = restV A n cc c is ∧ RestC W bk A n cc c is o
theorem PlanAt.imp {W W' : World} {bk : Nat} {p : List Nat} {A : Option Addr} {n cc : Nat} (h : PlanAt W bk p A n cc) (hk : ∀ b, bk < b → (∃ x, W.cell? ⟨b, 0, none⟩ = some (.int .i64 x)) → ∀ k, W'.cell? ⟨b, k, none⟩ = W.cell? ⟨b, k, none⟩) : PlanAt W' bk p A n cc := by
  refine ⟨h.1, h.2.imp id ?_⟩
  rintro ⟨h1, h2, b, e, hb, hc⟩
  refine ⟨h1, h2, b, e, hb, fun k hkl => ?_⟩
  rw [hk b hb ⟨_, hc 0 (List.length_pos_iff.2 h1)⟩ k]
  exact hc k hkl
theorem RestC.imp {W W' : World} {bk : Nat} {A : Option Addr} {n cc : Nat} {c : Int} {is : Bool} {o : Option Pl} (h : RestC W bk A n cc c is o) (hk : ∀ b, bk < b → (∃ x, W.cell? ⟨b, 0, none⟩ = some (.int .i64 x)) → ∀ k, W'.cell? ⟨b, k, none⟩ = W.cell? ⟨b, k, none⟩) : RestC W' bk A n cc c is o := by
  cases o with
  | none => exact h
  | some q => exact ⟨h.1.imp hk, h.2⟩
theorem grow_plan {W W' : World} {bk : Nat} (h : W.grownBy W' (some bk)) : ∀ b, bk < b → (∃ x, W.cell? ⟨b, 0, none⟩ = some (.int .i64 x)) → ∀ k, W'.cell? ⟨b, k, none⟩ = W.cell? ⟨b, k, none⟩ := fun b hb ⟨_, hx⟩ k =>
  World.cell?_of_block (a := ⟨b, k, none⟩) (h.block b (cell_lt hx) (fun e => by injection e with e; omega))
theorem set_plan {W : World} {g bk : Nat} {A : Option Addr} {n cc : Nat} {us : List Value} (h : Bx W g (.slice A n cc :: us)) (vs : List Value) : ∀ b, bk < b → (∃ x, W.cell? ⟨b, 0, none⟩ = some (.int .i64 x)) → ∀ k, (setCells W g 0 vs).cell? ⟨b, k, none⟩ = W.cell? ⟨b, k, none⟩ := fun b _ ⟨x, hx⟩ k =>
  setCells_other g vs 0 W b k (fun e => by
    subst e
    have := h.c 0 _ rfl
    rw [hx] at this
    injection this with this
    cases this)
def okS (d : Die) (l : List Stint) (W : World) (bk : Nat) (key val : Value) : Prop := ∃ (j : Nat) (r : Nat → Int), key = stateV j r ∧ (∀ k, 5 ≤ k → r k = 0) ∧ RestAt W bk (bestAt d l j r) val
theorem okS.at {d : Die} {l : List Stint} {W : World} {bk j : Nat} {r : Nat → Int} {v : Value} (h : okS d l W bk (stateV j r) v) (hr : ∀ k, 5 ≤ k → r k = 0) : RestAt W bk (bestAt d l j r) v := by
  obtain ⟨j', r', e, hr', h⟩ := h
  unfold stateV at e
  injection e with e
  simp only [Array.mk.injEq, List.cons.injEq, Value.int.injEq, true_and, and_true] at e
  obtain ⟨e0, e1, e2, e3, e4, e5⟩ := e
  have hj : j = j' := by omega
  have : r = r' := by
    funext k
    by_cases hk : 5 ≤ k
    · rw [hr k hk, hr' k hk]
    · rcases (by omega : k = 0 ∨ k = 1 ∨ k = 2 ∨ k = 3 ∨ k = 4) with rfl | rfl | rfl | rfl | rfl <;> assumption
  rw [hj, this]
  exact h
theorem okS.imp {d : Die} {l : List Stint} {W W' : World} {bk : Nat} (hk : ∀ b, bk < b → (∃ x, W.cell? ⟨b, 0, none⟩ = some (.int .i64 x)) → ∀ k, W'.cell? ⟨b, k, none⟩ = W.cell? ⟨b, k, none⟩) (x v : Value) (h : okS d l W bk x v) : okS d l W' bk x v := by
  obtain ⟨j, r, e, hr, A, n, cc, c, is, e', h⟩ := h
  exact ⟨j, r, e, hr, A, n, cc, c, is, e', h.imp hk⟩
abbrev onV (bl bk bm bo : Nat) : Value := .func (.func 54) #[] #[.pointer (some ⟨bl, 0, none⟩), .pointer (some ⟨bk, 0, none⟩), .pointer (some ⟨bm, 0, none⟩), .pointer (some ⟨bo, 0, none⟩)]
/-- The world between two calls of on. -/
structure OnW (d : Die) (l : List Stint) (A : Option Addr) (c B0 bl bk bkc bm bo : Nat) (W : World) : Prop where
  bl_ : Bx W bl [.slice A l.length c]
  bk_ : Bx W bkc [.map (some bk)]
  bm_ : Bx W bm (mountL d A l.length c)
  bo_ : Bx W bo [.func (.func 54) #[] #[.pointer (some ⟨bl, 0, none⟩), .pointer (some ⟨bkc, 0, none⟩), .pointer (some ⟨bm, 0, none⟩), .pointer (some ⟨bo, 0, none⟩)]]
  memo : Memo Tryd.prog 99 (okS d l W bk) bk W
  da : DieAt W B0 d
  sa : At W B0 2 Stint.cells A l
  en : Env W
  one : 1 < B0
  b : B0 ≤ bk
  n1 : bl ≠ bk
  n2 : bkc ≠ bk
  n3 : bm ≠ bk
  n4 : bo ≠ bk
section
variable {d : Die} {l : List Stint} {A : Option Addr} {c B0 bl bk bkc bm bo : Nat} {W W' : World}
theorem OnW.grow (h : OnW d l A c B0 bl bk bkc bm bo W) (hg : W.grownBy W' (some bk)) (hm : Memo Tryd.prog 99 (okS d l W' bk) bk W') : OnW d l A c B0 bl bk bkc bm bo W' := by
  have hc : ∀ b o, b < B0 → W'.cell? ⟨b, o, none⟩ = W.cell? ⟨b, o, none⟩ := fun b o hb => World.cell?_of_block (a := ⟨b, o, none⟩) (hg.block b (by have := h.memo.lt; have := h.b; omega) (fun e => by injection e with e; have := h.b; omega))
  have hr : ∀ b, b ≠ bk → (some bk : Option Nat) ≠ some b := fun b hb e => by injection e with e; exact hb e.symm
  refine ⟨h.bl_.grown hg (hr _ h.n1), h.bk_.grown hg (hr _ h.n2), h.bm_.grown hg (hr _ h.n3), h.bo_.grown hg (hr _ h.n4), hm, ⟨h.da.bl.keep hc, h.da.l1⟩, h.sa.keep hc, ⟨Nat.lt_of_lt_of_le h.en.lt hg.size, fun j hj => (hc 1 j h.one).trans (h.en.cell j hj)⟩, h.one, h.b, h.n1, h.n2, h.n3, h.n4⟩
theorem OnW.next (h : OnW d l A c B0 bl bk bkc bm bo W) (hb : Below W.heap.size W W') : OnW d l A c B0 bl bk bkc bm bo W' := by
  have hg := only_of_below hb (some bk)
  refine h.grow hg (h.memo.imp (hb.block bk h.memo.lt) (okS.imp (grow_plan hg)))
theorem OnW.setB (h : OnW d l A c B0 bl bk bkc bm bo W) {g : Nat} {A' : Option Addr} {n' cc' : Nat} {us : List Value} (hx : Bx W g (.slice A' n' cc' :: us)) (h0 : B0 ≤ g) (h1 : bl ≠ g) (h2 : bkc ≠ g) (h3 : bm ≠ g) (h4 : bo ≠ g) (h5 : g ≠ bk) (vs : List Value) : OnW d l A c B0 bl bk bkc bm bo (setCells W g 0 vs) := by
  have hc : ∀ b o, b < B0 → (setCells W g 0 vs).cell? ⟨b, o, none⟩ = W.cell? ⟨b, o, none⟩ := fun b o hb => setCells_other g vs 0 W b o (by omega)
  refine ⟨h.bl_.setOther h1 vs 0, h.bk_.setOther h2 vs 0, h.bm_.setOther h3 vs 0, h.bo_.setOther h4 vs 0, h.memo.imp (setCells_blk g bk h5 vs 0 W) (okS.imp (set_plan hx vs)), ⟨h.da.bl.keep hc, h.da.l1⟩, h.sa.keep hc, ⟨by rw [setCells_size]; exact h.en.lt, fun j hj => (hc 1 j h.one).trans (h.en.cell j hj)⟩, h.one, h.b, h.n1, h.n2, h.n3, h.n4⟩
theorem grow_set {W0 : World} {row : Option Nat} (h : W0.grownBy W row) {g : Nat} (hg : W0.heap.size ≤ g) (vs : List Value) (j : Nat) : W0.grownBy (setCells W g j vs) row := by
  have hb := below_setCells (B := W0.heap.size) hg vs j (Below.refl W0.heap.size W)
  exact ⟨hb.os.trans h.os, hb.tape.trans h.tape, hb.output.trans h.output, by rw [setCells_size]; exact h.size, fun k hk hne => (setCells_blk g k (by omega) vs j W).trans (h.block k hk hne)⟩
theorem grow_next {W0 : World} {row : Option Nat} (h : W0.grownBy W row) (hb : Below W.heap.size W W') : W0.grownBy W' row := grown_trans h (only_of_below hb row)
end
theorem own_le {w : World} {base : Nat} {e : TypeId} {size g n m cap : Nat} {xs : List Value} (h : w.ownsRow base e size (.slice (some ⟨g, 0, none⟩) n cap) m xs) : m ≤ cap := by
  rcases h.2 with ⟨e1, -⟩ | ⟨g', cap', cur, e1, -, -, hnc, -⟩
  · cases e1
  · injection e1 with _ _ e2
    omega
theorem loadRest {w : World} {b : Nat} {a0 a1 a2 : Value} (h : Bx w b [a0, a1, a2]) : (loadVar 101 ⟨b, 0, none⟩).run Tryd.prog w = .ok (.agg #[a0, a1, a2]) w := by
  have c0 := h.c 0 _ rfl
  have c1 := h.c 1 _ rfl
  have c2 := h.c 2 _ rfl
  clear h
  go_simp
theorem results_cell1 {fn : Func} {p : Tmp} {ty : TypeId} (h : fn.results = #[.cell p ty]) {tmps : Array Value} {P : Program} {w : World} {a : Addr} {v : Value} (hp : tmps.getD p undef = .pointer (some a)) (hv : (loadVar ty a).run P w = .ok v w) :
    (results fn tmps).run P w = .ok v w := by
  have hp' : tmps[p]?.getD undef = .pointer (some a) := by simpa using hp
  simp [results, h, hp', asAddr, hv]
end Go.Proofs.YtbhkglokdomajaaDoor
