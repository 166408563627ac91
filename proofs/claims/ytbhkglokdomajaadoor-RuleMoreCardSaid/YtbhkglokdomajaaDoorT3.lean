import Derived.Test.YtbhkglokdomajaaDoorP12c
import Derived.Deep.AppendLies
import Derived.BigQuiet
namespace Go.Proofs.YtbhkglokdomajaaDoor
open Go.RowKit
/-! Of the laws RuleLess and RuleMore: parts of lists, and lists that a call copies. -/
theorem At.pre {α : Type} {w : World} {B size : Nat} {cells : α → List Value} {A : Option Addr} {l z : List α} (h : At w B size cells A (l ++ z)) : At w B size cells A l := fun k x hx =>
  h k x (by rw [List.getElem?_append_left (List.getElem?_eq_some_iff.1 hx).1]; exact hx)
theorem At.drop {α : Type} {w : World} {B size b off : Nat} {cells : α → List Value} {l : List α} (h : At w B size cells (some ⟨b, off, none⟩) l) (n : Nat) : At w B size cells (some ⟨b, off + n * size, none⟩) (l.drop n) := fun k x hx => by
  rw [List.getElem?_drop] at hx
  obtain ⟨b', off', e, hb, hc⟩ := h _ _ hx
  injection e with e
  injection e with e1 e2
  subst e1 e2
  refine ⟨b, _, rfl, hb, fun j u hu => ?_⟩
  have := hc j u hu
  rw [Nat.add_mul] at this
  rw [Nat.add_assoc off]
  exact this
theorem flat_inv {α : Type} {cells : α → List Value} {size : Nat} (hs : ∀ x, (cells x).length = size) : ∀ (l : List α) (j : Nat) (u : Value), (l.flatMap cells)[j]? = some u → ∃ k x r, l[k]? = some x ∧ (cells x)[r]? = some u ∧ j = k * size + r
  | [], j, u, h => by simp at h
  | y :: l, j, u, h => by
    rw [List.flatMap_cons] at h
    by_cases hj : j < size
    · rw [List.getElem?_append_left (by rw [hs]; exact hj)] at h
      exact ⟨0, y, j, rfl, h, by omega⟩
    · rw [List.getElem?_append_right (by rw [hs]; omega), hs] at h
      obtain ⟨k, x, r, h1, h2, h3⟩ := flat_inv hs l _ u h
      exact ⟨k + 1, x, r, by rw [List.getElem?_cons_succ]; exact h1, h2, by rw [Nat.add_mul]; omega⟩
theorem At.news {α : Type} {w : World} {B size b off : Nat} {cells : α → List Value} {l : List α} (hs : ∀ x, (cells x).length = size) (h : At w B size cells (some ⟨b, off, none⟩) l) : ∀ j u, (l.flatMap cells)[j]? = some u → w.cell? ((⟨b, off, none⟩ : Addr).add j) = some u := fun j u hu => by
  obtain ⟨k, x, r, h1, h2, rfl⟩ := flat_inv hs l j u hu
  obtain ⟨b', off', e, hb, hc⟩ := h _ _ h1
  injection e with e
  injection e with e1 e2
  subst e1 e2
  have := hc r u h2
  have hadd : (⟨b, off, none⟩ : Addr).add (k * size + r) = ⟨b, off + (k * size + r), none⟩ := by unfold Addr.add; split <;> simp_all
  rw [hadd, ← Nat.add_assoc]
  exact this
theorem flat_len {α : Type} {cells : α → List Value} {size : Nat} (hs : ∀ x, (cells x).length = size) : ∀ l : List α, (l.flatMap cells).length = l.length * size
  | [] => by simp
  | y :: l => by rw [List.flatMap_cons, List.length_append, hs, flat_len hs l, List.length_cons, Nat.add_mul]; omega
theorem blade_one {l : List Blade} : ∀ u ∈ l.flatMap Blade.cells, u.oneCell' = true := fun u hu => by
  obtain ⟨x, -, h⟩ := List.mem_flatMap.1 hu
  unfold Blade.cells at h
  simp only [List.mem_cons, List.not_mem_nil, or_false] at h
  rcases h with rfl | rfl | rfl | rfl <;> rfl
theorem stint_one {l : List Stint} : ∀ u ∈ l.flatMap Stint.cells, u.oneCell' = true := fun u hu => by
  obtain ⟨x, -, h⟩ := List.mem_flatMap.1 hu
  unfold Stint.cells at h
  simp only [List.mem_cons, List.not_mem_nil, or_false] at h
  rcases h with rfl | rfl <;> rfl
/-- To append a slice, of no element too. -/
theorem step_append_any {P : Program} {w : World} {ops : Array Oper} {o : Oper} {a : Act} {K : Act → World → Prop} {Q : Exit → Act → World → Prop} {E : Prop} (hgd : o.guard = none) (s x : Operand) (t : TypeId)
    (ho : o.op = .call { callee := .builtin .append, args := #[s, x], argTypes := #[t, t] })
    (base : Nat) (e : TypeId) (i : TypeInfo) (z : Value) (size bytes : Nat) (ht : P.underlying t = some (.slice e)) (hi : P.info? e = some i) (hz : i.zero = some z)
    (hsize : i.size = size) (hby : i.bytes = bytes) (hzs : z.cells.size = size) (hsz : 0 < size)
    (v : Value) (n : Nat) (xs : List Value) (hs : a.eval s = v) (hown : w.ownsRow base e size v n xs)
    (ad : Addr) (m c : Nat) (news : List Value) (hx : a.eval x = .slice (some ad) m c) (hl : news.length = m * size) (hnews : ∀ j u, news[j]? = some u → w.cell? (ad.add j) = some u) (h1 : ∀ u ∈ news, u.oneCell' = true)
    (h63 : n + m ≤ maxLen) (hbytes : (n + m) * bytes ≤ 140737488355328) (hbase : base ≤ w.heap.size)
    (h : ∀ v' w', w'.ownsRow base e size v' (n + m) (xs ++ news) → w.grownBy w' v.ownBlock → K (a.put o.dst v') w') :
    if Region.wanted o (yielded ops a.tmps) = true then Oper.wp P o a w K Q else E := by
  have hw : Region.wanted o (yielded ops a.tmps) = true := by simp [Region.wanted, hgd]
  rw [if_pos hw]
  obtain ⟨v', w', hr, h2, h3, -, -⟩ := run_append_own_at (P := P) w base t o.type e i z size bytes ht hi hz hsize hby hzs hsz v n xs hown ad m c news hl hnews h1 h63 hbytes hbase
  unfold Oper.wp execOp
  simp only [ho, resolve, invoke, builtin, Sem.run_bind, Sem.run_pure, Result.andThen_ok, List.map_toArray, List.map_cons, List.map_nil, hs, hx, hr]
  exact h v' w' h2 h3
theorem proofGo_len' (bl : List Blade) (bound : Int) : ∀ (l : List Stint) (i a : Nat) (x : Int), (proofGo bl bound l i a x).length ≤ l.length
  | [], _, _, _ => Nat.le_refl _
  | t :: l, i, a, x => by
    unfold proofGo
    split
    · have := proofGo_len' bl bound l (i + 1) a (x + t.n); simp only [List.length_cons]; omega
    · have := proofGo_len' bl bound l (i + 1) i t.n; simp only [List.length_cons]; omega
theorem proofR_len' (d : Die) (l : List Stint) : (proofR d l).1.length ≤ 7 := by
  unfold proofR
  by_cases h : checkS d l ≠ 0
  · rw [if_pos h]; exact Nat.zero_le _
  · rw [if_neg h]
    split
    · exact Nat.zero_le _
    · have hl := ((okl_iff l).1 (check_zero.1 (by simpa using h)).2).nl
      have := proofGo_len' d.blades d.bound l 0 0 0
      show (proofGo d.blades d.bound l 0 0 0).length ≤ 7
      omega
/-! What the program answers, by the best plan. -/
theorem plan_best {d : Die} {l : List Stint} (ok : OkD d) (okl : OkL l) : planS d l = (match bestD d l with | none => ([], 0, 4) | some (p, c) => (p.tail, c, 0)) := by
  unfold planS
  rw [if_neg (by simp [check_ok ok okl])]; rfl
theorem proof_best {d : Die} {l : List Stint} (ok : OkD d) (okl : OkL l) : proofR d l = (if alonesS d.blades d.bound l = false then ([], 4) else (proofS d.blades d.bound l, 0)) := by
  unfold proofR
  rw [if_neg (by simp [check_ok ok okl])]
theorem ans_some {d : Die} {l : List Stint} (ok : OkD d) (okl : OkL l) {x : Pl} (h : bestD d l = some x) : planS d l = (x.1.tail, x.2, 0) ∧ proofR d l = (proofS d.blades d.bound l, 0) := by
  have h1 := best_iff ok okl
  rw [h] at h1
  refine ⟨by rw [plan_best ok okl, h], ?_⟩
  rw [proof_best ok okl, ← h1]
  rfl
theorem ans_none {d : Die} {l : List Stint} (ok : OkD d) (okl : OkL l) (h : bestD d l = none) : planS d l = ([], 0, 4) ∧ proofR d l = ([], 4) := by
  have h1 := best_iff ok okl
  rw [h] at h1
  refine ⟨by rw [plan_best ok okl, h], ?_⟩
  rw [proof_best ok okl, ← h1]
  rfl
/-- With one stint less at the end. -/
theorem end_all {d : Die} {l : List Stint} {t : Stint} (ok : OkD d) (okl : OkL (l ++ [t])) {x : Pl} (h : bestD d (l ++ [t]) = some x) : ∃ (x' : Pl) (z : List (Nat × Nat × Nat)), planS d l = (x'.1.tail, x'.2, 0) ∧ x'.2 ≤ x.2 ∧ proofR d l = (proofS d.blades d.bound l, 0) ∧ proofS d.blades d.bound (l ++ [t]) = proofS d.blades d.bound l ++ z ∧ z.length ≤ 1 := by
  have okl' : OkL l := okl.sub (fun t ht => List.mem_append_left _ ht) (by simp)
  obtain ⟨x', h1, h2⟩ := less_end ok okl h
  obtain ⟨h3, h4⟩ := ans_some ok okl' h1
  obtain ⟨z, h5, h6⟩ := rows_end d.blades d.bound t l 0 0 0
  exact ⟨x', z, h3, h2, h4, h5, h6⟩
theorem end_all' {d : Die} {l : List Stint} (ok : OkD d) (okl : OkL l) (h0 : l ≠ []) {x : Pl} (h : bestD d l = some x) : ∃ (l0 z1 : List Stint) (x' : Pl) (z : List (Nat × Nat × Nat)), l0.length + 1 = l.length ∧ l = l0 ++ z1 ∧ planS d l0 = (x'.1.tail, x'.2, 0) ∧ x'.2 ≤ x.2 ∧ proofR d l0 = (proofS d.blades d.bound l0, 0) ∧ proofS d.blades d.bound l = proofS d.blades d.bound l0 ++ z ∧ z.length ≤ 1 := by
  have e := (List.dropLast_concat_getLast h0).symm
  generalize l.dropLast = l0 at e
  generalize l.getLast h0 = t at e
  subst e
  obtain ⟨x', z, h1⟩ := end_all ok okl h
  exact ⟨l0, [t], x', z, by simp, rfl, h1⟩
theorem rem_of {n : Nat} (h : 0 < n) {x : Int} (hx : 0 ≤ x) : ∃ k : Nat, k < n ∧ Int.tmod x (n : Int) = (k : Int) ∧ x % (n : Int) = (k : Int) := by
  have h1 := Int.emod_nonneg x (b := (n : Int)) (by omega)
  have h2 := Int.emod_lt_of_pos x (b := (n : Int)) (by omega)
  exact ⟨(x % (n : Int)).toNat, by omega, by rw [Int.tmod_eq_emod_of_nonneg hx]; omega, by omega⟩
theorem grown_from {B : Nat} {V W W' : World} {row : Option Nat} (hb : Below B V W) (h : W.grownBy W' row) (hs : B ≤ W.heap.size) (hr : ∀ g, row = some g → B ≤ g) : Below B V W' :=
  ⟨h.os.trans hb.os, h.tape.trans hb.tape, h.output.trans hb.output, Nat.le_trans hb.size h.size, fun k hk => (h.block k (by omega) (fun e => by have := hr k e.symm; omega)).trans (hb.block k hk)⟩
theorem own_empty {W : World} {H base size : Nat} {e : TypeId} (h : W.heap[H]? = some (.cells #[] e (0, 0))) (hb : base ≤ H) : W.ownsRow base e size (.slice (some ⟨H, 0, none⟩) 0 0) 0 [] :=
  ⟨by simp, .inr ⟨H, 0, #[], rfl, hb, h, Nat.le_refl _, by unfold maxLen; omega, by simp, by simp⟩⟩
theorem Bx.set1 {W : World} {b : Nat} {vs : List Value} (h : Bx W b vs) {k : Nat} (hk : k < vs.length) (v : Value) : Bx (W.setCell ⟨b, k, none⟩ v) b (vs.set k v) := by
  refine ⟨by rw [World.size_setCell]; exact h.lt, fun j u hu => ?_, fun j => by rw [World.frozen?_setCell]; exact h.fr j⟩
  by_cases e : j = k
  · subst e
    rw [List.getElem?_set_self hk] at hu
    injection hu with hu
    subst hu
    exact World.cell?_setCell_same' _ _ _ (by rw [h.c j _ (List.getElem?_eq_getElem hk)]; rfl)
  · rw [List.getElem?_set_ne (by omega)] at hu
    rw [World.cell?_setCell_other _ _ _ _ (by intro e'; injection e' with _ e2; exact e e2.symm)]
    exact h.c j u hu
theorem blade_sinfo : (Tryd.prog.info? 53).map (fun i => (i.zero, i.size, i.bytes)) = some (some (.agg #[.int .i64 0, .int .i64 0, .int .i64 0, .int .i64 0]), 4, 32) := by kernel_rfl
theorem stint_sinfo : (Tryd.prog.info? 58).map (fun i => (i.zero, i.size, i.bytes)) = some (some (.agg #[.int .i64 0, .int .i64 0]), 2, 16) := by kernel_rfl
theorem At.pre' {α : Type} {w : World} {B size : Nat} {cells : α → List Value} {A : Option Addr} {l l0 z : List α} (h : At w B size cells A l) (e : l = l0 ++ z) : At w B size cells A l0 := by subst e; exact h.pre
end Go.Proofs.YtbhkglokdomajaaDoor
