import Derived.Test.YtonnemkecppmiaaGreatDoorQ13
import Derived.Test.YtonnemkecppmiaaGreatDoorQ11
import Derived.ArgAppend
import Derived.Deep.Upon
namespace Go.Proofs.YtonnemkecppmiaaGreatDoor
open Go.RowKit
/-! A copy of a list: append to a new slice without a place; bytes as a text, whatever the slice. -/
/-- A list at A, in blocks not below lo. -/
def AtHi {α : Type} (lo : Nat) (w : World) (size : Nat) (cells : α → List Value) (A : Option Addr) (l : List α) : Prop :=
  ∀ k x, l[k]? = some x → ∃ b off, A = some ⟨b, off, none⟩ ∧ lo ≤ b ∧ b < w.heap.size ∧ ∀ j u, (cells x)[j]? = some u → w.cell? ⟨b, off + k * size + j, none⟩ = some u
theorem AtHi.at_ {α : Type} {lo : Nat} {w : World} {size : Nat} {cells : α → List Value} {A : Option Addr} {l : List α} (h : AtHi lo w size cells A l) : At w w.heap.size size cells A l := fun k x hx => by
  obtain ⟨b, off, e, -, hb, hc⟩ := h k x hx
  exact ⟨b, off, e, hb, hc⟩
theorem AtHi.next {α : Type} {lo : Nat} {w w' : World} {size : Nat} {cells : α → List Value} {A : Option Addr} {l : List α} (h : AtHi lo w size cells A l) (hb : Below w.heap.size w w') : AtHi lo w' size cells A l := fun k x hx => by
  obtain ⟨b, off, e, hlo, hk, hc⟩ := h k x hx
  exact ⟨b, off, e, hlo, Nat.lt_of_lt_of_le hk hb.size, fun j u hu => (hb.cell (p := ⟨b, _, none⟩) hk).trans (hc j u hu)⟩
theorem AtHi.set {α : Type} {lo : Nat} {w : World} {size : Nat} {cells : α → List Value} {A : Option Addr} {l : List α} (h : AtHi lo w size cells A l) {g o : Nat} (hg : g < lo) (v : Value) : AtHi lo (w.setCell ⟨g, o, none⟩ v) size cells A l := fun k x hx => by
  obtain ⟨b, off, e, hlo, hk, hc⟩ := h k x hx
  exact ⟨b, off, e, hlo, by rw [World.size_setCell]; exact hk, fun j u hu => (World.cell?_setCell_other _ _ _ _ (by intro e; injection e with e1 _; omega)).trans (hc j u hu)⟩
theorem at_news {α : Type} {w : World} {B size : Nat} {cells : α → List Value} {b off : Nat} (hs : ∀ x, (cells x).length = size) (h0 : 0 < size) {l : List α} (h : At w B size cells (some ⟨b, off, none⟩) l) :
    ∀ j u, (l.flatMap cells)[j]? = some u → w.cell? ((⟨b, off, none⟩ : Addr).add j) = some u := by
  intro j u hu
  rw [show (⟨b, off, none⟩ : Addr).add j = ⟨b, off + j, none⟩ by unfold Addr.add; split <;> simp_all]
  have hj : j < l.length * size := by rw [← flat_len hs]; exact (List.getElem?_eq_some_iff.1 hu).1
  have hk : j / size < l.length := (Nat.div_lt_iff_lt_mul h0).2 hj
  have hm : j % size < size := Nat.mod_lt _ h0
  have hjj : j / size * size + j % size = j := by rw [Nat.mul_comm]; exact Nat.div_add_mod j size
  obtain ⟨b', off', e, -, hc⟩ := h (j / size) _ (List.getElem?_eq_getElem hk)
  injection e with e
  injection e with e1 e2 _
  subst e1 e2
  have hx : (cells l[j / size])[j % size]? = some ((cells l[j / size])[j % size]'(by rw [hs]; exact hm)) := List.getElem?_eq_getElem _
  have h1 := flat_get hs l (j / size) _ (j % size) _ (List.getElem?_eq_getElem hk) hx
  rw [hjj, hu] at h1
  have h2 := hc _ _ hx
  rw [Nat.add_assoc, hjj] at h2
  rw [h2, h1]
set_option maxRecDepth 100000 in
theorem run_append_fresh {α : Type} {cells : α → List Value} {w : World} {ty : TypeId} (t e : TypeId) (i : TypeInfo) (z : Value) (size bytes : Nat) (ht : Tryz.prog.underlying t = some (.slice e)) (hi : Tryz.prog.info? e = some i) (hz : i.zero = some z)
    (hsize : i.size = size) (hby : i.bytes = bytes) (hzs : z.cells.size = size) (hsz : 0 < size) (hcs : ∀ y, (cells y).length = size)
    (q : Nat) (A : Option Addr) (l : List α) (c B : Nat) (hat : At w B size cells A l) (h63 : l.length ≤ maxLen) (hbytes : l.length * bytes ≤ 140737488355328) :
    ∃ A' c' w', (Builtin.append_ #[t, t] ty #[.slice (some ⟨q, 0, none⟩) 0 0, .slice A l.length c]).run Tryz.prog w = .ok (.slice A' l.length c') w' ∧ AtHi w.heap.size w' size cells A' l ∧ Below w.heap.size w w' := by
  by_cases h0 : l = []
  · subst h0
    refine ⟨some ⟨q, 0, none⟩, 0, w, ?_, fun k x hx => by simp at hx, Below.refl _ _⟩
    cases A <;> simp [Builtin.append_, run_underlying ht, sizeOf, typeInfo, hi, Builtin.lenOf, Builtin.firstCells, loadCells, loadCellsFrom, storeCells]
  · have hp : 0 < l.length := List.length_pos_iff.2 h0
    obtain ⟨b, off, rfl, -, -⟩ := hat 0 _ (List.getElem?_eq_getElem hp)
    obtain ⟨v', w', hr, hown, hg⟩ := run_append_arg_grows (P := Tryz.prog) (w := w) t ty e i z size bytes ht hi hz hsize hby hzs hsz ⟨q, 0, none⟩ 0 0 [] (by simp) (fun j u hu => by simp at hu) ⟨b, off, none⟩ l.length c (l.flatMap cells) (flat_len hcs l) (at_news hcs hsz hat) (by omega) (by rw [Nat.zero_add]; exact h63) (by rw [Nat.zero_add]; exact hbytes)
    rw [Nat.zero_add, List.nil_append] at hown
    obtain ⟨A', c', rfl, hc⟩ := own_form hown
    refine ⟨A', c', w', hr, fun k x hx => ?_, ⟨hg.os, hg.tape, hg.output, hg.size, fun k hk => hg.block k hk (by simp)⟩⟩
    have hxl : ∀ j u, (cells x)[j]? = some u → ∃ b, A' = some ⟨b, 0, none⟩ ∧ w.heap.size ≤ b ∧ b < w'.heap.size ∧ w'.cell? ⟨b, k * size + j, none⟩ = some u := fun j u hu => hc _ _ (flat_get hcs l k x j u hx hu)
    have h1 : 0 < (cells x).length := by rw [hcs]; exact hsz
    obtain ⟨b', e', h2, h3, -⟩ := hxl 0 _ (List.getElem?_eq_getElem h1)
    refine ⟨b', 0, e', h2, h3, fun j u hu => ?_⟩
    obtain ⟨b'', e'', -, -, h4⟩ := hxl j u hu
    rw [e'] at e''
    injection e'' with e''
    injection e'' with e1 _ _
    subst e1
    rw [Nat.zero_add]
    exact h4
theorem step_append_fresh {α : Type} {cells : α → List Value} {w : World} {ops : Array Oper} {o : Oper} {a : Act} {K : Act → World → Prop} {Q : Exit → Act → World → Prop} {E : Prop} (hgd : o.guard = none) (s x : Operand) (t : TypeId)
    (ho : o.op = .call { callee := .builtin .append, args := #[s, x], argTypes := #[t, t] })
    (e : TypeId) (i : TypeInfo) (z : Value) (size bytes : Nat) (ht : Tryz.prog.underlying t = some (.slice e)) (hi : Tryz.prog.info? e = some i) (hz : i.zero = some z)
    (hsize : i.size = size) (hby : i.bytes = bytes) (hzs : z.cells.size = size) (hsz : 0 < size) (hcs : ∀ y, (cells y).length = size)
    (q : Nat) (hs : a.eval s = .slice (some ⟨q, 0, none⟩) 0 0) (A : Option Addr) (l : List α) (c : Nat) (hx : a.eval x = .slice A l.length c) (hat : At w w.heap.size size cells A l) (h63 : l.length ≤ maxLen) (hbytes : l.length * bytes ≤ 140737488355328)
    (h : ∀ A' c' w', AtHi w.heap.size w' size cells A' l → Below w.heap.size w w' → K (a.put o.dst (.slice A' l.length c')) w') :
    if Region.wanted o (yielded ops a.tmps) = true then Oper.wp Tryz.prog o a w K Q else E := by
  have hw : Region.wanted o (yielded ops a.tmps) = true := by simp [Region.wanted, hgd]
  rw [if_pos hw]
  obtain ⟨A', c', w', hr, h2, h3⟩ := run_append_fresh (w := w) (ty := o.type) t e i z size bytes ht hi hz hsize hby hzs hsz hcs q A l c _ hat h63 hbytes
  unfold Oper.wp execOp
  simp only [ho, resolve, invoke, builtin, Sem.run_bind, Sem.run_pure, Result.andThen_ok, List.map_toArray, List.map_cons, List.map_nil, hs, hx, hr]
  exact h A' c' w' h2 h3
theorem cv_nil (w : World) (A : Option Addr) (c : Nat) : (convert 37 9 (.slice A 0 c)).run Tryz.prog w = .ok (tx []) w := by
  rw [run_convert_bytes_string w _ _ 5 A 0 c Tryz.underlying37 Tryz.underlying5 Tryz.underlying9]
  cases A <;> rfl
theorem cv_bs {w : World} {B : Nat} {A : Option Addr} {c : Nat} {t : Tx} (h : BsAt w B A t) : (convert 37 9 (.slice A t.length c)).run Tryz.prog w = .ok (tx t) w := by
  by_cases h0 : t = []
  · subst h0; exact cv_nil w A c
  · obtain ⟨b, off, rfl, -, -⟩ := h 0 _ (List.getElem?_eq_getElem (List.length_pos_iff.2 h0))
    exact run_convert_bytes_back w _ _ _ ⟨b, off, none⟩ c t Tryz.underlying37 Tryz.underlying5 Tryz.underlying9 (fun j hj => by
      obtain ⟨q, o, e, -, hc⟩ := h j _ (List.getElem?_eq_getElem hj)
      injection e with e
      injection e with e1 e2 _
      subst e1 e2
      have := hc 0 _ rfl
      rw [Nat.mul_one, Nat.add_zero] at this
      rw [show (⟨b, off, none⟩ : Addr).add j = ⟨b, off + j, none⟩ by unfold Addr.add; split <;> simp_all]
      exact this)
theorem cv_row {w : World} {base : Nat} {v : Value} {t : Tx} (h : w.ownsRow base 5 1 v t.length (Lib.byteCells t)) : (convert 37 9 v).run Tryz.prog w = .ok (tx t) w := by
  by_cases h0 : t = []
  · subst h0
    obtain ⟨A, c, rfl, -⟩ := own_form h
    exact cv_nil w A c
  · obtain ⟨g, cap, e, -⟩ := h.form (List.length_pos_iff.2 h0)
    subst e
    exact cv_own rfl h
end Go.Proofs.YtonnemkecppmiaaGreatDoor
