import Derived.Test.YtfffhbolaimmdaaDoorB1
import Derived.Deep.Slices
import Derived.Deep.Fields
import Derived.ChangeSame
import Derived.OpenShut
import Derived.Carry
namespace Go.Proofs.YtfffhbolaimmdaaDoor
open Go.ChangeShapes Go.WideShapes Go.RowKit Go.Deep
/-! A store that came in as an argument. -/
section
variable {H : Type} {enc : TypeId × Value → H} {w : World}
theorem u3 : Tryd.prog.underlying 3 = some (.int .i64) := by kernel_rfl
theorem u44 : Tryd.prog.underlying 44 = some (.struct (Tryd.prog.fieldsOf 44)) := by kernel_rfl
theorem u54 : Tryd.prog.underlying 54 = some (.struct (Tryd.prog.fieldsOf 54)) := by kernel_rfl
theorem u59 : Tryd.prog.underlying 59 = some (.struct (Tryd.prog.fieldsOf 59)) := by kernel_rfl
theorem u61 : Tryd.prog.underlying 61 = some (.struct (Tryd.prog.fieldsOf 61)) := by kernel_rfl
theorem u57 : Tryd.prog.underlying 57 = some (.struct (Tryd.prog.fieldsOf 57)) := by kernel_rfl
theorem u27 : Tryd.prog.underlying 27 = some (.struct (Tryd.prog.fieldsOf 27)) := by kernel_rfl
theorem k3 : Tryd.prog.cellsOf 3 = 1 := by kernel_rfl
theorem k44 : Tryd.prog.cellsOf 44 = 2 := by kernel_rfl
theorem k54 : Tryd.prog.cellsOf 54 = 3 := by kernel_rfl
theorem k59 : Tryd.prog.cellsOf 59 = 4 := by kernel_rfl
theorem k61 : Tryd.prog.cellsOf 61 = 2 := by kernel_rfl
theorem k57 : Tryd.prog.cellsOf 57 = 5 := by kernel_rfl
theorem k30 : Tryd.prog.cellsOf 30 = 1 := by kernel_rfl
theorem k27 : Tryd.prog.cellsOf 27 = 4 := by kernel_rfl
theorem k22 : Tryd.prog.cellsOf 22 = 1 := by kernel_rfl
theorem k23 : Tryd.prog.cellsOf 23 = 1 := by kernel_rfl
theorem k24 : Tryd.prog.cellsOf 24 = 1 := by kernel_rfl
theorem k25 : Tryd.prog.cellsOf 25 = 1 := by kernel_rfl
theorem s30 : Tryd.prog.underlying 30 = some (.slice 3) := by kernel_rfl
theorem s22 : Tryd.prog.underlying 22 = some (.slice 54) := by kernel_rfl
theorem s23 : Tryd.prog.underlying 23 = some (.slice 59) := by kernel_rfl
theorem s24 : Tryd.prog.underlying 24 = some (.slice 61) := by kernel_rfl
theorem s25 : Tryd.prog.underlying 25 = some (.slice 57) := by kernel_rfl
abbrev Rd (enc : TypeId × Value → H) (w : World) (n : Nat) (t : TypeId) (cs : List Value) : Prop := ∃ y, DataW.trod enc Tryd.prog w 0 (fun _ => true) true n t cs = some y
theorem rd_int {n : Nat} {cs : List Value} (h : Rd enc w n 3 cs) : ∃ k, cs = [.int .i64 k] := by
  obtain ⟨y, hy⟩ := h
  obtain ⟨k, e, -⟩ := DataW.trod_int u3 hy
  exact ⟨k, e⟩
theorem rd_fields {t : TypeId} {n : Nat} {cs : List Value} (hs : Tryd.prog.underlying t = some (.struct (Tryd.prog.fieldsOf t))) (h : Rd enc w n t cs) :
    cs.length = Tryd.prog.cellsOf t ∧ ∃ m, ∀ (i o ty : Nat), ((Tryd.prog.fieldsOf t)[i]?).map (fun f => (f.offset, f.type)) = some (o, ty) → Rd enc w m ty ((cs.drop o).take (Tryd.prog.cellsOf ty)) := by
  obtain ⟨y, hy⟩ := h
  obtain ⟨xs, m, _, _, hl, hx, hf⟩ := DataW.trod_struct hs hy
  refine ⟨hl, m, fun i o ty hi => ?_⟩
  obtain ⟨f, hf1, hf2⟩ := Option.map_eq_some_iff.1 hi
  injection hf2 with e1 e2
  subst e1 e2
  have := hf i f hf1
  have hlt : i < xs.length := by rw [hx]; exact (Array.getElem?_eq_some_iff.1 hf1).1
  rw [List.getElem?_eq_getElem hlt] at this
  exact ⟨_, this⟩
set_option maxRecDepth 100000 in
theorem rd_sheet {n : Nat} {cs : List Value} (h : Rd enc w n 54 cs) : ∃ x : Sheet, cs = x.cells := by
  obtain ⟨hl, m, hf⟩ := rd_fields u54 h
  rw [k54] at hl
  match cs, hl with
  | [a, b, c], _ =>
    have h1 := hf 0 0 44 (by kernel_rfl)
    obtain ⟨k, e⟩ := rd_int (by have := hf 1 2 3 (by kernel_rfl); rw [k3] at this; exact this : Rd enc w m 3 [c])
    rw [k44] at h1
    obtain ⟨-, m2, hg⟩ := rd_fields u44 h1
    obtain ⟨k1, e1⟩ := rd_int (by have := hg 0 0 3 (by kernel_rfl); rw [k3] at this; exact this : Rd enc w m2 3 [a])
    obtain ⟨k2, e2⟩ := rd_int (by have := hg 1 1 3 (by kernel_rfl); rw [k3] at this; exact this : Rd enc w m2 3 [b])
    injection e with e
    injection e1 with e1
    injection e2 with e2
    subst e e1 e2
    exact ⟨⟨k1, k2, k⟩, rfl⟩
set_option maxRecDepth 100000 in
theorem rd_lic {n : Nat} {cs : List Value} (h : Rd enc w n 59 cs) : ∃ x : Licence, cs = x.cells := by
  obtain ⟨hl, m, hf⟩ := rd_fields u59 h
  rw [k59] at hl
  match cs, hl with
  | [a, b, c, d], _ =>
    obtain ⟨k1, e1⟩ := rd_int (by have := hf 0 0 3 (by kernel_rfl); rw [k3] at this; exact this : Rd enc w m 3 [a])
    obtain ⟨k2, e2⟩ := rd_int (by have := hf 1 1 3 (by kernel_rfl); rw [k3] at this; exact this : Rd enc w m 3 [b])
    obtain ⟨k3', e3⟩ := rd_int (by have := hf 2 2 3 (by kernel_rfl); rw [k3] at this; exact this : Rd enc w m 3 [c])
    obtain ⟨k4, e4⟩ := rd_int (by have := hf 3 3 3 (by kernel_rfl); rw [k3] at this; exact this : Rd enc w m 3 [d])
    injection e1 with e1
    injection e2 with e2
    injection e3 with e3
    injection e4 with e4
    subst e1 e2 e3 e4
    exact ⟨⟨k1, k2, k3', k4⟩, rfl⟩
set_option maxRecDepth 100000 in
theorem rd_wish {n : Nat} {cs : List Value} (h : Rd enc w n 57 cs) : ∃ x : Wish, cs = x.cells := by
  obtain ⟨hl, m, hf⟩ := rd_fields u57 h
  rw [k57] at hl
  match cs, hl with
  | [a, b, c, d, f], _ =>
    obtain ⟨k1, e1⟩ := rd_int (by have := hf 0 0 3 (by kernel_rfl); rw [k3] at this; exact this : Rd enc w m 3 [a])
    obtain ⟨k2, e2⟩ := rd_int (by have := hf 1 1 3 (by kernel_rfl); rw [k3] at this; exact this : Rd enc w m 3 [b])
    obtain ⟨k3', e3⟩ := rd_int (by have := hf 2 2 3 (by kernel_rfl); rw [k3] at this; exact this : Rd enc w m 3 [c])
    obtain ⟨k4, e4⟩ := rd_int (by have := hf 3 3 3 (by kernel_rfl); rw [k3] at this; exact this : Rd enc w m 3 [d])
    obtain ⟨k5, e5⟩ := rd_int (by have := hf 4 4 3 (by kernel_rfl); rw [k3] at this; exact this : Rd enc w m 3 [f])
    injection e1 with e1
    injection e2 with e2
    injection e3 with e3
    injection e4 with e4
    injection e5 with e5
    subst e1 e2 e3 e4 e5
    exact ⟨⟨k1, k2, k3', k4, k5⟩, rfl⟩
theorem add_spot {a : Addr} (h : a.spot = none) (n : Nat) : a.add n = ⟨a.block, a.off + n, none⟩ := by
  unfold Addr.add
  split
  · rename_i e; subst e; cases a; simp only at h; subst h; rfl
  · rfl
theorem cell_in {W : World} {a : Addr} {v : Value} (h : W.cell? a = some v) : a.spot = none ∧ a.block < W.heap.size := by
  unfold World.cell? at h
  split at h
  · rename_i ho
    refine ⟨?_, (Array.getElem?_eq_some_iff.1 ho).1⟩
    split at h
    · cases h
    · rename_i hs; simpa using hs
  · cases h
theorem choose_list {α : Type} (n : Nat) {Q : Nat → α → Prop} (h : ∀ i, i < n → ∃ a, Q i a) : ∃ l : List α, l.length = n ∧ ∀ i a, l[i]? = some a → Q i a := by
  induction n with
  | zero => exact ⟨[], rfl, fun i a h => by simp at h⟩
  | succ n ih =>
    obtain ⟨l, hl, hq⟩ := ih (fun i hi => h i (by omega))
    obtain ⟨a, ha⟩ := h n (by omega)
    refine ⟨l ++ [a], by simp [hl], fun i b hb => ?_⟩
    by_cases hi : i < l.length
    · rw [List.getElem?_append_left hi] at hb; exact hq i b hb
    · rw [List.getElem?_append_right (by omega)] at hb
      have : i - l.length = 0 := by
        have := (List.getElem?_eq_some_iff.1 hb).1
        simp at this; omega
      rw [this] at hb
      simp at hb
      subst hb
      rw [show i = n by omega]
      exact ha
/-- A slice that came in: its elements' cells. -/
theorem rd_slice {α : Type} {size : Nat} {cells : α → List Value} {Good : α → Prop} {t e : TypeId} {n : Nat} {cs : List Value} (ht : Tryd.prog.underlying t = some (.slice e)) (hC : Tryd.prog.cellsOf e = size) (hpos : 0 < size)
    (hel : ∀ m cs', Rd enc w m e cs' → ∃ a : α, cs' = cells a ∧ Good a) (h : Rd enc w n t cs) :
    ∃ (A : Option Addr) (c : Nat) (l : List α), cs = [.slice A l.length c] ∧ At w w.heap.size size cells A l ∧ l.length ≤ 9223372036854775807 ∧ ∀ a ∈ l, Good a := by
  obtain ⟨y, hy⟩ := h
  rcases open_slice ht hy with ⟨rfl, -⟩ | ⟨a, len, cap, m, n', D, Pl, rfl, hb, hl, hm, hmm, -, hi⟩
  · exact ⟨none, 0, [], rfl, At.nil, by simp, fun a h => by simp at h⟩
  · have hlm : len ≤ m := by simp at hmm; omega
    obtain ⟨l, hll, hq⟩ := choose_list (α := α) len (Q := fun i x => w.cells? 0 (a.add (i * size)) size = some (cells x) ∧ Good x) (fun i hi' => by
      obtain ⟨cs', h1, h2⟩ := hi i (by omega)
      rw [hC] at h1
      obtain ⟨x, rfl, hg⟩ := hel _ _ ⟨_, h2⟩
      exact ⟨x, h1, hg⟩)
    refine ⟨some a, cap, l, by rw [hll], fun k x hk => ?_, by unfold maxLen at hm; omega, fun x hx => ?_⟩
    · obtain ⟨h1, -⟩ := hq k x hk
      obtain ⟨-, hcl, hat⟩ := World.cells?_some h1
      have hx0 := hat 0 hpos
      have hv : (cells x)[0]? = some ((cells x)[0]'(by omega)) := List.getElem?_eq_getElem (by omega)
      rw [hv] at hx0
      have hk0 : 0 < l.length := by have := (List.getElem?_eq_some_iff.1 hk).1; omega
      obtain ⟨h0, -⟩ := hq 0 l[0] (List.getElem?_eq_getElem hk0)
      obtain ⟨-, hcl0, hat0⟩ := World.cells?_some h0
      have ha0 := hat0 0 hpos
      have hv0 : (cells l[0])[0]? = some ((cells l[0])[0]'(by omega)) := List.getElem?_eq_getElem (by omega)
      rw [hv0, Nat.zero_mul] at ha0
      have hz : a.add 0 = a := by unfold Addr.add; simp
      rw [hz, hz] at ha0
      obtain ⟨hs, hbl⟩ := cell_in ha0
      refine ⟨a.block, a.off, by cases a; simp only at hs; subst hs; rfl, hbl, fun j u hu => ?_⟩
      have hj : j < size := by have := (List.getElem?_eq_some_iff.1 hu).1; omega
      have := hat j hj
      rw [add_spot hs, add_spot (a := ⟨a.block, a.off + k * size, none⟩) rfl] at this
      exact this.trans hu
    · obtain ⟨i, hi', rfl⟩ := List.mem_iff_getElem.1 hx
      exact (hq i _ (List.getElem?_eq_getElem hi')).2
theorem rd_ints {n : Nat} {cs : List Value} (h : Rd enc w n 30 cs) : ∃ (A : Option Addr) (c : Nat) (l : List Int), cs = [.slice A l.length c] ∧ At w w.heap.size 1 icell A l ∧ l.length ≤ 9223372036854775807 := by
  obtain ⟨A, c, l, h1, h2, h3, -⟩ := rd_slice (α := Int) (size := 1) (cells := icell) (Good := fun _ => True) s30 k3 (by omega) (fun m cs' h' => by
    obtain ⟨k, e⟩ := rd_int h'; exact ⟨k, e, trivial⟩) h
  exact ⟨A, c, l, h1, h2, h3⟩
set_option maxRecDepth 100000 in
theorem rd_make {n : Nat} {cs : List Value} (h : Rd enc w n 61 cs) : ∃ x : Make, cs = x.cells ∧ (At w w.heap.size 1 icell x.A x.takes ∧ x.takes.length ≤ 9223372036854775807) := by
  obtain ⟨hl, m, hf⟩ := rd_fields u61 h
  rw [k61] at hl
  match cs, hl with
  | [a, b], _ =>
    obtain ⟨k1, e1⟩ := rd_int (by have := hf 0 0 3 (by kernel_rfl); rw [k3] at this; exact this : Rd enc w m 3 [a])
    obtain ⟨A, c, l, e2, h2, h3⟩ := rd_ints (by have := hf 1 1 30 (by kernel_rfl); rw [k30] at this; exact this : Rd enc w m 30 [b])
    injection e1 with e1
    injection e2 with e2
    subst e1 e2
    exact ⟨⟨k1, l, A, c⟩, rfl, h2, by show l.length ≤ _; omega⟩
set_option maxRecDepth 100000 in
theorem rd_store {b : Nat} {v : Value} {d : DataW H} {ps : List MemPlace} (hv : Value.okWide Tryd.prog w .any b 27 v) (h : DataW.Trod enc Tryd.prog w 0 (fun _ => true) true 27 v d ps) : ∃ s : Store, v = .agg #[.slice s.A1 s.sheets.length s.c1, .slice s.A2 s.lics.length s.c2, .slice s.A3 s.makes.length s.c3, .slice s.A4 s.wishes.length s.c4] ∧ StoreAt w w.heap.size s := by
  obtain ⟨⟨cs⟩, rfl, hsz⟩ := okWide_struct u27 hv
  rw [k27] at hsz
  obtain ⟨fuel, hf⟩ := h
  match cs, hsz with
  | [c0, c1, c2, c3], _ =>
    obtain ⟨-, m, hf⟩ := rd_fields u27 (⟨_, hf⟩ : Rd enc w fuel 27 [c0, c1, c2, c3])
    obtain ⟨A1, q1, l1, e1, h1, b1, -⟩ := rd_slice (α := Sheet) (size := 3) (cells := Sheet.cells) (Good := fun _ => True) s22 k54 (by omega) (fun m cs' h' => by obtain ⟨k, e⟩ := rd_sheet h'; exact ⟨k, e, trivial⟩) (by have := hf 0 0 22 (by kernel_rfl); rw [k22] at this; exact this : Rd enc w m 22 [c0])
    obtain ⟨A2, q2, l2, e2, h2, b2, -⟩ := rd_slice (α := Licence) (size := 4) (cells := Licence.cells) (Good := fun _ => True) s23 k59 (by omega) (fun m cs' h' => by obtain ⟨k, e⟩ := rd_lic h'; exact ⟨k, e, trivial⟩) (by have := hf 1 1 23 (by kernel_rfl); rw [k23] at this; exact this : Rd enc w m 23 [c1])
    obtain ⟨A3, q3, l3, e3, h3, b3, g3⟩ := rd_slice (α := Make) (size := 2) (cells := Make.cells) s24 k61 (by omega) (fun m cs' h' => rd_make h') (by have := hf 2 2 24 (by kernel_rfl); rw [k24] at this; exact this : Rd enc w m 24 [c2])
    obtain ⟨A4, q4, l4, e4, h4, b4, -⟩ := rd_slice (α := Wish) (size := 5) (cells := Wish.cells) (Good := fun _ => True) s25 k57 (by omega) (fun m cs' h' => by obtain ⟨k, e⟩ := rd_wish h'; exact ⟨k, e, trivial⟩) (by have := hf 3 3 25 (by kernel_rfl); rw [k25] at this; exact this : Rd enc w m 25 [c3])
    injection e1 with e1
    injection e2 with e2
    injection e3 with e3
    injection e4 with e4
    subst e1 e2 e3 e4
    exact ⟨⟨l1, l2, l3, l4, A1, q1, A2, q2, A3, q3, A4, q4⟩, rfl, h1, h2, h3, g3, h4, by show l1.length ≤ _; omega, by show l2.length ≤ _; omega, by show l3.length ≤ _; omega, by show l4.length ≤ _; omega⟩
end
end Go.Proofs.YtfffhbolaimmdaaDoor
