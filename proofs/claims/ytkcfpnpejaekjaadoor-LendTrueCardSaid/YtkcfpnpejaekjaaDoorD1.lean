import Derived.Test.YtkcfpnpejaekjaaDoorW0
import Derived.Deep.Slices
import Derived.Deep.Fields
import Derived.ChangeSame
import Derived.OpenShut
import Derived.Carry
namespace Go.Proofs.YtkcfpnpejaekjaaDoor
open Go.ChangeShapes Go.WideShapes Go.RowKit Go.Deep
/-! A tale that came in as an argument. -/
section
variable {H : Type} {enc : TypeId × Value → H} {w : World}
theorem uInt : Tryd.prog.underlying 3 = some (.int .i64) := by kernel_rfl
theorem uLoan : Tryd.prog.underlying 44 = some (.struct (Tryd.prog.fieldsOf 44)) := by kernel_rfl
theorem uLook : Tryd.prog.underlying 50 = some (.struct (Tryd.prog.fieldsOf 50)) := by kernel_rfl
theorem uTale : Tryd.prog.underlying 26 = some (.struct (Tryd.prog.fieldsOf 26)) := by kernel_rfl
theorem kInt : Tryd.prog.cellsOf 3 = 1 := by kernel_rfl
theorem kLoan : Tryd.prog.cellsOf 44 = 3 := by kernel_rfl
theorem kLook : Tryd.prog.cellsOf 50 = 3 := by kernel_rfl
theorem kTale : Tryd.prog.cellsOf 26 = 4 := by kernel_rfl
theorem kLoans : Tryd.prog.cellsOf 22 = 1 := by kernel_rfl
theorem kLooks : Tryd.prog.cellsOf 23 = 1 := by kernel_rfl
theorem kInts : Tryd.prog.cellsOf 24 = 1 := by kernel_rfl
theorem sLoans : Tryd.prog.underlying 22 = some (.slice 44) := by kernel_rfl
theorem sLooks : Tryd.prog.underlying 23 = some (.slice 50) := by kernel_rfl
theorem sInts : Tryd.prog.underlying 24 = some (.slice 3) := by kernel_rfl
abbrev Rd (enc : TypeId × Value → H) (w : World) (n : Nat) (t : TypeId) (cs : List Value) : Prop := ∃ y, DataW.trod enc Tryd.prog w 0 (fun _ => true) true n t cs = some y
theorem rd_int {n : Nat} {cs : List Value} (h : Rd enc w n 3 cs) : ∃ k, cs = [.int .i64 k] := by
  obtain ⟨y, hy⟩ := h
  obtain ⟨k, e, -⟩ := DataW.trod_int uInt hy
  exact ⟨k, e⟩
theorem rd_fields {t : TypeId} {n : Nat} {cs : List Value} (hs : Tryd.prog.underlying t = some (.struct (Tryd.prog.fieldsOf t))) (h : Rd enc w n t cs) :
    cs.length = Tryd.prog.cellsOf t ∧ ∃ m, ∀ (i o ty : Nat), ((Tryd.prog.fieldsOf t)[i]?).map (fun f => (f.offset, f.type)) = some (o, ty) → Rd enc w m ty ((cs.drop o).take (Tryd.prog.cellsOf ty)) := by
  obtain ⟨y, hy⟩ := h
  obtain ⟨xs, m, _, _, hl, hx, hf⟩ := DataW.trod_struct hs hy
  refine ⟨hl, m, fun i o ty hi => ?_⟩
  obtain ⟨f, hf1, hf2⟩ := Option.map_eq_some_iff.1 hi
  injection hf2 with e1 e2
  subst e1 e2
  have := hf i f hf1
  have hlt : i < xs.length := by rw [hx]; exact (Array.getElem?_eq_some_iff.1 hf1).1
  rw [List.getElem?_eq_getElem hlt] at this
  exact ⟨_, this⟩
set_option maxRecDepth 100000 in
theorem rd_loan {n : Nat} {cs : List Value} (h : Rd enc w n 44 cs) : ∃ x : Loan, cs = x.cells := by
  obtain ⟨hl, m, hf⟩ := rd_fields uLoan h
  rw [kLoan] at hl
  match cs, hl with
  | [a, b, c], _ =>
    obtain ⟨k1, e1⟩ := rd_int (by have := hf 0 0 3 (by kernel_rfl); rw [kInt] at this; exact this : Rd enc w m 3 [a])
    obtain ⟨k2, e2⟩ := rd_int (by have := hf 1 1 3 (by kernel_rfl); rw [kInt] at this; exact this : Rd enc w m 3 [b])
    obtain ⟨k3, e3⟩ := rd_int (by have := hf 2 2 3 (by kernel_rfl); rw [kInt] at this; exact this : Rd enc w m 3 [c])
    injection e1 with e1
    injection e2 with e2
    injection e3 with e3
    subst e1 e2 e3
    exact ⟨⟨k1, k2, k3⟩, rfl⟩
set_option maxRecDepth 100000 in
theorem rd_look {n : Nat} {cs : List Value} (h : Rd enc w n 50 cs) : ∃ x : Look, cs = x.cells := by
  obtain ⟨hl, m, hf⟩ := rd_fields uLook h
  rw [kLook] at hl
  match cs, hl with
  | [a, b, c], _ =>
    obtain ⟨k1, e1⟩ := rd_int (by have := hf 0 0 3 (by kernel_rfl); rw [kInt] at this; exact this : Rd enc w m 3 [a])
    obtain ⟨k2, e2⟩ := rd_int (by have := hf 1 1 3 (by kernel_rfl); rw [kInt] at this; exact this : Rd enc w m 3 [b])
    obtain ⟨k3, e3⟩ := rd_int (by have := hf 2 2 3 (by kernel_rfl); rw [kInt] at this; exact this : Rd enc w m 3 [c])
    injection e1 with e1
    injection e2 with e2
    injection e3 with e3
    subst e1 e2 e3
    exact ⟨⟨k1, k2, k3⟩, rfl⟩
theorem add_spot {a : Addr} (h : a.spot = none) (n : Nat) : a.add n = ⟨a.block, a.off + n, none⟩ := by
  unfold Addr.add
  split
  · rename_i e; subst e; cases a; simp only at h; subst h; rfl
  · rfl
theorem cell_in {W : World} {a : Addr} {v : Value} (h : W.cell? a = some v) : a.spot = none ∧ a.block < W.heap.size := by
  unfold World.cell? at h
  split at h
  · rename_i ho
    refine ⟨?_, (Array.getElem?_eq_some_iff.1 ho).1⟩
    split at h
    · cases h
    · rename_i hs; simpa using hs
  · cases h
theorem choose_list {α : Type} (n : Nat) {Q : Nat → α → Prop} (h : ∀ i, i < n → ∃ a, Q i a) : ∃ l : List α, l.length = n ∧ ∀ i a, l[i]? = some a → Q i a := by
  induction n with
  | zero => exact ⟨[], rfl, fun i a h => by simp at h⟩
  | succ n ih =>
    obtain ⟨l, hl, hq⟩ := ih (fun i hi => h i (by omega))
    obtain ⟨a, ha⟩ := h n (by omega)
    refine ⟨l ++ [a], by simp [hl], fun i b hb => ?_⟩
    by_cases hi : i < l.length
    · rw [List.getElem?_append_left hi] at hb; exact hq i b hb
    · rw [List.getElem?_append_right (by omega)] at hb
      have : i - l.length = 0 := by
        have := (List.getElem?_eq_some_iff.1 hb).1
        simp at this; omega
      rw [this] at hb
      simp at hb
      subst hb
      rw [show i = n by omega]
      exact ha
/-- A slice that came in: its elements' cells. -/
theorem rd_slice {α : Type} {size : Nat} {cells : α → List Value} {Good : α → Prop} {t e : TypeId} {n : Nat} {cs : List Value} (ht : Tryd.prog.underlying t = some (.slice e)) (hC : Tryd.prog.cellsOf e = size) (hpos : 0 < size)
    (hel : ∀ m cs', Rd enc w m e cs' → ∃ a : α, cs' = cells a ∧ Good a) (h : Rd enc w n t cs) :
    ∃ (A : Option Addr) (c : Nat) (l : List α), cs = [.slice A l.length c] ∧ At w w.heap.size size cells A l ∧ l.length ≤ 9223372036854775807 ∧ (∀ a ∈ l, Good a) ∧ l.length ≤ c := by
  obtain ⟨y, hy⟩ := h
  rcases open_slice ht hy with ⟨rfl, -⟩ | ⟨a, len, cap, m, n', D, Pl, rfl, hb, hl, hm, hmm, -, hi⟩
  · exact ⟨none, 0, [], rfl, At.nil, by simp, (fun a h => by simp at h), by simp⟩
  · have hlm : len ≤ m := by simp at hmm; omega
    obtain ⟨l, hll, hq⟩ := choose_list (α := α) len (Q := fun i x => w.cells? 0 (a.add (i * size)) size = some (cells x) ∧ Good x) (fun i hi' => by
      obtain ⟨cs', h1, h2⟩ := hi i (by omega)
      rw [hC] at h1
      obtain ⟨x, rfl, hg⟩ := hel _ _ ⟨_, h2⟩
      exact ⟨x, h1, hg⟩)
    refine ⟨some a, cap, l, by rw [hll], fun k x hk => ?_, by unfold maxLen at hm; omega, fun x hx => ?_, by omega⟩
    · obtain ⟨h1, -⟩ := hq k x hk
      obtain ⟨-, hcl, hat⟩ := World.cells?_some h1
      have hx0 := hat 0 hpos
      have hv : (cells x)[0]? = some ((cells x)[0]'(by omega)) := List.getElem?_eq_getElem (by omega)
      rw [hv] at hx0
      have hk0 : 0 < l.length := by have := (List.getElem?_eq_some_iff.1 hk).1; omega
      obtain ⟨h0, -⟩ := hq 0 l[0] (List.getElem?_eq_getElem hk0)
      obtain ⟨-, hcl0, hat0⟩ := World.cells?_some h0
      have ha0 := hat0 0 hpos
      have hv0 : (cells l[0])[0]? = some ((cells l[0])[0]'(by omega)) := List.getElem?_eq_getElem (by omega)
      rw [hv0, Nat.zero_mul] at ha0
      have hz : a.add 0 = a := by unfold Addr.add; simp
      rw [hz, hz] at ha0
      obtain ⟨hs, hbl⟩ := cell_in ha0
      refine ⟨a.block, a.off, by cases a; simp only at hs; subst hs; rfl, hbl, fun j u hu => ?_⟩
      have hj : j < size := by have := (List.getElem?_eq_some_iff.1 hu).1; omega
      have := hat j hj
      rw [add_spot hs, add_spot (a := ⟨a.block, a.off + k * size, none⟩) rfl] at this
      exact this.trans hu
    · obtain ⟨i, hi', rfl⟩ := List.mem_iff_getElem.1 hx
      exact (hq i _ (List.getElem?_eq_getElem hi')).2
set_option maxRecDepth 100000 in
theorem rd_tale {b : Nat} {v : Value} {d : DataW H} {ps : List MemPlace} (hv : Value.okWide Tryd.prog w .any b 26 v) (h : DataW.Trod enc Tryd.prog w 0 (fun _ => true) true 26 v d ps) : ∃ s : Mt, v = .agg #[.int .i64 s.t.n, .slice s.A1 s.t.loans.length s.c1, .slice s.A2 s.t.looks.length s.c2, .slice s.A3 s.t.admits.length s.c3] ∧ TaleAt w w.heap.size s := by
  obtain ⟨⟨cs⟩, rfl, hsz⟩ := okWide_struct uTale hv
  rw [kTale] at hsz
  obtain ⟨fuel, hf⟩ := h
  match cs, hsz with
  | [c0, c1, c2, c3], _ =>
    obtain ⟨-, m, hf⟩ := rd_fields uTale (⟨_, hf⟩ : Rd enc w fuel 26 [c0, c1, c2, c3])
    obtain ⟨k0, e0⟩ := rd_int (by have := hf 0 0 3 (by kernel_rfl); rw [kInt] at this; exact this : Rd enc w m 3 [c0])
    obtain ⟨A1, q1, l1, e1, h1, b1, -, g1⟩ := rd_slice (α := Loan) (size := 3) (cells := Loan.cells) (Good := fun _ => True) sLoans kLoan (by omega) (fun m cs' h' => by obtain ⟨k, e⟩ := rd_loan h'; exact ⟨k, e, trivial⟩) (by have := hf 1 1 22 (by kernel_rfl); rw [kLoans] at this; exact this : Rd enc w m 22 [c1])
    obtain ⟨A2, q2, l2, e2, h2, b2, -, g2⟩ := rd_slice (α := Look) (size := 3) (cells := Look.cells) (Good := fun _ => True) sLooks kLook (by omega) (fun m cs' h' => by obtain ⟨k, e⟩ := rd_look h'; exact ⟨k, e, trivial⟩) (by have := hf 2 2 23 (by kernel_rfl); rw [kLooks] at this; exact this : Rd enc w m 23 [c2])
    obtain ⟨A3, q3, l3, e3, h3, b3, -, g3⟩ := rd_slice (α := Int) (size := 1) (cells := icell) (Good := fun _ => True) sInts kInt (by omega) (fun m cs' h' => by obtain ⟨k, e⟩ := rd_int h'; exact ⟨k, e, trivial⟩) (by have := hf 3 3 24 (by kernel_rfl); rw [kInts] at this; exact this : Rd enc w m 24 [c3])
    injection e0 with e0
    injection e1 with e1
    injection e2 with e2
    injection e3 with e3
    subst e0 e1 e2 e3
    exact ⟨⟨⟨k0, l1, l2, l3⟩, A1, q1, A2, q2, A3, q3⟩, rfl, h1, h2, h3, b1, b2, b3, g1, g2, g3⟩
set_option maxRecDepth 100000 in
theorem rd_sight {b : Nat} {v : Value} {d : DataW H} {ps : List MemPlace} (hv : Value.okWide Tryd.prog w .any b 50 v) (h : DataW.Trod enc Tryd.prog w 0 (fun _ => true) true 50 v d ps) : ∃ s : Look, v = .agg #[.int .i64 s.h, .int .i64 s.there, .int .i64 s.gone] := by
  obtain ⟨⟨cs⟩, rfl, hsz⟩ := okWide_struct uLook hv
  rw [kLook] at hsz
  obtain ⟨fuel, hf⟩ := h
  match cs, hsz with
  | [c0, c1, c2], _ =>
    obtain ⟨x, e⟩ := rd_look (⟨_, hf⟩ : Rd enc w fuel 50 [c0, c1, c2])
    injection e with e0 e
    injection e with e1 e
    injection e with e2 e
    subst e0 e1 e2
    exact ⟨x, rfl⟩
end
end Go.Proofs.YtkcfpnpejaekjaaDoor
