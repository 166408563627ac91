import Derived.Test.YtonnemkecppmiaaGreatDoorP14
import Derived.Deep.Slices
import Derived.Deep.Fields
import Derived.ChangeSame
import Derived.ChangeMaps5
import Derived.OpenShut
import Derived.Carry
import Derived.Test.YtonnemkecppmiaaGreatDoorP5
import Derived.Test.YtonnemkecppmiaaGreatDoorRows
import Derived.ProofKit
import Derived.LaidMore
import Derived.LaidSub
import Derived.Stop.Joined
import Derived.Stop.LaidErr
import Derived.Lib.LaidTab
import Derived.Shelf.Vars
import Derived.PinnedBridge
import Derived.FnData
import Derived.Handed
import Derived.Test.YtonnemkecppmiaaGreatDoorCards
import Derived.Test.YtonnemkecppmiaaGreatDoorTie
import Derived.SevenTiedAt
namespace Go.Proofs.YtonnemkecppmiaaGreatDoor
section
open Go.ChangeShapes Go.WideShapes Go.RowKit Go.Deep
/-! The arguments of a law, as they are read. -/
section
variable {H : Type} {enc : TypeId × Value → H} {w : World}
theorem uInt : Tryz.prog.underlying 3 = some (.int .i64) := by kernel_rfl
theorem uU8 : Tryz.prog.underlying 5 = some (.int .u8) := by kernel_rfl
theorem uU16 : Tryz.prog.underlying 60 = some (.int .u16) := by kernel_rfl
theorem uBool : Tryz.prog.underlying 4 = some .bool := by kernel_rfl
theorem uStr : Tryz.prog.underlying 9 = some .string := by kernel_rfl
theorem uSpan : Tryz.prog.underlying 23 = some (.struct (Tryz.prog.fieldsOf 23)) := by kernel_rfl
theorem uEdge : Tryz.prog.underlying 48 = some (.struct (Tryz.prog.fieldsOf 48)) := by kernel_rfl
theorem uEdges : Tryz.prog.underlying 49 = some (.array 4 48) := by kernel_rfl
theorem uPiece : Tryz.prog.underlying 51 = some (.struct (Tryz.prog.fieldsOf 51)) := by kernel_rfl
theorem uPlay : Tryz.prog.underlying 25 = some (.struct (Tryz.prog.fieldsOf 25)) := by kernel_rfl
theorem uPuzzle : Tryz.prog.underlying 28 = some (.struct (Tryz.prog.fieldsOf 28)) := by kernel_rfl
theorem uWord : Tryz.prog.underlying 66 = some (.struct (Tryz.prog.fieldsOf 66)) := by kernel_rfl
theorem kInt : Tryz.prog.cellsOf 3 = 1 := by kernel_rfl
theorem kU8 : Tryz.prog.cellsOf 5 = 1 := by kernel_rfl
theorem kBool : Tryz.prog.cellsOf 4 = 1 := by kernel_rfl
theorem kSpan : Tryz.prog.cellsOf 23 = 2 := by kernel_rfl
theorem kEdge : Tryz.prog.cellsOf 48 = 7 := by kernel_rfl
theorem kEdges : Tryz.prog.cellsOf 49 = 28 := by kernel_rfl
theorem kPiece : Tryz.prog.cellsOf 51 = 28 := by kernel_rfl
theorem kPlay : Tryz.prog.cellsOf 25 = 5 := by kernel_rfl
theorem kPuzzle : Tryz.prog.cellsOf 28 = 9 := by kernel_rfl
theorem kWord : Tryz.prog.cellsOf 66 = 4 := by kernel_rfl
theorem kPieces : Tryz.prog.cellsOf 26 = 1 := by kernel_rfl
theorem sPieces : Tryz.prog.underlying 26 = some (.slice 51) := by kernel_rfl
theorem sWords : Tryz.prog.underlying 44 = some (.slice 66) := by kernel_rfl
theorem sBytes : Tryz.prog.underlying 37 = some (.slice 5) := by kernel_rfl
abbrev Rd (enc : TypeId × Value → H) (w : World) (n : Nat) (t : TypeId) (cs : List Value) : Prop := ∃ y, DataW.trod enc Tryz.prog w 0 (fun _ => true) true n t cs = some y
theorem rd_int {n : Nat} {cs : List Value} (h : Rd enc w n 3 cs) : ∃ k, cs = [.int .i64 k] := by
  obtain ⟨y, hy⟩ := h
  obtain ⟨k, e, -⟩ := DataW.trod_int uInt hy
  exact ⟨k, e⟩
theorem rd_fields {t : TypeId} {n : Nat} {cs : List Value} (hs : Tryz.prog.underlying t = some (.struct (Tryz.prog.fieldsOf t))) (h : Rd enc w n t cs) :
    cs.length = Tryz.prog.cellsOf t ∧ ∃ m, ∀ (i o ty : Nat), ((Tryz.prog.fieldsOf t)[i]?).map (fun f => (f.offset, f.type)) = some (o, ty) → Rd enc w m ty ((cs.drop o).take (Tryz.prog.cellsOf ty)) := by
  obtain ⟨y, hy⟩ := h
  obtain ⟨xs, m, _, _, hl, hx, hf⟩ := DataW.trod_struct hs hy
  refine ⟨hl, m, fun i o ty hi => ?_⟩
  obtain ⟨f, hf1, hf2⟩ := Option.map_eq_some_iff.1 hi
  injection hf2 with e1 e2
  subst e1 e2
  have := hf i f hf1
  have hlt : i < xs.length := by rw [hx]; exact (Array.getElem?_eq_some_iff.1 hf1).1
  rw [List.getElem?_eq_getElem hlt] at this
  exact ⟨_, this⟩
set_option maxRecDepth 100000 in
theorem rd_span {n : Nat} {cs : List Value} (h : Rd enc w n 23 cs) : ∃ x : Sp, cs = [.int .i64 x.lo, .int .i64 x.hi] := by
  obtain ⟨hl, m, hf⟩ := rd_fields uSpan h
  rw [kSpan] at hl
  match cs, hl with
  | [a, b], _ =>
    obtain ⟨k1, e1⟩ := rd_int (by have := hf 0 0 3 (by kernel_rfl); rw [kInt] at this; exact this : Rd enc w m 3 [a])
    obtain ⟨k2, e2⟩ := rd_int (by have := hf 1 1 3 (by kernel_rfl); rw [kInt] at this; exact this : Rd enc w m 3 [b])
    injection e1 with e1
    injection e2 with e2
    subst e1 e2
    exact ⟨⟨k1, k2⟩, rfl⟩
set_option maxRecDepth 100000 in
theorem rd_edge {n : Nat} {cs : List Value} (h : Rd enc w n 48 cs) : ∃ x : Ed, cs = x.cells := by
  obtain ⟨hl, m, hf⟩ := rd_fields uEdge h
  rw [kEdge] at hl
  match cs, hl with
  | [a0, a1, a2, a3, a4, a5, a6], _ =>
    obtain ⟨k, e0⟩ := rd_int (by have := hf 0 0 3 (by kernel_rfl); rw [kInt] at this; exact this : Rd enc w m 3 [a0])
    obtain ⟨x, e1⟩ := rd_span (by have := hf 1 1 23 (by kernel_rfl); rw [kSpan] at this; exact this : Rd enc w m 23 [a1, a2])
    obtain ⟨y, e2⟩ := rd_span (by have := hf 2 3 23 (by kernel_rfl); rw [kSpan] at this; exact this : Rd enc w m 23 [a3, a4])
    obtain ⟨z, e3⟩ := rd_span (by have := hf 3 5 23 (by kernel_rfl); rw [kSpan] at this; exact this : Rd enc w m 23 [a5, a6])
    simp only [List.cons.injEq, and_true] at e0 e1 e2 e3
    obtain ⟨e1, e1'⟩ := e1
    obtain ⟨e2, e2'⟩ := e2
    obtain ⟨e3, e3'⟩ := e3
    subst e0 e1 e1' e2 e2' e3 e3'
    exact ⟨⟨k, x, y, z⟩, rfl⟩
set_option maxRecDepth 100000 in
theorem rd_piece {n : Nat} {cs : List Value} (h : Rd enc w n 51 cs) : ∃ x : Pc, cs = x.cells := by
  obtain ⟨hl, m, hf⟩ := rd_fields uPiece h
  have h0 := hf 0 0 49 (by kernel_rfl)
  rw [kPiece] at hl
  rw [kEdges, List.drop_zero, List.take_of_length_le (by omega)] at h0
  obtain ⟨y, hy⟩ := h0
  obtain ⟨xs, m', _, _, _, hx, hel⟩ := DataW.trod_array uEdges hy
  have hE : ∀ i, i < 4 → ∃ e : Ed, (cs.drop (i * 7)).take 7 = e.cells := fun i hi => by
    have := hel i hi
    rw [kEdge, List.getElem?_eq_getElem (by omega)] at this
    exact rd_edge ⟨_, this⟩
  obtain ⟨x0, e0⟩ := hE 0 (by omega)
  obtain ⟨x1, e1⟩ := hE 1 (by omega)
  obtain ⟨x2, e2⟩ := hE 2 (by omega)
  obtain ⟨x3, e3⟩ := hE 3 (by omega)
  refine ⟨⟨x0, x1, x2, x3⟩, ?_⟩
  show cs = x0.cells ++ (x1.cells ++ (x2.cells ++ x3.cells))
  rw [← e0, ← e1, ← e2, ← e3]
  clear e0 e1 e2 e3 hE hel hy hf h hx
  match cs, hl with
  | [a0, a1, a2, a3, a4, a5, a6, a7, a8, a9, a10, a11, a12, a13, a14, a15, a16, a17, a18, a19, a20, a21, a22, a23, a24, a25, a26, a27], _ => rfl
set_option maxRecDepth 100000 in
theorem rd_word {n : Nat} {cs : List Value} (h : Rd enc w n 66 cs) : ∃ x : Wo, cs = x.cells := by
  obtain ⟨hl, m, hf⟩ := rd_fields uWord h
  rw [kWord] at hl
  match cs, hl with
  | [a, b, c, d], _ =>
    obtain ⟨k1, e1⟩ := rd_int (by have := hf 0 0 3 (by kernel_rfl); rw [kInt] at this; exact this : Rd enc w m 3 [a])
    obtain ⟨k2, e2⟩ := rd_int (by have := hf 1 1 3 (by kernel_rfl); rw [kInt] at this; exact this : Rd enc w m 3 [b])
    obtain ⟨x, e3⟩ := rd_span (by have := hf 2 2 23 (by kernel_rfl); rw [kSpan] at this; exact this : Rd enc w m 23 [c, d])
    simp only [List.cons.injEq, and_true] at e1 e2 e3
    obtain ⟨e3, e3'⟩ := e3
    subst e1 e2 e3 e3'
    exact ⟨⟨k1, k2, x⟩, rfl⟩
theorem rd_u8 {n : Nat} {cs : List Value} (h : Rd enc w n 5 cs) : ∃ x : UInt8, cs = u8c x := by
  obtain ⟨y, hy⟩ := h
  obtain ⟨k, e, -, hk⟩ := DataW.trod_int uU8 hy
  simp [Lit.wf, IntKind.min, IntKind.max, IntKind.bits, IntKind.signed] at hk
  refine ⟨UInt8.ofNat k.toNat, ?_⟩
  rw [e]
  show [Value.int .u8 k] = [Value.int .u8 ((UInt8.ofNat k.toNat).toNat : Int)]
  rw [UInt8.toNat_ofNat']
  congr 2
  omega
theorem add_spot {a : Addr} (h : a.spot = none) (n : Nat) : a.add n = ⟨a.block, a.off + n, none⟩ := by
  unfold Addr.add
  split
  · rename_i e; subst e; cases a; simp only at h; subst h; rfl
  · rfl
theorem cell_inD {W : World} {a : Addr} {v : Value} (h : W.cell? a = some v) : a.spot = none ∧ a.block < W.heap.size := by
  unfold World.cell? at h
  split at h
  · rename_i ho
    refine ⟨?_, (Array.getElem?_eq_some_iff.1 ho).1⟩
    split at h
    · cases h
    · rename_i hs; simpa using hs
  · cases h
theorem choose_list {α : Type} (n : Nat) {Q : Nat → α → Prop} (h : ∀ i, i < n → ∃ a, Q i a) : ∃ l : List α, l.length = n ∧ ∀ i a, l[i]? = some a → Q i a := by
  induction n with
  | zero => exact ⟨[], rfl, fun i a h => by simp at h⟩
  | succ n ih =>
    obtain ⟨l, hl, hq⟩ := ih (fun i hi => h i (by omega))
    obtain ⟨a, ha⟩ := h n (by omega)
    refine ⟨l ++ [a], by simp [hl], fun i b hb => ?_⟩
    by_cases hi : i < l.length
    · rw [List.getElem?_append_left hi] at hb; exact hq i b hb
    · rw [List.getElem?_append_right (by omega)] at hb
      have : i - l.length = 0 := by
        have := (List.getElem?_eq_some_iff.1 hb).1
        simp at this; omega
      rw [this] at hb
      simp at hb
      subst hb
      rw [show i = n by omega]
      exact ha
/-- A slice that came in: its elements' cells. -/
theorem rd_slice {α : Type} {size : Nat} {cells : α → List Value} {Good : α → Prop} {t e : TypeId} {n : Nat} {cs : List Value} (ht : Tryz.prog.underlying t = some (.slice e)) (hC : Tryz.prog.cellsOf e = size) (hpos : 0 < size)
    (hel : ∀ m cs', Rd enc w m e cs' → ∃ a : α, cs' = cells a ∧ Good a) (h : Rd enc w n t cs) :
    ∃ (A : Option Addr) (c : Nat) (l : List α), cs = [.slice A l.length c] ∧ At w w.heap.size size cells A l ∧ l.length ≤ 9223372036854775807 ∧ (∀ a ∈ l, Good a) ∧ l.length ≤ c := by
  obtain ⟨y, hy⟩ := h
  rcases open_slice ht hy with ⟨rfl, -⟩ | ⟨a, len, cap, m, n', D, Pl, rfl, hb, hl, hm, hmm, -, hi⟩
  · exact ⟨none, 0, [], rfl, At.nil, by simp, (fun a h => by simp at h), by simp⟩
  · have hlm : len ≤ m := by simp at hmm; omega
    obtain ⟨l, hll, hq⟩ := choose_list (α := α) len (Q := fun i x => w.cells? 0 (a.add (i * size)) size = some (cells x) ∧ Good x) (fun i hi' => by
      obtain ⟨cs', h1, h2⟩ := hi i (by omega)
      rw [hC] at h1
      obtain ⟨x, rfl, hg⟩ := hel _ _ ⟨_, h2⟩
      exact ⟨x, h1, hg⟩)
    refine ⟨some a, cap, l, by rw [hll], fun k x hk => ?_, by unfold maxLen at hm; omega, fun x hx => ?_, by omega⟩
    · obtain ⟨h1, -⟩ := hq k x hk
      obtain ⟨-, hcl, hat⟩ := World.cells?_some h1
      have hx0 := hat 0 hpos
      have hv : (cells x)[0]? = some ((cells x)[0]'(by omega)) := List.getElem?_eq_getElem (by omega)
      rw [hv] at hx0
      have hk0 : 0 < l.length := by have := (List.getElem?_eq_some_iff.1 hk).1; omega
      obtain ⟨h0, -⟩ := hq 0 l[0] (List.getElem?_eq_getElem hk0)
      obtain ⟨-, hcl0, hat0⟩ := World.cells?_some h0
      have ha0 := hat0 0 hpos
      have hv0 : (cells l[0])[0]? = some ((cells l[0])[0]'(by omega)) := List.getElem?_eq_getElem (by omega)
      rw [hv0, Nat.zero_mul] at ha0
      have hz : a.add 0 = a := by unfold Addr.add; simp
      rw [hz, hz] at ha0
      obtain ⟨hs, hbl⟩ := cell_inD ha0
      refine ⟨a.block, a.off, by cases a; simp only at hs; subst hs; rfl, hbl, fun j u hu => ?_⟩
      have hj : j < size := by have := (List.getElem?_eq_some_iff.1 hu).1; omega
      have := hat j hj
      rw [add_spot hs, add_spot (a := ⟨a.block, a.off + k * size, none⟩) rfl] at this
      exact this.trans hu
    · obtain ⟨i, hi', rfl⟩ := List.mem_iff_getElem.1 hx
      exact (hq i _ (List.getElem?_eq_getElem hi')).2
set_option maxRecDepth 100000 in
theorem rd_play {n : Nat} {cs : List Value} (h : Rd enc w n 25 cs) : ∃ x : Py, cs = pyC x := by
  obtain ⟨hl, m, hf⟩ := rd_fields uPlay h
  rw [kPlay] at hl
  match cs, hl with
  | [a0, a1, a2, a3, a4], _ =>
    obtain ⟨k0, e0⟩ := rd_int (by have := hf 0 0 3 (by kernel_rfl); rw [kInt] at this; exact this : Rd enc w m 3 [a0])
    obtain ⟨k1, e1⟩ := rd_int (by have := hf 1 1 3 (by kernel_rfl); rw [kInt] at this; exact this : Rd enc w m 3 [a1])
    obtain ⟨k2, e2⟩ := rd_int (by have := hf 2 2 3 (by kernel_rfl); rw [kInt] at this; exact this : Rd enc w m 3 [a2])
    obtain ⟨x, e3⟩ := rd_span (by have := hf 3 3 23 (by kernel_rfl); rw [kSpan] at this; exact this : Rd enc w m 23 [a3, a4])
    simp only [List.cons.injEq, and_true] at e0 e1 e2 e3
    obtain ⟨e3, e3'⟩ := e3
    subst e0 e1 e2 e3 e3'
    exact ⟨⟨k0, k1, k2, x⟩, rfl⟩
theorem rd_bool {n : Nat} {cs : List Value} (h : Rd enc w n 4 cs) : ∃ b, cs = [.bool b] := by
  obtain ⟨y, hy⟩ := h
  obtain ⟨b, e, -⟩ := DataW.trod_bool uBool hy
  exact ⟨b, e⟩
set_option maxRecDepth 100000 in
theorem rd_puzzle {b : Nat} {v : Value} {d : DataW H} {ps : List MemPlace} (hv : Value.okWide Tryz.prog w .any b 28 v) (h : DataW.Trod enc Tryz.prog w 0 (fun _ => true) true 28 v d ps) : ∃ m : Mp, v = .agg #[.int .i64 m.d.play.len, .int .i64 m.d.play.slack, .int .i64 m.d.play.loose, .int .i64 m.d.play.damp.lo, .int .i64 m.d.play.damp.hi, .int .i64 m.d.wide, .int .i64 m.d.high, .bool m.d.turn, .slice m.A m.d.pieces.length m.c] ∧ PuAt w w.heap.size m := by
  obtain ⟨⟨cs⟩, rfl, hsz⟩ := okWide_struct uPuzzle hv
  rw [kPuzzle] at hsz
  obtain ⟨fuel, hf⟩ := h
  match cs, hsz with
  | [c0, c1, c2, c3, c4, c5, c6, c7, c8], _ =>
    obtain ⟨-, m, hf⟩ := rd_fields uPuzzle (⟨_, hf⟩ : Rd enc w fuel 28 [c0, c1, c2, c3, c4, c5, c6, c7, c8])
    obtain ⟨p, e0⟩ := rd_play (by have := hf 0 0 25 (by kernel_rfl); rw [kPlay] at this; exact this : Rd enc w m 25 [c0, c1, c2, c3, c4])
    obtain ⟨k1, e1⟩ := rd_int (by have := hf 1 5 3 (by kernel_rfl); rw [kInt] at this; exact this : Rd enc w m 3 [c5])
    obtain ⟨k2, e2⟩ := rd_int (by have := hf 2 6 3 (by kernel_rfl); rw [kInt] at this; exact this : Rd enc w m 3 [c6])
    obtain ⟨t, e3⟩ := rd_bool (by have := hf 3 7 4 (by kernel_rfl); rw [kBool] at this; exact this : Rd enc w m 4 [c7])
    obtain ⟨A, c, l, e4, h4, b4, -, g4⟩ := rd_slice (α := Pc) (size := 28) (cells := Pc.cells) (Good := fun _ => True) sPieces kPiece (by omega) (fun m cs' h' => by obtain ⟨k, e⟩ := rd_piece h'; exact ⟨k, e, trivial⟩) (by have := hf 4 8 26 (by kernel_rfl); rw [kPieces] at this; exact this : Rd enc w m 26 [c8])
    simp only [List.cons.injEq, and_true, pyC] at e0 e1 e2 e3 e4
    obtain ⟨e5, e6, e7, e8, e9⟩ := e0
    subst e1 e2 e3 e4 e5 e6 e7 e8 e9
    exact ⟨⟨⟨p, k1, k2, t, l⟩, A, c⟩, rfl, h4, b4, g4⟩
set_option maxRecDepth 100000 in
theorem rd_pieces {b : Nat} {v : Value} {d : DataW H} {ps : List MemPlace} (hv : Value.okWide Tryz.prog w .any b 26 v) (h : DataW.Trod enc Tryz.prog w 0 (fun _ => true) true 26 v d ps) : ∃ (A : Option Addr) (c : Nat) (l : List Pc), v = .slice A l.length c ∧ At w w.heap.size 28 Pc.cells A l ∧ l.length ≤ 9223372036854775807 ∧ l.length ≤ c := by
  obtain ⟨A, len, cap, rfl⟩ := okWide_slice sPieces hv
  obtain ⟨fuel, hf⟩ := h
  obtain ⟨A', c', l, e, h1, h2, -, h3⟩ := rd_slice (α := Pc) (size := 28) (cells := Pc.cells) (Good := fun _ => True) sPieces kPiece (by omega) (fun m cs' h' => by obtain ⟨k, e⟩ := rd_piece h'; exact ⟨k, e, trivial⟩) (⟨_, hf⟩ : Rd enc w fuel 26 [.slice A len cap])
  simp only [List.cons.injEq, and_true, Value.slice.injEq] at e
  obtain ⟨rfl, rfl, rfl⟩ := e
  exact ⟨A, cap, l, rfl, h1, h2, h3⟩
set_option maxRecDepth 100000 in
theorem rd_words {b : Nat} {v : Value} {d : DataW H} {ps : List MemPlace} (hv : Value.okWide Tryz.prog w .any b 44 v) (h : DataW.Trod enc Tryz.prog w 0 (fun _ => true) true 44 v d ps) : ∃ (A : Option Addr) (c : Nat) (l : List Wo), v = .slice A l.length c ∧ At w w.heap.size 4 Wo.cells A l ∧ l.length ≤ 9223372036854775807 ∧ l.length ≤ c := by
  obtain ⟨A, len, cap, rfl⟩ := okWide_slice sWords hv
  obtain ⟨fuel, hf⟩ := h
  obtain ⟨A', c', l, e, h1, h2, -, h3⟩ := rd_slice (α := Wo) (size := 4) (cells := Wo.cells) (Good := fun _ => True) sWords kWord (by omega) (fun m cs' h' => by obtain ⟨k, e⟩ := rd_word h'; exact ⟨k, e, trivial⟩) (⟨_, hf⟩ : Rd enc w fuel 44 [.slice A len cap])
  simp only [List.cons.injEq, and_true, Value.slice.injEq] at e
  obtain ⟨rfl, rfl, rfl⟩ := e
  exact ⟨A, cap, l, rfl, h1, h2, h3⟩
set_option maxRecDepth 100000 in
theorem rd_bytes {b : Nat} {v : Value} {d : DataW H} {ps : List MemPlace} (hv : Value.okWide Tryz.prog w .any b 37 v) (h : DataW.Trod enc Tryz.prog w 0 (fun _ => true) true 37 v d ps) : ∃ (A : Option Addr) (c : Nat) (l : List UInt8), v = .slice A l.length c ∧ At w w.heap.size 1 u8c A l ∧ l.length ≤ 9223372036854775807 ∧ l.length ≤ c := by
  obtain ⟨A, len, cap, rfl⟩ := okWide_slice sBytes hv
  obtain ⟨fuel, hf⟩ := h
  obtain ⟨A', c', l, e, h1, h2, -, h3⟩ := rd_slice (α := UInt8) (size := 1) (cells := u8c) (Good := fun _ => True) sBytes kU8 (by omega) (fun m cs' h' => by obtain ⟨k, e⟩ := rd_u8 h'; exact ⟨k, e, trivial⟩) (⟨_, hf⟩ : Rd enc w fuel 37 [.slice A len cap])
  simp only [List.cons.injEq, and_true, Value.slice.injEq] at e
  obtain ⟨rfl, rfl, rfl⟩ := e
  exact ⟨A, cap, l, rfl, h1, h2, h3⟩
set_option maxRecDepth 100000 in
theorem rd_string {b : Nat} {v : Value} {d : DataW H} {ps : List MemPlace} (hv : Value.okWide Tryz.prog w .any b 9 v) (h : DataW.Trod enc Tryz.prog w 0 (fun _ => true) true 9 v d ps) : ∃ t : Tx, v = tx t ∧ t.length ≤ 9223372036854775807 := by
  obtain ⟨s, rfl, -, -, hs⟩ := Go.ChangeMaps.open_string uStr hv h
  refine ⟨s.data.toList, rfl, ?_⟩
  have : s.data.toList.length = s.size := rfl
  rw [this]
  unfold maxLen at hs
  omega
end
end
section
open Go.ChangeShapes Go.WideShapes Go.ChangeAt Go.RowKit
/-! What the card lays and ties, as the walks want it (Env). -/
theorem own : ownKnob Tryz.prog.godebug = none := by kernel_rfl
def laidL : List (String × DataW Unit) := [("math/bits.deBruijn32tab", Rows.laid_math_bits_deBruijn32tab), ("math/bits.deBruijn64tab", Rows.laid_math_bits_deBruijn64tab), ("internal/strconv.uint64pow10", Rows.laid_internal_strconv_uint64pow10), ("unicode/utf8.acceptRanges", Rows.laid_unicode_utf8_acceptRanges), ("strconv.ErrRange", Rows.laid_strconv_ErrRange), ("strconv.ErrSyntax", Rows.laid_strconv_ErrSyntax), ("unicode/utf8.first", Rows.laid_unicode_utf8_first)]
theorem gSyn : Tryz.prog.globalNamed "strconv.ErrSyntax" = some 1 := by kernel_rfl
theorem gRng : Tryz.prog.globalNamed "strconv.ErrRange" = some 2 := by kernel_rfl
theorem gPow : Tryz.prog.globalNamed "internal/strconv.uint64pow10" = some 3 := by kernel_rfl
theorem tSyn : (Tryz.prog.globals[1]?).map (·.type) = some 117 := by kernel_rfl
theorem tRng : (Tryz.prog.globals[2]?).map (·.type) = some 117 := by kernel_rfl
theorem tPow : (Tryz.prog.globals[3]?).map (·.type) = some 197 := by kernel_rfl
theorem uPow : Tryz.prog.underlying 197 = some (.array 20 180) := by kernel_rfl
theorem uU64 : Tryz.prog.underlying 180 = some (.int .u64) := by kernel_rfl
theorem kU64 : Tryz.prog.cellsOf 180 = 1 := by kernel_rfl
theorem kPow : Tryz.prog.cellsOf 197 = 20 := by kernel_rfl
theorem uErr : ∃ ms, Tryz.prog.underlying 117 = some (.interface ms) := by
  have h : (match Tryz.prog.underlying 117 with | some (.interface _) => true | _ => false) = true := by kernel_rfl
  revert h
  generalize Tryz.prog.underlying 117 = u
  intro h
  split at h
  · exact ⟨_, rfl⟩
  · cases h
theorem laid_pow : (Rows.laid_internal_strconv_uint64pow10 : DataW Unit) = Lib.tabData .u64 Lib.pow10Tab := by kernel_rfl
theorem iface_laid {W : World} {n nm : String} {d : DataW Unit} {g : Nat} {r : List (String × DataW Unit)} (hg : Tryz.prog.globalNamed n = some g) (ht : (Tryz.prog.globals[g]?).map (·.type) = some 117) (h : laidMet Tryz.prog ((n, .iface nm d) :: r) W) :
    ∃ t p, W.cell? ⟨g, 0, none⟩ = some (.iface t p) := by
  obtain ⟨ms, hi⟩ := uErr
  obtain ⟨ps, ⟨g0, t0, cs0, f0, p0, q0, hg0, ht0, hv0, hd0, _, _⟩, _⟩ := h
  obtain rfl := Option.some.inj (hg.symm.trans hg0)
  obtain rfl := Option.some.inj (ht.symm.trans ht0)
  obtain ⟨f1, u, v, hl, hn, h1⟩ := iface_of_trod hi hd0
  obtain ⟨l0⟩ := cs0
  simp only at hl
  subst hl
  exact ⟨u, v, by simpa using World.var?_cell hg0 hv0 0⟩
theorem one_laid {W : World} (h : laidMetH Tryz.prog laidL W) (n : String) (d : DataW Unit) (hf : laidL.filter (fun x => x.1 == n) = [(n, d)]) (hd : d.handleName?.isNone = true) : laidMet Tryz.prog [(n, d)] W := by
  have := h.filter (fun x => x.1 == n)
  rw [hf, MakeChecks.laidMetH_plain _ _ _ (by simp [hd])] at this
  exact this
theorem env_of_laid {W : World} (h : laidMetH Tryz.prog laidL W) (hs : W.ShapedOpen Tryz.prog) : Env W := by
  refine ⟨?_, ?_, ?_, ?_, ?_⟩
  · obtain ⟨o, -, hh, -, -⟩ := hs.2 8 (of_decide_eq_true (by kernel_rfl)) (of_decide_eq_true (by kernel_rfl))
    have := (Array.getElem?_eq_some_iff.1 hh).1
    omega
  · exact cell_of_shapedOpen_int (g := 0) (t := 3) (zero := #[.int .i64 0]) hs (of_decide_eq_true (by kernel_rfl)) (by kernel_rfl) rfl (by kernel_rfl) (by kernel_rfl) (by kernel_rfl)
  · exact iface_laid gSyn tSyn (one_laid h "strconv.ErrSyntax" Rows.laid_strconv_ErrSyntax (by kernel_rfl) (by kernel_rfl))
  · exact iface_laid gRng tRng (one_laid h "strconv.ErrRange" Rows.laid_strconv_ErrRange (by kernel_rfl) (by kernel_rfl))
  · have := one_laid h "internal/strconv.uint64pow10" Rows.laid_internal_strconv_uint64pow10 (by kernel_rfl) (by kernel_rfl)
    rw [laid_pow] at this
    exact Lib.tabIs_of_head gPow tPow uPow uU64 kU64 kPow this
/-- The world for the witness: the door's own run, and the pinned table laid. -/
noncomputable def doorW (os : Os) : World :=
  let w0 := World.doorLaid Tryz.prog 2000 os
  { w0 with heap := w0.heap.modify ((Tryz.prog.globalNamed "unicode/utf8.first").getD 0) fun
    | .cells _ t frozen => .cells (Lib.firstTab.map fun z => Value.int .u8 z).toArray t frozen
    | o => o }
theorem door_met (os : Os) (args : Array Value) : laidMetH Tryz.prog laidL ((doorW os).forCall (fun _ _ => 0) ⟨#[], args, []⟩).memory :=
  laidMetH_of_parts3 (fuel := 8) (laidMet_of_run' 8 (by kernel_rfl) (by kernel_rfl)) (by kernel_rfl) (by kernel_rfl)
end
section
open Go.ChangeShapes Go.WideShapes Go.ChangeAt Go.RowKit
theorem laidOut : laidOutB Tryz.prog = true := by kernel_rfl
theorem u4 : Tryz.prog.underlying 4 = some .bool := by kernel_rfl
section
variable {H : Type} {enc : TypeId × Value → H} {P : Program}
theorem post_of_below {f : Func} {s : ChangeSpec} {apart fresh handsOn again : Bool} {W W' : World} {args : Array Value} {v : Value} {ds gs : List (DataW H)} {before pa pv : List MemPlace}
    (hW : DataW.Whole enc P f.params.toList s.vars apart W args.toList ds gs before)
    (hres : ∀ (b : Nat) (sp : Nat → Bool) (hd : Bool), DataW.TrodAll enc P W' b sp hd f.resultTypes.toList (v.resultList f.resultTypes.size) (s.fn H (ds ++ gs)).results [])
    (hargs : ∀ sp : Nat → Bool, (∀ p ∈ before, sp p.block = true) → DataW.TrodAll enc P W' 0 sp true f.params.toList args.toList (s.fn H (ds ++ gs)).args pa)
    (hvars : ∀ sp : Nat → Bool, (∀ p ∈ before, sp p.block = true) → DataW.TrodVars enc P W' sp s.vars (s.fn H (ds ++ gs)).vars pv)
    (hps : before = pa ++ pv) (hb : Below W.heap.size W W')
    (hok : ∀ (j : Nat) (t : TypeId) (r : Value), f.resultTypes[j]? = some t → (v.resultList f.resultTypes.size)[j]? = some r → Value.okWide P W' .any 0 t r) :
    s.post enc P f apart fresh handsOn again W args v W' := by
  have hlt : ∀ p ∈ before, p.block < W.heap.size := fun p hp => hW.lt p hp
  have hold : ∀ p ∈ before, (fun b => decide (b < W.heap.size)) p.block = true := fun p hp => by simpa using hlt p hp
  refine ⟨ds, gs, before, [], pa, pv, hW, hres _ _ _, hargs _ hold, hvars _ hold, World.keptBut_mono (fun p hp => ⟨hp, ?_⟩) (hb.frame (· ∈ before)), fun _ => ?_⟩
  · rw [hps, List.mem_append] at hp
    exact Or.inr hp
  · obtain ⟨_, _, _, _, _, hz, hn⟩ := hW
    refine ⟨hok, _, _, ([] ++ pa) ++ pv, ⟨[] ++ pa, pv, trodAll_append (hargs _ (fun _ _ => rfl)) (hres _ _ _), hvars _ (fun _ _ => rfl), rfl, ?_, ?_⟩, ?_⟩
    · intro b off hp
      have hin : MemPlace.cell b off ∈ before := by rw [hps]; simpa using hp
      rw [hb.frozen (hlt _ hin)]
      exact hz b off hin
    · intro ha
      have := hn ha
      rw [hps] at this
      simpa using this
    · intro p hp _
      rw [hps]
      simpa using hp
theorem trodAll_stays (hl : laidOutB P = true) {W W' : World} (hb : Below W.heap.size W W') {sp : Nat → Bool} : ∀ {ts : List TypeId} {vs : List Value} {ds : List (DataW H)} {ps : List MemPlace},
    (∀ t ∈ ts, P.readableRec t = true ∧ t < P.types.size) → DataW.TrodAll enc P W 0 (fun _ => true) true ts vs ds ps → (∀ x ∈ ps, x.block < W.heap.size) → (∀ x ∈ ps, sp x.block = true) → DataW.TrodAll enc P W' 0 sp true ts vs ds ps
  | [], [], [], _, _, h, _, _ => h
  | [], _ :: _, _, _, _, h, _, _ => h.elim
  | [], [], _ :: _, _, _, h, _, _ => h.elim
  | _ :: _, [], _, _, _, h, _, _ => h.elim
  | _ :: _, _ :: _, [], _, _, h, _, _ => h.elim
  | t :: ts, v :: vs, d :: ds, ps, hr, h, hlt, hsp => by
    obtain ⟨p, q, h1, h2, rfl⟩ := h
    obtain ⟨r1, r2⟩ := hr t (List.mem_cons_self ..)
    exact ⟨p, q, WideElems.Trod_stays hl r1 r2 h1 (fun x hx => hb.same (hlt x (List.mem_append_left _ hx))) (fun x hx => hsp x (List.mem_append_left _ hx)),
      trodAll_stays hl hb (fun t ht => hr t (List.mem_cons_of_mem _ ht)) h2 (fun x hx => hlt x (List.mem_append_right _ hx)) (fun x hx => hsp x (List.mem_append_right _ hx)), rfl⟩
end
section
variable {H : Type} {enc : TypeId × Value → H}
theorem returns_shaped {a : Assume} {C : Checked} {os : Os} {f : FuncId} {fn : Func} {s : ChangeSpec} {conds : List PathCond} {apart fresh handsOn again : Bool} {X : World → Array Value → Prop}
    (hX : ∀ (w w' : World) (args : Array Value), w.heap = w'.heap → X w args → X w' args)
    (own : ownKnob C.prog.godebug = none) (started : os.Started) (noInit : C.prog.inits.idxOf? f = none) (hfn : C.prog.funcs[f]? = some fn)
    (witness : ∃ (w : World) (tape : Tape) (i : Input), w.os = os ∧ (w.forCall tape i).Shaped C.prog ∧ i.vars = [] ∧ Input.okWide C.prog (w.forCall tape i) .any w.heap.size f i ∧
      ((s.pre enc C.prog fn conds apart (w.forCall tape i).memory i.args ∧ X (w.forCall tape i).memory i.args) ∧ sizedMet enc C.prog fn (OpenSpec.ofChange s) apart (w.forCall tape i).memory i.args) ∧ a.holds C.prog (lone (Frame.enter C.prog f i.args .normal) [] (w.forCall tape i)))
    (contract : ∀ (W : World) (base : Nat) (args : Array Value) (ds gs : List (DataW H)) (before : List MemPlace),
      (∀ (j : Nat) t v, fn.params[j]? = some t → args[j]? = some v → Value.okWide C.prog W .any base t v) →
      DataW.Whole enc C.prog fn.params.toList s.vars apart W args.toList ds gs before → X W args → W.ShapedOpen C.prog →
      Calls C.prog f args W fun e W' => ∃ v, e = .returned v ∧ s.post enc C.prog fn apart fresh handsOn again W args v W') :
    ReturnsInHanded a C os f .any (fun w args => (s.pre enc C.prog fn conds apart w args ∧ X w args) ∧ sizedMet enc C.prog fn (OpenSpec.ofChange s) apart w args) (s.post enc C.prog fn apart fresh handsOn again) := by
  refine returnsInHanded_of_calls own started noInit witness ?_
  intro w tape i _ hsh _ hok hpre hholds
  obtain ⟨_, _, _, fn', hfn', _, _, _, _, hval⟩ := hok
  have e : fn' = fn := Option.some.inj (hfn'.symm.trans hfn)
  subst e
  obtain ⟨⟨⟨ds, gs, before, hw, hc⟩, hx⟩, hz⟩ := hpre
  have hw' := DataW.Whole.of_heap (w' := w.forCall tape i) (by rfl) hw
  refine (contract (w.forCall tape i) w.heap.size i.args ds gs before hval hw' (hX _ _ _ (by rfl) hx) hsh).mono fun e W' ⟨v, he, hp⟩ => ?_
  subst he
  exact ChangeSpec.post_blind hp
end
set_option maxRecDepth 100000 in
/-- A law's post: it returned true, nothing below has turned. -/
theorem law_post {H : Type} {enc : TypeId × Value → H} {f : Func} {s : ChangeSpec} {W W' : World} {args : Array Value} {ds : List (DataW H)} {before : List MemPlace}
    (hv : s.vars = []) (hrt : f.resultTypes = #[4]) (hfn : (s.fn H ds).results = [.lit (.bool true)] ∧ (s.fn H ds).args = ds) (hfv : (s.fn H ds).vars = [])
    (hp : (f.params.all fun t => Tryz.prog.readableRec t && decide (t < Tryz.prog.types.size)) = true)
    (hW : DataW.Whole enc Tryz.prog f.params.toList s.vars false W args.toList ds [] before) (hA : DataW.TrodAll enc Tryz.prog W 0 (fun _ => true) true f.params.toList args.toList ds before) (hb : Below W.heap.size W W') :
    s.post enc Tryz.prog f false true false false W args (.bool true) W' := by
  have hlt : ∀ p ∈ before, p.block < W.heap.size := fun p hp => hW.lt p hp
  refine post_of_below (pa := before) (pv := []) hW (fun _ _ _ => ?_) (fun sp hsp => ?_) (fun _ _ => ?_) (by simp) hb ?_
  · rw [List.append_nil, hfn.1, hrt]
    exact trodAll_mk1 (shut_bool u4 _)
  · rw [List.append_nil, hfn.2]
    refine trodAll_stays laidOut hb (fun t ht => ?_) hA hlt hsp
    have := Array.all_eq_true'.1 hp t (by simpa using ht)
    simpa using this
  · rw [List.append_nil, hfv, hv]; rfl
  · rw [hrt]
    intro j t r hj hr
    match j, hj, hr with
    | 0, hj, hr =>
      simp [Value.resultList] at hj hr
      subst hj; subst hr
      exact okWide_bool_mk u4 _
end
end Go.Proofs.YtonnemkecppmiaaGreatDoor
