import Derived.Test.YtjlicbdnppodgaaP5
import Derived.Deep.MidRow
namespace Go.Proofs.Ytjlicbdnppodgaa
open Go.RowKit
/-! The program: parts. -/
def intsL (n : Nat) (f : Nat → Int) : List Value := (List.range n).map fun k => Value.int .i64 (f k)
theorem IBlk.range {w : World} {g n : Nat} {f : Nat → Int} (h : IBlk w g n f) : w.rangeAt g 0 (intsL n f) := fun j v hv => by
  unfold intsL at hv
  rw [List.getElem?_map] at hv
  by_cases hj : j < n
  · rw [List.getElem?_range hj] at hv
    injection hv with hv
    rw [← hv, Nat.zero_add]
    exact h.cell j hj
  · rw [List.getElem?_eq_none (by simp; omega)] at hv
    cases hv
theorem IBlk.there {w : World} {g n : Nat} {f : Nat → Int} (h : IBlk w g n f) : w.there g 0 n := fun j hj => by
  rw [Nat.zero_add]
  exact ⟨by rw [h.cell j hj]; rfl, h.free j⟩
theorem IBlk.gk {W W' : World} {row : Option Nat} {g n : Nat} {f : Nat → Int} (h : IBlk W g n f) (hg : W.grownBy W' row) (hr : ∀ r, row = some r → g ≠ r) : IBlk W' g n f := by
  have hk := hg.block g h.lt (fun e => hr g e.symm rfl)
  exact ⟨Nat.lt_of_lt_of_le h.lt hg.size, fun j hj => (World.cell?_of_block (a := ⟨g, j, none⟩) hk).trans (h.cell j hj), fun j => (World.frozen?_of_block (a := ⟨g, j, none⟩) hk).trans (h.free j)⟩
theorem arr_info : (Try.prog.info? 50).map (fun i => i.size) = some 40 := by kernel_rfl
theorem arr_und : Try.prog.underlying 50 = some (.array 40 3) := by kernel_rfl
/-- The memory that parts lays. -/
structure PartsW (c : Cut) (bm : Nat) (w V : World) : Prop where
  x0 : Bx V w.heap.size (picL c bm)
  i1 : IBlk V (w.heap.size + 1) 40 (fun _ => 0)
  i2 : IBlk V (w.heap.size + 1 + 1) 40 (fun _ => 0)
  mp : MapIs Try.prog 90 kv2 vvB (w.heap.size + 1 + 1 + 1) (fun _ => none) V
  x4 : Bx V (w.heap.size + 1 + 1 + 1 + 1) [.map (some (w.heap.size + 1 + 1 + 1))]
  x5 : Bx V (w.heap.size + 1 + 1 + 1 + 1 + 1) [.nilFunc]
  b : Below w.heap.size w V
  z : V.heap.size = w.heap.size + 1 + 1 + 1 + 1 + 1 + 1
set_option maxRecDepth 100000 in
theorem zeros40 (W : World) (t : TypeId) : IBlk (W.alloc (Obj.cells (Value.int .i64 0 :: Value.int .i64 0 :: Value.int .i64 0 :: Value.int .i64 0 :: Value.int .i64 0 :: Value.int .i64 0 :: Value.int .i64 0 :: Value.int .i64 0 :: Value.int .i64 0 :: Value.int .i64 0 :: Value.int .i64 0 :: Value.int .i64 0 :: Value.int .i64 0 :: Value.int .i64 0 :: Value.int .i64 0 :: Value.int .i64 0 :: Value.int .i64 0 :: Value.int .i64 0 :: Value.int .i64 0 :: Value.int .i64 0 :: Value.int .i64 0 :: Value.int .i64 0 :: Value.int .i64 0 :: Value.int .i64 0 :: Value.int .i64 0 :: Value.int .i64 0 :: Value.int .i64 0 :: Value.int .i64 0 :: Value.int .i64 0 :: Value.int .i64 0 :: Value.int .i64 0 :: Value.int .i64 0 :: Value.int .i64 0 :: Value.int .i64 0 :: Value.int .i64 0 :: Value.int .i64 0 :: Value.int .i64 0 :: Value.int .i64 0 :: Value.int .i64 0 :: Value.int .i64 0 :: []).toArray t)) W.heap.size 40 (fun _ => 0) := by
  have e : zeros 40 = (Value.int .i64 0 :: Value.int .i64 0 :: Value.int .i64 0 :: Value.int .i64 0 :: Value.int .i64 0 :: Value.int .i64 0 :: Value.int .i64 0 :: Value.int .i64 0 :: Value.int .i64 0 :: Value.int .i64 0 :: Value.int .i64 0 :: Value.int .i64 0 :: Value.int .i64 0 :: Value.int .i64 0 :: Value.int .i64 0 :: Value.int .i64 0 :: Value.int .i64 0 :: Value.int .i64 0 :: Value.int .i64 0 :: Value.int .i64 0 :: Value.int .i64 0 :: Value.int .i64 0 :: Value.int .i64 0 :: Value.int .i64 0 :: Value.int .i64 0 :: Value.int .i64 0 :: Value.int .i64 0 :: Value.int .i64 0 :: Value.int .i64 0 :: Value.int .i64 0 :: Value.int .i64 0 :: Value.int .i64 0 :: Value.int .i64 0 :: Value.int .i64 0 :: Value.int .i64 0 :: Value.int .i64 0 :: Value.int .i64 0 :: Value.int .i64 0 :: Value.int .i64 0 :: Value.int .i64 0 :: []).toArray := by kernel_rfl
  rw [← e]
  exact IBlk.zeros W 40 t
theorem PartsW.made (c : Cut) (bm : Nat) (w : World) : PartsW c bm w ((((((w.alloc (Obj.cells #[.int .i64 c.wide, .int .i64 c.high, .slice c.A c.piece.length c.c, .map (some (bm))] 71)).alloc (Obj.cells (Value.int .i64 0 :: Value.int .i64 0 :: Value.int .i64 0 :: Value.int .i64 0 :: Value.int .i64 0 :: Value.int .i64 0 :: Value.int .i64 0 :: Value.int .i64 0 :: Value.int .i64 0 :: Value.int .i64 0 :: Value.int .i64 0 :: Value.int .i64 0 :: Value.int .i64 0 :: Value.int .i64 0 :: Value.int .i64 0 :: Value.int .i64 0 :: Value.int .i64 0 :: Value.int .i64 0 :: Value.int .i64 0 :: Value.int .i64 0 :: Value.int .i64 0 :: Value.int .i64 0 :: Value.int .i64 0 :: Value.int .i64 0 :: Value.int .i64 0 :: Value.int .i64 0 :: Value.int .i64 0 :: Value.int .i64 0 :: Value.int .i64 0 :: Value.int .i64 0 :: Value.int .i64 0 :: Value.int .i64 0 :: Value.int .i64 0 :: Value.int .i64 0 :: Value.int .i64 0 :: Value.int .i64 0 :: Value.int .i64 0 :: Value.int .i64 0 :: Value.int .i64 0 :: Value.int .i64 0 :: []).toArray 50)).alloc (Obj.cells (Value.int .i64 0 :: Value.int .i64 0 :: Value.int .i64 0 :: Value.int .i64 0 :: Value.int .i64 0 :: Value.int .i64 0 :: Value.int .i64 0 :: Value.int .i64 0 :: Value.int .i64 0 :: Value.int .i64 0 :: Value.int .i64 0 :: Value.int .i64 0 :: Value.int .i64 0 :: Value.int .i64 0 :: Value.int .i64 0 :: Value.int .i64 0 :: Value.int .i64 0 :: Value.int .i64 0 :: Value.int .i64 0 :: Value.int .i64 0 :: Value.int .i64 0 :: Value.int .i64 0 :: Value.int .i64 0 :: Value.int .i64 0 :: Value.int .i64 0 :: Value.int .i64 0 :: Value.int .i64 0 :: Value.int .i64 0 :: Value.int .i64 0 :: Value.int .i64 0 :: Value.int .i64 0 :: Value.int .i64 0 :: Value.int .i64 0 :: Value.int .i64 0 :: Value.int .i64 0 :: Value.int .i64 0 :: Value.int .i64 0 :: Value.int .i64 0 :: Value.int .i64 0 :: Value.int .i64 0 :: []).toArray 50)).alloc (Obj.map #[] 0)).alloc (Obj.cells #[.map (some (w.heap.size + 1 + 1 + 1))] 106)).alloc (Obj.cells #[Value.nilFunc] 107)) := by
  have n0 := nxA w (Obj.cells #[.int .i64 c.wide, .int .i64 c.high, .slice c.A c.piece.length c.c, .map (some (bm))] 71)
  have y0 := Bx.new w #[.int .i64 c.wide, .int .i64 c.high, .slice c.A c.piece.length c.c, .map (some (bm))] 71
  have s0 : (w.alloc (Obj.cells #[.int .i64 c.wide, .int .i64 c.high, .slice c.A c.piece.length c.c, .map (some (bm))] 71)).heap.size = w.heap.size + 1 := by simp
  generalize (w.alloc (Obj.cells #[.int .i64 c.wide, .int .i64 c.high, .slice c.A c.piece.length c.c, .map (some (bm))] 71)) = W0 at *
  have n1 := nxA W0 (Obj.cells (Value.int .i64 0 :: Value.int .i64 0 :: Value.int .i64 0 :: Value.int .i64 0 :: Value.int .i64 0 :: Value.int .i64 0 :: Value.int .i64 0 :: Value.int .i64 0 :: Value.int .i64 0 :: Value.int .i64 0 :: Value.int .i64 0 :: Value.int .i64 0 :: Value.int .i64 0 :: Value.int .i64 0 :: Value.int .i64 0 :: Value.int .i64 0 :: Value.int .i64 0 :: Value.int .i64 0 :: Value.int .i64 0 :: Value.int .i64 0 :: Value.int .i64 0 :: Value.int .i64 0 :: Value.int .i64 0 :: Value.int .i64 0 :: Value.int .i64 0 :: Value.int .i64 0 :: Value.int .i64 0 :: Value.int .i64 0 :: Value.int .i64 0 :: Value.int .i64 0 :: Value.int .i64 0 :: Value.int .i64 0 :: Value.int .i64 0 :: Value.int .i64 0 :: Value.int .i64 0 :: Value.int .i64 0 :: Value.int .i64 0 :: Value.int .i64 0 :: Value.int .i64 0 :: Value.int .i64 0 :: []).toArray 50)
  have y1 := zeros40 W0 50
  have s1 : (W0.alloc (Obj.cells (Value.int .i64 0 :: Value.int .i64 0 :: Value.int .i64 0 :: Value.int .i64 0 :: Value.int .i64 0 :: Value.int .i64 0 :: Value.int .i64 0 :: Value.int .i64 0 :: Value.int .i64 0 :: Value.int .i64 0 :: Value.int .i64 0 :: Value.int .i64 0 :: Value.int .i64 0 :: Value.int .i64 0 :: Value.int .i64 0 :: Value.int .i64 0 :: Value.int .i64 0 :: Value.int .i64 0 :: Value.int .i64 0 :: Value.int .i64 0 :: Value.int .i64 0 :: Value.int .i64 0 :: Value.int .i64 0 :: Value.int .i64 0 :: Value.int .i64 0 :: Value.int .i64 0 :: Value.int .i64 0 :: Value.int .i64 0 :: Value.int .i64 0 :: Value.int .i64 0 :: Value.int .i64 0 :: Value.int .i64 0 :: Value.int .i64 0 :: Value.int .i64 0 :: Value.int .i64 0 :: Value.int .i64 0 :: Value.int .i64 0 :: Value.int .i64 0 :: Value.int .i64 0 :: Value.int .i64 0 :: []).toArray 50)).heap.size = w.heap.size + 1 + 1 := by simp [s0]
  generalize W0.alloc (Obj.cells (Value.int .i64 0 :: Value.int .i64 0 :: Value.int .i64 0 :: Value.int .i64 0 :: Value.int .i64 0 :: Value.int .i64 0 :: Value.int .i64 0 :: Value.int .i64 0 :: Value.int .i64 0 :: Value.int .i64 0 :: Value.int .i64 0 :: Value.int .i64 0 :: Value.int .i64 0 :: Value.int .i64 0 :: Value.int .i64 0 :: Value.int .i64 0 :: Value.int .i64 0 :: Value.int .i64 0 :: Value.int .i64 0 :: Value.int .i64 0 :: Value.int .i64 0 :: Value.int .i64 0 :: Value.int .i64 0 :: Value.int .i64 0 :: Value.int .i64 0 :: Value.int .i64 0 :: Value.int .i64 0 :: Value.int .i64 0 :: Value.int .i64 0 :: Value.int .i64 0 :: Value.int .i64 0 :: Value.int .i64 0 :: Value.int .i64 0 :: Value.int .i64 0 :: Value.int .i64 0 :: Value.int .i64 0 :: Value.int .i64 0 :: Value.int .i64 0 :: Value.int .i64 0 :: Value.int .i64 0 :: []).toArray 50) = W1 at *
  have n2 := nxA W1 (Obj.cells (Value.int .i64 0 :: Value.int .i64 0 :: Value.int .i64 0 :: Value.int .i64 0 :: Value.int .i64 0 :: Value.int .i64 0 :: Value.int .i64 0 :: Value.int .i64 0 :: Value.int .i64 0 :: Value.int .i64 0 :: Value.int .i64 0 :: Value.int .i64 0 :: Value.int .i64 0 :: Value.int .i64 0 :: Value.int .i64 0 :: Value.int .i64 0 :: Value.int .i64 0 :: Value.int .i64 0 :: Value.int .i64 0 :: Value.int .i64 0 :: Value.int .i64 0 :: Value.int .i64 0 :: Value.int .i64 0 :: Value.int .i64 0 :: Value.int .i64 0 :: Value.int .i64 0 :: Value.int .i64 0 :: Value.int .i64 0 :: Value.int .i64 0 :: Value.int .i64 0 :: Value.int .i64 0 :: Value.int .i64 0 :: Value.int .i64 0 :: Value.int .i64 0 :: Value.int .i64 0 :: Value.int .i64 0 :: Value.int .i64 0 :: Value.int .i64 0 :: Value.int .i64 0 :: Value.int .i64 0 :: []).toArray 50)
  have y2 := zeros40 W1 50
  have s2 : (W1.alloc (Obj.cells (Value.int .i64 0 :: Value.int .i64 0 :: Value.int .i64 0 :: Value.int .i64 0 :: Value.int .i64 0 :: Value.int .i64 0 :: Value.int .i64 0 :: Value.int .i64 0 :: Value.int .i64 0 :: Value.int .i64 0 :: Value.int .i64 0 :: Value.int .i64 0 :: Value.int .i64 0 :: Value.int .i64 0 :: Value.int .i64 0 :: Value.int .i64 0 :: Value.int .i64 0 :: Value.int .i64 0 :: Value.int .i64 0 :: Value.int .i64 0 :: Value.int .i64 0 :: Value.int .i64 0 :: Value.int .i64 0 :: Value.int .i64 0 :: Value.int .i64 0 :: Value.int .i64 0 :: Value.int .i64 0 :: Value.int .i64 0 :: Value.int .i64 0 :: Value.int .i64 0 :: Value.int .i64 0 :: Value.int .i64 0 :: Value.int .i64 0 :: Value.int .i64 0 :: Value.int .i64 0 :: Value.int .i64 0 :: Value.int .i64 0 :: Value.int .i64 0 :: Value.int .i64 0 :: Value.int .i64 0 :: []).toArray 50)).heap.size = w.heap.size + 1 + 1 + 1 := by simp [s1]
  generalize W1.alloc (Obj.cells (Value.int .i64 0 :: Value.int .i64 0 :: Value.int .i64 0 :: Value.int .i64 0 :: Value.int .i64 0 :: Value.int .i64 0 :: Value.int .i64 0 :: Value.int .i64 0 :: Value.int .i64 0 :: Value.int .i64 0 :: Value.int .i64 0 :: Value.int .i64 0 :: Value.int .i64 0 :: Value.int .i64 0 :: Value.int .i64 0 :: Value.int .i64 0 :: Value.int .i64 0 :: Value.int .i64 0 :: Value.int .i64 0 :: Value.int .i64 0 :: Value.int .i64 0 :: Value.int .i64 0 :: Value.int .i64 0 :: Value.int .i64 0 :: Value.int .i64 0 :: Value.int .i64 0 :: Value.int .i64 0 :: Value.int .i64 0 :: Value.int .i64 0 :: Value.int .i64 0 :: Value.int .i64 0 :: Value.int .i64 0 :: Value.int .i64 0 :: Value.int .i64 0 :: Value.int .i64 0 :: Value.int .i64 0 :: Value.int .i64 0 :: Value.int .i64 0 :: Value.int .i64 0 :: Value.int .i64 0 :: []).toArray 50) = W2 at *
  have n3 := nxA W2 (Obj.map #[] 0)
  have y3 := MapIs.made Try.prog 90 kv2 vvB W2
  have s3 : (W2.alloc (Obj.map #[] 0)).heap.size = w.heap.size + 1 + 1 + 1 + 1 := by simp [s2]
  generalize W2.alloc (Obj.map #[] 0) = W3 at *
  have n4 := nxA W3 (Obj.cells #[.map (some (w.heap.size + 1 + 1 + 1))] 106)
  have y4 := Bx.new W3 #[.map (some (w.heap.size + 1 + 1 + 1))] 106
  have s4 : (W3.alloc (Obj.cells #[.map (some (w.heap.size + 1 + 1 + 1))] 106)).heap.size = w.heap.size + 1 + 1 + 1 + 1 + 1 := by simp [s3]
  generalize W3.alloc (Obj.cells #[.map (some (w.heap.size + 1 + 1 + 1))] 106) = W4 at *
  have n5 := nxA W4 (Obj.cells #[Value.nilFunc] 107)
  have y5 := Bx.new W4 #[Value.nilFunc] 107
  have s5 : (W4.alloc (Obj.cells #[Value.nilFunc] 107)).heap.size = w.heap.size + 1 + 1 + 1 + 1 + 1 + 1 := by simp [s4]
  generalize W4.alloc (Obj.cells #[Value.nilFunc] 107) = W5 at *
  rw [s0] at y1
  rw [s1] at y2
  rw [s2] at y3
  rw [s3] at y4
  rw [s4] at y5
  exact ⟨((((y0.next n1).next n2).next n3).next n4).next n5, (((y1.next n2).next n3).next n4).next n5, ((y2.next n3).next n4).next n5, (y3.next n4).next n5, y4.next n5, y5, n0.trans ((n1.trans ((n2.trans ((n3.trans ((n4.trans (n5.mono n4.size)).mono n3.size)).mono n2.size)).mono n1.size)).mono n0.size), s5⟩
theorem IBlk.of {W W' : World} {g n : Nat} {f : Nat → Int} (h : IBlk W g n f) (hs : W.heap.size ≤ W'.heap.size) (hk : W'.heap[g]? = W.heap[g]?) : IBlk W' g n f :=
  ⟨Nat.lt_of_lt_of_le h.lt hs, fun j hj => (World.cell?_of_block (a := ⟨g, j, none⟩) hk).trans (h.cell j hj), fun j => (World.frozen?_of_block (a := ⟨g, j, none⟩) hk).trans (h.free j)⟩
/-- The memory behind the making of the closure. -/
structure PartsV (c : Cut) (bm : Nat) (w V : World) : Prop where
  on : OnW c bm (w.heap.size + 1 + 1 + 1) (w.heap.size + 1 + 1 + 1 + 1) w.heap.size (w.heap.size + 1 + 1 + 1 + 1 + 1) (fun _ => false) V
  i1 : IBlk V (w.heap.size + 1) 40 (fun _ => 0)
  i2 : IBlk V (w.heap.size + 1 + 1) 40 (fun _ => 0)
  b : Below w.heap.size w V
  z : V.heap.size = w.heap.size + 1 + 1 + 1 + 1 + 1 + 1
theorem PartsV.of {c : Cut} {bm : Nat} {w V : World} (h : PartsW c bm w V) (hp : PicAt c bm w) : PartsV c bm w (V.setCell ⟨w.heap.size + 1 + 1 + 1 + 1 + 1, 0, none⟩ (onV (w.heap.size + 1 + 1 + 1 + 1) w.heap.size (w.heap.size + 1 + 1 + 1 + 1 + 1))) := by
  have hlt := hp.lt
  have hk : ∀ q, q ≠ w.heap.size + 1 + 1 + 1 + 1 + 1 → (V.setCell ⟨w.heap.size + 1 + 1 + 1 + 1 + 1, 0, none⟩ (onV (w.heap.size + 1 + 1 + 1 + 1) w.heap.size (w.heap.size + 1 + 1 + 1 + 1 + 1))).heap[q]? = V.heap[q]? := fun q hq => blkSet (Ne.symm hq) _ _
  have hs : V.heap.size ≤ (V.setCell ⟨w.heap.size + 1 + 1 + 1 + 1 + 1, 0, none⟩ (onV (w.heap.size + 1 + 1 + 1 + 1) w.heap.size (w.heap.size + 1 + 1 + 1 + 1 + 1))).heap.size := by rw [World.size_setCell]; exact Nat.le_refl _
  refine ⟨⟨(MapIs.next hp h.b).of (hk _ (by omega)), (h.mp.of (hk _ (by omega))).eq (fun p => by unfold rchF; rfl), h.x0.of hs (hk _ (by omega)), h.x4.of hs (hk _ (by omega)), ?_, by omega⟩, h.i1.of hs (hk _ (by omega)), h.i2.of hs (hk _ (by omega)), h.b.setCell (p := ⟨w.heap.size + 1 + 1 + 1 + 1 + 1, 0, none⟩) (by show w.heap.size ≤ w.heap.size + 1 + 1 + 1 + 1 + 1; omega) _, by rw [World.size_setCell]; exact h.z⟩
  exact h.x5.set (k := 0) (by simp) (onV (w.heap.size + 1 + 1 + 1 + 1) w.heap.size (w.heap.size + 1 + 1 + 1 + 1 + 1))
def leftW (b r : Nat) (W : World) : Nat := match W.heap[b]?, W.heap[r]? with
  | some (.map es _), some (.mapIter _ _ seen _) => (leftOf es seen).size
  | _, _ => 0
theorem RangeIs.left {α β : Type} [DecidableEq α] {P : Program} {k : TypeId} {kv : α → Value} {vv : β → Value} {b r cnt : Nat} {f : α → Option β} {done : α → Bool} {W : World} (h : RangeIs P k kv vv b r f done cnt W) : leftW b r W = cnt := by
  obtain ⟨es, clock, since, seen, c0, h1, h2, h3, h4, h5, h6, h7, -⟩ := h
  unfold leftW
  rw [h1, h3]
  exact h7
/-- Between two rounds of parts. -/
structure RP (c : Cut) (bm r : Nat) (w W : World) (R : Pt → Bool) (ls : List Pt) (done : Pt → Bool) (cnt : Nat) : Prop where
  rg : RangeIs Try.prog 90 kv2 vvI bm r (picF c) done cnt W
  st : Starts c (fun p => R p = true) ls
  dn : ∀ p, done p = true → R p = true
  i1 : IBlk W (w.heap.size + 1) 40 (fun _ => 0)
  i2 : IBlk W (w.heap.size + 1 + 1) 40 (fun j => partsOf c ls (j : Int))
  on : OnW c bm (w.heap.size + 1 + 1 + 1) (w.heap.size + 1 + 1 + 1 + 1) w.heap.size (w.heap.size + 1 + 1 + 1 + 1 + 1) R W
  b : Below w.heap.size w W
  bd : ls.length + freeN c R ≤ c.piece.length
theorem wset_eq (b : Nat) : ∀ (l : List Value) (o : Nat) (w : World), w.setCells b o l = setCells w b o l
  | [], _, _ => rfl
  | _ :: l, o, _ => wset_eq b l (o + 1) _
theorem partsOf_cons (c : Cut) (p : Pt) (ls : List Pt) (k : Int) : partsOf c (p :: ls) k = partsOf c ls k + (if pcOf c p = k then 1 else 0) := by
  unfold partsOf
  rw [List.countP_cons]
  by_cases e : pcOf c p = k
  · simp [e]
  · simp [e]
theorem partsOf_bd (c : Cut) (ls : List Pt) (k : Int) : 0 ≤ partsOf c ls k ∧ partsOf c ls k ≤ ls.length := by
  unfold partsOf
  have := List.countP_le_length (p := fun s => pcOf c s == k) (l := ls)
  omega
theorem OnW.far {c : Cut} {bm br b4 b1 b5 g : Nat} {R : Pt → Bool} {W : World} (h : OnW c bm br b4 b1 b5 R W) (hg : g ≠ bm ∧ g ≠ br ∧ g ≠ b4 ∧ g ≠ b1 ∧ g ≠ b5) (o : Nat) (v : Value) : OnW c bm br b4 b1 b5 R (W.setCell ⟨g, o, none⟩ v) :=
  ⟨h.pic.of (blkSet hg.1 _ _), h.rch.of (blkSet hg.2.1 _ _), h.x1.other (Ne.symm hg.2.2.2.1) _ _, h.x4.other (Ne.symm hg.2.2.1) _ _, h.x5.other (Ne.symm hg.2.2.2.2) _ _, h.ne⟩
def RetParts (c : Cut) (w : World) (e : Ending) (w' : World) : Prop := ∃ f, PartsOk c f ∧ e = .returned (.agg (intsL 40 (fun j => f (j : Int))).toArray) ∧ Below w.heap.size w w'
set_option maxRecDepth 100000 in
set_option maxHeartbeats 2000000 in
theorem parts_any (c : Cut) (bm : Nat) (w : World) (ok : OkC c) (hp : PicAt c bm w) : Calls Try.prog 43 #[.agg #[.int .i64 c.wide, .int .i64 c.high, .slice c.A c.piece.length c.c, .map (some (bm))]] w (RetParts c w) := by
  have hmm := @run_makeMap Try.prog
  have hlt := hp.lt
  have HW := Lib.hid (PartsW.made c bm w)
  have HP := Lib.hid hp
  have OK := Lib.hid ok
  clear hp ok
  go_enter Try.func43, Try.ntmps43
  go_upto_region 4 with fail
  generalize ((((((w.alloc (Obj.cells #[.int .i64 c.wide, .int .i64 c.high, .slice c.A c.piece.length c.c, .map (some (bm))] 71)).alloc (Obj.cells (Value.int .i64 0 :: Value.int .i64 0 :: Value.int .i64 0 :: Value.int .i64 0 :: Value.int .i64 0 :: Value.int .i64 0 :: Value.int .i64 0 :: Value.int .i64 0 :: Value.int .i64 0 :: Value.int .i64 0 :: Value.int .i64 0 :: Value.int .i64 0 :: Value.int .i64 0 :: Value.int .i64 0 :: Value.int .i64 0 :: Value.int .i64 0 :: Value.int .i64 0 :: Value.int .i64 0 :: Value.int .i64 0 :: Value.int .i64 0 :: Value.int .i64 0 :: Value.int .i64 0 :: Value.int .i64 0 :: Value.int .i64 0 :: Value.int .i64 0 :: Value.int .i64 0 :: Value.int .i64 0 :: Value.int .i64 0 :: Value.int .i64 0 :: Value.int .i64 0 :: Value.int .i64 0 :: Value.int .i64 0 :: Value.int .i64 0 :: Value.int .i64 0 :: Value.int .i64 0 :: Value.int .i64 0 :: Value.int .i64 0 :: Value.int .i64 0 :: Value.int .i64 0 :: Value.int .i64 0 :: []).toArray 50)).alloc (Obj.cells (Value.int .i64 0 :: Value.int .i64 0 :: Value.int .i64 0 :: Value.int .i64 0 :: Value.int .i64 0 :: Value.int .i64 0 :: Value.int .i64 0 :: Value.int .i64 0 :: Value.int .i64 0 :: Value.int .i64 0 :: Value.int .i64 0 :: Value.int .i64 0 :: Value.int .i64 0 :: Value.int .i64 0 :: Value.int .i64 0 :: Value.int .i64 0 :: Value.int .i64 0 :: Value.int .i64 0 :: Value.int .i64 0 :: Value.int .i64 0 :: Value.int .i64 0 :: Value.int .i64 0 :: Value.int .i64 0 :: Value.int .i64 0 :: Value.int .i64 0 :: Value.int .i64 0 :: Value.int .i64 0 :: Value.int .i64 0 :: Value.int .i64 0 :: Value.int .i64 0 :: Value.int .i64 0 :: Value.int .i64 0 :: Value.int .i64 0 :: Value.int .i64 0 :: Value.int .i64 0 :: Value.int .i64 0 :: Value.int .i64 0 :: Value.int .i64 0 :: Value.int .i64 0 :: Value.int .i64 0 :: []).toArray 50)).alloc (Obj.map #[] 0)).alloc (Obj.cells #[.map (some (w.heap.size + 1 + 1 + 1))] 106)).alloc (Obj.cells #[Value.nilFunc] 107)) = V at *
  clear hmm
  have c5 := HW.out.x5.c 0 _ rfl
  have f5 := HW.out.x5.fr 0
  have hst : (store ⟨w.heap.size + 1 + 1 + 1 + 1 + 1, 0, none⟩ (onV (w.heap.size + 1 + 1 + 1 + 1) w.heap.size (w.heap.size + 1 + 1 + 1 + 1 + 1))).run Try.prog V = .ok () (V.setCell ⟨w.heap.size + 1 + 1 + 1 + 1 + 1, 0, none⟩ (onV (w.heap.size + 1 + 1 + 1 + 1) w.heap.size (w.heap.size + 1 + 1 + 1 + 1 + 1))) := by
    rw [run_store Try.prog V _ _ _ (by rfl)]
    simp [c5, f5]
  have HV := Lib.hid (PartsV.of HW.out HP.out)
  unfold onV at hst HV
  clear c5 f5
  go_upto_region 5 with fail
  generalize V.setCell ⟨w.heap.size + 1 + 1 + 1 + 1 + 1, 0, none⟩ (.func (.func 65) #[] #[.pointer (some ⟨w.heap.size + 1 + 1 + 1 + 1, 0, none⟩), .pointer (some ⟨w.heap.size, 0, none⟩), .pointer (some ⟨w.heap.size + 1 + 1 + 1 + 1 + 1, 0, none⟩)]) = V1 at *
  clear hst
  obtain ⟨W0, cnt0, hrun, hR0, hB0, hz0⟩ := HV.out.on.pic.range mapC_und
  obtain ⟨rr, hrr⟩ : ∃ rr, rr = V1.heap.size := ⟨_, rfl⟩
  rw [← hrr] at hrun hR0
  have HZ := Lib.hid (hrr.trans HV.out.z)
  clear hrr hz0
  have c1 := HV.out.on.x1.c 3 _ rfl
  go_wp2_with fail
  clear c1 hrun
  have HB0 := Lib.hid hB0
  have HR0 := Lib.hid hR0
  clear hB0 hR0
  go_loopw [] (fun wr => ∃ R ls done cnt, RP c bm rr w wr R ls done cnt) (fun wr => leftW bm rr wr)
  case atStart =>
    refine ⟨fun _ => false, [], fun _ => false, cnt0, ⟨HR0.out, ?_, fun p h => (by cases h), HV.out.i1.next HB0.out, (HV.out.i2.next HB0.out).congr (fun k => rfl), HV.out.on.up (HV.out.on.lts) (only_of_below HB0.out none) (fun r e => by cases e), below_step HB0.out HV.out.b (Nat.le_refl _), (by rw [List.length_nil, Nat.zero_add]; exact manyF_le _ _)⟩⟩
    refine cast (congrArg (fun f => Starts c f []) ?_) (Starts.nil (c := c))
    funext p; exact propext ⟨fun h => h.elim, fun h => by cases h⟩
  case round =>
    obtain ⟨R, ls, done, cnt, hr⟩ := hrel
    have HR := Lib.hid hr
    have HL := Lib.hid hr.rg.left
    rcases hr.rg.step kv2_inj 0 with ⟨h0, hall, hnx⟩ | ⟨p, v, W2, cnt2, hf, hdn, -, hnx, hr2, hlt2, hg2, hz2, hent⟩
    · have HALL := Lib.hid hall
      have hlen : (intsL 40 (fun j => partsOf c ls (j : Int))).length = 40 := by unfold intsL; simp
      have hrg := hr.i2.range
      have htr : wr.there (w.heap.size + 1) 0 (intsL 40 (fun j => partsOf c ls (j : Int))).length := by rw [hlen]; exact hr.i1.there
      have hone : (intsL 40 (fun j => partsOf c ls (j : Int))).toArray.all (·.oneCell') = true := all_oneCell_toArray (fun v hv => by
        unfold intsL at hv
        obtain ⟨k, -, rfl⟩ := List.mem_map.1 hv
        rfl)
      have harr : (Try.prog.info? 50).map (·.size) = some (intsL 40 (fun j => partsOf c ls (j : Int))).length := by rw [hlen]; exact arr_info
      obtain ⟨L, hL⟩ : ∃ L, L = intsL 40 (fun j => partsOf c ls (j : Int)) := ⟨_, rfl⟩
      rw [← hL] at hlen hrg htr hone harr
      have HL2 := Lib.hid hL
      clear hL
      have htr' : wr.there (w.heap.size + 1) 0 L.toArray.size := by simpa using htr
      have harr' : (Try.prog.info? 50).map (·.size) = some L.toArray.size := by simpa using harr
      have hres := run_loadVar_mid (P := Try.prog) (wr.setCells (w.heap.size + 1) 0 L.toArray.toList) (w.heap.size + 1) 0 50 L _ (by simpa using World.rangeAt_setCells_same wr (w.heap.size + 1) 0 L htr) arr_und rfl harr
      have HRES := Lib.hid hres
      have G1 := Lib.hid hrg
      have G2 := Lib.hid htr'
      have G3 := Lib.hid harr
      have G4 := Lib.hid harr'
      have G5 := Lib.hid hone
      clear hr hall hlen hrg htr hone harr hres htr' harr'
      go_upto_region 11 with fail
      go_wp2_with (first | (refine wpList_load_mid rfl 50 (.tmp 3) rfl (w.heap.size + 1 + 1) 0 rfl L _ G1.out arr_und rfl G3.out ?_) | (refine wpList_store_mid rfl 50 (.tmp 2) (.tmp 30) rfl (w.heap.size + 1) 0 L.toArray rfl rfl G2.out G4.out G5.out ?_))
      ((try simp only [Exit.inBlock, Exit.then]); refine bodyPost_ret (results_cell1 rfl rfl HRES.out) rfl ?_)
      refine ⟨partsOf c ls, parts_ok HR.out.st (fun p hp => HR.out.dn p ?_), by rw [HL2.out], ?_⟩
      · rw [HALL.out p, picF_some]; exact hp
      · rw [wset_eq]
        exact below_setCells (b := w.heap.size + 1) (by omega) _ 0 HR.out.b
    · unfold kv2 vvI at hnx hent
      have hp : inG c p := by
        have := picF_some (c := c) p
        rw [hf] at this
        exact this.symm
      have hv : v = at2 c p.1 p.2 := by
        have := picF_val (c := c) p
        rw [hf] at this
        exact this
      have hp2 := (inG_iff OK.out p).1 hp
      obtain ⟨k, hk⟩ : ∃ k : Nat, at2 c p.1 p.2 = (k : Int) := ⟨(at2 c p.1 p.2).toNat, by unfold pcOf at hp2; omega⟩
      have hk40 : (k : Int) < 40 := by have := (OK.out.at_bd p.1 p.2).2.1; omega
      rw [hv, hk] at hnx hent
      have HK := Lib.hid hk
      have HIN := Lib.hid hp
      have HR2 := Lib.hid hr2
      have HLT := Lib.hid hlt2
      have HG2 := Lib.hid hg2
      have HZ2 := Lib.hid hz2
      have HDN := Lib.hid hdn
      clear hr hf hdn hr2 hlt2 hg2 hz2 hv hp hp2 hk
      go_upto_region 8 with fail
      have hga := World.grownBy_alloc W2 (.cells #[.int .i64 p.1, .int .i64 p.2] 90) none
      have hbx := Bx.new W2 #[.int .i64 p.1, .int .i64 p.2] 90
      have hg3 := HG2.out.trans (hga.but (some rr))
      have hzz := HZ.out
      have hle2 : rr < W2.heap.size := HR2.out.rlt
      have hO3 := HR.out.on.up (B := rr) ⟨by omega, by omega, by omega, by omega, by omega⟩ hg3 (fun r e => by injection e with e; omega)
      have hI1 := HR.out.i1.gk hg3 (fun r e => by injection e with e; omega)
      have hI2 := HR.out.i2.gk hg3 (fun r e => by injection e with e; omega)
      have hB3 := HR.out.b.grown hg3 HR.out.b.size (fun r e => by injection e with e; omega)
      have hR3 := HR2.out.grown hga (by simp) (by simp)
      have HLT3 := Lib.hid (show w.heap.size < W2.heap.size ∧ bm < W2.heap.size ∧ rr < W2.heap.size ∧ rr < (W2.alloc (.cells #[.int .i64 p.1, .int .i64 p.2] 90)).heap.size from ⟨by omega, by omega, hle2, hR3.rlt⟩)
      obtain ⟨bx, hbe⟩ : ∃ bx, bx = W2.heap.size := ⟨_, rfl⟩
      rw [← hbe] at hbx
      generalize W2.alloc (.cells #[.int .i64 p.1, .int .i64 p.2] 90) = W3 at *
      have hpn : Near p := by
        have hp := HIN.out
        unfold inG isIn inS at hp
        simp only [Bool.and_eq_true, decide_eq_true_eq] at hp
        have := OK.out.w
        have := OK.out.h
        unfold Near
        omega
      obtain ⟨l, hl⟩ := cell_key p.1 p.2 ⟨by have := hpn.1; omega, by have := hpn.2.1; omega⟩ ⟨by have := hpn.2.2.1; omega, by have := hpn.2.2.2; omega⟩
      have hlr := (MapIs.look (p := p) hO3.rch cell_keyed kv2_inj mapB_und zero_bool hl).1
      rw [show ((rchF R p).elim (vvB false) vvB) = .bool (R p) by unfold rchF; cases R p <;> rfl] at hlr
      unfold kv2 at hlr
      have c4 := hO3.x4.c 0 _ rfl
      have b0 := hbx.c 0 _ rfl
      have b1 := hbx.c 1 _ rfl
      have HO3 := Lib.hid hO3
      have HI1 := Lib.hid hI1
      have HI2 := Lib.hid hI2
      have HB3 := Lib.hid hB3
      have HR3 := Lib.hid hR3
      have HBX := Lib.hid hbx
      have HBE := Lib.hid hbe
      clear hga hbx hg3 hzz hle2 hO3 hI1 hI2 hB3 hR3 hbe hpn hl
      rw [show W2.heap.size = bx from HBE.out.symm]
      cases hR : R p
      · rw [hR] at hlr
        have HRf := Lib.hid hR
        clear hR
        go_upto_region 9 with fail
        have hk39 : k < 40 := by omega
        have c9 := HI2.out.cell k hk39
        have f9 := HI2.out.free k
        have hpb := partsOf_bd c ls (k : Int)
        have hlb := HR.out.bd
        have hl144 : (c.piece.length : Int) ≤ 144 := by
          have := OK.out.w
          have := OK.out.h
          have := Int.mul_le_mul OK.out.w.2 OK.out.h.2 (show (0 : Int) ≤ c.high by omega) (show (0 : Int) ≤ 12 by omega)
          have := OK.out.len
          omega
        have hw1 : IntKind.i64.wrap (partsOf c ls k + 1) = partsOf c ls k + 1 := IntWalk.i64_in _ (by omega)
        have hI4 := HI2.out.set_ (f' := fun j => partsOf c (p :: ls) (j : Int)) (x := partsOf c ls k + 1) hk39 (by rw [partsOf_cons, if_pos (show pcOf c p = (k : Int) from HK.out)]) (fun i hi => by
          rw [partsOf_cons, if_neg (fun e => hi (by have := HK.out; unfold pcOf at e; omega))]; omega)
        have HI4 := Lib.hid hI4
        have hlt3 := HLT.out
        have hz := HZ.out
        have HO4 := Lib.hid (HO3.out.far (g := w.heap.size + 1 + 1) ⟨by omega, by omega, by omega, by omega, by omega⟩ k (.int .i64 (partsOf c ls k + 1)))
        have HI1' := Lib.hid (HI1.out.of (W' := W3.setCell ⟨w.heap.size + 1 + 1, k, none⟩ (.int .i64 (partsOf c ls k + 1))) (by rw [World.size_setCell]; exact Nat.le_refl _) (blkSet (by omega) _ _))
        have HR4 := Lib.hid (HR3.out.of (W' := W3.setCell ⟨w.heap.size + 1 + 1, k, none⟩ (.int .i64 (partsOf c ls k + 1))) (blkSet (by omega) _ _) (blkSet (by omega) _ _))
        have HB4 := Lib.hid (HB3.out.setCell (p := ⟨w.heap.size + 1 + 1, k, none⟩) (by show w.heap.size ≤ w.heap.size + 1 + 1; omega) (.int .i64 (partsOf c ls k + 1)))
        have HBX4 := Lib.hid (HBX.out.far (g := w.heap.size + 1 + 1) (k := k) (by have := HLT3.out; have := HBE.out; omega) (.int .i64 (partsOf c ls k + 1)))
        clear hpb hlb hl144 hI4 hlt3 hz c4 b0 b1 hlr
        generalize partsOf c ls k = pz at *
        go_upto_region 10 with fail
        clear c9 f9 hw1
        generalize W3.setCell ⟨w.heap.size + 1 + 1, k, none⟩ (.int .i64 (pz + 1)) = W4 at *
        have c5 := HO4.out.x5.c 0 _ rfl
        have b0 := HBX4.out.c 0 _ rfl
        have b1 := HBX4.out.c 1 _ rfl
        unfold onV at c5
        go_wp2_with fail
        refine (on_any c OK.out bm (w.heap.size + 1 + 1 + 1) (w.heap.size + 1 + 1 + 1 + 1) (w.heap.size) (w.heap.size + 1 + 1 + 1 + 1 + 1) (freeN c R) p R W4 (Nat.le_refl _) HIN.out HRf.out HO4.out).mono ?_
        rintro e W5 ⟨⟨v', rfl⟩, R', hd, hO5, hg5⟩
        have hz := HZ.out
        have HE := Lib.hid (show RP c bm rr w W5 R' (p :: ls) (fun q => done q || decide (q = p)) cnt2 from ⟨HR4.out.grown hg5 (fun e => by injection e with e; omega) (fun e => by injection e with e; omega),
          HR.out.st.next OK.out HIN.out (by rw [HRf.out]; simp) hd, fun q hq => by
            simp only [Bool.or_eq_true, decide_eq_true_eq] at hq
            rcases hq with hq | rfl
            · exact hd.old q (HR.out.dn q hq)
            · exact hd.own,
          HI1'.out.gk hg5 (fun r e => by injection e with e; omega), HI4.out.gk hg5 (fun r e => by injection e with e; omega), hO5, HB4.out.grown hg5 HB4.out.size (fun r e => by injection e with e; omega), by
            have h1 := free_lt OK.out HIN.out HRf.out (R' := R') hd.own hd.old
            have h2 := HR.out.bd
            rw [List.length_cons]; omega⟩)
        clear hd hO5 hg5 hz c5 b0 b1
        go_wp2_with fail
        go_roundw
        case rel => exact ⟨_, _, _, _, HE.out⟩
        case measure =>
          rw [HE.out.rg.left, HL.out]
          exact HLT.out
      · rw [hR] at hlr
        have HRt := Lib.hid hR
        clear hR
        go_wp2_with fail
        go_roundw
        case rel => exact ⟨R, ls, fun q => done q || decide (q = p), cnt2, HR3.out, HR.out.st, fun q hq => by
          simp only [Bool.or_eq_true, decide_eq_true_eq] at hq
          rcases hq with hq | rfl
          · exact HR.out.dn q hq
          · exact HRt.out, HI1.out, HI2.out, HO3.out, HB3.out, HR.out.bd⟩
        case measure =>
          rw [HR3.out.left, HL.out]
          exact HLT.out
end Go.Proofs.Ytjlicbdnppodgaa
