import Derived.Test.YtjlicbdnppodgaaR2
namespace Go.Proofs.Ytjlicbdnppodgaa
open Go.RowKit
/-! The reference: next. -/
structure BBlk (w : World) (g n : Nat) (f : Nat → Bool) : Prop where
  lt : g < w.heap.size
  cell : ∀ j, j < n → w.cell? ⟨g, j, none⟩ = some (.bool (f j))
  free : ∀ j, w.frozen? ⟨g, j, none⟩ = false
theorem BBlk.below {w w' : World} {B g n : Nat} {f : Nat → Bool} (h : BBlk w g n f) (hb : Below B w w') (hg : g < B) : BBlk w' g n f :=
  ⟨Nat.lt_of_lt_of_le h.lt hb.size, fun j hj => (hb.cell (p := ⟨g, j, none⟩) hg).trans (h.cell j hj), fun j => (hb.frozen (p := ⟨g, j, none⟩) hg).trans (h.free j)⟩
theorem BBlk.next {w w' : World} {g n : Nat} {f : Nat → Bool} (h : BBlk w g n f) (hb : Below w.heap.size w w') : BBlk w' g n f := h.below hb h.lt
theorem BBlk.set_ {w : World} {g n : Nat} {f f' : Nat → Bool} (h : BBlk w g n f) {j : Nat} {x : Bool} (hj : j < n) (hx : f' j = x) (ho : ∀ i, i ≠ j → f' i = f i) : BBlk (w.setCell ⟨g, j, none⟩ (.bool x)) g n f' := by
  refine ⟨by simpa [World.setCell] using h.lt, fun i hi => ?_, fun i => by rw [World.frozen?_setCell]; exact h.free i⟩
  by_cases e : i = j
  · subst e
    rw [hx]
    exact World.cell?_setCell_same' _ _ _ (by rw [h.cell i hi]; rfl)
  · rw [World.cell?_setCell_other _ _ _ _ (by intro e'; injection e' with _ e2; exact e e2.symm), h.cell i hi, ho i e]
theorem BBlk.congr {W : World} {g n : Nat} {f f' : Nat → Bool} (h : BBlk W g n f) (e : ∀ k, k < n → f' k = f k) : BBlk W g n f' := ⟨h.lt, fun j hj => by rw [e j hj]; exact h.cell j hj, h.free⟩
theorem BBlk.drewN {w : World} {g n k : Nat} {f : Nat → Bool} (h : BBlk w g n f) : BBlk (w.drewN k) g n f := ⟨h.lt, h.cell, h.free⟩
def falses (n : Nat) : Array Value := madeCells #[.bool false] n
theorem BBlk.falses (w : World) (n : Nat) (t : TypeId) : BBlk (w.alloc (.cells (falses n) t)) w.heap.size n (fun _ => false) := by
  refine ⟨by simp, fun j hj => ?_, fun j => by simp [go_sem]⟩
  have h1 : (Go.Proofs.Ytjlicbdnppodgaa.falses n).toList = List.replicate n (.bool false) := toList_madeCells_one _ _
  have h2 : (Go.Proofs.Ytjlicbdnppodgaa.falses n)[j]? = some (.bool false) := by
    rw [← Array.getElem?_toList, h1, List.getElem?_replicate, if_pos hj]
  rw [← h2]
  exact cell_of_row _ _ _ _ t (0, 0) (heap_alloc_new w _)
theorem bool_info : (Try.prog.info? 4).map (fun i => (i.zero, i.size, i.bytes)) = some (some (.bool false), 1, 1) := by kernel_rfl
/-- Is some cell next to one that has been reached? -/
def nextS (c : Cut) (f : Nat → Bool) (i : Nat) : Bool :=
  decide (0 < colI c i) && f (i - 1) || decide (colI c i < c.wide - 1) && f (i + 1) || decide (0 < rowI c i) && f (i - W c) || decide (rowI c i < c.high - 1) && f (i + W c)
theorem term3 (p : Prop) [Decidable p] (b : Bool) : ¬ p ∨ (p ∧ b = false) ∨ (p ∧ b = true) := by
  by_cases h : p <;> cases b <;> simp [h]
set_option maxHeartbeats 8000000 in
theorem next_any (c : Cut) (g m : Nat) (f : Nat → Bool) (i : Nat) (w : World) (ok : OkC c) (hB : BBlk w g c.piece.length f) (hi : i < c.piece.length) :
    Calls Try.prog 67 #[.agg #[.int .i64 c.wide, .int .i64 c.high, .slice c.A c.piece.length c.c], .slice (some ⟨g, 0, none⟩) c.piece.length m, .int .i64 i] w (Ret (.bool (nextS c f i)) w) := by
  have hw := ok.w
  have hh := ok.h
  have hll := ok.len
  obtain ⟨-, hidx, hc1, hc2, hc3, hc4⟩ := ok.cell hi
  have hWc : ((W c : Nat) : Int) = c.wide := by unfold W; omega
  have HN := Lib.hid (show nextS c f i = (decide (0 < colI c i) && f (i - 1) || decide (colI c i < c.wide - 1) && f (i + 1) || decide (0 < rowI c i) && f (i - W c) || decide (rowI c i < c.high - 1) && f (i + W c)) from rfl)
  have hq1 : Int.tmod (i : Int) c.wide = colI c i := Int.tmod_eq_emod_of_nonneg (by omega)
  have hq2 : Int.tdiv (i : Int) c.wide = rowI c i := Int.tdiv_eq_ediv_of_nonneg (by omega)
  have hq3 : (i : Int) % c.wide = colI c i := rfl
  have hq4 : (i : Int) / c.wide = rowI c i := rfl
  have hup : 0 < rowI c i → W c ≤ i := fun h => by
    have : c.wide ≤ rowI c i * c.wide := by
      have := Int.mul_le_mul_of_nonneg_right (show (1 : Int) ≤ rowI c i by omega) (show (0 : Int) ≤ c.wide by omega)
      omega
    omega
  have hdn : rowI c i < c.high - 1 → i + W c < c.piece.length := fun h => by
    have h1 := Int.mul_le_mul_of_nonneg_right (show rowI c i ≤ c.high - 2 by omega) (show (0 : Int) ≤ c.wide by omega)
    have h2 : (c.high - 2) * c.wide = c.wide * c.high - 2 * c.wide := by rw [Int.sub_mul, Int.mul_comm c.high]
    omega
  have hrt : colI c i < c.wide - 1 → i + 1 < c.piece.length := fun h => by
    have h1 := Int.mul_le_mul_of_nonneg_right (show rowI c i ≤ c.high - 1 by omega) (show (0 : Int) ≤ c.wide by omega)
    have h2 : (c.high - 1) * c.wide = c.wide * c.high - c.wide := by rw [Int.sub_mul, Int.one_mul, Int.mul_comm c.high]
    omega
  have hlt1 : 0 < colI c i → 1 ≤ i := fun h => by
    have : 0 ≤ rowI c i * c.wide := Int.mul_nonneg hc3 (by omega)
    omega
  have HB := Lib.hid (nxA w (.cells #[.int .i64 c.wide, .int .i64 c.high, .slice c.A c.piece.length c.c] 24))
  have HX := Lib.hid (Bx.new w #[.int .i64 c.wide, .int .i64 c.high, .slice c.A c.piece.length c.c] 24)
  have BB := Lib.hid (hB.next HB.out)
  clear hidx hB ok
  have hl144 : c.piece.length ≤ 144 := by
    have := Int.mul_le_mul hw.2 hh.2 (show (0 : Int) ≤ c.high by omega) (show (0 : Int) ≤ 12 by omega)
    omega
  clear hll
  generalize colI c i = x at *
  generalize rowI c i = y at *
  go_enter Try.func67, Try.ntmps67
  go_upto_region 1 with fail
  generalize (w.alloc (.cells #[.int .i64 c.wide, .int .i64 c.high, .slice c.A c.piece.length c.c] 24)) = V at *
  have c0 := HX.out.c 0 _ rfl
  have c1 := HX.out.c 1 _ rfl
  have hwz : ¬ c.wide = 0 := by omega
  have hww : ¬ c.wide = -1 := by omega
  go_quiet (fail)
  have HB2 := Lib.hid (below_drewN HB.out nq)
  have c0 : (V.drewN nq).cell? ⟨w.heap.size, 0, none⟩ = some (.int .i64 c.wide) := c0
  have c1 : (V.drewN nq).cell? ⟨w.heap.size, 1, none⟩ = some (.int .i64 c.high) := c1
  replace BB := Lib.hid (BB.out.drewN (k := nq))
  generalize V.drewN nq = U at *
  clear HB HX hq1 hq2 hq3 hq4 hwz hww
  go_upto_region 2 with fail
  have hxc : (0 ≤ x ∧ x < c.wide) = True := by simp; omega
  rcases term3 (0 < x) (f (i - 1)) with a0 | ⟨a0, b0⟩ | ⟨a0, b0⟩
  · have d0 := Lib.hid (show decide (0 < x) = false from decide_eq_false a0)
    rcases term3 (x < c.wide - 1) (f (i + 1)) with a1 | ⟨a1, b1⟩ | ⟨a1, b1⟩
    · have d1 := Lib.hid (show decide (x < c.wide - 1) = false from decide_eq_false a1)
      rcases term3 (0 < y) (f (i - W c)) with a2 | ⟨a2, b2⟩ | ⟨a2, b2⟩
      · have d2 := Lib.hid (show decide (0 < y) = false from decide_eq_false a2)
        rcases term3 (y < c.high - 1) (f (i + W c)) with a3 | ⟨a3, b3⟩ | ⟨a3, b3⟩
        · have d3 := Lib.hid (show decide (y < c.high - 1) = false from decide_eq_false a3)
          go_wp2_with fail
          go_ret
          exact ⟨by rw [HN.out, d0.out, d1.out, d2.out, d3.out]; rfl, HB2.out⟩
        · skip
          have d3 := Lib.hid (show decide (y < c.high - 1) = true from decide_eq_true a3)
          have B3 := Lib.hid b3
          have r3 : U.cell? ⟨g, i + W c, none⟩ = some (.bool false) := by rw [← b3]; exact BB.out.cell _ (by omega)
          have t3 : ((i : Int) + c.wide).toNat = i + W c := by omega
          have u3 : 0 ≤ (i : Int) + c.wide := by omega
          have v3 : (i : Int) + c.wide < (c.piece.length : Int) := by omega
          have w3 : (0 ≤ (i : Int) + c.wide ∧ (i : Int) + c.wide < (c.piece.length : Int)) = True := by simp; omega
          have x3 : IntKind.i64.wrap ((i : Int) + c.wide) = (i : Int) + c.wide := IntWalk.i64_in _ (by omega)
          go_wp2_with fail
          go_ret
          exact ⟨by rw [HN.out, d0.out, d1.out, d2.out, d3.out, B3.out]; rfl, HB2.out⟩
        · skip
          have d3 := Lib.hid (show decide (y < c.high - 1) = true from decide_eq_true a3)
          have B3 := Lib.hid b3
          have r3 : U.cell? ⟨g, i + W c, none⟩ = some (.bool true) := by rw [← b3]; exact BB.out.cell _ (by omega)
          have t3 : ((i : Int) + c.wide).toNat = i + W c := by omega
          have u3 : 0 ≤ (i : Int) + c.wide := by omega
          have v3 : (i : Int) + c.wide < (c.piece.length : Int) := by omega
          have w3 : (0 ≤ (i : Int) + c.wide ∧ (i : Int) + c.wide < (c.piece.length : Int)) = True := by simp; omega
          have x3 : IntKind.i64.wrap ((i : Int) + c.wide) = (i : Int) + c.wide := IntWalk.i64_in _ (by omega)
          go_wp2_with fail
          go_ret
          exact ⟨by rw [HN.out, d0.out, d1.out, d2.out, d3.out, B3.out]; rfl, HB2.out⟩
      · skip
        have d2 := Lib.hid (show decide (0 < y) = true from decide_eq_true a2)
        have B2 := Lib.hid b2
        have r2 : U.cell? ⟨g, i - W c, none⟩ = some (.bool false) := by rw [← b2]; exact BB.out.cell _ (by omega)
        have t2 : ((i : Int) - c.wide).toNat = i - W c := by omega
        have u2 : 0 ≤ (i : Int) - c.wide := by omega
        have v2 : (i : Int) - c.wide < (c.piece.length : Int) := by omega
        have w2 : (0 ≤ (i : Int) - c.wide ∧ (i : Int) - c.wide < (c.piece.length : Int)) = True := by simp; omega
        have x2 : IntKind.i64.wrap ((i : Int) - c.wide) = (i : Int) - c.wide := IntWalk.i64_in _ (by omega)
        rcases term3 (y < c.high - 1) (f (i + W c)) with a3 | ⟨a3, b3⟩ | ⟨a3, b3⟩
        · have d3 := Lib.hid (show decide (y < c.high - 1) = false from decide_eq_false a3)
          go_wp2_with fail
          go_ret
          exact ⟨by rw [HN.out, d0.out, d1.out, d2.out, B2.out, d3.out]; rfl, HB2.out⟩
        · skip
          have d3 := Lib.hid (show decide (y < c.high - 1) = true from decide_eq_true a3)
          have B3 := Lib.hid b3
          have r3 : U.cell? ⟨g, i + W c, none⟩ = some (.bool false) := by rw [← b3]; exact BB.out.cell _ (by omega)
          have t3 : ((i : Int) + c.wide).toNat = i + W c := by omega
          have u3 : 0 ≤ (i : Int) + c.wide := by omega
          have v3 : (i : Int) + c.wide < (c.piece.length : Int) := by omega
          have w3 : (0 ≤ (i : Int) + c.wide ∧ (i : Int) + c.wide < (c.piece.length : Int)) = True := by simp; omega
          have x3 : IntKind.i64.wrap ((i : Int) + c.wide) = (i : Int) + c.wide := IntWalk.i64_in _ (by omega)
          go_wp2_with fail
          go_ret
          exact ⟨by rw [HN.out, d0.out, d1.out, d2.out, B2.out, d3.out, B3.out]; rfl, HB2.out⟩
        · skip
          have d3 := Lib.hid (show decide (y < c.high - 1) = true from decide_eq_true a3)
          have B3 := Lib.hid b3
          have r3 : U.cell? ⟨g, i + W c, none⟩ = some (.bool true) := by rw [← b3]; exact BB.out.cell _ (by omega)
          have t3 : ((i : Int) + c.wide).toNat = i + W c := by omega
          have u3 : 0 ≤ (i : Int) + c.wide := by omega
          have v3 : (i : Int) + c.wide < (c.piece.length : Int) := by omega
          have w3 : (0 ≤ (i : Int) + c.wide ∧ (i : Int) + c.wide < (c.piece.length : Int)) = True := by simp; omega
          have x3 : IntKind.i64.wrap ((i : Int) + c.wide) = (i : Int) + c.wide := IntWalk.i64_in _ (by omega)
          go_wp2_with fail
          go_ret
          exact ⟨by rw [HN.out, d0.out, d1.out, d2.out, B2.out, d3.out, B3.out]; rfl, HB2.out⟩
      · skip
        have d2 := Lib.hid (show decide (0 < y) = true from decide_eq_true a2)
        have B2 := Lib.hid b2
        have r2 : U.cell? ⟨g, i - W c, none⟩ = some (.bool true) := by rw [← b2]; exact BB.out.cell _ (by omega)
        have t2 : ((i : Int) - c.wide).toNat = i - W c := by omega
        have u2 : 0 ≤ (i : Int) - c.wide := by omega
        have v2 : (i : Int) - c.wide < (c.piece.length : Int) := by omega
        have w2 : (0 ≤ (i : Int) - c.wide ∧ (i : Int) - c.wide < (c.piece.length : Int)) = True := by simp; omega
        have x2 : IntKind.i64.wrap ((i : Int) - c.wide) = (i : Int) - c.wide := IntWalk.i64_in _ (by omega)
        go_wp2_with fail
        go_ret
        exact ⟨by rw [HN.out, d0.out, d1.out, d2.out, B2.out]; rfl, HB2.out⟩
    · skip
      have d1 := Lib.hid (show decide (x < c.wide - 1) = true from decide_eq_true a1)
      have B1 := Lib.hid b1
      have r1 : U.cell? ⟨g, i + 1, none⟩ = some (.bool false) := by rw [← b1]; exact BB.out.cell _ (by omega)
      have t1 : ((i : Int) + 1).toNat = i + 1 := by omega
      have u1 : 0 ≤ (i : Int) + 1 := by omega
      have v1 : (i : Int) + 1 < (c.piece.length : Int) := by omega
      have w1 : (0 ≤ (i : Int) + 1 ∧ (i : Int) + 1 < (c.piece.length : Int)) = True := by simp; omega
      have x1 : IntKind.i64.wrap ((i : Int) + 1) = (i : Int) + 1 := IntWalk.i64_in _ (by omega)
      rcases term3 (0 < y) (f (i - W c)) with a2 | ⟨a2, b2⟩ | ⟨a2, b2⟩
      · have d2 := Lib.hid (show decide (0 < y) = false from decide_eq_false a2)
        rcases term3 (y < c.high - 1) (f (i + W c)) with a3 | ⟨a3, b3⟩ | ⟨a3, b3⟩
        · have d3 := Lib.hid (show decide (y < c.high - 1) = false from decide_eq_false a3)
          go_wp2_with fail
          go_ret
          exact ⟨by rw [HN.out, d0.out, d1.out, B1.out, d2.out, d3.out]; rfl, HB2.out⟩
        · skip
          have d3 := Lib.hid (show decide (y < c.high - 1) = true from decide_eq_true a3)
          have B3 := Lib.hid b3
          have r3 : U.cell? ⟨g, i + W c, none⟩ = some (.bool false) := by rw [← b3]; exact BB.out.cell _ (by omega)
          have t3 : ((i : Int) + c.wide).toNat = i + W c := by omega
          have u3 : 0 ≤ (i : Int) + c.wide := by omega
          have v3 : (i : Int) + c.wide < (c.piece.length : Int) := by omega
          have w3 : (0 ≤ (i : Int) + c.wide ∧ (i : Int) + c.wide < (c.piece.length : Int)) = True := by simp; omega
          have x3 : IntKind.i64.wrap ((i : Int) + c.wide) = (i : Int) + c.wide := IntWalk.i64_in _ (by omega)
          go_wp2_with fail
          go_ret
          exact ⟨by rw [HN.out, d0.out, d1.out, B1.out, d2.out, d3.out, B3.out]; rfl, HB2.out⟩
        · skip
          have d3 := Lib.hid (show decide (y < c.high - 1) = true from decide_eq_true a3)
          have B3 := Lib.hid b3
          have r3 : U.cell? ⟨g, i + W c, none⟩ = some (.bool true) := by rw [← b3]; exact BB.out.cell _ (by omega)
          have t3 : ((i : Int) + c.wide).toNat = i + W c := by omega
          have u3 : 0 ≤ (i : Int) + c.wide := by omega
          have v3 : (i : Int) + c.wide < (c.piece.length : Int) := by omega
          have w3 : (0 ≤ (i : Int) + c.wide ∧ (i : Int) + c.wide < (c.piece.length : Int)) = True := by simp; omega
          have x3 : IntKind.i64.wrap ((i : Int) + c.wide) = (i : Int) + c.wide := IntWalk.i64_in _ (by omega)
          go_wp2_with fail
          go_ret
          exact ⟨by rw [HN.out, d0.out, d1.out, B1.out, d2.out, d3.out, B3.out]; rfl, HB2.out⟩
      · skip
        have d2 := Lib.hid (show decide (0 < y) = true from decide_eq_true a2)
        have B2 := Lib.hid b2
        have r2 : U.cell? ⟨g, i - W c, none⟩ = some (.bool false) := by rw [← b2]; exact BB.out.cell _ (by omega)
        have t2 : ((i : Int) - c.wide).toNat = i - W c := by omega
        have u2 : 0 ≤ (i : Int) - c.wide := by omega
        have v2 : (i : Int) - c.wide < (c.piece.length : Int) := by omega
        have w2 : (0 ≤ (i : Int) - c.wide ∧ (i : Int) - c.wide < (c.piece.length : Int)) = True := by simp; omega
        have x2 : IntKind.i64.wrap ((i : Int) - c.wide) = (i : Int) - c.wide := IntWalk.i64_in _ (by omega)
        rcases term3 (y < c.high - 1) (f (i + W c)) with a3 | ⟨a3, b3⟩ | ⟨a3, b3⟩
        · have d3 := Lib.hid (show decide (y < c.high - 1) = false from decide_eq_false a3)
          go_wp2_with fail
          go_ret
          exact ⟨by rw [HN.out, d0.out, d1.out, B1.out, d2.out, B2.out, d3.out]; rfl, HB2.out⟩
        · skip
          have d3 := Lib.hid (show decide (y < c.high - 1) = true from decide_eq_true a3)
          have B3 := Lib.hid b3
          have r3 : U.cell? ⟨g, i + W c, none⟩ = some (.bool false) := by rw [← b3]; exact BB.out.cell _ (by omega)
          have t3 : ((i : Int) + c.wide).toNat = i + W c := by omega
          have u3 : 0 ≤ (i : Int) + c.wide := by omega
          have v3 : (i : Int) + c.wide < (c.piece.length : Int) := by omega
          have w3 : (0 ≤ (i : Int) + c.wide ∧ (i : Int) + c.wide < (c.piece.length : Int)) = True := by simp; omega
          have x3 : IntKind.i64.wrap ((i : Int) + c.wide) = (i : Int) + c.wide := IntWalk.i64_in _ (by omega)
          go_wp2_with fail
          go_ret
          exact ⟨by rw [HN.out, d0.out, d1.out, B1.out, d2.out, B2.out, d3.out, B3.out]; rfl, HB2.out⟩
        · skip
          have d3 := Lib.hid (show decide (y < c.high - 1) = true from decide_eq_true a3)
          have B3 := Lib.hid b3
          have r3 : U.cell? ⟨g, i + W c, none⟩ = some (.bool true) := by rw [← b3]; exact BB.out.cell _ (by omega)
          have t3 : ((i : Int) + c.wide).toNat = i + W c := by omega
          have u3 : 0 ≤ (i : Int) + c.wide := by omega
          have v3 : (i : Int) + c.wide < (c.piece.length : Int) := by omega
          have w3 : (0 ≤ (i : Int) + c.wide ∧ (i : Int) + c.wide < (c.piece.length : Int)) = True := by simp; omega
          have x3 : IntKind.i64.wrap ((i : Int) + c.wide) = (i : Int) + c.wide := IntWalk.i64_in _ (by omega)
          go_wp2_with fail
          go_ret
          exact ⟨by rw [HN.out, d0.out, d1.out, B1.out, d2.out, B2.out, d3.out, B3.out]; rfl, HB2.out⟩
      · skip
        have d2 := Lib.hid (show decide (0 < y) = true from decide_eq_true a2)
        have B2 := Lib.hid b2
        have r2 : U.cell? ⟨g, i - W c, none⟩ = some (.bool true) := by rw [← b2]; exact BB.out.cell _ (by omega)
        have t2 : ((i : Int) - c.wide).toNat = i - W c := by omega
        have u2 : 0 ≤ (i : Int) - c.wide := by omega
        have v2 : (i : Int) - c.wide < (c.piece.length : Int) := by omega
        have w2 : (0 ≤ (i : Int) - c.wide ∧ (i : Int) - c.wide < (c.piece.length : Int)) = True := by simp; omega
        have x2 : IntKind.i64.wrap ((i : Int) - c.wide) = (i : Int) - c.wide := IntWalk.i64_in _ (by omega)
        go_wp2_with fail
        go_ret
        exact ⟨by rw [HN.out, d0.out, d1.out, B1.out, d2.out, B2.out]; rfl, HB2.out⟩
    · skip
      have d1 := Lib.hid (show decide (x < c.wide - 1) = true from decide_eq_true a1)
      have B1 := Lib.hid b1
      have r1 : U.cell? ⟨g, i + 1, none⟩ = some (.bool true) := by rw [← b1]; exact BB.out.cell _ (by omega)
      have t1 : ((i : Int) + 1).toNat = i + 1 := by omega
      have u1 : 0 ≤ (i : Int) + 1 := by omega
      have v1 : (i : Int) + 1 < (c.piece.length : Int) := by omega
      have w1 : (0 ≤ (i : Int) + 1 ∧ (i : Int) + 1 < (c.piece.length : Int)) = True := by simp; omega
      have x1 : IntKind.i64.wrap ((i : Int) + 1) = (i : Int) + 1 := IntWalk.i64_in _ (by omega)
      go_wp2_with fail
      go_ret
      exact ⟨by rw [HN.out, d0.out, d1.out, B1.out]; rfl, HB2.out⟩
  · skip
    have d0 := Lib.hid (show decide (0 < x) = true from decide_eq_true a0)
    have B0 := Lib.hid b0
    have r0 : U.cell? ⟨g, i - 1, none⟩ = some (.bool false) := by rw [← b0]; exact BB.out.cell _ (by omega)
    have t0 : ((i : Int) - 1).toNat = i - 1 := by omega
    have u0 : 0 ≤ (i : Int) - 1 := by omega
    have v0 : (i : Int) - 1 < (c.piece.length : Int) := by omega
    have w0 : (0 ≤ (i : Int) - 1 ∧ (i : Int) - 1 < (c.piece.length : Int)) = True := by simp; omega
    have x0 : IntKind.i64.wrap ((i : Int) - 1) = (i : Int) - 1 := IntWalk.i64_in _ (by omega)
    rcases term3 (x < c.wide - 1) (f (i + 1)) with a1 | ⟨a1, b1⟩ | ⟨a1, b1⟩
    · have d1 := Lib.hid (show decide (x < c.wide - 1) = false from decide_eq_false a1)
      rcases term3 (0 < y) (f (i - W c)) with a2 | ⟨a2, b2⟩ | ⟨a2, b2⟩
      · have d2 := Lib.hid (show decide (0 < y) = false from decide_eq_false a2)
        rcases term3 (y < c.high - 1) (f (i + W c)) with a3 | ⟨a3, b3⟩ | ⟨a3, b3⟩
        · have d3 := Lib.hid (show decide (y < c.high - 1) = false from decide_eq_false a3)
          go_wp2_with fail
          go_ret
          exact ⟨by rw [HN.out, d0.out, B0.out, d1.out, d2.out, d3.out]; rfl, HB2.out⟩
        · skip
          have d3 := Lib.hid (show decide (y < c.high - 1) = true from decide_eq_true a3)
          have B3 := Lib.hid b3
          have r3 : U.cell? ⟨g, i + W c, none⟩ = some (.bool false) := by rw [← b3]; exact BB.out.cell _ (by omega)
          have t3 : ((i : Int) + c.wide).toNat = i + W c := by omega
          have u3 : 0 ≤ (i : Int) + c.wide := by omega
          have v3 : (i : Int) + c.wide < (c.piece.length : Int) := by omega
          have w3 : (0 ≤ (i : Int) + c.wide ∧ (i : Int) + c.wide < (c.piece.length : Int)) = True := by simp; omega
          have x3 : IntKind.i64.wrap ((i : Int) + c.wide) = (i : Int) + c.wide := IntWalk.i64_in _ (by omega)
          go_wp2_with fail
          go_ret
          exact ⟨by rw [HN.out, d0.out, B0.out, d1.out, d2.out, d3.out, B3.out]; rfl, HB2.out⟩
        · skip
          have d3 := Lib.hid (show decide (y < c.high - 1) = true from decide_eq_true a3)
          have B3 := Lib.hid b3
          have r3 : U.cell? ⟨g, i + W c, none⟩ = some (.bool true) := by rw [← b3]; exact BB.out.cell _ (by omega)
          have t3 : ((i : Int) + c.wide).toNat = i + W c := by omega
          have u3 : 0 ≤ (i : Int) + c.wide := by omega
          have v3 : (i : Int) + c.wide < (c.piece.length : Int) := by omega
          have w3 : (0 ≤ (i : Int) + c.wide ∧ (i : Int) + c.wide < (c.piece.length : Int)) = True := by simp; omega
          have x3 : IntKind.i64.wrap ((i : Int) + c.wide) = (i : Int) + c.wide := IntWalk.i64_in _ (by omega)
          go_wp2_with fail
          go_ret
          exact ⟨by rw [HN.out, d0.out, B0.out, d1.out, d2.out, d3.out, B3.out]; rfl, HB2.out⟩
      · skip
        have d2 := Lib.hid (show decide (0 < y) = true from decide_eq_true a2)
        have B2 := Lib.hid b2
        have r2 : U.cell? ⟨g, i - W c, none⟩ = some (.bool false) := by rw [← b2]; exact BB.out.cell _ (by omega)
        have t2 : ((i : Int) - c.wide).toNat = i - W c := by omega
        have u2 : 0 ≤ (i : Int) - c.wide := by omega
        have v2 : (i : Int) - c.wide < (c.piece.length : Int) := by omega
        have w2 : (0 ≤ (i : Int) - c.wide ∧ (i : Int) - c.wide < (c.piece.length : Int)) = True := by simp; omega
        have x2 : IntKind.i64.wrap ((i : Int) - c.wide) = (i : Int) - c.wide := IntWalk.i64_in _ (by omega)
        rcases term3 (y < c.high - 1) (f (i + W c)) with a3 | ⟨a3, b3⟩ | ⟨a3, b3⟩
        · have d3 := Lib.hid (show decide (y < c.high - 1) = false from decide_eq_false a3)
          go_wp2_with fail
          go_ret
          exact ⟨by rw [HN.out, d0.out, B0.out, d1.out, d2.out, B2.out, d3.out]; rfl, HB2.out⟩
        · skip
          have d3 := Lib.hid (show decide (y < c.high - 1) = true from decide_eq_true a3)
          have B3 := Lib.hid b3
          have r3 : U.cell? ⟨g, i + W c, none⟩ = some (.bool false) := by rw [← b3]; exact BB.out.cell _ (by omega)
          have t3 : ((i : Int) + c.wide).toNat = i + W c := by omega
          have u3 : 0 ≤ (i : Int) + c.wide := by omega
          have v3 : (i : Int) + c.wide < (c.piece.length : Int) := by omega
          have w3 : (0 ≤ (i : Int) + c.wide ∧ (i : Int) + c.wide < (c.piece.length : Int)) = True := by simp; omega
          have x3 : IntKind.i64.wrap ((i : Int) + c.wide) = (i : Int) + c.wide := IntWalk.i64_in _ (by omega)
          go_wp2_with fail
          go_ret
          exact ⟨by rw [HN.out, d0.out, B0.out, d1.out, d2.out, B2.out, d3.out, B3.out]; rfl, HB2.out⟩
        · skip
          have d3 := Lib.hid (show decide (y < c.high - 1) = true from decide_eq_true a3)
          have B3 := Lib.hid b3
          have r3 : U.cell? ⟨g, i + W c, none⟩ = some (.bool true) := by rw [← b3]; exact BB.out.cell _ (by omega)
          have t3 : ((i : Int) + c.wide).toNat = i + W c := by omega
          have u3 : 0 ≤ (i : Int) + c.wide := by omega
          have v3 : (i : Int) + c.wide < (c.piece.length : Int) := by omega
          have w3 : (0 ≤ (i : Int) + c.wide ∧ (i : Int) + c.wide < (c.piece.length : Int)) = True := by simp; omega
          have x3 : IntKind.i64.wrap ((i : Int) + c.wide) = (i : Int) + c.wide := IntWalk.i64_in _ (by omega)
          go_wp2_with fail
          go_ret
          exact ⟨by rw [HN.out, d0.out, B0.out, d1.out, d2.out, B2.out, d3.out, B3.out]; rfl, HB2.out⟩
      · skip
        have d2 := Lib.hid (show decide (0 < y) = true from decide_eq_true a2)
        have B2 := Lib.hid b2
        have r2 : U.cell? ⟨g, i - W c, none⟩ = some (.bool true) := by rw [← b2]; exact BB.out.cell _ (by omega)
        have t2 : ((i : Int) - c.wide).toNat = i - W c := by omega
        have u2 : 0 ≤ (i : Int) - c.wide := by omega
        have v2 : (i : Int) - c.wide < (c.piece.length : Int) := by omega
        have w2 : (0 ≤ (i : Int) - c.wide ∧ (i : Int) - c.wide < (c.piece.length : Int)) = True := by simp; omega
        have x2 : IntKind.i64.wrap ((i : Int) - c.wide) = (i : Int) - c.wide := IntWalk.i64_in _ (by omega)
        go_wp2_with fail
        go_ret
        exact ⟨by rw [HN.out, d0.out, B0.out, d1.out, d2.out, B2.out]; rfl, HB2.out⟩
    · skip
      have d1 := Lib.hid (show decide (x < c.wide - 1) = true from decide_eq_true a1)
      have B1 := Lib.hid b1
      have r1 : U.cell? ⟨g, i + 1, none⟩ = some (.bool false) := by rw [← b1]; exact BB.out.cell _ (by omega)
      have t1 : ((i : Int) + 1).toNat = i + 1 := by omega
      have u1 : 0 ≤ (i : Int) + 1 := by omega
      have v1 : (i : Int) + 1 < (c.piece.length : Int) := by omega
      have w1 : (0 ≤ (i : Int) + 1 ∧ (i : Int) + 1 < (c.piece.length : Int)) = True := by simp; omega
      have x1 : IntKind.i64.wrap ((i : Int) + 1) = (i : Int) + 1 := IntWalk.i64_in _ (by omega)
      rcases term3 (0 < y) (f (i - W c)) with a2 | ⟨a2, b2⟩ | ⟨a2, b2⟩
      · have d2 := Lib.hid (show decide (0 < y) = false from decide_eq_false a2)
        rcases term3 (y < c.high - 1) (f (i + W c)) with a3 | ⟨a3, b3⟩ | ⟨a3, b3⟩
        · have d3 := Lib.hid (show decide (y < c.high - 1) = false from decide_eq_false a3)
          go_wp2_with fail
          go_ret
          exact ⟨by rw [HN.out, d0.out, B0.out, d1.out, B1.out, d2.out, d3.out]; rfl, HB2.out⟩
        · skip
          have d3 := Lib.hid (show decide (y < c.high - 1) = true from decide_eq_true a3)
          have B3 := Lib.hid b3
          have r3 : U.cell? ⟨g, i + W c, none⟩ = some (.bool false) := by rw [← b3]; exact BB.out.cell _ (by omega)
          have t3 : ((i : Int) + c.wide).toNat = i + W c := by omega
          have u3 : 0 ≤ (i : Int) + c.wide := by omega
          have v3 : (i : Int) + c.wide < (c.piece.length : Int) := by omega
          have w3 : (0 ≤ (i : Int) + c.wide ∧ (i : Int) + c.wide < (c.piece.length : Int)) = True := by simp; omega
          have x3 : IntKind.i64.wrap ((i : Int) + c.wide) = (i : Int) + c.wide := IntWalk.i64_in _ (by omega)
          go_wp2_with fail
          go_ret
          exact ⟨by rw [HN.out, d0.out, B0.out, d1.out, B1.out, d2.out, d3.out, B3.out]; rfl, HB2.out⟩
        · skip
          have d3 := Lib.hid (show decide (y < c.high - 1) = true from decide_eq_true a3)
          have B3 := Lib.hid b3
          have r3 : U.cell? ⟨g, i + W c, none⟩ = some (.bool true) := by rw [← b3]; exact BB.out.cell _ (by omega)
          have t3 : ((i : Int) + c.wide).toNat = i + W c := by omega
          have u3 : 0 ≤ (i : Int) + c.wide := by omega
          have v3 : (i : Int) + c.wide < (c.piece.length : Int) := by omega
          have w3 : (0 ≤ (i : Int) + c.wide ∧ (i : Int) + c.wide < (c.piece.length : Int)) = True := by simp; omega
          have x3 : IntKind.i64.wrap ((i : Int) + c.wide) = (i : Int) + c.wide := IntWalk.i64_in _ (by omega)
          go_wp2_with fail
          go_ret
          exact ⟨by rw [HN.out, d0.out, B0.out, d1.out, B1.out, d2.out, d3.out, B3.out]; rfl, HB2.out⟩
      · skip
        have d2 := Lib.hid (show decide (0 < y) = true from decide_eq_true a2)
        have B2 := Lib.hid b2
        have r2 : U.cell? ⟨g, i - W c, none⟩ = some (.bool false) := by rw [← b2]; exact BB.out.cell _ (by omega)
        have t2 : ((i : Int) - c.wide).toNat = i - W c := by omega
        have u2 : 0 ≤ (i : Int) - c.wide := by omega
        have v2 : (i : Int) - c.wide < (c.piece.length : Int) := by omega
        have w2 : (0 ≤ (i : Int) - c.wide ∧ (i : Int) - c.wide < (c.piece.length : Int)) = True := by simp; omega
        have x2 : IntKind.i64.wrap ((i : Int) - c.wide) = (i : Int) - c.wide := IntWalk.i64_in _ (by omega)
        rcases term3 (y < c.high - 1) (f (i + W c)) with a3 | ⟨a3, b3⟩ | ⟨a3, b3⟩
        · have d3 := Lib.hid (show decide (y < c.high - 1) = false from decide_eq_false a3)
          go_wp2_with fail
          go_ret
          exact ⟨by rw [HN.out, d0.out, B0.out, d1.out, B1.out, d2.out, B2.out, d3.out]; rfl, HB2.out⟩
        · skip
          have d3 := Lib.hid (show decide (y < c.high - 1) = true from decide_eq_true a3)
          have B3 := Lib.hid b3
          have r3 : U.cell? ⟨g, i + W c, none⟩ = some (.bool false) := by rw [← b3]; exact BB.out.cell _ (by omega)
          have t3 : ((i : Int) + c.wide).toNat = i + W c := by omega
          have u3 : 0 ≤ (i : Int) + c.wide := by omega
          have v3 : (i : Int) + c.wide < (c.piece.length : Int) := by omega
          have w3 : (0 ≤ (i : Int) + c.wide ∧ (i : Int) + c.wide < (c.piece.length : Int)) = True := by simp; omega
          have x3 : IntKind.i64.wrap ((i : Int) + c.wide) = (i : Int) + c.wide := IntWalk.i64_in _ (by omega)
          go_wp2_with fail
          go_ret
          exact ⟨by rw [HN.out, d0.out, B0.out, d1.out, B1.out, d2.out, B2.out, d3.out, B3.out]; rfl, HB2.out⟩
        · skip
          have d3 := Lib.hid (show decide (y < c.high - 1) = true from decide_eq_true a3)
          have B3 := Lib.hid b3
          have r3 : U.cell? ⟨g, i + W c, none⟩ = some (.bool true) := by rw [← b3]; exact BB.out.cell _ (by omega)
          have t3 : ((i : Int) + c.wide).toNat = i + W c := by omega
          have u3 : 0 ≤ (i : Int) + c.wide := by omega
          have v3 : (i : Int) + c.wide < (c.piece.length : Int) := by omega
          have w3 : (0 ≤ (i : Int) + c.wide ∧ (i : Int) + c.wide < (c.piece.length : Int)) = True := by simp; omega
          have x3 : IntKind.i64.wrap ((i : Int) + c.wide) = (i : Int) + c.wide := IntWalk.i64_in _ (by omega)
          go_wp2_with fail
          go_ret
          exact ⟨by rw [HN.out, d0.out, B0.out, d1.out, B1.out, d2.out, B2.out, d3.out, B3.out]; rfl, HB2.out⟩
      · skip
        have d2 := Lib.hid (show decide (0 < y) = true from decide_eq_true a2)
        have B2 := Lib.hid b2
        have r2 : U.cell? ⟨g, i - W c, none⟩ = some (.bool true) := by rw [← b2]; exact BB.out.cell _ (by omega)
        have t2 : ((i : Int) - c.wide).toNat = i - W c := by omega
        have u2 : 0 ≤ (i : Int) - c.wide := by omega
        have v2 : (i : Int) - c.wide < (c.piece.length : Int) := by omega
        have w2 : (0 ≤ (i : Int) - c.wide ∧ (i : Int) - c.wide < (c.piece.length : Int)) = True := by simp; omega
        have x2 : IntKind.i64.wrap ((i : Int) - c.wide) = (i : Int) - c.wide := IntWalk.i64_in _ (by omega)
        go_wp2_with fail
        go_ret
        exact ⟨by rw [HN.out, d0.out, B0.out, d1.out, B1.out, d2.out, B2.out]; rfl, HB2.out⟩
    · skip
      have d1 := Lib.hid (show decide (x < c.wide - 1) = true from decide_eq_true a1)
      have B1 := Lib.hid b1
      have r1 : U.cell? ⟨g, i + 1, none⟩ = some (.bool true) := by rw [← b1]; exact BB.out.cell _ (by omega)
      have t1 : ((i : Int) + 1).toNat = i + 1 := by omega
      have u1 : 0 ≤ (i : Int) + 1 := by omega
      have v1 : (i : Int) + 1 < (c.piece.length : Int) := by omega
      have w1 : (0 ≤ (i : Int) + 1 ∧ (i : Int) + 1 < (c.piece.length : Int)) = True := by simp; omega
      have x1 : IntKind.i64.wrap ((i : Int) + 1) = (i : Int) + 1 := IntWalk.i64_in _ (by omega)
      go_wp2_with fail
      go_ret
      exact ⟨by rw [HN.out, d0.out, B0.out, d1.out, B1.out]; rfl, HB2.out⟩
  · skip
    have d0 := Lib.hid (show decide (0 < x) = true from decide_eq_true a0)
    have B0 := Lib.hid b0
    have r0 : U.cell? ⟨g, i - 1, none⟩ = some (.bool true) := by rw [← b0]; exact BB.out.cell _ (by omega)
    have t0 : ((i : Int) - 1).toNat = i - 1 := by omega
    have u0 : 0 ≤ (i : Int) - 1 := by omega
    have v0 : (i : Int) - 1 < (c.piece.length : Int) := by omega
    have w0 : (0 ≤ (i : Int) - 1 ∧ (i : Int) - 1 < (c.piece.length : Int)) = True := by simp; omega
    have x0 : IntKind.i64.wrap ((i : Int) - 1) = (i : Int) - 1 := IntWalk.i64_in _ (by omega)
    go_wp2_with fail
    go_ret
    exact ⟨by rw [HN.out, d0.out, B0.out]; rfl, HB2.out⟩
end Go.Proofs.Ytjlicbdnppodgaa
