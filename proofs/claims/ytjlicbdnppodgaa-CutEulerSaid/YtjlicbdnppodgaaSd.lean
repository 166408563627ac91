import Derived.Test.YtjlicbdnppodgaaP9
import Derived.Test.YtjlicbdnppodgaaEdg
namespace Go.Proofs.Ytjlicbdnppodgaa
open Go.RowKit
/-! Plain: what a piece has in common with others, as a list. -/
def sideC (p : Pt) : List Value := [.int .i64 p.1, .int .i64 p.2]
theorem sideC_len (p : Pt) : (sideC p).length = 2 := rfl
/-- The k-th of the numbers from -1 on. -/
def numK (i : Nat) : Int := (i : Int) - 1
def sideO (c : Cut) (piece : Int) (i : Nat) : Option Pt := if numK i ≠ piece ∧ 0 < edgesR c piece (numK i) then some (numK i, edgesR c piece (numK i)) else none
def sideTo (c : Cut) (piece : Int) (n : Nat) : List Pt := (List.range n).filterMap (sideO c piece)
/-- All of them. -/
def sidesS (c : Cut) (piece : Int) : List Pt := sideTo c piece ((greatS c).toNat + 2)
theorem sideTo_len (c : Cut) (piece : Int) (n : Nat) : (sideTo c piece n).length ≤ n := by
  unfold sideTo
  have := List.length_filterMap_le (sideO c piece) (List.range n)
  simpa using this
theorem sideTo_add {c : Cut} {piece : Int} {n : Nat} (h : numK n ≠ piece ∧ 0 < edgesR c piece (numK n)) : sideTo c piece (n + 1) = sideTo c piece n ++ [(numK n, edgesR c piece (numK n))] := by
  unfold sideTo
  rw [List.range_succ, List.filterMap_append]
  congr 1
  simp only [List.filterMap_cons, List.filterMap_nil, sideO, if_pos h]
theorem sideTo_skip {c : Cut} {piece : Int} {n : Nat} (h : ¬ (numK n ≠ piece ∧ 0 < edgesR c piece (numK n))) : sideTo c piece (n + 1) = sideTo c piece n := by
  unfold sideTo
  rw [List.range_succ, List.filterMap_append]
  simp only [List.filterMap_cons, List.filterMap_nil, sideO, if_neg h, List.append_nil]
noncomputable def sidesL (c : Cut) (piece : Int) : List Pt := if openE c piece = 0 then sidesS c piece else []
/-- What Sides hands back. -/
def RetSides (c : Cut) (piece : Int) (w : World) (e : Ending) (w' : World) : Prop := ∃ A cap, e = .returned (.tuple #[.slice A (sidesL c piece).length cap, .int .i64 (openE c piece)]) ∧ At w' w'.heap.size 2 sideC A (sidesL c piece) ∧ Below w.heap.size w w'
theorem side_info : (Try.prog.info? 54).map (fun i => (i.zero, i.size, i.bytes)) = some (some (.agg #[.int .i64 0, .int .i64 0]), 2, 16) := by kernel_rfl
theorem edges_lt {c : Cut} (ok : OkC c) (a b : Int) : edgesR c a b ≤ 1000 := by
  unfold edgesR
  have hw := ok.w
  have hh := ok.h
  have h1 := (sumTo_bd (B := 4 * W c) (fun y => sumTo_bd (fun x => cellE_bd c x y a b) (W c)) (H c)).2
  have hW : ((W c : Nat) : Int) = c.wide := by unfold W; omega
  have hH : ((H c : Nat) : Int) = c.high := by unfold H; omega
  rw [hW, hH] at h1
  have h2 : 4 * c.wide * c.high ≤ 4 * 12 * 12 := Int.mul_le_mul (by omega) hh.2 (by omega) (by omega)
  omega
end Go.Proofs.Ytjlicbdnppodgaa
