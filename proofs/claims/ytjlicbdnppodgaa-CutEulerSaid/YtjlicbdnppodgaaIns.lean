import Derived.Test.YtjlicbdnppodgaaSd
namespace Go.Proofs.Ytjlicbdnppodgaa
open Go.RowKit
/-! Plain: which pieces are reached from the border, without one of them. -/
/-- Piece m is next to piece q (or to the border: -1), and is not the one. -/
def Nbr (c : Cut) (piece m q : Int) : Prop := 0 ≤ m ∧ m ≤ greatS c ∧ m ≠ piece ∧ m ≠ q ∧ 0 < edgesR c m q
inductive Rch (c : Cut) (piece k : Int) : Int → Prop
  | one {m} : Nbr c piece m k → Rch c piece k m
  | step {m q} : Rch c piece k q → Nbr c piece m q → Rch c piece k m
theorem Rch.trans {c : Cut} {piece k q m : Int} (h : Rch c piece k q) (h' : Rch c piece q m) : Rch c piece k m := by
  induction h' with
  | one h2 => exact .step h h2
  | step _ h3 ih => exact .step ih h3
theorem Rch.bd {c : Cut} {piece k m : Int} (h : Rch c piece k m) : 0 ≤ m ∧ m ≤ greatS c ∧ m ≠ piece := by
  cases h with
  | one h => exact ⟨h.1, h.2.1, h.2.2.1⟩
  | step _ h => exact ⟨h.1, h.2.1, h.2.2.1⟩
/-- What a search from k does to what has been reached; the pieces below n have been looked at. -/
structure DfsP (c : Cut) (piece k : Int) (R R' : Int → Bool) (n : Int) : Prop where
  old : ∀ q, R q = true → R' q = true
  new : ∀ q, R' q = true → R q = true ∨ Rch c piece k q
  done : ∀ q, R' q = true → R q = false → ∀ m, Nbr c piece m q → R' m = true
  here : ∀ m, m < n → Nbr c piece m k → R' m = true
theorem DfsP.start {c : Cut} {piece k : Int} {R : Int → Bool} : DfsP c piece k R R 0 := ⟨fun _ h => h, fun _ h => .inl h, fun q h h0 => (by rw [h] at h0; cases h0), fun m hm h => by have := h.1; omega⟩
theorem DfsP.skip {c : Cut} {piece k n : Int} {R R' : Int → Bool} (h : DfsP c piece k R R' n) (hs : R' n = true ∨ ¬ Nbr c piece n k) : DfsP c piece k R R' (n + 1) :=
  ⟨h.old, h.new, h.done, fun m hm hn => by
    by_cases e : m = n
    · subst e; exact hs.resolve_right (fun h => h hn)
    · exact h.here m (by omega) hn⟩
theorem DfsP.go {c : Cut} {piece k n g : Int} {R R' R'' : Int → Bool} (h : DfsP c piece k R R' n) (hn : Nbr c piece n k) (h2 : DfsP c piece n (fun q => R' q || decide (q = n)) R'' g) (hg : greatS c < g) : DfsP c piece k R R'' (n + 1) := by
  have hk : Rch c piece k n := .one hn
  have up : ∀ q, R' q = true → R'' q = true := fun q hq => h2.old q (by simp [hq])
  have own : R'' n = true := h2.old n (by simp)
  refine ⟨fun q hq => up q (h.old q hq), fun q hq => ?_, fun q hq hnr m hm => ?_, fun m hm hnm => ?_⟩
  · rcases h2.new q hq with h3 | h3
    · simp only [Bool.or_eq_true, decide_eq_true_eq] at h3
      rcases h3 with h3 | rfl
      · exact h.new q h3
      · exact .inr hk
    · exact .inr (hk.trans h3)
  · by_cases h3 : R' q = true
    · exact up m (h.done q h3 hnr m hm)
    · by_cases e : q = n
      · subst e; exact h2.here m (by have := hm.2.1; omega) hm
      · exact h2.done q hq (by simp [h3, e]) m hm
  · by_cases e : m = n
    · subst e; exact own
    · exact up m (h.here m (by omega) hnm)
/-- The whole search from the border. -/
theorem DfsP.all {c : Cut} {piece g : Int} {R' : Int → Bool} (h : DfsP c piece (-1) (fun _ => false) R' g) (hg : greatS c < g) (q : Int) : R' q = true ↔ Rch c piece (-1) q := by
  constructor
  · intro hq
    exact (h.new q hq).resolve_left (by simp)
  · intro hr
    induction hr with
    | one h2 => exact h.here _ (by have := h2.2.1; omega) h2
    | step _ h3 ih => exact h.done _ ih rfl _ h3
open Classical in
noncomputable def rchB (c : Cut) (piece q : Int) : Bool := decide (Rch c piece (-1) q)
open Classical in
theorem rchB_iff (c : Cut) (piece q : Int) : rchB c piece q = true ↔ Rch c piece (-1) q := by unfold rchB; exact decide_eq_true_iff
/-- The pieces within a piece. -/
noncomputable def insTo (c : Cut) (piece : Int) (n : Nat) : List Int := ((List.range n).filter fun k : Nat => decide ((k : Int) ≠ piece) && !rchB c piece (k : Int)).map fun k : Nat => (k : Int)
noncomputable def insideL (c : Cut) (piece : Int) : List Int := if openE c piece = 0 then insTo c piece ((greatS c).toNat + 1) else []
theorem insTo_len (c : Cut) (piece : Int) (n : Nat) : (insTo c piece n).length ≤ n := by
  unfold insTo
  rw [List.length_map]
  have := List.length_filter_le (fun k : Nat => decide ((k : Int) ≠ piece) && !rchB c piece (k : Int)) (List.range n)
  simpa using this
theorem insTo_add {c : Cut} {piece : Int} {n : Nat} (h : (n : Int) ≠ piece ∧ rchB c piece n = false) : insTo c piece (n + 1) = insTo c piece n ++ [(n : Int)] := by
  unfold insTo
  rw [List.range_succ, List.filter_append, List.map_append]
  congr 1
  simp [h.1, h.2]
theorem insTo_skip {c : Cut} {piece : Int} {n : Nat} (h : ¬ ((n : Int) ≠ piece ∧ rchB c piece n = false)) : insTo c piece (n + 1) = insTo c piece n := by
  unfold insTo
  rw [List.range_succ, List.filter_append, List.map_append]
  have : (List.filter (fun k : Nat => decide ((k : Int) ≠ piece) && !rchB c piece (k : Int)) [n]) = [] := by
    simp only [List.filter_cons, List.filter_nil]
    rw [if_neg]
    intro h2
    simp only [Bool.and_eq_true, decide_eq_true_eq, Bool.not_eq_true'] at h2
    exact h h2
  rw [this, List.map_nil, List.append_nil]
def RetIns (c : Cut) (piece : Int) (w : World) (e : Ending) (w' : World) : Prop := ∃ A cap, e = .returned (.tuple #[.slice A (insideL c piece).length cap, .int .i64 (openE c piece)]) ∧ At w' w'.heap.size 1 icell A (insideL c piece) ∧ Below w.heap.size w w'
/-- How many pieces have not been reached. -/
def freeP (n : Nat) (R : Int → Bool) : Nat := manyF (fun j => !R (j : Int)) n
end Go.Proofs.Ytjlicbdnppodgaa
