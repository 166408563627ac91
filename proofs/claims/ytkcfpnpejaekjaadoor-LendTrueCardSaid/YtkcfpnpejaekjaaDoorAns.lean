import Derived.Test.YtkcfpnpejaekjaaDoorWin
namespace Go.Proofs.YtkcfpnpejaekjaaDoor
/-! Plain: the chapter's answers as functions. -/
def suspB (t : Tl) (k p : Nat) : Bool := has (susp t.loans t.looks k) p
def fitB (t : Tl) : Bool := canB (suspB t) t.n.toNat t.admits
def whoB (t : Tl) (k p : Nat) : Bool := canB (onlyS (suspB t) k p) t.n.toNat t.admits
def whoS (t : Tl) (k : Int) : Nat × Int :=
  if okTale t = false then (0, 1) else if inS k 0 (t.n - 1) = false then (0, 2) else if fitB t = false then (0, 6) else (setB (whoB t k.toNat) 8, 0)
def saysT (t : Tl) (p : Nat) (v : Int) : Tl := { t with admits := t.admits.set p v }
/-- The first and the last number below n with which all fits; found: is there one? -/
def lostL (t : Tl) (p : Nat) : Nat → Int × Int × Bool
  | 0 => (0, 0, false)
  | n + 1 => let x := lostL t p n
    if fitB (saysT t p n) then (if x.2.2 then x.1 else (n : Int), (n : Int), true) else x
def lostS (t : Tl) (p : Int) : (Int × Int) × Int :=
  if okTale t = false then ((0, 0), 1) else if inS p 0 ((t.admits.length : Int) - 1) = false then ((0, 0), 2) else if fitB t = false then ((0, 0), 6) else
  if t.admits.getD p.toNat 0 ≠ -1 then ((t.admits.getD p.toNat 0, t.admits.getD p.toNat 0), 0) else
  (((lostL t p.toNat (t.n.toNat + 1)).1, (lostL t p.toNat (t.n.toNat + 1)).2.1), 0)
/-- The first look with which a window is empty. -/
def clashL (t : Tl) : Nat → Option Nat
  | 0 => none
  | i + 1 => match clashL t i with
    | some j => some j
    | none => if (List.range t.n.toNat).any (fun k => decide (goneS (t.looks.take (i + 1)) k ≤ seenS (t.looks.take (i + 1)) k)) then some i else none
def clashS (t : Tl) : Int × Int :=
  if okTale t = false then (0, 1) else match clashL t t.looks.length with
    | some i => (i, 0)
    | none => if fitB t = false then (t.looks.length, 0) else (0, 4)
theorem suspB_lt {t : Tl} (hl : Lent t.loans) (hs : ∀ x ∈ t.looks, 0 ≤ x.h ∧ x.h ≤ mxH) (k p : Nat) (h : suspB t k p = true) : p < 8 := by
  obtain ⟨x, _, rfl⟩ := (susp_iff hl hs).1 h
  exact whoH_lt hl x
theorem fitB_iff {t : Tl} (hl : Lent t.loans) (hs : ∀ x ∈ t.looks, 0 ≤ x.h ∧ x.h ≤ mxH) : fitB t = true ↔ Fit t.n.toNat (suspB t) (admA t.admits) := canB_iff (suspB_lt hl hs)
theorem whoB_iff {t : Tl} (hl : Lent t.loans) (hs : ∀ x ∈ t.looks, 0 ≤ x.h ∧ x.h ≤ mxH) {k p : Nat} (hk : k < t.n.toNat) : whoB t k p = true ↔ ∃ f, FitBy t.n.toNat (suspB t) (admA t.admits) f ∧ f k = p := by
  rw [← only_fit hk]
  refine canB_iff fun i q h => suspB_lt hl hs i q ?_
  unfold onlyS at h
  rw [Bool.and_eq_true] at h
  exact h.1
end Go.Proofs.YtkcfpnpejaekjaaDoor
