import Derived.Test.YtbhkglokdomajaaDoorS0
namespace Go.Proofs.YtbhkglokdomajaaDoor
open Go.RowKit
/-! Plain functions of the chapter: what is valid, and what the calls answer. -/
def inS (a b c : Int) : Bool := decide (b ≤ a ∧ a ≤ c)
def spanS (l h a b : Int) : Bool := decide (a ≤ l ∧ l ≤ h ∧ h ≤ b)
def Blade.ok (b : Blade) : Bool := spanS b.fl b.fh 0 10000 && spanS b.wl b.wh 0 10000
def dieS (d : Die) : Bool := d.blades.all Blade.ok && (inS d.blades.length 1 5 && (inS d.bound 0 100000 && (inS d.stop 0 10000 && inS d.bend 0 10000)))
def Stint.ok (t : Stint) : Bool := inS t.n 1 1000 && inS t.more 0 100000
def stintsS (l : List Stint) : Bool := l.all Stint.ok && decide ((l.length : Int) ≤ 7)
def checkS (d : Die) (l : List Stint) : Int := if dieS d = false then 1 else if stintsS l = false then 2 else 0
def bladeAt (d : Die) (k : Nat) : Blade := d.blades.getD k ⟨0, 0, 0, 0⟩
structure OkB (b : Blade) : Prop where
  f : 0 ≤ b.fl ∧ b.fl ≤ b.fh ∧ b.fh ≤ 10000
  w : 0 ≤ b.wl ∧ b.wl ≤ b.wh ∧ b.wh ≤ 10000
structure OkD (d : Die) : Prop where
  nb : 1 ≤ d.blades.length ∧ d.blades.length ≤ 5
  bl : ∀ b ∈ d.blades, OkB b
  bound : 0 ≤ d.bound ∧ d.bound ≤ 100000
  stop : 0 ≤ d.stop ∧ d.stop ≤ 10000
  bend : 0 ≤ d.bend ∧ d.bend ≤ 10000
structure OkL (l : List Stint) : Prop where
  nl : l.length ≤ 7
  st : ∀ t ∈ l, 1 ≤ t.n ∧ t.n ≤ 1000 ∧ 0 ≤ t.more ∧ t.more ≤ 100000
theorem okb_iff (b : Blade) : Blade.ok b = true ↔ OkB b := by
  unfold Blade.ok spanS
  rw [Bool.and_eq_true, decide_eq_true_eq, decide_eq_true_eq]
  exact ⟨fun h => ⟨h.1, h.2⟩, fun h => ⟨h.f, h.w⟩⟩
theorem okd_iff (d : Die) : dieS d = true ↔ OkD d := by
  unfold dieS inS
  simp only [Bool.and_eq_true, decide_eq_true_eq, List.all_eq_true]
  constructor
  · rintro ⟨h1, h2, h3, h4, h5⟩
    exact ⟨by omega, fun b hb => (okb_iff b).1 (h1 b hb), h3, h4, h5⟩
  · intro h
    exact ⟨fun b hb => (okb_iff b).2 (h.bl b hb), by have := h.nb; omega, h.bound, h.stop, h.bend⟩
theorem okl_iff (l : List Stint) : stintsS l = true ↔ OkL l := by
  unfold stintsS Stint.ok inS
  simp only [Bool.and_eq_true, decide_eq_true_eq, List.all_eq_true]
  constructor
  · rintro ⟨h1, h2⟩
    exact ⟨by omega, fun t ht => by have := h1 t ht; omega⟩
  · intro h
    exact ⟨fun t ht => by have := h.st t ht; omega, by have := h.nl; omega⟩
theorem bladeAt_mem {d : Die} {k : Nat} (hk : k < d.blades.length) : bladeAt d k ∈ d.blades := by
  unfold bladeAt; rw [List.getD_eq_getElem?_getD, List.getElem?_eq_getElem hk]; exact List.getElem_mem hk
theorem bladeAt_get {d : Die} {k : Nat} (hk : k < d.blades.length) : d.blades[k]? = some (bladeAt d k) := by
  unfold bladeAt; rw [List.getD_eq_getElem?_getD, List.getElem?_eq_getElem hk]; rfl
theorem OkD.at {d : Die} (h : OkD d) {k : Nat} (hk : k < d.blades.length) : OkB (bladeAt d k) := h.bl _ (bladeAt_mem hk)
/-! By how much a blade is off, and how long it lasts. -/
def offLo (b : Blade) (x : Int) : Int := b.fl + b.wl * x
def offS (d : Die) (k x : Int) : (Int × Int) × Int :=
  if dieS d = false then ((0, 0), 1) else if inS k 0 (d.blades.length - 1) = false ∨ inS x 0 7000 = false then ((0, 0), 2) else ((offLo (bladeAt d k.toNat) x, worstS (bladeAt d k.toNat) x), 0)
def lastsN (fresh wears most : Int) : Int := if wears = 0 then 7000 else min 7000 ((most - fresh) / wears)
def lastsS (d : Die) (k most : Int) : (Int × Int) × Int :=
  if dieS d = false then ((0, 0), 1) else if inS k 0 (d.blades.length - 1) = false ∨ inS most 0 200000 = false then ((0, 0), 2) else if most < (bladeAt d k.toNat).fh then ((0, 0), 4)
  else ((lastsN (bladeAt d k.toNat).fh (bladeAt d k.toNat).wh most, lastsN (bladeAt d k.toNat).fl (bladeAt d k.toNat).wl most), 0)
theorem mul_bd {a b A B : Int} (h1 : 0 ≤ a) (h2 : a ≤ A) (h3 : 0 ≤ b) (h4 : b ≤ B) : 0 ≤ a * b ∧ a * b ≤ A * B := ⟨Int.mul_nonneg h1 h3, Int.mul_le_mul h2 h4 h3 (by omega)⟩
theorem OkB.off_bd {b : Blade} (h : OkB b) {x : Int} (h1 : 0 ≤ x) (h2 : x ≤ 7000) : 0 ≤ b.wl * x ∧ b.wl * x ≤ b.wh * x ∧ 0 ≤ b.wh * x ∧ b.wh * x ≤ 70000000 ∧ b.wl * x ≤ 70000000 := by
  have g1 := mul_bd h.w.1 (by have := h.w; omega : b.wl ≤ 10000) h1 h2
  have g2 := mul_bd (by have := h.w; omega : 0 ≤ b.wh) h.w.2.2 h1 h2
  have g3 := Int.mul_le_mul_of_nonneg_right h.w.2.1 h1
  omega
/-- What the document counts is what the program divides. -/
theorem lasts_eq {fresh wears most n : Int} (hw : 0 ≤ wears) (h0 : 0 ≤ n) (hn : n ≤ 7000) (hle : fresh + wears * n ≤ most) (hex : n = 7000 ∨ most < fresh + wears * (n + 1)) : n = lastsN fresh wears most := by
  unfold lastsN
  by_cases hz : wears = 0
  · rw [if_pos hz]
    subst hz
    omega
  · rw [if_neg hz]
    have hpos : 0 < wears := by omega
    have h1 : n ≤ (most - fresh) / wears := (Int.le_ediv_iff_mul_le hpos).2 (by rw [Int.mul_comm]; omega)
    rcases hex with rfl | hex
    · omega
    · have h2 : (most - fresh) / wears < n + 1 := (Int.ediv_lt_iff_lt_mul hpos).2 (by rw [Int.mul_comm]; omega)
      omega
theorem lastsN_bd {fresh wears most : Int} (hw : 0 ≤ wears) (hf : fresh ≤ most) : 0 ≤ lastsN fresh wears most ∧ lastsN fresh wears most ≤ 7000 := by
  unfold lastsN
  split
  · omega
  · have : 0 ≤ (most - fresh) / wears := Int.ediv_nonneg (by omega) hw
    omega
theorem lastsN_spec {fresh wears most : Int} (hw : 0 ≤ wears) (hf : fresh ≤ most) : fresh + wears * lastsN fresh wears most ≤ most ∧ (lastsN fresh wears most = 7000 ∨ most < fresh + wears * (lastsN fresh wears most + 1)) := by
  unfold lastsN
  by_cases hz : wears = 0
  · rw [if_pos hz]; subst hz; omega
  · rw [if_neg hz]
    have hpos : 0 < wears := by omega
    have h1 := Int.ediv_mul_le (most - fresh) hz
    have h2 := Int.lt_ediv_add_one_mul_self (most - fresh) hpos
    rw [Int.mul_comm] at h1 h2
    generalize (most - fresh) / wears = q at *
    by_cases hq : q ≤ 7000
    · rw [show min 7000 q = q by omega]; omega
    · rw [show min 7000 q = 7000 by omega]
      have := Int.mul_le_mul_of_nonneg_left (by omega : (7000 : Int) ≤ q) hw
      omega
/-! A plan, followed; the best plan; the proof. -/
def powI (n : Nat) : Int := ((2 ^ n : Nat) : Int)
def planOk (nb : Nat) (l : List Stint) (plan : List Int) : Bool := plan.all (fun s => inS s 0 (powI nb - 1)) && decide ((plan.length : Int) = ((l.length - 1 : Nat) : Int))
def setsOf (plan : List Int) : List Nat := 0 :: plan.map Int.toNat
def followS (d : Die) (l : List Stint) (plan : List Int) : Int × Int × Int × Int :=
  if checkS d l ≠ 0 then (0, 0, 0, checkS d l) else if planOk d.blades.length l plan = false then (0, 0, 0, 2)
  else match badP d.blades d.bound l (fun _ => 0) (setsOf plan) 0 with
    | some (i, k) => (0, i, k, 11)
    | none => (sumN (costS d.stop d.bend) (setsOf plan), l.length, 0, 0)
/-- With each stint the number of sets that are tried before it. -/
def pairsS (n : Nat) : List Stint → List (Nat × Stint)
  | [] => []
  | t :: l => (1, t) :: l.map fun t => (n, t)
def bestD (d : Die) (l : List Stint) : Option Pl := bestS d.blades d.bound (costS d.stop d.bend) (pairsS (2 ^ d.blades.length) l) (fun _ => 0)
def planS (d : Die) (l : List Stint) : List Nat × Int × Int :=
  if checkS d l ≠ 0 then ([], 0, checkS d l) else match bestD d l with
    | none => ([], 0, 4)
    | some (p, c) => (p.tail, c, 0)
def proofR (d : Die) (l : List Stint) : List (Nat × Nat × Nat) × Int :=
  if checkS d l ≠ 0 then ([], checkS d l) else if alonesS d.blades d.bound l = false then ([], 4) else (proofS d.blades d.bound l, 0)
theorem pairs_fst (n : Nat) (l : List Stint) : (pairsS n l).map (·.2) = l := by
  cases l with
  | nil => rfl
  | cons t l => show t :: ((l.map fun t => (n, t)).map (·.2)) = _; rw [List.map_map]; congr 1; exact List.map_id l
theorem pairs_len (n : Nat) (l : List Stint) : (pairsS n l).length = l.length := by
  cases l with
  | nil => rfl
  | cons t l => show (l.map _).length + 1 = _; rw [List.length_map]; rfl
end Go.Proofs.YtbhkglokdomajaaDoor
