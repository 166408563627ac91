import Derived.Test.YtjlicbdnppodgaaSawL
import Derived.Test.YtjlicbdnppodgaaWho
import Derived.Test.YtjlicbdnppodgaaP13
import Derived.Test.YtjlicbdnppodgaaA3
namespace Go.Proofs.Ytjlicbdnppodgaa
section
open Go.RowKit
/-! Plain: a picture that is turned. -/
theorem sumTo_rev (f : Nat → Int) : ∀ n : Nat, sumTo (fun k => f (n - 1 - k)) n = sumTo f n
  | 0 => rfl
  | n + 1 => by
    rw [sumTo_first]
    show f (n + 1 - 1 - 0) + sumTo (fun k => f (n + 1 - 1 - (k + 1))) n = sumTo f n + f n
    rw [sumTo_congr (g := fun k => f (n - 1 - k)) fun k _ => by congr 1; omega, sumTo_rev f n]
    simp only [Nat.add_sub_cancel, Nat.sub_zero]
    omega
theorem sumTo_revI (g : Int → Int) {n : Nat} {w : Int} (hn : (n : Int) = w) : sumTo (fun k : Nat => g (w - 1 - (k : Int))) n = sumTo (fun k : Nat => g (k : Int)) n := by
  rw [← sumTo_rev (fun k : Nat => g (k : Int)) n]
  exact sumTo_congr fun k hk => by congr 1; omega
def fourS (g : Pt → Int) (p : Pt) : Int := g (p.1 - 1, p.2) + g (p.1 + 1, p.2) + g (p.1, p.2 - 1) + g (p.1, p.2 + 1)
def overC (c : Cut) (g : Pt → Int) : Int := sumTo (fun y => sumTo (fun x => g ((x : Int), (y : Int))) (W c)) (H c)
structure Dih (J : Int → Int → Int → Int → Int) : Prop where
  x : ∀ a b f d, J b a d f = J a b f d
  y : ∀ a b f d, J d f b a = J a b f d
  t : ∀ a b f d, J a d f b = J a b f d
def overJ (c : Cut) (J : Int → Int → Int → Int → Int) : Int := overP c (fun x y => J (cornA c x y) (cornB c x y) (cornF c x y) (cornD c x y))
structure Turn (c t : Cut) (φ ψ : Pt → Pt) : Prop where
  okc : OkC c
  okt : OkC t
  at_ : ∀ p, pcOf t p = pcOf c (φ p)
  l : ∀ p, ψ (φ p) = p
  r : ∀ p, φ (ψ p) = p
  ar : ∀ p q : Pt, q ∈ around p.1 p.2 → φ q ∈ around (φ p).1 (φ p).2
  ar' : ∀ p q : Pt, q ∈ around p.1 p.2 → ψ q ∈ around (ψ p).1 (ψ p).2
  fr : ∀ (g : Pt → Int) p, fourS (fun q => g (φ q)) p = fourS g (φ p)
  cells : ∀ g : Pt → Int, overC t (fun p => g (φ p)) = overC c g
  pts : ∀ J, Dih J → overJ t J = overJ c J
  saw : Sawable c 0 0 c.wide c.high ↔ Sawable t 0 0 t.wide t.high
theorem Turn.in_ {c t : Cut} {φ ψ : Pt → Pt} (h : Turn c t φ ψ) (p : Pt) : inG t p ↔ inG c (φ p) := by
  rw [inG_iff h.okt, inG_iff h.okc, h.at_]
theorem Turn.at' {c t : Cut} {φ ψ : Pt → Pt} (h : Turn c t φ ψ) (p : Pt) : pcOf c p = pcOf t (ψ p) := by
  rw [h.at_, h.r]
theorem Turn.has {c t : Cut} {φ ψ : Pt → Pt} (h : Turn c t φ ψ) (k : Int) : (∃ p, inG t p ∧ pcOf t p = k) ↔ ∃ p, inG c p ∧ pcOf c p = k := by
  constructor
  · rintro ⟨p, hp, e⟩
    exact ⟨φ p, (h.in_ p).1 hp, by rw [← h.at_]; exact e⟩
  · rintro ⟨p, hp, e⟩
    exact ⟨ψ p, (h.in_ _).2 (by rw [h.r]; exact hp), by rw [← h.at']; exact e⟩
theorem Turn.great {c t : Cut} {φ ψ : Pt → Pt} (h : Turn c t φ ψ) : greatS t = greatS c := by
  refine great_eq h.okt ((h.has _).2 ?_) fun p hp => ?_
  · obtain ⟨j, hj, ej⟩ := List.getElem_of_mem (great_in h.okc)
    have h6 := cell_in h.okc hj
    refine ⟨_, h6.1, ?_⟩
    rw [h6.2]
    unfold atI
    rw [getD_get hj, ej]
  · rw [h.at_]
    exact at_great h.okc _ _
theorem Turn.zero {c t : Cut} {φ ψ : Pt → Pt} (h : Turn c t φ ψ) (k : Int) : cellsS t k = 0 ↔ cellsS c k = 0 := by
  rw [← Classical.not_not (a := cellsS t k = 0), ← Classical.not_not (a := cellsS c k = 0)]
  exact not_congr ((has_cell h.okt).trans ((h.has k).trans (has_cell h.okc).symm))
theorem Turn.reach {c t : Cut} {φ ψ : Pt → Pt} (h : Turn c t φ ψ) {p q : Pt} (hr : Reach c p q) : Reach t (ψ p) (ψ q) := by
  induction hr with
  | refl => exact .refl _
  | step _ h2 h3 ih => exact .step ih (h.ar' _ _ h2) ((h.at' _).symm.trans (Eq.trans h3 (h.at' _)))
theorem Turn.reach' {c t : Cut} {φ ψ : Pt → Pt} (h : Turn c t φ ψ) {p q : Pt} (hr : Reach t p q) : Reach c (φ p) (φ q) := by
  induction hr with
  | refl => exact .refl _
  | step _ h2 h3 ih => exact .step ih (h.ar _ _ h2) ((h.at_ _).symm.trans (Eq.trans h3 (h.at_ _)))
theorem Turn.whole {c t : Cut} {φ ψ : Pt → Pt} (h : Turn c t φ ψ) (k : Int) : Whole t k ↔ Whole c k := by
  constructor
  · intro hw p q hp hq ep eq
    have := h.reach' (hw (ψ p) (ψ q) ((h.in_ _).2 (by rw [h.r]; exact hp)) ((h.in_ _).2 (by rw [h.r]; exact hq)) ((h.at' p).symm.trans ep) ((h.at' q).symm.trans eq))
    rw [h.r, h.r] at this
    exact this
  · intro hw p q hp hq ep eq
    have := h.reach (hw (φ p) (φ q) ((h.in_ _).1 hp) ((h.in_ _).1 hq) ((h.at_ p).symm.trans ep) ((h.at_ q).symm.trans eq))
    rw [h.l, h.l] at this
    exact this
theorem Turn.check {c t : Cut} {φ ψ : Pt → Pt} (h : Turn c t φ ψ) : checkS t = checkS c := by
  have e1 : cutS t = true := (okc_iff t).2 h.okt
  have e2 : cutS c = true := (okc_iff c).2 h.okc
  have e3 : (fun k : Nat => cellsS t (k : Int) == 0) = (fun k : Nat => cellsS c (k : Int) == 0) := funext fun k => by
    rw [Bool.eq_iff_iff, beq_iff_eq, beq_iff_eq]; exact h.zero _
  have e4 : Whole t = Whole c := funext fun k => propext (h.whole _)
  unfold checkS
  rw [e1, e2, e3, e4, h.great]
theorem cellE_fourS (c : Cut) (x y a b : Int) : cellE c x y a b = if pcOf c (x, y) = a then fourS (fun q => b2i (pcOf c q == b)) (x, y) else 0 := rfl
theorem Turn.edges {c t : Cut} {φ ψ : Pt → Pt} (h : Turn c t φ ψ) (a b : Int) : edgesR t a b = edgesR c a b := by
  have := h.cells (fun p => cellE c p.1 p.2 a b)
  unfold overC at this
  unfold edgesR
  rw [← this]
  refine sumTo_congr fun y _ => sumTo_congr fun x _ => ?_
  dsimp only
  rw [cellE_fourS, cellE_fourS, show pcOf c ((φ ((x : Int), (y : Int))).1, (φ ((x : Int), (y : Int))).2) = pcOf t ((x : Int), (y : Int)) from (h.at_ _).symm, ← h.fr (fun q => b2i (pcOf c q == b)) ((x : Int), (y : Int))]
  simp only [h.at_]
theorem Turn.open_ {c t : Cut} {φ ψ : Pt → Pt} (h : Turn c t φ ψ) (k : Int) : openE t k = openE c k := by
  unfold openE
  rw [h.check, h.great]
theorem Turn.sides {c t : Cut} {φ ψ : Pt → Pt} (h : Turn c t φ ψ) (k : Int) : sidesL t k = sidesL c k := by
  unfold sidesL sidesS sideTo
  rw [h.open_, h.great]
  have : sideO t k = sideO c k := funext fun i => by unfold sideO; rw [h.edges]
  rw [this]
theorem Turn.rch {c t : Cut} {φ ψ : Pt → Pt} (h : Turn c t φ ψ) {piece k q : Int} : Rch t piece k q ↔ Rch c piece k q := by
  have e : ∀ m q, Nbr t piece m q ↔ Nbr c piece m q := fun m q => by unfold Nbr; rw [h.great, h.edges]
  constructor
  · intro hr
    induction hr with
    | one h1 => exact .one ((e _ _).1 h1)
    | step _ h1 ih => exact .step ih ((e _ _).1 h1)
  · intro hr
    induction hr with
    | one h1 => exact .one ((e _ _).2 h1)
    | step _ h1 ih => exact .step ih ((e _ _).2 h1)
theorem Turn.inside {c t : Cut} {φ ψ : Pt → Pt} (h : Turn c t φ ψ) (k : Int) : insideL t k = insideL c k := by
  unfold insideL insTo
  rw [h.open_, h.great]
  have : ∀ q, rchB t k q = rchB c k q := fun q => by rw [Bool.eq_iff_iff, rchB_iff, rchB_iff, h.rch]
  simp only [this]
/-! The lines. -/
def manyV (a b f d : Int) : Int := b2i (cutB b a) + b2i (cutB f b) + b2i (cutB d f) + b2i (cutB a d)
def edgeV (a b f d : Int) : Bool := decide (a = -1 ∨ b = -1 ∨ f = -1 ∨ d = -1)
def startV (a b f d : Int) : Int := if edgeV a b f d = true then manyV a b f d else 0
def jointV (a b f d : Int) : Int := if edgeV a b f d = true then 0 else if 2 < manyV a b f d then 1 else 0
def bendV (a b f d : Int) : Int := if edgeV a b f d = true then 0 else if 2 < manyV a b f d then 0 else if manyV a b f d = 2 ∧ cutB b a ≠ cutB d f then 1 else 0
theorem cutB_symm (m k : Int) : cutB m k = cutB k m := by
  unfold cutB
  rw [Bool.eq_iff_iff, decide_eq_true_eq, decide_eq_true_eq]
  omega
theorem many_x (a b f d : Int) : manyV b a d f = manyV a b f d := by
  unfold manyV
  rw [cutB_symm a b, cutB_symm d a, cutB_symm f d, cutB_symm b f]; omega
theorem many_y (a b f d : Int) : manyV d f b a = manyV a b f d := by
  unfold manyV
  rw [cutB_symm f d, cutB_symm b f, cutB_symm a b, cutB_symm d a]; omega
theorem many_t (a b f d : Int) : manyV a d f b = manyV a b f d := by
  unfold manyV
  rw [cutB_symm d a, cutB_symm f d, cutB_symm b f, cutB_symm a b]; omega
theorem edge_x (a b f d : Int) : edgeV b a d f = edgeV a b f d := by
  unfold edgeV; rw [Bool.eq_iff_iff, decide_eq_true_eq, decide_eq_true_eq]; omega
theorem edge_y (a b f d : Int) : edgeV d f b a = edgeV a b f d := by
  unfold edgeV; rw [Bool.eq_iff_iff, decide_eq_true_eq, decide_eq_true_eq]; omega
theorem edge_t (a b f d : Int) : edgeV a d f b = edgeV a b f d := by
  unfold edgeV; rw [Bool.eq_iff_iff, decide_eq_true_eq, decide_eq_true_eq]; omega
theorem start_dih : Dih startV := ⟨fun a b f d => by unfold startV; rw [many_x, edge_x], fun a b f d => by unfold startV; rw [many_y, edge_y], fun a b f d => by unfold startV; rw [many_t, edge_t]⟩
theorem joint_dih : Dih jointV := ⟨fun a b f d => by unfold jointV; rw [many_x, edge_x], fun a b f d => by unfold jointV; rw [many_y, edge_y], fun a b f d => by unfold jointV; rw [many_t, edge_t]⟩
theorem bend_dih : Dih bendV := by
  refine ⟨fun a b f d => ?_, fun a b f d => ?_, fun a b f d => ?_⟩
  · unfold bendV
    rw [many_x, edge_x, cutB_symm a b, cutB_symm f d]
  · unfold bendV
    rw [many_y, edge_y, cutB_symm f d, cutB_symm a b]
    have : (cutB d f ≠ cutB b a) = (cutB b a ≠ cutB d f) := propext ⟨fun h e => h e.symm, fun h e => h e.symm⟩
    simp only [this]
  · unfold bendV
    rw [many_t, edge_t, cutB_symm d a, cutB_symm b f]
    have : (manyV a b f d = 2 ∧ cutB a d ≠ cutB f b) = (manyV a b f d = 2 ∧ cutB b a ≠ cutB d f) := propext (by
      unfold manyV
      cases cutB b a <;> cases cutB f b <;> cases cutB d f <;> cases cutB a d <;> simp [b2i])
    simp only [this]
theorem Turn.lines {c t : Cut} {φ ψ : Pt → Pt} (h : Turn c t φ ψ) : linesS t = linesS c := by
  have e1 : overP t (bendP t) = overP c (bendP c) := h.pts bendV bend_dih
  have e2 : overP t (jointP t) = overP c (jointP c) := h.pts jointV joint_dih
  have e3 : overP t (startP t) = overP c (startP c) := h.pts startV start_dih
  have e4 : lenS t = lenS c := by
    unfold lenS
    rw [h.great]
    exact sumTo_congr fun a _ => sumTo_congr fun b _ => h.edges _ _
  unfold linesS cutE
  rw [h.check, e1, e2, e3, e4]
theorem Turn.sawn {c t : Cut} {φ ψ : Pt → Pt} (h : Turn c t φ ψ) : sawE t = sawE c ∧ (sawL t).length = (sawL c).length := by
  have hb : (sawF t 24 0 0 t.wide t.high).2 = (sawF c 24 0 0 c.wide c.high).2 := by
    rw [Bool.eq_iff_iff, saw_able h.okt 24 (.all h.okt), saw_able h.okc 24 (.all h.okc)]
    exact h.saw.symm
  have he : sawE t = sawE c := by
    unfold sawE
    rw [h.check, hb]
  refine ⟨he, ?_⟩
  unfold sawL
  rw [he]
  by_cases h0 : sawE c = 0
  · rw [if_pos h0, if_pos h0]
    unfold sawE at h0
    by_cases h1 : (checkS c).2 ≠ 0
    · rw [if_pos h1] at h0; exact absurd h0 h1
    · rw [if_neg h1] at h0
      have h2 : (sawF c 24 0 0 c.wide c.high).2 = true := by
        cases h3 : (sawF c 24 0 0 c.wide c.high).2 with
        | true => rfl
        | false => rw [h3] at h0; simp at h0
      have g1 := GoodC.of (Classical.not_not.1 h1)
      have g2 := GoodC.of (c := t) (by rw [h.check]; exact Classical.not_not.1 h1)
      have c1 := saw_count h.okc 24 (.all h.okc) h2
      have c2 := saw_count h.okt 24 (.all h.okt) (hb.trans h2)
      rw [hasN_all h.okc fun k hk => (has_cell h.okc).2 (g1.cells k (by omega) hk)] at c1
      rw [hasN_all h.okt fun k hk => (has_cell h.okt).2 (g2.cells k (by omega) hk), h.great] at c2
      omega
  · rw [if_neg h0, if_neg h0]
/-! The three ways. -/
theorem WH_int {c : Cut} (ok : OkC c) : ((W c : Nat) : Int) = c.wide ∧ ((H c : Nat) : Int) = c.high := by
  have hw := ok.w
  have hh := ok.h
  unfold W H
  omega
theorem Sawable.flipX {c t : Cut} {w : Int} (hat : ∀ x y, at2 t x y = at2 c (w - 1 - x) y) {x0 y0 x1 y1 : Int} (h : Sawable c x0 y0 x1 y1) : Sawable t (w - x1) y0 (w - x0) y1 := by
  have hp : ∀ p : Pt, pcOf t p = pcOf c (w - 1 - p.1, p.2) := fun p => hat _ _
  induction h with
  | one h => exact .one fun p q h1 h2 => by rw [hp, hp]; exact h _ _ (by unfold InR at *; dsimp only; omega) (by unfold InR at *; dsimp only; omega)
  | row y ha hb hg _ _ iha ihb => exact .row y ha hb (fun p q h1 h2 => by rw [hp, hp]; exact hg _ _ (by unfold InR at *; dsimp only; omega) (by unfold InR at *; dsimp only; omega)) iha ihb
  | col x ha hb hg _ _ iha ihb => exact .col (w - x) (by omega) (by omega) (fun p q h1 h2 => by rw [hp, hp]; exact (hg _ _ (by unfold InR at *; dsimp only; omega) (by unfold InR at *; dsimp only; omega)).symm) ihb iha
theorem Sawable.flipY {c t : Cut} {w : Int} (hat : ∀ x y, at2 t x y = at2 c x (w - 1 - y)) {x0 y0 x1 y1 : Int} (h : Sawable c x0 y0 x1 y1) : Sawable t x0 (w - y1) x1 (w - y0) := by
  have hp : ∀ p : Pt, pcOf t p = pcOf c (p.1, w - 1 - p.2) := fun p => hat _ _
  induction h with
  | one h => exact .one fun p q h1 h2 => by rw [hp, hp]; exact h _ _ (by unfold InR at *; dsimp only; omega) (by unfold InR at *; dsimp only; omega)
  | row y ha hb hg _ _ iha ihb => exact .row (w - y) (by omega) (by omega) (fun p q h1 h2 => by rw [hp, hp]; exact (hg _ _ (by unfold InR at *; dsimp only; omega) (by unfold InR at *; dsimp only; omega)).symm) ihb iha
  | col x ha hb hg _ _ iha ihb => exact .col x ha hb (fun p q h1 h2 => by rw [hp, hp]; exact hg _ _ (by unfold InR at *; dsimp only; omega) (by unfold InR at *; dsimp only; omega)) iha ihb
theorem Sawable.transp {c t : Cut} (hat : ∀ x y, at2 t x y = at2 c y x) {x0 y0 x1 y1 : Int} (h : Sawable c x0 y0 x1 y1) : Sawable t y0 x0 y1 x1 := by
  have hp : ∀ p : Pt, pcOf t p = pcOf c (p.2, p.1) := fun p => hat _ _
  induction h with
  | one h => exact .one fun p q h1 h2 => by rw [hp, hp]; exact h _ _ (by unfold InR at *; dsimp only; omega) (by unfold InR at *; dsimp only; omega)
  | row y ha hb hg _ _ iha ihb => exact .col y ha hb (fun p q h1 h2 => by rw [hp, hp]; exact hg _ _ (by unfold InR at *; dsimp only; omega) (by unfold InR at *; dsimp only; omega)) iha ihb
  | col x ha hb hg _ _ iha ihb => exact .row x ha hb (fun p q h1 h2 => by rw [hp, hp]; exact hg _ _ (by unfold InR at *; dsimp only; omega) (by unfold InR at *; dsimp only; omega)) iha ihb
theorem around_iff {x y : Int} {q : Pt} : q ∈ around x y ↔ (q.1 = x - 1 ∧ q.2 = y) ∨ (q.1 = x + 1 ∧ q.2 = y) ∨ (q.1 = x ∧ q.2 = y - 1) ∨ (q.1 = x ∧ q.2 = y + 1) := by
  obtain ⟨a, b⟩ := q
  unfold around
  simp only [List.mem_cons, Prod.mk.injEq, List.not_mem_nil, or_false]
theorem turn_x {c t : Cut} (okc : OkC c) (okt : OkC t) (hw : t.wide = c.wide) (hh : t.high = c.high) (hat : ∀ x y, at2 t x y = at2 c (c.wide - 1 - x) y) : Turn c t (fun p => (c.wide - 1 - p.1, p.2)) (fun p => (c.wide - 1 - p.1, p.2)) := by
  have hWH := WH_int okc
  have e : W t = W c ∧ H t = H c := by unfold W H; rw [hw, hh]; exact ⟨rfl, rfl⟩
  refine ⟨okc, okt, fun p => hat _ _, fun p => ?_, fun p => ?_, fun p q h => ?_, fun p q h => ?_, fun g p => ?_, fun g => ?_, fun J hJ => ?_, ⟨fun h => ?_, fun h => ?_⟩⟩
  · exact Prod.ext (by dsimp only; omega) rfl
  · exact Prod.ext (by dsimp only; omega) rfl
  · rw [around_iff] at *; dsimp only; omega
  · rw [around_iff] at *; dsimp only; omega
  · unfold fourS
    dsimp only
    rw [show c.wide - 1 - (p.1 - 1) = c.wide - 1 - p.1 + 1 by omega, show c.wide - 1 - (p.1 + 1) = c.wide - 1 - p.1 - 1 by omega]; omega
  · unfold overC
    rw [e.1, e.2]
    exact sumTo_congr fun y _ => sumTo_revI (fun x => g (x, (y : Int))) hWH.1
  · unfold overJ overP cornA cornB cornF cornD
    rw [e.1, e.2]
    refine sumTo_congr fun y _ => ?_
    rw [← sumTo_revI (fun x => J (at2 c (x - 1) ((y : Int) - 1)) (at2 c x ((y : Int) - 1)) (at2 c x (y : Int)) (at2 c (x - 1) (y : Int))) (w := c.wide + 1) (by omega)]
    refine sumTo_congr fun x _ => ?_
    dsimp only
    rw [hat, hat, hat, hat, ← hJ.x, show c.wide - 1 - ((x : Int) - 1) = c.wide + 1 - 1 - (x : Int) by omega, show c.wide - 1 - (x : Int) = c.wide + 1 - 1 - (x : Int) - 1 by omega]
  · have := h.flipX (t := t) hat
    rw [Int.sub_self, Int.sub_zero] at this
    rw [hw, hh]; exact this
  · rw [hw, hh] at h
    have := h.flipX (t := c) (w := c.wide) (fun x y => by rw [hat]; congr 1; omega)
    rw [Int.sub_self, Int.sub_zero] at this
    exact this
theorem turn_y {c t : Cut} (okc : OkC c) (okt : OkC t) (hw : t.wide = c.wide) (hh : t.high = c.high) (hat : ∀ x y, at2 t x y = at2 c x (c.high - 1 - y)) : Turn c t (fun p => (p.1, c.high - 1 - p.2)) (fun p => (p.1, c.high - 1 - p.2)) := by
  have hWH := WH_int okc
  have e : W t = W c ∧ H t = H c := by unfold W H; rw [hw, hh]; exact ⟨rfl, rfl⟩
  refine ⟨okc, okt, fun p => hat _ _, fun p => ?_, fun p => ?_, fun p q h => ?_, fun p q h => ?_, fun g p => ?_, fun g => ?_, fun J hJ => ?_, ⟨fun h => ?_, fun h => ?_⟩⟩
  · exact Prod.ext rfl (by dsimp only; omega)
  · exact Prod.ext rfl (by dsimp only; omega)
  · rw [around_iff] at *; dsimp only; omega
  · rw [around_iff] at *; dsimp only; omega
  · unfold fourS
    dsimp only
    rw [show c.high - 1 - (p.2 - 1) = c.high - 1 - p.2 + 1 by omega, show c.high - 1 - (p.2 + 1) = c.high - 1 - p.2 - 1 by omega]; omega
  · unfold overC
    rw [e.1, e.2]
    exact sumTo_revI (fun y => sumTo (fun x => g ((x : Int), y)) (W c)) hWH.2
  · unfold overJ overP cornA cornB cornF cornD
    rw [e.1, e.2]
    rw [← sumTo_revI (fun y => sumTo (fun x : Nat => J (at2 c ((x : Int) - 1) (y - 1)) (at2 c (x : Int) (y - 1)) (at2 c (x : Int) y) (at2 c ((x : Int) - 1) y)) (W c + 1)) (w := c.high + 1) (by omega)]
    refine sumTo_congr fun y _ => sumTo_congr fun x _ => ?_
    dsimp only
    rw [hat, hat, hat, hat, ← hJ.y, show c.high - 1 - ((y : Int) - 1) = c.high + 1 - 1 - (y : Int) by omega, show c.high - 1 - (y : Int) = c.high + 1 - 1 - (y : Int) - 1 by omega]
  · have := h.flipY (t := t) hat
    rw [Int.sub_self, Int.sub_zero] at this
    rw [hw, hh]; exact this
  · rw [hw, hh] at h
    have := h.flipY (t := c) (w := c.high) (fun x y => by rw [hat]; congr 1; omega)
    rw [Int.sub_self, Int.sub_zero] at this
    exact this
theorem turn_t {c t : Cut} (okc : OkC c) (okt : OkC t) (hw : t.wide = c.high) (hh : t.high = c.wide) (hat : ∀ x y, at2 t x y = at2 c y x) : Turn c t (fun p => (p.2, p.1)) (fun p => (p.2, p.1)) := by
  have hWH := WH_int okc
  have e : W t = H c ∧ H t = W c := by unfold W H; rw [hw, hh]; exact ⟨rfl, rfl⟩
  refine ⟨okc, okt, fun p => hat _ _, fun p => rfl, fun p => rfl, fun p q h => ?_, fun p q h => ?_, fun g p => ?_, fun g => ?_, fun J hJ => ?_, ⟨fun h => ?_, fun h => ?_⟩⟩
  · rw [around_iff] at *; dsimp only; omega
  · rw [around_iff] at *; dsimp only; omega
  · unfold fourS
    dsimp only
    omega
  · unfold overC
    rw [e.1, e.2]
    exact sumTo_swap (fun y x => g ((y : Int), (x : Int))) _ _
  · unfold overJ overP cornA cornB cornF cornD
    rw [e.1, e.2, sumTo_swap (fun y x : Nat => J (at2 t ((x : Int) - 1) ((y : Int) - 1)) (at2 t (x : Int) ((y : Int) - 1)) (at2 t (x : Int) (y : Int)) (at2 t ((x : Int) - 1) (y : Int)))]
    refine sumTo_congr fun y _ => sumTo_congr fun x _ => ?_
    dsimp only
    rw [hat, hat, hat, hat, ← hJ.t]
  · have := h.transp (t := t) hat
    rw [hw, hh]; exact this
  · rw [hw, hh] at h
    exact h.transp (t := c) (fun x y => (hat y x).symm)
end
section
open Go.RowKit
/-! The law's own function: turned. -/
def srcT (c : Cut) (how : Int) (x y : Int) : Int := if how = 2 then at2 c y x else if how = 1 then at2 c x (c.high - 1 - y) else at2 c (c.wide - 1 - x) y
def twT (c : Cut) (how : Int) : Int := if how = 2 then c.high else c.wide
def thT (c : Cut) (how : Int) : Int := if how = 2 then c.wide else c.high
def trn (c : Cut) (how : Int) (n : Nat) : List Int := (List.range n).map fun i => srcT c how ((i % (twT c how).toNat : Nat) : Int) ((i / (twT c how).toNat : Nat) : Int)
theorem trn_len (c : Cut) (how : Int) (n : Nat) : (trn c how n).length = n := by unfold trn; simp
theorem trn_add (c : Cut) (how : Int) {n x y : Nat} (hn : n = y * (twT c how).toNat + x) (hx : x < (twT c how).toNat) : trn c how (n + 1) = trn c how n ++ [srcT c how (x : Int) (y : Int)] := by
  have h1 : n % (twT c how).toNat = x := by rw [hn, Nat.add_comm, Nat.add_mul_mod_self_right, Nat.mod_eq_of_lt hx]
  have h2 : n / (twT c how).toNat = y := by rw [hn, Nat.add_comm, Nat.add_mul_div_right _ _ (by omega), Nat.div_eq_of_lt hx, Nat.zero_add]
  unfold trn
  rw [List.range_succ, List.map_append, List.map_singleton, h1, h2]
def turnS (c : Cut) (how : Int) (A : Option Addr) (cap : Nat) : Cut := ⟨twT c how, thT c how, trn c how ((thT c how).toNat * (twT c how).toNat), A, cap⟩
def RetTurn (c : Cut) (how : Int) (w : World) (e : Ending) (w' : World) : Prop := ∃ (t : Cut) (A : Option Addr) (cap : Nat), t = turnS c how A cap ∧ e = .returned (.agg #[.int .i64 t.wide, .int .i64 t.high, .slice t.A t.piece.length t.c]) ∧ CutAt w' w'.heap.size t ∧ Below w.heap.size w w'
theorem own_setT {w : World} {base b : Nat} {e : TypeId} {size : Nat} {v : Value} {n : Nat} {xs : List Value} (h : w.ownsRow base e size v n xs) (hb : b < base) (o : Nat) (u : Value) : (w.setCell ⟨b, o, none⟩ u).ownsRow base e size v n xs :=
  h.kept (row := some b) ⟨rfl, rfl, rfl, by rw [World.size_setCell]; exact Nat.le_refl _, fun i _ hi => blkSet (fun e => hi (by rw [e])) _ _⟩ (.inr (own_row_ne h hb))
theorem at_farT {α : Type} {W : World} {B size g : Nat} {cells : α → List Value} {A : Option Addr} {l : List α} (h : At W B size cells A l) (hg : ∀ b o, A = some ⟨b, o, none⟩ → b ≠ g) (vs : List Value) : At (setCells W g 0 vs) B size cells A l := fun k x hx => by
  obtain ⟨b, off, e, hb, hc⟩ := h k x hx
  exact ⟨b, off, e, hb, fun j u hu => (setCells_other g vs 0 W b _ (hg b off e)).trans (hc j u hu)⟩
theorem flat_icellT : ∀ l : List Int, l.flatMap icell = l.map (Value.int .i64)
  | [] => rfl
  | x :: l => by rw [List.flatMap_cons, flat_icellT l]; rfl
structure TR (c : Cut) (how wd hg : Int) (go B : Nat) (w W : World) (n : Nat) : Prop where
  ex : ∃ v, W.ownsRow B 3 1 v n ((trn c how n).map (Value.int .i64)) ∧ Bx W go [.int .i64 wd, .int .i64 hg, v]
  x0 : Bx W w.heap.size (cutL c)
  x1 : Bx W (w.heap.size + 1) [.int .i64 0, .int .i64 0, .slice none 0 0]
  b : Below w.heap.size w W
  z : B ≤ W.heap.size
theorem TR.next {c : Cut} {how wd hg : Int} {go B : Nat} {w W W' : World} {n : Nat} (h : TR c how wd hg go B w W n) (hb : Below W.heap.size W W') : TR c how wd hg go B w W' n := by
  obtain ⟨v, h1, h2⟩ := h.ex
  exact ⟨⟨v, own_below h1 hb, h2.next hb⟩, h.x0.next hb, h.x1.next hb, h.b.trans (hb.mono h.b.size), Nat.le_trans h.z hb.size⟩
theorem TR.step {c : Cut} {how wd hg : Int} {go B : Nat} {w wr : World} {n : Nat} (h : TR c how wd hg go B w wr n) (hl : w.heap.size + 1 < go) (hB : B = go + 1) {A : Option Addr} {cc : Nat} (hown : wr.ownsRow B 3 1 (.slice A n cc) n ((trn c how n).map (Value.int .i64))) (hox : Bx wr go [.int .i64 wd, .int .i64 hg, .slice A n cc])
    {y : Int} {g2 cap2 : Nat} {w2 : World} (hgr : (wr.alloc (.cells #[.int .i64 y] 3)).grownBy w2 (Value.slice A n cc).ownBlock) (ho : w2.ownsRow B 3 1 (.slice (some ⟨g2, 0, none⟩) (n + 1) cap2) (n + 1) ((trn c how (n + 1)).map (Value.int .i64))) :
    w2.cell? ⟨go, 2, none⟩ = some (.slice A n cc) ∧ w2.frozen? ⟨go, 2, none⟩ = false ∧ TR c how wd hg go B w (w2.setCell ⟨go, 2, none⟩ (.slice (some ⟨g2, 0, none⟩) (n + 1) cap2)) (n + 1) := by
  subst hB
  have hlo := hown.lt
  have hz := h.z
  have g1 := World.grownBy_alloc wr (.cells #[.int .i64 y] 3) none
  have kb : ∀ {b vs}, b ≤ go → Bx wr b vs → Bx w2 b vs := fun hb hx => (hx.gk g1 (fun r e => by cases e)).gk hgr (fun r e e' => by have := hlo r e; omega)
  have ox2 := kb (Nat.le_refl _) hox
  refine ⟨ox2.c 2 _ rfl, ox2.fr 2, ⟨⟨_, own_setT ho (by omega) _ _, ox2.set (k := 2) (by simp) _⟩, (kb (by omega) h.x0).other (by omega) _ _, (kb (by omega) h.x1).other (by omega) _ _, ((h.b.alloc h.b.size _).grown hgr (by have := h.b.size; simp; omega) (fun k hk => by have := hlo k hk; omega)).setCell (p := ⟨go, 2, none⟩) (by show w.heap.size ≤ go; omega) _, ?_⟩⟩
  rw [World.size_setCell]
  have := hgr.size
  simp at this
  omega
def trO : List (Option Nat) := [none, none, none, none, none, none, some 6, some 7, some 8, none, none, none, none, none, none, none, none, none, none, none, none, some 21, some 22, some 23, some 24, some 25, some 26, some 27, some 28, some 29, some 30, some 31, some 32, some 33, some 34, some 35, some 36, some 37, some 38, some 39, some 40, some 41, some 42, some 43, some 44, some 45, some 46, some 47, some 48, some 49, some 50, some 51, some 52, some 53, some 54, some 55, some 56, some 57, some 58, some 59, some 60, some 61, some 62, none]
def trI : List (Option Nat) := [none, none, none, none, none, none, none, some 7, some 8, none, none, none, none, none, none, none, none, none, none, none, none, none, none, none, none, none, none, some 27, some 28, some 29, some 30, some 31, some 32, some 33, some 34, some 35, some 36, some 37, some 38, some 39, some 40, some 41, some 42, some 43, some 44, some 45, some 46, some 47, some 48, some 49, some 50, some 51, some 52, some 53, some 54, some 55, some 56, some 57, some 58, some 59, some 60, some 61, some 62, none]
theorem turn_done {c : Cut} {how : Int} {w wr : World} {A : Option Addr} {cap : Nat} (hb : Below w.heap.size w wr) (hl : (thT c how).toNat * (twT c how).toNat ≤ 1000) (ha : At wr wr.heap.size 1 icell A (trn c how ((thT c how).toNat * (twT c how).toNat))) :
    RetTurn c how w (.returned (.agg #[.int .i64 (twT c how), .int .i64 (thT c how), .slice A ((thT c how).toNat * (twT c how).toNat) cap])) wr := by
  refine ⟨_, A, cap, rfl, ?_, ⟨ha, ?_⟩, hb⟩
  · unfold turnS
    simp only [trn_len]
  · show (trn c how _).length ≤ _
    rw [trn_len]; omega
set_option maxRecDepth 100000 in
set_option maxHeartbeats 4000000 in
theorem turned0_any (c : Cut) (w : World) (ok : OkC c) (hr : CutAt w w.heap.size c) : Calls Try.prog 36 #[.agg #[.int .i64 c.wide, .int .i64 c.high, .slice c.A c.piece.length c.c], .int .i64 0] w (RetTurn c 0 w) := by
  have hwd := ok.w
  have hhd := ok.h
  have OK := Lib.hid ok
  have HR := Lib.hid hr
  have n1 := nxA w (.cells #[.int .i64 c.wide, .int .i64 c.high, .slice c.A c.piece.length c.c] 24)
  have n2 := nxA (w.alloc (.cells #[.int .i64 c.wide, .int .i64 c.high, .slice c.A c.piece.length c.c] 24)) (.cells #[.int .i64 0, .int .i64 0, .slice none 0 0] 24)
  have HX0 := Lib.hid ((Bx.new w #[.int .i64 c.wide, .int .i64 c.high, .slice c.A c.piece.length c.c] 24).next n2)
  have HY0 := Lib.hid (Bx.new (w.alloc (.cells #[.int .i64 c.wide, .int .i64 c.high, .slice c.A c.piece.length c.c] 24)) #[.int .i64 0, .int .i64 0, .slice none 0 0] 24)
  have HB0 := Lib.hid (n1.trans (n2.mono n1.size))
  simp only [World.size_alloc] at HY0
  clear hr ok n1 n2
  obtain ⟨i0, hi0, hz0, hz1, hz2⟩ := info_parts int_info
  go_enter Try.func36, Try.ntmps36
  go_upto_region 1 with fail
  generalize (w.alloc (.cells #[.int .i64 c.wide, .int .i64 c.high, .slice c.A c.piece.length c.c] 24)).alloc (.cells #[.int .i64 0, .int .i64 0, .slice none 0 0] 24) = V at *
  have c0 := HX0.out.c 0 _ rfl
  have c1 := HX0.out.c 1 _ rfl
  have c2 := HX0.out.c 2 _ rfl
  have hn := nxA V (.cells #[.int .i64 c.wide, .int .i64 c.high, .slice none 0 0] 24)
  have hxo := Bx.new V #[.int .i64 c.wide, .int .i64 c.high, .slice none 0 0] 24
  have HLT := Lib.hid (show w.heap.size + 1 < V.heap.size from HY0.out.lt)
  go_upto_region 2 with fail
  obtain ⟨go, hgo⟩ : ∃ go, go = V.heap.size := ⟨_, rfl⟩
  rw [← hgo] at HLT hxo ⊢
  have HX1 := Lib.hid (HX0.out.next hn)
  have HY1 := Lib.hid (HY0.out.next hn)
  have HB1 := Lib.hid (HB0.out.trans (hn.mono HB0.out.size))
  have HO1 := Lib.hid hxo
  have HZ1 := Lib.hid (show go + 1 ≤ (V.alloc (.cells #[.int .i64 c.wide, .int .i64 c.high, .slice none 0 0] 24)).heap.size from by simp [hgo])
  clear c0 c1 c2 hn hxo hgo HX0 HY0 HB0
  generalize V.alloc (.cells #[.int .i64 c.wide, .int .i64 c.high, .slice none 0 0] 24) = V1 at *
  obtain ⟨wd, hwde⟩ : ∃ x, x = twT c 0 := ⟨_, rfl⟩
  obtain ⟨hg, hhge⟩ : ∃ x, x = thT c 0 := ⟨_, rfl⟩
  have hwb : 1 ≤ wd ∧ wd ≤ 12 := by rw [hwde]; unfold twT; rw [if_neg (by decide)]; omega
  have hhb : 1 ≤ hg ∧ hg ≤ 12 := by rw [hhge]; unfold thT; rw [if_neg (by decide)]; omega
  have HT := Lib.hid (show TR c 0 wd hg go (go + 1) w V1 0 from ⟨⟨.slice none 0 0, World.ownsRow_nil _ _ _ _, by rw [hwde, hhge]; unfold twT thT; rw [if_neg (by decide), if_neg (by decide)]; exact HO1.out⟩, HX1.out, HY1.out, HB1.out, HZ1.out⟩)
  go_upto_region 5 with fail
  have HWD := Lib.hid hwde
  have HHG := Lib.hid hhge
  clear hwde hhge
  obtain ⟨tw, htw⟩ : ∃ n : Nat, (n : Int) = wd := ⟨wd.toNat, by omega⟩
  obtain ⟨th, hth⟩ : ∃ n : Nat, (n : Int) = hg := ⟨hg.toNat, by omega⟩
  have HTW := Lib.hid (show (twT c 0).toNat = tw from by rw [← HWD.out]; omega)
  have HTH := Lib.hid (show (thT c 0).toNat = th from by rw [← HHG.out]; omega)
  have HTI := Lib.hid (show (tw : Int) = wd ∧ (th : Int) = hg from ⟨htw, hth⟩)
  clear htw hth
  refine wp_loopM trO (fun f V => ∃ y : Nat, y ≤ th ∧ f 6 = .int .i64 (y : Int) ∧ TR c 0 wd hg go (go + 1) w V (y * tw)) (fun f _ => th - (intOf (f 6)).toNat) (by kernel_rfl) ⟨0, by omega, slotF_at rfl, by rw [Nat.zero_mul]; exact HT.out⟩ ?_
  clear HT
  intro f W1 hrel
  obtain ⟨y, hy, e6, ht⟩ := hrel
  simp only [trO, mixF, e6]
  have HE6 := Lib.hid e6
  have HT := Lib.hid ht
  obtain ⟨v, hown, hox⟩ := ht.ex
  have o0 := hox.c 0 _ rfl
  have o1 := hox.c 1 _ rfl
  have HOX := Lib.hid hox
  have HOWN := Lib.hid hown
  have hti := HTI.out
  clear e6 ht hox hown
  by_cases hyt : y < th
  · have hyI : (y : Int) < hg := by omega
    have hw1 : IntKind.i64.wrap ((y : Int) + 1) = (y : Int) + 1 := IntWalk.i64_in _ (by omega)
    have HMU := Lib.hid (show th - (y + 1) < th - y from by omega)
    clear hti
    go_wp2_with fail
    refine wp_loopM trI (fun f V => ∃ x : Nat, x ≤ tw ∧ f 7 = .int .i64 (x : Int) ∧ TR c 0 wd hg go (go + 1) w V (y * tw + x)) (fun f _ => tw - (intOf (f 7)).toNat) (by kernel_rfl) ⟨0, by omega, slotF_at rfl, HT.out⟩ ?_
    clear HT o0 o1 HOX HOWN
    intro f2 W2 hrel
    obtain ⟨x, hx, e7, ht⟩ := hrel
    simp only [trI, mixF, e7]
    have HE7 := Lib.hid e7
    have HT := Lib.hid ht
    obtain ⟨v, hown, hox⟩ := ht.ex
    have o0 := hox.c 0 _ rfl
    have hti := HTI.out
    clear e7 ht
    by_cases hxt : x < tw
    · have hxI : (x : Int) < wd := by omega
      have HMU2 := Lib.hid (show tw - (x + 1) < tw - x from by omega)
      have hw2 : IntKind.i64.wrap ((x : Int) + 1) = (x : Int) + 1 := IntWalk.i64_in _ (by omega)
      have hw3 : IntKind.i64.wrap (c.wide - 1) = c.wide - 1 := IntWalk.i64_in _ (by omega)
      have hw4 : IntKind.i64.wrap (c.wide - 1 - (x : Int)) = c.wide - 1 - (x : Int) := IntWalk.i64_in _ (by omega)
      have hw5 : IntKind.i64.wrap (c.high - 1) = c.high - 1 := IntWalk.i64_in _ (by omega)
      have hw6 : IntKind.i64.wrap (c.high - 1 - (y : Int)) = c.high - 1 - (y : Int) := IntWalk.i64_in _ (by omega)
      have HADD := Lib.hid (show trn c 0 (y * tw + x + 1) = trn c 0 (y * tw + x) ++ [srcT c 0 (x : Int) (y : Int)] from trn_add c 0 (by rw [HTW.out]) (by rw [HTW.out]; exact hxt))
      have hnn : y * tw + x ≤ 200 := by
        have h1 : y * tw ≤ 12 * 12 := Nat.mul_le_mul (by omega) (by omega)
        omega
      have c0 := HT.out.x0.c 0 _ rfl
      have c1 := HT.out.x0.c 1 _ rfl
      have c2 := HT.out.x0.c 2 _ rfl
      clear hown hox hti
      go_wp2_with fail
      refine (At_any c (c.wide - 1 - (x : Int)) (y : Int) _ OK.out (HR.out.next HT.out.b)).mono ?_
      rintro e W3 ⟨rfl, hb⟩
      replace HT := Lib.hid (HT.out.next hb)
      clear hb c0 c1 c2 o0
      obtain ⟨s, hs⟩ : ∃ s, s = at2 c (c.wide - 1 - (x : Int)) (y : Int) := ⟨_, rfl⟩
      rw [← hs]
      have HS := Lib.hid (show srcT c 0 (x : Int) (y : Int) = s from by rw [hs]; unfold srcT; rw [if_neg (by decide), if_neg (by decide)])
      clear hs
      go_upto_region 15 with fail
      obtain ⟨v, hown, hox⟩ := HT.out.ex
      obtain ⟨A, cc, rfl, -⟩ := own_form hown
      have o2 := hox.c 2 _ rfl
      have HOX := Lib.hid hox
      have HOWN := Lib.hid hown
      clear hox
      go_wp2_with (at_builtin; refine wpList_append_own _ rfl (.tmp 58) (.tmp 60) 22 rfl (go + 1) 3 i0 (.int .i64 0) 1 8 Try.underlying22 hi0 hz0 hz1 hz2 rfl (by decide) _ _ _ rfl (hown.alloc _) ⟨W3.heap.size, 0, none⟩ 1 1 [.int .i64 s] rfl rfl (cell_one_new _ _ _) (by simp [Value.oneCell']) (by unfold maxLen; omega) (by omega) (by have := HT.out.z; simp; omega) ?_; intro v2 w2 hown' hgrow _; obtain ⟨g2, cap2, rfl⟩ := ownsRow_succ hown'; have hstep := HT.out.step HLT.out rfl HOWN.out HOX.out hgrow (by rw [HADD.out, HS.out, List.map_append]; exact hown'); have o2' := hstep.1; have f2' := hstep.2.1; have HFIN := Lib.hid hstep.2.2; clear hstep hgrow hown' hown)
      refine endM (by kernel_rfl) (by kernel_rfl) ⟨x + 1, by omega, slotF_at rfl, HFIN.out⟩ ?_
      show tw - (intOf (slotF _ 7)).toNat < tw - (intOf (f2 7)).toNat
      rw [slotF_at rfl, HE7.out]
      have := HMU2.out
      simp [intOf]
      omega
    · have hxI : ¬ (x : Int) < wd := by omega
      have HT2 := Lib.hid (show TR c 0 wd hg go (go + 1) w W2 ((y + 1) * tw) from by
        have h1 : (y + 1) * tw = y * tw + x := by rw [Nat.add_mul, Nat.one_mul]; omega
        rw [h1]; exact HT.out)
      clear hti hown hox
      go_wp2_with fail
      refine endM (by kernel_rfl) (by kernel_rfl) ⟨y + 1, by omega, slotF_at rfl, HT2.out⟩ ?_
      show th - (intOf (slotF _ 6)).toNat < th - (intOf (f 6)).toNat
      rw [slotF_at rfl, HE6.out]
      have := HMU.out
      simp [intOf]
      omega
  · have hyI : ¬ (y : Int) < hg := by omega
    obtain rfl : y = th := by omega
    have hown := HOWN.out
    have hox := HOX.out
    obtain ⟨A, cc, rfl, -⟩ := own_form hown
    have hat : At W1 W1.heap.size 1 icell A (trn c 0 (y * tw)) := by
      rw [← flat_icellT] at hown
      obtain ⟨A2, cc2, e1, h8⟩ := own_at (cells := icell) (size := 1) (fun _ => rfl) (by omega) (by rw [trn_len]; exact hown)
      injection e1 with e1
      rw [e1]; exact h8
    have HAT := Lib.hid hat
    have x1 := HT.out.x1
    have f0 := x1.fr 0
    have f1 := x1.fr 1
    have f2 := x1.fr 2
    have d0 := x1.c 0 _ rfl
    have d1 := x1.c 1 _ rfl
    have d2 := x1.c 2 _ rfl
    have o0 := hox.c 0 _ rfl
    have o1 := hox.c 1 _ rfl
    have o2 := hox.c 2 _ rfl
    have HRES := Lib.hid (loadC (x1.setAll [.int .i64 wd, .int .i64 hg, .slice A (y * tw) cc] rfl))
    clear hat hown hox x1 hti
    go_wp2_with fail
    ((try simp only [Exit.inBlock, Exit.then]); refine bodyPost_ret (results_cell1 rfl rfl HRES.out) rfl ?_)
    have hyt : y * tw = (thT c 0).toNat * (twT c 0).toNat := by rw [HTW.out, HTH.out]
    have hle : (thT c 0).toNat * (twT c 0).toNat ≤ 1000 := by
      have h1 := HTI.out
      rw [HTW.out, HTH.out]
      have := Nat.mul_le_mul (show y ≤ 12 by omega) (show tw ≤ 12 by omega)
      omega
    rw [HWD.out, HHG.out, hyt]
    have hsz := setCells_size (w.heap.size + 1) [.int .i64 (twT c 0), .int .i64 (thT c 0), .slice A ((thT c 0).toNat * (twT c 0).toNat) cc] 0 W1
    have hak := at_farT HAT.out (g := w.heap.size + 1) (fun b o e => by
      have := HOWN.out.lt b (by rw [e]; rfl)
      have := HLT.out
      omega) [.int .i64 (twT c 0), .int .i64 (thT c 0), .slice A ((thT c 0).toNat * (twT c 0).toNat) cc]
    rw [hyt] at hak
    exact turn_done (below_setCells (b := w.heap.size + 1) (B := w.heap.size) (by omega) [.int .i64 (twT c 0), .int .i64 (thT c 0), .slice A ((thT c 0).toNat * (twT c 0).toNat) cc] 0 HT.out.b) hle (hak.more (Nat.le_of_eq hsz.symm))
set_option maxRecDepth 100000 in
set_option maxHeartbeats 4000000 in
theorem turned1_any (c : Cut) (w : World) (ok : OkC c) (hr : CutAt w w.heap.size c) : Calls Try.prog 36 #[.agg #[.int .i64 c.wide, .int .i64 c.high, .slice c.A c.piece.length c.c], .int .i64 1] w (RetTurn c 1 w) := by
  have hwd := ok.w
  have hhd := ok.h
  have OK := Lib.hid ok
  have HR := Lib.hid hr
  have n1 := nxA w (.cells #[.int .i64 c.wide, .int .i64 c.high, .slice c.A c.piece.length c.c] 24)
  have n2 := nxA (w.alloc (.cells #[.int .i64 c.wide, .int .i64 c.high, .slice c.A c.piece.length c.c] 24)) (.cells #[.int .i64 0, .int .i64 0, .slice none 0 0] 24)
  have HX0 := Lib.hid ((Bx.new w #[.int .i64 c.wide, .int .i64 c.high, .slice c.A c.piece.length c.c] 24).next n2)
  have HY0 := Lib.hid (Bx.new (w.alloc (.cells #[.int .i64 c.wide, .int .i64 c.high, .slice c.A c.piece.length c.c] 24)) #[.int .i64 0, .int .i64 0, .slice none 0 0] 24)
  have HB0 := Lib.hid (n1.trans (n2.mono n1.size))
  simp only [World.size_alloc] at HY0
  clear hr ok n1 n2
  obtain ⟨i0, hi0, hz0, hz1, hz2⟩ := info_parts int_info
  go_enter Try.func36, Try.ntmps36
  go_upto_region 1 with fail
  generalize (w.alloc (.cells #[.int .i64 c.wide, .int .i64 c.high, .slice c.A c.piece.length c.c] 24)).alloc (.cells #[.int .i64 0, .int .i64 0, .slice none 0 0] 24) = V at *
  have c0 := HX0.out.c 0 _ rfl
  have c1 := HX0.out.c 1 _ rfl
  have c2 := HX0.out.c 2 _ rfl
  have hn := nxA V (.cells #[.int .i64 c.wide, .int .i64 c.high, .slice none 0 0] 24)
  have hxo := Bx.new V #[.int .i64 c.wide, .int .i64 c.high, .slice none 0 0] 24
  have HLT := Lib.hid (show w.heap.size + 1 < V.heap.size from HY0.out.lt)
  go_upto_region 2 with fail
  obtain ⟨go, hgo⟩ : ∃ go, go = V.heap.size := ⟨_, rfl⟩
  rw [← hgo] at HLT hxo ⊢
  have HX1 := Lib.hid (HX0.out.next hn)
  have HY1 := Lib.hid (HY0.out.next hn)
  have HB1 := Lib.hid (HB0.out.trans (hn.mono HB0.out.size))
  have HO1 := Lib.hid hxo
  have HZ1 := Lib.hid (show go + 1 ≤ (V.alloc (.cells #[.int .i64 c.wide, .int .i64 c.high, .slice none 0 0] 24)).heap.size from by simp [hgo])
  clear c0 c1 c2 hn hxo hgo HX0 HY0 HB0
  generalize V.alloc (.cells #[.int .i64 c.wide, .int .i64 c.high, .slice none 0 0] 24) = V1 at *
  obtain ⟨wd, hwde⟩ : ∃ x, x = twT c 1 := ⟨_, rfl⟩
  obtain ⟨hg, hhge⟩ : ∃ x, x = thT c 1 := ⟨_, rfl⟩
  have hwb : 1 ≤ wd ∧ wd ≤ 12 := by rw [hwde]; unfold twT; rw [if_neg (by decide)]; omega
  have hhb : 1 ≤ hg ∧ hg ≤ 12 := by rw [hhge]; unfold thT; rw [if_neg (by decide)]; omega
  have HT := Lib.hid (show TR c 1 wd hg go (go + 1) w V1 0 from ⟨⟨.slice none 0 0, World.ownsRow_nil _ _ _ _, by rw [hwde, hhge]; unfold twT thT; rw [if_neg (by decide), if_neg (by decide)]; exact HO1.out⟩, HX1.out, HY1.out, HB1.out, HZ1.out⟩)
  go_upto_region 5 with fail
  have HWD := Lib.hid hwde
  have HHG := Lib.hid hhge
  clear hwde hhge
  obtain ⟨tw, htw⟩ : ∃ n : Nat, (n : Int) = wd := ⟨wd.toNat, by omega⟩
  obtain ⟨th, hth⟩ : ∃ n : Nat, (n : Int) = hg := ⟨hg.toNat, by omega⟩
  have HTW := Lib.hid (show (twT c 1).toNat = tw from by rw [← HWD.out]; omega)
  have HTH := Lib.hid (show (thT c 1).toNat = th from by rw [← HHG.out]; omega)
  have HTI := Lib.hid (show (tw : Int) = wd ∧ (th : Int) = hg from ⟨htw, hth⟩)
  clear htw hth
  refine wp_loopM trO (fun f V => ∃ y : Nat, y ≤ th ∧ f 6 = .int .i64 (y : Int) ∧ TR c 1 wd hg go (go + 1) w V (y * tw)) (fun f _ => th - (intOf (f 6)).toNat) (by kernel_rfl) ⟨0, by omega, slotF_at rfl, by rw [Nat.zero_mul]; exact HT.out⟩ ?_
  clear HT
  intro f W1 hrel
  obtain ⟨y, hy, e6, ht⟩ := hrel
  simp only [trO, mixF, e6]
  have HE6 := Lib.hid e6
  have HT := Lib.hid ht
  obtain ⟨v, hown, hox⟩ := ht.ex
  have o0 := hox.c 0 _ rfl
  have o1 := hox.c 1 _ rfl
  have HOX := Lib.hid hox
  have HOWN := Lib.hid hown
  have hti := HTI.out
  clear e6 ht hox hown
  by_cases hyt : y < th
  · have hyI : (y : Int) < hg := by omega
    have hw1 : IntKind.i64.wrap ((y : Int) + 1) = (y : Int) + 1 := IntWalk.i64_in _ (by omega)
    have HMU := Lib.hid (show th - (y + 1) < th - y from by omega)
    clear hti
    go_wp2_with fail
    refine wp_loopM trI (fun f V => ∃ x : Nat, x ≤ tw ∧ f 7 = .int .i64 (x : Int) ∧ TR c 1 wd hg go (go + 1) w V (y * tw + x)) (fun f _ => tw - (intOf (f 7)).toNat) (by kernel_rfl) ⟨0, by omega, slotF_at rfl, HT.out⟩ ?_
    clear HT o0 o1 HOX HOWN
    intro f2 W2 hrel
    obtain ⟨x, hx, e7, ht⟩ := hrel
    simp only [trI, mixF, e7]
    have HE7 := Lib.hid e7
    have HT := Lib.hid ht
    obtain ⟨v, hown, hox⟩ := ht.ex
    have o0 := hox.c 0 _ rfl
    have hti := HTI.out
    clear e7 ht
    by_cases hxt : x < tw
    · have hxI : (x : Int) < wd := by omega
      have HMU2 := Lib.hid (show tw - (x + 1) < tw - x from by omega)
      have hw2 : IntKind.i64.wrap ((x : Int) + 1) = (x : Int) + 1 := IntWalk.i64_in _ (by omega)
      have hw3 : IntKind.i64.wrap (c.wide - 1) = c.wide - 1 := IntWalk.i64_in _ (by omega)
      have hw4 : IntKind.i64.wrap (c.wide - 1 - (x : Int)) = c.wide - 1 - (x : Int) := IntWalk.i64_in _ (by omega)
      have hw5 : IntKind.i64.wrap (c.high - 1) = c.high - 1 := IntWalk.i64_in _ (by omega)
      have hw6 : IntKind.i64.wrap (c.high - 1 - (y : Int)) = c.high - 1 - (y : Int) := IntWalk.i64_in _ (by omega)
      have HADD := Lib.hid (show trn c 1 (y * tw + x + 1) = trn c 1 (y * tw + x) ++ [srcT c 1 (x : Int) (y : Int)] from trn_add c 1 (by rw [HTW.out]) (by rw [HTW.out]; exact hxt))
      have hnn : y * tw + x ≤ 200 := by
        have h1 : y * tw ≤ 12 * 12 := Nat.mul_le_mul (by omega) (by omega)
        omega
      have c0 := HT.out.x0.c 0 _ rfl
      have c1 := HT.out.x0.c 1 _ rfl
      have c2 := HT.out.x0.c 2 _ rfl
      clear hown hox hti
      go_wp2_with fail
      refine (At_any c (c.wide - 1 - (x : Int)) (y : Int) _ OK.out (HR.out.next HT.out.b)).mono ?_
      rintro e W3 ⟨rfl, hb⟩
      replace HT := Lib.hid (HT.out.next hb)
      clear hb c0 c1 c2 o0
      have c0 := HT.out.x0.c 0 _ rfl
      have c1 := HT.out.x0.c 1 _ rfl
      have c2 := HT.out.x0.c 2 _ rfl
      obtain ⟨s0, hs0⟩ : ∃ s, s = at2 c (c.wide - 1 - (x : Int)) (y : Int) := ⟨_, rfl⟩
      rw [← hs0]
      clear hs0
      go_wp2_with fail
      refine (At_any c (x : Int) (c.high - 1 - (y : Int)) _ OK.out (HR.out.next HT.out.b)).mono ?_
      rintro e W4 ⟨rfl, hb⟩
      replace HT := Lib.hid (HT.out.next hb)
      clear hb c0 c1 c2
      obtain ⟨s, hs⟩ : ∃ s, s = at2 c (x : Int) (c.high - 1 - (y : Int)) := ⟨_, rfl⟩
      rw [← hs]
      have HS := Lib.hid (show srcT c 1 (x : Int) (y : Int) = s from by rw [hs]; unfold srcT; rw [if_neg (by decide), if_pos rfl])
      clear hs
      go_upto_region 15 with fail
      obtain ⟨v, hown, hox⟩ := HT.out.ex
      obtain ⟨A, cc, rfl, -⟩ := own_form hown
      have o2 := hox.c 2 _ rfl
      have HOX := Lib.hid hox
      have HOWN := Lib.hid hown
      clear hox
      go_wp2_with (at_builtin; refine wpList_append_own _ rfl (.tmp 58) (.tmp 60) 22 rfl (go + 1) 3 i0 (.int .i64 0) 1 8 Try.underlying22 hi0 hz0 hz1 hz2 rfl (by decide) _ _ _ rfl (hown.alloc _) ⟨W4.heap.size, 0, none⟩ 1 1 [.int .i64 s] rfl rfl (cell_one_new _ _ _) (by simp [Value.oneCell']) (by unfold maxLen; omega) (by omega) (by have := HT.out.z; simp; omega) ?_; intro v2 w2 hown' hgrow _; obtain ⟨g2, cap2, rfl⟩ := ownsRow_succ hown'; have hstep := HT.out.step HLT.out rfl HOWN.out HOX.out hgrow (by rw [HADD.out, HS.out, List.map_append]; exact hown'); have o2' := hstep.1; have f2' := hstep.2.1; have HFIN := Lib.hid hstep.2.2; clear hstep hgrow hown' hown)
      refine endM (by kernel_rfl) (by kernel_rfl) ⟨x + 1, by omega, slotF_at rfl, HFIN.out⟩ ?_
      show tw - (intOf (slotF _ 7)).toNat < tw - (intOf (f2 7)).toNat
      rw [slotF_at rfl, HE7.out]
      have := HMU2.out
      simp [intOf]
      omega
    · have hxI : ¬ (x : Int) < wd := by omega
      have HT2 := Lib.hid (show TR c 1 wd hg go (go + 1) w W2 ((y + 1) * tw) from by
        have h1 : (y + 1) * tw = y * tw + x := by rw [Nat.add_mul, Nat.one_mul]; omega
        rw [h1]; exact HT.out)
      clear hti hown hox
      go_wp2_with fail
      refine endM (by kernel_rfl) (by kernel_rfl) ⟨y + 1, by omega, slotF_at rfl, HT2.out⟩ ?_
      show th - (intOf (slotF _ 6)).toNat < th - (intOf (f 6)).toNat
      rw [slotF_at rfl, HE6.out]
      have := HMU.out
      simp [intOf]
      omega
  · have hyI : ¬ (y : Int) < hg := by omega
    obtain rfl : y = th := by omega
    have hown := HOWN.out
    have hox := HOX.out
    obtain ⟨A, cc, rfl, -⟩ := own_form hown
    have hat : At W1 W1.heap.size 1 icell A (trn c 1 (y * tw)) := by
      rw [← flat_icellT] at hown
      obtain ⟨A2, cc2, e1, h8⟩ := own_at (cells := icell) (size := 1) (fun _ => rfl) (by omega) (by rw [trn_len]; exact hown)
      injection e1 with e1
      rw [e1]; exact h8
    have HAT := Lib.hid hat
    have x1 := HT.out.x1
    have f0 := x1.fr 0
    have f1 := x1.fr 1
    have f2 := x1.fr 2
    have d0 := x1.c 0 _ rfl
    have d1 := x1.c 1 _ rfl
    have d2 := x1.c 2 _ rfl
    have o0 := hox.c 0 _ rfl
    have o1 := hox.c 1 _ rfl
    have o2 := hox.c 2 _ rfl
    have HRES := Lib.hid (loadC (x1.setAll [.int .i64 wd, .int .i64 hg, .slice A (y * tw) cc] rfl))
    clear hat hown hox x1 hti
    go_wp2_with fail
    ((try simp only [Exit.inBlock, Exit.then]); refine bodyPost_ret (results_cell1 rfl rfl HRES.out) rfl ?_)
    have hyt : y * tw = (thT c 1).toNat * (twT c 1).toNat := by rw [HTW.out, HTH.out]
    have hle : (thT c 1).toNat * (twT c 1).toNat ≤ 1000 := by
      have h1 := HTI.out
      rw [HTW.out, HTH.out]
      have := Nat.mul_le_mul (show y ≤ 12 by omega) (show tw ≤ 12 by omega)
      omega
    rw [HWD.out, HHG.out, hyt]
    have hsz := setCells_size (w.heap.size + 1) [.int .i64 (twT c 1), .int .i64 (thT c 1), .slice A ((thT c 1).toNat * (twT c 1).toNat) cc] 0 W1
    have hak := at_farT HAT.out (g := w.heap.size + 1) (fun b o e => by
      have := HOWN.out.lt b (by rw [e]; rfl)
      have := HLT.out
      omega) [.int .i64 (twT c 1), .int .i64 (thT c 1), .slice A ((thT c 1).toNat * (twT c 1).toNat) cc]
    rw [hyt] at hak
    exact turn_done (below_setCells (b := w.heap.size + 1) (B := w.heap.size) (by omega) [.int .i64 (twT c 1), .int .i64 (thT c 1), .slice A ((thT c 1).toNat * (twT c 1).toNat) cc] 0 HT.out.b) hle (hak.more (Nat.le_of_eq hsz.symm))
set_option maxRecDepth 100000 in
set_option maxHeartbeats 4000000 in
theorem turned2_any (c : Cut) (w : World) (ok : OkC c) (hr : CutAt w w.heap.size c) : Calls Try.prog 36 #[.agg #[.int .i64 c.wide, .int .i64 c.high, .slice c.A c.piece.length c.c], .int .i64 2] w (RetTurn c 2 w) := by
  have hwd := ok.w
  have hhd := ok.h
  have OK := Lib.hid ok
  have HR := Lib.hid hr
  have n1 := nxA w (.cells #[.int .i64 c.wide, .int .i64 c.high, .slice c.A c.piece.length c.c] 24)
  have n2 := nxA (w.alloc (.cells #[.int .i64 c.wide, .int .i64 c.high, .slice c.A c.piece.length c.c] 24)) (.cells #[.int .i64 0, .int .i64 0, .slice none 0 0] 24)
  have HX0 := Lib.hid ((Bx.new w #[.int .i64 c.wide, .int .i64 c.high, .slice c.A c.piece.length c.c] 24).next n2)
  have HY0 := Lib.hid (Bx.new (w.alloc (.cells #[.int .i64 c.wide, .int .i64 c.high, .slice c.A c.piece.length c.c] 24)) #[.int .i64 0, .int .i64 0, .slice none 0 0] 24)
  have HB0 := Lib.hid (n1.trans (n2.mono n1.size))
  simp only [World.size_alloc] at HY0
  clear hr ok n1 n2
  obtain ⟨i0, hi0, hz0, hz1, hz2⟩ := info_parts int_info
  go_enter Try.func36, Try.ntmps36
  go_upto_region 1 with fail
  generalize (w.alloc (.cells #[.int .i64 c.wide, .int .i64 c.high, .slice c.A c.piece.length c.c] 24)).alloc (.cells #[.int .i64 0, .int .i64 0, .slice none 0 0] 24) = V at *
  have c0 := HX0.out.c 0 _ rfl
  have c1 := HX0.out.c 1 _ rfl
  have c2 := HX0.out.c 2 _ rfl
  have hn := nxA V (.cells #[.int .i64 c.wide, .int .i64 c.high, .slice none 0 0] 24)
  have hxo := Bx.new V #[.int .i64 c.wide, .int .i64 c.high, .slice none 0 0] 24
  have HLT := Lib.hid (show w.heap.size + 1 < V.heap.size from HY0.out.lt)
  go_upto_region 2 with fail
  obtain ⟨go, hgo⟩ : ∃ go, go = V.heap.size := ⟨_, rfl⟩
  rw [← hgo] at HLT hxo ⊢
  have HX1 := Lib.hid (HX0.out.next hn)
  have HY1 := Lib.hid (HY0.out.next hn)
  have HB1 := Lib.hid (HB0.out.trans (hn.mono HB0.out.size))
  have HO1 := Lib.hid hxo
  have HZ1 := Lib.hid (show go + 1 ≤ (V.alloc (.cells #[.int .i64 c.wide, .int .i64 c.high, .slice none 0 0] 24)).heap.size from by simp [hgo])
  clear c0 c1 c2 hn hxo hgo HX0 HY0 HB0
  generalize V.alloc (.cells #[.int .i64 c.wide, .int .i64 c.high, .slice none 0 0] 24) = V1 at *
  obtain ⟨wd, hwde⟩ : ∃ x, x = twT c 2 := ⟨_, rfl⟩
  obtain ⟨hg, hhge⟩ : ∃ x, x = thT c 2 := ⟨_, rfl⟩
  have hwb : 1 ≤ wd ∧ wd ≤ 12 := by rw [hwde]; unfold twT; rw [if_pos rfl]; omega
  have hhb : 1 ≤ hg ∧ hg ≤ 12 := by rw [hhge]; unfold thT; rw [if_pos rfl]; omega
  have c0 := HX1.out.c 0 _ rfl
  have c1 := HX1.out.c 1 _ rfl
  have p0 := HO1.out.fr 0
  have p1 := HO1.out.fr 1
  have p2 := HO1.out.fr 2
  have q0 := HO1.out.c 0 _ rfl
  have q1 := HO1.out.c 1 _ rfl
  have q2 := HO1.out.c 2 _ rfl
  have hset := HO1.out.setAll [.int .i64 c.high, .int .i64 c.wide, .slice none 0 0] rfl
  have HT := Lib.hid (show TR c 2 wd hg go (go + 1) w (setCells V1 go 0 [.int .i64 c.high, .int .i64 c.wide, .slice none 0 0]) 0 from ⟨⟨.slice none 0 0, World.ownsRow_nil _ _ _ _, by rw [hwde, hhge]; unfold twT thT; rw [if_pos rfl, if_pos rfl]; exact hset⟩, HX1.out.setOther (by have := HLT.out; omega) _ _, HY1.out.setOther (by have := HLT.out; omega) _ _, below_setCells (b := go) (B := w.heap.size) (by have := HLT.out; omega) _ 0 HB1.out, by rw [setCells_size]; exact HZ1.out⟩)
  clear hset
  go_upto_region 5 with fail
  clear p0 p1 p2 q0 q1 q2 c0 c1
  have HWD := Lib.hid hwde
  have HHG := Lib.hid hhge
  clear hwde hhge
  obtain ⟨tw, htw⟩ : ∃ n : Nat, (n : Int) = wd := ⟨wd.toNat, by omega⟩
  obtain ⟨th, hth⟩ : ∃ n : Nat, (n : Int) = hg := ⟨hg.toNat, by omega⟩
  have HTW := Lib.hid (show (twT c 2).toNat = tw from by rw [← HWD.out]; omega)
  have HTH := Lib.hid (show (thT c 2).toNat = th from by rw [← HHG.out]; omega)
  have HTI := Lib.hid (show (tw : Int) = wd ∧ (th : Int) = hg from ⟨htw, hth⟩)
  clear htw hth
  refine wp_loopM trO (fun f V => ∃ y : Nat, y ≤ th ∧ f 6 = .int .i64 (y : Int) ∧ TR c 2 wd hg go (go + 1) w V (y * tw)) (fun f _ => th - (intOf (f 6)).toNat) (by kernel_rfl) ⟨0, by omega, slotF_at rfl, by rw [Nat.zero_mul]; exact HT.out⟩ ?_
  clear HT
  intro f W1 hrel
  obtain ⟨y, hy, e6, ht⟩ := hrel
  simp only [trO, mixF, e6]
  have HE6 := Lib.hid e6
  have HT := Lib.hid ht
  obtain ⟨v, hown, hox⟩ := ht.ex
  have o0 := hox.c 0 _ rfl
  have o1 := hox.c 1 _ rfl
  have HOX := Lib.hid hox
  have HOWN := Lib.hid hown
  have hti := HTI.out
  clear e6 ht hox hown
  by_cases hyt : y < th
  · have hyI : (y : Int) < hg := by omega
    have hw1 : IntKind.i64.wrap ((y : Int) + 1) = (y : Int) + 1 := IntWalk.i64_in _ (by omega)
    have HMU := Lib.hid (show th - (y + 1) < th - y from by omega)
    clear hti
    go_wp2_with fail
    refine wp_loopM trI (fun f V => ∃ x : Nat, x ≤ tw ∧ f 7 = .int .i64 (x : Int) ∧ TR c 2 wd hg go (go + 1) w V (y * tw + x)) (fun f _ => tw - (intOf (f 7)).toNat) (by kernel_rfl) ⟨0, by omega, slotF_at rfl, HT.out⟩ ?_
    clear HT o0 o1 HOX HOWN
    intro f2 W2 hrel
    obtain ⟨x, hx, e7, ht⟩ := hrel
    simp only [trI, mixF, e7]
    have HE7 := Lib.hid e7
    have HT := Lib.hid ht
    obtain ⟨v, hown, hox⟩ := ht.ex
    have o0 := hox.c 0 _ rfl
    have hti := HTI.out
    clear e7 ht
    by_cases hxt : x < tw
    · have hxI : (x : Int) < wd := by omega
      have HMU2 := Lib.hid (show tw - (x + 1) < tw - x from by omega)
      have hw2 : IntKind.i64.wrap ((x : Int) + 1) = (x : Int) + 1 := IntWalk.i64_in _ (by omega)
      have hw3 : IntKind.i64.wrap (c.wide - 1) = c.wide - 1 := IntWalk.i64_in _ (by omega)
      have hw4 : IntKind.i64.wrap (c.wide - 1 - (x : Int)) = c.wide - 1 - (x : Int) := IntWalk.i64_in _ (by omega)
      have hw5 : IntKind.i64.wrap (c.high - 1) = c.high - 1 := IntWalk.i64_in _ (by omega)
      have hw6 : IntKind.i64.wrap (c.high - 1 - (y : Int)) = c.high - 1 - (y : Int) := IntWalk.i64_in _ (by omega)
      have HADD := Lib.hid (show trn c 2 (y * tw + x + 1) = trn c 2 (y * tw + x) ++ [srcT c 2 (x : Int) (y : Int)] from trn_add c 2 (by rw [HTW.out]) (by rw [HTW.out]; exact hxt))
      have hnn : y * tw + x ≤ 200 := by
        have h1 : y * tw ≤ 12 * 12 := Nat.mul_le_mul (by omega) (by omega)
        omega
      have c0 := HT.out.x0.c 0 _ rfl
      have c1 := HT.out.x0.c 1 _ rfl
      have c2 := HT.out.x0.c 2 _ rfl
      clear hown hox hti
      go_wp2_with fail
      refine (At_any c (c.wide - 1 - (x : Int)) (y : Int) _ OK.out (HR.out.next HT.out.b)).mono ?_
      rintro e W3 ⟨rfl, hb⟩
      replace HT := Lib.hid (HT.out.next hb)
      clear hb c0 c1 c2 o0
      have c0 := HT.out.x0.c 0 _ rfl
      have c1 := HT.out.x0.c 1 _ rfl
      have c2 := HT.out.x0.c 2 _ rfl
      obtain ⟨s0, hs0⟩ : ∃ s, s = at2 c (c.wide - 1 - (x : Int)) (y : Int) := ⟨_, rfl⟩
      rw [← hs0]
      clear hs0
      go_wp2_with fail
      refine (At_any c (y : Int) (x : Int) _ OK.out (HR.out.next HT.out.b)).mono ?_
      rintro e W4 ⟨rfl, hb⟩
      replace HT := Lib.hid (HT.out.next hb)
      clear hb c0 c1 c2
      obtain ⟨s, hs⟩ : ∃ s, s = at2 c (y : Int) (x : Int) := ⟨_, rfl⟩
      rw [← hs]
      have HS := Lib.hid (show srcT c 2 (x : Int) (y : Int) = s from by rw [hs]; unfold srcT; rw [if_pos rfl])
      clear hs
      go_upto_region 15 with fail
      obtain ⟨v, hown, hox⟩ := HT.out.ex
      obtain ⟨A, cc, rfl, -⟩ := own_form hown
      have o2 := hox.c 2 _ rfl
      have HOX := Lib.hid hox
      have HOWN := Lib.hid hown
      clear hox
      go_wp2_with (at_builtin; refine wpList_append_own _ rfl (.tmp 58) (.tmp 60) 22 rfl (go + 1) 3 i0 (.int .i64 0) 1 8 Try.underlying22 hi0 hz0 hz1 hz2 rfl (by decide) _ _ _ rfl (hown.alloc _) ⟨W4.heap.size, 0, none⟩ 1 1 [.int .i64 s] rfl rfl (cell_one_new _ _ _) (by simp [Value.oneCell']) (by unfold maxLen; omega) (by omega) (by have := HT.out.z; simp; omega) ?_; intro v2 w2 hown' hgrow _; obtain ⟨g2, cap2, rfl⟩ := ownsRow_succ hown'; have hstep := HT.out.step HLT.out rfl HOWN.out HOX.out hgrow (by rw [HADD.out, HS.out, List.map_append]; exact hown'); have o2' := hstep.1; have f2' := hstep.2.1; have HFIN := Lib.hid hstep.2.2; clear hstep hgrow hown' hown)
      refine endM (by kernel_rfl) (by kernel_rfl) ⟨x + 1, by omega, slotF_at rfl, HFIN.out⟩ ?_
      show tw - (intOf (slotF _ 7)).toNat < tw - (intOf (f2 7)).toNat
      rw [slotF_at rfl, HE7.out]
      have := HMU2.out
      simp [intOf]
      omega
    · have hxI : ¬ (x : Int) < wd := by omega
      have HT2 := Lib.hid (show TR c 2 wd hg go (go + 1) w W2 ((y + 1) * tw) from by
        have h1 : (y + 1) * tw = y * tw + x := by rw [Nat.add_mul, Nat.one_mul]; omega
        rw [h1]; exact HT.out)
      clear hti hown hox
      go_wp2_with fail
      refine endM (by kernel_rfl) (by kernel_rfl) ⟨y + 1, by omega, slotF_at rfl, HT2.out⟩ ?_
      show th - (intOf (slotF _ 6)).toNat < th - (intOf (f 6)).toNat
      rw [slotF_at rfl, HE6.out]
      have := HMU.out
      simp [intOf]
      omega
  · have hyI : ¬ (y : Int) < hg := by omega
    obtain rfl : y = th := by omega
    have hown := HOWN.out
    have hox := HOX.out
    obtain ⟨A, cc, rfl, -⟩ := own_form hown
    have hat : At W1 W1.heap.size 1 icell A (trn c 2 (y * tw)) := by
      rw [← flat_icellT] at hown
      obtain ⟨A2, cc2, e1, h8⟩ := own_at (cells := icell) (size := 1) (fun _ => rfl) (by omega) (by rw [trn_len]; exact hown)
      injection e1 with e1
      rw [e1]; exact h8
    have HAT := Lib.hid hat
    have x1 := HT.out.x1
    have f0 := x1.fr 0
    have f1 := x1.fr 1
    have f2 := x1.fr 2
    have d0 := x1.c 0 _ rfl
    have d1 := x1.c 1 _ rfl
    have d2 := x1.c 2 _ rfl
    have o0 := hox.c 0 _ rfl
    have o1 := hox.c 1 _ rfl
    have o2 := hox.c 2 _ rfl
    have HRES := Lib.hid (loadC (x1.setAll [.int .i64 wd, .int .i64 hg, .slice A (y * tw) cc] rfl))
    clear hat hown hox x1 hti
    go_wp2_with fail
    ((try simp only [Exit.inBlock, Exit.then]); refine bodyPost_ret (results_cell1 rfl rfl HRES.out) rfl ?_)
    have hyt : y * tw = (thT c 2).toNat * (twT c 2).toNat := by rw [HTW.out, HTH.out]
    have hle : (thT c 2).toNat * (twT c 2).toNat ≤ 1000 := by
      have h1 := HTI.out
      rw [HTW.out, HTH.out]
      have := Nat.mul_le_mul (show y ≤ 12 by omega) (show tw ≤ 12 by omega)
      omega
    rw [HWD.out, HHG.out, hyt]
    have hsz := setCells_size (w.heap.size + 1) [.int .i64 (twT c 2), .int .i64 (thT c 2), .slice A ((thT c 2).toNat * (twT c 2).toNat) cc] 0 W1
    have hak := at_farT HAT.out (g := w.heap.size + 1) (fun b o e => by
      have := HOWN.out.lt b (by rw [e]; rfl)
      have := HLT.out
      omega) [.int .i64 (twT c 2), .int .i64 (thT c 2), .slice A ((thT c 2).toNat * (twT c 2).toNat) cc]
    rw [hyt] at hak
    exact turn_done (below_setCells (b := w.heap.size + 1) (B := w.heap.size) (by omega) [.int .i64 (twT c 2), .int .i64 (thT c 2), .slice A ((thT c 2).toNat * (twT c 2).toNat) cc] 0 HT.out.b) hle (hak.more (Nat.le_of_eq hsz.symm))
theorem turned_any (c : Cut) (how : Int) (hh : 0 ≤ how ∧ how < 3) (w : World) (ok : OkC c) (hr : CutAt w w.heap.size c) : Calls Try.prog 36 #[.agg #[.int .i64 c.wide, .int .i64 c.high, .slice c.A c.piece.length c.c], .int .i64 how] w (RetTurn c how w) := by
  have : how = 0 ∨ how = 1 ∨ how = 2 := by omega
  rcases this with rfl | rfl | rfl
  · exact turned0_any c w ok hr
  · exact turned1_any c w ok hr
  · exact turned2_any c w ok hr
/-! Plain: what turned hands back is the picture, turned. -/
theorem twh {c : Cut} (ok : OkC c) (how : Int) : (1 ≤ twT c how ∧ twT c how ≤ 12) ∧ 1 ≤ thT c how ∧ thT c how ≤ 12 := by
  have h1 := ok.w
  have h2 := ok.h
  unfold twT thT
  split <;> omega
theorem src_out (c : Cut) (how : Int) {x y : Int} (h : ¬ ((0 ≤ x ∧ x < twT c how) ∧ 0 ≤ y ∧ y < thT c how)) : srcT c how x y = -1 := by
  unfold srcT
  unfold twT thT at h
  by_cases h2 : how = 2
  · rw [if_pos h2] at h ⊢
    rw [if_pos h2] at h
    exact at_out (by omega)
  · rw [if_neg h2] at h ⊢
    rw [if_neg h2] at h
    by_cases h1 : how = 1
    · rw [if_pos h1]
      exact at_out (by omega)
    · rw [if_neg h1]
      exact at_out (by omega)
theorem src_in {c : Cut} (ok : OkC c) (how : Int) {x y : Int} (h : (0 ≤ x ∧ x < twT c how) ∧ 0 ≤ y ∧ y < thT c how) : 0 ≤ srcT c how x y ∧ srcT c how x y ≤ 39 := by
  have key : ∀ u v : Int, 0 ≤ u ∧ u < c.wide ∧ 0 ≤ v ∧ v < c.high → 0 ≤ at2 c u v ∧ at2 c u v ≤ 39 := fun u v hh => by
    have h1 := at_in ok hh
    have h2 := ok.at_bd u v
    omega
  unfold srcT
  unfold twT thT at h
  by_cases h2 : how = 2
  · rw [if_pos h2] at h ⊢
    rw [if_pos h2] at h
    exact key _ _ (by omega)
  · rw [if_neg h2] at h ⊢
    rw [if_neg h2] at h
    by_cases h1 : how = 1
    · rw [if_pos h1]
      exact key _ _ (by omega)
    · rw [if_neg h1]
      exact key _ _ (by omega)
theorem turn_okc {c : Cut} (ok : OkC c) (how : Int) (A : Option Addr) (cap : Nat) : OkC (turnS c how A cap) := by
  obtain ⟨h1, h2⟩ := twh ok how
  refine ⟨h1, h2, ?_, fun x hx => ?_⟩
  · show ((trn c how _).length : Int) = twT c how * thT c how
    rw [trn_len, Int.natCast_mul, Int.toNat_of_nonneg (by omega), Int.toNat_of_nonneg (by omega), Int.mul_comm]
  · replace hx : x ∈ trn c how _ := hx
    unfold trn at hx
    obtain ⟨i, hi, rfl⟩ := List.mem_map.1 hx
    have hi := List.mem_range.1 hi
    have h3 : i % (twT c how).toNat < (twT c how).toNat := Nat.mod_lt _ (by omega)
    have h4 : i / (twT c how).toNat < (thT c how).toNat := by rw [Nat.div_lt_iff_lt_mul (by omega)]; exact hi
    generalize i % (twT c how).toNat = r at *
    generalize i / (twT c how).toNat = q at *
    exact src_in ok how (by omega)
theorem turn_at2 {c : Cut} (ok : OkC c) (how : Int) (A : Option Addr) (cap : Nat) (x y : Int) : at2 (turnS c how A cap) x y = srcT c how x y := by
  obtain ⟨h1, h2⟩ := twh ok how
  by_cases h : (0 ≤ x ∧ x < twT c how) ∧ 0 ≤ y ∧ y < thT c how
  · have hin : isIn (turnS c how A cap) x y = true := by
      unfold isIn inS
      simp only [Bool.and_eq_true, decide_eq_true_eq]
      show (0 ≤ x ∧ x ≤ twT c how - 1) ∧ 0 ≤ y ∧ y ≤ thT c how - 1
      omega
    obtain ⟨u, hu⟩ : ∃ u : Nat, (u : Int) = x := ⟨x.toNat, by omega⟩
    obtain ⟨v, hv⟩ : ∃ v : Nat, (v : Int) = y := ⟨y.toNat, by omega⟩
    subst hu hv
    unfold at2
    rw [if_pos hin]
    show (trn c how _).getD ((v : Int) * twT c how + (u : Int)).toNat 0 = _
    have e1 : ((v : Int) * twT c how + (u : Int)).toNat = v * (twT c how).toNat + u := by
      have : ((v * (twT c how).toNat + u : Nat) : Int) = (v : Int) * twT c how + (u : Int) := by push_cast; rw [Int.toNat_of_nonneg (by omega)]
      omega
    have hu' : u < (twT c how).toNat := by omega
    have hv' : v < (thT c how).toNat := by omega
    have hlt : v * (twT c how).toNat + u < (thT c how).toNat * (twT c how).toNat := by
      have := Nat.mul_le_mul_right (twT c how).toNat (show v + 1 ≤ (thT c how).toNat by omega)
      rw [Nat.add_mul, Nat.one_mul] at this
      omega
    rw [e1, getD_get (by rw [trn_len]; exact hlt)]
    unfold trn
    rw [List.getElem_map, List.getElem_range]
    rw [show (v * (twT c how).toNat + u) % (twT c how).toNat = u by rw [Nat.add_comm, Nat.add_mul_mod_self_right, Nat.mod_eq_of_lt hu'], show (v * (twT c how).toNat + u) / (twT c how).toNat = v by rw [Nat.add_comm, Nat.add_mul_div_right _ _ (by omega), Nat.div_eq_of_lt hu', Nat.zero_add]]
  · rw [src_out c how h]
    exact at_out (c := turnS c how A cap) (by
      show x < 0 ∨ twT c how ≤ x ∨ y < 0 ∨ thT c how ≤ y
      omega)
theorem turn_of {c : Cut} (ok : OkC c) {how : Int} (hh : 0 ≤ how ∧ how < 3) (A : Option Addr) (cap : Nat) : ∃ φ ψ, Turn c (turnS c how A cap) φ ψ := by
  have hat := turn_at2 ok how A cap
  have okt := turn_okc ok how A cap
  have : how = 0 ∨ how = 1 ∨ how = 2 := by omega
  rcases this with rfl | rfl | rfl
  · exact ⟨_, _, turn_x ok okt rfl rfl fun x y => by rw [hat]; rfl⟩
  · exact ⟨_, _, turn_y ok okt rfl rfl fun x y => by rw [hat]; rfl⟩
  · exact ⟨_, _, turn_t ok okt rfl rfl fun x y => by rw [hat]; rfl⟩
end
end Go.Proofs.Ytjlicbdnppodgaa
