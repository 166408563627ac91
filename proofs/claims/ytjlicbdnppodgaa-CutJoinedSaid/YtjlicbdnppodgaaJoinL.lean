import Derived.Test.YtjlicbdnppodgaaWho
import Derived.Test.YtjlicbdnppodgaaP13
import Derived.Test.YtjlicbdnppodgaaR9
import Derived.Test.YtjlicbdnppodgaaP6
namespace Go.Proofs.Ytjlicbdnppodgaa
section
open Go.RowKit
/-! Plain: two pieces made one. -/
structure Joined (c j : Cut) (lo hi : Int) : Prop where
  w : j.wide = c.wide
  h : j.high = c.high
  p : j.piece = c.piece.map (jn lo hi)
  g : GoodC c
  bd : 0 ≤ lo ∧ lo < hi ∧ hi ≤ greatS c
  e : 0 < edgesR c lo hi
theorem Joined.at_ {c j : Cut} {lo hi : Int} (h : Joined c j lo hi) (x y : Int) : at2 j x y = jn lo hi (at2 c x y) := by
  have hb := h.bd
  by_cases hi' : isIn c x y = true
  · have hj : isIn j x y = true := by unfold isIn at *; rw [h.w, h.h]; exact hi'
    have h0 := h.g.ok.idx hi'
    unfold at2
    rw [if_pos hi', if_pos hj, h.w, h.p, getD_get (show (y * c.wide + x).toNat < c.piece.length by omega), getD_get (by rw [List.length_map]; omega), List.getElem_map]
  · have hj : ¬ isIn j x y = true := by unfold isIn at *; rw [h.w, h.h]; exact hi'
    unfold at2
    rw [if_neg hi', if_neg hj]
    unfold jn
    rw [if_neg (by omega), if_neg (by omega)]
theorem jn_bd {lo hi k : Int} (hb : 0 ≤ lo ∧ lo < hi) (hk : -1 ≤ k) : -1 ≤ jn lo hi k ∧ jn lo hi k ≤ k ∧ (0 ≤ k → 0 ≤ jn lo hi k) := by
  unfold jn
  split
  · omega
  · split <;> omega
theorem Joined.ok {c j : Cut} {lo hi : Int} (h : Joined c j lo hi) : OkC j := by
  have ok := h.g.ok
  refine ⟨by rw [h.w]; exact ok.w, by rw [h.h]; exact ok.h, by rw [h.p, h.w, h.h, List.length_map]; exact ok.len, fun x hx => ?_⟩
  rw [h.p] at hx
  obtain ⟨k, hk, rfl⟩ := List.mem_map.1 hx
  have h1 := ok.pc k hk
  have h2 := jn_bd (lo := lo) (hi := hi) (k := k) ⟨h.bd.1, h.bd.2.1⟩ (by omega)
  exact ⟨h2.2.2 h1.1, by omega⟩
theorem Joined.inG {c j : Cut} {lo hi : Int} (h : Joined c j lo hi) (p : Pt) : Go.Proofs.Ytjlicbdnppodgaa.inG j p ↔ Go.Proofs.Ytjlicbdnppodgaa.inG c p := by
  rw [inG_bd, inG_bd, h.w, h.h]
/-- The piece whose number one has behind the joining. -/
def rj (hi m : Int) : Int := if hi ≤ m then m + 1 else m
theorem jn_rj {lo hi m : Int} : jn lo hi (rj hi m) = m := by
  unfold jn rj
  split
  · rw [if_neg (by omega), if_pos (by omega)]; omega
  · rw [if_neg (by omega), if_neg (by omega)]
theorem jn_eq {lo hi k m : Int} (hb : 0 ≤ lo ∧ lo < hi) : jn lo hi k = m ↔ k = rj hi m ∨ (m = lo ∧ k = hi) := by
  unfold jn rj
  split
  · split <;> omega
  · split <;> split <;> omega
theorem Joined.great {c j : Cut} {lo hi : Int} (h : Joined c j lo hi) : greatS j = greatS c - 1 := by
  have hb := h.bd
  refine great_eq h.ok ?_ fun p hp => ?_
  · obtain ⟨p, hp, e⟩ := h.g.cells (rj hi (greatS c - 1)) (by unfold rj; split <;> omega) (by unfold rj; split <;> omega)
    refine ⟨p, (h.inG p).2 hp, ?_⟩
    show at2 j p.1 p.2 = _
    rw [h.at_, show at2 c p.1 p.2 = rj hi (greatS c - 1) from e, jn_rj]
  · show at2 j p.1 p.2 ≤ _
    rw [h.at_]
    have h1 := at_great h.g.ok p.1 p.2
    unfold jn
    split
    · omega
    · split <;> omega
theorem Joined.reach {c j : Cut} {lo hi : Int} (h : Joined c j lo hi) {p q : Pt} (hr : Reach c p q) : Reach j p q := by
  induction hr with
  | refl => exact .refl _
  | step _ h2 h3 ih => exact .step ih h2 (by rw [h.at_, h.at_, h3])
theorem Joined.good {c j : Cut} {lo hi : Int} (h : Joined c j lo hi) : GoodC j := by
  have hb := h.bd
  have hg := h.great
  have hb2 : 0 ≤ lo ∧ lo < hi := ⟨hb.1, hb.2.1⟩
  refine ⟨h.ok, fun k h1 h2 => ?_, fun k h1 h2 => ?_⟩
  · obtain ⟨p, hp, e⟩ := h.g.cells (rj hi k) (by unfold rj; split <;> omega) (by unfold rj; split <;> omega)
    refine ⟨p, (h.inG p).2 hp, ?_⟩
    show at2 j p.1 p.2 = _
    rw [h.at_, show at2 c p.1 p.2 = rj hi k from e, jn_rj]
  · intro p q hp hq ep eq
    rw [h.at_, jn_eq hb2] at ep eq
    have hp' := (h.inG p).1 hp
    have hq' := (h.inG q).1 hq
    have same : ∀ m, 0 ≤ m → m ≤ greatS c → ∀ p q : Pt, Go.Proofs.Ytjlicbdnppodgaa.inG c p → Go.Proofs.Ytjlicbdnppodgaa.inG c q → at2 c p.1 p.2 = m → at2 c q.1 q.2 = m → Reach j p q := fun m h0 h3 p q a b d e => h.reach (h.g.whole m h0 h3 p q a b d e)
    have hrj : 0 ≤ rj hi k ∧ rj hi k ≤ greatS c := by unfold rj; split <;> omega
    -- from a cell of the one to a cell of the other
    have cross : ∀ p q : Pt, Go.Proofs.Ytjlicbdnppodgaa.inG c p → Go.Proofs.Ytjlicbdnppodgaa.inG c q → at2 c p.1 p.2 = lo → at2 c q.1 q.2 = hi → Reach j p q := fun p q a b d e => by
      obtain ⟨x, y, hx, hy, e1, r, hr, e2⟩ := edges_pos h.e
      have i1 : Go.Proofs.Ytjlicbdnppodgaa.inG c (x, y) := (inG_iff h.g.ok _).2 (by show 0 ≤ at2 c x y; omega)
      have i2 : Go.Proofs.Ytjlicbdnppodgaa.inG c r := (inG_iff h.g.ok _).2 (by show 0 ≤ at2 c r.1 r.2; omega)
      have r1 := same lo hb.1 (by omega) p (x, y) a i1 d e1
      have r2 := same hi (by omega) hb.2.2 r q i2 b e2 e
      refine (r1.trans (Reach.one (q := r) hr ?_)).trans r2
      dsimp only
      rw [h.at_, h.at_, e1, e2]
      unfold jn
      rw [if_pos rfl, if_neg (by omega), if_neg (by omega)]
    rcases ep with ep | ⟨rfl, ep⟩ <;> rcases eq with eq | ⟨_, eq⟩
    · exact same _ hrj.1 hrj.2 p q hp' hq' ep eq
    · subst k
      have : rj hi lo = lo := by unfold rj; rw [if_neg (by omega)]
      rw [this] at ep
      exact cross p q hp' hq' ep eq
    · have : rj hi k = k := by unfold rj; rw [if_neg (by omega)]
      rw [this] at eq
      exact (cross q p hq' hp' eq ep).symm
    · exact same hi (by omega) hb.2.2 p q hp' hq' ep eq
/-! The edges behind the joining. -/
theorem b2i_eq (a b : Int) : b2i (a == b) = if a = b then 1 else 0 := by
  unfold b2i
  by_cases h : a = b <;> simp [h]
theorem b2i_jn {lo hi v m : Int} (hb : 0 ≤ lo ∧ lo < hi) : b2i (jn lo hi v == m) = b2i (v == rj hi m) + (if m = lo then b2i (v == hi) else 0) := by
  have e := jn_eq (k := v) (m := m) hb
  have hne : rj hi m ≠ hi := by unfold rj; split <;> omega
  rw [b2i_eq, b2i_eq, b2i_eq]
  generalize jn lo hi v = u at *
  generalize rj hi m = r at *
  by_cases h1 : u = m
  · rw [if_pos h1]
    rcases e.1 h1 with h2 | ⟨h2, h3⟩
    · rw [if_pos h2, if_neg (show ¬ v = hi by omega)]
      split <;> omega
    · rw [if_neg (show ¬ v = r by omega), if_pos h2, if_pos h3]; omega
  · rw [if_neg h1, if_neg (show ¬ v = r from fun h => h1 (e.2 (.inl h)))]
    split
    · rename_i h
      rw [if_neg (show ¬ v = hi from fun h' => h1 (e.2 (.inr ⟨h, h'⟩)))]; omega
    · omega
theorem Joined.dl {c j : Cut} {lo hi : Int} (h : Joined c j lo hi) (m x y : Int) : Go.Proofs.Ytjlicbdnppodgaa.dl j m x y = Go.Proofs.Ytjlicbdnppodgaa.dl c (rj hi m) x y + (if m = lo then Go.Proofs.Ytjlicbdnppodgaa.dl c hi x y else 0) := by
  unfold Go.Proofs.Ytjlicbdnppodgaa.dl
  rw [h.at_]
  exact b2i_jn ⟨h.bd.1, h.bd.2.1⟩
theorem Joined.cellE {c j : Cut} {lo hi : Int} (h : Joined c j lo hi) (x y p q : Int) : Go.Proofs.Ytjlicbdnppodgaa.cellE j x y p q = Go.Proofs.Ytjlicbdnppodgaa.cellE c x y (rj hi p) (rj hi q) + (if p = lo then Go.Proofs.Ytjlicbdnppodgaa.cellE c x y hi (rj hi q) else 0) + ((if q = lo then Go.Proofs.Ytjlicbdnppodgaa.cellE c x y (rj hi p) hi else 0) + (if p = lo ∧ q = lo then Go.Proofs.Ytjlicbdnppodgaa.cellE c x y hi hi else 0)) := by
  simp only [cellE_dl, h.dl]
  by_cases h1 : p = lo <;> by_cases h2 : q = lo
  · simp only [h1, h2, if_true, and_self, Int.add_mul, Int.mul_add]; omega
  · simp only [h1, h2, if_true, if_false, and_false, Int.add_mul, Int.mul_add, Int.mul_zero]; omega
  · simp only [h1, h2, if_true, if_false, false_and, Int.add_mul, Int.mul_add, Int.zero_mul]; omega
  · simp only [h1, h2, if_false, false_and, Int.add_mul, Int.mul_add, Int.zero_mul, Int.mul_zero]; omega
theorem Joined.WH {c j : Cut} {lo hi : Int} (h : Joined c j lo hi) : W j = W c ∧ H j = H c := by
  unfold W H
  rw [h.w, h.h]; exact ⟨rfl, rfl⟩
theorem Joined.edges {c j : Cut} {lo hi : Int} (h : Joined c j lo hi) (p q : Int) : edgesR j p q = edgesR c (rj hi p) (rj hi q) + (if p = lo then edgesR c hi (rj hi q) else 0) + ((if q = lo then edgesR c (rj hi p) hi else 0) + (if p = lo ∧ q = lo then edgesR c hi hi else 0)) := by
  have ite_sum : ∀ (Q : Prop) [Decidable Q] (F : Nat → Nat → Int) (n m : Nat), sumTo (fun y => sumTo (fun x => if Q then F x y else 0) n) m = if Q then sumTo (fun y => sumTo (fun x => F x y) n) m else 0 := fun Q _ F n m => by
    by_cases hq : Q
    · simp only [hq, if_true]
    · simp only [hq, if_false]
      exact sumTo_zero fun _ _ => sumTo_zero fun _ _ => rfl
  unfold edgesR
  rw [h.WH.1, h.WH.2, sumTo_congr fun y _ => by rw [sumTo_congr fun x _ => h.cellE (x : Int) (y : Int) p q, sumTo_add, sumTo_add, sumTo_add]]
  rw [sumTo_add, sumTo_add, sumTo_add]
  rw [ite_sum (p = lo) (fun x y => Go.Proofs.Ytjlicbdnppodgaa.cellE c (x : Int) (y : Int) hi (rj hi q)), ite_sum (q = lo) (fun x y => Go.Proofs.Ytjlicbdnppodgaa.cellE c (x : Int) (y : Int) (rj hi p) hi), ite_sum (p = lo ∧ q = lo) (fun x y => Go.Proofs.Ytjlicbdnppodgaa.cellE c (x : Int) (y : Int) hi hi)]
/-! How long the lines are. -/
theorem sum_rj (F : Int → Int) {h : Nat} : ∀ n : Nat, sumTo (fun p : Nat => F (rj (h : Int) (p : Int))) n = if h ≤ n then sumTo (fun a : Nat => F (a : Int)) (n + 1) - F (h : Int) else sumTo (fun a : Nat => F (a : Int)) n
  | 0 => by
    split
    · obtain rfl : h = 0 := by omega
      show (0 : Int) = 0 + F ((0 : Nat) : Int) - F ((0 : Nat) : Int); omega
    · rfl
  | n + 1 => by
    show sumTo (fun p : Nat => F (rj (h : Int) (p : Int))) n + F (rj (h : Int) (n : Int)) = _
    rw [sum_rj F n]
    by_cases h1 : h ≤ n
    · rw [if_pos h1, if_pos (by omega)]
      have : rj (h : Int) (n : Int) = ((n + 1 : Nat) : Int) := by unfold rj; rw [if_pos (by omega)]; omega
      rw [this]
      show _ = sumTo (fun a : Nat => F (a : Int)) (n + 1) + F ((n + 1 : Nat) : Int) - _
      omega
    · have : rj (h : Int) (n : Int) = (n : Int) := by unfold rj; rw [if_neg (by omega)]
      rw [if_neg h1, this]
      by_cases h2 : h ≤ n + 1
      · rw [if_pos h2]
        obtain rfl : h = n + 1 := by omega
        show sumTo (fun a : Nat => F (a : Int)) n + F (n : Int) = sumTo (fun a : Nat => F (a : Int)) n + F (n : Int) + F ((n + 1 : Nat) : Int) - F ((n + 1 : Nat) : Int)
        omega
      · rw [if_neg h2]; rfl
theorem len_self {c : Cut} (ok : OkC c) : 2 * lenS c = 4 * (c.wide * c.high) - sumTo (fun a : Nat => edgesR c (a : Int) (a : Int)) ((greatS c).toNat + 1) - 2 * (c.wide + c.high) := by
  have hg := great_bd ok
  have h1 := common_all ok ((greatS c).toNat + 1)
  have e1 : ∀ a : Nat, a < (greatS c).toNat + 1 → sumTo (fun b : Nat => othE c (a : Int) (b : Int)) ((greatS c).toNat + 1) = 4 * (cellsS c (a : Int) : Int) + ((-1) * edgesR c (a : Int) (a : Int) + (-1) * edgesR c (a : Int) (-1)) := fun a ha => by
    have h2 := oth_all ok (a := (a : Int)) (by omega)
    rw [sumTo_first] at h2
    have e2 : othE c (a : Int) (numK 0) = edgesR c (a : Int) (-1) := by
      unfold othE numK
      rw [if_pos (by omega)]; rfl
    rw [e2, sumTo_congr (g := fun b : Nat => othE c (a : Int) (b : Int)) fun k _ => by rw [show numK (k + 1) = (k : Int) by unfold numK; omega]] at h2
    omega
  rw [sumTo_congr e1, sumTo_add, sumTo_add, sumTo_mul, sumTo_mul, sumTo_mul, cells_all ok, border_all ok] at h1
  show 2 * sumTo (fun a : Nat => sumTo (fun b : Nat => edgesR c (a : Int) (b : Int)) a) ((greatS c).toNat + 1) = _
  omega
theorem Joined.len {c j : Cut} {lo hi : Int} (h : Joined c j lo hi) : lenS j = lenS c - edgesR c lo hi := by
  have hb := h.bd
  have ok := h.g.ok
  have hg := great_bd ok
  have hj := h.great
  have h1 := len_self ok
  have h2 := len_self h.ok
  rw [h.w, h.h, hj] at h2
  obtain ⟨n, hn⟩ : ∃ n : Nat, (n : Int) = greatS c := ⟨(greatS c).toNat, by omega⟩
  obtain ⟨k, hk⟩ : ∃ k : Nat, (k : Int) = hi := ⟨hi.toNat, by omega⟩
  obtain ⟨l, hl⟩ : ∃ l : Nat, (l : Int) = lo := ⟨lo.toNat, by omega⟩
  have e1 : (greatS c - 1).toNat + 1 = n := by omega
  have e2 : (greatS c).toNat + 1 = n + 1 := by omega
  rw [e1] at h2
  rw [e2] at h1
  have hsym := edges_symm ok (a := lo) (b := hi) (by omega) (by omega)
  have hs : sumTo (fun a : Nat => edgesR j (a : Int) (a : Int)) n = sumTo (fun a : Nat => edgesR c (a : Int) (a : Int)) (n + 1) + 2 * edgesR c lo hi := by
    have h3 : ∀ a : Nat, a < n → edgesR j (a : Int) (a : Int) = edgesR c (rj (k : Int) (a : Int)) (rj (k : Int) (a : Int)) + (if (a : Int) = lo then 2 * edgesR c lo hi + edgesR c hi hi else 0) := fun a _ => by
      rw [h.edges, hk]
      by_cases e : (a : Int) = lo
      · have : rj hi lo = lo := by unfold rj; rw [if_neg (by omega)]
        rw [e, if_pos rfl, if_pos rfl, if_pos ⟨rfl, rfl⟩, if_pos rfl, this]; omega
      · rw [if_neg e, if_neg e, if_neg (fun h => e h.1), if_neg e]; omega
    rw [sumTo_congr h3, sumTo_add, sum_rj (fun a => edgesR c a a) (h := k), if_pos (by omega)]
    have := sumTo_one (f := fun _ => 0) (g := fun a : Nat => if (a : Int) = lo then 2 * edgesR c lo hi + edgesR c hi hi else 0) (i := l) (d := 2 * edgesR c lo hi + edgesR c hi hi) (by rw [if_pos hl]; omega) (n := n) (by omega) (fun k _ hk => by rw [if_neg (by omega)])
    rw [this, sumTo_zero fun _ _ => rfl, hk]; omega
  omega
/-! What the law counts. -/
def edW (c : Cut) (lo hi p k : Int) : Int := (if k ≠ p then edgesR c p k else 0) + (if p = lo ∧ k ≠ hi then edgesR c hi k else 0)
def wantT (c : Cut) (lo hi p m : Int) (n : Nat) : Int := sumTo (fun i => if jn lo hi (numK i) ≠ jn lo hi p ∧ jn lo hi (numK i) = m then edW c lo hi p (numK i) else 0) n
theorem rj_jn {lo hi p : Int} (hb : 0 ≤ lo ∧ lo < hi) (h : p ≠ hi) : rj hi (jn lo hi p) = p ∧ (jn lo hi p = lo ↔ p = lo) := by
  unfold rj jn
  rw [if_neg h]
  split
  · rw [if_pos (by omega)]; omega
  · rw [if_neg (by omega)]; omega
theorem Joined.want {c j : Cut} {lo hi : Int} (h : Joined c j lo hi) {p m : Int} (hp : p ≠ hi) (hm : -1 ≤ m) : wantT c lo hi p m ((greatS c).toNat + 2) = if m ≠ jn lo hi p then edgesR j (jn lo hi p) m else 0 := by
  have hb := h.bd
  have hb2 : 0 ≤ lo ∧ lo < hi := ⟨hb.1, hb.2.1⟩
  have hg := great_bd h.g.ok
  obtain ⟨r1, r2⟩ := rj_jn hb2 hp
  unfold wantT
  by_cases e : m = jn lo hi p
  · rw [if_neg (by simp [e])]
    refine sumTo_zero fun i _ => if_neg fun h => h.1 (h.2.trans e)
  · rw [if_pos e, h.edges, r1]
    obtain ⟨E, hE⟩ : ∃ E : Int → Int, E = fun k => edgesR c p k + (if p = lo then edgesR c hi k else 0) := ⟨_, rfl⟩
    have t : ∀ i : Nat, (if jn lo hi (numK i) ≠ jn lo hi p ∧ jn lo hi (numK i) = m then edW c lo hi p (numK i) else 0) = E (rj hi m) * b2i (rj hi m == (i : Int) + -1) + (if m = lo then E hi * b2i (hi == (i : Int) + -1) else 0) := fun i => by
      have hi1 : (i : Int) + -1 = numK i := by unfold numK; omega
      rw [hi1]
      generalize numK i = k
      have hj := jn_eq (k := k) (m := m) hb2
      have hne : rj hi m ≠ hi := by unfold rj; split <;> omega
      rw [b2i_eq, b2i_eq]
      by_cases h1 : jn lo hi k = m
      · have hkp : k ≠ p := fun e' => e (by rw [← h1, e'])
        have hE1 : edW c lo hi p k = E k := by
          rw [hE]
          unfold edW
          dsimp only
          rw [if_pos hkp]
          by_cases h2 : p = lo
          · have : k ≠ hi := fun h3 => by
              have h4 : jn lo hi k = lo := by unfold jn; rw [if_pos h3]
              exact e (by rw [← h1, h4, r2.2 h2])
            rw [if_pos ⟨h2, this⟩, if_pos h2]
          · rw [if_neg (fun h => h2 h.1), if_neg h2]
        rw [if_pos ⟨by rw [h1]; exact e, h1⟩, hE1]
        rcases hj.1 h1 with h2 | ⟨h2, h3⟩
        · rw [if_pos h2.symm, if_neg (show ¬ hi = k by omega), ← h2]
          split <;> simp
        · rw [if_neg (show ¬ rj hi m = k by omega), if_pos h2, if_pos h3.symm, h3]; simp
      · rw [if_neg (fun h => h1 h.2), if_neg (fun h => h1 (hj.2 (.inl h.symm)))]
        split
        · rename_i h2
          rw [if_neg (fun h => h1 (hj.2 (.inr ⟨h2, h.symm⟩)))]; simp
        · simp
    rw [sumTo_congr fun i _ => t i, sumTo_add, sumTo_mul]
    have hz : m = lo → jn lo hi p ≠ lo := fun h1 h2 => e (h1.trans h2.symm)
    have s2 : sumTo (fun i : Nat => if m = lo then E hi * b2i (hi == (i : Int) + -1) else 0) ((greatS c).toNat + 2) = if m = lo then E hi else 0 := by
      by_cases h1 : m = lo
      · simp only [h1, if_true]
        rw [sumTo_mul, hit_one (by omega), Int.mul_one]
      · simp only [h1, if_false]
        exact sumTo_zero fun _ _ => rfl
    rw [s2]
    have s1 : E (rj hi m) * sumTo (fun i : Nat => b2i (rj hi m == (i : Int) + -1)) ((greatS c).toNat + 2) = E (rj hi m) := by
      by_cases h1 : rj hi m ≤ greatS c
      · rw [hit_one (by unfold rj at *; split <;> omega), Int.mul_one]
      · rw [hit_none (by omega), Int.mul_zero]
        have far : ∀ a, edgesR c a (rj hi m) = 0 := fun a => by
          have h2 := edgesR_nn c a (rj hi m)
          by_cases h3 : 0 < edgesR c a (rj hi m)
          · have := edges_bd h.g.ok h3; omega
          · omega
        rw [hE]
        dsimp only
        rw [far, far]
        split <;> rfl
    rw [s1, hE]
    dsimp only
    by_cases h1 : m = lo
    · have h2 : ¬ jn lo hi p = lo := hz h1
      have h3 : ¬ p = lo := fun h => h2 (r2.2 h)
      simp only [h1, h2, h3, if_true, if_false, false_and]
      try omega
    · by_cases h3 : p = lo
      · have h4 := r2.2 h3
        simp only [h1, h3, if_true, if_false, and_false]
        rw [h3] at h4
        simp only [h4, if_true]
        try omega
      · have h4 : ¬ jn lo hi p = lo := fun h => h3 (r2.1 h)
        simp only [h1, h3, h4, if_false, false_and]; omega
end
section
open Go.RowKit
/-! The reference: Join; SameCut. -/
def sameS (a b : Cut) : Bool := decide (a.wide = b.wide) && (decide (a.high = b.high) && decide (a.piece = b.piece))
set_option maxHeartbeats 1000000 in
theorem SameCut_any (a b : Cut) (w : World) (ha : CutAt w w.heap.size a) (hb : CutAt w w.heap.size b) (la : a.piece.length ≤ 1000) (lb : b.piece.length ≤ 1000) : Calls Try.prog 29 #[.agg #[.int .i64 a.wide, .int .i64 a.high, .slice a.A a.piece.length a.c], .agg #[.int .i64 b.wide, .int .i64 b.high, .slice b.A b.piece.length b.c]] w (Ret (.bool (sameS a b)) w) := by
  have n1 := nxA w (.cells #[.int .i64 a.wide, .int .i64 a.high, .slice a.A a.piece.length a.c] 24)
  have n2 := nxA (w.alloc (.cells #[.int .i64 a.wide, .int .i64 a.high, .slice a.A a.piece.length a.c] 24)) (.cells #[.int .i64 b.wide, .int .i64 b.high, .slice b.A b.piece.length b.c] 24)
  have HX := Lib.hid ((Bx.new w #[.int .i64 a.wide, .int .i64 a.high, .slice a.A a.piece.length a.c] 24).next n2)
  have HY := Lib.hid (Bx.new (w.alloc (.cells #[.int .i64 a.wide, .int .i64 a.high, .slice a.A a.piece.length a.c] 24)) #[.int .i64 b.wide, .int .i64 b.high, .slice b.A b.piece.length b.c] 24)
  have HB := Lib.hid (n1.trans (n2.mono n1.size))
  have HA1 := Lib.hid (ha.next HB.out)
  have HB1 := Lib.hid (hb.next HB.out)
  simp only [World.size_alloc] at HY
  have HS := Lib.hid (show sameS a b = (decide (a.wide = b.wide) && (decide (a.high = b.high) && decide (a.piece = b.piece))) from rfl)
  clear ha hb n1 n2
  go_enter Try.func29, Try.ntmps29
  go_upto_region 1 with fail
  generalize (w.alloc (.cells #[.int .i64 a.wide, .int .i64 a.high, .slice a.A a.piece.length a.c] 24)).alloc (.cells #[.int .i64 b.wide, .int .i64 b.high, .slice b.A b.piece.length b.c] 24) = V at *
  have c0 := HX.out.c 0 _ rfl
  have c1 := HX.out.c 1 _ rfl
  have c2 := HX.out.c 2 _ rfl
  have d0 := HY.out.c 0 _ rfl
  have d1 := HY.out.c 1 _ rfl
  have d2 := HY.out.c 2 _ rfl
  by_cases h1 : a.wide = b.wide
  · have e1 : (a.wide == b.wide) = true := by simp [h1]
    by_cases h2 : a.high = b.high
    · have e2 : (a.high == b.high) = true := by simp [h2]
      rw [decide_eq_true h1, decide_eq_true h2, Bool.true_and, Bool.true_and] at HS
      clear h1 h2
      go_wp2_with fail
      refine (Ints_any a.piece b.piece a.A b.A a.c b.c V HA1.out.pa HB1.out.pa la lb).mono ?_
      rintro e W ⟨rfl, hw⟩
      have HW := Lib.hid (HB.out.trans (hw.mono HB.out.size))
      clear hw
      go_wp2_with fail
      go_ret
      exact ⟨by rw [HS.out]; rfl, HW.out⟩
    · have e2 : (a.high == b.high) = false := by simp [h2]
      rw [decide_eq_true h1, decide_eq_false h2, Bool.true_and, Bool.false_and] at HS
      clear h1 h2
      go_wp2_with fail
      go_ret
      exact ⟨by rw [HS.out]; rfl, HB.out⟩
  · have e1 : (a.wide == b.wide) = false := by simp [h1]
    rw [decide_eq_false h1, Bool.false_and] at HS
    clear h1
    go_wp2_with fail
    go_ret
    exact ⟨by rw [HS.out]; rfl, HB.out⟩
end
section
open Go.RowKit
/-! Plain: how Join answers; the closure that tells a piece's new number. -/
theorem joinE_zero {c : Cut} {a b : Int} (h : joinE c a b = 0) : (checkS c).2 = 0 ∧ (0 ≤ a ∧ a ≤ greatS c) ∧ (0 ≤ b ∧ b ≤ greatS c) ∧ a ≠ b ∧ edgesR c b a ≠ 0 := by
  unfold joinE at h
  by_cases h1 : openE c a ≠ 0
  · rw [if_pos h1] at h; exact absurd h h1
  · rw [if_neg h1] at h
    have h1 := Classical.not_not.1 h1
    by_cases h2 : inS b 0 (greatS c) = false ∨ a = b
    · rw [if_pos h2] at h; omega
    · rw [if_neg h2] at h
      by_cases h3 : edgesR c b a = 0
      · rw [if_pos h3] at h; omega
      · have hG := openE_good h1
        have hp := hG.pc
        rw [not_or] at h2
        have h4 : inS b 0 (greatS c) = true := by cases e : inS b 0 (greatS c) with | true => rfl | false => exact absurd e h2.1
        unfold inS at h4
        rw [decide_eq_true_eq] at h4
        exact ⟨by rw [hG.ck], by omega, h4, h2.2, h3⟩
theorem joinE_bad {c : Cut} {a b : Int} (h : (checkS c).2 ≠ 0) : joinE c a b = (checkS c).2 := by
  have : openE c a = (checkS c).2 := by unfold openE; rw [if_pos h]
  unfold joinE
  rw [this, if_pos h]
theorem joinE_symm (c : Cut) (a b : Int) : joinE c a b = joinE c b a := by
  by_cases h : (checkS c).2 ≠ 0
  · rw [joinE_bad h, joinE_bad h]
  · have h := Classical.not_not.1 h
    have hop : ∀ x, openE c x = if inS x 0 (greatS c) = true then 0 else 2 := fun x => by
      unfold openE
      rw [if_neg (by rw [h]; simp)]
    have ok := (GoodC.of h).ok
    unfold joinE
    rw [hop, hop]
    cases ha : inS a 0 (greatS c) <;> cases hb : inS b 0 (greatS c)
    · simp
    · simp
    · simp
    · unfold inS at ha hb
      rw [decide_eq_true_eq] at ha hb
      rw [edges_symm ok hb.1 ha.1]
      have : (a = b) = (b = a) := propext eq_comm
      simp only [this]
theorem joined_of {c : Cut} {a b : Int} {A : Option Addr} {cap : Nat} (h : joinE c a b = 0) : Joined c (joinS c a b A cap) (min a b) (max a b) := by
  obtain ⟨h1, h2, h3, h4, h5⟩ := joinE_zero h
  have g := GoodC.of h1
  have hnn := edgesR_nn c b a
  refine ⟨by unfold joinS; simp [h], by unfold joinS; simp [h], by unfold joinS joinP; simp [h], g, by omega, ?_⟩
  by_cases e : a ≤ b
  · rw [Int.min_eq_left e, Int.max_eq_right e, edges_symm g.ok h2.1 h3.1]; omega
  · rw [Int.min_eq_right (by omega), Int.max_eq_left (by omega)]; omega
theorem joinS_symm (c : Cut) (a b : Int) (A A' : Option Addr) (k k' : Nat) : sameS (joinS c a b A k) (joinS c b a A' k') = true := by
  unfold sameS joinS joinP
  simp [joinE_symm c a b, Int.min_comm a b, Int.max_comm a b]
theorem joinS_len' (c : Cut) (a b : Int) (A : Option Addr) (k : Nat) (h : c.piece.length ≤ 1000) : (joinS c a b A k).piece.length ≤ 1000 := by
  show (joinP c a b).length ≤ 1000
  unfold joinP
  split
  · rw [List.length_map]; exact h
  · simp
theorem joinS_none {c : Cut} {a b : Int} {A : Option Addr} {k : Nat} (h : joinE c a b ≠ 0) : (joinS c a b A k).piece.length = 0 := by
  show (joinP c a b).length = 0
  unfold joinP
  rw [if_neg h]; rfl
theorem now_any (lo hi k : Int) (gl gh : Nat) (w : World) (hk : -1 ≤ k ∧ k ≤ 100) (hl : Bx w gl [.int .i64 lo]) (hh : Bx w gh [.int .i64 hi]) :
    Calls Try.prog 38 #[.int .i64 k, .pointer (some ⟨gh, 0, none⟩), .pointer (some ⟨gl, 0, none⟩)] w (RetQ (.int .i64 (jn lo hi k)) w) := by
  have c0 := hl.c 0 _ rfl
  have c1 := hh.c 0 _ rfl
  have hw1 : IntKind.i64.wrap (k - 1) = k - 1 := IntWalk.i64_in _ (by omega)
  clear hl hh
  unfold jn
  by_cases h1 : k = hi
  · have e1 : (k == hi) = true := by simp [h1]
    rw [if_pos h1]
    clear h1
    go_enter Try.func38, Try.ntmps38
    go_wp2_with fail
    go_ret
    exact ⟨rfl, rfl⟩
  · have e1 : (k == hi) = false := by simp [h1]
    rw [if_neg h1]
    clear h1
    by_cases h2 : hi < k
    · rw [if_pos h2]
      go_enter Try.func38, Try.ntmps38
      go_wp2_with fail
      go_ret
      exact ⟨rfl, rfl⟩
    · rw [if_neg h2]
      go_enter Try.func38, Try.ntmps38
      go_wp2_with fail
      go_ret
      exact ⟨rfl, rfl⟩
end
section
open Go.RowKit
/-! Plain: what the law has still to see of a piece's sides; the memory of the walk. -/
theorem wantT_step (c : Cut) (lo hi p m : Int) (i : Nat) : wantT c lo hi p m (i + 1) = wantT c lo hi p m i + (if jn lo hi (numK i) ≠ jn lo hi p ∧ jn lo hi (numK i) = m then edW c lo hi p (numK i) else 0) := rfl
theorem edW_bd {c : Cut} (ok : OkC c) (lo hi p k : Int) : 0 ≤ edW c lo hi p k ∧ edW c lo hi p k ≤ 2000 := by
  unfold edW
  have h1 := edgesR_nn c p k
  have h2 := edgesR_nn c hi k
  have h3 := edges_lt ok p k
  have h4 := edges_lt ok hi k
  split <;> split <;> omega
theorem wantT_bd {c : Cut} (ok : OkC c) (lo hi p m : Int) (n : Nat) : 0 ≤ wantT c lo hi p m n ∧ wantT c lo hi p m n ≤ 2000 * n := sumTo_bd (fun i => by
  have := edW_bd ok lo hi p (numK i)
  split <;> omega) n
def zF (J : Cut) (jp : Int) (l : List Pt) (j : Nat) : Int := if l.any (fun q => q.1 == numK j) = true then 0 else othE J jp (numK j)
theorem zF_nil (J : Cut) (jp : Int) (j : Nat) : zF J jp [] j = othE J jp (numK j) := by unfold zF; simp
theorem zF_step {J : Cut} {jp : Int} {l : List Pt} {t : Nat} (ht : t < l.length) (j : Nat) : zF J jp (l.take (t + 1)) j = if numK j = l[t].1 then 0 else zF J jp (l.take t) j := by
  unfold zF
  rw [List.take_succ_eq_append_getElem ht, List.any_append]
  by_cases h : numK j = l[t].1
  · simp [h]
  · have : (l[t].1 == numK j) = false := by simp; exact fun e => h e.symm
    have h2 : [l[t]].any (fun q => q.1 == numK j) = false := by rw [List.any_cons, this]; rfl
    rw [h2, Bool.or_false, if_neg h]
theorem zF_at {J : Cut} {jp : Int} {t : Nat} (ht : t < (sidesS J jp).length) {j : Nat} (hj : numK j = (sidesS J jp)[t].1) : zF J jp ((sidesS J jp).take t) j = (sidesS J jp)[t].2 := by
  unfold zF
  have h1 : ((sidesS J jp).take t).any (fun q => q.1 == numK j) = false := by
    rw [← Bool.not_eq_true, List.any_eq_true]
    rintro ⟨q, hq, e⟩
    obtain ⟨i, hi, rfl⟩ := List.getElem_of_mem hq
    rw [List.getElem_take, beq_iff_eq] at e
    rw [List.length_take] at hi
    have := side_lt J jp (s := i) (t := t) (by omega) ht
    omega
  rw [h1, if_neg (by simp), hj]
  have h2 := (side_asc J jp ((greatS J).toNat + 2)).2 _ (List.getElem_mem ht)
  unfold othE
  rw [if_pos h2.2.1]
  exact h2.2.2.2.symm
theorem zF_all {J : Cut} (ok : OkC J) {jp : Int} (j : Nat) : zF J jp (sidesS J jp) j = 0 := by
  unfold zF
  split
  · rfl
  · rename_i h
    rw [← side_one ok jp (m := numK j) (by unfold numK; omega)]
    have key : ∀ l : List Pt, ¬ l.any (fun q => q.1 == numK j) = true → sumL (fun p => if p.1 = numK j then p.2 else 0) l = 0 := fun l hl => by
      induction l with
      | nil => rfl
      | cons q l ih =>
        rw [List.any_cons, Bool.or_eq_true, not_or] at hl
        have h1 : ¬ q.1 = numK j := by have := hl.1; simpa using this
        show (if q.1 = numK j then q.2 else 0) + sumL _ l = 0
        rw [if_neg h1, ih hl.2]; rfl
    exact key _ h
structure JM (c J : Cut) (gx gl gh B : Nat) (lo hi : Int) (w V : World) : Prop where
  xc : Bx V w.heap.size (cutL c)
  xj : Bx V gx (cutL J)
  xl : Bx V gl [.int .i64 lo]
  xh : Bx V gh [.int .i64 hi]
  cc : CutAt V B c
  cj : CutAt V B J
  b : Below w.heap.size w V
  hB : B ≤ V.heap.size
  hx : (w.heap.size < B ∧ gx < B) ∧ gl < B ∧ gh < B
theorem JM.keep {c J : Cut} {gx gl gh B : Nat} {lo hi : Int} {w V V' : World} (h : JM c J gx gl gh B lo hi w V) (hb : Below B V V') : JM c J gx gl gh B lo hi w V' :=
  ⟨h.xc.below hb h.hx.1.1, h.xj.below hb h.hx.1.2, h.xl.below hb h.hx.2.1, h.xh.below hb h.hx.2.2, h.cc.below hb, h.cj.below hb, h.b.trans (hb.mono (Nat.le_of_lt h.hx.1.1)), Nat.le_trans h.hB hb.size, h.hx⟩
theorem JM.next {c J : Cut} {gx gl gh B : Nat} {lo hi : Int} {w V V' : World} (h : JM c J gx gl gh B lo hi w V) (hb : Below V.heap.size V V') : JM c J gx gl gh B lo hi w V' := h.keep (hb.mono h.hB)
theorem JM.drewN {c J : Cut} {gx gl gh B k : Nat} {lo hi : Int} {w V : World} (h : JM c J gx gl gh B lo hi w V) : JM c J gx gl gh B lo hi w (V.drewN k) := h.keep (below_drewN (Below.refl _ _) k)
theorem JM.set {c J : Cut} {gx gl gh B g k : Nat} {lo hi : Int} {w V : World} (h : JM c J gx gl gh B lo hi w V) (hg : B ≤ g) (v : Value) : JM c J gx gl gh B lo hi w (V.setCell ⟨g, k, none⟩ v) := h.keep ((Below.refl _ _).setCell (p := ⟨g, k, none⟩) hg v)
theorem JM.c1 {c J : Cut} {gx gl gh B : Nat} {lo hi : Int} {w V : World} (h : JM c J gx gl gh B lo hi w V) : CutAt V V.heap.size c := h.cc.more h.hB
theorem JM.j1 {c J : Cut} {gx gl gh B : Nat} {lo hi : Int} {w V : World} (h : JM c J gx gl gh B lo hi w V) : CutAt V V.heap.size J := h.cj.more h.hB
/-! An array of 41 numbers. -/
theorem arr41_info : (Try.prog.info? 67).map (fun i => i.size) = some 41 := by kernel_rfl
theorem arr41_und : Try.prog.underlying 67 = some (.array 41 3) := by kernel_rfl
theorem idx41 (W : World) : ∀ i : Nat, i < 41 → (Instr.index 67 (.agg (intsL 41 (fun _ => 0)).toArray) (.int .i64 (i : Int))).run Try.prog W = .ok (.int .i64 0) W
  | 0, _ => by kernel_rfl
  | 1, _ => by kernel_rfl
  | 2, _ => by kernel_rfl
  | 3, _ => by kernel_rfl
  | 4, _ => by kernel_rfl
  | 5, _ => by kernel_rfl
  | 6, _ => by kernel_rfl
  | 7, _ => by kernel_rfl
  | 8, _ => by kernel_rfl
  | 9, _ => by kernel_rfl
  | 10, _ => by kernel_rfl
  | 11, _ => by kernel_rfl
  | 12, _ => by kernel_rfl
  | 13, _ => by kernel_rfl
  | 14, _ => by kernel_rfl
  | 15, _ => by kernel_rfl
  | 16, _ => by kernel_rfl
  | 17, _ => by kernel_rfl
  | 18, _ => by kernel_rfl
  | 19, _ => by kernel_rfl
  | 20, _ => by kernel_rfl
  | 21, _ => by kernel_rfl
  | 22, _ => by kernel_rfl
  | 23, _ => by kernel_rfl
  | 24, _ => by kernel_rfl
  | 25, _ => by kernel_rfl
  | 26, _ => by kernel_rfl
  | 27, _ => by kernel_rfl
  | 28, _ => by kernel_rfl
  | 29, _ => by kernel_rfl
  | 30, _ => by kernel_rfl
  | 31, _ => by kernel_rfl
  | 32, _ => by kernel_rfl
  | 33, _ => by kernel_rfl
  | 34, _ => by kernel_rfl
  | 35, _ => by kernel_rfl
  | 36, _ => by kernel_rfl
  | 37, _ => by kernel_rfl
  | 38, _ => by kernel_rfl
  | 39, _ => by kernel_rfl
  | 40, _ => by kernel_rfl
  | n + 41, h => by omega
theorem zeros41 : zeros 41 = #[.int .i64 0, .int .i64 0, .int .i64 0, .int .i64 0, .int .i64 0, .int .i64 0, .int .i64 0, .int .i64 0, .int .i64 0, .int .i64 0, .int .i64 0, .int .i64 0, .int .i64 0, .int .i64 0, .int .i64 0, .int .i64 0, .int .i64 0, .int .i64 0, .int .i64 0, .int .i64 0, .int .i64 0, .int .i64 0, .int .i64 0, .int .i64 0, .int .i64 0, .int .i64 0, .int .i64 0, .int .i64 0, .int .i64 0, .int .i64 0, .int .i64 0, .int .i64 0, .int .i64 0, .int .i64 0, .int .i64 0, .int .i64 0, .int .i64 0, .int .i64 0, .int .i64 0, .int .i64 0, .int .i64 0] := by kernel_rfl
theorem sideIn {V : World} {A : Option Addr} {l : List Pt} {g o : Nat} {v : Value} (h : At V V.heap.size 2 sideC A l) (hf : ∀ b off, A = some ⟨b, off, none⟩ → b ≠ g) : At (V.setCell ⟨g, o, none⟩ v) (V.setCell ⟨g, o, none⟩ v).heap.size 2 sideC A l := fun k x hx => by
  obtain ⟨b, off, e, hb, hc⟩ := h k x hx
  have hne := hf b off e
  refine ⟨b, off, e, ?_, fun j u hu => (World.cell?_setCell_other _ _ _ _ (by intro e'; injection e' with e'; exact hne e'.symm)).trans (hc j u hu)⟩
  rw [World.size_setCell]
  exact hb
end
end Go.Proofs.Ytjlicbdnppodgaa
