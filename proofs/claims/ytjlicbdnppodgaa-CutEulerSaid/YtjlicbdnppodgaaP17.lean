import Derived.Test.YtjlicbdnppodgaaP16
import Derived.Test.YtjlicbdnppodgaaP6
namespace Go.Proofs.Ytjlicbdnppodgaa
open Go.RowKit
open Go.Maps (Keyed)
attribute [local go_sem] Oper.semAt_some
/-! The program: the pieces that have cells in a rectangle. -/
def cntR (c : Cut) (x0 y0 : Int) (m N : Nat) (pre : List (Fin N)) (p : Int) : Int := (pre.countP (fun k => at2 c (recC x0 y0 m k.1).1 (recC x0 y0 m k.1).2 == p) : Nat)
def pcF (c : Cut) (x0 y0 : Int) (m N : Nat) (pre : List (Fin N)) (p : Int) : Option Int := posO (cntR c x0 y0 m N pre p)
theorem cntR_bd (c : Cut) (x0 y0 : Int) (m N : Nat) (pre : List (Fin N)) (p : Int) : 0 ≤ cntR c x0 y0 m N pre p ∧ cntR c x0 y0 m N pre p ≤ pre.length := by
  unfold cntR
  have := List.countP_le_length (p := fun k : Fin N => at2 c (recC x0 y0 m k.1).1 (recC x0 y0 m k.1).2 == p) (l := pre)
  omega
theorem pcF_step (c : Cut) (x0 y0 : Int) (m N : Nat) (pre : List (Fin N)) (x : Fin N) (p : Int) : upK (pcF c x0 y0 m N pre) (at2 c (recC x0 y0 m x.1).1 (recC x0 y0 m x.1).2) p = pcF c x0 y0 m N (pre ++ [x]) p := by
  have h1 := cntR_bd c x0 y0 m N pre p
  unfold upK setO
  by_cases e : p = at2 c (recC x0 y0 m x.1).1 (recC x0 y0 m x.1).2
  · subst e
    rw [if_pos rfl]
    unfold pcF
    rw [posO_get (cntR_bd c x0 y0 m N pre _).1]
    have h3 : cntR c x0 y0 m N (pre ++ [x]) (at2 c (recC x0 y0 m x.1).1 (recC x0 y0 m x.1).2) = cntR c x0 y0 m N pre (at2 c (recC x0 y0 m x.1).1 (recC x0 y0 m x.1).2) + 1 := by
      unfold cntR
      rw [List.countP_append]
      simp
    rw [h3]
    unfold posO
    rw [if_pos (by omega)]
  · rw [if_neg e]
    unfold pcF
    congr 1
    unfold cntR
    rw [List.countP_append]
    have : (at2 c (recC x0 y0 m x.1).1 (recC x0 y0 m x.1).2 == p) = false := by simp; exact fun e' => e e'.symm
    simp [this]
/-- Has a piece a cell in a rectangle? -/
def HasR (c : Cut) (x0 y0 x1 y1 p : Int) : Prop := ∃ x y, (x0 ≤ x ∧ x < x1) ∧ (y0 ≤ y ∧ y < y1) ∧ at2 c x y = p
theorem recC_in {x0 y0 x1 y1 : Int} {m h N : Nat} (hm : (m : Int) = x1 - x0) (hh : (h : Int) = y1 - y0) (hN : N = h * m) (k : Fin N) (h1 : 1 ≤ m) : (x0 ≤ (recC x0 y0 m k.1).1 ∧ (recC x0 y0 m k.1).1 < x1) ∧ (y0 ≤ (recC x0 y0 m k.1).2 ∧ (recC x0 y0 m k.1).2 < y1) := by
  have hk := k.2
  have a1 := Nat.mod_lt k.1 (show m > 0 by omega)
  have a2 : k.1 / m < h := by rw [Nat.div_lt_iff_lt_mul (by omega)]; omega
  unfold recC
  dsimp only
  generalize k.1 / m = q at *
  generalize k.1 % m = r at *
  omega
theorem recC_on {x0 y0 x1 y1 : Int} {m h N : Nat} (hm : (m : Int) = x1 - x0) (hh : (h : Int) = y1 - y0) (hN : N = h * m) {x y : Int} (hx : x0 ≤ x ∧ x < x1) (hy : y0 ≤ y ∧ y < y1) : ∃ k : Fin N, recC x0 y0 m k.1 = (x, y) := by
  obtain ⟨b, hb⟩ : ∃ b : Nat, (b : Int) = x - x0 := ⟨(x - x0).toNat, by omega⟩
  obtain ⟨a, ha⟩ : ∃ a : Nat, (a : Int) = y - y0 := ⟨(y - y0).toNat, by omega⟩
  have hlb : b < m := by omega
  have hla : a < h := by omega
  have hkN : a * m + b < N := by
    rw [hN]
    have : a * m + m ≤ h * m := by rw [← Nat.succ_mul]; exact Nat.mul_le_mul_right m hla
    omega
  have hmod : (a * m + b) % m = b := by rw [Nat.mul_comm, Nat.mul_add_mod, Nat.mod_eq_of_lt hlb]
  have hdiv : (a * m + b) / m = a := by rw [Nat.mul_comm, Nat.mul_add_div (by omega), Nat.div_eq_of_lt hlb]; rfl
  refine ⟨⟨a * m + b, hkN⟩, ?_⟩
  unfold recC
  dsimp only
  rw [hmod, hdiv]
  ext <;> (dsimp only; omega)
/-- What pieces hands back, as a map. -/
structure PcsOk (c : Cut) (x0 y0 x1 y1 : Int) (f : Int → Option Int) : Prop where
  has : ∀ p, (f p).isSome = true ↔ HasR c x0 y0 x1 y1 p
  pos : ∀ p, 0 < (f p).getD 0 ↔ HasR c x0 y0 x1 y1 p
  bd : ∀ p, 0 ≤ (f p).getD 0 ∧ (f p).getD 0 ≤ 1000
theorem pcs_ok {c : Cut} {x0 y0 x1 y1 : Int} {m h N : Nat} (hm : (m : Int) = x1 - x0) (hh : (h : Int) = y1 - y0) (hN : N = h * m) (h1 : 1 ≤ m) (hN2 : N ≤ 1000) : PcsOk c x0 y0 x1 y1 (pcF c x0 y0 m N (List.finRange N)) := by
  have key : ∀ p, 0 < cntR c x0 y0 m N (List.finRange N) p ↔ HasR c x0 y0 x1 y1 p := fun p => by
    have : 0 < cntR c x0 y0 m N (List.finRange N) p ↔ 0 < (List.finRange N).countP (fun k => at2 c (recC x0 y0 m k.1).1 (recC x0 y0 m k.1).2 == p) := by unfold cntR; omega
    rw [this, List.countP_pos_iff]
    constructor
    · rintro ⟨k, -, hk⟩
      have hin := recC_in hm hh hN k h1
      exact ⟨_, _, hin.1, hin.2, by simpa using hk⟩
    · rintro ⟨x, y, hx, hy, e⟩
      obtain ⟨k, hk⟩ := recC_on hm hh hN hx hy
      exact ⟨k, List.mem_finRange k, by rw [hk]; simpa using e⟩
  have hb := fun p => cntR_bd c x0 y0 m N (List.finRange N) p
  refine ⟨fun p => ?_, fun p => ?_, fun p => ?_⟩
  · rw [← key p]
    unfold pcF posO
    split <;> simp_all
  · rw [← key p]
    unfold pcF
    rw [posO_get (hb p).1]
  · unfold pcF
    rw [posO_get (hb p).1]
    have := hb p
    simp at this
    omega
def RetPcs (c : Cut) (x0 y0 x1 y1 : Int) (w : World) (e : Ending) (w' : World) : Prop := ∃ b f, e = .returned (.map (some b)) ∧ w.heap.size ≤ b ∧ PcsOk c x0 y0 x1 y1 f ∧ MapIs Try.prog 3 vvI vvI b f w' ∧ Below w.heap.size w w'
structure PcI (c : Cut) (bm bo b2 b3 b5 : Nat) (x0 y0 x1 y1 : Int) (m N B : Nat) (w : World) (pre : List (Fin N)) (W : World) : Prop where
  pic : PicAt c bm W
  out : MapIs Try.prog 3 vvI vvI bo (pcF c x0 y0 m N pre) W
  x2 : Bx W b2 (picL c bm)
  x3 : Bx W b3 (rectL x0 y0 x1 y1)
  x5 : Bx W b5 [.map (some bo)]
  b : Below w.heap.size w W
  z : B ≤ W.heap.size
theorem PcI.up {c : Cut} {bm bo b2 b3 b5 : Nat} {x0 y0 x1 y1 : Int} {m N B : Nat} {w : World} {pre : List (Fin N)} {W W' : World} {row : Option Nat} (h : PcI c bm bo b2 b3 b5 x0 y0 x1 y1 m N B w pre W) (hB : bm < B ∧ bo < B ∧ b2 < B ∧ b3 < B ∧ b5 < B ∧ w.heap.size ≤ B) (hg : W.grownBy W' row) (hr : ∀ q, row = some q → B ≤ q) : PcI c bm bo b2 b3 b5 x0 y0 x1 y1 m N B w pre W' := by
  obtain ⟨h1, h2, h3, h4, h5, h6⟩ := hB
  have ne : ∀ b, b < B → some b ≠ row := fun b hb e => by have := hr b e.symm; omega
  have ne' : ∀ b, b < B → ∀ r, row = some r → b ≠ r := fun b hb r e e' => by have := hr r e; omega
  exact ⟨h.pic.grown hg (ne _ h1), h.out.grown hg (ne _ h2), h.x2.gk hg (ne' _ h3), h.x3.gk hg (ne' _ h4), h.x5.gk hg (ne' _ h5), h.b.grown hg h.b.size (fun q e => by have := hr q e; omega), Nat.le_trans h.z hg.size⟩
theorem PcI.own {c : Cut} {bm bo b2 b3 b5 : Nat} {x0 y0 x1 y1 : Int} {m N B : Nat} {w : World} (hB : bm < B ∧ bo < B ∧ b2 < B ∧ b3 < B ∧ b5 < B ∧ w.heap.size ≤ B) : OwnFrom B (PcI c bm bo b2 b3 b5 x0 y0 x1 y1 m N B w) := by
  rintro pre A A' row h hg hr
  exact h.up hB hg (fun r e => (hr r e).1)
set_option maxRecDepth 100000 in
set_option maxHeartbeats 2000000 in
theorem pieces_any (c : Cut) (bm : Nat) (x0 y0 x1 y1 : Int) (n : Nat) (w : World) (ok : OkC c) (hp : PicAt c bm w) (hR : Rec c n x0 y0 x1 y1) : Calls Try.prog 69 #[.agg #[.int .i64 c.wide, .int .i64 c.high, .slice c.A c.piece.length c.c, .map (some (bm))], .agg #[.int .i64 x0, .int .i64 y0, .int .i64 x1, .int .i64 y1]] w (RetPcs c x0 y0 x1 y1 w) := by
  have hmm := @run_makeMap Try.prog
  have hlt := hp.lt
  have OK := Lib.hid ok
  have hx := hR.x
  have hy := hR.y
  have hw := ok.w
  have hh := ok.h
  obtain ⟨m, hm⟩ : ∃ m : Nat, (m : Int) = x1 - x0 := ⟨(x1 - x0).toNat, by omega⟩
  obtain ⟨h, hh2⟩ : ∃ h : Nat, (h : Int) = y1 - y0 := ⟨(y1 - y0).toNat, by omega⟩
  obtain ⟨N, hN⟩ : ∃ N, N = h * m := ⟨_, rfl⟩
  have hN2 : N ≤ 1000 := by rw [hN]; exact Nat.le_trans (Nat.mul_le_mul (show h ≤ 12 by omega) (show m ≤ 12 by omega)) (by decide)
  have HOKP := Lib.hid (pcs_ok (c := c) hm hh2 hN (by omega) hN2)
  have HIN := Lib.hid (fun k : Fin N => recC_in hm hh2 hN k (by omega))
  have n0 := nxA w (.cells #[.int .i64 c.wide, .int .i64 c.high, .slice c.A c.piece.length c.c, .map (some (bm))] 71)
  have n1 := nxA (w.alloc (.cells #[.int .i64 c.wide, .int .i64 c.high, .slice c.A c.piece.length c.c, .map (some (bm))] 71)) (.cells #[.int .i64 x0, .int .i64 y0, .int .i64 x1, .int .i64 y1] 98)
  have n2 := nxA ((w.alloc (.cells #[.int .i64 c.wide, .int .i64 c.high, .slice c.A c.piece.length c.c, .map (some (bm))] 71)).alloc (.cells #[.int .i64 x0, .int .i64 y0, .int .i64 x1, .int .i64 y1] 98)) (.map #[] 0)
  have n3 := nxA (((w.alloc (.cells #[.int .i64 c.wide, .int .i64 c.high, .slice c.A c.piece.length c.c, .map (some (bm))] 71)).alloc (.cells #[.int .i64 x0, .int .i64 y0, .int .i64 x1, .int .i64 y1] 98)).alloc (.map #[] 0)) (.cells #[.map (some (w.heap.size + 1 + 1))] 114)
  have n4 := nxA ((((w.alloc (.cells #[.int .i64 c.wide, .int .i64 c.high, .slice c.A c.piece.length c.c, .map (some (bm))] 71)).alloc (.cells #[.int .i64 x0, .int .i64 y0, .int .i64 x1, .int .i64 y1] 98)).alloc (.map #[] 0)).alloc (.cells #[.map (some (w.heap.size + 1 + 1))] 114)) (.cells #[.int .i64 x0, .int .i64 y0, .int .i64 x1, .int .i64 y1] 98)
  have e0 := ((((Bx.new w #[.int .i64 c.wide, .int .i64 c.high, .slice c.A c.piece.length c.c, .map (some (bm))] 71).next n1).next n2).next n3).next n4
  have e1 := (((Bx.new (w.alloc (.cells #[.int .i64 c.wide, .int .i64 c.high, .slice c.A c.piece.length c.c, .map (some (bm))] 71)) #[.int .i64 x0, .int .i64 y0, .int .i64 x1, .int .i64 y1] 98).next n2).next n3).next n4
  have e2 := MapIs.next (MapIs.next (MapIs.made Try.prog 3 vvI vvI ((w.alloc (.cells #[.int .i64 c.wide, .int .i64 c.high, .slice c.A c.piece.length c.c, .map (some (bm))] 71)).alloc (.cells #[.int .i64 x0, .int .i64 y0, .int .i64 x1, .int .i64 y1] 98))) n3) n4
  have e3 := (Bx.new (((w.alloc (.cells #[.int .i64 c.wide, .int .i64 c.high, .slice c.A c.piece.length c.c, .map (some (bm))] 71)).alloc (.cells #[.int .i64 x0, .int .i64 y0, .int .i64 x1, .int .i64 y1] 98)).alloc (.map #[] 0)) #[.map (some (w.heap.size + 1 + 1))] 114).next n4
  have e4 := Bx.new ((((w.alloc (.cells #[.int .i64 c.wide, .int .i64 c.high, .slice c.A c.piece.length c.c, .map (some (bm))] 71)).alloc (.cells #[.int .i64 x0, .int .i64 y0, .int .i64 x1, .int .i64 y1] 98)).alloc (.map #[] 0)).alloc (.cells #[.map (some (w.heap.size + 1 + 1))] 114)) #[.int .i64 x0, .int .i64 y0, .int .i64 x1, .int .i64 y1] 98
  have hb := n0.trans ((n1.trans ((n2.trans ((n3.trans (n4.mono n3.size)).mono n2.size)).mono n1.size)).mono n0.size)
  simp only [World.size_alloc] at e1 e2 e3 e4
  have hsz : (((((w.alloc (.cells #[.int .i64 c.wide, .int .i64 c.high, .slice c.A c.piece.length c.c, .map (some (bm))] 71)).alloc (.cells #[.int .i64 x0, .int .i64 y0, .int .i64 x1, .int .i64 y1] 98)).alloc (.map #[] 0)).alloc (.cells #[.map (some (w.heap.size + 1 + 1))] 114)).alloc (.cells #[.int .i64 x0, .int .i64 y0, .int .i64 x1, .int .i64 y1] 98)).heap.size = w.heap.size + 1 + 1 + 1 + 1 + 1 := by simp
  have HI0 := Lib.hid (show PcI c bm (w.heap.size + 1 + 1) (w.heap.size) (w.heap.size + 1) (w.heap.size + 1 + 1 + 1) x0 y0 x1 y1 m N (w.heap.size + 1 + 1 + 1 + 1 + 1) w [] _ from ⟨MapIs.next hp hb, e2.eq (fun p => rfl), e0, e1, e3, hb, by rw [hsz]; exact Nat.le_refl _⟩)
  have X4 := Lib.hid e4
  have HSZ := Lib.hid hsz
  have HM := Lib.hid (show (m : Int) = x1 - x0 ∧ (h : Int) = y1 - y0 ∧ N = h * m from ⟨hm, hh2, hN⟩)
  clear n0 n1 n2 n3 n4 e0 e1 e2 e3 e4 hb hsz hR hp hm hh2 hN ok
  refine (callsIn_wide (n := 6)).1 ?_
  refine callsIn_of_wp_marks Try.func69 rfl trivial ?_ rfl
  simp only [Try.ntmps69, List.size_toArray, List.length_cons, List.length_nil, Nat.reduceAdd, Nat.reduceSub, Array.replicate_succ, Array.replicate_zero, List.push_toArray, List.append_toArray, List.nil_append, List.cons_append]
  gi_wp2_with fail
  refine ⟨trivial, (callsIn_wide.2 (cells_any _ _ _ _ _)).mono ?_⟩
  rintro e w' ⟨rfl, rfl⟩
  gi_wp2_with fail
  clear hmm
  generalize (((((w.alloc (.cells #[.int .i64 c.wide, .int .i64 c.high, .slice c.A c.piece.length c.c, .map (some (bm))] 71)).alloc (.cells #[.int .i64 x0, .int .i64 y0, .int .i64 x1, .int .i64 y1] 98)).alloc (.map #[] 0)).alloc (.cells #[.map (some (w.heap.size + 1 + 1))] 114)).alloc (.cells #[.int .i64 x0, .int .i64 y0, .int .i64 x1, .int .i64 y1] 98)) = W5 at *
  have hseq := cells1_stops 5 (by omega) x0 y0 x1 y1 m h N HM.out.1 HM.out.2.1 HM.out.2.2 (w.heap.size + 1 + 1 + 1 + 1) W5 (by have := HM.out; omega) X4.out
  have hz5 := HSZ.out
  have HWB := Lib.hid (show bm < W5.heap.size ∧ w.heap.size + 1 + 1 < W5.heap.size ∧ w.heap.size < W5.heap.size ∧ w.heap.size + 1 < W5.heap.size ∧ w.heap.size + 1 + 1 + 1 < W5.heap.size ∧ w.heap.size ≤ W5.heap.size from by omega)
  refine wpIn_rangeFunc_ownH rfl (by omega) (gf := 78) (lb := #[.pointer (some ⟨w.heap.size + 1 + 1 + 1 + 1, 0, none⟩)]) rfl trivial (enters_of Try.func78 (by kernel_rfl) rfl)
    hseq (fun h k => KpC.trans h k) (kpc_put X4.out.lt) (Below.refl _ _) (fun _ => rfl)
    (PcI c bm (w.heap.size + 1 + 1) (w.heap.size) (w.heap.size + 1) (w.heap.size + 1 + 1 + 1) x0 y0 x1 y1 m N W5.heap.size w) (fun _ _ _ => False) (PcI.own HWB.out) (fun _ _ _ _ _ h _ _ => h)
    (by rw [HSZ.out]; exact HI0.out)
    (fun x a' W' => ∃ bx, W5.heap.size ≤ bx ∧ Bx W' bx [.int .i64 (recC x0 y0 m x.1).1, .int .i64 (recC x0 y0 m x.1).2] ∧ a' = { tmps := #[.agg #[.int .i64 c.wide, .int .i64 c.high, .slice c.A c.piece.length c.c, .map (some (bm))], .agg #[.int .i64 x0, .int .i64 y0, .int .i64 x1, .int .i64 y1], .pointer (some ⟨w.heap.size, 0, none⟩), .pointer (some ⟨w.heap.size + 1, 0, none⟩), .map none, .pointer (some ⟨w.heap.size + 1 + 1 + 1, 0, none⟩), .pointer (some ⟨bx, 0, none⟩), .map (some (w.heap.size + 1 + 1)), .agg #[.int .i64 x0, .int .i64 y0, .int .i64 x1, .int .i64 y1], .func (.func 78) #[] #[.pointer (some ⟨w.heap.size + 1 + 1 + 1 + 1, 0, none⟩)], .agg #[.int .i64 (recC x0 y0 m x.1).1, .int .i64 (recC x0 y0 m x.1).2], undef, undef, undef, undef, undef, undef, undef], defers := [] })
    (fun k a' _ A B row h hg hr => by obtain ⟨bx, h1, h2, h3⟩ := h; exact ⟨bx, h1, h2.nc (by simp) hg (fun r e => (hr r e).2), h3⟩)
    ?assign ?body ?done ?stop
  case assign =>
    rintro l pre x W' K hI hK
    dsimp only [encR]
    gi_wp2
    have hgA := World.grownBy_alloc W' (.cells #[.int .i64 (recC x0 y0 m x.1).1, .int .i64 (recC x0 y0 m x.1).2] 90) none
    refine hK _ _ ((KeepsOthers.alloc _ _).from _) ⟨by simp, hgA.block _ (by have := hI.z; have := X4.out.lt; omega) (by simp)⟩ ?_ ⟨W'.heap.size, hI.z, Bx.new _ _ _, rfl⟩
    exact hI.up HWB.out hgA (fun r e => by cases e)
  case body =>
    rintro l pre x a' W' hl ⟨r, hr⟩ hI ⟨bx, hbx, hXb, rfl⟩ hlen
    have hqn := HIN.out x
    have hst := pcF_step c x0 y0 m N pre x
    obtain ⟨q, hq⟩ : ∃ q, q = recC x0 y0 m x.1 := ⟨_, rfl⟩
    rw [← hq] at hqn hXb ⊢
    simp only [← hq] at hst
    have HST := Lib.hid hst
    have HI := Lib.hid hI
    have hin : isIn c q.1 q.2 = true := by unfold isIn inS; simp only [Bool.and_eq_true, decide_eq_true_eq]; omega
    have hpv : (picF c (q.1, q.2)).getD 0 = at2 c q.1 q.2 := by unfold picF; rw [if_pos hin]; rfl
    have hqb := OK.out.at_bd q.1 q.2
    have KK := Lib.hid (show ∀ W : World, PicAt c bm W → Bx W (w.heap.size + 1 + 1 + 1) [.map (some (w.heap.size + 1 + 1))] → Bx W (w.heap.size) (picL c bm) → Bx W bx [.int .i64 q.1, .int .i64 q.2] → (W.cell? ⟨w.heap.size + 1 + 1 + 1, 0, none⟩ = some (.map (some (w.heap.size + 1 + 1))) ∧ W.cell? ⟨w.heap.size, 3, none⟩ = some (.map (some bm)) ∧ W.cell? ⟨bx, 0, none⟩ = some (.int .i64 q.1) ∧ W.cell? ⟨bx, 1, none⟩ = some (.int .i64 q.2) ∧ (Instr.lookup 69 (.map (some bm)) (.agg #[.int .i64 q.1, .int .i64 q.2]) false).run Try.prog W = .ok (.int .i64 (at2 c q.1 q.2)) W) from fun W hpc hx5 hx2 hxb => by
      have h1 := (PicAt.look hpc q.1 q.2 ⟨by omega, by omega⟩ ⟨by omega, by omega⟩).1
      rw [hpv] at h1
      exact ⟨hx5.c 0 _ rfl, hx2.c 3 _ rfl, hxb.c 0 _ rfl, hxb.c 1 _ rfl, h1⟩)
    have HXB := Lib.hid hXb
    have HCN := Lib.hid (show ∀ W : World, PcI c bm (w.heap.size + 1 + 1) (w.heap.size) (w.heap.size + 1) (w.heap.size + 1 + 1 + 1) x0 y0 x1 y1 m N W5.heap.size w pre W → Calls Try.prog 76 #[.map (some (w.heap.size + 1 + 1)), .int .i64 (at2 c q.1 q.2)] W (RetCount 3 vvI (w.heap.size + 1 + 1) (pcF c x0 y0 m N pre) (at2 c q.1 q.2) W) from fun W h => count_int_any (w.heap.size + 1 + 1) _ _ W h.out ⟨by omega, by omega⟩ (by
      have h1 := cntR_bd c x0 y0 m N pre (at2 c q.1 q.2)
      unfold pcF
      rw [posO_get h1.1]
      omega))
    have hdr : W'.grownBy W'.drew none := ⟨rfl, rfl, rfl, Nat.le_refl _, fun _ _ _ => rfl⟩
    have HI1 := Lib.hid (hI.up HWB.out hdr (fun r e => by cases e))
    have HX1 := Lib.hid hXb.drew
    have HMM := Lib.hid (show upK (pcF c x0 y0 m N pre) (at2 c q.1 q.2) = pcF c x0 y0 m N (pre ++ [x]) from funext fun p => HST.out p)
    have HLT := Lib.hid (show bx ≠ w.heap.size + 1 + 1 from by omega)
    clear hI hXb hq hseq hst hpv hin hdr
    gi_wp2_with fail
    refine region_in (S := (fun W => W.cell? ⟨w.heap.size + 1 + 1 + 1, 0, none⟩ = some (.map (some (w.heap.size + 1 + 1))) ∧ W.cell? ⟨w.heap.size, 3, none⟩ = some (.map (some bm)) ∧ W.cell? ⟨bx, 0, none⟩ = some (.int .i64 q.1) ∧ W.cell? ⟨bx, 1, none⟩ = some (.int .i64 q.2) ∧ (Instr.lookup 69 (.map (some bm)) (.agg #[.int .i64 q.1, .int .i64 q.2]) false).run Try.prog W = .ok (.int .i64 (at2 c q.1 q.2)) W)) (by kernel_rfl) (by kernel_rfl) ?_ (fun hHeld => ?_)
    · (try dsimp only); exact KK.out _ HI1.out.pic HI1.out.x5 HI1.out.x2 HX1.out
    refine htake (i := 0) (v := ?v1) rfl (by kernel_rfl) (by kernel_rfl) (by kernel_rfl) (fun _ _ _ h => h) (Or.inl ⟨by rfl, ?hy1⟩) (by assumption) ?_
    case hy1 => (intro w hSw; (try dsimp only at hSw); go_simp; try (with_reducible rfl))
    try simp only [Act.put, List.setIfInBounds_toArray, List.set_cons_zero, List.set_cons_succ]
    refine htake (i := 1) (v := ?v2) rfl (by kernel_rfl) (by kernel_rfl) (by kernel_rfl) (fun _ _ _ h => h) (Or.inl ⟨by rfl, ?hy2⟩) (by assumption) ?_
    case hy2 => (intro w hSw; (try dsimp only at hSw); go_simp; try (with_reducible rfl))
    try simp only [Act.put, List.setIfInBounds_toArray, List.set_cons_zero, List.set_cons_succ]
    refine htake (i := 2) (v := ?v3) rfl (by kernel_rfl) (by kernel_rfl) (by kernel_rfl) (fun _ _ _ h => h) (Or.inl ⟨by rfl, ?hy3⟩) (by assumption) ?_
    case hy3 => (intro w hSw; (try dsimp only at hSw); go_simp; try (with_reducible rfl))
    try simp only [Act.put, List.setIfInBounds_toArray, List.set_cons_zero, List.set_cons_succ]
    refine htake (i := 3) (v := ?v4) rfl (by kernel_rfl) (by kernel_rfl) (by kernel_rfl) (fun _ _ _ h => h) (Or.inl ⟨by rfl, ?hy4⟩) (by assumption) ?_
    case hy4 => (intro w hSw; (try dsimp only at hSw); go_simp; try (with_reducible rfl))
    try simp only [Act.put, List.setIfInBounds_toArray, List.set_cons_zero, List.set_cons_succ]
    refine htake (i := 4) (v := ?v5) rfl (by kernel_rfl) (by kernel_rfl) (by kernel_rfl) (fun _ _ _ h => h) (Or.inl ⟨by rfl, ?hy5⟩) (by assumption) ?_
    case hy5 => (intro w hSw; (try dsimp only at hSw); go_simp; try (with_reducible rfl))
    try simp only [Act.put, List.setIfInBounds_toArray, List.set_cons_zero, List.set_cons_succ]
    refine wpAnyH_ready (rs := [5]) (by kernel_rfl) (by simp) ?_
    refine hcons rfl (fun K hK => ?_) (AllReadyH.nil)
    go_simp
    (refine (HCN.out _ HI1.out).mono ?_); rintro e w4 ⟨⟨v, rfl⟩, hm4, hg4⟩; have hw4 : PicAt c bm w4 := HI1.out.pic.grown hg4 (fun e => by injection e with e; omega); have hx54 := HI1.out.x5.gk hg4 (fun r e => by injection e with e; omega); have hx24 := HI1.out.x2.gk hg4 (fun r e => by injection e with e; omega); have hx34 := HI1.out.x3.gk hg4 (fun r e => by injection e with e; omega); have hxb4 := HX1.out.gk hg4 (fun r e => by injection e with e; have := HLT.out; omega)
    refine hK.out _ _ ?_ (fun hHeld => ?_)
    · (try dsimp only); exact KK.out _ hw4 hx54 hx24 hxb4
    clear hK K
    try simp only [Act.put, List.setIfInBounds_toArray, List.set_cons_zero, List.set_cons_succ]
    refine wpAnyH_done (by kernel_rfl) ?_ _
    dsimp only [Only]
    iterate 7 (try clear hHeld)
    dsimp only [Exit.inBlock, Exit.then]
    rw [HMM.out] at hm4
    have HF := Lib.hid (show KeepsFrom W5.heap.size W' w4 ∧ KpC (w.heap.size + 1 + 1 + 1 + 1) W' w4 ∧ PcI c bm (w.heap.size + 1 + 1) (w.heap.size) (w.heap.size + 1) (w.heap.size + 1 + 1 + 1) x0 y0 x1 y1 m N W5.heap.size w (pre ++ [x]) w4 from ⟨((KeepsOthers.drew W').from _).trans (KeepsFrom.of_grownBy hg4 (fun j e => by injection e with e; omega)), ⟨hg4.size, hg4.block _ (by have h1 := HI1.out.z; have h2 := X4.out.lt; exact Nat.lt_of_lt_of_le h2 h1) (fun e => by injection e with e; omega)⟩, ⟨hw4, hm4, hx24, hx34, hx54, HI1.out.b.grown hg4 HI1.out.b.size (fun q e => by injection e with e; omega), Nat.le_trans HI1.out.z hg4.size⟩⟩)
    clear hw4 hm4 hx24 hx34 hx54 hxb4 hg4
    gi_wp2_with fail
    exact HF.out
  case done =>
    rintro D xs W' hD hS hI hK
    have HI := Lib.hid hI
    have x5 := hI.x5.c 0 _ rfl
    clear hI
    gi_wp2_with fail
    refine ⟨by simp, .inl ⟨_, _, rfl, run_takeDeferred hK, ?_⟩⟩
    have hg := grownBy_putObj' W' D (.deferred none)
    refine ⟨_, results_tmp rfl _ _ _, w.heap.size + 1 + 1, _, rfl, by omega, ?_, HI.out.out.grown hg (fun e => by injection e with e; omega), HI.out.b.grown hg HI.out.b.size (fun q e => by injection e with e; omega)⟩
    rw [hS]
    exact HOKP.out
  case stop =>
    rintro D cc pre W' _ _ h _
    exact h.elim
end Go.Proofs.Ytjlicbdnppodgaa
