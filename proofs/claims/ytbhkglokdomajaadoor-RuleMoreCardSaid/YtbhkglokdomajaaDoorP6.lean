import Derived.Test.YtbhkglokdomajaaDoorP5
import Derived.Test.YtbhkglokdomajaaDoorP4
import Derived.Shelf.Abstract
import Derived.Deep.DeepCutAuto
namespace Go.Proofs.YtbhkglokdomajaaDoor
open Go.RowKit
attribute [local go_sem] Oper.semAt_some
/-! The program: a stint is run. -/
theorem Bx.nc {W W' : World} {row : Option Nat} {b : Nat} {vs : List Value} (h : Bx W b vs) (hn : 0 < vs.length) (hg : W.grownBy W' row) (hr : ∀ r, row = some r → ∃ o : Obj, W.heap[r]? = some o ∧ o.isCells = false) : Bx W' b vs := by
  obtain ⟨o, ho, hc⟩ := cells_of_cell (h.c 0 _ (List.getElem?_eq_getElem hn))
  have hk := grownBy_keeps_cells hg hr ho hc
  exact ⟨Nat.lt_of_lt_of_le h.lt hg.size, fun j u hu => (World.cell?_of_block (a := ⟨b, j, none⟩) hk).trans (h.c j u hu), fun j => (World.frozen?_of_block (a := ⟨b, j, none⟩) hk).trans (h.fr j)⟩
theorem kf_below {B : Nat} {W W' : World} (h : Below W.heap.size W W') : KeepsFrom B W W' := (KeepsOthers.of_grownBy (only_of_below h none) (fun _ _ e => by cases e)).from B
theorem kb_put {n0 : Nat} {w : World} (hn : n0 ≤ w.heap.size) (W : World) (l : Nat) (o o' : Obj) (hl : w.heap.size ≤ l) (h : W.heap[l]? = some o) (h1 : o.isCells = false) (h2 : o.isWalk = false) : Below n0 W (W.putObj l o') := belowK_b hn W l o o' hl h h1 h2
def ranL (r : Nat → Int) : List Value := [.int .i64 (r 0), .int .i64 (r 1), .int .i64 (r 2), .int .i64 (r 3), .int .i64 (r 4)]
theorem ranL_get {f : Nat → Int} {k : Nat} (hk : k < 5) : (ranL f)[k]? = some (.int .i64 (f k)) := by
  rcases (by omega : k = 0 ∨ k = 1 ∨ k = 2 ∨ k = 3 ∨ k = 4) with rfl | rfl | rfl | rfl | rfl <;> rfl
theorem ranL_set {f : Nat → Int} {k : Nat} (hk : k < 5) (v : Int) : (ranL f).set k (.int .i64 v) = ranL (fun i => if i = k then v else f i) := by
  rcases (by omega : k = 0 ∨ k = 1 ∨ k = 2 ∨ k = 3 ∨ k = 4) with rfl | rfl | rfl | rfl | rfl <;> rfl
theorem blkSet {W : World} {b q : Nat} (h : b ≠ q) (o : Nat) (v : Value) : (W.setCell ⟨b, o, none⟩ v).heap[q]? = W.heap[q]? := by
  unfold World.setCell; rw [Array.getElem?_modify, if_neg (by show ¬ b = q; exact h)]
theorem setCells_blk (b q : Nat) (h : b ≠ q) : ∀ (vs : List Value) (j : Nat) (W : World), (setCells W b j vs).heap[q]? = W.heap[q]?
  | [], _, _ => rfl
  | v :: vs, j, _ => (setCells_blk b q h vs (j + 1) _).trans (blkSet h j v)
theorem loadR {w : World} {b : Nat} {a0 a1 a2 a3 a4 : Value} (h : Bx w b [a0, a1, a2, a3, a4]) : (loadVar 91 ⟨b, 0, none⟩).run Tryd.prog w = .ok (.agg #[a0, a1, a2, a3, a4]) w := by
  have c0 := h.c 0 _ rfl
  have c1 := h.c 1 _ rfl
  have c2 := h.c 2 _ rfl
  have c3 := h.c 3 _ rfl
  have c4 := h.c 4 _ rfl
  clear h
  go_simp
def zer (r : Nat → Int) (pre : List (Fin 5)) : Nat → Int := fun k => if (pre.map Fin.val).contains k then 0 else r k
/-- Between two rounds of the range over the blades that are bent. -/
structure RnI (d : Die) (A2 : Option Addr) (n2 c2 : Nat) (r : Nat → Int) (w : World) (pre : List (Fin 5)) (W : World) : Prop where
  m : Bx W w.heap.size (mountL d A2 n2 c2)
  r : Bx W (w.heap.size + 1) (ranL (zer r pre))
  o : Bx W (w.heap.size + 1 + 1) (ranL fun _ => 0)
  b : Below w.heap.size w W
theorem RnI.own (d : Die) (A2 : Option Addr) (n2 c2 : Nat) (r : Nat → Int) (w : World) {B : Nat} (hB : w.heap.size ≤ B) : OwnFrom B (RnI d A2 n2 c2 r w) := by
  rintro pre W W' row ⟨h1, h2, h3, h4⟩ hg hr
  have hr' : ∀ r, row = some r → ∃ o : Obj, W.heap[r]? = some o ∧ o.isCells = false := fun r e => (hr r e).2
  exact ⟨h1.nc (by simp [mountL]) hg hr', h2.nc (by simp [ranL]) hg hr', h3.nc (by simp [ranL]) hg hr', h4.grown hg h4.size (fun k e => Nat.le_trans hB (hr k e).1)⟩
def badI (o : Option Nat) : Int := match o with
  | some k => (k : Int)
  | none => -1
/-- What a stint's run hands back: how long each blade has run, and the first one that can be off too far. -/
def runRes (d : Die) (t : Stint) (r : Nat → Int) (set : Nat) : Value := .tuple #[.agg (ranL (runR d.blades.length r set t.n)).toArray, .int .i64 (badI (badS d.blades (d.bound + t.more) (runR d.blades.length r set t.n)))]
/-- The round of the loop over all blades. -/
def R52 (D : Nat) (d : Die) (A2 : Option Addr) (n2 c2 bm be : Nat) (r2 : Nat → Int) (n lim : Int) (V : World) (i b : Value) (W : World) : Prop := ∃ k : Nat, k ≤ d.blades.length ∧ i = .int .i64 k ∧ b = .int .i64 (badI (badTo d.blades lim (fun q => r2 q + n) k)) ∧ Bx W bm (mountL d A2 n2 c2) ∧ Bx W (bm + 1) (ranL fun q => r2 q + if q < k then n else 0) ∧ Bx W (bm + 1 + 1) (ranL fun _ => 0) ∧ Bx W be [.func (.func 63) #[] #[]] ∧ Below bm V W ∧ W.heap[D]? = some (.deferred (some []))
set_option maxRecDepth 100000 in
set_option maxHeartbeats 1000000 in
theorem run_any (d : Die) (A2 : Option Addr) (c2 : Nat) (l : List Stint) (r : Nat → Int) (set j : Nat) (w : World) (ok : OkD d) (okl : OkL l) (hj : j < l.length) (hset : set < 2 ^ d.blades.length) (hr : ∀ k, 0 ≤ r k ∧ r k ≤ 6000) (hd : DieAt w w.heap.size d) (hs : At w w.heap.size 2 Stint.cells A2 l) (he : Env w) :
    Calls Tryd.prog 52 #[.agg #[.slice d.A d.blades.length d.c, .int .i64 d.bound, .int .i64 d.stop, .int .i64 d.bend, .slice A2 l.length c2], .agg #[.int .i64 (r 0), .int .i64 (r 1), .int .i64 (r 2), .int .i64 (r 3), .int .i64 (r 4)], .int .i64 set, .int .i64 j] w
      (Ret (runRes d (l.getD j ⟨0, 0⟩) r set) w) := by
  have hset32 : set < 32 := Nat.lt_of_lt_of_le hset (Nat.pow_le_pow_right (by omega) ok.nb.2 : 2 ^ d.blades.length ≤ 2 ^ 5)
  refine (callsIn_wide (n := 6)).1 ?_
  refine callsIn_of_wp_marks Tryd.func52 rfl trivial ?_ rfl
  simp only [Tryd.ntmps52, List.size_toArray, List.length_cons, List.length_nil, Nat.reduceAdd, Nat.reduceSub, Array.replicate_succ, Array.replicate_zero, List.push_toArray, List.append_toArray, List.nil_append, List.cons_append]
  gi_wp2_with fail
  refine ⟨trivial, (callsIn_wide.2 (blades_any set _)).mono ?_⟩
  rintro e w' ⟨rfl, rfl⟩
  gi_wp2_with fail
  obtain ⟨V, hV⟩ : ∃ V, ((((w.alloc (.cells #[.slice d.A d.blades.length d.c, .int .i64 d.bound, .int .i64 d.stop, .int .i64 d.bend, .slice A2 l.length c2] 84)).alloc (.cells #[.int .i64 (r 0), .int .i64 (r 1), .int .i64 (r 2), .int .i64 (r 3), .int .i64 (r 4)] 91)).alloc (.cells #[.int .i64 0, .int .i64 0, .int .i64 0, .int .i64 0, .int .i64 0] 91)).alloc (.cells #[.int .i64 set] 3)) = V := ⟨_, rfl⟩
  have hb0 : Below w.heap.size w V := by
    rw [← hV]
    have a1 := nxA w (.cells #[.slice d.A d.blades.length d.c, .int .i64 d.bound, .int .i64 d.stop, .int .i64 d.bend, .slice A2 l.length c2] 84)
    have a2 := a1.alloc a1.size (.cells #[.int .i64 (r 0), .int .i64 (r 1), .int .i64 (r 2), .int .i64 (r 3), .int .i64 (r 4)] 91)
    have a3 := a2.alloc a2.size (.cells #[.int .i64 0, .int .i64 0, .int .i64 0, .int .i64 0, .int .i64 0] 91)
    exact a3.alloc a3.size (.cells #[.int .i64 set] 3)
  have hx0 : RnI d A2 l.length c2 r w [] V := by
    have m1 := Bx.new w #[.slice d.A d.blades.length d.c, .int .i64 d.bound, .int .i64 d.stop, .int .i64 d.bend, .slice A2 l.length c2] 84
    have m2 := Bx.new (w.alloc (.cells #[.slice d.A d.blades.length d.c, .int .i64 d.bound, .int .i64 d.stop, .int .i64 d.bend, .slice A2 l.length c2] 84)) #[.int .i64 (r 0), .int .i64 (r 1), .int .i64 (r 2), .int .i64 (r 3), .int .i64 (r 4)] 91
    have m3 := Bx.new ((w.alloc (.cells #[.slice d.A d.blades.length d.c, .int .i64 d.bound, .int .i64 d.stop, .int .i64 d.bend, .slice A2 l.length c2] 84)).alloc (.cells #[.int .i64 (r 0), .int .i64 (r 1), .int .i64 (r 2), .int .i64 (r 3), .int .i64 (r 4)] 91)) #[.int .i64 0, .int .i64 0, .int .i64 0, .int .i64 0, .int .i64 0] 91
    simp only [World.size_alloc] at m2 m3
    refine ⟨?_, ?_, ?_, hb0⟩
    · rw [← hV]; exact ((m1.next (nxA _ _)).next (nxA _ _)).next (nxA _ _)
    · rw [← hV]; exact (m2.next (nxA _ _)).next (nxA _ _)
    · rw [← hV]; exact m3.next (nxA _ _)
  have hz : w.heap.size + 1 + 1 + 1 + 1 = V.heap.size := by rw [← hV]; simp
  have hset' : V.cell? ⟨w.heap.size + 1 + 1 + 1, 0, none⟩ = some (.int .i64 set) := by rw [← hV]; simp [go_sem]
  rw [hV]
  clear hV
  have hseq := blades1_stops 5 (by omega) set w.heap.size (w.heap.size + 1 + 1 + 1) V hset32 (by omega) hset' ⟨hb0.size, he.lt, he.next hb0⟩
  refine wpIn_rangeFunc_ownH rfl (by omega) (gf := 74) (lb := #[.pointer (some ⟨w.heap.size + 1 + 1 + 1, 0, none⟩)]) rfl trivial (enters_of Tryd.func74 (by kernel_rfl) rfl)
    hseq (fun h k => Below.trans h k) (kb_put (by omega)) (Below.refl _ _) (fun _ => rfl)
    (RnI d A2 l.length c2 r w) (fun _ _ _ => False) (RnI.own d A2 l.length c2 r w (by omega)) (fun _ _ _ _ _ h _ _ => h) hx0
    (fun x a' _ => a' = { tmps := #[.agg #[.slice d.A d.blades.length d.c, .int .i64 d.bound, .int .i64 d.stop, .int .i64 d.bend, .slice A2 l.length c2], .agg #[.int .i64 (r 0), .int .i64 (r 1), .int .i64 (r 2), .int .i64 (r 3), .int .i64 (r 4)], .int .i64 set, .int .i64 j, .pointer (some ⟨w.heap.size, 0, none⟩), .pointer (some ⟨w.heap.size + 1, 0, none⟩), undef, undef, .pointer (some ⟨w.heap.size + 1 + 1, 0, none⟩), .int .i64 0, .int .i64 (x.val : Nat), undef, undef, undef, undef, undef, .int .i64 set, .func (.func 74) #[] #[.pointer (some ⟨w.heap.size + 1 + 1 + 1, 0, none⟩)], .int .i64 (x.val : Nat), undef, undef, undef, undef, undef, undef, undef, undef, undef, undef, undef, undef, undef, undef, undef, undef, undef, undef, undef, undef, undef, undef, undef, undef, undef, undef, undef, undef, undef, undef, undef, undef, undef, undef, undef, undef, undef, undef, undef, undef, undef, undef, undef, undef, undef, undef, undef, undef, undef, undef, undef], defers := [] })
    (fun _ _ _ _ _ _ h _ _ => h)
    ?assign ?body ?done ?stop
  case assign =>
    rintro l' pre x W K hi hK
    dsimp only [encB]
    gi_wp2
    exact hK _ _ (kf_below (Below.refl _ _)) (Below.refl _ _) hi rfl
  case body =>
    rintro l' pre x a' W hl hloop hi rfl hlen
    have hx5 := x.isLt
    obtain ⟨k, hk⟩ : ∃ k : Nat, x.val = k := ⟨_, rfl⟩
    have hz1 : zer r (pre ++ [x]) = fun i => if i = k then 0 else zer r pre i := by
      funext i
      unfold zer
      rw [List.map_append, List.contains_eq_mem, List.contains_eq_mem]
      by_cases e : i = k
      · simp [e, hk]
      · simp [e, hk]
    have c0 := hi.r.c k _ (ranL_get (by omega))
    have f0 := hi.r.fr k
    have HI := Lib.hid hi
    have Hz1 := Lib.hid hz1
    have hk5 : k < 5 := by omega
    rw [hk] at *
    clear hi hz1 hseq hx0
    gi_wp2_with fail
    dsimp only [Exit.inBlock, Exit.then, ownPostG]
    refine ⟨(KeepsOthers.setCell _ _ _).from _, (Below.refl _ _).setCell (p := ⟨w.heap.size + 1, k, none⟩) (by simp) _, ⟨HI.out.m.other (by omega) _ _, ?_, HI.out.o.other (by omega) _ _, HI.out.b.setCell (p := ⟨w.heap.size + 1, k, none⟩) (by simp) _⟩⟩
    have := HI.out.r.set (k := k) (by simpa [ranL] using hk5) (.int .i64 0)
    rw [ranL_set hk5] at this
    rw [Hz1.out]
    exact this
  case done =>
    rintro D xs W hD hS hi hK
    have HZ : zer r xs = fun k => if has set k then 0 else r k := by
      funext k
      unfold zer
      rw [hS, List.contains_eq_mem]
      by_cases e : has set k = true
      · simp [e, mem_bits (by omega) e]
      · have : k ∉ bitsOf set := fun h => e (bits_mem h)
        simp [e, this]
    have hir := hi.r
    rw [HZ] at hir
    clear hseq hx0 HZ
    gi_wp2_with fail
    refine ⟨trivial, (callsIn_wide.2 (ends_any W)).mono ?_⟩
    rintro e W1 ⟨rfl, hb⟩
    have hbA := (nxA W1 (.cells #[.func (.func 62) #[] #[]] 77)).trans ((nxA (W1.alloc (.cells #[.func (.func 62) #[] #[]] 77)) (.cells #[.func (.func 63) #[] #[]] 77)).mono (by simp))
    have hbW := hb.trans (hbA.mono hb.size)
    have hKD : (Array.size W.heap : Nat) > D := (Array.getElem?_eq_some_iff.1 hK).1
    have KD := Lib.hid (fun (W' : World) (h : Below W.heap.size W W') => (h.block D hKD).trans hK)
    have M2 := Lib.hid (hi.m.next hbW)
    have R2 := Lib.hid (hir.next hbW)
    have O2 := Lib.hid (hi.o.next hbW)
    have B2 := Lib.hid (hi.b.trans (hbW.mono hi.b.size))
    have BW := Lib.hid hbW
    have E2 := Lib.hid (show Bx ((W1.alloc (.cells #[.func (.func 62) #[] #[]] 77)).alloc (.cells #[.func (.func 63) #[] #[]] 77)) (W1.heap.size + 1) [.func (.func 63) #[] #[]] from by
      have := Bx.new (W1.alloc (.cells #[.func (.func 62) #[] #[]] 77)) #[.func (.func 63) #[] #[]] 77
      rw [World.size_alloc] at this
      exact this)
    have hzW : w.heap.size + 1 + 1 < W1.heap.size := Nat.lt_of_lt_of_le hi.o.lt hb.size
    clear hi hir hK hbW hb hbA
    have c0 := M2.out.c 0 _ rfl
    gi_wp2_with fail
    refine wpIn_wide.2 ?_
    obtain ⟨V2, hV2⟩ : ∃ V2, (W1.alloc (.cells #[.func (.func 62) #[] #[]] 77)).alloc (.cells #[.func (.func 63) #[] #[]] 77) = V2 := ⟨_, rfl⟩
    rw [hV2] at M2 R2 O2 B2 E2 BW c0 ⊢
    clear hV2
    obtain ⟨be, hbe⟩ : ∃ be, be = W1.heap.size + 1 := ⟨_, rfl⟩
    rw [← hbe] at E2 ⊢
    have hbe1 : be ≠ w.heap.size + 1 := by omega
    clear hbe
    obtain ⟨n, hn⟩ : ∃ n, n = (l.getD j ⟨0, 0⟩).n := ⟨_, rfl⟩
    obtain ⟨more, hmore⟩ : ∃ more, more = (l.getD j ⟨0, 0⟩).more := ⟨_, rfl⟩
    obtain ⟨r2, hr2⟩ : ∃ r2 : Nat → Int, r2 = fun k => if has set k then 0 else r k := ⟨_, rfl⟩
    rw [← hr2] at R2
    have hrb : ∀ k, 0 ≤ r2 k ∧ r2 k ≤ 6000 := fun k => by
      rw [hr2]; have := hr k
      show 0 ≤ (if has set k then 0 else r k) ∧ (if has set k then 0 else r k) ≤ 6000
      split <;> omega
    have HR2 := Lib.hid hr2
    have HN := Lib.hid hn
    have HM := Lib.hid hmore
    have hjl := okl.st (l.getD j ⟨0, 0⟩) (by rw [List.getD_eq_getElem?_getD, List.getElem?_eq_getElem hj]; exact List.getElem_mem hj)
    rw [← hn, ← hmore] at hjl
    have hnb := ok.nb
    have hbd := ok.bound
    have OK := Lib.hid ok
    have HD := Lib.hid hd
    have HS := Lib.hid hs
    have HRB := Lib.hid hrb
    obtain ⟨b0, off0, eA, -, -⟩ := hd.at (k := 0) (by omega)
    obtain ⟨bs, os, eS, hbsw, -⟩ := stint_at hs hj
    rw [eA]
    have EA := Lib.hid eA
    have ES := Lib.hid eS
    have hjn := hj
    clear hr hr2 hn hmore ok okl hd hs hrb hS eA eS c0
    go_loopw [29, 13] (fun i b wr => R52 D d A2 l.length c2 w.heap.size be r2 n (d.bound + more) V2 i b wr) (fun i _ _ => d.blades.length - (intOf i).toNat)
    case atStart => exact ⟨0, by omega, rfl, rfl, M2.out, by
      have : (fun q => r2 q + if q < 0 then n else 0) = r2 := by funext q; simp
      rw [this]; exact R2.out, O2.out, E2.out, (Below.refl _ _).mono (by have := B2.out.size; omega), KD.out _ BW.out⟩
    case round =>
      obtain ⟨k, hk, rfl, rfl, hm, hrx, ho, he2, hbl, hDw⟩ := hrel
      have hDlt := (Array.getElem?_eq_some_iff.1 hDw).1
      have hbw := B2.out.trans (hbl.mono (Nat.le_refl _))
      by_cases hlt : k < d.blades.length
      · obtain ⟨b1, off1, e1, hbk, h0, h1, h2, h3⟩ := (HD.out.next hbw).at hlt
        rw [EA.out] at e1
        injection e1 with e1
        injection e1 with e1 e2
        subst e1 e2
        obtain ⟨b2, off2, e3, hbs, g0, g1⟩ := stint_at (HS.out.next hbw) hjn
        rw [ES.out] at e3
        injection e3 with e3
        injection e3 with e3 e4
        subst e3 e4
        rw [← HN.out] at g0
        rw [← HM.out] at g1
        have c1 := hm.c 1 _ rfl
        have c4 := hm.c 4 _ rfl
        rw [ES.out] at c4
        have hk5 : k < 5 := by omega
        have rk := hrx.c k _ (ranL_get hk5)
        rw [if_neg (by omega), Int.add_zero] at rk
        have okb := OK.out.at hlt
        have hrk := HRB.out k
        have hb1 := okb.off_bd (x := r2 k + n) (by omega) (by omega)
        have hb2 := okb.f
        have hb3 := okb.w
        have HW := Lib.hid (show worstS (bladeAt d k) (r2 k + n) = (bladeAt d k).fh + (bladeAt d k).wh * (r2 k + n) from rfl)
        have HT := Lib.hid (badTo_succ d.blades (d.bound + more) (fun q => r2 q + n) k)
        rw [show d.blades.getD k ⟨0, 0, 0, 0⟩ = bladeAt d k from rfl] at HT
        have HOFF := Lib.hid (fun W => off_any 63 selHi endHi (bladeAt d k) (r2 k + n) W (by unfold selHi; omega) (by unfold selHi; omega))
        clear okb
        generalize bladeAt d k = s at *
        obtain ⟨q, hq⟩ : ∃ q, q = badTo d.blades (d.bound + more) (fun q => r2 q + n) k := ⟨_, rfl⟩
        rw [← hq] at HT ⊢
        have HQ := Lib.hid hq
        clear hq
        go_wp2_with fail
        have hA := nxA wr (.cells #[.int .i64 s.fl, .int .i64 s.fh, .int .i64 s.wl, .int .i64 s.wh] 53)
        have M3 := Lib.hid (hm.next hA)
        have R3 := Lib.hid (hrx.next hA)
        have O3 := Lib.hid (ho.next hA)
        have E3 := Lib.hid (he2.next hA)
        have L3 := Lib.hid (hbl.trans (hA.mono (by have := hbw.size; omega)))
        have Y3 := Lib.hid (Bx.new wr #[.int .i64 s.fl, .int .i64 s.fh, .int .i64 s.wl, .int .i64 s.wh] 53)
        have c1 := M3.out.c 1 _ rfl
        have c4 := M3.out.c 4 _ rfl
        rw [ES.out] at c4
        have rk := R3.out.c k _ (ranL_get hk5)
        rw [if_neg (by omega), Int.add_zero] at rk
        have fk := R3.out.fr k
        have gs0 := ((bcell hA).1 _ _ hbs).trans g0
        have gs1 := ((bcell hA).1 _ _ hbs).trans g1
        have hbs3 : bs < (wr.alloc (.cells #[.int .i64 s.fl, .int .i64 s.fh, .int .i64 s.wl, .int .i64 s.wh] 53)).heap.size := Nat.lt_of_lt_of_le hbs hA.size
        have D3 := Lib.hid ((hA.block D hDlt).trans hDw)
        have hry := hrx.lt
        clear hA hm hrx ho he2 hbl h0 h1 h2 h3 g0 g1 hbk
        generalize wr.alloc (.cells #[.int .i64 s.fl, .int .i64 s.fh, .int .i64 s.wl, .int .i64 s.wh] 53) = V3 at *
        generalize wr.heap.size = y at *
        have w1 : IntKind.i64.wrap (r2 k + n) = r2 k + n := IntWalk.i64_in _ (by omega)
        have hm3 := M3.out.lt
        have hr3 := R3.out.lt
        have hne1 : bs ≠ w.heap.size + 1 := by omega
        have hk5i : (k : Int) < 5 := by omega
        have hy1 : y ≠ w.heap.size + 1 := by omega
        have H9 := Lib.hid (show ∀ W' : World, (∀ b o, b < V3.heap.size → b ≠ w.heap.size + 1 → W'.cell? ⟨b, o, none⟩ = V3.cell? ⟨b, o, none⟩) → (W'.cell? ⟨w.heap.size, 4, none⟩ = some (.slice (some ⟨bs, os, none⟩) l.length c2) ∧ W'.cell? ⟨bs, os + j * 2, none⟩ = some (.int .i64 n)) from fun W' h => ⟨(h _ _ hm3 (by omega)).trans c4, (h _ _ hbs3 hne1).trans gs0⟩)
        refine wp_region_noPanic ?_
        refine wp_region_held_drew (S := (fun W' => W'.cell? ⟨w.heap.size, 4, none⟩ = some (.slice (some ⟨bs, os, none⟩) l.length c2) ∧ W'.cell? ⟨bs, os + j * 2, none⟩ = some (.int .i64 n))) (by kernel_rfl) ?_ (fun hHeld => ?_)
        · (try dsimp only); exact H9.out _ (fun _ _ _ _ => rfl)
        refine htake (i := 0) (v := ?v1) rfl (by kernel_rfl) (by kernel_rfl) (by kernel_rfl) (fun _ _ _ h => h) (Or.inl ⟨by rfl, ?hy1⟩) (by assumption) ?_
        case hy1 => (intro w hSw; (try dsimp only at hSw); go_simp; try (with_reducible rfl))
        try simp only [Act.put, List.setIfInBounds_toArray, List.set_cons_zero, List.set_cons_succ]
        refine htake (i := 1) (v := ?v2) rfl (by kernel_rfl) (by kernel_rfl) (by kernel_rfl) (fun _ _ _ h => h) (Or.inl ⟨by rfl, ?hy2⟩) (by assumption) ?_
        case hy2 => (intro w hSw; (try dsimp only at hSw); go_simp; try (with_reducible rfl))
        try simp only [Act.put, List.setIfInBounds_toArray, List.set_cons_zero, List.set_cons_succ]
        refine htake (i := 3) (v := ?v3) rfl (by kernel_rfl) (by kernel_rfl) (by kernel_rfl) (fun _ _ _ h => h) (Or.inl ⟨by rfl, ?hy3⟩) (by assumption) ?_
        case hy3 => (intro w hSw; (try dsimp only at hSw); go_simp; try (with_reducible rfl))
        try simp only [Act.put, List.setIfInBounds_toArray, List.set_cons_zero, List.set_cons_succ]
        refine htake (i := 4) (v := ?v4) rfl (by kernel_rfl) (by kernel_rfl) (by kernel_rfl) (fun _ _ _ h => h) (Or.inl ⟨by rfl, ?hy4⟩) (by assumption) ?_
        case hy4 => (intro w hSw; (try dsimp only at hSw); go_simp; try (with_reducible rfl))
        try simp only [Act.put, List.setIfInBounds_toArray, List.set_cons_zero, List.set_cons_succ]
        refine htake (i := 5) (v := ?v5) rfl (by kernel_rfl) (by kernel_rfl) (by kernel_rfl) (fun _ _ _ h => h) (Or.inl ⟨by rfl, ?hy5⟩) (by assumption) ?_
        case hy5 => (intro w hSw; (try dsimp only at hSw); go_simp; try (with_reducible rfl))
        try simp only [Act.put, List.setIfInBounds_toArray, List.set_cons_zero, List.set_cons_succ]
        refine htake (i := 6) (v := ?v6) rfl (by kernel_rfl) (by kernel_rfl) (by kernel_rfl) (fun _ _ _ h => h) (Or.inl ⟨by rfl, ?hy6⟩) (by assumption) ?_
        case hy6 => (intro w hSw; (try dsimp only at hSw); go_simp; try (with_reducible rfl))
        try simp only [Act.put, List.setIfInBounds_toArray, List.set_cons_zero, List.set_cons_succ]
        refine htake (i := 7) (v := ?v7) rfl (by kernel_rfl) (by kernel_rfl) (by kernel_rfl) (fun _ _ _ h => h) (Or.inl ⟨by rfl, ?hy7⟩) (by assumption) ?_
        case hy7 => (intro w hSw; (try dsimp only at hSw); go_simp; try (with_reducible rfl))
        try simp only [Act.put, List.setIfInBounds_toArray, List.set_cons_zero, List.set_cons_succ]
        refine htake (i := 8) (v := ?v8) rfl (by kernel_rfl) (by kernel_rfl) (by kernel_rfl) (fun _ _ _ h => h) (Or.inl ⟨by rfl, ?hy8⟩) (by assumption) ?_
        case hy8 => (intro w hSw; (try dsimp only at hSw); go_simp; try (with_reducible rfl))
        try simp only [Act.put, List.setIfInBounds_toArray, List.set_cons_zero, List.set_cons_succ]
        refine wpAnyH_ready (rs := [2]) (by kernel_rfl) (by simp) ?_
        refine hcons rfl (fun K hK => ?_) (AllReadyH.nil)
        go_simp
        refine hK.out _ _ ?_ (fun hHeld => ?_)
        · (try dsimp only); exact H9.out _ (fun _ _ _ _ => rfl)
        clear hK K
        try simp only [Act.put, List.setIfInBounds_toArray, List.set_cons_zero, List.set_cons_succ]
        refine htake (i := 9) (v := ?v9) rfl (by kernel_rfl) (by kernel_rfl) (by kernel_rfl) (fun _ _ _ h => h) (Or.inl ⟨by rfl, ?hy9⟩) (by assumption) ?_
        case hy9 => (intro w hSw; (try dsimp only at hSw); go_simp; try (with_reducible rfl))
        try simp only [Act.put, List.setIfInBounds_toArray, List.set_cons_zero, List.set_cons_succ]
        refine htake (i := 10) (v := ?v10) rfl (by kernel_rfl) (by kernel_rfl) (by kernel_rfl) (fun _ _ _ h => h) (Or.inl ⟨by rfl, ?hy10⟩) (by assumption) ?_
        case hy10 => (intro w hSw; (try dsimp only at hSw); go_simp; try (with_reducible rfl))
        try simp only [Act.put, List.setIfInBounds_toArray, List.set_cons_zero, List.set_cons_succ]
        refine wpAnyH_ready (rs := [11]) (by kernel_rfl) (by simp) ?_
        refine hcons rfl (fun K hK => ?_) (AllReadyH.nil)
        go_simp
        skip
        refine hK.out _ _ ?_ (fun hHeld => ?_)
        · (try dsimp only); exact H9.out _ (fun b o h hne => World.cell?_setCell_other _ _ _ _ (by intro e; injection e with e; exact hne e.symm))
        clear hK K
        try simp only [Act.put, List.setIfInBounds_toArray, List.set_cons_zero, List.set_cons_succ]
        refine wpAnyH_done (by kernel_rfl) ?_ _
        refine NoPanic.normal ?_
        iterate 13 (try clear hHeld)
        have R4 := R3.out.set (k := k) (by simpa [ranL] using hk5) (.int .i64 (r2 k + n))
        rw [ranL_set hk5] at R4
        have er : (fun i => if i = k then r2 k + n else r2 i + if i < k then n else 0) = fun q => r2 q + if q < k + 1 then n else 0 := by
          funext i
          by_cases e1 : i = k
          · subst e1; rw [if_pos rfl, if_pos (by omega)]
          · rw [if_neg e1]
            by_cases e2 : i < k
            · rw [if_pos e2, if_pos (by omega)]
            · rw [if_neg e2, if_neg (by omega)]
        rw [er] at R4
        have R5 := Lib.hid R4.drew
        have M5 := Lib.hid (M3.out.other (g := w.heap.size + 1) (by omega) k (.int .i64 (r2 k + n))).drew
        have O5 := Lib.hid (O3.out.other (g := w.heap.size + 1) (by omega) k (.int .i64 (r2 k + n))).drew
        have E5 := Lib.hid (E3.out.other (g := w.heap.size + 1) hbe1 k (.int .i64 (r2 k + n))).drew
        have Y5 := Lib.hid (Y3.out.other (g := w.heap.size + 1) hy1 k (.int .i64 (r2 k + n))).drew
        have L5 := Lib.hid (L3.out.setCell (p := ⟨w.heap.size + 1, k, none⟩) (by simp) (.int .i64 (r2 k + n))).drew
        have gs5 : ((V3.setCell ⟨w.heap.size + 1, k, none⟩ (.int .i64 (r2 k + n))).drew).cell? ⟨bs, os + j * 2 + 1, none⟩ = some (.int .i64 more) := (World.cell?_setCell_other _ _ _ _ (by intro e; injection e with e; exact hne1 e.symm)).trans gs1
        have D5 := Lib.hid (show ((V3.setCell ⟨w.heap.size + 1, k, none⟩ (.int .i64 (r2 k + n))).drew).heap[D]? = some (.deferred (some [])) from (blkSet (by omega) _ _).trans D3.out)
        have hbs5 : bs < ((V3.setCell ⟨w.heap.size + 1, k, none⟩ (.int .i64 (r2 k + n))).drew).heap.size := by show bs < (V3.setCell _ _).heap.size; rw [World.size_setCell]; exact hbs3
        clear R4 er c1 c4 rk fk gs0 gs1 M3 R3 O3 E3 L3 Y3 H9
        go_wp2_with fail
        generalize (V3.setCell ⟨w.heap.size + 1, k, none⟩ (.int .i64 (r2 k + n))).drew = V5 at *
        have H10 := Lib.hid (show ∀ W' : World, Below V5.heap.size V5 W' → (W'.cell? ⟨be, 0, none⟩ = some (.func (.func 63) #[] #[]) ∧ W'.cell? ⟨y, 0, none⟩ = some (.int .i64 s.fl) ∧ W'.cell? ⟨y, 1, none⟩ = some (.int .i64 s.fh) ∧ W'.cell? ⟨y, 2, none⟩ = some (.int .i64 s.wl) ∧ W'.cell? ⟨y, 3, none⟩ = some (.int .i64 s.wh) ∧ W'.cell? ⟨w.heap.size + 1, k, none⟩ = some (.int .i64 (r2 k + n)) ∧ W'.cell? ⟨w.heap.size, 1, none⟩ = some (.int .i64 d.bound) ∧ W'.cell? ⟨w.heap.size, 4, none⟩ = some (.slice (some ⟨bs, os, none⟩) l.length c2) ∧ W'.cell? ⟨bs, os + j * 2 + 1, none⟩ = some (.int .i64 more)) from fun W' h => by
          refine ⟨(E5.out.next h).c 0 _ rfl, (Y5.out.next h).c 0 _ rfl, (Y5.out.next h).c 1 _ rfl, (Y5.out.next h).c 2 _ rfl, (Y5.out.next h).c 3 _ rfl, ?_, (M5.out.next h).c 1 _ rfl, ?_, ((bcell h).1 _ _ hbs5).trans gs5⟩
          · have := (R5.out.next h).c k _ (ranL_get hk5)
            rw [if_pos (by omega)] at this
            exact this
          · have := (M5.out.next h).c 4 _ rfl
            rw [ES.out] at this
            exact this)
        have hc : Below V5.heap.size V5 V5.drew := (Below.refl _ _).drew
        have w2 : IntKind.i64.wrap (d.bound + more) = d.bound + more := IntWalk.i64_in _ (by omega)
        have hsel : selHi s.fl s.fh + selHi s.wl s.wh * (r2 k + n) = worstS s (r2 k + n) := by rw [HW.out]; rfl
        rw [hsel] at HOFF
        clear hsel gs5
        generalize worstS s (r2 k + n) = X at *
        have HRel := Lib.hid (fun (W' : World) (b' : Option Nat) (hb' : q.or (if d.bound + more < X then some k else none) = b') (h : Below V5.heap.size V5 W') => (show R52 D d A2 l.length c2 w.heap.size be r2 n (d.bound + more) V2 (.int .i64 ((k + 1 : Nat) : Int)) (.int .i64 (badI b')) W' from ⟨k + 1, by omega, rfl, by rw [HT.out, hb'], M5.out.next h, R5.out.next h, O5.out.next h, E5.out.next h, L5.out.trans (h.mono (by have := B2.out.size; have := L5.out.size; omega)), (h.block D (Array.getElem?_eq_some_iff.1 D5.out).1).trans D5.out⟩))
        clear HT HQ HW
        cases q with
        | some k0 =>
          have dq : decide (badI (some k0) < 0) = false := decide_eq_false (by show ¬ ((k0 : Int) < 0); omega)
          have dq' : decide ((k0 : Int) < 0) = false := dq
          have hq0 : badI (some k0) = (k0 : Int) := rfl
          refine wp_region_noPanic ?_
          refine wp_region_held_drew (S := (fun W' => W'.cell? ⟨be, 0, none⟩ = some (.func (.func 63) #[] #[]) ∧ W'.cell? ⟨y, 0, none⟩ = some (.int .i64 s.fl) ∧ W'.cell? ⟨y, 1, none⟩ = some (.int .i64 s.fh) ∧ W'.cell? ⟨y, 2, none⟩ = some (.int .i64 s.wl) ∧ W'.cell? ⟨y, 3, none⟩ = some (.int .i64 s.wh) ∧ W'.cell? ⟨w.heap.size + 1, k, none⟩ = some (.int .i64 (r2 k + n)) ∧ W'.cell? ⟨w.heap.size, 1, none⟩ = some (.int .i64 d.bound) ∧ W'.cell? ⟨w.heap.size, 4, none⟩ = some (.slice (some ⟨bs, os, none⟩) l.length c2) ∧ W'.cell? ⟨bs, os + j * 2 + 1, none⟩ = some (.int .i64 more))) (by kernel_rfl) ?_ (fun hHeld => ?_)
          · (try dsimp only); exact H10.out _ hc
          refine htake (i := 0) (v := ?v11) rfl (by kernel_rfl) (by kernel_rfl) (by kernel_rfl) (fun _ _ _ h => h) (Or.inl ⟨by rfl, ?hy11⟩) (by assumption) ?_
          case hy11 => (intro w hSw; (try dsimp only at hSw); go_simp; try (with_reducible rfl))
          try simp only [Act.put, List.setIfInBounds_toArray, List.set_cons_zero, List.set_cons_succ]
          refine htake (i := 1) (v := ?v12) rfl (by kernel_rfl) (by kernel_rfl) (by kernel_rfl) (fun _ _ _ h => h) (Or.inl ⟨by rfl, ?hy12⟩) (by assumption) ?_
          case hy12 => (intro w hSw; (try dsimp only at hSw); go_simp; try (with_reducible rfl))
          try simp only [Act.put, List.setIfInBounds_toArray, List.set_cons_zero, List.set_cons_succ]
          refine htake (i := 2) (v := ?v13) rfl (by kernel_rfl) (by kernel_rfl) (by kernel_rfl) (fun _ _ _ h => h) (Or.inl ⟨by rfl, ?hy13⟩) (by assumption) ?_
          case hy13 => (intro w hSw; (try dsimp only at hSw); go_simp; try (with_reducible rfl))
          try simp only [Act.put, List.setIfInBounds_toArray, List.set_cons_zero, List.set_cons_succ]
          refine htake (i := 3) rfl (by kernel_rfl) (by kernel_rfl) (by kernel_rfl) (fun _ _ _ h => h) (Or.inr ⟨by rfl, rfl⟩) (by assumption) ?_
          try simp only [Act.put, List.setIfInBounds_toArray, List.set_cons_zero, List.set_cons_succ]
          refine htake (i := 4) rfl (by kernel_rfl) (by kernel_rfl) (by kernel_rfl) (fun _ _ _ h => h) (Or.inr ⟨by rfl, rfl⟩) (by assumption) ?_
          try simp only [Act.put, List.setIfInBounds_toArray, List.set_cons_zero, List.set_cons_succ]
          refine htake (i := 5) rfl (by kernel_rfl) (by kernel_rfl) (by kernel_rfl) (fun _ _ _ h => h) (Or.inr ⟨by rfl, rfl⟩) (by assumption) ?_
          try simp only [Act.put, List.setIfInBounds_toArray, List.set_cons_zero, List.set_cons_succ]
          refine htake (i := 6) rfl (by kernel_rfl) (by kernel_rfl) (by kernel_rfl) (fun _ _ _ h => h) (Or.inr ⟨by rfl, rfl⟩) (by assumption) ?_
          try simp only [Act.put, List.setIfInBounds_toArray, List.set_cons_zero, List.set_cons_succ]
          refine htake (i := 7) rfl (by kernel_rfl) (by kernel_rfl) (by kernel_rfl) (fun _ _ _ h => h) (Or.inr ⟨by rfl, rfl⟩) (by assumption) ?_
          try simp only [Act.put, List.setIfInBounds_toArray, List.set_cons_zero, List.set_cons_succ]
          refine htake (i := 8) rfl (by kernel_rfl) (by kernel_rfl) (by kernel_rfl) (fun _ _ _ h => h) (Or.inr ⟨by rfl, rfl⟩) (by assumption) ?_
          try simp only [Act.put, List.setIfInBounds_toArray, List.set_cons_zero, List.set_cons_succ]
          refine htake (i := 9) rfl (by kernel_rfl) (by kernel_rfl) (by kernel_rfl) (fun _ _ _ h => h) (Or.inr ⟨by rfl, rfl⟩) (by assumption) ?_
          try simp only [Act.put, List.setIfInBounds_toArray, List.set_cons_zero, List.set_cons_succ]
          refine htake (i := 10) rfl (by kernel_rfl) (by kernel_rfl) (by kernel_rfl) (fun _ _ _ h => h) (Or.inr ⟨by rfl, rfl⟩) (by assumption) ?_
          try simp only [Act.put, List.setIfInBounds_toArray, List.set_cons_zero, List.set_cons_succ]
          refine htake (i := 11) rfl (by kernel_rfl) (by kernel_rfl) (by kernel_rfl) (fun _ _ _ h => h) (Or.inr ⟨by rfl, rfl⟩) (by assumption) ?_
          try simp only [Act.put, List.setIfInBounds_toArray, List.set_cons_zero, List.set_cons_succ]
          refine htake (i := 12) rfl (by kernel_rfl) (by kernel_rfl) (by kernel_rfl) (fun _ _ _ h => h) (Or.inr ⟨by rfl, rfl⟩) (by assumption) ?_
          try simp only [Act.put, List.setIfInBounds_toArray, List.set_cons_zero, List.set_cons_succ]
          refine htake (i := 13) rfl (by kernel_rfl) (by kernel_rfl) (by kernel_rfl) (fun _ _ _ h => h) (Or.inr ⟨by rfl, rfl⟩) (by assumption) ?_
          try simp only [Act.put, List.setIfInBounds_toArray, List.set_cons_zero, List.set_cons_succ]
          refine htake (i := 14) rfl (by kernel_rfl) (by kernel_rfl) (by kernel_rfl) (fun _ _ _ h => h) (Or.inr ⟨by rfl, rfl⟩) (by assumption) ?_
          try simp only [Act.put, List.setIfInBounds_toArray, List.set_cons_zero, List.set_cons_succ]
          refine htake (i := 15) rfl (by kernel_rfl) (by kernel_rfl) (by kernel_rfl) (fun _ _ _ h => h) (Or.inr ⟨by rfl, rfl⟩) (by assumption) ?_
          try simp only [Act.put, List.setIfInBounds_toArray, List.set_cons_zero, List.set_cons_succ]
          refine htake (i := 16) rfl (by kernel_rfl) (by kernel_rfl) (by kernel_rfl) (fun _ _ _ h => h) (Or.inr ⟨by rfl, rfl⟩) (by assumption) ?_
          try simp only [Act.put, List.setIfInBounds_toArray, List.set_cons_zero, List.set_cons_succ]
          refine htake (i := 17) rfl (by kernel_rfl) (by kernel_rfl) (by kernel_rfl) (fun _ _ _ h => h) (Or.inr ⟨by rfl, rfl⟩) (by assumption) ?_
          try simp only [Act.put, List.setIfInBounds_toArray, List.set_cons_zero, List.set_cons_succ]
          refine htake (i := 18) rfl (by kernel_rfl) (by kernel_rfl) (by kernel_rfl) (fun _ _ _ h => h) (Or.inr ⟨by rfl, rfl⟩) (by assumption) ?_
          try simp only [Act.put, List.setIfInBounds_toArray, List.set_cons_zero, List.set_cons_succ]
          refine htake (i := 19) rfl (by kernel_rfl) (by kernel_rfl) (by kernel_rfl) (fun _ _ _ h => h) (Or.inr ⟨by rfl, rfl⟩) (by assumption) ?_
          try simp only [Act.put, List.setIfInBounds_toArray, List.set_cons_zero, List.set_cons_succ]
          refine htake (i := 20) (v := ?v14) rfl (by kernel_rfl) (by kernel_rfl) (by kernel_rfl) (fun _ _ _ h => h) (Or.inl ⟨by rfl, ?hy14⟩) (by assumption) ?_
          case hy14 => (intro w hSw; (try dsimp only at hSw); go_simp; try (with_reducible rfl))
          try simp only [Act.put, List.setIfInBounds_toArray, List.set_cons_zero, List.set_cons_succ]
          refine wpAnyH_done (by kernel_rfl) ?_ _
          refine NoPanic.normal ?_
          iterate 22 (try clear hHeld)
          go_wp2_with fail
          all_goals
            go_roundw
            case rel => exact HRel.out _ (some k0) rfl hc
            case measure => simp [intOf]; omega
        | none =>
          rw [show badI none = (-1 : Int) from rfl]
          by_cases hx : d.bound + more < X
          · have dx : decide (d.bound + more < X) = true := decide_eq_true hx
            have HRe := Lib.hid (HRel.out · (some k) (by rw [if_pos hx]; rfl))
            clear HRel hx
            refine wp_region_noPanic ?_
            refine wp_region_held_drew (S := (fun W' => W'.cell? ⟨be, 0, none⟩ = some (.func (.func 63) #[] #[]) ∧ W'.cell? ⟨y, 0, none⟩ = some (.int .i64 s.fl) ∧ W'.cell? ⟨y, 1, none⟩ = some (.int .i64 s.fh) ∧ W'.cell? ⟨y, 2, none⟩ = some (.int .i64 s.wl) ∧ W'.cell? ⟨y, 3, none⟩ = some (.int .i64 s.wh) ∧ W'.cell? ⟨w.heap.size + 1, k, none⟩ = some (.int .i64 (r2 k + n)) ∧ W'.cell? ⟨w.heap.size, 1, none⟩ = some (.int .i64 d.bound) ∧ W'.cell? ⟨w.heap.size, 4, none⟩ = some (.slice (some ⟨bs, os, none⟩) l.length c2) ∧ W'.cell? ⟨bs, os + j * 2 + 1, none⟩ = some (.int .i64 more))) (by kernel_rfl) ?_ (fun hHeld => ?_)
            · (try dsimp only); exact H10.out _ hc
            refine htake (i := 0) (v := ?v15) rfl (by kernel_rfl) (by kernel_rfl) (by kernel_rfl) (fun _ _ _ h => h) (Or.inl ⟨by rfl, ?hy15⟩) (by assumption) ?_
            case hy15 => (intro w hSw; (try dsimp only at hSw); go_simp; try (with_reducible rfl))
            try simp only [Act.put, List.setIfInBounds_toArray, List.set_cons_zero, List.set_cons_succ]
            refine htake (i := 1) (v := ?v16) rfl (by kernel_rfl) (by kernel_rfl) (by kernel_rfl) (fun _ _ _ h => h) (Or.inl ⟨by rfl, ?hy16⟩) (by assumption) ?_
            case hy16 => (intro w hSw; (try dsimp only at hSw); go_simp; try (with_reducible rfl))
            try simp only [Act.put, List.setIfInBounds_toArray, List.set_cons_zero, List.set_cons_succ]
            refine htake (i := 2) (v := ?v17) rfl (by kernel_rfl) (by kernel_rfl) (by kernel_rfl) (fun _ _ _ h => h) (Or.inl ⟨by rfl, ?hy17⟩) (by assumption) ?_
            case hy17 => (intro w hSw; (try dsimp only at hSw); go_simp; try (with_reducible rfl))
            try simp only [Act.put, List.setIfInBounds_toArray, List.set_cons_zero, List.set_cons_succ]
            refine htake (i := 3) (v := ?v18) rfl (by kernel_rfl) (by kernel_rfl) (by kernel_rfl) (fun _ _ _ h => h) (Or.inl ⟨by rfl, ?hy18⟩) (by assumption) ?_
            case hy18 => (intro w hSw; (try dsimp only at hSw); go_simp; try (with_reducible rfl))
            try simp only [Act.put, List.setIfInBounds_toArray, List.set_cons_zero, List.set_cons_succ]
            refine htake (i := 4) (v := ?v19) rfl (by kernel_rfl) (by kernel_rfl) (by kernel_rfl) (fun _ _ _ h => h) (Or.inl ⟨by rfl, ?hy19⟩) (by assumption) ?_
            case hy19 => (intro w hSw; (try dsimp only at hSw); go_simp; try (with_reducible rfl))
            try simp only [Act.put, List.setIfInBounds_toArray, List.set_cons_zero, List.set_cons_succ]
            refine htake (i := 5) (v := ?v20) rfl (by kernel_rfl) (by kernel_rfl) (by kernel_rfl) (fun _ _ _ h => h) (Or.inl ⟨by rfl, ?hy20⟩) (by assumption) ?_
            case hy20 => (intro w hSw; (try dsimp only at hSw); go_simp; try (with_reducible rfl))
            try simp only [Act.put, List.setIfInBounds_toArray, List.set_cons_zero, List.set_cons_succ]
            refine htake (i := 6) (v := ?v21) rfl (by kernel_rfl) (by kernel_rfl) (by kernel_rfl) (fun _ _ _ h => h) (Or.inl ⟨by rfl, ?hy21⟩) (by assumption) ?_
            case hy21 => (intro w hSw; (try dsimp only at hSw); go_simp; try (with_reducible rfl))
            try simp only [Act.put, List.setIfInBounds_toArray, List.set_cons_zero, List.set_cons_succ]
            refine htake (i := 7) (v := ?v22) rfl (by kernel_rfl) (by kernel_rfl) (by kernel_rfl) (fun _ _ _ h => h) (Or.inl ⟨by rfl, ?hy22⟩) (by assumption) ?_
            case hy22 => (intro w hSw; (try dsimp only at hSw); go_simp; try (with_reducible rfl))
            try simp only [Act.put, List.setIfInBounds_toArray, List.set_cons_zero, List.set_cons_succ]
            refine htake (i := 9) (v := ?v23) rfl (by kernel_rfl) (by kernel_rfl) (by kernel_rfl) (fun _ _ _ h => h) (Or.inl ⟨by rfl, ?hy23⟩) (by assumption) ?_
            case hy23 => (intro w hSw; (try dsimp only at hSw); go_simp; try (with_reducible rfl))
            try simp only [Act.put, List.setIfInBounds_toArray, List.set_cons_zero, List.set_cons_succ]
            refine htake (i := 10) (v := ?v24) rfl (by kernel_rfl) (by kernel_rfl) (by kernel_rfl) (fun _ _ _ h => h) (Or.inl ⟨by rfl, ?hy24⟩) (by assumption) ?_
            case hy24 => (intro w hSw; (try dsimp only at hSw); go_simp; try (with_reducible rfl))
            try simp only [Act.put, List.setIfInBounds_toArray, List.set_cons_zero, List.set_cons_succ]
            refine htake (i := 11) (v := ?v25) rfl (by kernel_rfl) (by kernel_rfl) (by kernel_rfl) (fun _ _ _ h => h) (Or.inl ⟨by rfl, ?hy25⟩) (by assumption) ?_
            case hy25 => (intro w hSw; (try dsimp only at hSw); go_simp; try (with_reducible rfl))
            try simp only [Act.put, List.setIfInBounds_toArray, List.set_cons_zero, List.set_cons_succ]
            refine htake (i := 12) (v := ?v26) rfl (by kernel_rfl) (by kernel_rfl) (by kernel_rfl) (fun _ _ _ h => h) (Or.inl ⟨by rfl, ?hy26⟩) (by assumption) ?_
            case hy26 => (intro w hSw; (try dsimp only at hSw); go_simp; try (with_reducible rfl))
            try simp only [Act.put, List.setIfInBounds_toArray, List.set_cons_zero, List.set_cons_succ]
            refine htake (i := 13) (v := ?v27) rfl (by kernel_rfl) (by kernel_rfl) (by kernel_rfl) (fun _ _ _ h => h) (Or.inl ⟨by rfl, ?hy27⟩) (by assumption) ?_
            case hy27 => (intro w hSw; (try dsimp only at hSw); go_simp; try (with_reducible rfl))
            try simp only [Act.put, List.setIfInBounds_toArray, List.set_cons_zero, List.set_cons_succ]
            refine htake (i := 14) (v := ?v28) rfl (by kernel_rfl) (by kernel_rfl) (by kernel_rfl) (fun _ _ _ h => h) (Or.inl ⟨by rfl, ?hy28⟩) (by assumption) ?_
            case hy28 => (intro w hSw; (try dsimp only at hSw); go_simp; try (with_reducible rfl))
            try simp only [Act.put, List.setIfInBounds_toArray, List.set_cons_zero, List.set_cons_succ]
            refine htake (i := 15) (v := ?v29) rfl (by kernel_rfl) (by kernel_rfl) (by kernel_rfl) (fun _ _ _ h => h) (Or.inl ⟨by rfl, ?hy29⟩) (by assumption) ?_
            case hy29 => (intro w hSw; (try dsimp only at hSw); go_simp; try (with_reducible rfl))
            try simp only [Act.put, List.setIfInBounds_toArray, List.set_cons_zero, List.set_cons_succ]
            refine htake (i := 16) (v := ?v30) rfl (by kernel_rfl) (by kernel_rfl) (by kernel_rfl) (fun _ _ _ h => h) (Or.inl ⟨by rfl, ?hy30⟩) (by assumption) ?_
            case hy30 => (intro w hSw; (try dsimp only at hSw); go_simp; try (with_reducible rfl))
            try simp only [Act.put, List.setIfInBounds_toArray, List.set_cons_zero, List.set_cons_succ]
            refine htake (i := 17) (v := ?v31) rfl (by kernel_rfl) (by kernel_rfl) (by kernel_rfl) (fun _ _ _ h => h) (Or.inl ⟨by rfl, ?hy31⟩) (by assumption) ?_
            case hy31 => (intro w hSw; (try dsimp only at hSw); go_simp; try (with_reducible rfl))
            try simp only [Act.put, List.setIfInBounds_toArray, List.set_cons_zero, List.set_cons_succ]
            refine htake (i := 18) (v := ?v32) rfl (by kernel_rfl) (by kernel_rfl) (by kernel_rfl) (fun _ _ _ h => h) (Or.inl ⟨by rfl, ?hy32⟩) (by assumption) ?_
            case hy32 => (intro w hSw; (try dsimp only at hSw); go_simp; try (with_reducible rfl))
            try simp only [Act.put, List.setIfInBounds_toArray, List.set_cons_zero, List.set_cons_succ]
            refine wpAnyH_ready (rs := [8]) (by kernel_rfl) (by simp) ?_
            refine hcons rfl (fun K hK => ?_) (AllReadyH.nil)
            go_simp
            (with_reducible refine (HOFF.out _).mono ?_); rintro e w4 ⟨rfl, hb4⟩; replace hc := hc.trans (hb4.mono hc.size); clear hb4
            refine hK.out _ _ ?_ (fun hHeld => ?_)
            · (try dsimp only); exact H10.out _ hc
            clear hK K
            try simp only [Act.put, List.setIfInBounds_toArray, List.set_cons_zero, List.set_cons_succ]
            refine htake (i := 19) (v := ?v33) rfl (by kernel_rfl) (by kernel_rfl) (by kernel_rfl) (fun _ _ _ h => h) (Or.inl ⟨by rfl, ?hy33⟩) (by assumption) ?_
            case hy33 => (intro w hSw; (try dsimp only at hSw); go_simp; try (with_reducible rfl))
            try simp only [Act.put, List.setIfInBounds_toArray, List.set_cons_zero, List.set_cons_succ]
            refine htake (i := 20) (v := ?v34) rfl (by kernel_rfl) (by kernel_rfl) (by kernel_rfl) (fun _ _ _ h => h) (Or.inl ⟨by rfl, ?hy34⟩) (by assumption) ?_
            case hy34 => (intro w hSw; (try dsimp only at hSw); go_simp; try (with_reducible rfl))
            try simp only [Act.put, List.setIfInBounds_toArray, List.set_cons_zero, List.set_cons_succ]
            refine wpAnyH_done (by kernel_rfl) ?_ _
            refine NoPanic.normal ?_
            iterate 22 (try clear hHeld)
            all_goals
              go_wp2_with fail
              go_roundw
              case rel => exact HRe.out _ hc
              case measure => simp [intOf]; omega
          · have dx : decide (d.bound + more < X) = false := decide_eq_false hx
            have HRe := Lib.hid (HRel.out · none (by rw [if_neg hx]; rfl))
            clear HRel hx
            refine wp_region_noPanic ?_
            refine wp_region_held_drew (S := (fun W' => W'.cell? ⟨be, 0, none⟩ = some (.func (.func 63) #[] #[]) ∧ W'.cell? ⟨y, 0, none⟩ = some (.int .i64 s.fl) ∧ W'.cell? ⟨y, 1, none⟩ = some (.int .i64 s.fh) ∧ W'.cell? ⟨y, 2, none⟩ = some (.int .i64 s.wl) ∧ W'.cell? ⟨y, 3, none⟩ = some (.int .i64 s.wh) ∧ W'.cell? ⟨w.heap.size + 1, k, none⟩ = some (.int .i64 (r2 k + n)) ∧ W'.cell? ⟨w.heap.size, 1, none⟩ = some (.int .i64 d.bound) ∧ W'.cell? ⟨w.heap.size, 4, none⟩ = some (.slice (some ⟨bs, os, none⟩) l.length c2) ∧ W'.cell? ⟨bs, os + j * 2 + 1, none⟩ = some (.int .i64 more))) (by kernel_rfl) ?_ (fun hHeld => ?_)
            · (try dsimp only); exact H10.out _ hc
            refine htake (i := 0) (v := ?v35) rfl (by kernel_rfl) (by kernel_rfl) (by kernel_rfl) (fun _ _ _ h => h) (Or.inl ⟨by rfl, ?hy35⟩) (by assumption) ?_
            case hy35 => (intro w hSw; (try dsimp only at hSw); go_simp; try (with_reducible rfl))
            try simp only [Act.put, List.setIfInBounds_toArray, List.set_cons_zero, List.set_cons_succ]
            refine htake (i := 1) (v := ?v36) rfl (by kernel_rfl) (by kernel_rfl) (by kernel_rfl) (fun _ _ _ h => h) (Or.inl ⟨by rfl, ?hy36⟩) (by assumption) ?_
            case hy36 => (intro w hSw; (try dsimp only at hSw); go_simp; try (with_reducible rfl))
            try simp only [Act.put, List.setIfInBounds_toArray, List.set_cons_zero, List.set_cons_succ]
            refine htake (i := 2) (v := ?v37) rfl (by kernel_rfl) (by kernel_rfl) (by kernel_rfl) (fun _ _ _ h => h) (Or.inl ⟨by rfl, ?hy37⟩) (by assumption) ?_
            case hy37 => (intro w hSw; (try dsimp only at hSw); go_simp; try (with_reducible rfl))
            try simp only [Act.put, List.setIfInBounds_toArray, List.set_cons_zero, List.set_cons_succ]
            refine htake (i := 3) (v := ?v38) rfl (by kernel_rfl) (by kernel_rfl) (by kernel_rfl) (fun _ _ _ h => h) (Or.inl ⟨by rfl, ?hy38⟩) (by assumption) ?_
            case hy38 => (intro w hSw; (try dsimp only at hSw); go_simp; try (with_reducible rfl))
            try simp only [Act.put, List.setIfInBounds_toArray, List.set_cons_zero, List.set_cons_succ]
            refine htake (i := 4) (v := ?v39) rfl (by kernel_rfl) (by kernel_rfl) (by kernel_rfl) (fun _ _ _ h => h) (Or.inl ⟨by rfl, ?hy39⟩) (by assumption) ?_
            case hy39 => (intro w hSw; (try dsimp only at hSw); go_simp; try (with_reducible rfl))
            try simp only [Act.put, List.setIfInBounds_toArray, List.set_cons_zero, List.set_cons_succ]
            refine htake (i := 5) (v := ?v40) rfl (by kernel_rfl) (by kernel_rfl) (by kernel_rfl) (fun _ _ _ h => h) (Or.inl ⟨by rfl, ?hy40⟩) (by assumption) ?_
            case hy40 => (intro w hSw; (try dsimp only at hSw); go_simp; try (with_reducible rfl))
            try simp only [Act.put, List.setIfInBounds_toArray, List.set_cons_zero, List.set_cons_succ]
            refine htake (i := 6) (v := ?v41) rfl (by kernel_rfl) (by kernel_rfl) (by kernel_rfl) (fun _ _ _ h => h) (Or.inl ⟨by rfl, ?hy41⟩) (by assumption) ?_
            case hy41 => (intro w hSw; (try dsimp only at hSw); go_simp; try (with_reducible rfl))
            try simp only [Act.put, List.setIfInBounds_toArray, List.set_cons_zero, List.set_cons_succ]
            refine htake (i := 7) (v := ?v42) rfl (by kernel_rfl) (by kernel_rfl) (by kernel_rfl) (fun _ _ _ h => h) (Or.inl ⟨by rfl, ?hy42⟩) (by assumption) ?_
            case hy42 => (intro w hSw; (try dsimp only at hSw); go_simp; try (with_reducible rfl))
            try simp only [Act.put, List.setIfInBounds_toArray, List.set_cons_zero, List.set_cons_succ]
            refine htake (i := 9) (v := ?v43) rfl (by kernel_rfl) (by kernel_rfl) (by kernel_rfl) (fun _ _ _ h => h) (Or.inl ⟨by rfl, ?hy43⟩) (by assumption) ?_
            case hy43 => (intro w hSw; (try dsimp only at hSw); go_simp; try (with_reducible rfl))
            try simp only [Act.put, List.setIfInBounds_toArray, List.set_cons_zero, List.set_cons_succ]
            refine htake (i := 10) (v := ?v44) rfl (by kernel_rfl) (by kernel_rfl) (by kernel_rfl) (fun _ _ _ h => h) (Or.inl ⟨by rfl, ?hy44⟩) (by assumption) ?_
            case hy44 => (intro w hSw; (try dsimp only at hSw); go_simp; try (with_reducible rfl))
            try simp only [Act.put, List.setIfInBounds_toArray, List.set_cons_zero, List.set_cons_succ]
            refine htake (i := 11) (v := ?v45) rfl (by kernel_rfl) (by kernel_rfl) (by kernel_rfl) (fun _ _ _ h => h) (Or.inl ⟨by rfl, ?hy45⟩) (by assumption) ?_
            case hy45 => (intro w hSw; (try dsimp only at hSw); go_simp; try (with_reducible rfl))
            try simp only [Act.put, List.setIfInBounds_toArray, List.set_cons_zero, List.set_cons_succ]
            refine htake (i := 12) (v := ?v46) rfl (by kernel_rfl) (by kernel_rfl) (by kernel_rfl) (fun _ _ _ h => h) (Or.inl ⟨by rfl, ?hy46⟩) (by assumption) ?_
            case hy46 => (intro w hSw; (try dsimp only at hSw); go_simp; try (with_reducible rfl))
            try simp only [Act.put, List.setIfInBounds_toArray, List.set_cons_zero, List.set_cons_succ]
            refine htake (i := 13) (v := ?v47) rfl (by kernel_rfl) (by kernel_rfl) (by kernel_rfl) (fun _ _ _ h => h) (Or.inl ⟨by rfl, ?hy47⟩) (by assumption) ?_
            case hy47 => (intro w hSw; (try dsimp only at hSw); go_simp; try (with_reducible rfl))
            try simp only [Act.put, List.setIfInBounds_toArray, List.set_cons_zero, List.set_cons_succ]
            refine htake (i := 14) (v := ?v48) rfl (by kernel_rfl) (by kernel_rfl) (by kernel_rfl) (fun _ _ _ h => h) (Or.inl ⟨by rfl, ?hy48⟩) (by assumption) ?_
            case hy48 => (intro w hSw; (try dsimp only at hSw); go_simp; try (with_reducible rfl))
            try simp only [Act.put, List.setIfInBounds_toArray, List.set_cons_zero, List.set_cons_succ]
            refine htake (i := 15) (v := ?v49) rfl (by kernel_rfl) (by kernel_rfl) (by kernel_rfl) (fun _ _ _ h => h) (Or.inl ⟨by rfl, ?hy49⟩) (by assumption) ?_
            case hy49 => (intro w hSw; (try dsimp only at hSw); go_simp; try (with_reducible rfl))
            try simp only [Act.put, List.setIfInBounds_toArray, List.set_cons_zero, List.set_cons_succ]
            refine htake (i := 16) (v := ?v50) rfl (by kernel_rfl) (by kernel_rfl) (by kernel_rfl) (fun _ _ _ h => h) (Or.inl ⟨by rfl, ?hy50⟩) (by assumption) ?_
            case hy50 => (intro w hSw; (try dsimp only at hSw); go_simp; try (with_reducible rfl))
            try simp only [Act.put, List.setIfInBounds_toArray, List.set_cons_zero, List.set_cons_succ]
            refine htake (i := 17) (v := ?v51) rfl (by kernel_rfl) (by kernel_rfl) (by kernel_rfl) (fun _ _ _ h => h) (Or.inl ⟨by rfl, ?hy51⟩) (by assumption) ?_
            case hy51 => (intro w hSw; (try dsimp only at hSw); go_simp; try (with_reducible rfl))
            try simp only [Act.put, List.setIfInBounds_toArray, List.set_cons_zero, List.set_cons_succ]
            refine htake (i := 18) (v := ?v52) rfl (by kernel_rfl) (by kernel_rfl) (by kernel_rfl) (fun _ _ _ h => h) (Or.inl ⟨by rfl, ?hy52⟩) (by assumption) ?_
            case hy52 => (intro w hSw; (try dsimp only at hSw); go_simp; try (with_reducible rfl))
            try simp only [Act.put, List.setIfInBounds_toArray, List.set_cons_zero, List.set_cons_succ]
            refine wpAnyH_ready (rs := [8]) (by kernel_rfl) (by simp) ?_
            refine hcons rfl (fun K hK => ?_) (AllReadyH.nil)
            go_simp
            (with_reducible refine (HOFF.out _).mono ?_); rintro e w4 ⟨rfl, hb4⟩; replace hc := hc.trans (hb4.mono hc.size); clear hb4
            refine hK.out _ _ ?_ (fun hHeld => ?_)
            · (try dsimp only); exact H10.out _ hc
            clear hK K
            try simp only [Act.put, List.setIfInBounds_toArray, List.set_cons_zero, List.set_cons_succ]
            refine htake (i := 19) (v := ?v53) rfl (by kernel_rfl) (by kernel_rfl) (by kernel_rfl) (fun _ _ _ h => h) (Or.inl ⟨by rfl, ?hy53⟩) (by assumption) ?_
            case hy53 => (intro w hSw; (try dsimp only at hSw); go_simp; try (with_reducible rfl))
            try simp only [Act.put, List.setIfInBounds_toArray, List.set_cons_zero, List.set_cons_succ]
            refine htake (i := 20) (v := ?v54) rfl (by kernel_rfl) (by kernel_rfl) (by kernel_rfl) (fun _ _ _ h => h) (Or.inl ⟨by rfl, ?hy54⟩) (by assumption) ?_
            case hy54 => (intro w hSw; (try dsimp only at hSw); go_simp; try (with_reducible rfl))
            try simp only [Act.put, List.setIfInBounds_toArray, List.set_cons_zero, List.set_cons_succ]
            refine wpAnyH_done (by kernel_rfl) ?_ _
            refine NoPanic.normal ?_
            iterate 22 (try clear hHeld)
            all_goals
              go_wp2_with fail
              go_roundw
              case rel => exact HRe.out _ hc
              case measure => simp [intOf]; omega
      · obtain rfl : k = d.blades.length := by omega
        obtain ⟨rF, hrF⟩ : ∃ rF : Nat → Int, rF = (fun q => r2 q + if q < d.blades.length then n else 0) := ⟨_, rfl⟩
        rw [← hrF] at hrx
        have r0 : wr.cell? ⟨w.heap.size + 1, 0, none⟩ = some (.int .i64 (rF 0)) := hrx.c 0 _ rfl
        have r1 : wr.cell? ⟨w.heap.size + 1, 1, none⟩ = some (.int .i64 (rF 1)) := hrx.c 1 _ rfl
        have r2' : wr.cell? ⟨w.heap.size + 1, 2, none⟩ = some (.int .i64 (rF 2)) := hrx.c 2 _ rfl
        have r3 : wr.cell? ⟨w.heap.size + 1, 3, none⟩ = some (.int .i64 (rF 3)) := hrx.c 3 _ rfl
        have r4 : wr.cell? ⟨w.heap.size + 1, 4, none⟩ = some (.int .i64 (rF 4)) := hrx.c 4 _ rfl
        have o0 : wr.cell? ⟨w.heap.size + 1 + 1, 0, none⟩ = some (.int .i64 0) := ho.c 0 _ rfl
        have o1 : wr.cell? ⟨w.heap.size + 1 + 1, 1, none⟩ = some (.int .i64 0) := ho.c 1 _ rfl
        have o2 : wr.cell? ⟨w.heap.size + 1 + 1, 2, none⟩ = some (.int .i64 0) := ho.c 2 _ rfl
        have o3 : wr.cell? ⟨w.heap.size + 1 + 1, 3, none⟩ = some (.int .i64 0) := ho.c 3 _ rfl
        have o4 : wr.cell? ⟨w.heap.size + 1 + 1, 4, none⟩ = some (.int .i64 0) := ho.c 4 _ rfl
        have f0 := ho.fr 0
        have f1 := ho.fr 1
        have f2 := ho.fr 2
        have f3 := ho.fr 3
        have f4 := ho.fr 4
        have HO := Lib.hid (ho.setAll [.int .i64 (rF 0), .int .i64 (rF 1), .int .i64 (rF 2), .int .i64 (rF 3), .int .i64 (rF 4)] rfl)
        have HDn := Lib.hid ((setCells_blk (w.heap.size + 1 + 1) D (by omega) [.int .i64 (rF 0), .int .i64 (rF 1), .int .i64 (rF 2), .int .i64 (rF 3), .int .i64 (rF 4)] 0 wr).trans hDw)
        have HBn := Lib.hid (below_setCells (b := w.heap.size + 1 + 1) (B := w.heap.size) (by omega) [.int .i64 (rF 0), .int .i64 (rF 1), .int .i64 (rF 2), .int .i64 (rF 3), .int .i64 (rF 4)] 0 hbw)
        have HE1 := Lib.hid (show rF = runR d.blades.length r set n from by rw [hrF, HR2.out]; rfl)
        have HE2 := Lib.hid (show badTo d.blades (d.bound + more) (fun q => r2 q + n) d.blades.length = badS d.blades (d.bound + more) (runR d.blades.length r set n) from badTo_congr fun q hq => by rw [← HE1.out, hrF]; show _ = r2 q + if q < d.blades.length then n else 0; rw [if_pos hq])
        clear hrF
        clear hrx ho hm he2 hbl hDw
        obtain ⟨bv, hbv⟩ : ∃ bv, bv = badI (badTo d.blades (d.bound + more) (fun q => r2 q + n) d.blades.length) := ⟨_, rfl⟩
        rw [← hbv]
        have HBV := Lib.hid hbv
        clear hbv
        go_wp2_with fail
        clear KD M2 R2 O2 B2 E2 BW OK HD HS HRB EA ES hjl hnb hbd hjn hj hset he hset32 hb0 hset' hKD hlt hk hbw hDlt hbsw
        gi_wp2_with fail
        refine ⟨by simp, .inl ⟨_, _, rfl, run_takeDeferred HDn.out, ?_⟩⟩
        refine ⟨_, results_cellA rfl rfl (loadR (HO.out.nc (by simp) (grownBy_putObj' _ D _) (fun r e => by cases e; exact ⟨_, HDn.out, rfl⟩))), ?_, HBn.out.trans (belowK_b (w := w) (Nat.le_refl _) _ D _ _ (by omega) HDn.out rfl rfl)⟩
        unfold runRes
        rw [← HN.out, ← HM.out]
        show Ending.returned (.tuple #[.agg (ranL rF).toArray, .int .i64 bv]) = _
        rw [HE1.out, HBV.out, HE2.out]
  case stop =>
    rintro D c pre W _ _ h _
    exact h.elim
end Go.Proofs.YtbhkglokdomajaaDoor
