import Derived.Test.YtjlicbdnppodgaaP5
import Derived.Test.YtjlicbdnppodgaaL2
import Derived.Test.YtjlicbdnppodgaaEdg
import Derived.Test.YtjlicbdnppodgaaP6
namespace Go.Proofs.Ytjlicbdnppodgaa
open Go.RowKit
attribute [local go_sem] Oper.semAt_some
/-! The program: edges. -/
structure EdW (c : Cut) (bm bo b1 b3 r : Nat) (w : World) (done : Pt → Bool) (cnt : Nat) (f : Pt → Option Int) (W : World) : Prop where
  rg : RangeIs Try.prog 90 kv2 vvI bm r (picF c) done cnt W
  out : MapIs Try.prog 84 kv2 vvI bo f W
  x1 : Bx W b1 (picL c bm)
  x3 : Bx W b3 [.map (some bo)]
  b : Below w.heap.size w W
theorem EdW.up {c : Cut} {bm bo b1 b3 r B cnt : Nat} {w : World} {done : Pt → Bool} {f : Pt → Option Int} {W W' : World} {row : Option Nat} (h : EdW c bm bo b1 b3 r w done cnt f W) (hB : bm < B ∧ bo < B ∧ b1 < B ∧ b3 < B ∧ r < B ∧ w.heap.size ≤ B) (hg : W.grownBy W' row) (hr : ∀ q, row = some q → B ≤ q) : EdW c bm bo b1 b3 r w done cnt f W' := by
  obtain ⟨h1, h2, h3, h4, h5, h6⟩ := hB
  have ne : ∀ b, b < B → some b ≠ row := fun b hb e => by have := hr b e.symm; omega
  have ne' : ∀ b, b < B → ∀ r, row = some r → b ≠ r := fun b hb r e e' => by have := hr r e; omega
  exact ⟨h.rg.grown hg (ne _ h1) (ne _ h5), h.out.grown hg (ne _ h2), h.x1.gk hg (ne' _ h3), h.x3.gk hg (ne' _ h4), h.b.grown hg h.b.size (fun q e => by have := hr q e; omega)⟩
theorem EdW.add {c : Cut} {bm bo b1 b3 r cnt : Nat} {w : World} {done : Pt → Bool} {f f' : Pt → Option Int} {W W' : World} (h : EdW c bm bo b1 b3 r w done cnt f W) (h0 : w.heap.size ≤ bo ∧ bm ≠ bo ∧ r ≠ bo) (hm : MapIs Try.prog 84 kv2 vvI bo f' W') (hg : W.grownBy W' (some bo)) : EdW c bm bo b1 b3 r w done cnt f' W' :=
  ⟨h.rg.grown hg (fun e => h0.2.1 (by injection e)) (fun e => h0.2.2 (by injection e)), hm, h.x1.gk hg (fun r e e' => bx_map_ne h.x1 h.out (e'.trans (Option.some.inj e).symm)), h.x3.gk hg (fun r e e' => bx_map_ne h.x3 h.out (e'.trans (Option.some.inj e).symm)), h.b.grown hg h.b.size (fun q e => by injection e with e; omega)⟩
def RetEdges (c : Cut) (w : World) (e : Ending) (w' : World) : Prop := ∃ b, e = .returned (.map (some b)) ∧ w.heap.size ≤ b ∧ MapIs Try.prog 84 kv2 vvI b (edgO c) w' ∧ Below w.heap.size w w'
/-- Between two rounds. -/
structure EdR (c : Cut) (bm r : Nat) (w W : World) (done : Pt → Bool) (cnt : Nat) (Ds : List Nat) : Prop where
  ed : EdW c bm (w.heap.size + 1) (w.heap.size) (w.heap.size + 1 + 1) r w done cnt (fun q => posO (edgN c done q)) W
  df : DefsOk (w.heap.size) W.heap.size Ds W
/-- Within the range over the cells around p. -/
structure EdI (c : Cut) (bm r : Nat) (w : World) (done done' : Pt → Bool) (cnt : Nat) (Ds : List Nat) (p : Pt) (k : Int) (b4 b5 B : Nat) (pre : List (Fin 4)) (W : World) : Prop where
  ed : EdW c bm (w.heap.size + 1) (w.heap.size) (w.heap.size + 1 + 1) r w done' cnt (edgF c done p (pre.map (nb p))) W
  x4 : Bx W b4 [.int .i64 p.1, .int .i64 p.2]
  x5 : Bx W b5 [.int .i64 k]
  df : DefsOk (w.heap.size) B Ds W
  z : B ≤ W.heap.size
theorem EdI.up {c : Cut} {bm r : Nat} {w : World} {done done' : Pt → Bool} {cnt : Nat} {Ds : List Nat} {p : Pt} {k : Int} {b4 b5 B : Nat} {pre : List (Fin 4)} {W W' : World} {row : Option Nat} (h : EdI c bm r w done done' cnt Ds p k b4 b5 B pre W) (hB : bm < B ∧ w.heap.size + 1 + 1 < B ∧ r < B ∧ b4 < B ∧ b5 < B) (hg : W.grownBy W' row) (hr : ∀ q, row = some q → B ≤ q) : EdI c bm r w done done' cnt Ds p k b4 b5 B pre W' := by
  obtain ⟨h1, h2, h3, h4, h5⟩ := hB
  have ne' : ∀ b, b < B → ∀ r, row = some r → b ≠ r := fun b hb r e e' => by have := hr r e; omega
  exact ⟨h.ed.up ⟨h1, by omega, by omega, by omega, h3, by omega⟩ hg hr, h.x4.gk hg (ne' _ h4), h.x5.gk hg (ne' _ h5), h.df.of fun D hD => hg.block D (by have := (h.df.lt D hD).2; have := h.z; omega) (fun e => by have := (h.df.lt D hD).2; have := hr D e.symm; omega), Nat.le_trans h.z hg.size⟩
theorem EdI.own {c : Cut} {bm r : Nat} {w : World} {done done' : Pt → Bool} {cnt : Nat} {Ds : List Nat} {p : Pt} {k : Int} {b4 b5 B : Nat} (hB : bm < B ∧ w.heap.size + 1 + 1 < B ∧ r < B ∧ b4 < B ∧ b5 < B) : OwnFrom B (EdI c bm r w done done' cnt Ds p k b4 b5 B) := by
  rintro pre A A' row h hg hr
  exact h.up hB hg (fun r e => (hr r e).1)
def edMask : List (Option Nat) := [none, none, none, none, some 4, some 5, some 6, some 7, none, none, none, none, some 12, some 13, some 14, some 15, some 16, some 17, some 18, none, some 20, some 21, some 22, some 23, some 24, some 25, some 26, some 27, some 28, some 29, some 30, none]
set_option maxRecDepth 100000 in
set_option maxHeartbeats 2000000 in
theorem edges_any (c : Cut) (bm : Nat) (w : World) (ok : OkC c) (hp : PicAt c bm w) : Calls Try.prog 51 #[.agg #[.int .i64 c.wide, .int .i64 c.high, .slice c.A c.piece.length c.c, .map (some (bm))]] w (RetEdges c w) := by
  have hmm := @run_makeMap Try.prog
  have hlt := hp.lt
  have OK := Lib.hid ok
  have n0 := nxA w (.cells #[.int .i64 c.wide, .int .i64 c.high, .slice c.A c.piece.length c.c, .map (some (bm))] 71)
  have y0 := Bx.new w #[.int .i64 c.wide, .int .i64 c.high, .slice c.A c.piece.length c.c, .map (some (bm))] 71
  have s0 : (w.alloc (Obj.cells #[.int .i64 c.wide, .int .i64 c.high, .slice c.A c.piece.length c.c, .map (some (bm))] 71)).heap.size = w.heap.size + 1 := by simp
  have n1 := nxA (w.alloc (.cells #[.int .i64 c.wide, .int .i64 c.high, .slice c.A c.piece.length c.c, .map (some (bm))] 71)) (Obj.map #[] 0)
  have y1 := MapIs.made Try.prog 84 kv2 vvI (w.alloc (.cells #[.int .i64 c.wide, .int .i64 c.high, .slice c.A c.piece.length c.c, .map (some (bm))] 71))
  have n2 := nxA ((w.alloc (.cells #[.int .i64 c.wide, .int .i64 c.high, .slice c.A c.piece.length c.c, .map (some (bm))] 71)).alloc (Obj.map #[] 0)) (.cells #[.map (some (w.heap.size + 1))] 81)
  have y2 := Bx.new ((w.alloc (.cells #[.int .i64 c.wide, .int .i64 c.high, .slice c.A c.piece.length c.c, .map (some (bm))] 71)).alloc (Obj.map #[] 0)) #[.map (some (w.heap.size + 1))] 81
  simp only [World.size_alloc] at y1 y2
  have Y0 := Lib.hid ((y0.next n1).next n2)
  have Y1 := Lib.hid (y1.next n2)
  have Y2 := Lib.hid y2
  have HB := Lib.hid (n0.trans ((n1.trans (n2.mono n1.size)).mono n0.size))
  have HP := Lib.hid (MapIs.next hp HB.out)
  have HS := Lib.hid (show (((w.alloc (.cells #[.int .i64 c.wide, .int .i64 c.high, .slice c.A c.piece.length c.c, .map (some (bm))] 71)).alloc (Obj.map #[] 0)).alloc (.cells #[.map (some (w.heap.size + 1))] 81)).heap.size = w.heap.size + 1 + 1 + 1 from by simp)
  clear ok hp n0 y0 s0 n1 y1 n2 y2
  refine (callsIn_wide (n := 6)).1 ?_
  refine callsIn_of_wp_marks Try.func51 rfl trivial ?_ rfl
  simp only [Try.ntmps51, List.size_toArray, List.length_cons, List.length_nil, Nat.reduceAdd, Nat.reduceSub, Array.replicate_succ, Array.replicate_zero, List.push_toArray, List.append_toArray, List.nil_append, List.cons_append]
  obtain ⟨rr, hrr⟩ : ∃ rr, rr = (((w.alloc (.cells #[.int .i64 c.wide, .int .i64 c.high, .slice c.A c.piece.length c.c, .map (some (bm))] 71)).alloc (Obj.map #[] 0)).alloc (.cells #[.map (some (w.heap.size + 1))] 81)).heap.size := ⟨_, rfl⟩
  obtain ⟨W0, cnt0, hrun, hR0, hB0, hz0⟩ := HP.out.range mapC_und
  rw [← hrr] at hrun hR0 hz0
  have HRR := Lib.hid (hrr.trans HS.out)
  have ED0 := Lib.hid (show EdR c bm rr w W0 (fun _ => false) cnt0 [] from ⟨⟨hR0, (Y1.out.next hB0).eq (fun q => by rw [edgN_none]; rfl), Y0.out.next hB0, Y2.out.next hB0, below_step hB0 HB.out (by omega)⟩, DefsOk.nil _ _ _⟩)
  clear hrr hz0 hR0 hB0
  gi_wp2_with fail
  clear hmm hrun HP HS Y0 Y1 Y2 HB
  refine wpIn_loopD edMask (fun _ ds W => ∃ done cnt Ds, ds = marks Ds ∧ EdR c bm rr w W done cnt Ds) (fun _ W => leftW bm rr W) (by kernel_rfl) ⟨_, _, [], rfl, ED0.out⟩ ?_
  rintro f ds W ⟨done, cnt, Ds, rfl, hE⟩
  simp only [edMask, mixF]
  have HE := Lib.hid hE
  have HL := Lib.hid hE.ed.rg.left
  rcases hE.ed.rg.step kv2_inj 0 with ⟨h0, hall, hnx⟩ | ⟨p, v, W2, cnt2, hf, hdn, -, hnx, hr2, hlt2, hg2, hz2, hent⟩
  · have HALL := Lib.hid hall
    have c3 := hE.ed.x3.c 0 _ rfl
    clear hE hall
    gi_wp2_with fail
    unfold bodyPostM
    refine leaves_marks (by simp) (fun W => MapIs Try.prog 84 kv2 vvI (w.heap.size + 1) (edgO c) W ∧ Below w.heap.size w W) w.heap.size ?_ ?_ Ds _ W HE.out.df ⟨HE.out.ed.out.eq (fun q => ?_), HE.out.ed.b⟩
    · rintro W' D hD hW ⟨h1, h2⟩
      have hg := grownBy_putObj' W' D (.deferred none)
      refine ⟨h1.grown hg (fun e => ?_), h2.grown hg h2.size (fun q e => by injection e with e; omega)⟩
      injection e with e
      obtain ⟨es, clock, h3, -⟩ := h1
      rw [e, hW] at h3
      injection h3 with h3
      cases h3
    · rintro W' ⟨h1, h2⟩
      exact ⟨_, results_tmp rfl _ _ _, w.heap.size + 1, rfl, by omega, h1, h2⟩
    · rw [← edgF_nil c done (0, 0) q]
      exact edgO_all OK.out (fun p => by rw [HALL.out p, picF_some]) (0, 0) q
  · unfold kv2 vvI at hnx hent
    have hp : inG c p := by
      have := picF_some (c := c) p
      rw [hf] at this
      exact this.symm
    have hv : v = at2 c p.1 p.2 := by
      have := picF_val (c := c) p
      rw [hf] at this
      exact this
    have hkb := OK.out.at_bd p.1 p.2
    subst hv
    obtain ⟨k, hk⟩ : ∃ k, k = at2 c p.1 p.2 := ⟨_, rfl⟩
    rw [← hk] at hnx hent hkb
    have HK := Lib.hid hk
    have HIN := Lib.hid hp
    have HLT := Lib.hid hlt2
    have HDN := Lib.hid hdn
    have hrr := HRR.out
    have hne : ∀ o, W.heap[rr]? ≠ some (.deferred o) := fun o e => by
      obtain ⟨es, clock, since, seen, c0, -, -, h3, -⟩ := hE.ed.rg
      rw [h3] at e
      injection e with e
      cases e
    have hE2 : EdW c bm (w.heap.size + 1) (w.heap.size) (w.heap.size + 1 + 1) rr w (fun q => done q || decide (q = p)) cnt2 (edgF c done p [] ) W2 := ⟨hr2, (hE.ed.out.grown hg2 (fun e => by injection e with e; omega)).eq (fun q => (edgF_nil c done p q).symm), hE.ed.x1.gk hg2 (fun r e => by injection e with e; omega), hE.ed.x3.gk hg2 (fun r e => by injection e with e; omega), hE.ed.b.grown hg2 hE.ed.b.size (fun q e => by injection e with e; omega)⟩
    have hD2 := hE.df.grown hg2 (fun r e => by injection e with e; subst e; exact fun ⟨o, h⟩ => hne o h)
    have a4 := World.grownBy_alloc W2 (.cells #[.int .i64 p.1, .int .i64 p.2] 90) none
    have a5 := World.grownBy_alloc (W2.alloc (.cells #[.int .i64 p.1, .int .i64 p.2] 90)) (.cells #[.int .i64 k] 3) none
    have a6 := World.grownBy_alloc ((W2.alloc (.cells #[.int .i64 p.1, .int .i64 p.2] 90)).alloc (.cells #[.int .i64 k] 3)) (.cells #[.int .i64 p.1, .int .i64 p.2] 90) none
    have x4 := ((Bx.new W2 #[.int .i64 p.1, .int .i64 p.2] 90).gk a5 (fun r e => by cases e)).gk a6 (fun r e => by cases e)
    have x5 := (Bx.new (W2.alloc (.cells #[.int .i64 p.1, .int .i64 p.2] 90)) #[.int .i64 k] 3).gk a6 (fun r e => by cases e)
    have x6 := Bx.new ((W2.alloc (.cells #[.int .i64 p.1, .int .i64 p.2] 90)).alloc (.cells #[.int .i64 k] 3)) #[.int .i64 p.1, .int .i64 p.2] 90
    have hz5 : (((W2.alloc (.cells #[.int .i64 p.1, .int .i64 p.2] 90)).alloc (.cells #[.int .i64 k] 3)).alloc (.cells #[.int .i64 p.1, .int .i64 p.2] 90)).heap.size = W2.heap.size + 1 + 1 + 1 := by simp
    simp only [World.size_alloc] at x5 x6
    have hrl := hr2.rlt
    have hE5 := hE2.up (B := W2.heap.size) ⟨by omega, by omega, by omega, by omega, hrl, by omega⟩ (a4.trans (a5.trans a6)) (fun q e => by cases e)
    have hD5 := hD2.of (W' := ((W2.alloc (.cells #[.int .i64 p.1, .int .i64 p.2] 90)).alloc (.cells #[.int .i64 k] 3)).alloc (.cells #[.int .i64 p.1, .int .i64 p.2] 90)) fun D hD => (a4.trans (a5.trans a6)).block D (Array.getElem?_eq_some_iff.1 (hD2.at_ D hD)).1 (fun e => by cases e)
    have hpn : -900 ≤ p.1 ∧ p.1 ≤ 900 ∧ -900 ≤ p.2 ∧ p.2 ≤ 900 := by
      unfold inG isIn inS at hp
      simp only [Bool.and_eq_true, decide_eq_true_eq] at hp
      have := OK.out.w
      have := OK.out.h
      omega
    have HI0 := Lib.hid (show EdI c bm rr w done (fun q => done q || decide (q = p)) cnt2 Ds p k W2.heap.size (W2.heap.size + 1) (W2.heap.size + 1 + 1 + 1) [] (((W2.alloc (.cells #[.int .i64 p.1, .int .i64 p.2] 90)).alloc (.cells #[.int .i64 k] 3)).alloc (.cells #[.int .i64 p.1, .int .i64 p.2] 90)) from ⟨hE5, x4, x5, hD5.more (by omega), by rw [hz5]; exact Nat.le_refl _⟩)
    have X6 := Lib.hid x6
    have HZ5 := Lib.hid hz5
    have HW := Lib.hid (show bm < W2.heap.size ∧ w.heap.size + 1 + 1 < W2.heap.size ∧ rr < W2.heap.size ∧ w.heap.size + 1 ≠ rr ∧ w.heap.size ≤ W2.heap.size from ⟨by omega, by omega, hrl, by omega, by omega⟩)
    have HPN := Lib.hid hpn
    clear hk hE hf hdn hp hlt2 hrr hne hE2 hD2 a4 a5 a6 x4 x5 x6 hz5 hrl hE5 hD5 hpn hz2 hr2 hg2
    gi_wp2_with fail
    refine ⟨trivial, (callsIn_wide.2 (around_any _ _ _)).mono ?_⟩
    rintro e w' ⟨rfl, rfl⟩
    gi_wp2_with fail
    try simp only [World.size_alloc]
    generalize ((W2.alloc (.cells #[.int .i64 p.1, .int .i64 p.2] 90)).alloc (.cells #[.int .i64 k] 3)).alloc (.cells #[.int .i64 p.1, .int .i64 p.2] 90) = W5 at *
    have hseq := around1_stops 5 (by omega) p (W2.heap.size + 1 + 1) W5 (by have := HPN.out; unfold Near; omega) X6.out
    have HWB := Lib.hid (show bm < W5.heap.size ∧ w.heap.size + 1 + 1 < W5.heap.size ∧ rr < W5.heap.size ∧ W2.heap.size < W5.heap.size ∧ W2.heap.size + 1 < W5.heap.size from by have := HZ5.out; have := HW.out; omega)
    refine wpIn_rangeFunc_ownH rfl (by omega) (gf := 74) (lb := #[.pointer (some ⟨W2.heap.size + 1 + 1, 0, none⟩)]) rfl trivial (enters_of Try.func74 (by kernel_rfl) rfl)
      hseq (fun h k => KpC.trans h k) (kpc_put X6.out.lt) (Below.refl _ _) (fun _ => rfl)
      (EdI c bm rr w done (fun q => done q || decide (q = p)) cnt2 Ds p k W2.heap.size (W2.heap.size + 1) W5.heap.size) (fun _ _ _ => False) (EdI.own HWB.out) (fun _ _ _ _ _ h _ _ => h)
      (by rw [HZ5.out]; exact HI0.out)
      (fun x a' W' => ∃ bx, W5.heap.size ≤ bx ∧ Bx W' bx [.int .i64 (nb p x).1, .int .i64 (nb p x).2] ∧ a' = { tmps := #[.agg #[.int .i64 c.wide, .int .i64 c.high, .slice c.A c.piece.length c.c, .map (some (bm))], .pointer (some ⟨w.heap.size, 0, none⟩), .map none, .pointer (some ⟨w.heap.size + 1 + 1, 0, none⟩), .pointer (some ⟨W2.heap.size, 0, none⟩), .pointer (some ⟨W2.heap.size + 1, 0, none⟩), .pointer (some ⟨bx, 0, none⟩), f 7, .map (some (w.heap.size + 1)), .pointer (some ⟨w.heap.size, 3, none⟩), .map (some bm), .pointer (some ⟨rr, 0, none⟩), .tuple #[.bool true, .agg #[.int .i64 p.1, .int .i64 p.2], .int .i64 k], .bool true, .tuple #[.agg #[.int .i64 p.1, .int .i64 p.2], .int .i64 k], .agg #[.int .i64 p.1, .int .i64 p.2], .int .i64 k, .agg #[.int .i64 p.1, .int .i64 p.2], .func (.func 74) #[] #[.pointer (some ⟨W2.heap.size + 1 + 1, 0, none⟩)], .agg #[.int .i64 (nb p x).1, .int .i64 (nb p x).2], f 20, f 21, f 22, f 23, f 24, f 25, f 26, f 27, f 28, f 29, f 30, undef], defers := [] })
      (fun k a' _ A B row h hg hr => by obtain ⟨bx, h1, h2, h3⟩ := h; exact ⟨bx, h1, h2.nc (by simp) hg (fun r e => (hr r e).2), h3⟩)
      ?assign ?body ?done ?stop
    case assign =>
      rintro l pre x W' K hI hK
      dsimp only [encA]
      gi_wp2
      have hgA := World.grownBy_alloc W' (.cells #[.int .i64 (nb p x).1, .int .i64 (nb p x).2] 90) none
      refine hK _ _ ((KeepsOthers.alloc _ _).from _) ⟨by simp, hgA.block _ (by have := hI.z; have := X6.out.lt; omega) (by simp)⟩ ?_ ⟨W'.heap.size, hI.z, Bx.new _ _ _, rfl⟩
      exact hI.up HWB.out hgA (fun r e => by cases e)
    case body =>
      rintro l pre x a' W' hl ⟨r, hr⟩ hI ⟨bx, hbx, hXb, rfl⟩ hlen
      have hqn := nb_near HPN.out x
      obtain ⟨q, hq⟩ : ∃ q, q = nb p x := ⟨_, rfl⟩
      rw [← hq] at hqn hXb ⊢
      have HQ := Lib.hid hq
      have HI := Lib.hid hI
      have b0 := hI.ed.x1.c 0 _ rfl
      have b1 := hI.ed.x1.c 1 _ rfl
      have b2 := hI.ed.x1.c 2 _ rfl
      have b3 := hI.ed.x1.c 3 _ rfl
      have d0 := hXb.c 0 _ rfl
      have d1 := hXb.c 1 _ rfl
      clear hI hXb hq hseq
      gi_wp2_with fail
      refine ⟨trivial, CallsIn.inRound l (callsIn_wide.2 ((piece_any c bm q.1 q.2 W' HI.out.ed.rg.map ⟨by have := hqn.1; omega, by have := hqn.2.1; omega⟩ ⟨by have := hqn.2.2.1; omega, by have := hqn.2.2.2; omega⟩).mono ?_))⟩
      rintro e W6 ⟨rfl, hb6⟩
      have hg6 := only_of_below hb6 none
      have HI6 := Lib.hid (HI.out.up HWB.out hg6 (fun r e => by cases e))
      have hqe : pcOf c q = at2 c q.1 q.2 := rfl
      have HK6 := Lib.hid (show KeepsFrom W5.heap.size W' W6 ∧ KpC (W2.heap.size + 1 + 1) W' W6 from ⟨KeepsFrom.of_grownBy hg6 (fun j e => by cases e), ⟨hb6.size, hb6.block _ (by have := HI.out.z; have := X6.out.lt; omega)⟩⟩)
      have hqb := OK.out.at_bd q.1 q.2
      have hmm : (pre ++ [x]).map (nb p) = pre.map (nb p) ++ [q] := by rw [List.map_append, HQ.out]; rfl
      have HMM := Lib.hid hmm
      clear b0 b1 b2 b3 d0 d1 hb6 hg6 hmm
      have t0 := HI6.out.x5.c 0 _ rfl
      have t1 := HI6.out.ed.x3.c 0 _ rfl
      by_cases hA : at2 c q.1 q.2 = k
      · have HF := Lib.hid (show KeepsFrom W5.heap.size W' W6 ∧ KpC (W2.heap.size + 1 + 1) W' W6 ∧ EdI c bm rr w done (fun q => done q || decide (q = p)) cnt2 Ds p k W2.heap.size (W2.heap.size + 1) W5.heap.size (pre ++ [x]) W6 from ⟨HK6.out.1, HK6.out.2, ⟨⟨HI6.out.ed.rg, HI6.out.ed.out.eq (fun r => by
            rw [HMM.out]
            exact (edgF_skip (show pcOf c q = pcOf c p from hA.trans HK.out) r).symm), HI6.out.ed.x1, HI6.out.ed.x3, HI6.out.ed.b⟩, HI6.out.x4, HI6.out.x5, HI6.out.df, HI6.out.z⟩⟩)
        have eA : (at2 c q.1 q.2 == k) = true := by simp [hA]
        clear hA hqe
        gi_wp2_with fail
        exact HF.out
      · have hA2 : pcOf c q ≠ pcOf c p := fun e => hA (e.trans HK.out.symm)
        have hlen4 : (pre.map (nb p)).length ≤ 4 := by rw [List.length_map]; omega
        have hcnt := count_pair_any (w.heap.size + 1) (edgF c done p (pre.map (nb p))) (at2 c q.1 q.2, k) W6 HI6.out.ed.out ⟨⟨by have := hqb.1; show -9223372036854775808 ≤ at2 c q.1 q.2; omega, by have := hqb.2.1; show at2 c q.1 q.2 ≤ 9223372036854775807; omega⟩, ⟨by show -9223372036854775808 ≤ k; omega, by show k ≤ 9223372036854775807; omega⟩⟩ ⟨(edgF_val OK.out hlen4 _).1, by have := (edgF_val OK.out (D := done) (p := p) hlen4 (at2 c q.1 q.2, k)).2; omega⟩
        have HC := Lib.hid hcnt
        have HA2 := Lib.hid hA2
        have eA : (at2 c q.1 q.2 == k) = false := by simp [hA]
        clear hA hA2 hqe hlen4 hcnt
        gi_wp2_with fail
        refine ⟨trivial, CallsIn.inRound l (callsIn_wide.2 (HC.out.mono ?_))⟩
        rintro e W7 ⟨⟨v, rfl⟩, hm7, hg7⟩
        have hW := HW.out
        have HF := Lib.hid (show KeepsFrom W5.heap.size W' W7 ∧ KpC (W2.heap.size + 1 + 1) W' W7 ∧ EdI c bm rr w done (fun q => done q || decide (q = p)) cnt2 Ds p k W2.heap.size (W2.heap.size + 1) W5.heap.size (pre ++ [x]) W7 from ⟨HK6.out.1.trans (KeepsFrom.of_grownBy hg7 (fun j e => by injection e with e; have := HWB.out; omega)), HK6.out.2.trans ⟨hg7.size, hg7.block _ (by have := HI6.out.z; have := X6.out.lt; omega) (fun e => by injection e with e; omega)⟩,
          ⟨HI6.out.ed.add ⟨by omega, by omega, by omega⟩ (hm7.eq (fun r => by
            rw [HMM.out, ← edgF_up HA2.out r]
            show upK _ (at2 c q.1 q.2, k) r = upK _ (pcOf c q, pcOf c p) r
            rw [HK.out]; rfl)) hg7, HI6.out.x4.gk hg7 (fun r e => by injection e with e; omega), HI6.out.x5.gk hg7 (fun r e => by injection e with e; omega), HI6.out.df.grown hg7 (fun r e => by
              injection e with e
              subst e
              rintro ⟨o, h⟩
              obtain ⟨es, clock, h3, -⟩ := HI6.out.ed.out
              rw [h3] at h
              injection h with h
              cases h), Nat.le_trans HI6.out.z hg7.size⟩⟩)
        clear hm7 hg7 hW t0 t1
        gi_wp2_with fail
        exact HF.out
    case done =>
      rintro D xs W' hD hS hI hK
      have hed := hI.ed
      rw [hS, four_map] at hed
      have HF := Lib.hid (show EdR c bm rr w W' (fun q => done q || decide (q = p)) cnt2 (D :: Ds) from ⟨⟨hed.rg, hed.out.eq (fun q => by
          rw [← edgF_nil c (fun q => done q || decide (q = p)) p q]
          exact (edgF_add OK.out HIN.out HDN.out q).symm), hed.x1, hed.x3, hed.b⟩, hI.df.cons (by have := HWB.out; omega) hD (Array.getElem?_eq_some_iff.1 hK).1 hK⟩)
      have HMU := Lib.hid (show leftW bm rr W' < leftW bm rr W from by rw [hI.ed.rg.left, HL.out]; exact HLT.out)
      clear hI hK hS hD hseq hed
      gi_wp2_with fail
      exact endD (by kernel_rfl) (by kernel_rfl) ⟨_, _, D :: Ds, rfl, HF.out⟩ HMU.out
    case stop =>
      rintro D cc pre W' _ _ h _
      exact h.elim
end Go.Proofs.Ytjlicbdnppodgaa
