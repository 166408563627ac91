import Derived.Test.YtjlicbdnppodgaaP4
import Derived.Shelf.Abstract
import Derived.Deep.DeepCutAuto
namespace Go.Proofs.Ytjlicbdnppodgaa
open Go.RowKit
attribute [local go_sem] Oper.semAt_some
/-! The program: the search from a cell (the closure of parts, which calls itself in a range over the cells around). -/
def rchF (R : Pt → Bool) (p : Pt) : Option Bool := if R p = true then some true else none
def onV (b4 b1 b5 : Nat) : Value := .func (.func 65) #[] #[.pointer (some ⟨b4, 0, none⟩), .pointer (some ⟨b1, 0, none⟩), .pointer (some ⟨b5, 0, none⟩)]
structure OnW (c : Cut) (bm br b4 b1 b5 : Nat) (R : Pt → Bool) (W : World) : Prop where
  pic : PicAt c bm W
  rch : MapIs Try.prog 90 kv2 vvB br (rchF R) W
  x1 : Bx W b1 (picL c bm)
  x4 : Bx W b4 [.map (some br)]
  x5 : Bx W b5 [onV b4 b1 b5]
  ne : bm ≠ br
/-- Of what was there, nothing below B turns. -/
theorem OnW.up {c : Cut} {bm br b4 b1 b5 B : Nat} {R : Pt → Bool} {W W' : World} {row : Option Nat} (h : OnW c bm br b4 b1 b5 R W) (hB : bm < B ∧ br < B ∧ b4 < B ∧ b1 < B ∧ b5 < B) (hg : W.grownBy W' row) (hr : ∀ r, row = some r → B ≤ r) : OnW c bm br b4 b1 b5 R W' := by
  obtain ⟨h1, h2, h3, h4, h5⟩ := hB
  have ne : ∀ b, b < B → some b ≠ row := fun b hb e => by have := hr b e.symm; omega
  have ne' : ∀ b, b < B → ∀ r, row = some r → b ≠ r := fun b hb r e e' => by have := hr r e; omega
  exact ⟨h.pic.grown hg (ne _ h1), h.rch.grown hg (ne _ h2), h.x1.gk hg (ne' _ h4), h.x4.gk hg (ne' _ h3), h.x5.gk hg (ne' _ h5), h.ne⟩
theorem OnW.lts {c : Cut} {bm br b4 b1 b5 : Nat} {R : Pt → Bool} {W : World} (h : OnW c bm br b4 b1 b5 R W) : bm < W.heap.size ∧ br < W.heap.size ∧ b4 < W.heap.size ∧ b1 < W.heap.size ∧ b5 < W.heap.size := ⟨h.pic.lt, h.rch.lt, h.x4.lt, h.x1.lt, h.x5.lt⟩
theorem bx_map_ne {W : World} {b m : Nat} {v : Value} {vs : List Value} {α β : Type} {P : Program} {k : TypeId} {kv : α → Value} {vv : β → Value} {f : α → Option β} (h : Bx W b (v :: vs)) (hm : MapIs P k kv vv m f W) : b ≠ m := fun e => by
  obtain ⟨es, clock, h1, -⟩ := hm
  have h2 := h.c 0 v rfl
  unfold World.cell? at h2
  rw [e, h1] at h2
  simp at h2
/-- The marked cell. -/
theorem OnW.mark {c : Cut} {bm br b4 b1 b5 : Nat} {R : Pt → Bool} {W : World} (h : OnW c bm br b4 b1 b5 R W) (p : Pt) (hp : Near p) :
    ∃ W', (Instr.mapUpdate 106 (.map (some br)) (.agg #[.int .i64 p.1, .int .i64 p.2]) (.bool true)).run Try.prog W = .ok () W' ∧ OnW c bm br b4 b1 b5 (fun q => R q || decide (q = p)) W' ∧ W.grownBy W' (some br) ∧ W'.heap.size = W.heap.size := by
  obtain ⟨l, hl⟩ := cell_key p.1 p.2 ⟨by have := hp.1; omega, by have := hp.2.1; omega⟩ ⟨by have := hp.2.2.1; omega, by have := hp.2.2.2; omega⟩
  obtain ⟨W', h1, h2, h3, h4⟩ := h.rch.upd cell_keyed kv2_inj mapB_und (p := p) hl true
  refine ⟨W', h1, ⟨h.pic.grown h3 (fun e => h.ne (by injection e)), h2.eq (fun q => ?_), h.x1.gk h3 (fun r e e' => bx_map_ne h.x1 h.rch (e'.trans (Option.some.inj e).symm)), h.x4.gk h3 (fun r e e' => bx_map_ne h.x4 h.rch (e'.trans (Option.some.inj e).symm)), h.x5.gk h3 (fun r e e' => bx_map_ne h.x5 h.rch (e'.trans (Option.some.inj e).symm)), h.ne⟩, h3, h4⟩
  unfold setO rchF
  by_cases e : q = p <;> simp [e]
/-- How many cells are still to come. -/
def freeN (c : Cut) (R : Pt → Bool) : Nat := manyF (fun j => !R (cellOf c j)) c.piece.length
theorem manyF_lt {f g : Nat → Bool} {i : Nat} (hf : f i = false) (hg : g i = true) : ∀ {n : Nat}, i < n → (∀ k, k < n → f k = true → g k = true) → manyF f n < manyF g n
  | n + 1, hi, h => by
    rw [manyF_succ, manyF_succ]
    by_cases e : i = n
    · subst e
      have := manyF_mono (n := i) (f := f) (g := g) fun k hk => h k (by omega)
      rw [hf, hg]; simp; omega
    · have := manyF_lt hf hg (n := n) (by omega) fun k hk => h k (by omega)
      have h2 := h n (by omega)
      split
      · rename_i h3
        rw [if_pos (h2 h3)]; omega
      · omega
theorem free_lt {c : Cut} (ok : OkC c) {R R' : Pt → Bool} {p : Pt} (hp : inG c p) (h0 : R p = false) (h1 : R' p = true) (h : ∀ q, R q = true → R' q = true) : freeN c R' < freeN c R := by
  obtain ⟨j, hj, e, -⟩ := idx_of ok hp
  refine manyF_lt (i := j) (by rw [← e, h1]; rfl) (by rw [← e, h0]; rfl) hj fun k _ hk => ?_
  cases hr : R (cellOf c k) with
  | false => rfl
  | true => rw [h _ hr] at hk; cases hk
theorem Bx.nc {W W' : World} {row : Option Nat} {b : Nat} {vs : List Value} (h : Bx W b vs) (hn : 0 < vs.length) (hg : W.grownBy W' row) (hr : ∀ r, row = some r → ∃ o : Obj, W.heap[r]? = some o ∧ o.isCells = false) : Bx W' b vs := by
  obtain ⟨o, ho, hc⟩ := cells_of_cell (h.c 0 _ (List.getElem?_eq_getElem hn))
  have hk := grownBy_keeps_cells hg hr ho hc
  exact ⟨Nat.lt_of_lt_of_le h.lt hg.size, fun j u hu => (World.cell?_of_block (a := ⟨b, j, none⟩) hk).trans (h.c j u hu), fun j => (World.frozen?_of_block (a := ⟨b, j, none⟩) hk).trans (h.fr j)⟩
theorem four_map (p : Pt) : four.map (nb p) = around p.1 p.2 := by
  unfold four around
  simp only [List.map_cons, List.map_nil, nb, List.cons.injEq, Prod.mk.injEq, and_true, true_and]
  omega
theorem nb_mem (p : Pt) (k : Fin 4) : nb p k ∈ around p.1 p.2 := by
  rw [← four_map]
  exact List.mem_map_of_mem (by unfold four; revert k; decide)
theorem nb_near {p : Pt} (h : -900 ≤ p.1 ∧ p.1 ≤ 900 ∧ -900 ≤ p.2 ∧ p.2 ≤ 900) (k : Fin 4) : Near (nb p k) := by
  have := nb_mem p k
  generalize nb p k = q at *
  unfold around at this
  simp only [List.mem_cons, List.not_mem_nil, or_false] at this
  unfold Near
  rcases this with rfl | rfl | rfl | rfl <;> (simp only; omega)
/-- Within the range over the cells around p: those that have come have been looked at. -/
def OnI (c : Cut) (bm br b4 b1 b5 : Nat) (p : Pt) (R : Pt → Bool) (w : World) (z : Nat) (pre : List (Fin 4)) (W : World) : Prop :=
  ∃ R' : Pt → Bool, DfsIn c p (fun q => R q = true) (fun q => R' q = true) (pre.map (nb p)) ∧ OnW c bm br b4 b1 b5 R' W ∧ Bx W w.heap.size [.int .i64 p.1, .int .i64 p.2] ∧ w.grownBy W (some br) ∧ z ≤ W.heap.size
theorem OnI.own {c : Cut} {bm br b4 b1 b5 : Nat} {p : Pt} {R : Pt → Bool} {w : World} {z : Nat} (hB : bm < w.heap.size ∧ br < w.heap.size ∧ b4 < w.heap.size ∧ b1 < w.heap.size ∧ b5 < w.heap.size) (hz : w.heap.size < z) : OwnFrom z (OnI c bm br b4 b1 b5 p R w z) := by
  rintro pre A B row ⟨R', h1, h2, h3, h4, h5⟩ hg hr
  exact ⟨R', h1, h2.up (B := z) ⟨by omega, by omega, by omega, by omega, by omega⟩ hg (fun r e => (hr r e).1), h3.gk hg (fun r e e' => by have := (hr r e).1; omega), h4.andThen hg (fun j e => .inl (by have := (hr j e).1; omega)), Nat.le_trans h5 hg.size⟩
def RetOn (c : Cut) (bm br b4 b1 b5 : Nat) (p : Pt) (R : Pt → Bool) (w : World) (e : Ending) (w' : World) : Prop :=
  (∃ v, e = .returned v) ∧ ∃ R', Dfs c p (fun q => R q = true) (fun q => R' q = true) ∧ OnW c bm br b4 b1 b5 R' w' ∧ w.grownBy w' (some br)
set_option maxRecDepth 100000 in
set_option maxHeartbeats 1000000 in
theorem on_any (c : Cut) (ok : OkC c) (bm br b4 b1 b5 : Nat) (m : Nat) : ∀ (p : Pt) (R : Pt → Bool) (w : World), freeN c R ≤ m → inG c p → R p = false → OnW c bm br b4 b1 b5 R w →
    Calls Try.prog 65 #[.agg #[.int .i64 p.1, .int .i64 p.2], .pointer (some ⟨b4, 0, none⟩), .pointer (some ⟨b1, 0, none⟩), .pointer (some ⟨b5, 0, none⟩)] w (RetOn c bm br b4 b1 b5 p R w) := by
  induction m with
  | zero =>
    intro p R w hm hp h0 _
    obtain ⟨j, hj, e, -⟩ := idx_of ok hp
    have := manyF_lt (f := fun _ => false) (g := fun j => !R (cellOf c j)) (i := j) rfl (by rw [← e, h0]; rfl) hj (fun k _ h => by cases h)
    unfold freeN at hm
    omega
  | succ m ih =>
    intro p R w hm hp h0 hO
    have IH := Lib.hid ih
    have hpn : Near p := by
      unfold inG isIn inS at hp
      simp only [Bool.and_eq_true, decide_eq_true_eq] at hp
      have := ok.w
      have := ok.h
      unfold Near
      omega
    have HO1 := Lib.hid (hO.up hO.lts (World.grownBy_alloc w (.cells #[.int .i64 p.1, .int .i64 p.2] 90) none) (fun r e => by cases e))
    obtain ⟨W2, hup, hO2, hg2, hz2⟩ := HO1.out.mark p hpn
    have c4 := HO1.out.x4.c 0 _ rfl
    have hX := (Bx.new w #[.int .i64 p.1, .int .i64 p.2] 90)
    have c0 := hX.c 0 _ rfl
    have c1 := hX.c 1 _ rfl
    have hne : w.heap.size ≠ br := by have := hO.lts; omega
    have hX2 := hX.gk hg2 (fun r e => by injection e with e; omega)
    have d0 := hX2.c 0 _ rfl
    have d1 := hX2.c 1 _ rfl
    have hgw := (World.grownBy_alloc w (.cells #[.int .i64 p.1, .int .i64 p.2] 90) (some br)).trans hg2
    have HOW := Lib.hid hO
    clear ih hO hX
    refine (callsIn_wide (n := 6)).1 ?_
    refine callsIn_of_wp_marks Try.func65 rfl trivial ?_ rfl
    simp only [Try.ntmps65, List.size_toArray, List.length_cons, List.length_nil, Nat.reduceAdd, Nat.reduceSub, Array.replicate_succ, Array.replicate_zero, List.push_toArray, List.append_toArray, List.nil_append, List.cons_append]
    gi_wp2_with fail
    refine ⟨trivial, (callsIn_wide.2 (around_any _ _ _)).mono ?_⟩
    rintro e w' ⟨rfl, rfl⟩
    gi_wp2_with fail
    have hX3 := Bx.new W2 #[.int .i64 p.1, .int .i64 p.2] 90
    have hg3 : W2.grownBy (W2.alloc (.cells #[.int .i64 p.1, .int .i64 p.2] 90)) none := World.grownBy_alloc _ _ _
    have hO3 := hO2.up hO2.lts hg3 (fun r e => by cases e)
    have hX4 := hX2.gk hg3 (fun r e => by cases e)
    have hgw3 := hgw.trans (hg3.but (some br))
    have hlts := HOW.out.lts
    have hz3 : (W2.alloc (.cells #[.int .i64 p.1, .int .i64 p.2] 90)).heap.size = W2.heap.size + 1 := by simp
    have hzz : W2.heap.size = w.heap.size + 1 := by rw [hz2]; simp
    rw [hzz] at hX3 hz3
    have hpn' : -900 ≤ p.1 ∧ p.1 ≤ 900 ∧ -900 ≤ p.2 ∧ p.2 ≤ 900 := by
      unfold inG isIn inS at hp
      simp only [Bool.and_eq_true, decide_eq_true_eq] at hp
      have := ok.w
      have := ok.h
      omega
    clear c4 c0 c1 d0 d1 hup hO2 hX2 hgw hg3
    generalize W2.alloc (.cells #[.int .i64 p.1, .int .i64 p.2] 90) = W3 at *
    have hseq := around1_stops 5 (by omega) p (w.heap.size + 1) W3 hpn hX3
    refine wpIn_rangeFunc_ownH rfl (by omega) (gf := 74) (lb := #[.pointer (some ⟨w.heap.size + 1, 0, none⟩)]) rfl trivial (enters_of Try.func74 (by kernel_rfl) rfl)
      hseq (fun h k => KpC.trans h k) (kpc_put (by omega)) (Below.refl _ _) (fun _ => rfl)
      (OnI c bm br b4 b1 b5 p R w W3.heap.size) (fun _ _ _ => False) (OnI.own hlts (by omega)) (fun _ _ _ _ _ h _ _ => h)
      ⟨fun q => R q || decide (q = p), ?start, hO3, hX4, hgw3, Nat.le_refl _⟩
      (fun k a' W => ∃ bx, W3.heap.size ≤ bx ∧ Bx W bx [.int .i64 (nb p k).1, .int .i64 (nb p k).2] ∧ a' = { tmps := #[.agg #[.int .i64 p.1, .int .i64 p.2], .pointer (some ⟨b4, 0, none⟩), .pointer (some ⟨b1, 0, none⟩), .pointer (some ⟨b5, 0, none⟩), .pointer (some ⟨w.heap.size, 0, none⟩), .pointer (some ⟨bx, 0, none⟩), .map (some br), .agg #[.int .i64 p.1, .int .i64 p.2], .agg #[.int .i64 p.1, .int .i64 p.2], .func (.func 74) #[] #[.pointer (some ⟨w.heap.size + 1, 0, none⟩)], .agg #[.int .i64 (nb p k).1, .int .i64 (nb p k).2], undef, undef, undef, undef, undef, undef, undef, undef, undef, undef, undef, undef, undef, undef, undef, undef, undef], defers := [] })
      (fun k a' _ A B row h hg hr => by obtain ⟨bx, h1, h2, h3⟩ := h; exact ⟨bx, h1, h2.nc (by simp) hg (fun r e => (hr r e).2), h3⟩)
      ?assign ?body ?done ?stop
    case start =>
      have := DfsIn.start (c := c) (p := p) (R := fun q => R q = true)
      refine cast (congrArg (fun f => DfsIn c p (fun q => R q = true) f []) ?_) this
      funext q
      simp
    case assign =>
      rintro l pre k W K ⟨R', h1, h2, h3, h4, h5⟩ hK
      dsimp only [encA]
      gi_wp2
      have hgA := World.grownBy_alloc W (.cells #[.int .i64 (nb p k).1, .int .i64 (nb p k).2] 90) none
      refine hK _ _ ((KeepsOthers.alloc _ _).from _) ⟨by simp, hgA.block _ (by omega) (by simp)⟩ ?_ ⟨W.heap.size, h5, Bx.new _ _ _, rfl⟩
      exact ⟨R', h1, h2.up h2.lts hgA (fun r e => by cases e), h3.gk hgA (fun r e => by cases e), h4.trans (hgA.but _), by simp; omega⟩
    case body =>
      rintro l pre k a' W hl ⟨r, hr⟩ ⟨R', h1, h2, h3, h4, h5⟩ ⟨bx, hbx, hXb, rfl⟩ hlen
      have hqn := nb_near hpn' k
      have hqm := nb_mem p k
      generalize hq : nb p k = q at *
      have hpp := Lib.hid (show (picF c p).getD 0 = at2 c p.1 p.2 from by unfold picF; rw [if_pos (show isIn c p.1 p.2 = true from hp)]; rfl)
      have H3 := Lib.hid (show ∀ W' : World, Below W.heap.size W W' → Below W.heap.size W W' ∧ W'.cell? ⟨b4, 0, none⟩ = some (.map (some br)) ∧ W'.cell? ⟨bx, 0, none⟩ = some (.int .i64 q.1) ∧ W'.cell? ⟨bx, 1, none⟩ = some (.int .i64 q.2) ∧ W'.cell? ⟨b1, 0, none⟩ = some (.int .i64 c.wide) ∧ W'.cell? ⟨b1, 1, none⟩ = some (.int .i64 c.high) ∧ W'.cell? ⟨b1, 2, none⟩ = some (.slice c.A c.piece.length c.c) ∧ W'.cell? ⟨b1, 3, none⟩ = some (.map (some bm)) ∧ W'.cell? ⟨w.heap.size, 0, none⟩ = some (.int .i64 p.1) ∧ W'.cell? ⟨w.heap.size, 1, none⟩ = some (.int .i64 p.2) ∧ (Instr.lookup 106 (.map (some br)) (.agg #[.int .i64 q.1, .int .i64 q.2]) false).run Try.prog W' = .ok (.bool (R' q)) W' ∧ (Instr.lookup 69 (.map (some bm)) (.agg #[.int .i64 p.1, .int .i64 p.2]) false).run Try.prog W' = .ok (.int .i64 (at2 c p.1 p.2)) W' from fun W' h => by
        obtain ⟨l2, hl2⟩ := cell_key q.1 q.2 ⟨by have := hqn.1; omega, by have := hqn.2.1; omega⟩ ⟨by have := hqn.2.2.1; omega, by have := hqn.2.2.2; omega⟩
        have hlr := (MapIs.look (p := q) (h2.rch.next h) cell_keyed kv2_inj mapB_und zero_bool hl2).1
        rw [show ((rchF R' q).elim (vvB false) vvB) = .bool (R' q) by unfold rchF; cases R' q <;> rfl] at hlr
        have hlp := (PicAt.look (MapIs.next h2.pic h) p.1 p.2 ⟨by have := hpn.1; omega, by have := hpn.2.1; omega⟩ ⟨by have := hpn.2.2.1; omega, by have := hpn.2.2.2; omega⟩).1
        rw [hpp.out] at hlp
        exact ⟨h, (h2.x4.next h).c 0 _ rfl, (hXb.next h).c 0 _ rfl, (hXb.next h).c 1 _ rfl, (h2.x1.next h).c 0 _ rfl, (h2.x1.next h).c 1 _ rfl, (h2.x1.next h).c 2 _ rfl, (h2.x1.next h).c 3 _ rfl, (h3.next h).c 0 _ rfl, (h3.next h).c 1 _ rfl, hlr, hlp⟩)
      have HC := Lib.hid (show ∀ W' : World, Below W.heap.size W W' → Calls Try.prog 54 #[.agg #[.int .i64 c.wide, .int .i64 c.high, .slice c.A c.piece.length c.c, .map (some (bm))], .agg #[.int .i64 q.1, .int .i64 q.2]] W' (Ret (.int .i64 (at2 c q.1 q.2)) W') from fun W' h => piece_any c bm q.1 q.2 W' (MapIs.next h2.pic h) ⟨by have := hqn.1; omega, by have := hqn.2.1; omega⟩ ⟨by have := hqn.2.2.1; omega, by have := hqn.2.2.2; omega⟩)
      have HO := Lib.hid h2
      have HD := Lib.hid h1
      have HXC := Lib.hid h3
      have HG := Lib.hid h4
      have HZ := Lib.hid h5
      have HL := Lib.hid hlts
      have HXB := Lib.hid hXb
      have hmm : (pre ++ [k]).map (nb p) = pre.map (nb p) ++ [q] := by rw [List.map_append, ← hq]; rfl
      have HMM := Lib.hid hmm
      have HIN := Lib.hid (fun (R2 : Pt → Bool) (W5 : World) (d : DfsIn c p (fun q => R q = true) (fun q => R2 q = true) (pre.map (nb p) ++ [q])) (o : OnW c bm br b4 b1 b5 R2 W5) (x : Bx W5 w.heap.size [.int .i64 p.1, .int .i64 p.2]) (g : w.grownBy W5 (some br)) (z : W3.heap.size ≤ W5.heap.size) => (show OnI c bm br b4 b1 b5 p R w W3.heap.size (pre ++ [k]) W5 from ⟨R2, by rw [hmm]; exact d, o, x, g, z⟩))
      have HLT := Lib.hid (show w.heap.size + 1 < W3.heap.size ∧ br < w.heap.size from ⟨by omega, hlts.2.1⟩)
      clear h1 h2 h3 h4 h5 hXb hmm hlts hseq hO3 hX3 hX4 hgw3
      have HUP := Lib.hid (show ∀ W' : World, Below W.heap.size W W' → (KeepsFrom W3.heap.size W W' ∧ KpC (w.heap.size + 1) W W' ∧ OnW c bm br b4 b1 b5 R' W' ∧ Bx W' w.heap.size [.int .i64 p.1, .int .i64 p.2] ∧ w.grownBy W' (some br) ∧ W3.heap.size ≤ W'.heap.size) from fun W' h => ⟨KeepsFrom.of_grownBy (only_of_below h none) (fun j e => by cases e), ⟨h.size, h.block _ (by have := HZ.out; have := HLT.out; omega)⟩, HO.out.up HO.out.lts (only_of_below h none) (fun r e => by cases e), HXC.out.next h, HG.out.trans (only_of_below h (some br)), Nat.le_trans HZ.out h.size⟩)
      cases hR : R' q
      · rw [hR] at H3
        have HR := Lib.hid hR
        by_cases hA : at2 c q.1 q.2 = at2 c p.1 p.2
        · have eA : (at2 c q.1 q.2 == at2 c p.1 p.2) = true := by simp [hA]
          have HA := Lib.hid hA
          clear hR hA
          gi_wp2_with fail
          refine region_in (S := fun _ => True) (by kernel_rfl) (by kernel_rfl) trivial (fun _ => ?_)
          refine GG.sound (S0 := (fun W' => Below W.heap.size W W' ∧ W'.cell? ⟨b4, 0, none⟩ = some (.map (some br)) ∧ W'.cell? ⟨bx, 0, none⟩ = some (.int .i64 q.1) ∧ W'.cell? ⟨bx, 1, none⟩ = some (.int .i64 q.2) ∧ W'.cell? ⟨b1, 0, none⟩ = some (.int .i64 c.wide) ∧ W'.cell? ⟨b1, 1, none⟩ = some (.int .i64 c.high) ∧ W'.cell? ⟨b1, 2, none⟩ = some (.slice c.A c.piece.length c.c) ∧ W'.cell? ⟨b1, 3, none⟩ = some (.map (some bm)) ∧ W'.cell? ⟨w.heap.size, 0, none⟩ = some (.int .i64 p.1) ∧ W'.cell? ⟨w.heap.size, 1, none⟩ = some (.int .i64 p.2) ∧ (Instr.lookup 106 (.map (some br)) (.agg #[.int .i64 q.1, .int .i64 q.2]) false).run Try.prog W' = .ok (.bool false) W' ∧ (Instr.lookup 69 (.map (some bm)) (.agg #[.int .i64 p.1, .int .i64 p.2]) false).run Try.prog W' = .ok (.int .i64 (at2 c p.1 p.2)) W')) _ (fun W' => Below W.heap.size W W') _ _ (fun W W' h hb => h.trans (hb.mono h.size)) (fun W' h => H3.out W' h) ?_ _ ((Below.refl _ _).drew)
          refine gtake (i := 0) (v := ?v1) rfl (by kernel_rfl) (by kernel_rfl) (by kernel_rfl) (MakesIf.yields (Or.inl ⟨by rfl, ?hy1⟩)) ?_
          case hy1 => (intro w hSw; (try dsimp only at hSw); go_simp; try (with_reducible rfl))
          try simp only [Act.put, List.setIfInBounds_toArray, List.set_cons_zero, List.set_cons_succ]
          refine gtake (i := 1) (v := ?v2) rfl (by kernel_rfl) (by kernel_rfl) (by kernel_rfl) (MakesIf.yields (Or.inl ⟨by rfl, ?hy2⟩)) ?_
          case hy2 => (intro w hSw; (try dsimp only at hSw); go_simp; try (with_reducible rfl))
          try simp only [Act.put, List.setIfInBounds_toArray, List.set_cons_zero, List.set_cons_succ]
          refine gtake (i := 2) (v := ?v3) rfl (by kernel_rfl) (by kernel_rfl) (by kernel_rfl) (MakesIf.yields (Or.inl ⟨by rfl, ?hy3⟩)) ?_
          case hy3 => (intro w hSw; (try dsimp only at hSw); go_simp; try (with_reducible rfl))
          try simp only [Act.put, List.setIfInBounds_toArray, List.set_cons_zero, List.set_cons_succ]
          refine gtake (i := 3) (v := ?v4) rfl (by kernel_rfl) (by kernel_rfl) (by kernel_rfl) (MakesIf.yields (Or.inl ⟨by rfl, ?hy4⟩)) ?_
          case hy4 => (intro w hSw; (try dsimp only at hSw); go_simp; try (with_reducible rfl))
          try simp only [Act.put, List.setIfInBounds_toArray, List.set_cons_zero, List.set_cons_succ]
          refine gtake (i := 4) (v := ?v5) rfl (by kernel_rfl) (by kernel_rfl) (by kernel_rfl) (MakesIf.yields (Or.inl ⟨by rfl, ?hy5⟩)) ?_
          case hy5 => (intro w hSw; (try dsimp only at hSw); go_simp; try (with_reducible rfl))
          try simp only [Act.put, List.setIfInBounds_toArray, List.set_cons_zero, List.set_cons_succ]
          refine gtake (i := 5) (v := ?v6) rfl (by kernel_rfl) (by kernel_rfl) (by kernel_rfl) (MakesIf.yields (Or.inl ⟨by rfl, ?hy6⟩)) ?_
          case hy6 => (intro w hSw; (try dsimp only at hSw); go_simp; try (with_reducible rfl))
          try simp only [Act.put, List.setIfInBounds_toArray, List.set_cons_zero, List.set_cons_succ]
          refine gtake (i := 6) (v := ?v7) rfl (by kernel_rfl) (by kernel_rfl) (by kernel_rfl) (MakesIf.yields (Or.inl ⟨by rfl, ?hy7⟩)) ?_
          case hy7 => (intro w hSw; (try dsimp only at hSw); go_simp; try (with_reducible rfl))
          try simp only [Act.put, List.setIfInBounds_toArray, List.set_cons_zero, List.set_cons_succ]
          refine gtake (i := 7) (v := .int .i64 (at2 c q.1 q.2)) rfl (by kernel_rfl) (by kernel_rfl) (by kernel_rfl) (Or.inl ⟨by rfl, fun W hW => ?_⟩) ?_
          · go_simp; exact HC.out W hW.1
          try simp only [Act.put, List.setIfInBounds_toArray, List.set_cons_zero, List.set_cons_succ]
          refine gtake (i := 8) (v := ?v8) rfl (by kernel_rfl) (by kernel_rfl) (by kernel_rfl) (MakesIf.yields (Or.inl ⟨by rfl, ?hy8⟩)) ?_
          case hy8 => (intro w hSw; (try dsimp only at hSw); go_simp; try (with_reducible rfl))
          try simp only [Act.put, List.setIfInBounds_toArray, List.set_cons_zero, List.set_cons_succ]
          refine gtake (i := 9) (v := ?v9) rfl (by kernel_rfl) (by kernel_rfl) (by kernel_rfl) (MakesIf.yields (Or.inl ⟨by rfl, ?hy9⟩)) ?_
          case hy9 => (intro w hSw; (try dsimp only at hSw); go_simp; try (with_reducible rfl))
          try simp only [Act.put, List.setIfInBounds_toArray, List.set_cons_zero, List.set_cons_succ]
          refine gtake (i := 10) (v := ?v10) rfl (by kernel_rfl) (by kernel_rfl) (by kernel_rfl) (MakesIf.yields (Or.inl ⟨by rfl, ?hy10⟩)) ?_
          case hy10 => (intro w hSw; (try dsimp only at hSw); go_simp; try (with_reducible rfl))
          try simp only [Act.put, List.setIfInBounds_toArray, List.set_cons_zero, List.set_cons_succ]
          refine gtake (i := 11) (v := ?v11) rfl (by kernel_rfl) (by kernel_rfl) (by kernel_rfl) (MakesIf.yields (Or.inl ⟨by rfl, ?hy11⟩)) ?_
          case hy11 => (intro w hSw; (try dsimp only at hSw); go_simp; try (with_reducible rfl))
          try simp only [Act.put, List.setIfInBounds_toArray, List.set_cons_zero, List.set_cons_succ]
          refine gtake (i := 12) (v := ?v12) rfl (by kernel_rfl) (by kernel_rfl) (by kernel_rfl) (MakesIf.yields (Or.inl ⟨by rfl, ?hy12⟩)) ?_
          case hy12 => (intro w hSw; (try dsimp only at hSw); go_simp; try (with_reducible rfl))
          try simp only [Act.put, List.setIfInBounds_toArray, List.set_cons_zero, List.set_cons_succ]
          refine gtake (i := 13) (v := ?v13) rfl (by kernel_rfl) (by kernel_rfl) (by kernel_rfl) (MakesIf.yields (Or.inl ⟨by rfl, ?hy13⟩)) ?_
          case hy13 => (intro w hSw; (try dsimp only at hSw); go_simp; try (with_reducible rfl))
          try simp only [Act.put, List.setIfInBounds_toArray, List.set_cons_zero, List.set_cons_succ]
          refine gdone (by kernel_rfl) (fun w' hT => ?_)
          dsimp only [Only]
          dsimp only [Exit.inBlock, Exit.then]
          obtain ⟨u1, u2, u3, u4, u5, u6⟩ := HUP.out _ hT
          have c5 := u3.x5.c 0 _ rfl
          have cb0 := (HXB.out.next hT).c 0 _ rfl
          have cb1 := (HXB.out.next hT).c 1 _ rfl
          have U1 := Lib.hid u1
          have U2 := Lib.hid u2
          have U3 := Lib.hid u3
          have U4 := Lib.hid u4
          have U5 := Lib.hid u5
          have U6 := Lib.hid u6
          unfold onV at c5
          clear u1 u2 u3 u4 u5 u6 HUP H3 HC hT
          gi_wp2_with fail
          refine ⟨trivial, CallsIn.inRound l (callsIn_wide.2 ((IH.out q R' w' ?_ ?_ HR.out U3.out).mono ?_))⟩
          · have := free_lt ok hp h0 (R' := R') HD.out.own (fun q hq => HD.out.old q hq)
            omega
          · have h8 := (inG_iff ok p).1 hp
            rw [inG_iff ok]
            unfold pcOf at *
            rw [HA.out]; exact h8
          rintro e W5 ⟨⟨v, rfl⟩, R2, hd2, hO2, hg2⟩
          have hlt := HLT.out
          have hbr : br < W3.heap.size := by omega
          have hk5 : KeepsFrom W3.heap.size w' W5 := KeepsFrom.of_grownBy hg2 (fun j e => by injection e with e; omega)
          have hkc : KpC (w.heap.size + 1) w' W5 := ⟨hg2.size, hg2.block _ (by have := U6.out; omega) (fun e => by injection e with e; omega)⟩
          have hx5 : Bx W5 w.heap.size [.int .i64 p.1, .int .i64 p.2] := U4.out.gk hg2 (fun r e => by injection e with e; omega)
          have hfin := HIN.out R2 W5 (HD.out.go hqm HA.out hd2) hO2 hx5 (U5.out.trans hg2) (Nat.le_trans U6.out hg2.size)
          have HF := Lib.hid (show KeepsFrom W3.heap.size W W5 ∧ KpC (w.heap.size + 1) W W5 ∧ OnI c bm br b4 b1 b5 p R w W3.heap.size (pre ++ [k]) W5 from ⟨U1.out.trans hk5, U2.out.trans hkc, hfin⟩)
          clear hd2 hO2 hg2 hk5 hkc hx5 hfin
          gi_wp2_with fail
          exact HF.out
        · have eA : (at2 c q.1 q.2 == at2 c p.1 p.2) = false := by simp [hA]
          have HA := Lib.hid hA
          clear hR hA
          gi_wp2_with fail
          refine region_in (S := fun _ => True) (by kernel_rfl) (by kernel_rfl) trivial (fun _ => ?_)
          refine GG.sound (S0 := (fun W' => Below W.heap.size W W' ∧ W'.cell? ⟨b4, 0, none⟩ = some (.map (some br)) ∧ W'.cell? ⟨bx, 0, none⟩ = some (.int .i64 q.1) ∧ W'.cell? ⟨bx, 1, none⟩ = some (.int .i64 q.2) ∧ W'.cell? ⟨b1, 0, none⟩ = some (.int .i64 c.wide) ∧ W'.cell? ⟨b1, 1, none⟩ = some (.int .i64 c.high) ∧ W'.cell? ⟨b1, 2, none⟩ = some (.slice c.A c.piece.length c.c) ∧ W'.cell? ⟨b1, 3, none⟩ = some (.map (some bm)) ∧ W'.cell? ⟨w.heap.size, 0, none⟩ = some (.int .i64 p.1) ∧ W'.cell? ⟨w.heap.size, 1, none⟩ = some (.int .i64 p.2) ∧ (Instr.lookup 106 (.map (some br)) (.agg #[.int .i64 q.1, .int .i64 q.2]) false).run Try.prog W' = .ok (.bool false) W' ∧ (Instr.lookup 69 (.map (some bm)) (.agg #[.int .i64 p.1, .int .i64 p.2]) false).run Try.prog W' = .ok (.int .i64 (at2 c p.1 p.2)) W')) _ (fun W' => Below W.heap.size W W') _ _ (fun W W' h hb => h.trans (hb.mono h.size)) (fun W' h => H3.out W' h) ?_ _ ((Below.refl _ _).drew)
          refine gtake (i := 0) (v := ?v14) rfl (by kernel_rfl) (by kernel_rfl) (by kernel_rfl) (MakesIf.yields (Or.inl ⟨by rfl, ?hy14⟩)) ?_
          case hy14 => (intro w hSw; (try dsimp only at hSw); go_simp; try (with_reducible rfl))
          try simp only [Act.put, List.setIfInBounds_toArray, List.set_cons_zero, List.set_cons_succ]
          refine gtake (i := 1) (v := ?v15) rfl (by kernel_rfl) (by kernel_rfl) (by kernel_rfl) (MakesIf.yields (Or.inl ⟨by rfl, ?hy15⟩)) ?_
          case hy15 => (intro w hSw; (try dsimp only at hSw); go_simp; try (with_reducible rfl))
          try simp only [Act.put, List.setIfInBounds_toArray, List.set_cons_zero, List.set_cons_succ]
          refine gtake (i := 2) (v := ?v16) rfl (by kernel_rfl) (by kernel_rfl) (by kernel_rfl) (MakesIf.yields (Or.inl ⟨by rfl, ?hy16⟩)) ?_
          case hy16 => (intro w hSw; (try dsimp only at hSw); go_simp; try (with_reducible rfl))
          try simp only [Act.put, List.setIfInBounds_toArray, List.set_cons_zero, List.set_cons_succ]
          refine gtake (i := 3) (v := ?v17) rfl (by kernel_rfl) (by kernel_rfl) (by kernel_rfl) (MakesIf.yields (Or.inl ⟨by rfl, ?hy17⟩)) ?_
          case hy17 => (intro w hSw; (try dsimp only at hSw); go_simp; try (with_reducible rfl))
          try simp only [Act.put, List.setIfInBounds_toArray, List.set_cons_zero, List.set_cons_succ]
          refine gtake (i := 4) (v := ?v18) rfl (by kernel_rfl) (by kernel_rfl) (by kernel_rfl) (MakesIf.yields (Or.inl ⟨by rfl, ?hy18⟩)) ?_
          case hy18 => (intro w hSw; (try dsimp only at hSw); go_simp; try (with_reducible rfl))
          try simp only [Act.put, List.setIfInBounds_toArray, List.set_cons_zero, List.set_cons_succ]
          refine gtake (i := 5) (v := ?v19) rfl (by kernel_rfl) (by kernel_rfl) (by kernel_rfl) (MakesIf.yields (Or.inl ⟨by rfl, ?hy19⟩)) ?_
          case hy19 => (intro w hSw; (try dsimp only at hSw); go_simp; try (with_reducible rfl))
          try simp only [Act.put, List.setIfInBounds_toArray, List.set_cons_zero, List.set_cons_succ]
          refine gtake (i := 6) (v := ?v20) rfl (by kernel_rfl) (by kernel_rfl) (by kernel_rfl) (MakesIf.yields (Or.inl ⟨by rfl, ?hy20⟩)) ?_
          case hy20 => (intro w hSw; (try dsimp only at hSw); go_simp; try (with_reducible rfl))
          try simp only [Act.put, List.setIfInBounds_toArray, List.set_cons_zero, List.set_cons_succ]
          refine gtake (i := 7) (v := .int .i64 (at2 c q.1 q.2)) rfl (by kernel_rfl) (by kernel_rfl) (by kernel_rfl) (Or.inl ⟨by rfl, fun W hW => ?_⟩) ?_
          · go_simp; exact HC.out W hW.1
          try simp only [Act.put, List.setIfInBounds_toArray, List.set_cons_zero, List.set_cons_succ]
          refine gtake (i := 8) (v := ?v21) rfl (by kernel_rfl) (by kernel_rfl) (by kernel_rfl) (MakesIf.yields (Or.inl ⟨by rfl, ?hy21⟩)) ?_
          case hy21 => (intro w hSw; (try dsimp only at hSw); go_simp; try (with_reducible rfl))
          try simp only [Act.put, List.setIfInBounds_toArray, List.set_cons_zero, List.set_cons_succ]
          refine gtake (i := 9) (v := ?v22) rfl (by kernel_rfl) (by kernel_rfl) (by kernel_rfl) (MakesIf.yields (Or.inl ⟨by rfl, ?hy22⟩)) ?_
          case hy22 => (intro w hSw; (try dsimp only at hSw); go_simp; try (with_reducible rfl))
          try simp only [Act.put, List.setIfInBounds_toArray, List.set_cons_zero, List.set_cons_succ]
          refine gtake (i := 10) (v := ?v23) rfl (by kernel_rfl) (by kernel_rfl) (by kernel_rfl) (MakesIf.yields (Or.inl ⟨by rfl, ?hy23⟩)) ?_
          case hy23 => (intro w hSw; (try dsimp only at hSw); go_simp; try (with_reducible rfl))
          try simp only [Act.put, List.setIfInBounds_toArray, List.set_cons_zero, List.set_cons_succ]
          refine gtake (i := 11) (v := ?v24) rfl (by kernel_rfl) (by kernel_rfl) (by kernel_rfl) (MakesIf.yields (Or.inl ⟨by rfl, ?hy24⟩)) ?_
          case hy24 => (intro w hSw; (try dsimp only at hSw); go_simp; try (with_reducible rfl))
          try simp only [Act.put, List.setIfInBounds_toArray, List.set_cons_zero, List.set_cons_succ]
          refine gtake (i := 12) (v := ?v25) rfl (by kernel_rfl) (by kernel_rfl) (by kernel_rfl) (MakesIf.yields (Or.inl ⟨by rfl, ?hy25⟩)) ?_
          case hy25 => (intro w hSw; (try dsimp only at hSw); go_simp; try (with_reducible rfl))
          try simp only [Act.put, List.setIfInBounds_toArray, List.set_cons_zero, List.set_cons_succ]
          refine gtake (i := 13) (v := ?v26) rfl (by kernel_rfl) (by kernel_rfl) (by kernel_rfl) (MakesIf.yields (Or.inl ⟨by rfl, ?hy26⟩)) ?_
          case hy26 => (intro w hSw; (try dsimp only at hSw); go_simp; try (with_reducible rfl))
          try simp only [Act.put, List.setIfInBounds_toArray, List.set_cons_zero, List.set_cons_succ]
          refine gdone (by kernel_rfl) (fun w' hT => ?_)
          dsimp only [Only]
          dsimp only [Exit.inBlock, Exit.then]
          obtain ⟨u1, u2, u3, u4, u5, u6⟩ := HUP.out _ hT
          have HF := Lib.hid (show KeepsFrom W3.heap.size W w' ∧ KpC (w.heap.size + 1) W w' ∧ OnI c bm br b4 b1 b5 p R w W3.heap.size (pre ++ [k]) w' from ⟨u1, u2, HIN.out R' w' (HD.out.skip (.inr HA.out)) u3 u4 u5 u6⟩)
          clear u1 u2 u3 u4 u5 u6 HUP H3 HC hT
          gi_wp2_with fail
          exact HF.out
      · rw [hR] at H3
        have HR := Lib.hid hR
        clear hR
        gi_wp2_with fail
        refine region_in (S := fun _ => True) (by kernel_rfl) (by kernel_rfl) trivial (fun _ => ?_)
        refine GG.sound (S0 := (fun W' => Below W.heap.size W W' ∧ W'.cell? ⟨b4, 0, none⟩ = some (.map (some br)) ∧ W'.cell? ⟨bx, 0, none⟩ = some (.int .i64 q.1) ∧ W'.cell? ⟨bx, 1, none⟩ = some (.int .i64 q.2) ∧ W'.cell? ⟨b1, 0, none⟩ = some (.int .i64 c.wide) ∧ W'.cell? ⟨b1, 1, none⟩ = some (.int .i64 c.high) ∧ W'.cell? ⟨b1, 2, none⟩ = some (.slice c.A c.piece.length c.c) ∧ W'.cell? ⟨b1, 3, none⟩ = some (.map (some bm)) ∧ W'.cell? ⟨w.heap.size, 0, none⟩ = some (.int .i64 p.1) ∧ W'.cell? ⟨w.heap.size, 1, none⟩ = some (.int .i64 p.2) ∧ (Instr.lookup 106 (.map (some br)) (.agg #[.int .i64 q.1, .int .i64 q.2]) false).run Try.prog W' = .ok (.bool true) W' ∧ (Instr.lookup 69 (.map (some bm)) (.agg #[.int .i64 p.1, .int .i64 p.2]) false).run Try.prog W' = .ok (.int .i64 (at2 c p.1 p.2)) W')) _ (fun W' => Below W.heap.size W W') _ _ (fun W W' h hb => h.trans (hb.mono h.size)) (fun W' h => H3.out W' h) ?_ _ ((Below.refl _ _).drew)
        refine gtake (i := 0) (v := ?v27) rfl (by kernel_rfl) (by kernel_rfl) (by kernel_rfl) (MakesIf.yields (Or.inl ⟨by rfl, ?hy27⟩)) ?_
        case hy27 => (intro w hSw; (try dsimp only at hSw); go_simp; try (with_reducible rfl))
        try simp only [Act.put, List.setIfInBounds_toArray, List.set_cons_zero, List.set_cons_succ]
        refine gtake (i := 1) (v := ?v28) rfl (by kernel_rfl) (by kernel_rfl) (by kernel_rfl) (MakesIf.yields (Or.inl ⟨by rfl, ?hy28⟩)) ?_
        case hy28 => (intro w hSw; (try dsimp only at hSw); go_simp; try (with_reducible rfl))
        try simp only [Act.put, List.setIfInBounds_toArray, List.set_cons_zero, List.set_cons_succ]
        refine gtake (i := 2) (v := ?v29) rfl (by kernel_rfl) (by kernel_rfl) (by kernel_rfl) (MakesIf.yields (Or.inl ⟨by rfl, ?hy29⟩)) ?_
        case hy29 => (intro w hSw; (try dsimp only at hSw); go_simp; try (with_reducible rfl))
        try simp only [Act.put, List.setIfInBounds_toArray, List.set_cons_zero, List.set_cons_succ]
        refine gtake (i := 3) (v := ?v30) rfl (by kernel_rfl) (by kernel_rfl) (by kernel_rfl) (MakesIf.yields (Or.inl ⟨by rfl, ?hy30⟩)) ?_
        case hy30 => (intro w hSw; (try dsimp only at hSw); go_simp; try (with_reducible rfl))
        try simp only [Act.put, List.setIfInBounds_toArray, List.set_cons_zero, List.set_cons_succ]
        refine gtake (i := 4) (v := ?v31) rfl (by kernel_rfl) (by kernel_rfl) (by kernel_rfl) (MakesIf.yields (Or.inl ⟨by rfl, ?hy31⟩)) ?_
        case hy31 => (intro w hSw; (try dsimp only at hSw); go_simp; try (with_reducible rfl))
        try simp only [Act.put, List.setIfInBounds_toArray, List.set_cons_zero, List.set_cons_succ]
        refine gtake (i := 5) (v := undef) rfl (by kernel_rfl) (by kernel_rfl) (by kernel_rfl) (Or.inr ⟨by rfl, rfl⟩) ?_
        try simp only [Act.put, List.setIfInBounds_toArray, List.set_cons_zero, List.set_cons_succ]
        refine gtake (i := 6) (v := undef) rfl (by kernel_rfl) (by kernel_rfl) (by kernel_rfl) (Or.inr ⟨by rfl, rfl⟩) ?_
        try simp only [Act.put, List.setIfInBounds_toArray, List.set_cons_zero, List.set_cons_succ]
        refine gtake (i := 7) (v := undef) rfl (by kernel_rfl) (by kernel_rfl) (by kernel_rfl) (Or.inr ⟨by rfl, rfl⟩) ?_
        try simp only [Act.put, List.setIfInBounds_toArray, List.set_cons_zero, List.set_cons_succ]
        refine gtake (i := 8) (v := undef) rfl (by kernel_rfl) (by kernel_rfl) (by kernel_rfl) (Or.inr ⟨by rfl, rfl⟩) ?_
        try simp only [Act.put, List.setIfInBounds_toArray, List.set_cons_zero, List.set_cons_succ]
        refine gtake (i := 9) (v := undef) rfl (by kernel_rfl) (by kernel_rfl) (by kernel_rfl) (Or.inr ⟨by rfl, rfl⟩) ?_
        try simp only [Act.put, List.setIfInBounds_toArray, List.set_cons_zero, List.set_cons_succ]
        refine gtake (i := 10) (v := undef) rfl (by kernel_rfl) (by kernel_rfl) (by kernel_rfl) (Or.inr ⟨by rfl, rfl⟩) ?_
        try simp only [Act.put, List.setIfInBounds_toArray, List.set_cons_zero, List.set_cons_succ]
        refine gtake (i := 11) (v := undef) rfl (by kernel_rfl) (by kernel_rfl) (by kernel_rfl) (Or.inr ⟨by rfl, rfl⟩) ?_
        try simp only [Act.put, List.setIfInBounds_toArray, List.set_cons_zero, List.set_cons_succ]
        refine gtake (i := 12) (v := undef) rfl (by kernel_rfl) (by kernel_rfl) (by kernel_rfl) (Or.inr ⟨by rfl, rfl⟩) ?_
        try simp only [Act.put, List.setIfInBounds_toArray, List.set_cons_zero, List.set_cons_succ]
        refine gtake (i := 13) (v := ?v32) rfl (by kernel_rfl) (by kernel_rfl) (by kernel_rfl) (MakesIf.yields (Or.inl ⟨by rfl, ?hy32⟩)) ?_
        case hy32 => (intro w hSw; (try dsimp only at hSw); go_simp; try (with_reducible rfl))
        try simp only [Act.put, List.setIfInBounds_toArray, List.set_cons_zero, List.set_cons_succ]
        refine gdone (by kernel_rfl) (fun w' hT => ?_)
        dsimp only [Only]
        dsimp only [Exit.inBlock, Exit.then]
        obtain ⟨u1, u2, u3, u4, u5, u6⟩ := HUP.out _ hT
        have HF := Lib.hid (show KeepsFrom W3.heap.size W w' ∧ KpC (w.heap.size + 1) W w' ∧ OnI c bm br b4 b1 b5 p R w W3.heap.size (pre ++ [k]) w' from ⟨u1, u2, HIN.out R' w' (HD.out.skip (.inl HR.out)) u3 u4 u5 u6⟩)
        clear u1 u2 u3 u4 u5 u6 HUP H3 HC hT
        gi_wp2_with fail
        exact HF.out
    case done =>
      rintro D xs W hD hS ⟨R', h1, h2, h3, h4, h5⟩ hK
      gi_wp2_with fail
      refine ⟨by simp, .inl ⟨_, _, rfl, run_takeDeferred hK, ?_⟩⟩
      refine ⟨_, results_none rfl _ _ _, ⟨_, rfl⟩, R', ?_, h2.up (B := W3.heap.size) ⟨by omega, by omega, by omega, by omega, by omega⟩ (grownBy_putObj' W D (.deferred none)) (fun r e => by injection e with e; omega), h4.andThen (grownBy_putObj' W D (.deferred none)) (fun j e => .inl (by injection e with e; omega))⟩
      rw [hS, four_map] at h1
      exact h1.finish
    case stop =>
      rintro D cc pre W _ _ h _
      exact h.elim
end Go.Proofs.Ytjlicbdnppodgaa
