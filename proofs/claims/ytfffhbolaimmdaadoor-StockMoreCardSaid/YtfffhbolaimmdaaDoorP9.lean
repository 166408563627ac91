import Derived.Test.YtfffhbolaimmdaaDoorP8
import Derived.Shelf.Abstract
namespace Go.Proofs.YtfffhbolaimmdaaDoor
open Go.RowKit
attribute [local go_sem] Oper.semAt_some
def sumL (l : List Nat) (f : Nat → Int) : Int := (l.map f).sum
theorem sumL_snoc (l : List Nat) (i : Nat) (f : Nat → Int) : sumL (l ++ [i]) f = sumL l f + f i := by simp [sumL]
theorem sumL_bd {l : List Nat} {f : Nat → Int} {lo hi : Int} (h : ∀ i ∈ l, lo ≤ f i ∧ f i ≤ hi) : l.length * lo ≤ sumL l f ∧ sumL l f ≤ l.length * hi := by
  induction l with
  | nil => simp [sumL]
  | cons a l ih =>
    have h1 := ih (fun i hi => h i (List.mem_cons_of_mem _ hi))
    have h2 := h a (List.mem_cons_self ..)
    have e : sumL (a :: l) f = f a + sumL l f := by simp [sumL]
    have e1 : ((l.length + 1 : Nat) : Int) * lo = l.length * lo + lo := by rw [Int.natCast_add, Int.add_mul]; omega
    have e2 : ((l.length + 1 : Nat) : Int) * hi = l.length * hi + hi := by rw [Int.natCast_add, Int.add_mul]; omega
    rw [e, List.length_cons]; omega
theorem kf_below {B : Nat} {W W' : World} (h : Below W.heap.size W W') : KeepsFrom B W W' := (KeepsOthers.of_grownBy (only_of_below h none) (fun _ _ e => by cases e)).from B
theorem kp_below {n0 bs : Nat} {W W' : World} (h : Below W.heap.size W W') (hn : n0 ≤ W.heap.size) (hb : bs < W.heap.size) : Kp n0 bs W W' := ⟨h.mono hn, fun o => h.cell (p := ⟨bs, o, none⟩) hb⟩
theorem IBlk.nc {W W' : World} {row : Option Nat} {g n : Nat} {f : Nat → Int} (h : IBlk W g n f) (hn : 0 < n) (hg : W.grownBy W' row) (hr : ∀ r, row = some r → ∃ o : Obj, W.heap[r]? = some o ∧ o.isCells = false) : IBlk W' g n f := by
  obtain ⟨o, ho, hc⟩ := cells_of_cell (h.cell 0 hn)
  have hk := grownBy_keeps_cells hg hr ho hc
  exact ⟨Nat.lt_of_lt_of_le h.lt hg.size, fun j hj => (World.cell?_of_block (a := ⟨g, j, none⟩) hk).trans (h.cell j hj), fun j => (World.frozen?_of_block (a := ⟨g, j, none⟩) hk).trans (h.free j)⟩
theorem SBox.nc {W W' : World} {row : Option Nat} {b : Nat} {s : Store} (h : SBox W b s) (hg : W.grownBy W' row) (hr : ∀ r, row = some r → ∃ o : Obj, W.heap[r]? = some o ∧ o.isCells = false) : SBox W' b s :=
  ⟨Nat.lt_of_lt_of_le h.lt hg.size, cell_kept h.c0 hg hr, cell_kept h.c1 hg hr, cell_kept h.c2 hg hr, cell_kept h.c3 hg hr⟩
theorem WBox.nc {W W' : World} {row : Option Nat} {b : Nat} {x : Wish} (h : WBox W b x) (hg : W.grownBy W' row) (hr : ∀ r, row = some r → ∃ o : Obj, W.heap[r]? = some o ∧ o.isCells = false) : WBox W' b x :=
  ⟨Nat.lt_of_lt_of_le h.lt hg.size, cell_kept h.c0 hg hr, cell_kept h.c1 hg hr, cell_kept h.c2 hg hr, cell_kept h.c3 hg hr, cell_kept h.c4 hg hr⟩
theorem box_next {W W' : World} {B : Nat} {t : TypeId} {v : Value} (h : Boxed W B t v) (hb : Below W.heap.size W W') : Boxed W' B t v := h.kept (only_of_below hb none) (by simp)
def tkF (s : Store) (pre : List (Fin s.wishes.length)) (k : Nat) : Int := sumL (pre.map Fin.val) fun i => (wishAt s i).many * takeAt s i k
theorem tkF_snoc (s : Store) (pre : List (Fin s.wishes.length)) (x : Fin s.wishes.length) (k : Nat) : tkF s (pre ++ [x]) k = tkF s pre k + (wishAt s x.val).many * takeAt s x.val k := by
  unfold tkF; rw [List.map_append]; exact sumL_snoc _ _ _
theorem sumL_filter (p : Nat → Bool) (f : Nat → Int) (m : Nat) : sumL ((List.range m).filter p) f = sumTo m fun i => if p i = true then f i else 0 := by
  induction m with
  | zero => rfl
  | succ m ih =>
    rw [List.range_succ, List.filter_append, sumTo_split, ← ih]
    by_cases h : p m = true
    · simp [sumL, h]
    · simp [sumL, h]
theorem sumTo_more {f : Nat → Int} {n m : Nat} (hnm : n ≤ m) (h : ∀ i, n ≤ i → f i = 0) : sumTo m f = sumTo n f := by
  induction m with
  | zero => rw [show n = 0 by omega]
  | succ m ih =>
    by_cases e : n = m + 1
    · rw [e]
    · rw [sumTo_split, ih (by omega), h m (by omega)]; omega
theorem sumL_bits {set n : Nat} (hn : n ≤ 9) (hlt : set < 2 ^ n) (f : Nat → Int) : sumL (bitsOf set) f = sumTo n fun i => if has set i = true then f i else 0 := by
  unfold bitsOf
  rw [sumL_filter, sumTo_more hn]
  intro i hi
  rw [if_neg]
  have : set < 2 ^ i := Nat.lt_of_lt_of_le hlt (Nat.pow_le_pow_right (by omega) hi)
  unfold has
  rw [Nat.testBit_lt_two_pow this]
  simp
theorem tkF_takeS (s : Store) {set : Nat} (ok : Ok s) (hlt : set < 2 ^ s.wishes.length) {xs : List (Fin s.wishes.length)} (h : xs.map Fin.val = bitsOf set) : tkF s xs = takeS s set := funext fun k => by
  unfold tkF takeS takeTo; rw [h, sumL_bits ok.nw hlt]
theorem IBlk.other {W : World} {g n B : Nat} {f : Nat → Int} (h : IBlk W g n f) (hne : g ≠ B) (v : Value) : IBlk (W.setCell ⟨B, 0, none⟩ v) g n f :=
  ⟨by simpa [World.setCell] using h.lt, fun j hj => (World.cell?_setCell_other _ _ _ _ (by intro e; injection e with e; exact hne e.symm)).trans (h.cell j hj), fun j => by rw [World.frozen?_setCell]; exact h.free j⟩
theorem SBox.other {W : World} {b B : Nat} {s : Store} (h : SBox W b s) (hne : b ≠ B) (v : Value) : SBox (W.setCell ⟨B, 0, none⟩ v) b s :=
  have k : ∀ o, (W.setCell ⟨B, 0, none⟩ v).cell? ⟨b, o, none⟩ = W.cell? ⟨b, o, none⟩ := fun o => World.cell?_setCell_other _ _ _ _ (by intro e; injection e with e; exact hne e.symm)
  ⟨by simpa [World.setCell] using h.lt, (k 0).trans h.c0, (k 1).trans h.c1, (k 2).trans h.c2, (k 3).trans h.c3⟩
/-- Between two rounds. -/
def TkI (s : Store) (w0 : World) (pre : List (Fin s.wishes.length)) (W : World) : Prop := ∃ g c, Boxed W (w0.heap.size + 1 + 1) 75 (.slice (some ⟨g, 0, none⟩) s.sheets.length c) ∧ s.sheets.length ≤ c ∧ w0.heap.size ≤ g ∧ g ≠ w0.heap.size + 1 + 1 ∧ IBlk W g s.sheets.length (tkF s pre) ∧ SBox W w0.heap.size s ∧ Below w0.heap.size w0 W ∧ w0.heap.size + 1 + 1 + 1 + 1 + 1 ≤ W.heap.size
theorem TkI.own (s : Store) (w0 : World) (hn : 0 < s.sheets.length) {B : Nat} (hB : w0.heap.size ≤ B) : OwnFrom B (TkI s w0) := by
  rintro pre W W' row ⟨g, c, h1, h2, h3, h4, h5, h6, h7, h8⟩ hg hr
  have hr' : ∀ r, row = some r → ∃ o : Obj, W.heap[r]? = some o ∧ o.isCells = false := fun r e => (hr r e).2
  exact ⟨g, c, boxed_own (β := Unit) _ _ (fun _ => _) () W W' row h1 hg hr', h2, h3, h4, h5.nc hn hg hr', h6.nc hg hr', h7.grown hg h7.size (fun k e => Nat.le_trans hB (hr k e).1), Nat.le_trans h8 hg.size⟩
theorem TkI.next {s : Store} {w0 : World} {pre : List (Fin s.wishes.length)} {W W' : World} (h : TkI s w0 pre W) (hb : Below W.heap.size W W') : TkI s w0 pre W' := by
  obtain ⟨g, c, h1, h2, h3, h4, h5, h6, h7, h8⟩ := h
  exact ⟨g, c, box_next h1 hb, h2, h3, h4, h5.next hb, h6.next hb, h7.trans (hb.mono h7.size), Nat.le_trans h8 hb.size⟩
theorem take_tab {s : Store} (ok : Ok s) {i : Nat} (hi : i < s.wishes.length) : (makeAt s i).takes = tab s.sheets.length (takeAt s i) := by
  have hl := (ok.make _ (makeAt_mem ok hi)).2.2.1
  refine List.ext_getElem (by rw [length_tab]; exact hl) fun k h1 h2 => ?_
  simp [tab, takeAt, List.getD_eq_getElem?_getD, List.getElem?_eq_getElem h1]
set_option maxRecDepth 100000 in
set_option maxHeartbeats 400000 in
theorem takes_any (s : Store) (set : Nat) (w : World) (ok : Ok s) (hlt : set < 2 ^ s.wishes.length) (hr : StoreAt w w.heap.size s) (he : Env w) :
    Calls Tryd.prog 36 #[.agg #[.slice s.A1 s.sheets.length s.c1, .slice s.A2 s.lics.length s.c2, .slice s.A3 s.makes.length s.c3, .slice s.A4 s.wishes.length s.c4], .int .i64 set] w (RetB s.sheets.length (takeS s set) w) := by
  have l1 := hr.l1
  have hn := ok.ns
  have hb0 := ((Below.refl w.heap.size w).alloc (Nat.le_refl _) (.cells #[.slice s.A1 s.sheets.length s.c1, .slice s.A2 s.lics.length s.c2, .slice s.A3 s.makes.length s.c3, .slice s.A4 s.wishes.length s.c4] 72))
  have hx0 := SBox.new w s 72
  obtain ⟨i0, hi0, hz0, hz1, hz2⟩ := info_parts vec_info
  have hmk : ∀ W : World, (Instr.makeSlice 75 (.int .i64 (s.sheets.length : Int)) (.int .i64 (s.sheets.length : Int))).run Tryd.prog W = .ok (.slice (some ⟨W.heap.size, 0, none⟩) s.sheets.length s.sheets.length) (W.alloc (.cells (zeros s.sheets.length) 3)) := fun W => by
    have := run_make (P := Tryd.prog) W 75 3 i0 (.int .i64 0) Tryd.underlying75 hi0 hz0 .i64 .i64 s.sheets.length s.sheets.length (by omega) (by omega) (by rw [hz2]; omega) (by omega)
    rw [hz1] at this
    simpa [zeros, Value.cells] using this
  refine (callsIn_wide (n := 6)).1 ?_
  refine callsIn_of_wp_marks Tryd.func36 rfl trivial ?_ rfl
  simp only [Tryd.ntmps36, List.size_toArray, List.length_cons, List.length_nil, Nat.reduceAdd, Nat.reduceSub, Array.replicate_succ, Array.replicate_zero, List.push_toArray, List.append_toArray, List.nil_append, List.cons_append]
  gi_wp2_with fail
  refine ⟨trivial, (callsIn_wide.2 (orders_any s set _)).mono ?_⟩
  rintro e w' ⟨rfl, rfl⟩
  gi_wp2_with fail
  have hsz : (((((w.alloc (.cells #[.slice s.A1 s.sheets.length s.c1, .slice s.A2 s.lics.length s.c2, .slice s.A3 s.makes.length s.c3, .slice s.A4 s.wishes.length s.c4] 72)).alloc (.cells (zeros s.sheets.length) 3)).alloc (.cells #[.slice (some ⟨w.heap.size + 1, 0, none⟩) s.sheets.length s.sheets.length] 75)).alloc (.cells #[.slice s.A1 s.sheets.length s.c1, .slice s.A2 s.lics.length s.c2, .slice s.A3 s.makes.length s.c3, .slice s.A4 s.wishes.length s.c4] 72)).alloc (.cells #[.int .i64 set] 3)).heap.size = w.heap.size + 1 + 1 + 1 + 1 + 1 := by simp
  have a1 := (hb0.alloc hb0.size (.cells (zeros s.sheets.length) 3))
  have a2 := (a1.alloc a1.size (.cells #[.slice (some ⟨w.heap.size + 1, 0, none⟩) s.sheets.length s.sheets.length] 75))
  have a3 := (a2.alloc a2.size (.cells #[.slice s.A1 s.sheets.length s.c1, .slice s.A2 s.lics.length s.c2, .slice s.A3 s.makes.length s.c3, .slice s.A4 s.wishes.length s.c4] 72))
  have a4 := (a3.alloc a3.size (.cells #[.int .i64 set] 3))
  have x2 := (((hx0.next ((Below.refl _ _).alloc (Nat.le_refl _) (.cells (zeros s.sheets.length) 3))).next ((Below.refl _ _).alloc (Nat.le_refl _) (.cells #[.slice (some ⟨w.heap.size + 1, 0, none⟩) s.sheets.length s.sheets.length] 75))).next ((Below.refl _ _).alloc (Nat.le_refl _) (.cells #[.slice s.A1 s.sheets.length s.c1, .slice s.A2 s.lics.length s.c2, .slice s.A3 s.makes.length s.c3, .slice s.A4 s.wishes.length s.c4] 72))).next ((Below.refl _ _).alloc (Nat.le_refl _) (.cells #[.int .i64 set] 3))
  have x3 := (SBox.new (((w.alloc (.cells #[.slice s.A1 s.sheets.length s.c1, .slice s.A2 s.lics.length s.c2, .slice s.A3 s.makes.length s.c3, .slice s.A4 s.wishes.length s.c4] 72)).alloc (.cells (zeros s.sheets.length) 3)).alloc (.cells #[.slice (some ⟨w.heap.size + 1, 0, none⟩) s.sheets.length s.sheets.length] 75)) s 72).next ((Below.refl _ _).alloc (Nat.le_refl _) (.cells #[.int .i64 set] 3))
  have x4 : (((((w.alloc (.cells #[.slice s.A1 s.sheets.length s.c1, .slice s.A2 s.lics.length s.c2, .slice s.A3 s.makes.length s.c3, .slice s.A4 s.wishes.length s.c4] 72)).alloc (.cells (zeros s.sheets.length) 3)).alloc (.cells #[.slice (some ⟨w.heap.size + 1, 0, none⟩) s.sheets.length s.sheets.length] 75)).alloc (.cells #[.slice s.A1 s.sheets.length s.c1, .slice s.A2 s.lics.length s.c2, .slice s.A3 s.makes.length s.c3, .slice s.A4 s.wishes.length s.c4] 72)).alloc (.cells #[.int .i64 set] 3)).cell? ⟨w.heap.size + 1 + 1 + 1 + 1, 0, none⟩ = some (.int .i64 set) := by simp [go_sem]
  have x5 := (Boxed.new ((w.alloc (.cells #[.slice s.A1 s.sheets.length s.c1, .slice s.A2 s.lics.length s.c2, .slice s.A3 s.makes.length s.c3, .slice s.A4 s.wishes.length s.c4] 72)).alloc (.cells (zeros s.sheets.length) 3)) 75 (.slice (some ⟨w.heap.size + 1, 0, none⟩) s.sheets.length s.sheets.length)).alloc (.cells #[.slice s.A1 s.sheets.length s.c1, .slice s.A2 s.lics.length s.c2, .slice s.A3 s.makes.length s.c3, .slice s.A4 s.wishes.length s.c4] 72) |>.alloc (.cells #[.int .i64 set] 3)
  have x6 := (((IBlk.zeros (w.alloc (.cells #[.slice s.A1 s.sheets.length s.c1, .slice s.A2 s.lics.length s.c2, .slice s.A3 s.makes.length s.c3, .slice s.A4 s.wishes.length s.c4] 72)) s.sheets.length 3).alloc (.cells #[.slice (some ⟨w.heap.size + 1, 0, none⟩) s.sheets.length s.sheets.length] 75)).alloc (.cells #[.slice s.A1 s.sheets.length s.c1, .slice s.A2 s.lics.length s.c2, .slice s.A3 s.makes.length s.c3, .slice s.A4 s.wishes.length s.c4] 72)).alloc (.cells #[.int .i64 set] 3)
  rw [World.size_alloc] at x6
  simp only [World.size_alloc] at x5 x3
  generalize (((((w.alloc (.cells #[.slice s.A1 s.sheets.length s.c1, .slice s.A2 s.lics.length s.c2, .slice s.A3 s.makes.length s.c3, .slice s.A4 s.wishes.length s.c4] 72)).alloc (.cells (zeros s.sheets.length) 3)).alloc (.cells #[.slice (some ⟨w.heap.size + 1, 0, none⟩) s.sheets.length s.sheets.length] 75)).alloc (.cells #[.slice s.A1 s.sheets.length s.c1, .slice s.A2 s.lics.length s.c2, .slice s.A3 s.makes.length s.c3, .slice s.A4 s.wishes.length s.c4] 72)).alloc (.cells #[.int .i64 set] 3)) = W0 at *
  clear a1 a2 a3 hb0 hx0 hmk hi0 hz0 hz1 hz2
  have hseq := orders1_stops 5 (by omega) s set w.heap.size (w.heap.size + 1 + 1 + 1) (w.heap.size + 1 + 1 + 1 + 1) W0 ok hlt (by omega) x4 ⟨by omega, hr.below a4, x3, he.lt, he.next a4⟩
  refine wpIn_rangeFunc_ownH rfl (by omega) (gf := 65) (lb := #[.pointer (some ⟨w.heap.size + 1 + 1 + 1 + 1, 0, none⟩), .pointer (some ⟨w.heap.size + 1 + 1 + 1, 0, none⟩)]) rfl trivial (enters_of Tryd.func65 (by kernel_rfl) rfl)
    hseq (fun h k => Kp.trans h k) (Kp.put (by omega) (by omega)) (Below.refl _ _) (fun _ => rfl)
    (TkI s w) (fun _ _ _ => False) (TkI.own s w hn.1 (by omega)) (fun _ _ _ _ _ h _ _ => h) ⟨w.heap.size + 1, s.sheets.length, x5, by omega, by omega, by omega, x6, x2, a4, by omega⟩
    (fun x a' W => ∃ Bx, w.heap.size + 1 + 1 + 1 + 1 + 1 ≤ Bx ∧ WBox W Bx (wishAt s x.val) ∧ a' = { tmps := #[.agg #[.slice s.A1 s.sheets.length s.c1, .slice s.A2 s.lics.length s.c2, .slice s.A3 s.makes.length s.c3, .slice s.A4 s.wishes.length s.c4], .int .i64 set, .pointer (some ⟨w.heap.size, 0, none⟩), undef, .slice none 0 0, .pointer (some ⟨w.heap.size + 1 + 1, 0, none⟩), undef, .pointer (some ⟨Bx, 0, none⟩), .pointer (some ⟨w.heap.size, 0, none⟩), .pointer (some ⟨w.heap.size, 0, none⟩), .slice s.A1 s.sheets.length s.c1, .int .i64 s.sheets.length, .slice (some ⟨w.heap.size + 1, 0, none⟩) s.sheets.length s.sheets.length, .agg #[.slice s.A1 s.sheets.length s.c1, .slice s.A2 s.lics.length s.c2, .slice s.A3 s.makes.length s.c3, .slice s.A4 s.wishes.length s.c4], .int .i64 set, .func (.func 65) #[] #[.pointer (some ⟨w.heap.size + 1 + 1 + 1 + 1, 0, none⟩), .pointer (some ⟨w.heap.size + 1 + 1 + 1, 0, none⟩)], .int .i64 (x.val : Nat), .agg #[.int .i64 (wishAt s x.val).puz, .int .i64 (wishAt s x.val).many, .int .i64 (wishAt s x.val).hour, .int .i64 (wishAt s x.val).price, .int .i64 (wishAt s x.val).ship], undef, undef, undef, undef, undef, undef, undef, undef, undef, undef, undef, undef, undef], defers := [] })
    (fun x a' _ W W' row ⟨Bx, h1, h2, h3⟩ hg hr => ⟨Bx, h1, h2.nc hg (fun r e => (hr r e).2), h3⟩)
    ?assign ?body ?done ?stop
  case assign =>
    rintro l pre x W K hi hK
    dsimp only [encI]
    gi_wp2
    have hbA := (Below.refl W.heap.size W).alloc (Nat.le_refl _) (.cells #[.int .i64 (wishAt s x.val).puz, .int .i64 (wishAt s x.val).many, .int .i64 (wishAt s x.val).hour, .int .i64 (wishAt s x.val).price, .int .i64 (wishAt s x.val).ship] 57)
    have hz : w.heap.size + 1 + 1 + 1 + 1 + 1 ≤ W.heap.size := by obtain ⟨_, _, _, _, _, _, _, _, _, h8⟩ := hi; exact h8
    exact hK _ _ (kf_below hbA) (kp_below hbA (by omega) (by omega)) (hi.next hbA) ⟨W.heap.size, hz, WBox.new rfl _ 57, rfl⟩
  case body =>
    rintro l pre x a' W hl hloop hi ⟨Bx, hBx, hwb, rfl⟩ hlen
    have hKS : ∀ W', Below W.heap.size W W' → TkI s w pre W' := fun W' hb => hi.next hb
    obtain ⟨g, c, ho, hgc, hg1, hg2, hblk, hbox, hB, hz⟩ := hi
    obtain ⟨hBl, d0, d1, d2, d3, d4⟩ := hwb
    have hrW := hr.below hB
    obtain ⟨bm, om, e0, hbm, m0, m1⟩ := hbox.makeC hrW ok x.isLt
    obtain ⟨b2, o2, e2, hb2, -⟩ := (hrW.takeC ok x.isLt).int (k := 0) (by rw [(ok.make _ (makeAt_mem ok x.isLt)).2.2.1]; omega)
    have hA2 := hrW.takeC ok x.isLt
    rw [take_tab ok x.isLt, e2] at hA2
    rw [e2] at m1
    have hp := ok.puz x.isLt
    have hw := ok.wishOk x.isLt
    have l3 := hr.l3
    have g0 : 0 ≤ (wishAt s x.val).puz := hw.1
    have g3 : (wishAt s x.val).puz < s.makes.length := hw.2.1
    have ho' := ho.cell
    have hof := ho.frozen
    have HS := Lib.hid (show ∀ W', Below W.heap.size W W' → (W'.cell? ⟨w.heap.size, 2, none⟩ = some (.slice (some ⟨bm, om, none⟩) s.makes.length s.c3) ∧ W'.cell? ⟨Bx, 0, none⟩ = some (.int .i64 (wishAt s x.val).puz) ∧ W'.cell? ⟨Bx, 1, none⟩ = some (.int .i64 (wishAt s x.val).many) ∧ W'.cell? ⟨bm, om + (wishAt s x.val).puz.toNat * 2 + 1, none⟩ = some (.slice (some ⟨b2, o2, none⟩) s.sheets.length (makeAt s x.val).c)) from fun W' h =>
      ⟨((bcell h).1 _ _ (by omega)).trans e0, ((bcell h).1 _ _ hBl).trans d0, ((bcell h).1 _ _ hBl).trans d1, ((bcell h).1 _ _ (by omega)).trans m1⟩)
    have HS2 := Lib.hid (show ∀ W' v, Below W.heap.size W W' → (((W'.setCell ⟨w.heap.size + 1 + 1, 0, none⟩ v).cell? ⟨w.heap.size, 2, none⟩ = some (.slice (some ⟨bm, om, none⟩) s.makes.length s.c3)) ∧ (W'.setCell ⟨w.heap.size + 1 + 1, 0, none⟩ v).cell? ⟨Bx, 0, none⟩ = some (.int .i64 (wishAt s x.val).puz) ∧ (W'.setCell ⟨w.heap.size + 1 + 1, 0, none⟩ v).cell? ⟨Bx, 1, none⟩ = some (.int .i64 (wishAt s x.val).many) ∧ (W'.setCell ⟨w.heap.size + 1 + 1, 0, none⟩ v).cell? ⟨bm, om + (wishAt s x.val).puz.toNat * 2 + 1, none⟩ = some (.slice (some ⟨b2, o2, none⟩) s.sheets.length (makeAt s x.val).c)) from fun W' v h => by
      obtain ⟨f1, f2, f3, f4⟩ := HS.out W' h
      exact ⟨by rw [World.cell?_setCell_other _ _ _ _ (by intro e; injection e with e; omega)]; exact f1, by rw [World.cell?_setCell_other _ _ _ _ (by intro e; injection e with e; omega)]; exact f2, by rw [World.cell?_setCell_other _ _ _ _ (by intro e; injection e with e; omega)]; exact f3, by rw [World.cell?_setCell_other _ _ _ _ (by intro e; injection e with e; omega)]; exact f4⟩)
    have Hplus := Lib.hid (show ∀ W', Below W.heap.size W W' → Calls Tryd.prog 61 #[.slice (some ⟨g, 0, none⟩) s.sheets.length c, .slice (some ⟨b2, o2, none⟩) s.sheets.length (makeAt s x.val).c, .int .i64 (wishAt s x.val).many] W' (RetB s.sheets.length (fun k => tkF s pre k + (wishAt s x.val).many * takeAt s x.val k) W') from fun W' h => by
      refine plus_any g 0 c b2 o2 (makeAt s x.val).c s.sheets.length (tkF s pre) (takeAt s x.val) (wishAt s x.val).many W' ⟨hn.1, by omega⟩ (hblk.next h).at_ ((hA2.more (by omega)).below h |>.more h.size) (fun k hk => ?_) (fun k hk => takeAt_bd ok x.isLt k) (by omega)
      have hbd := sumL_bd (l := pre.map Fin.val) (f := fun i => (wishAt s i).many * takeAt s i k) (lo := 0) (hi := 20000) (fun i hi => by
        obtain ⟨j, -, rfl⟩ := List.mem_map.1 hi
        exact takeMul_bd ok k j.isLt)
      rw [List.length_map] at hbd
      unfold tkF
      omega)
    have HKS := Lib.hid hKS
    have Hr := Lib.hid hr
    clear hr hKS hA2 hrW hblk hbox hB hw x2 x6 hseq
    gi_wp2_with fail
    refine region_in (S := (fun W' => W'.cell? ⟨w.heap.size, 2, none⟩ = some (.slice (some ⟨bm, om, none⟩) s.makes.length s.c3) ∧ W'.cell? ⟨Bx, 0, none⟩ = some (.int .i64 (wishAt s x.val).puz) ∧ W'.cell? ⟨Bx, 1, none⟩ = some (.int .i64 (wishAt s x.val).many) ∧ W'.cell? ⟨bm, om + (wishAt s x.val).puz.toNat * 2 + 1, none⟩ = some (.slice (some ⟨b2, o2, none⟩) s.sheets.length (makeAt s x.val).c))) (by kernel_rfl) (by kernel_rfl) ?_ (fun hHeld => ?_)
    · (try dsimp only); exact HS.out _ (Below.refl _ _).drew
    refine htake (i := 1) (v := ?v1) rfl (by kernel_rfl) (by kernel_rfl) (by kernel_rfl) (fun _ _ _ h => h) (Or.inl ⟨by rfl, ?hy1⟩) (by assumption) ?_
    case hy1 => (intro w hSw; (try dsimp only at hSw); go_simp; try (with_reducible rfl))
    try simp only [Act.put, List.setIfInBounds_toArray, List.set_cons_zero, List.set_cons_succ]
    refine htake (i := 2) (v := ?v2) rfl (by kernel_rfl) (by kernel_rfl) (by kernel_rfl) (fun _ _ _ h => h) (Or.inl ⟨by rfl, ?hy2⟩) (by assumption) ?_
    case hy2 => (intro w hSw; (try dsimp only at hSw); go_simp; try (with_reducible rfl))
    try simp only [Act.put, List.setIfInBounds_toArray, List.set_cons_zero, List.set_cons_succ]
    refine htake (i := 3) (v := ?v3) rfl (by kernel_rfl) (by kernel_rfl) (by kernel_rfl) (fun _ _ _ h => h) (Or.inl ⟨by rfl, ?hy3⟩) (by assumption) ?_
    case hy3 => (intro w hSw; (try dsimp only at hSw); go_simp; try (with_reducible rfl))
    try simp only [Act.put, List.setIfInBounds_toArray, List.set_cons_zero, List.set_cons_succ]
    refine htake (i := 4) (v := ?v4) rfl (by kernel_rfl) (by kernel_rfl) (by kernel_rfl) (fun _ _ _ h => h) (Or.inl ⟨by rfl, ?hy4⟩) (by assumption) ?_
    case hy4 => (intro w hSw; (try dsimp only at hSw); go_simp; try (with_reducible rfl))
    try simp only [Act.put, List.setIfInBounds_toArray, List.set_cons_zero, List.set_cons_succ]
    refine htake (i := 5) (v := ?v5) rfl (by kernel_rfl) (by kernel_rfl) (by kernel_rfl) (fun _ _ _ h => h) (Or.inl ⟨by rfl, ?hy5⟩) (by assumption) ?_
    case hy5 => (intro w hSw; (try dsimp only at hSw); go_simp; try (with_reducible rfl))
    try simp only [Act.put, List.setIfInBounds_toArray, List.set_cons_zero, List.set_cons_succ]
    refine htake (i := 6) (v := ?v6) rfl (by kernel_rfl) (by kernel_rfl) (by kernel_rfl) (fun _ _ _ h => h) (Or.inl ⟨by rfl, ?hy6⟩) (by assumption) ?_
    case hy6 => (intro w hSw; (try dsimp only at hSw); go_simp; try (with_reducible rfl))
    try simp only [Act.put, List.setIfInBounds_toArray, List.set_cons_zero, List.set_cons_succ]
    refine htake (i := 7) (v := ?v7) rfl (by kernel_rfl) (by kernel_rfl) (by kernel_rfl) (fun _ _ _ h => h) (Or.inl ⟨by rfl, ?hy7⟩) (by assumption) ?_
    case hy7 => (intro w hSw; (try dsimp only at hSw); go_simp; try (with_reducible rfl))
    try simp only [Act.put, List.setIfInBounds_toArray, List.set_cons_zero, List.set_cons_succ]
    refine htake (i := 8) (v := ?v8) rfl (by kernel_rfl) (by kernel_rfl) (by kernel_rfl) (fun _ _ _ h => h) (Or.inl ⟨by rfl, ?hy8⟩) (by assumption) ?_
    case hy8 => (intro w hSw; (try dsimp only at hSw); go_simp; try (with_reducible rfl))
    try simp only [Act.put, List.setIfInBounds_toArray, List.set_cons_zero, List.set_cons_succ]
    refine htake (i := 9) (v := ?v9) rfl (by kernel_rfl) (by kernel_rfl) (by kernel_rfl) (fun _ _ _ h => h) (Or.inl ⟨by rfl, ?hy9⟩) (by assumption) ?_
    case hy9 => (intro w hSw; (try dsimp only at hSw); go_simp; try (with_reducible rfl))
    try simp only [Act.put, List.setIfInBounds_toArray, List.set_cons_zero, List.set_cons_succ]
    refine htake (i := 10) (v := ?v10) rfl (by kernel_rfl) (by kernel_rfl) (by kernel_rfl) (fun _ _ _ h => h) (Or.inl ⟨by rfl, ?hy10⟩) (by assumption) ?_
    case hy10 => (intro w hSw; (try dsimp only at hSw); go_simp; try (with_reducible rfl))
    try simp only [Act.put, List.setIfInBounds_toArray, List.set_cons_zero, List.set_cons_succ]
    refine wpAnyH_ready (rs := [0]) (by kernel_rfl) (by simp) ?_
    refine hcons rfl (fun K hK => ?_) (AllReadyH.nil)
    go_simp
    refine hK.out _ _ ?_ (fun hHeld => ?_)
    · (try dsimp only); exact HS.out _ (Below.refl _ _).drew
    clear hK K
    try simp only [Act.put, List.setIfInBounds_toArray, List.set_cons_zero, List.set_cons_succ]
    refine wpAnyH_ready (rs := [11]) (by kernel_rfl) (by simp) ?_
    refine hcons rfl (fun K hK => ?_) (AllReadyH.nil)
    go_simp
    (with_reducible refine (Hplus.out _ (Below.refl _ _).drew).mono ?_); rintro e w1 ⟨g2, c2, rfl, hc2, hg2', hblk2, hb1⟩; have hk1 : Below W.heap.size W w1 := (Below.refl _ _).drew.trans hb1; have ho1 := ((bcell hk1).1 (w.heap.size + 1 + 1) 0 (by omega)).trans ho'; have hof1 := ((bcell hk1).2 (w.heap.size + 1 + 1) 0 (by omega)).trans hof
    refine hK.out _ _ ?_ (fun hHeld => ?_)
    · (try dsimp only); exact HS.out _ hk1
    clear hK K
    try simp only [Act.put, List.setIfInBounds_toArray, List.set_cons_zero, List.set_cons_succ]
    refine wpAnyH_ready (rs := [12]) (by kernel_rfl) (by simp) ?_
    refine hcons rfl (fun K hK => ?_) (AllReadyH.nil)
    go_simp
    refine hK.out _ _ ?_ (fun hHeld => ?_)
    · (try dsimp only); exact HS2.out _ _ hk1
    clear hK K
    try simp only [Act.put, List.setIfInBounds_toArray, List.set_cons_zero, List.set_cons_succ]
    refine wpAnyH_done (by kernel_rfl) ?_ _
    dsimp only [Only]
    dsimp only [Exit.inBlock]
    have hz1 := hk1.size
    have hg3 : W.heap.size ≤ g2 := hg2'
    have hI := HKS.out _ hk1
    refine ⟨(kf_below hk1).trans ((KeepsOthers.setCell _ _ _).from _), (kp_below hk1 (by omega) (by omega)).trans ⟨(Below.refl _ _).setCell (p := ⟨w.heap.size + 1 + 1, 0, none⟩) (by simp; omega) _, fun o => World.cell?_setCell_other _ _ _ _ (by intro e; injection e with e; omega)⟩, ?_⟩
    obtain ⟨_, _, q1, _, _, _, _, q6, q7, q8⟩ := hI
    refine ⟨g2, c2, q1.set _, hc2, by omega, by omega, ?_, q6.other (by omega) _, q7.setCell (p := ⟨w.heap.size + 1 + 1, 0, none⟩) (by simp; omega) _, by simpa [World.setCell] using q8⟩
    have e := hblk2.other (B := w.heap.size + 1 + 1) (by omega) (.slice (some ⟨g2, 0, none⟩) s.sheets.length c2)
    rw [show tkF s (pre ++ [x]) = _ from funext fun k => tkF_snoc s pre x k]
    exact e
  case done =>
    rintro D xs W hD hS ⟨g, c, ho, hgc, hg1, hg2, hblk, hbox, hB, hz⟩ hK
    have ho' := ho.cell
    clear hseq hbox x2 x3 x4 x5 x6 a4 hr
    gi_wp2
    refine ⟨by simp, .inl ⟨_, _, rfl, run_takeDeferred hK, ?_⟩⟩
    refine ⟨_, results_tmp rfl _ _ _, g, c, rfl, hgc, hg1, ?_, hB.trans (belowK_b (w := w) (Nat.le_refl _) W D _ _ (by omega) hK rfl rfl)⟩
    rw [← tkF_takeS s ok hlt hS]
    exact hblk.nc hn.1 (grownBy_putObj' W D _) (fun r e => by cases e; exact ⟨_, hK, rfl⟩)
  case stop =>
    rintro D c pre W _ _ h _
    exact h.elim
end Go.Proofs.YtfffhbolaimmdaaDoor
