import Derived.Test.YtfffhbolaimmdaaDoorP12
import Derived.Scope
namespace Go.Proofs.YtfffhbolaimmdaaDoor
open Go.RowKit
attribute [local go_sem] Oper.semAt_some
def usedF (s : Store) (l : List Nat) (p : Nat) : Int := sumL l fun i => if (makeAt s i).pic.toNat = p then (wishAt s i).many else 0
def okL (s : Store) (pre : List Nat) (i : Nat) : Bool := decide (usedF s (pre ++ [i]) (makeAt s i).pic.toNat ≤ (licAt s i).copies) && inS (wishAt s i).hour (licAt s i).lo (licAt s i).hi
def refusedL (s : Store) : List Nat → List Nat → Int
  | _, [] => -1
  | pre, i :: r => if okL s pre i = true then refusedL s (pre ++ [i]) r else i
/-- Between two rounds. -/
def RfI (s : Store) (w0 : World) (pre : List (Fin s.wishes.length)) (W : World) : Prop := (∀ rest, refusedL s [] (pre.map Fin.val ++ rest) = refusedL s (pre.map Fin.val) rest) ∧ Boxed W (w0.heap.size + 1) 3 (.int .i64 0) ∧ IBlk W (w0.heap.size + 1 + 1) 5 (usedF s (pre.map Fin.val)) ∧ SBox W w0.heap.size s ∧ Below w0.heap.size w0 W ∧ w0.heap.size + 1 + 1 + 1 + 1 + 1 ≤ W.heap.size
/-- A round has left. -/
def RfX (s : Store) (w0 : World) (c : Code) (pre : List (Fin s.wishes.length)) (W : World) : Prop := c = .ret ∧ ∃ i : Int, (∀ rest, refusedL s [] (pre.map Fin.val ++ rest) = i) ∧ Boxed W (w0.heap.size + 1) 3 (.int .i64 i) ∧ Below w0.heap.size w0 W
theorem RfI.own (s : Store) (w0 : World) {B : Nat} (hB : w0.heap.size ≤ B) : OwnFrom B (RfI s w0) := by
  rintro pre W W' row ⟨h0, h1, h5, h6, h7, h8⟩ hg hr
  have hr' : ∀ r, row = some r → ∃ o : Obj, W.heap[r]? = some o ∧ o.isCells = false := fun r e => (hr r e).2
  exact ⟨h0, boxed_own (β := Unit) _ _ (fun _ => _) () W W' row h1 hg hr', h5.nc (by omega) hg hr', h6.nc hg hr', h7.grown hg h7.size (fun k e => Nat.le_trans hB (hr k e).1), Nat.le_trans h8 hg.size⟩
theorem RfX.own (s : Store) (w0 : World) (c : Code) {B : Nat} (hB : w0.heap.size ≤ B) : OwnFrom B (RfX s w0 c) := by
  rintro pre W W' row ⟨h0, i, h2, h1, h7⟩ hg hr
  have hr' : ∀ r, row = some r → ∃ o : Obj, W.heap[r]? = some o ∧ o.isCells = false := fun r e => (hr r e).2
  exact ⟨h0, i, h2, boxed_own (β := Unit) _ _ (fun _ => _) () W W' row h1 hg hr', h7.grown hg h7.size (fun k e => Nat.le_trans hB (hr k e).1)⟩
theorem RfI.next {s : Store} {w0 : World} {pre : List (Fin s.wishes.length)} {W W' : World} (h : RfI s w0 pre W) (hb : Below W.heap.size W W') : RfI s w0 pre W' := by
  obtain ⟨h0, h1, h5, h6, h7, h8⟩ := h
  exact ⟨h0, box_next h1 hb, h5.next hb, h6.next hb, h7.trans (hb.mono h7.size), Nat.le_trans h8 hb.size⟩
theorem iblk5 (w : World) (t : TypeId) : IBlk (w.alloc (.cells #[.int .i64 0, .int .i64 0, .int .i64 0, .int .i64 0, .int .i64 0] t)) w.heap.size 5 (fun _ => 0) := by
  refine ⟨by simp, fun j hj => ?_, fun j => by simp [go_sem]⟩
  match j, hj with
  | 0, _ => simp [go_sem]
  | 1, _ => simp [go_sem]
  | 2, _ => simp [go_sem]
  | 3, _ => simp [go_sem]
  | 4, _ => simp [go_sem]
theorem results_cell1 {fn : Func} {p : Tmp} {ty : TypeId} (h : fn.results = #[.cell p ty]) {tmps : Array Value} {P : Program} {w : World} {a : Addr} {v : Value} (hp : tmps.getD p undef = .pointer (some a)) (hv : (loadVar ty a).run P w = .ok v w) :
    (results fn tmps).run P w = .ok v w := by
  have hp' : tmps[p]?.getD undef = .pointer (some a) := by simpa using hp
  simp [results, h, hp', asAddr, hv]
theorem load3 {w : World} {a : Addr} {v : Value} (h : w.cell? a = some v) : (loadVar 3 a).run Tryd.prog w = .ok v w := by
  simp [go_sem, h]
/-- A licence that lies in a block of its own. -/
structure LBox (w : World) (b : Nat) (x : Licence) : Prop where
  lt : b < w.heap.size
  c0 : w.cell? ⟨b, 0, none⟩ = some (.int .i64 x.copies)
  c1 : w.cell? ⟨b, 1, none⟩ = some (.int .i64 x.lo)
  c2 : w.cell? ⟨b, 2, none⟩ = some (.int .i64 x.hi)
  c3 : w.cell? ⟨b, 3, none⟩ = some (.int .i64 x.fee)
theorem LBox.new {w : World} {g : Nat} (hg : g = w.heap.size) (x : Licence) (t : TypeId) : LBox (w.alloc (.cells #[.int .i64 x.copies, .int .i64 x.lo, .int .i64 x.hi, .int .i64 x.fee] t)) g x := by
  subst hg
  exact ⟨by simp, by simp [go_sem], by simp [go_sem], by simp [go_sem], by simp [go_sem]⟩
theorem LBox.next {w w' : World} {b : Nat} {x : Licence} (h : LBox w b x) (hb : Below w.heap.size w w') : LBox w' b x :=
  ⟨Nat.lt_of_lt_of_le h.lt hb.size, (hb.cell (p := ⟨b, 0, none⟩) h.lt).trans h.c0, (hb.cell (p := ⟨b, 1, none⟩) h.lt).trans h.c1, (hb.cell (p := ⟨b, 2, none⟩) h.lt).trans h.c2, (hb.cell (p := ⟨b, 3, none⟩) h.lt).trans h.c3⟩
theorem usedF_bd (s : Store) (ok : Ok s) {l : List Nat} (h : ∀ i ∈ l, i < s.wishes.length) (hl : l.length ≤ 9) (p : Nat) : 0 ≤ usedF s l p ∧ usedF s l p ≤ 9000 := by
  have hb := sumL_bd (l := l) (f := fun i => if (makeAt s i).pic.toNat = p then (wishAt s i).many else 0) (lo := 0) (hi := 1000) (fun i hi => by
    have := ok.wishOk (h i hi)
    split <;> omega)
  unfold usedF; omega
theorem usedF_snoc (s : Store) (l : List Nat) (i p : Nat) : usedF s (l ++ [i]) p = usedF s l p + if (makeAt s i).pic.toNat = p then (wishAt s i).many else 0 := sumL_snoc _ _ _
theorem WBox.otherk {W : World} {b B : Nat} {x : Wish} (h : WBox W b x) (hne : b ≠ B) (j : Nat) (v : Value) : WBox (W.setCell ⟨B, j, none⟩ v).drew b x :=
  have k : ∀ o, (W.setCell ⟨B, j, none⟩ v).cell? ⟨b, o, none⟩ = W.cell? ⟨b, o, none⟩ := fun o => World.cell?_setCell_other _ _ _ _ (by intro e; injection e with e; exact hne e.symm)
  ⟨by simpa [World.setCell] using h.lt, (k 0).trans h.c0, (k 1).trans h.c1, (k 2).trans h.c2, (k 3).trans h.c3, (k 4).trans h.c4⟩
theorem LBox.otherk {W : World} {b B : Nat} {x : Licence} (h : LBox W b x) (hne : b ≠ B) (j : Nat) (v : Value) : LBox (W.setCell ⟨B, j, none⟩ v).drew b x :=
  have k : ∀ o, (W.setCell ⟨B, j, none⟩ v).cell? ⟨b, o, none⟩ = W.cell? ⟨b, o, none⟩ := fun o => World.cell?_setCell_other _ _ _ _ (by intro e; injection e with e; exact hne e.symm)
  ⟨by simpa [World.setCell] using h.lt, (k 0).trans h.c0, (k 1).trans h.c1, (k 2).trans h.c2, (k 3).trans h.c3⟩
theorem box_otherk {W : World} {b B : Nat} {t : TypeId} {v : Value} (h : Boxed W b t v) (hne : b ≠ B) (j : Nat) (u : Value) : Boxed (W.setCell ⟨B, j, none⟩ u).drew b t v := by
  show (W.heap.modify B _)[b]? = _
  rw [Array.getElem?_modify, if_neg (fun e => hne e.symm)]
  exact h
theorem SBox.drew1 {w : World} {b : Nat} {s : Store} (h : SBox w b s) : SBox w.drew b s := ⟨h.lt, h.c0, h.c1, h.c2, h.c3⟩
theorem wpIn_scope_wide {P : Program} {n : Nat} {c : Code} {Q : Exit → Act → World → Prop} {a : Act} {w : World} (h : c.wpIn Fence.wide n P (Exit.noGoto Q) a w) : (Code.scope c).wpIn Fence.wide n P Q a w := wpIn_wide.2 (wp_scope_straight (wpIn_wide.1 h))
set_option maxRecDepth 100000 in
set_option maxHeartbeats 400000 in
theorem refused_any (s : Store) (set : Nat) (w : World) (ok : Ok s) (hlt : set < 2 ^ s.wishes.length) (hr : StoreAt w w.heap.size s) (he : Env w) :
    Calls Tryd.prog 60 #[.agg #[.slice s.A1 s.sheets.length s.c1, .slice s.A2 s.lics.length s.c2, .slice s.A3 s.makes.length s.c3, .slice s.A4 s.wishes.length s.c4], .int .i64 set] w (Ret (.int .i64 (refusedL s [] (bitsOf set))) w) := by
  have hb0 := ((Below.refl w.heap.size w).alloc (Nat.le_refl _) (.cells #[.slice s.A1 s.sheets.length s.c1, .slice s.A2 s.lics.length s.c2, .slice s.A3 s.makes.length s.c3, .slice s.A4 s.wishes.length s.c4] 72))
  have hx0 := SBox.new w s 72
  refine (callsIn_wide (n := 6)).1 ?_
  refine callsIn_of_wp_marks Tryd.func60 rfl trivial ?_ rfl
  simp only [Tryd.ntmps60, List.size_toArray, List.length_cons, List.length_nil, Nat.reduceAdd, Nat.reduceSub, Array.replicate_succ, Array.replicate_zero, List.push_toArray, List.append_toArray, List.nil_append, List.cons_append]
  gi_wp2_with fail
  refine wpIn_scope_wide ?_
  gi_wp2_with fail
  refine wpIn_label ?_
  gi_wp2_with fail
  refine ⟨trivial, (callsIn_wide.2 (orders_any s set _)).mono ?_⟩
  rintro e w' ⟨rfl, rfl⟩
  gi_wp2_with fail
  have hsz : (((((w.alloc (.cells #[.slice s.A1 s.sheets.length s.c1, .slice s.A2 s.lics.length s.c2, .slice s.A3 s.makes.length s.c3, .slice s.A4 s.wishes.length s.c4] 72)).alloc (.cells #[.int .i64 0] 3)).alloc (.cells #[.int .i64 0, .int .i64 0, .int .i64 0, .int .i64 0, .int .i64 0] 119)).alloc (.cells #[.slice s.A1 s.sheets.length s.c1, .slice s.A2 s.lics.length s.c2, .slice s.A3 s.makes.length s.c3, .slice s.A4 s.wishes.length s.c4] 72)).alloc (.cells #[.int .i64 set] 3)).heap.size = w.heap.size + 1 + 1 + 1 + 1 + 1 := by simp
  have a1 := (hb0.alloc hb0.size (.cells #[.int .i64 0] 3))
  have a2 := (a1.alloc a1.size (.cells #[.int .i64 0, .int .i64 0, .int .i64 0, .int .i64 0, .int .i64 0] 119))
  have a3 := (a2.alloc a2.size (.cells #[.slice s.A1 s.sheets.length s.c1, .slice s.A2 s.lics.length s.c2, .slice s.A3 s.makes.length s.c3, .slice s.A4 s.wishes.length s.c4] 72))
  have a4 := (a3.alloc a3.size (.cells #[.int .i64 set] 3))
  have x2 := (((hx0.next ((Below.refl _ _).alloc (Nat.le_refl _) (.cells #[.int .i64 0] 3))).next ((Below.refl _ _).alloc (Nat.le_refl _) (.cells #[.int .i64 0, .int .i64 0, .int .i64 0, .int .i64 0, .int .i64 0] 119))).next ((Below.refl _ _).alloc (Nat.le_refl _) (.cells #[.slice s.A1 s.sheets.length s.c1, .slice s.A2 s.lics.length s.c2, .slice s.A3 s.makes.length s.c3, .slice s.A4 s.wishes.length s.c4] 72))).next ((Below.refl _ _).alloc (Nat.le_refl _) (.cells #[.int .i64 set] 3))
  have x3 := (SBox.new (((w.alloc (.cells #[.slice s.A1 s.sheets.length s.c1, .slice s.A2 s.lics.length s.c2, .slice s.A3 s.makes.length s.c3, .slice s.A4 s.wishes.length s.c4] 72)).alloc (.cells #[.int .i64 0] 3)).alloc (.cells #[.int .i64 0, .int .i64 0, .int .i64 0, .int .i64 0, .int .i64 0] 119)) s 72).next ((Below.refl _ _).alloc (Nat.le_refl _) (.cells #[.int .i64 set] 3))
  have x4 : (((((w.alloc (.cells #[.slice s.A1 s.sheets.length s.c1, .slice s.A2 s.lics.length s.c2, .slice s.A3 s.makes.length s.c3, .slice s.A4 s.wishes.length s.c4] 72)).alloc (.cells #[.int .i64 0] 3)).alloc (.cells #[.int .i64 0, .int .i64 0, .int .i64 0, .int .i64 0, .int .i64 0] 119)).alloc (.cells #[.slice s.A1 s.sheets.length s.c1, .slice s.A2 s.lics.length s.c2, .slice s.A3 s.makes.length s.c3, .slice s.A4 s.wishes.length s.c4] 72)).alloc (.cells #[.int .i64 set] 3)).cell? ⟨w.heap.size + 1 + 1 + 1 + 1, 0, none⟩ = some (.int .i64 set) := by simp [go_sem]
  have x5 := (Boxed.new (w.alloc (.cells #[.slice s.A1 s.sheets.length s.c1, .slice s.A2 s.lics.length s.c2, .slice s.A3 s.makes.length s.c3, .slice s.A4 s.wishes.length s.c4] 72)) 3 (.int .i64 0)).alloc (.cells #[.int .i64 0, .int .i64 0, .int .i64 0, .int .i64 0, .int .i64 0] 119) |>.alloc (.cells #[.slice s.A1 s.sheets.length s.c1, .slice s.A2 s.lics.length s.c2, .slice s.A3 s.makes.length s.c3, .slice s.A4 s.wishes.length s.c4] 72) |>.alloc (.cells #[.int .i64 set] 3)
  have x6 := ((iblk5 ((w.alloc (.cells #[.slice s.A1 s.sheets.length s.c1, .slice s.A2 s.lics.length s.c2, .slice s.A3 s.makes.length s.c3, .slice s.A4 s.wishes.length s.c4] 72)).alloc (.cells #[.int .i64 0] 3)) 119).alloc (.cells #[.slice s.A1 s.sheets.length s.c1, .slice s.A2 s.lics.length s.c2, .slice s.A3 s.makes.length s.c3, .slice s.A4 s.wishes.length s.c4] 72)).alloc (.cells #[.int .i64 set] 3)
  simp only [World.size_alloc] at x5 x3 x6
  generalize (((((w.alloc (.cells #[.slice s.A1 s.sheets.length s.c1, .slice s.A2 s.lics.length s.c2, .slice s.A3 s.makes.length s.c3, .slice s.A4 s.wishes.length s.c4] 72)).alloc (.cells #[.int .i64 0] 3)).alloc (.cells #[.int .i64 0, .int .i64 0, .int .i64 0, .int .i64 0, .int .i64 0] 119)).alloc (.cells #[.slice s.A1 s.sheets.length s.c1, .slice s.A2 s.lics.length s.c2, .slice s.A3 s.makes.length s.c3, .slice s.A4 s.wishes.length s.c4] 72)).alloc (.cells #[.int .i64 set] 3)) = W0 at *
  clear a1 a2 a3 hb0 hx0
  have hseq := orders1_stops 5 (by omega) s set w.heap.size (w.heap.size + 1 + 1 + 1) (w.heap.size + 1 + 1 + 1 + 1) W0 ok hlt (by omega) x4 ⟨by omega, hr.below a4, x3, he.lt, he.next a4⟩
  refine wpIn_rangeFunc_ownH rfl (by omega) (gf := 65) (lb := #[.pointer (some ⟨w.heap.size + 1 + 1 + 1 + 1, 0, none⟩), .pointer (some ⟨w.heap.size + 1 + 1 + 1, 0, none⟩)]) rfl trivial (enters_of Tryd.func65 (by kernel_rfl) rfl)
    hseq (fun h k => Kp.trans h k) (Kp.put (by omega) (by omega)) (Below.refl _ _) (fun _ => rfl)
    (RfI s w) (RfX s w) (RfI.own s w (by omega)) (fun c => RfX.own s w c (by omega)) ⟨fun _ => rfl, x5, x6, x2, a4, by omega⟩
    (fun x a' W => ∃ Bx, w.heap.size + 1 + 1 + 1 + 1 + 1 ≤ Bx ∧ WBox W Bx (wishAt s x.val) ∧ a' = { tmps := #[.agg #[.slice s.A1 s.sheets.length s.c1, .slice s.A2 s.lics.length s.c2, .slice s.A3 s.makes.length s.c3, .slice s.A4 s.wishes.length s.c4], .int .i64 set, .pointer (some ⟨w.heap.size, 0, none⟩), undef, .pointer (some ⟨w.heap.size + 1, 0, none⟩), .pointer (some ⟨w.heap.size + 1 + 1, 0, none⟩), .int .i64 (x.val : Nat), .pointer (some ⟨Bx, 0, none⟩), undef, undef, .agg #[.slice s.A1 s.sheets.length s.c1, .slice s.A2 s.lics.length s.c2, .slice s.A3 s.makes.length s.c3, .slice s.A4 s.wishes.length s.c4], .int .i64 set, .func (.func 65) #[] #[.pointer (some ⟨w.heap.size + 1 + 1 + 1 + 1, 0, none⟩), .pointer (some ⟨w.heap.size + 1 + 1 + 1, 0, none⟩)], .int .i64 (x.val : Nat), .agg #[.int .i64 (wishAt s x.val).puz, .int .i64 (wishAt s x.val).many, .int .i64 (wishAt s x.val).hour, .int .i64 (wishAt s x.val).price, .int .i64 (wishAt s x.val).ship], undef, undef, undef, undef, undef, undef, undef, undef, undef, undef, undef, undef, undef, undef, undef, undef, undef, undef, undef, undef, undef, undef, undef, undef, undef, undef, undef, undef, undef], defers := [] })
    (fun x a' _ W W' row ⟨Bx, h1, h2, h3⟩ hg hr => ⟨Bx, h1, h2.nc hg (fun r e => (hr r e).2), h3⟩)
    ?assign ?body ?done ?stop
  case assign =>
    rintro l pre x W K hi hK
    dsimp only [encI]
    gi_wp2
    have hbA := (Below.refl W.heap.size W).alloc (Nat.le_refl _) (.cells #[.int .i64 (wishAt s x.val).puz, .int .i64 (wishAt s x.val).many, .int .i64 (wishAt s x.val).hour, .int .i64 (wishAt s x.val).price, .int .i64 (wishAt s x.val).ship] 57)
    have hz : w.heap.size + 1 + 1 + 1 + 1 + 1 ≤ W.heap.size := by obtain ⟨_, _, _, _, _, h8⟩ := hi; exact h8
    exact hK _ _ (kf_below hbA) (kp_below hbA (by omega) (by omega)) (hi.next hbA) ⟨W.heap.size, hz, WBox.new rfl _ 57, rfl⟩
  case body =>
    rintro l pre x a' W hl hloop hi ⟨Bx, hBx, hwb, rfl⟩ hlen
    obtain ⟨h0, ho, hblk, hbox, hB, hz⟩ := id hi
    have hLic := licence_any s x.val W ok x.isLt ((hr.below hB).more hB.size)
    have HI := Lib.hid hi
    have Hwb := Lib.hid hwb
    obtain ⟨hBl, d0, d1, d2, d3, d4⟩ := hwb
    obtain ⟨-, c0, c1, c2, c3⟩ := hbox
    clear hi hseq x2 x3 x4 x5 x6
    gi_wp2_with fail
    refine ⟨trivial, (CallsIn.inRound l (callsIn_wide.2 hLic)).mono ?_⟩
    rintro e w1 ⟨rfl, hb1⟩
    gi_wp2_with fail
    have hz1 := hb1.size
    have hb2 := hb1.alloc hz1 (.cells #[.int .i64 (licAt s x.val).copies, .int .i64 (licAt s x.val).lo, .int .i64 (licAt s x.val).hi, .int .i64 (licAt s x.val).fee] 59)
    have hlb := LBox.new (w := w1) rfl (licAt s x.val) 59
    have hsz2 : (w1.alloc (.cells #[.int .i64 (licAt s x.val).copies, .int .i64 (licAt s x.val).lo, .int .i64 (licAt s x.val).hi, .int .i64 (licAt s x.val).fee] 59)).heap.size = w1.heap.size + 1 := by simp
    generalize hgl : w1.heap.size = Bl at *
    generalize (w1.alloc (.cells #[.int .i64 (licAt s x.val).copies, .int .i64 (licAt s x.val).lo, .int .i64 (licAt s x.val).hi, .int .i64 (licAt s x.val).fee] 59)) = W2 at *
    have hbW := (Hwb.out.next hb2)
    have hI2 := HI.out.next hb2
    have hm := ok.make _ (makeAt_mem ok x.isLt)
    have hn5 := ok.nl
    have g1 : 0 ≤ (makeAt s x.val).pic := hm.1
    have g2 : (makeAt s x.val).pic.toNat < 5 := by omega
    have g4 : (makeAt s x.val).pic < 5 := by omega
    obtain ⟨-, ho2, hblk2, hbox2, hB2, -⟩ := id hI2
    have hu := hblk2.cell _ g2
    have huf := hblk2.free (makeAt s x.val).pic.toNat
    clear ho hblk hb1 hLic d0 d1 d2 d3 d4 c0 c1 c2 c3
    obtain ⟨-, d0, d1, d2, d3, d4⟩ := id hbW
    have hub := usedF_bd s ok (l := pre.map Fin.val) (fun i hi => by obtain ⟨j, -, rfl⟩ := List.mem_map.1 hi; exact j.isLt) (by simp; omega) (makeAt s x.val).pic.toNat
    have hwo := ok.wishOk x.isLt
    have hm1 : 0 ≤ (wishAt s x.val).many ∧ (wishAt s x.val).many ≤ 1000 := by omega
    clear hwo hm
    have HS := Lib.hid (show ∀ v, (W2.drew.setCell ⟨w.heap.size + 1 + 1, (makeAt s x.val).pic.toNat, none⟩ v).cell? ⟨Bx, 1, none⟩ = some (.int .i64 (wishAt s x.val).many) from fun v => by
      rw [World.cell?_setCell_other _ _ _ _ (by intro e; injection e with e; omega)]; exact d1)
    refine region_in (S := (fun W' => W'.cell? ⟨Bx, 1, none⟩ = some (.int .i64 (wishAt s x.val).many))) (by kernel_rfl) (by kernel_rfl) ?_ (fun hHeld => ?_)
    · (try dsimp only); exact d1
    refine htake (i := 0) (v := ?v1) rfl (by kernel_rfl) (by kernel_rfl) (by kernel_rfl) (fun _ _ _ h => h) (Or.inl ⟨by rfl, ?hy1⟩) (by assumption) ?_
    case hy1 => (intro w hSw; (try dsimp only at hSw); go_simp; try (with_reducible rfl))
    try simp only [Act.put, List.setIfInBounds_toArray, List.set_cons_zero, List.set_cons_succ]
    refine htake (i := 1) (v := ?v2) rfl (by kernel_rfl) (by kernel_rfl) (by kernel_rfl) (fun _ _ _ h => h) (Or.inl ⟨by rfl, ?hy2⟩) (by assumption) ?_
    case hy2 => (intro w hSw; (try dsimp only at hSw); go_simp; try (with_reducible rfl))
    try simp only [Act.put, List.setIfInBounds_toArray, List.set_cons_zero, List.set_cons_succ]
    refine htake (i := 3) (v := ?v3) rfl (by kernel_rfl) (by kernel_rfl) (by kernel_rfl) (fun _ _ _ h => h) (Or.inl ⟨by rfl, ?hy3⟩) (by assumption) ?_
    case hy3 => (intro w hSw; (try dsimp only at hSw); go_simp; try (with_reducible rfl))
    try simp only [Act.put, List.setIfInBounds_toArray, List.set_cons_zero, List.set_cons_succ]
    refine htake (i := 4) (v := ?v4) rfl (by kernel_rfl) (by kernel_rfl) (by kernel_rfl) (fun _ _ _ h => h) (Or.inl ⟨by rfl, ?hy4⟩) (by assumption) ?_
    case hy4 => (intro w hSw; (try dsimp only at hSw); go_simp; try (with_reducible rfl))
    try simp only [Act.put, List.setIfInBounds_toArray, List.set_cons_zero, List.set_cons_succ]
    refine wpAnyH_ready (rs := [2]) (by kernel_rfl) (by simp) ?_
    refine hcons rfl (fun K hK => ?_) (AllReadyH.nil)
    go_simp
    refine hK.out _ _ ?_ (fun hHeld => ?_)
    · (try dsimp only); exact d1
    clear hK K
    try simp only [Act.put, List.setIfInBounds_toArray, List.set_cons_zero, List.set_cons_succ]
    refine htake (i := 5) (v := ?v5) rfl (by kernel_rfl) (by kernel_rfl) (by kernel_rfl) (fun _ _ _ h => h) (Or.inl ⟨by rfl, ?hy5⟩) (by assumption) ?_
    case hy5 => (intro w hSw; (try dsimp only at hSw); go_simp; try (with_reducible rfl))
    try simp only [Act.put, List.setIfInBounds_toArray, List.set_cons_zero, List.set_cons_succ]
    refine htake (i := 6) (v := ?v6) rfl (by kernel_rfl) (by kernel_rfl) (by kernel_rfl) (fun _ _ _ h => h) (Or.inl ⟨by rfl, ?hy6⟩) (by assumption) ?_
    case hy6 => (intro w hSw; (try dsimp only at hSw); go_simp; try (with_reducible rfl))
    try simp only [Act.put, List.setIfInBounds_toArray, List.set_cons_zero, List.set_cons_succ]
    refine wpAnyH_ready (rs := [7]) (by kernel_rfl) (by simp) ?_
    refine hcons rfl (fun K hK => ?_) (AllReadyH.nil)
    go_simp
    refine hK.out _ _ ?_ (fun hHeld => ?_)
    · (try dsimp only); exact HS.out _
    clear hK K
    try simp only [Act.put, List.setIfInBounds_toArray, List.set_cons_zero, List.set_cons_succ]
    refine wpAnyH_done (by kernel_rfl) ?_ _
    dsimp only [Only]
    clear hHeld
    have hwr : IntKind.i64.wrap (usedF s (pre.map Fin.val) (makeAt s x.val).pic.toNat + (wishAt s x.val).many) = usedF s (pre.map Fin.val ++ [x.val]) (makeAt s x.val).pic.toNat := by
      rw [usedF_snoc, if_pos rfl, IntKind.wrap_i64]; omega
    simp only [hwr]
    have hub3 : 0 ≤ usedF s (pre.map Fin.val ++ [x.val]) (makeAt s x.val).pic.toNat ∧ usedF s (pre.map Fin.val ++ [x.val]) (makeAt s x.val).pic.toNat ≤ 10000 := by rw [usedF_snoc, if_pos rfl]; omega
    have k3 : IBlk (W2.setCell ⟨w.heap.size + 1 + 1, (makeAt s x.val).pic.toNat, none⟩ (.int .i64 (usedF s (pre.map Fin.val ++ [x.val]) (makeAt s x.val).pic.toNat))).drew (w.heap.size + 1 + 1) 5 (usedF s (pre.map Fin.val ++ [x.val])) :=
      (hblk2.set_ (f' := usedF s (pre.map Fin.val ++ [x.val])) g2 rfl (fun i hi => by rw [usedF_snoc, if_neg (Ne.symm hi)]; omega)).drew
    have kx : WBox (W2.setCell ⟨w.heap.size + 1 + 1, (makeAt s x.val).pic.toNat, none⟩ (.int .i64 (usedF s (pre.map Fin.val ++ [x.val]) (makeAt s x.val).pic.toNat))).drew Bx (wishAt s x.val) := hbW.otherk (by omega) _ _
    have kl : LBox (W2.setCell ⟨w.heap.size + 1 + 1, (makeAt s x.val).pic.toNat, none⟩ (.int .i64 (usedF s (pre.map Fin.val ++ [x.val]) (makeAt s x.val).pic.toNat))).drew Bl (licAt s x.val) := hlb.otherk (by omega) _ _
    have kb : SBox (W2.setCell ⟨w.heap.size + 1 + 1, (makeAt s x.val).pic.toNat, none⟩ (.int .i64 (usedF s (pre.map Fin.val ++ [x.val]) (makeAt s x.val).pic.toNat))).drew w.heap.size s := (hbox2.otherk (B := w.heap.size + 1 + 1) (by omega) _ _).drew1
    have ko : Boxed (W2.setCell ⟨w.heap.size + 1 + 1, (makeAt s x.val).pic.toNat, none⟩ (.int .i64 (usedF s (pre.map Fin.val ++ [x.val]) (makeAt s x.val).pic.toNat))).drew (w.heap.size + 1) 3 (.int .i64 0) := box_otherk ho2 (by omega) _ _
    have kB : Below w.heap.size w (W2.setCell ⟨w.heap.size + 1 + 1, (makeAt s x.val).pic.toNat, none⟩ (.int .i64 (usedF s (pre.map Fin.val ++ [x.val]) (makeAt s x.val).pic.toNat))).drew := (hB2.setCell (p := ⟨w.heap.size + 1 + 1, (makeAt s x.val).pic.toNat, none⟩) (by simp; omega) _).drew
    have kK : KeepsFrom W0.heap.size W (W2.setCell ⟨w.heap.size + 1 + 1, (makeAt s x.val).pic.toNat, none⟩ (.int .i64 (usedF s (pre.map Fin.val ++ [x.val]) (makeAt s x.val).pic.toNat))).drew := (kf_below hb2).trans (((KeepsOthers.setCell _ _ _).trans (KeepsOthers.drew _)).from _)
    have kP : Kp w.heap.size (w.heap.size + 1 + 1 + 1) W (W2.setCell ⟨w.heap.size + 1 + 1, (makeAt s x.val).pic.toNat, none⟩ (.int .i64 (usedF s (pre.map Fin.val ++ [x.val]) (makeAt s x.val).pic.toNat))).drew := (kp_below hb2 (by omega) (by omega)).trans ⟨((Below.refl _ _).setCell (p := ⟨w.heap.size + 1 + 1, (makeAt s x.val).pic.toNat, none⟩) (by simp; omega) _).drew, fun o => (World.cell?_setCell_other _ _ _ _ (by intro e; injection e with e; omega))⟩
    have ks : (W2.setCell ⟨w.heap.size + 1 + 1, (makeAt s x.val).pic.toNat, none⟩ (.int .i64 (usedF s (pre.map Fin.val ++ [x.val]) (makeAt s x.val).pic.toNat))).drew.heap.size = Bl + 1 := by simpa [World.setCell] using hsz2
    generalize (W2.setCell ⟨w.heap.size + 1 + 1, (makeAt s x.val).pic.toNat, none⟩ (.int .i64 (usedF s (pre.map Fin.val ++ [x.val]) (makeAt s x.val).pic.toNat))).drew = W3 at *
    clear HS hI2 hb2 hu huf hblk2 hbox2 hB2 ho2 hbW hlb d0 d1 d2 d3 d4 hwr
    have u3 := k3.cell _ g2
    obtain ⟨-, l0, l1, l2, -⟩ := id kl
    obtain ⟨-, -, -, e2, -, -⟩ := id kx
    have Hok := Lib.hid (show okL s (pre.map Fin.val) x.val = (decide (usedF s (pre.map Fin.val ++ [x.val]) (makeAt s x.val).pic.toNat ≤ (licAt s x.val).copies) && inS (wishAt s x.val).hour (licAt s x.val).lo (licAt s x.val).hi) from rfl)
    have HH := Lib.hid h0
    have HK3 := Lib.hid k3
    clear h0 k3 kx kl
    gi_wp2_with fail
    by_cases hu : usedF s (pre.map Fin.val ++ [x.val]) (makeAt s x.val).pic.toNat ≤ (licAt s x.val).copies
    · have hd : decide (usedF s (pre.map Fin.val ++ [x.val]) (makeAt s x.val).pic.toNat ≤ (licAt s x.val).copies) = true := by simpa using hu
      refine region_in (S := (fun W' => W'.cell? ⟨w.heap.size + 1 + 1, (makeAt s x.val).pic.toNat, none⟩ = some (.int .i64 (usedF s (pre.map Fin.val ++ [x.val]) (makeAt s x.val).pic.toNat)) ∧ W'.cell? ⟨Bl, 0, none⟩ = some (.int .i64 (licAt s x.val).copies) ∧ W'.cell? ⟨Bl, 1, none⟩ = some (.int .i64 (licAt s x.val).lo) ∧ W'.cell? ⟨Bl, 2, none⟩ = some (.int .i64 (licAt s x.val).hi) ∧ W'.cell? ⟨Bx, 2, none⟩ = some (.int .i64 (wishAt s x.val).hour))) (by kernel_rfl) (by kernel_rfl) ?_ (fun hHeld => ?_)
      · (try dsimp only); exact ⟨u3, l0, l1, l2, e2⟩
      refine htake (i := 0) (v := ?v7) rfl (by kernel_rfl) (by kernel_rfl) (by kernel_rfl) (fun _ _ _ h => h) (Or.inl ⟨by rfl, ?hy7⟩) (by assumption) ?_
      case hy7 => (intro w hSw; (try dsimp only at hSw); go_simp; try (with_reducible rfl))
      try simp only [Act.put, List.setIfInBounds_toArray, List.set_cons_zero, List.set_cons_succ]
      refine htake (i := 1) (v := ?v8) rfl (by kernel_rfl) (by kernel_rfl) (by kernel_rfl) (fun _ _ _ h => h) (Or.inl ⟨by rfl, ?hy8⟩) (by assumption) ?_
      case hy8 => (intro w hSw; (try dsimp only at hSw); go_simp; try (with_reducible rfl))
      try simp only [Act.put, List.setIfInBounds_toArray, List.set_cons_zero, List.set_cons_succ]
      refine htake (i := 2) (v := ?v9) rfl (by kernel_rfl) (by kernel_rfl) (by kernel_rfl) (fun _ _ _ h => h) (Or.inl ⟨by rfl, ?hy9⟩) (by assumption) ?_
      case hy9 => (intro w hSw; (try dsimp only at hSw); go_simp; try (with_reducible rfl))
      try simp only [Act.put, List.setIfInBounds_toArray, List.set_cons_zero, List.set_cons_succ]
      refine htake (i := 3) (v := ?v10) rfl (by kernel_rfl) (by kernel_rfl) (by kernel_rfl) (fun _ _ _ h => h) (Or.inl ⟨by rfl, ?hy10⟩) (by assumption) ?_
      case hy10 => (intro w hSw; (try dsimp only at hSw); go_simp; try (with_reducible rfl))
      try simp only [Act.put, List.setIfInBounds_toArray, List.set_cons_zero, List.set_cons_succ]
      refine htake (i := 4) (v := ?v11) rfl (by kernel_rfl) (by kernel_rfl) (by kernel_rfl) (fun _ _ _ h => h) (Or.inl ⟨by rfl, ?hy11⟩) (by assumption) ?_
      case hy11 => (intro w hSw; (try dsimp only at hSw); go_simp; try (with_reducible rfl))
      try simp only [Act.put, List.setIfInBounds_toArray, List.set_cons_zero, List.set_cons_succ]
      refine htake (i := 5) (v := ?v12) rfl (by kernel_rfl) (by kernel_rfl) (by kernel_rfl) (fun _ _ _ h => h) (Or.inl ⟨by rfl, ?hy12⟩) (by assumption) ?_
      case hy12 => (intro w hSw; (try dsimp only at hSw); go_simp; try (with_reducible rfl))
      try simp only [Act.put, List.setIfInBounds_toArray, List.set_cons_zero, List.set_cons_succ]
      refine htake (i := 6) (v := ?v13) rfl (by kernel_rfl) (by kernel_rfl) (by kernel_rfl) (fun _ _ _ h => h) (Or.inl ⟨by rfl, ?hy13⟩) (by assumption) ?_
      case hy13 => (intro w hSw; (try dsimp only at hSw); go_simp; try (with_reducible rfl))
      try simp only [Act.put, List.setIfInBounds_toArray, List.set_cons_zero, List.set_cons_succ]
      refine htake (i := 7) (v := ?v14) rfl (by kernel_rfl) (by kernel_rfl) (by kernel_rfl) (fun _ _ _ h => h) (Or.inl ⟨by rfl, ?hy14⟩) (by assumption) ?_
      case hy14 => (intro w hSw; (try dsimp only at hSw); go_simp; try (with_reducible rfl))
      try simp only [Act.put, List.setIfInBounds_toArray, List.set_cons_zero, List.set_cons_succ]
      refine htake (i := 8) (v := ?v15) rfl (by kernel_rfl) (by kernel_rfl) (by kernel_rfl) (fun _ _ _ h => h) (Or.inl ⟨by rfl, ?hy15⟩) (by assumption) ?_
      case hy15 => (intro w hSw; (try dsimp only at hSw); go_simp; try (with_reducible rfl))
      try simp only [Act.put, List.setIfInBounds_toArray, List.set_cons_zero, List.set_cons_succ]
      refine htake (i := 9) (v := ?v16) rfl (by kernel_rfl) (by kernel_rfl) (by kernel_rfl) (fun _ _ _ h => h) (Or.inl ⟨by rfl, ?hy16⟩) (by assumption) ?_
      case hy16 => (intro w hSw; (try dsimp only at hSw); go_simp; try (with_reducible rfl))
      try simp only [Act.put, List.setIfInBounds_toArray, List.set_cons_zero, List.set_cons_succ]
      refine htake (i := 10) (v := ?v17) rfl (by kernel_rfl) (by kernel_rfl) (by kernel_rfl) (fun _ _ _ h => h) (Or.inl ⟨by rfl, ?hy17⟩) (by assumption) ?_
      case hy17 => (intro w hSw; (try dsimp only at hSw); go_simp; try (with_reducible rfl))
      try simp only [Act.put, List.setIfInBounds_toArray, List.set_cons_zero, List.set_cons_succ]
      refine htake (i := 11) (v := ?v18) rfl (by kernel_rfl) (by kernel_rfl) (by kernel_rfl) (fun _ _ _ h => h) (Or.inl ⟨by rfl, ?hy18⟩) (by assumption) ?_
      case hy18 => (intro w hSw; (try dsimp only at hSw); go_simp; try (with_reducible rfl))
      try simp only [Act.put, List.setIfInBounds_toArray, List.set_cons_zero, List.set_cons_succ]
      refine htake (i := 12) (v := ?v19) rfl (by kernel_rfl) (by kernel_rfl) (by kernel_rfl) (fun _ _ _ h => h) (Or.inl ⟨by rfl, ?hy19⟩) (by assumption) ?_
      case hy19 => (intro w hSw; (try dsimp only at hSw); go_simp; try (with_reducible rfl))
      try simp only [Act.put, List.setIfInBounds_toArray, List.set_cons_zero, List.set_cons_succ]
      refine wpAnyH_ready (rs := [13]) (by kernel_rfl) (by simp) ?_
      refine hcons rfl (fun K hK => ?_) (AllReadyH.nil)
      go_simp
      (with_reducible refine (within_any _ _ _ _).mono ?_); rintro e w' ⟨rfl, rfl⟩
      refine hK.out _ _ ?_ (fun hHeld => ?_)
      · (try dsimp only); exact ⟨u3, l0, l1, l2, e2⟩
      clear hK K
      try simp only [Act.put, List.setIfInBounds_toArray, List.set_cons_zero, List.set_cons_succ]
      refine htake (i := 14) (v := ?v20) rfl (by kernel_rfl) (by kernel_rfl) (by kernel_rfl) (fun _ _ _ h => h) (Or.inl ⟨by rfl, ?hy20⟩) (by assumption) ?_
      case hy20 => (intro w hSw; (try dsimp only at hSw); go_simp; try (with_reducible rfl))
      try simp only [Act.put, List.setIfInBounds_toArray, List.set_cons_zero, List.set_cons_succ]
      refine wpAnyH_done (by kernel_rfl) ?_ _
      dsimp only [Only]
      cases hin : inS (wishAt s x.val).hour (licAt s x.val).lo (licAt s x.val).hi
      · have hko := ko.cell
        have hkf := ko.frozen
        gi_wp2
        try simp only [Exit.inBlock, Exit.then]
        refine ⟨kK.trans (((KeepsOthers.drew _).trans (KeepsOthers.setCell _ _ _)).from _), rfl, x.val, fun rest => ?_, ?_, ?_⟩
        · rw [List.map_append, List.append_assoc]
          have := HH.out (x.val :: rest)
          rw [show List.map Fin.val [x] ++ rest = x.val :: rest from rfl, this]
          unfold refusedL
          rw [if_neg (by rw [Hok.out, hin]; simp)]
        · exact Boxed.set _ (show Boxed W3.drew _ _ _ from ko)
        · exact (kB.drew).setCell (p := ⟨w.heap.size + 1, 0, none⟩) (by simp) _

      · gi_wp2
        try simp only [Exit.inBlock, Exit.then]
        refine ⟨kK.trans (KeepsOthers.from (KeepsOthers.drew _) _), Kp.trans kP ⟨(Below.refl _ _).drew, fun o => rfl⟩, ?_, show Boxed W3.drew _ _ _ from ko, ?_, kb.drew1, kB.drew, ?_⟩
        · intro rest
          rw [List.map_append, List.append_assoc]
          have := HH.out (x.val :: rest)
          rw [show List.map Fin.val [x] ++ rest = x.val :: rest from rfl, this]
          conv => lhs; unfold refusedL
          rw [if_pos (by rw [Hok.out, hd, hin]; rfl)]
          rfl
        · rw [List.map_append]; exact HK3.out.drew
        · show _ ≤ W3.heap.size; omega
    · have hd : decide (usedF s (pre.map Fin.val ++ [x.val]) (makeAt s x.val).pic.toNat ≤ (licAt s x.val).copies) = false := by simpa using hu
      refine region_in (S := (fun W' => W'.cell? ⟨w.heap.size + 1 + 1, (makeAt s x.val).pic.toNat, none⟩ = some (.int .i64 (usedF s (pre.map Fin.val ++ [x.val]) (makeAt s x.val).pic.toNat)) ∧ W'.cell? ⟨Bl, 0, none⟩ = some (.int .i64 (licAt s x.val).copies) ∧ W'.cell? ⟨Bl, 1, none⟩ = some (.int .i64 (licAt s x.val).lo) ∧ W'.cell? ⟨Bl, 2, none⟩ = some (.int .i64 (licAt s x.val).hi) ∧ W'.cell? ⟨Bx, 2, none⟩ = some (.int .i64 (wishAt s x.val).hour))) (by kernel_rfl) (by kernel_rfl) ?_ (fun hHeld => ?_)
      · (try dsimp only); exact ⟨u3, l0, l1, l2, e2⟩
      refine htake (i := 0) (v := ?v21) rfl (by kernel_rfl) (by kernel_rfl) (by kernel_rfl) (fun _ _ _ h => h) (Or.inl ⟨by rfl, ?hy21⟩) (by assumption) ?_
      case hy21 => (intro w hSw; (try dsimp only at hSw); go_simp; try (with_reducible rfl))
      try simp only [Act.put, List.setIfInBounds_toArray, List.set_cons_zero, List.set_cons_succ]
      refine htake (i := 1) (v := ?v22) rfl (by kernel_rfl) (by kernel_rfl) (by kernel_rfl) (fun _ _ _ h => h) (Or.inl ⟨by rfl, ?hy22⟩) (by assumption) ?_
      case hy22 => (intro w hSw; (try dsimp only at hSw); go_simp; try (with_reducible rfl))
      try simp only [Act.put, List.setIfInBounds_toArray, List.set_cons_zero, List.set_cons_succ]
      refine htake (i := 2) (v := ?v23) rfl (by kernel_rfl) (by kernel_rfl) (by kernel_rfl) (fun _ _ _ h => h) (Or.inl ⟨by rfl, ?hy23⟩) (by assumption) ?_
      case hy23 => (intro w hSw; (try dsimp only at hSw); go_simp; try (with_reducible rfl))
      try simp only [Act.put, List.setIfInBounds_toArray, List.set_cons_zero, List.set_cons_succ]
      refine htake (i := 3) (v := ?v24) rfl (by kernel_rfl) (by kernel_rfl) (by kernel_rfl) (fun _ _ _ h => h) (Or.inl ⟨by rfl, ?hy24⟩) (by assumption) ?_
      case hy24 => (intro w hSw; (try dsimp only at hSw); go_simp; try (with_reducible rfl))
      try simp only [Act.put, List.setIfInBounds_toArray, List.set_cons_zero, List.set_cons_succ]
      refine htake (i := 4) (v := ?v25) rfl (by kernel_rfl) (by kernel_rfl) (by kernel_rfl) (fun _ _ _ h => h) (Or.inl ⟨by rfl, ?hy25⟩) (by assumption) ?_
      case hy25 => (intro w hSw; (try dsimp only at hSw); go_simp; try (with_reducible rfl))
      try simp only [Act.put, List.setIfInBounds_toArray, List.set_cons_zero, List.set_cons_succ]
      refine htake (i := 5) (v := ?v26) rfl (by kernel_rfl) (by kernel_rfl) (by kernel_rfl) (fun _ _ _ h => h) (Or.inl ⟨by rfl, ?hy26⟩) (by assumption) ?_
      case hy26 => (intro w hSw; (try dsimp only at hSw); go_simp; try (with_reducible rfl))
      try simp only [Act.put, List.setIfInBounds_toArray, List.set_cons_zero, List.set_cons_succ]
      refine htake (i := 6) (v := ?v27) rfl (by kernel_rfl) (by kernel_rfl) (by kernel_rfl) (fun _ _ _ h => h) (Or.inl ⟨by rfl, ?hy27⟩) (by assumption) ?_
      case hy27 => (intro w hSw; (try dsimp only at hSw); go_simp; try (with_reducible rfl))
      try simp only [Act.put, List.setIfInBounds_toArray, List.set_cons_zero, List.set_cons_succ]
      refine htake (i := 7) rfl (by kernel_rfl) (by kernel_rfl) (by kernel_rfl) (fun _ _ _ h => h) (Or.inr ⟨by rfl, rfl⟩) (by assumption) ?_
      try simp only [Act.put, List.setIfInBounds_toArray, List.set_cons_zero, List.set_cons_succ]
      refine htake (i := 8) rfl (by kernel_rfl) (by kernel_rfl) (by kernel_rfl) (fun _ _ _ h => h) (Or.inr ⟨by rfl, rfl⟩) (by assumption) ?_
      try simp only [Act.put, List.setIfInBounds_toArray, List.set_cons_zero, List.set_cons_succ]
      refine htake (i := 9) rfl (by kernel_rfl) (by kernel_rfl) (by kernel_rfl) (fun _ _ _ h => h) (Or.inr ⟨by rfl, rfl⟩) (by assumption) ?_
      try simp only [Act.put, List.setIfInBounds_toArray, List.set_cons_zero, List.set_cons_succ]
      refine htake (i := 10) rfl (by kernel_rfl) (by kernel_rfl) (by kernel_rfl) (fun _ _ _ h => h) (Or.inr ⟨by rfl, rfl⟩) (by assumption) ?_
      try simp only [Act.put, List.setIfInBounds_toArray, List.set_cons_zero, List.set_cons_succ]
      refine htake (i := 11) rfl (by kernel_rfl) (by kernel_rfl) (by kernel_rfl) (fun _ _ _ h => h) (Or.inr ⟨by rfl, rfl⟩) (by assumption) ?_
      try simp only [Act.put, List.setIfInBounds_toArray, List.set_cons_zero, List.set_cons_succ]
      refine htake (i := 12) rfl (by kernel_rfl) (by kernel_rfl) (by kernel_rfl) (fun _ _ _ h => h) (Or.inr ⟨by rfl, rfl⟩) (by assumption) ?_
      try simp only [Act.put, List.setIfInBounds_toArray, List.set_cons_zero, List.set_cons_succ]
      refine htake (i := 13) rfl (by kernel_rfl) (by kernel_rfl) (by kernel_rfl) (fun _ _ _ h => h) (Or.inr ⟨by rfl, rfl⟩) (by assumption) ?_
      try simp only [Act.put, List.setIfInBounds_toArray, List.set_cons_zero, List.set_cons_succ]
      refine htake (i := 14) (v := ?v28) rfl (by kernel_rfl) (by kernel_rfl) (by kernel_rfl) (fun _ _ _ h => h) (Or.inl ⟨by rfl, ?hy28⟩) (by assumption) ?_
      case hy28 => (intro w hSw; (try dsimp only at hSw); go_simp; try (with_reducible rfl))
      try simp only [Act.put, List.setIfInBounds_toArray, List.set_cons_zero, List.set_cons_succ]
      refine wpAnyH_done (by kernel_rfl) ?_ _
      dsimp only [Only]
      have hko := ko.cell
      have hkf := ko.frozen
      gi_wp2
      try simp only [Exit.inBlock, Exit.then]
      rw [hsz] at kK
      refine ⟨kK.trans (((KeepsOthers.setCell _ _ _).trans (KeepsOthers.drew _)).from _), rfl, x.val, fun rest => ?_, ?_, ?_⟩
      · rw [List.map_append, List.append_assoc]
        have := HH.out (x.val :: rest)
        rw [show List.map Fin.val [x] ++ rest = x.val :: rest from rfl, this]
        unfold refusedL
        rw [if_neg (by rw [Hok.out, hd]; simp)]
      · exact show Boxed (W3.setCell _ _) _ _ _ from Boxed.set _ ko
      · exact (kB.setCell (p := ⟨w.heap.size + 1, 0, none⟩) (by simp) _).drew
  case done =>
    rintro D xs W hD hS ⟨h0, ho, hblk, hbox, hB, hz⟩ hK
    have ho' := ho.cell
    have hof := ho.frozen
    clear hseq hbox x2 x3 x4 x5 x6 a4 hr
    gi_wp2
    have hK2 := (KeepsOthers.setCell W ⟨w.heap.size + 1, 0, none⟩ (.int .i64 (-1))).same D _ hK rfl
    have hB2 := hB.setCell (p := ⟨w.heap.size + 1, 0, none⟩) (by simp) (.int .i64 (-1))
    have hE : refusedL s [] (bitsOf set) = -1 := by have := h0 []; rw [List.append_nil, hS] at this; rw [this]; rfl
    simp only [Exit.noGoto]
    refine ⟨by simp, .inl ⟨_, _, rfl, run_takeDeferred hK2, ?_⟩⟩
    refine ⟨_, results_cell1 rfl rfl (load3 (cell_kept (ho.set (.int .i64 (-1))).cell (grownBy_putObj' _ D (.deferred none)) (fun r e => by cases e; exact ⟨_, hK2, rfl⟩))), ?_⟩
    rw [hE]
    exact ⟨rfl, hB2.trans (belowK_b (w := w) (Nat.le_refl _) _ D _ _ (by omega) hK2 rfl rfl)⟩
  case stop =>
    rintro D c pre W hD hpre ⟨rfl, i, hi, ho, hB⟩ hK
    have ho' := ho.cell
    gi_wp2
    obtain ⟨r, hr2⟩ := hpre
    have hE : refusedL s [] (bitsOf set) = i := by rw [← hr2]; exact hi r
    simp only [Exit.noGoto]
    refine ⟨by simp, .inl ⟨_, _, rfl, run_takeDeferred hK, ?_⟩⟩
    refine ⟨_, results_cell1 rfl rfl (load3 (cell_kept ho' (grownBy_putObj' _ D (.deferred none)) (fun r e => by cases e; exact ⟨_, hK, rfl⟩))), ?_⟩
    rw [hE]
    exact ⟨rfl, hB.trans (belowK_b (w := w) (Nat.le_refl _) _ D _ _ (by omega) hK rfl rfl)⟩
end Go.Proofs.YtfffhbolaimmdaaDoor
