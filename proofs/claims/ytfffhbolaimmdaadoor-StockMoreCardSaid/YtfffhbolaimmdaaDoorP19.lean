import Derived.Test.YtfffhbolaimmdaaDoorP18
import Derived.Scope
import Derived.Shelf.Abstract
namespace Go.Proofs.YtfffhbolaimmdaaDoor
open Go.RowKit
attribute [local go_sem] Oper.semAt_some
theorem gain_bits {s : Store} {set : Nat} (ok : Ok s) (hlt : set < 2 ^ s.wishes.length) : sumL (bitsOf set) (bringS s) = gainTo s set s.wishes.length := by
  rw [sumL_bits ok.nw hlt]
  unfold gainTo
  refine sumTo_congr fun i _ => ?_
  split
  · unfold bringS bring1 bring2
    rw [Int.mul_sub, Int.neg_mul]
    omega
  · rfl
theorem pay_cost (s : Store) (sel : Sheet → Int) (set : Nat) : sumTo s.sheets.length (payF s sel (takeS s set)) = costTo s set (fun k => sel (sheetAt s k)) s.sheets.length := by
  unfold costTo
  refine sumTo_congr fun k _ => ?_
  unfold payF
  rw [Int.mul_comm]; rfl
theorem results_cell_tmp {fn : Func} {p t : Tmp} {ty : TypeId} (h : fn.results = #[.cell p ty, .tmp t]) {tmps : Array Value} {P : Program} {w : World} {a : Addr} {v : Value} (hp : tmps.getD p undef = .pointer (some a)) (hv : (loadVar ty a).run P w = .ok v w) :
    (results fn tmps).run P w = .ok (.tuple #[v, tmps.getD t undef]) w := by
  have hp' : tmps[p]?.getD undef = .pointer (some a) := by simpa using hp
  simp [results, h, hp', asAddr, hv, Result.andThen]
theorem load44 {w : World} {b : Nat} {x y : Int} (h0 : w.cell? ⟨b, 0, none⟩ = some (.int .i64 x)) (h1 : w.cell? ⟨b, 1, none⟩ = some (.int .i64 y)) : (loadVar 44 ⟨b, 0, none⟩).run Tryd.prog w = .ok (.agg #[.int .i64 x, .int .i64 y]) w := by
  go_simp
theorem accepted_check {s : Store} {st : Int} (hc : acceptedS s st = 0) : checkS s st = 0 := by
  by_cases h : checkS s st = 0
  · exact h
  · unfold acceptedS at hc; rw [if_neg h] at hc; exact hc
/-- Between two rounds: the sum so far in its box. -/
def PfI (s : Store) (w1 : World) (pre : List (Fin s.wishes.length)) (W : World) : Prop := Boxed W (w1.heap.size + 1) 3 (.int .i64 (sumL (pre.map Fin.val) (bringS s))) ∧ SBox W w1.heap.size s ∧ Below w1.heap.size w1 W ∧ w1.heap.size + 1 + 1 + 1 + 1 ≤ W.heap.size
theorem PfI.own (s : Store) (w1 : World) {B : Nat} (hB : w1.heap.size ≤ B) : OwnFrom B (PfI s w1) := by
  rintro pre W W' row ⟨h1, h6, h7, h8⟩ hg hr
  have hr' : ∀ r, row = some r → ∃ o : Obj, W.heap[r]? = some o ∧ o.isCells = false := fun r e => (hr r e).2
  exact ⟨boxed_own (β := Unit) _ _ (fun _ => _) () W W' row h1 hg hr', h6.nc hg hr', h7.grown hg h7.size (fun k e => Nat.le_trans hB (hr k e).1), Nat.le_trans h8 hg.size⟩
theorem PfI.next {s : Store} {w1 : World} {pre : List (Fin s.wishes.length)} {W W' : World} (h : PfI s w1 pre W) (hb : Below W.heap.size W W') : PfI s w1 pre W' := by
  obtain ⟨h1, h6, h7, h8⟩ := h
  exact ⟨box_next h1 hb, h6.next hb, h7.trans (hb.mono h7.size), Nat.le_trans h8 hb.size⟩
theorem SBox.nth {W : World} {b B : Nat} {s : Store} (h : SBox W b s) (hne : b ≠ B) (j : Nat) (v : Value) : SBox (W.setCell ⟨B, j, none⟩ v) b s := h.otherk hne j v
theorem WBox.nth {W : World} {b B : Nat} {x : Wish} (h : WBox W b x) (hne : b ≠ B) (j : Nat) (v : Value) : WBox (W.setCell ⟨B, j, none⟩ v) b x :=
  have k : ∀ o, (W.setCell ⟨B, j, none⟩ v).cell? ⟨b, o, none⟩ = W.cell? ⟨b, o, none⟩ := fun o => World.cell?_setCell_other _ _ _ _ (by intro e; injection e with e; exact hne e.symm)
  ⟨by simpa [World.setCell] using h.lt, (k 0).trans h.c0, (k 1).trans h.c1, (k 2).trans h.c2, (k 3).trans h.c3, (k 4).trans h.c4⟩
theorem nine {W : World} {b B : Nat} {s : Store} {x : Wish} (h : SBox W b s) (k : WBox W B x) : W.cell? ⟨b, 0, none⟩ = some (.slice s.A1 s.sheets.length s.c1) ∧ W.cell? ⟨b, 1, none⟩ = some (.slice s.A2 s.lics.length s.c2) ∧ W.cell? ⟨b, 2, none⟩ = some (.slice s.A3 s.makes.length s.c3) ∧ W.cell? ⟨b, 3, none⟩ = some (.slice s.A4 s.wishes.length s.c4) ∧ W.cell? ⟨B, 0, none⟩ = some (.int .i64 x.puz) ∧ W.cell? ⟨B, 1, none⟩ = some (.int .i64 x.many) ∧ W.cell? ⟨B, 2, none⟩ = some (.int .i64 x.hour) ∧ W.cell? ⟨B, 3, none⟩ = some (.int .i64 x.price) ∧ W.cell? ⟨B, 4, none⟩ = some (.int .i64 x.ship) :=
  ⟨h.c0, h.c1, h.c2, h.c3, k.c0, k.c1, k.c2, k.c3, k.c4⟩
theorem five {W : World} {b : Nat} {p : Addr} {v : Value} {s : Store} (h : SBox W b s) (k : W.cell? p = some v) : W.cell? ⟨b, 0, none⟩ = some (.slice s.A1 s.sheets.length s.c1) ∧ W.cell? ⟨b, 1, none⟩ = some (.slice s.A2 s.lics.length s.c2) ∧ W.cell? ⟨b, 2, none⟩ = some (.slice s.A3 s.makes.length s.c3) ∧ W.cell? ⟨b, 3, none⟩ = some (.slice s.A4 s.wishes.length s.c4) ∧ W.cell? p = some v := ⟨h.c0, h.c1, h.c2, h.c3, k⟩
theorem WBox.drew1 {w : World} {b : Nat} {x : Wish} (h : WBox w b x) : WBox w.drew b x := ⟨h.lt, h.c0, h.c1, h.c2, h.c3, h.c4⟩
theorem bringL_bd {s : Store} (ok : Ok s) {l : List Nat} (h : ∀ i ∈ l, i < s.wishes.length) (hl : l.length ≤ 9) : -1000000000 ≤ sumL l (bringS s) ∧ sumL l (bringS s) ≤ 1000000000 := by
  have hb := sumL_bd (l := l) (f := bringS s) (lo := -11000000) (hi := 11000000) (fun i hi => by
    obtain ⟨h1, h2, h3⟩ := bring_bd ok (h i hi)
    unfold bringS; omega)
  omega
set_option maxRecDepth 100000 in
set_option maxHeartbeats 1000000 in
theorem Profit23_any (s : Store) (st : Int) (w : World) (hr : StoreAt w w.heap.size s) (he : Env w) :
    Calls Tryd.prog 23 #[.agg #[.slice s.A1 s.sheets.length s.c1, .slice s.A2 s.lics.length s.c2, .slice s.A3 s.makes.length s.c3, .slice s.A4 s.wishes.length s.c4], .int .i64 st] w (RetP (profitS s st) (acceptedS s st) w) := by
  have hb0 := ((Below.refl w.heap.size w).alloc (Nat.le_refl _) (.cells #[.slice s.A1 s.sheets.length s.c1, .slice s.A2 s.lics.length s.c2, .slice s.A3 s.makes.length s.c3, .slice s.A4 s.wishes.length s.c4] 27)).alloc (by simp) (.cells #[.int .i64 0, .int .i64 0] 44)
  have hr' := Lib.hid (hr.next hb0)
  have he' := Lib.hid (he.next hb0)
  have HR := Lib.hid hr
  have HE := Lib.hid he
  have hbb := Lib.hid hb0
  have p0 : ((w.alloc (.cells #[.slice s.A1 s.sheets.length s.c1, .slice s.A2 s.lics.length s.c2, .slice s.A3 s.makes.length s.c3, .slice s.A4 s.wishes.length s.c4] 27)).alloc (.cells #[.int .i64 0, .int .i64 0] 44)).cell? ⟨w.heap.size + 1, 0, none⟩ = some (.int .i64 0) := by simp [go_sem]
  have p1 : ((w.alloc (.cells #[.slice s.A1 s.sheets.length s.c1, .slice s.A2 s.lics.length s.c2, .slice s.A3 s.makes.length s.c3, .slice s.A4 s.wishes.length s.c4] 27)).alloc (.cells #[.int .i64 0, .int .i64 0] 44)).cell? ⟨w.heap.size + 1, 1, none⟩ = some (.int .i64 0) := by simp [go_sem]
  have pf : ∀ j, ((w.alloc (.cells #[.slice s.A1 s.sheets.length s.c1, .slice s.A2 s.lics.length s.c2, .slice s.A3 s.makes.length s.c3, .slice s.A4 s.wishes.length s.c4] 27)).alloc (.cells #[.int .i64 0, .int .i64 0] 44)).frozen? ⟨w.heap.size + 1, j, none⟩ = false := fun j => by simp [go_sem]
  clear hr he hb0
  refine (callsIn_wide (n := 6)).1 ?_
  refine callsIn_of_wp_marks Tryd.func23 rfl trivial ?_ rfl
  simp only [Tryd.ntmps23, List.size_toArray, List.length_cons, List.length_nil, Nat.reduceAdd, Nat.reduceSub, Array.replicate_succ, Array.replicate_zero, List.push_toArray, List.append_toArray, List.nil_append, List.cons_append]
  gi_wp2_with fail
  refine ⟨trivial, (callsIn_wide.2 (open_any s st true _ hr'.out he'.out)).mono ?_⟩
  rintro e w1 ⟨rfl, hb1⟩
  rw [openE_true, openR_true]
  have hq : w.heap.size + 1 < w1.heap.size := by have := hb1.size; simp at this; omega
  have q0 := (hb1.cell (p := ⟨w.heap.size + 1, 0, none⟩) (by simp)).trans p0
  have q1 := (hb1.cell (p := ⟨w.heap.size + 1, 1, none⟩) (by simp)).trans p1
  have qf := fun j => (hb1.frozen (p := ⟨w.heap.size + 1, j, none⟩) (by simp)).trans (pf j)
  have f0 := qf 0
  have f1 := qf 1
  have Hbb := Lib.hid (hbb.out.trans (hb1.mono hbb.out.size))
  clear hb1 hr' he' hbb p0 p1 pf qf
  generalize mayS s st = mm
  by_cases hc : acceptedS s st = 0
  · obtain ⟨ok, h0, h1⟩ := accepted_ok (.inl hc)
    obtain ⟨set, rfl⟩ := Int.eq_ofNat_of_zero_le h0
    have hlt := set_lt h1
    have h3 := ok.ns
    have He := Lib.hid (show RetP (profitS s (set : Int)) (acceptedS s (set : Int)) w = RetP (gainS s set (loAt s), gainS s set (hiAt s)) 0 w by unfold profitS; rw [hc]; rfl)
    rw [openB_yes (accepted_check hc)]
    simp only [hc]
    clear hc
    gi_wp2_with fail
    refine ⟨trivial, (callsIn_wide.2 (orders_any s set _)).mono ?_⟩
    rintro e w' ⟨rfl, rfl⟩
    gi_wp2_with fail
    have a0 := (Below.refl w1.heap.size w1).alloc (Nat.le_refl _) (.cells #[.slice s.A1 s.sheets.length s.c1, .slice s.A2 s.lics.length s.c2, .slice s.A3 s.makes.length s.c3, .slice s.A4 s.wishes.length s.c4] 72)
    have a1 := a0.alloc a0.size (.cells #[.int .i64 0] 3)
    have a2 := a1.alloc a1.size (.cells #[.slice s.A1 s.sheets.length s.c1, .slice s.A2 s.lics.length s.c2, .slice s.A3 s.makes.length s.c3, .slice s.A4 s.wishes.length s.c4] 72)
    have a4 := a2.alloc a2.size (.cells #[.int .i64 set] 3)
    have hsz : ((((w1.alloc (.cells #[.slice s.A1 s.sheets.length s.c1, .slice s.A2 s.lics.length s.c2, .slice s.A3 s.makes.length s.c3, .slice s.A4 s.wishes.length s.c4] 72)).alloc (.cells #[.int .i64 0] 3)).alloc (.cells #[.slice s.A1 s.sheets.length s.c1, .slice s.A2 s.lics.length s.c2, .slice s.A3 s.makes.length s.c3, .slice s.A4 s.wishes.length s.c4] 72)).alloc (.cells #[.int .i64 set] 3)).heap.size = w1.heap.size + 1 + 1 + 1 + 1 := by simp
    have x2 := (((SBox.new w1 s 72).next ((Below.refl _ _).alloc (Nat.le_refl _) (.cells #[.int .i64 0] 3))).next ((Below.refl _ _).alloc (Nat.le_refl _) (.cells #[.slice s.A1 s.sheets.length s.c1, .slice s.A2 s.lics.length s.c2, .slice s.A3 s.makes.length s.c3, .slice s.A4 s.wishes.length s.c4] 72))).next ((Below.refl _ _).alloc (Nat.le_refl _) (.cells #[.int .i64 set] 3))
    have x3 := (SBox.new ((w1.alloc (.cells #[.slice s.A1 s.sheets.length s.c1, .slice s.A2 s.lics.length s.c2, .slice s.A3 s.makes.length s.c3, .slice s.A4 s.wishes.length s.c4] 72)).alloc (.cells #[.int .i64 0] 3)) s 72).next ((Below.refl _ _).alloc (Nat.le_refl _) (.cells #[.int .i64 set] 3))
    have x4 : ((((w1.alloc (.cells #[.slice s.A1 s.sheets.length s.c1, .slice s.A2 s.lics.length s.c2, .slice s.A3 s.makes.length s.c3, .slice s.A4 s.wishes.length s.c4] 72)).alloc (.cells #[.int .i64 0] 3)).alloc (.cells #[.slice s.A1 s.sheets.length s.c1, .slice s.A2 s.lics.length s.c2, .slice s.A3 s.makes.length s.c3, .slice s.A4 s.wishes.length s.c4] 72)).alloc (.cells #[.int .i64 set] 3)).cell? ⟨w1.heap.size + 1 + 1 + 1, 0, none⟩ = some (.int .i64 set) := by simp [go_sem]
    have x5 := (Boxed.new (w1.alloc (.cells #[.slice s.A1 s.sheets.length s.c1, .slice s.A2 s.lics.length s.c2, .slice s.A3 s.makes.length s.c3, .slice s.A4 s.wishes.length s.c4] 72)) 3 (.int .i64 0)).alloc (.cells #[.slice s.A1 s.sheets.length s.c1, .slice s.A2 s.lics.length s.c2, .slice s.A3 s.makes.length s.c3, .slice s.A4 s.wishes.length s.c4] 72) |>.alloc (.cells #[.int .i64 set] 3)
    simp only [World.size_alloc] at x5 x3
    generalize ((((w1.alloc (.cells #[.slice s.A1 s.sheets.length s.c1, .slice s.A2 s.lics.length s.c2, .slice s.A3 s.makes.length s.c3, .slice s.A4 s.wishes.length s.c4] 72)).alloc (.cells #[.int .i64 0] 3)).alloc (.cells #[.slice s.A1 s.sheets.length s.c1, .slice s.A2 s.lics.length s.c2, .slice s.A3 s.makes.length s.c3, .slice s.A4 s.wishes.length s.c4] 72)).alloc (.cells #[.int .i64 set] 3)) = W0 at *
    clear a0 a1 a2
    have HbW0 := Lib.hid (Hbb.out.trans (a4.mono Hbb.out.size))
    have hseq := orders1_stops 5 (by omega) s set w1.heap.size (w1.heap.size + 1 + 1) (w1.heap.size + 1 + 1 + 1) W0 ok hlt (by omega) x4 ⟨by omega, (HR.out.below HbW0.out).more Hbb.out.size, x3, by have := (HE.out.next Hbb.out).lt; omega, HE.out.next HbW0.out⟩
    refine wpIn_rangeFunc_ownH rfl (by omega) (gf := 65) (lb := #[.pointer (some ⟨w1.heap.size + 1 + 1 + 1, 0, none⟩), .pointer (some ⟨w1.heap.size + 1 + 1, 0, none⟩)]) rfl trivial (enters_of Tryd.func65 (by kernel_rfl) rfl)
      hseq (fun h k => Kp.trans h k) (Kp.put (by omega) (by omega)) (Below.refl _ _) (fun _ => rfl)
      (PfI s w1) (fun _ _ _ => False) (PfI.own s w1 (by omega)) (fun _ _ _ _ _ h _ _ => h) ⟨x5, x2, a4, by omega⟩
      (fun x a' W => ∃ Bx, w1.heap.size + 1 + 1 + 1 + 1 ≤ Bx ∧ WBox W Bx (wishAt s x.val) ∧ a' = { tmps := #[.agg #[.slice s.A1 s.sheets.length s.c1, .slice s.A2 s.lics.length s.c2, .slice s.A3 s.makes.length s.c3, .slice s.A4 s.wishes.length s.c4], .int .i64 set, .pointer (some ⟨w.heap.size, 0, none⟩), undef, .pointer (some ⟨w.heap.size + 1, 0, none⟩), .int .i64 0, .pointer (some ⟨w1.heap.size, 0, none⟩), .int .i64 mm, .int .i64 0, .pointer (some ⟨w1.heap.size + 1, 0, none⟩), undef, .pointer (some ⟨Bx, 0, none⟩), undef, .tuple #[.agg #[.slice s.A1 s.sheets.length s.c1, .slice s.A2 s.lics.length s.c2, .slice s.A3 s.makes.length s.c3, .slice s.A4 s.wishes.length s.c4], .int .i64 mm, .int .i64 0], .agg #[.slice s.A1 s.sheets.length s.c1, .slice s.A2 s.lics.length s.c2, .slice s.A3 s.makes.length s.c3, .slice s.A4 s.wishes.length s.c4], .int .i64 set, .tuple #[.agg #[.slice s.A1 s.sheets.length s.c1, .slice s.A2 s.lics.length s.c2, .slice s.A3 s.makes.length s.c3, .slice s.A4 s.wishes.length s.c4], .int .i64 mm, .int .i64 0], .agg #[.slice s.A1 s.sheets.length s.c1, .slice s.A2 s.lics.length s.c2, .slice s.A3 s.makes.length s.c3, .slice s.A4 s.wishes.length s.c4], .int .i64 mm, .int .i64 0, .int .i64 0, .bool false, undef, undef, .agg #[.slice s.A1 s.sheets.length s.c1, .slice s.A2 s.lics.length s.c2, .slice s.A3 s.makes.length s.c3, .slice s.A4 s.wishes.length s.c4], .int .i64 set, .func (.func 65) #[] #[.pointer (some ⟨w1.heap.size + 1 + 1 + 1, 0, none⟩), .pointer (some ⟨w1.heap.size + 1 + 1, 0, none⟩)], .int .i64 (x.val : Nat), .agg #[.int .i64 (wishAt s x.val).puz, .int .i64 (wishAt s x.val).many, .int .i64 (wishAt s x.val).hour, .int .i64 (wishAt s x.val).price, .int .i64 (wishAt s x.val).ship], undef, undef, undef, undef, undef, undef, undef, undef, undef, undef, undef, undef, undef, undef, undef, undef, undef, undef, undef, undef, undef, undef], defers := [] })
      (fun x a' _ W W' row ⟨Bx, h1, h2, h3⟩ hg hr => ⟨Bx, h1, h2.nc hg (fun r e => (hr r e).2), h3⟩)
      ?assign ?body ?done ?stop
    case assign =>
      rintro l pre x W K hi hK
      dsimp only [encI]
      gi_wp2
      have hbA := (Below.refl W.heap.size W).alloc (Nat.le_refl _) (.cells #[.int .i64 (wishAt s x.val).puz, .int .i64 (wishAt s x.val).many, .int .i64 (wishAt s x.val).hour, .int .i64 (wishAt s x.val).price, .int .i64 (wishAt s x.val).ship] 57)
      have hz : w1.heap.size + 1 + 1 + 1 + 1 ≤ W.heap.size := by obtain ⟨_, _, _, h8⟩ := hi; exact h8
      exact hK _ _ (kf_below hbA) (kp_below hbA (by omega) (by omega)) (hi.next hbA) ⟨W.heap.size, hz, WBox.new rfl _ 57, rfl⟩
    case body =>
      rintro l pre x a' W hl hloop hi ⟨Bx, hBx, hwb, rfl⟩ hlen
      obtain ⟨ho, hbox, hB, hz⟩ := id hi
      have HI := Lib.hid hi
      have HX := Lib.hid hbox
      have HW := Lib.hid hwb
      have hBl := hwb.lt
      have hbw := Hbb.out.trans (hB.mono Hbb.out.size)
      have Hr := Lib.hid ((HR.out.below hbw).more hbw.size)
      have HBr := Lib.hid (show ∀ W', Below W.heap.size W W' → Calls Tryd.prog 47 #[.agg #[.slice s.A1 s.sheets.length s.c1, .slice s.A2 s.lics.length s.c2, .slice s.A3 s.makes.length s.c3, .slice s.A4 s.wishes.length s.c4], .agg #[.int .i64 (wishAt s x.val).puz, .int .i64 (wishAt s x.val).many, .int .i64 (wishAt s x.val).hour, .int .i64 (wishAt s x.val).price, .int .i64 (wishAt s x.val).ship]] W' (Ret (.int .i64 (bringS s x.val)) W') from fun W' h => brings_any s x.val W' ok x.isLt (Hr.out.next h))
      have hon := ho.cell
      have hof := ho.frozen
      have hbl := bringL_bd ok (l := pre.map Fin.val) (fun i hi => by obtain ⟨j, -, rfl⟩ := List.mem_map.1 hi; exact j.isLt) (by simp; omega)
      have hbx := bringL_bd ok (l := [x.val]) (fun i hi => by simp at hi; subst hi; exact x.isLt) (by simp)
      rw [show sumL [x.val] (bringS s) = bringS s x.val by simp [sumL]] at hbx
      have Hsum := Lib.hid (fun (W : World) (g : Nat) (hg : g = W.heap.size) => sum_any (some ⟨g, 0, none⟩) 2 2 _ (two (sumL (pre.map Fin.val) (bringS s)) (bringS s x.val)) (W.alloc (.cells #[.int .i64 (sumL (pre.map Fin.val) (bringS s)), .int .i64 (bringS s x.val)] 3)) (by omega) (at2 hg rfl rfl) (two_bd (by omega) (by omega)))
      have E2 := Lib.hid (sum_two (sumL (pre.map Fin.val) (bringS s)) (bringS s x.val))
      have Ho := Lib.hid ho
      have HB := Lib.hid hB
      clear hi hwb hbox hB hbw x2 x3 x4 x5 hseq a4 q0 q1 f0 f1 ho hbl hbx
      gi_wp2_with fail
      refine region_in (S := (fun W' => W'.cell? ⟨w1.heap.size, 0, none⟩ = some (.slice s.A1 s.sheets.length s.c1) ∧ W'.cell? ⟨w1.heap.size, 1, none⟩ = some (.slice s.A2 s.lics.length s.c2) ∧ W'.cell? ⟨w1.heap.size, 2, none⟩ = some (.slice s.A3 s.makes.length s.c3) ∧ W'.cell? ⟨w1.heap.size, 3, none⟩ = some (.slice s.A4 s.wishes.length s.c4) ∧ W'.cell? ⟨Bx, 0, none⟩ = some (.int .i64 (wishAt s x.val).puz) ∧ W'.cell? ⟨Bx, 1, none⟩ = some (.int .i64 (wishAt s x.val).many) ∧ W'.cell? ⟨Bx, 2, none⟩ = some (.int .i64 (wishAt s x.val).hour) ∧ W'.cell? ⟨Bx, 3, none⟩ = some (.int .i64 (wishAt s x.val).price) ∧ W'.cell? ⟨Bx, 4, none⟩ = some (.int .i64 (wishAt s x.val).ship))) (by kernel_rfl) (by kernel_rfl) ?_ (fun hHeld => ?_)
      · (try dsimp only); exact nine HX.out.drew1 HW.out.drew1
      refine htake (i := 1) (v := ?v1) rfl (by kernel_rfl) (by kernel_rfl) (by kernel_rfl) (fun _ _ _ h => h) (Or.inl ⟨by rfl, ?hy1⟩) (by assumption) ?_
      case hy1 => (intro w hSw; (try dsimp only at hSw); go_simp; try (with_reducible rfl))
      try simp only [Act.put, List.setIfInBounds_toArray, List.set_cons_zero, List.set_cons_succ]
      refine htake (i := 2) (v := ?v2) rfl (by kernel_rfl) (by kernel_rfl) (by kernel_rfl) (fun _ _ _ h => h) (Or.inl ⟨by rfl, ?hy2⟩) (by assumption) ?_
      case hy2 => (intro w hSw; (try dsimp only at hSw); go_simp; try (with_reducible rfl))
      try simp only [Act.put, List.setIfInBounds_toArray, List.set_cons_zero, List.set_cons_succ]
      refine wpAnyH_ready (rs := [0, 3]) (by kernel_rfl) (by simp) ?_
      refine hcons rfl (fun K hK => ?_) (hcons rfl (fun K hK => ?_) (AllReadyH.nil))
      go_simp
      refine hK.out _ _ ?_ (fun hHeld => ?_)
      · (try dsimp only); first | exact nine HX.out.drew1 HW.out.drew1 | exact nine (HX.out.next hk2) (HW.out.next hk2)
      clear hK K
      try simp only [Act.put, List.setIfInBounds_toArray, List.set_cons_zero, List.set_cons_succ]
      refine wpAnyH_ready (rs := [3]) (by kernel_rfl) (by simp) ?_
      refine hcons rfl (fun K hK => ?_) (AllReadyH.nil)
      go_simp
      (with_reducible refine (HBr.out _ (Below.refl _ _).drew).mono ?_); rintro e w2 ⟨rfl, hb2⟩; have hk2 : Below W.heap.size W w2 := (Below.refl _ _).drew.trans hb2; have hon2 := ((bcell hk2).1 (w1.heap.size + 1) 0 (by omega)).trans hon; have hof2 := ((bcell hk2).2 (w1.heap.size + 1) 0 (by omega)).trans hof; have hz2 := hk2.size; have hz3 : w1.heap.size + 1 < w2.heap.size := by omega
      refine hK.out _ _ ?_ (fun hHeld => ?_)
      · (try dsimp only); exact nine (HX.out.next hk2) (HW.out.next hk2)
      clear hK K
      try simp only [Act.put, List.setIfInBounds_toArray, List.set_cons_zero, List.set_cons_succ]
      refine wpAnyH_ready (rs := [4]) (by kernel_rfl) (by simp) ?_
      refine hcons rfl (fun K hK => ?_) (AllReadyH.nil)
      go_simp
      refine hK.out _ _ ?_ (fun hHeld => ?_)
      · (try dsimp only); exact nine ((HX.out.next hk2).next ((Below.refl _ _).alloc (Nat.le_refl _) _)) ((HW.out.next hk2).next ((Below.refl _ _).alloc (Nat.le_refl _) _))
      clear hK K
      try simp only [Act.put, List.setIfInBounds_toArray, List.set_cons_zero, List.set_cons_succ]
      refine wpAnyH_ready (rs := [5]) (by kernel_rfl) (by simp) ?_
      refine hcons rfl (fun K hK => ?_) (AllReadyH.nil)
      go_simp
      (with_reducible refine (Hsum.out w2 _ rfl).mono ?_); rintro e w5 ⟨rfl, rfl⟩; rw [E2.out]
      refine hK.out _ _ ?_ (fun hHeld => ?_)
      · (try dsimp only); exact nine ((HX.out.next hk2).next ((Below.refl _ _).alloc (Nat.le_refl _) _)) ((HW.out.next hk2).next ((Below.refl _ _).alloc (Nat.le_refl _) _))
      clear hK K
      try simp only [Act.put, List.setIfInBounds_toArray, List.set_cons_zero, List.set_cons_succ]
      refine wpAnyH_ready (rs := [6]) (by kernel_rfl) (by simp) ?_
      refine hcons rfl (fun K hK => ?_) (AllReadyH.nil)
      go_simp
      refine hK.out _ _ ?_ (fun hHeld => ?_)
      · (try dsimp only); exact nine (((HX.out.next hk2).nth (by omega) _ _).next ((Below.refl _ _).alloc (Nat.le_refl _) _)) (((HW.out.next hk2).nth (by omega) _ _).next ((Below.refl _ _).alloc (Nat.le_refl _) _))
      clear hK K
      try simp only [Act.put, List.setIfInBounds_toArray, List.set_cons_zero, List.set_cons_succ]
      refine wpAnyH_done (by kernel_rfl) ?_ _
      dsimp only [Only]
      rotate_left
      go_simp
      (with_reducible refine (HBr.out _ (Below.refl _ _).drew).mono ?_); rintro e w2 ⟨rfl, hb2⟩; have hk2 : Below W.heap.size W w2 := (Below.refl _ _).drew.trans hb2; have hon2 := ((bcell hk2).1 (w1.heap.size + 1) 0 (by omega)).trans hon; have hof2 := ((bcell hk2).2 (w1.heap.size + 1) 0 (by omega)).trans hof; have hz2 := hk2.size; have hz3 : w1.heap.size + 1 < w2.heap.size := by omega
      refine hK.out _ _ ?_ (fun hHeld => ?_)
      · (try dsimp only); exact nine (HX.out.next hk2) (HW.out.next hk2)
      clear hK K
      try simp only [Act.put, List.setIfInBounds_toArray, List.set_cons_zero, List.set_cons_succ]
      refine wpAnyH_ready (rs := [0]) (by kernel_rfl) (by simp) ?_
      refine hcons rfl (fun K hK => ?_) (AllReadyH.nil)
      go_simp
      refine hK.out _ _ ?_ (fun hHeld => ?_)
      · (try dsimp only); first | exact nine HX.out.drew1 HW.out.drew1 | exact nine (HX.out.next hk2) (HW.out.next hk2)
      clear hK K
      try simp only [Act.put, List.setIfInBounds_toArray, List.set_cons_zero, List.set_cons_succ]
      refine wpAnyH_ready (rs := [4]) (by kernel_rfl) (by simp) ?_
      refine hcons rfl (fun K hK => ?_) (AllReadyH.nil)
      go_simp
      refine hK.out _ _ ?_ (fun hHeld => ?_)
      · (try dsimp only); exact nine ((HX.out.next hk2).next ((Below.refl _ _).alloc (Nat.le_refl _) _)) ((HW.out.next hk2).next ((Below.refl _ _).alloc (Nat.le_refl _) _))
      clear hK K
      try simp only [Act.put, List.setIfInBounds_toArray, List.set_cons_zero, List.set_cons_succ]
      refine wpAnyH_ready (rs := [5]) (by kernel_rfl) (by simp) ?_
      refine hcons rfl (fun K hK => ?_) (AllReadyH.nil)
      go_simp
      (with_reducible refine (Hsum.out w2 _ rfl).mono ?_); rintro e w5 ⟨rfl, rfl⟩; rw [E2.out]
      refine hK.out _ _ ?_ (fun hHeld => ?_)
      · (try dsimp only); exact nine ((HX.out.next hk2).next ((Below.refl _ _).alloc (Nat.le_refl _) _)) ((HW.out.next hk2).next ((Below.refl _ _).alloc (Nat.le_refl _) _))
      clear hK K
      try simp only [Act.put, List.setIfInBounds_toArray, List.set_cons_zero, List.set_cons_succ]
      refine wpAnyH_ready (rs := [6]) (by kernel_rfl) (by simp) ?_
      refine hcons rfl (fun K hK => ?_) (AllReadyH.nil)
      go_simp
      refine hK.out _ _ ?_ (fun hHeld => ?_)
      · (try dsimp only); exact nine (((HX.out.next hk2).nth (by omega) _ _).next ((Below.refl _ _).alloc (Nat.le_refl _) _)) (((HW.out.next hk2).nth (by omega) _ _).next ((Below.refl _ _).alloc (Nat.le_refl _) _))
      clear hK K
      try simp only [Act.put, List.setIfInBounds_toArray, List.set_cons_zero, List.set_cons_succ]
      refine wpAnyH_done (by kernel_rfl) ?_ _
      dsimp only [Only]
      iterate 8 (try clear hHeld)
      all_goals
        dsimp only [Exit.inBlock]
        obtain ⟨r1, r6, r7, r8⟩ := HI.out.next hk2
        have r9 : w2.heap.size ≤ (w2.setCell ⟨w1.heap.size + 1, 0, none⟩ (.int .i64 (sumL (pre.map Fin.val) (bringS s) + bringS s x.val))).heap.size := by simp [World.setCell]
        refine ⟨(kf_below hk2).trans (((KeepsOthers.setCell _ _ _).trans (KeepsOthers.alloc _ _)).from _), (kp_below hk2 (by omega) (by omega)).trans ⟨((Below.refl _ _).setCell (p := ⟨w1.heap.size + 1, 0, none⟩) (by simp) _).alloc (by omega) _, fun o => (World.cell?_alloc_lt _ _ _ (by show w1.heap.size + 1 + 1 < _; omega)).trans (World.cell?_setCell_other _ _ _ _ (by intro e; injection e with e; omega))⟩, ?_⟩
        refine ⟨?_, (r6.nth (by omega) _ _).next ((Below.refl _ _).alloc (Nat.le_refl _) _), (r7.setCell (p := ⟨w1.heap.size + 1, 0, none⟩) (by simp) _).alloc (by omega) _, by simp [World.setCell]; omega⟩
        rw [show sumL ((pre ++ [x]).map Fin.val) (bringS s) = sumL (pre.map Fin.val) (bringS s) + bringS s x.val by rw [List.map_append]; exact sumL_snoc _ _ _]
        exact (r1.set _).alloc _
    case done =>
      rintro D xs W hD hS ⟨ho, hbox, hB, hz⟩ hK
      obtain ⟨-, c0, c1, c2, c3⟩ := id hbox
      have hbw := Hbb.out.trans (hB.mono Hbb.out.size)
      gi_wp2_with fail
      refine ⟨trivial, (callsIn_wide.2 (takes_any s set _ ok hlt ((HR.out.below hbw).more hbw.size) (HE.out.next hbw))).mono ?_⟩
      rintro e V ⟨g, cg, rfl, hgc, hg, hblk, hb2⟩
      have hbV := hbw.trans (hb2.mono hbw.size)
      have hKV : V.heap[D]? = some (.deferred (some [])) := (hb2.block D (Array.getElem?_eq_some_iff.1 hK).1).trans hK
      have HX := Lib.hid (hbox.next hb2)
      have hbN := hB.trans (hb2.mono hB.size)
      have Q0 := Lib.hid ((hbN.cell (p := ⟨w.heap.size + 1, 0, none⟩) hq).trans q0)
      have Q1 := Lib.hid ((hbN.cell (p := ⟨w.heap.size + 1, 1, none⟩) hq).trans q1)
      have F0 := Lib.hid ((hbN.frozen (p := ⟨w.heap.size + 1, 0, none⟩) hq).trans f0)
      have F1 := Lib.hid ((hbN.frozen (p := ⟨w.heap.size + 1, 1, none⟩) hq).trans f1)
      have hon : V.cell? ⟨w1.heap.size + 1, 0, none⟩ = some (.int .i64 (sumL (xs.map Fin.val) (bringS s))) := (box_next ho hb2).cell
      rw [show sumL (xs.map Fin.val) (bringS s) = gainTo s set s.wishes.length by rw [hS, gain_bits ok hlt]] at hon
      have HON := Lib.hid hon
      have Hblk := Lib.hid hblk
      have HbV := Lib.hid hbV
      have HKV := Lib.hid hKV
      have HrV := Lib.hid ((HR.out.below hbV).more hbV.size)
      have hzV := hb2.size
      have Ep := Lib.hid (pay_cost s Sheet.lo set)
      have Em := Lib.hid (pay_cost s Sheet.hi set)
      have bd1 := gainTo_bd ok set (Nat.le_refl _)
      have bd2 := costTo_bd ok set (f := fun k => (sheetAt s k).lo) (fun k hk => loAt_bd ok hk) (Nat.le_refl _)
      have bd3 := costTo_bd ok set (f := fun k => (sheetAt s k).hi) (fun k hk => hiAt_bd ok hk) (Nat.le_refl _)
      have HE2 := Lib.hid (show (gainS s set (loAt s), gainS s set (hiAt s)) = (gainTo s set s.wishes.length - costTo s set (fun k => (sheetAt s k).lo) s.sheets.length, gainTo s set s.wishes.length - costTo s set (fun k => (sheetAt s k).hi) s.sheets.length) from rfl)
      have HP1 := Lib.hid (fun (W' : World) (h : Below V.heap.size V W') => pays_any s 64 Sheet.lo g 0 cg (takeS s set) W' ok (HrV.out.next h) (fun _ _ => enter64 _ _) (fun x W => few64_any x.lo x.hi W) (fun _ hk => loAt_bd ok hk) (Hblk.out.next h).at_ (fun k _ => takeS_bd ok set k))
      have HP2 := Lib.hid (fun (W' : World) (h : Below V.heap.size V W') => pays_any s 63 Sheet.hi g 0 cg (takeS s set) W' ok (HrV.out.next h) (fun _ _ => enter63 _ _) (fun x W => most63_any x.lo x.hi W) (fun _ hk => hiAt_bd ok hk) (Hblk.out.next h).at_ (fun k _ => takeS_bd ok set k))
      rw [Ep.out] at HP1
      rw [Em.out] at HP2
      generalize gainTo s set s.wishes.length = N at *
      generalize costTo s set (fun k => (sheetAt s k).lo) s.sheets.length = C1 at *
      generalize costTo s set (fun k => (sheetAt s k).hi) s.sheets.length = C2 at *
      have wr1 : IntKind.i64.wrap (N - C1) = N - C1 := IntWalk.i64_in _ (by omega)
      have wr2 : IntKind.i64.wrap (N - C2) = N - C2 := IntWalk.i64_in _ (by omega)
      clear x2 x3 x4 x5 hseq a4 q0 q1 f0 f1 ho hon hbox hblk hbV hKV hbw hb2 hK hB hbN c0 c1 c2 c3
      gi_wp2_with fail
      refine wpIn_wide.2 ?_
      refine wp_region_noPanic ?_
      refine wp_region_held_drew (S := (fun W' => W'.cell? ⟨w1.heap.size, 0, none⟩ = some (.slice s.A1 s.sheets.length s.c1) ∧ W'.cell? ⟨w1.heap.size, 1, none⟩ = some (.slice s.A2 s.lics.length s.c2) ∧ W'.cell? ⟨w1.heap.size, 2, none⟩ = some (.slice s.A3 s.makes.length s.c3) ∧ W'.cell? ⟨w1.heap.size, 3, none⟩ = some (.slice s.A4 s.wishes.length s.c4) ∧ W'.cell? ⟨w1.heap.size + 1, 0, none⟩ = some (.int .i64 N))) (by kernel_rfl) ?_ (fun hHeld => ?_)
      · (try dsimp only); exact five HX.out.drew HON.out
      refine htake (i := 0) (v := ?v3) rfl (by kernel_rfl) (by kernel_rfl) (by kernel_rfl) (fun _ _ _ h => h) (Or.inl ⟨by rfl, ?hy3⟩) (by assumption) ?_
      case hy3 => (intro w hSw; (try dsimp only at hSw); go_simp; try (with_reducible rfl))
      try simp only [Act.put, List.setIfInBounds_toArray, List.set_cons_zero, List.set_cons_succ]
      refine htake (i := 1) (v := ?v4) rfl (by kernel_rfl) (by kernel_rfl) (by kernel_rfl) (fun _ _ _ h => h) (Or.inl ⟨by rfl, ?hy4⟩) (by assumption) ?_
      case hy4 => (intro w hSw; (try dsimp only at hSw); go_simp; try (with_reducible rfl))
      try simp only [Act.put, List.setIfInBounds_toArray, List.set_cons_zero, List.set_cons_succ]
      refine htake (i := 2) (v := ?v5) rfl (by kernel_rfl) (by kernel_rfl) (by kernel_rfl) (fun _ _ _ h => h) (Or.inl ⟨by rfl, ?hy5⟩) (by assumption) ?_
      case hy5 => (intro w hSw; (try dsimp only at hSw); go_simp; try (with_reducible rfl))
      try simp only [Act.put, List.setIfInBounds_toArray, List.set_cons_zero, List.set_cons_succ]
      refine htake (i := 6) (v := ?v6) rfl (by kernel_rfl) (by kernel_rfl) (by kernel_rfl) (fun _ _ _ h => h) (Or.inl ⟨by rfl, ?hy6⟩) (by assumption) ?_
      case hy6 => (intro w hSw; (try dsimp only at hSw); go_simp; try (with_reducible rfl))
      try simp only [Act.put, List.setIfInBounds_toArray, List.set_cons_zero, List.set_cons_succ]
      refine htake (i := 7) (v := ?v7) rfl (by kernel_rfl) (by kernel_rfl) (by kernel_rfl) (fun _ _ _ h => h) (Or.inl ⟨by rfl, ?hy7⟩) (by assumption) ?_
      case hy7 => (intro w hSw; (try dsimp only at hSw); go_simp; try (with_reducible rfl))
      try simp only [Act.put, List.setIfInBounds_toArray, List.set_cons_zero, List.set_cons_succ]
      refine htake (i := 8) (v := ?v8) rfl (by kernel_rfl) (by kernel_rfl) (by kernel_rfl) (fun _ _ _ h => h) (Or.inl ⟨by rfl, ?hy8⟩) (by assumption) ?_
      case hy8 => (intro w hSw; (try dsimp only at hSw); go_simp; try (with_reducible rfl))
      try simp only [Act.put, List.setIfInBounds_toArray, List.set_cons_zero, List.set_cons_succ]
      refine wpAnyH_ready (rs := [3]) (by kernel_rfl) (by simp) ?_
      refine hcons rfl (fun K hK => ?_) (AllReadyH.nil)
      go_simp
      (with_reducible refine (few43_any _).mono ?_); rintro e w3 ⟨rfl, hb3⟩; have hk3 : Below V.heap.size V w3 := (Below.refl _ _).drew.trans hb3
      refine hK.out _ _ ?_ (fun hHeld => ?_)
      · (try dsimp only); exact five (HX.out.next hk3) (((bcell hk3).1 _ _ (by omega)).trans HON.out)
      clear hK K
      try simp only [Act.put, List.setIfInBounds_toArray, List.set_cons_zero, List.set_cons_succ]
      refine wpAnyH_ready (rs := [4]) (by kernel_rfl) (by simp) ?_
      refine hcons rfl (fun K hK => ?_) (AllReadyH.nil)
      go_simp
      (with_reducible refine (HP1.out _ hk3).mono ?_); rintro e w4 ⟨rfl, hb4⟩; have hk4 := below_step hb4 hk3 (Nat.le_refl V.heap.size)
      refine hK.out _ _ ?_ (fun hHeld => ?_)
      · (try dsimp only); exact five (HX.out.next hk4) (((bcell hk4).1 _ _ (by omega)).trans HON.out)
      clear hK K
      try simp only [Act.put, List.setIfInBounds_toArray, List.set_cons_zero, List.set_cons_succ]
      refine htake (i := 5) (v := ?v9) rfl (by kernel_rfl) (by kernel_rfl) (by kernel_rfl) (fun _ _ _ h => h) (Or.inl ⟨by rfl, ?hy9⟩) (by assumption) ?_
      case hy9 => (intro w hSw; (try dsimp only at hSw); go_simp; try (with_reducible rfl))
      try simp only [Act.put, List.setIfInBounds_toArray, List.set_cons_zero, List.set_cons_succ]
      refine wpAnyH_ready (rs := [9]) (by kernel_rfl) (by simp) ?_
      refine hcons rfl (fun K hK => ?_) (AllReadyH.nil)
      go_simp
      (with_reducible refine (most42_any _).mono ?_); rintro e w5 ⟨rfl, hb5⟩; have hk5 := below_step hb5 hk4 (Nat.le_refl V.heap.size)
      refine hK.out _ _ ?_ (fun hHeld => ?_)
      · (try dsimp only); exact five (HX.out.next hk5) (((bcell hk5).1 _ _ (by omega)).trans HON.out)
      clear hK K
      try simp only [Act.put, List.setIfInBounds_toArray, List.set_cons_zero, List.set_cons_succ]
      refine wpAnyH_ready (rs := [10]) (by kernel_rfl) (by simp) ?_
      refine hcons rfl (fun K hK => ?_) (AllReadyH.nil)
      go_simp
      (with_reducible refine (HP2.out _ hk5).mono ?_); rintro e w6 ⟨rfl, hb6⟩; have hk6 := below_step hb6 hk5 (Nat.le_refl V.heap.size); have y0 := ((bcell hk6).1 _ _ (by omega)).trans Q0.out; have y1 := ((bcell hk6).1 _ _ (by omega)).trans Q1.out; have z0 := ((bcell hk6).2 _ _ (by omega)).trans F0.out; have z1 := ((bcell hk6).2 _ _ (by omega)).trans F1.out
      refine hK.out _ _ ?_ (fun hHeld => ?_)
      · (try dsimp only); exact five (HX.out.next hk6) (((bcell hk6).1 _ _ (by omega)).trans HON.out)
      clear hK K
      try simp only [Act.put, List.setIfInBounds_toArray, List.set_cons_zero, List.set_cons_succ]
      refine htake (i := 11) (v := ?v10) rfl (by kernel_rfl) (by kernel_rfl) (by kernel_rfl) (fun _ _ _ h => h) (Or.inl ⟨by rfl, ?hy10⟩) (by assumption) ?_
      case hy10 => (intro w hSw; (try dsimp only at hSw); go_simp; try (with_reducible rfl))
      try simp only [Act.put, List.setIfInBounds_toArray, List.set_cons_zero, List.set_cons_succ]
      refine htake (i := 12) (v := ?v11) rfl (by kernel_rfl) (by kernel_rfl) (by kernel_rfl) (fun _ _ _ h => h) (Or.inl ⟨by rfl, ?hy11⟩) (by assumption) ?_
      case hy11 => (intro w hSw; (try dsimp only at hSw); go_simp; try (with_reducible rfl))
      try simp only [Act.put, List.setIfInBounds_toArray, List.set_cons_zero, List.set_cons_succ]
      refine wpAnyH_ready (rs := [13]) (by kernel_rfl) (by simp) ?_
      refine hcons rfl (fun K hK => ?_) (AllReadyH.nil)
      go_simp
      refine hK.out _ _ ?_ (fun hHeld => ?_)
      · (try dsimp only); exact five (((HX.out.next hk6).nth (by omega) _ _).nth (by omega) _ _) (by rw [World.cell?_setCell_other _ _ _ _ (by intro e; injection e with e; omega), World.cell?_setCell_other _ _ _ _ (by intro e; injection e with e; omega)]; exact ((bcell hk6).1 _ _ (by omega)).trans HON.out)
      clear hK K
      try simp only [Act.put, List.setIfInBounds_toArray, List.set_cons_zero, List.set_cons_succ]
      refine htake (i := 14) (v := ?v12) rfl (by kernel_rfl) (by kernel_rfl) (by kernel_rfl) (fun _ _ _ h => h) (Or.inl ⟨by rfl, ?hy12⟩) (by assumption) ?_
      case hy12 => (intro w hSw; (try dsimp only at hSw); go_simp; try (with_reducible rfl))
      try simp only [Act.put, List.setIfInBounds_toArray, List.set_cons_zero, List.set_cons_succ]
      refine wpAnyH_done (by kernel_rfl) ?_ _
      refine NoPanic.normal ?_
      iterate 16 (try clear hHeld)
      gi_wp2
      generalize hWf : World.setCell (World.setCell w6 _ _) _ _ = Wf
      have hx0 : Wf.cell? ⟨w.heap.size + 1, 0, none⟩ = some (.int .i64 (N - C1)) := by
        rw [← hWf, World.cell?_setCell_other _ _ _ _ (by simp)]; exact World.cell?_setCell_same' _ _ _ (by rw [y0]; rfl)
      have hx1 : Wf.cell? ⟨w.heap.size + 1, 1, none⟩ = some (.int .i64 (N - C2)) := by
        rw [← hWf]; exact World.cell?_setCell_same' _ _ _ (by rw [World.cell?_setCell_other _ _ _ _ (by simp), y1]; rfl)
      have hD2 : D < V.heap.size := (Array.getElem?_eq_some_iff.1 HKV.out).1
      have hK3 : Wf.heap[D]? = some (.deferred (some [])) := by
        rw [← hWf]
        refine (((KeepsOthers.setCell _ _ _).trans (KeepsOthers.setCell _ _ _))).same D _ ?_ rfl
        exact (hk6.block D hD2).trans HKV.out
      have hBf : Below w.heap.size w Wf := by
        rw [← hWf]
        exact ((HbV.out.trans (hk6.mono HbV.out.size)).setCell (p := ⟨w.heap.size + 1, 0, none⟩) (by simp) _).setCell (p := ⟨w.heap.size + 1, 1, none⟩) (by simp) _
      have hg := grownBy_putObj' Wf D (.deferred none)
      have hr' : ∀ r, some D = some r → ∃ o : Obj, Wf.heap[r]? = some o ∧ o.isCells = false := fun r e => by cases e; exact ⟨_, hK3, rfl⟩
      refine ⟨by simp, .inl ⟨_, _, rfl, run_takeDeferred hK3, ?_⟩⟩
      refine ⟨_, results_cell_tmp rfl rfl (load44 (cell_kept hx0 hg hr') (cell_kept hx1 hg hr')), ?_⟩
      rw [He.out, HE2.out]
      exact ⟨rfl, hBf.trans (belowK_b (w := w) (Nat.le_refl _) _ D _ _ (by omega) hK3 rfl rfl)⟩
    case stop =>
      rintro D c pre W _ _ h _
      exact h.elim
  · have hc' : (acceptedS s st != 0) = true := by simpa using hc
    have He := Lib.hid (show RetP (profitS s st) (acceptedS s st) w = RetP (0, 0) (acceptedS s st) w by rw [profitS, if_neg hc])
    by_cases hk : checkS s st = 0
    all_goals
      first | rw [openB_yes hk] | rw [openB_no hk]
      clear hk
      gi_wp2
      have hbe := (((Hbb.out.setCell (p := ⟨w.heap.size + 1, 0, none⟩) (by simp) (.int .i64 0)).setCell (p := ⟨w.heap.size + 1, 1, none⟩) (by simp) (.int .i64 0)))
      refine ⟨_, results_cell_tmp rfl rfl (load44 (x := 0) (y := 0) (by simp [go_sem, q0, hq]) (by simp [go_sem, q1, hq])), ?_⟩
      rw [He.out]
      exact ⟨rfl, hbe.alloc hbe.size _⟩
end Go.Proofs.YtfffhbolaimmdaaDoor
