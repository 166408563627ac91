import Derived.Test.YtjlicbdnppodgaaLns
import Derived.Test.YtjlicbdnppodgaaR10
namespace Go.Proofs.Ytjlicbdnppodgaa
open Go.RowKit
/-! The reference: Lines. -/
structure LnW (go : Nat) (c : Cut) (w W : World) (l b j s : Int) : Prop where
  o : Bx W go [.int .i64 l, .int .i64 b, .int .i64 j, .int .i64 s]
  x : Bx W w.heap.size (cutL c)
  y : Bx W (w.heap.size + 1) [.int .i64 0, .int .i64 0, .int .i64 0, .int .i64 0]
  b : Below w.heap.size w W
  g : w.heap.size + 2 ≤ go
theorem LnW.next {go : Nat} {c : Cut} {w W W' : World} {l b j s : Int} (h : LnW go c w W l b j s) (hb : Below W.heap.size W W') : LnW go c w W' l b j s :=
  ⟨h.o.next hb, h.x.next hb, h.y.next hb, h.b.trans (hb.mono h.b.size), h.g⟩
theorem LnW.set0 {go : Nat} {c : Cut} {w W : World} {l b j s : Int} (h : LnW go c w W l b j s) (l' : Int) : LnW go c w (W.setCell ⟨go, 0, none⟩ (.int .i64 l')) l' b j s :=
  have hg := h.g
  ⟨h.o.set (k := 0) (by simp) _, h.x.far (by omega) _, h.y.far (by omega) _, h.b.setCell (p := ⟨go, 0, none⟩) (by show w.heap.size ≤ go; omega) _, h.g⟩
theorem LnW.set1 {go : Nat} {c : Cut} {w W : World} {l b j s : Int} (h : LnW go c w W l b j s) (b' : Int) : LnW go c w (W.setCell ⟨go, 1, none⟩ (.int .i64 b')) l b' j s :=
  have hg := h.g
  ⟨h.o.set (k := 1) (by simp) _, h.x.far (by omega) _, h.y.far (by omega) _, h.b.setCell (p := ⟨go, 1, none⟩) (by show w.heap.size ≤ go; omega) _, h.g⟩
theorem LnW.set2 {go : Nat} {c : Cut} {w W : World} {l b j s : Int} (h : LnW go c w W l b j s) (j' : Int) : LnW go c w (W.setCell ⟨go, 2, none⟩ (.int .i64 j')) l b j' s :=
  have hg := h.g
  ⟨h.o.set (k := 2) (by simp) _, h.x.far (by omega) _, h.y.far (by omega) _, h.b.setCell (p := ⟨go, 2, none⟩) (by show w.heap.size ≤ go; omega) _, h.g⟩
theorem LnW.set3 {go : Nat} {c : Cut} {w W : World} {l b j s : Int} (h : LnW go c w W l b j s) (s' : Int) : LnW go c w (W.setCell ⟨go, 3, none⟩ (.int .i64 s')) l b j s' :=
  have hg := h.g
  ⟨h.o.set (k := 3) (by simp) _, h.x.far (by omega) _, h.y.far (by omega) _, h.b.setCell (p := ⟨go, 3, none⟩) (by show w.heap.size ≤ go; omega) _, h.g⟩
theorem loadL {w : World} {b : Nat} {a0 a1 a2 a3 : Value} (h : Bx w b [a0, a1, a2, a3]) : (loadVar 39 ⟨b, 0, none⟩).run Try.prog w = .ok (.agg #[a0, a1, a2, a3]) w := by
  have h0 := h.c 0 _ rfl
  have h1 := h.c 1 _ rfl
  have h2 := h.c 2 _ rfl
  have h3 := h.c 3 _ rfl
  go_simp
/-! Partial sums. -/
def lenA (c : Cut) (a : Nat) : Int := sumTo (fun b => edgesR c (a : Int) (b : Int)) a
def lenB (c : Cut) (a b : Nat) : Int := sumTo (lenA c) a + sumTo (fun b => edgesR c (a : Int) (b : Int)) b
theorem lenB_bd {c : Cut} (ok : OkC c) {a b : Nat} (ha : a ≤ 40) (hb : b ≤ 40) : 0 ≤ lenB c a b ∧ lenB c a b ≤ 10000000 := by
  have h0 : ∀ a b : Nat, 0 ≤ edgesR c (a : Int) (b : Int) ∧ edgesR c (a : Int) (b : Int) ≤ 1000 := fun a b => ⟨edgesR_nn c _ _, edges_lt ok _ _⟩
  have h1 : sumTo (lenA c) a = sumTo (fun k => if k < 40 then lenA c k else 0) a := sumTo_congr fun k hk => by rw [if_pos (by omega)]
  have h2 := sumTo_bd (f := fun k => if k < 40 then lenA c k else 0) (B := 40000) (fun k => by
    have := sumTo_bd (f := fun b => edgesR c (k : Int) (b : Int)) (h0 k) k
    show 0 ≤ (if k < 40 then lenA c k else 0) ∧ (if k < 40 then lenA c k else 0) ≤ 40000
    unfold lenA
    split <;> omega) a
  have h3 := sumTo_bd (f := fun b => edgesR c (a : Int) (b : Int)) (h0 a) b
  unfold lenB
  rw [h1]
  omega
def joL (c : Cut) (y : Nat) (x : Nat) : Int := b2i (threeR c ((x + 1 : Nat) : Int) ((y + 1 : Nat) : Int))
def beL (c : Cut) (y : Nat) (x : Nat) : Int := b2i (!threeR c ((x + 1 : Nat) : Int) ((y + 1 : Nat) : Int) && bendR c ((x + 1 : Nat) : Int) ((y + 1 : Nat) : Int))
def joA (c : Cut) (y : Nat) : Int := sumTo (joL c y) (W c - 1)
def beA (c : Cut) (y : Nat) : Int := sumTo (beL c y) (W c - 1)
theorem two_bd {f : Nat → Nat → Int} {n : Nat} (h : ∀ y x, 0 ≤ f y x ∧ f y x ≤ 1) (hn : n ≤ 12) {y x : Nat} (hy : y ≤ 12) (hx : x ≤ 12) : 0 ≤ sumTo (fun y => sumTo (f y) n) y + sumTo (f y) x ∧ sumTo (fun y => sumTo (f y) n) y + sumTo (f y) x ≤ 1000 := by
  have h1 := sumTo_bd (f := fun y => sumTo (f y) n) (B := 12) (fun y => by have := sumTo_bd (h y) n; omega) y
  have h2 := sumTo_bd (h y) x
  omega
def stX (c : Cut) (x : Nat) : Int := b2i (at2 c ((x + 1 : Nat) - 1 : Int) 0 != at2 c ((x + 1 : Nat) : Int) 0) + b2i (at2 c ((x + 1 : Nat) - 1 : Int) (c.high - 1) != at2 c ((x + 1 : Nat) : Int) (c.high - 1))
def stY (c : Cut) (y : Nat) : Int := b2i (at2 c 0 ((y + 1 : Nat) - 1 : Int) != at2 c 0 ((y + 1 : Nat) : Int)) + b2i (at2 c (c.wide - 1) ((y + 1 : Nat) - 1 : Int) != at2 c (c.wide - 1) ((y + 1 : Nat) : Int))
theorem stX_bd (c : Cut) (x : Nat) : 0 ≤ stX c x ∧ stX c x ≤ 2 := by
  unfold stX
  have h1 := b2i_bd (at2 c ((x + 1 : Nat) - 1 : Int) 0 != at2 c ((x + 1 : Nat) : Int) 0)
  have h2 := b2i_bd (at2 c ((x + 1 : Nat) - 1 : Int) (c.high - 1) != at2 c ((x + 1 : Nat) : Int) (c.high - 1))
  omega
theorem stY_bd (c : Cut) (y : Nat) : 0 ≤ stY c y ∧ stY c y ≤ 2 := by
  unfold stY
  have h1 := b2i_bd (at2 c 0 ((y + 1 : Nat) - 1 : Int) != at2 c 0 ((y + 1 : Nat) : Int))
  have h2 := b2i_bd (at2 c (c.wide - 1) ((y + 1 : Nat) - 1 : Int) != at2 c (c.wide - 1) ((y + 1 : Nat) : Int))
  omega
/-! The loops' relations. -/
def RL1 (go : Nat) (c : Cut) (w : World) (av : Value) (wr : World) : Prop := ∃ (a : Nat) (l : Int), a ≤ (greatS c).toNat + 1 ∧ av = .int .i64 (a : Int) ∧ l = sumTo (lenA c) a ∧ LnW go c w wr l 0 0 0
def RL2 (go : Nat) (c : Cut) (w : World) (a : Nat) (bv : Value) (wr : World) : Prop := ∃ (b : Nat) (l : Int), b ≤ a ∧ bv = .int .i64 (b : Int) ∧ l = lenB c a b ∧ LnW go c w wr l 0 0 0
def RL3 (go : Nat) (c : Cut) (w : World) (l : Int) (yv : Value) (wr : World) : Prop := ∃ (y : Nat) (b j : Int), y ≤ H c - 1 ∧ yv = .int .i64 ((y : Int) + 1) ∧ b = sumTo (beA c) y ∧ j = sumTo (joA c) y ∧ LnW go c w wr l b j 0
def RL4 (go : Nat) (c : Cut) (w : World) (l : Int) (y : Nat) (xv : Value) (wr : World) : Prop := ∃ (x : Nat) (b j : Int), x ≤ W c - 1 ∧ xv = .int .i64 ((x : Int) + 1) ∧ b = sumTo (beA c) y + sumTo (beL c y) x ∧ j = sumTo (joA c) y + sumTo (joL c y) x ∧ LnW go c w wr l b j 0
def RL5 (go : Nat) (c : Cut) (w : World) (l b j : Int) (xv : Value) (wr : World) : Prop := ∃ (x : Nat) (s : Int), x ≤ W c - 1 ∧ xv = .int .i64 ((x : Int) + 1) ∧ s = sumTo (stX c) x ∧ LnW go c w wr l b j s
def RL6 (go : Nat) (c : Cut) (w : World) (l b j s0 : Int) (yv : Value) (wr : World) : Prop := ∃ (y : Nat) (s : Int), y ≤ H c - 1 ∧ yv = .int .i64 ((y : Int) + 1) ∧ s = s0 + sumTo (stY c) y ∧ LnW go c w wr l b j s
theorem ret_lines {c : Cut} {w w' : World} {l b j s e : Int} (h1 : linesS c = (l, b, j, s)) (h2 : cutE c = e) (hb : Below w.heap.size w w') : Ret (linesV c) w (.returned (.tuple #[.agg #[.int .i64 l, .int .i64 b, .int .i64 j, .int .i64 s], .int .i64 e])) w' := by
  refine ⟨?_, hb⟩
  unfold linesV
  rw [h1, h2]
set_option maxRecDepth 100000 in
set_option maxHeartbeats 8000000 in
theorem LinesR_any (c : Cut) (w : World) (hr : CutAt w w.heap.size c) : Calls Try.prog 23 #[.agg #[.int .i64 c.wide, .int .i64 c.high, .slice c.A c.piece.length c.c]] w (Ret (linesV c) w) := by
  have n1 := nxA w (.cells #[.int .i64 c.wide, .int .i64 c.high, .slice c.A c.piece.length c.c] 24)
  have n2 := nxA (w.alloc (.cells #[.int .i64 c.wide, .int .i64 c.high, .slice c.A c.piece.length c.c] 24)) (.cells #[.int .i64 0, .int .i64 0, .int .i64 0, .int .i64 0] 39)
  have HX0 := Lib.hid ((Bx.new w #[.int .i64 c.wide, .int .i64 c.high, .slice c.A c.piece.length c.c] 24).next n2)
  have HY0 := Lib.hid (Bx.new (w.alloc (.cells #[.int .i64 c.wide, .int .i64 c.high, .slice c.A c.piece.length c.c] 24)) #[.int .i64 0, .int .i64 0, .int .i64 0, .int .i64 0] 39)
  have HB0 := Lib.hid (n1.trans (n2.mono n1.size))
  have HR0 := Lib.hid (hr.next HB0.out)
  simp only [World.size_alloc] at HY0
  have HCE := Lib.hid (show cutE c = (checkS c).2 from rfl)
  have HLS := Lib.hid (show linesS c = if cutE c = 0 then (lenS c, overP c (bendP c), overP c (jointP c), overP c (startP c)) else (0, 0, 0, 0) from rfl)
  have HRW := Lib.hid hr
  clear hr n1 n2
  go_enter Try.func23, Try.ntmps23
  go_upto_region 1 with fail
  generalize (w.alloc (.cells #[.int .i64 c.wide, .int .i64 c.high, .slice c.A c.piece.length c.c] 24)).alloc (.cells #[.int .i64 0, .int .i64 0, .int .i64 0, .int .i64 0] 39) = V at *
  have c0 := HX0.out.c 0 _ rfl
  have c1 := HX0.out.c 1 _ rfl
  have c2 := HX0.out.c 2 _ rfl
  go_wp2_with fail
  refine (Check_any c V HR0.out).mono ?_
  rintro e V0 ⟨rfl, hbw⟩
  clear c0 c1 c2
  have HX := Lib.hid (HX0.out.next hbw)
  have HY := Lib.hid (HY0.out.next hbw)
  have HB := Lib.hid (HB0.out.trans (hbw.mono HB0.out.size))
  clear HX0 HY0 HR0 HB0 hbw
  unfold checkV
  by_cases h1 : (checkS c).2 = 0
  · obtain ⟨a1, a2, a3, a4⟩ := check_ok h1
    rw [a2]
    have ok := (okc_iff c).1 a1
    have h2 := great_bd ok
    have HCE0 := Lib.hid (HCE.out.trans h1)
    have OK := Lib.hid ok
    have hwd := ok.w
    have hhd := ok.h
    clear a1 a2 a3 a4 h1 ok
    obtain ⟨N, hN⟩ : ∃ N : Nat, (N : Int) = greatS c + 1 := ⟨(greatS c + 1).toNat, by omega⟩
    have HN := Lib.hid (show N = (greatS c).toNat + 1 from by omega)
    have hN2 : N ≤ 40 := by omega
    have HW := Lib.hid (show ((W c : Nat) : Int) = c.wide from by unfold W; omega)
    have HH := Lib.hid (show ((H c : Nat) : Int) = c.high from by unfold H; omega)
    go_wp2_with fail
    obtain ⟨go, hgo⟩ : ∃ g, g = V0.heap.size := ⟨_, rfl⟩
    have n3 := nxA V0 (.cells #[.int .i64 0, .int .i64 0, .int .i64 0, .int .i64 0] 39)
    have HL0 := Lib.hid (show LnW go c w (V0.alloc (.cells #[.int .i64 0, .int .i64 0, .int .i64 0, .int .i64 0] 39)) 0 0 0 0 from ⟨by rw [hgo]; exact Bx.new _ _ _, HX.out.next n3, HY.out.next n3, HB.out.trans (n3.mono HB.out.size), by have := HY.out.lt; omega⟩)
    rw [← hgo]
    have HNI := Lib.hid hN
    clear n3 hgo HX HY HB hN h2
    generalize (V0.alloc (.cells #[.int .i64 0, .int .i64 0, .int .i64 0, .int .i64 0] 39)) = V1 at *
    go_loopw [7] (fun av wr => RL1 go c w av wr) (fun av _ => N - (intOf av).toNat)
    case atStart => exact ⟨0, 0, by omega, rfl, rfl, HL0.out⟩
    case round =>
      obtain ⟨a, l, ha, rfl, hl, hLW⟩ := hrel
      rw [← HN.out] at ha
      generalize wr = W1 at *
      have HL1 := Lib.hid hLW
      have HLA := Lib.hid hl
      clear hLW hl
      by_cases hlt : a < N
      · have hltI : (a : Int) < greatS c + 1 := by have := HNI.out; omega
        have hw1 : IntKind.i64.wrap ((a : Int) + 1) = ((a + 1 : Nat) : Int) := by rw [IntWalk.i64_in _ (by omega)]; omega
        go_wp2_with fail
        go_loopw [8] (fun bv wr => RL2 go c w a bv wr) (fun bv _ => a - (intOf bv).toNat)
        case atStart => exact ⟨0, l, by omega, rfl, by rw [HLA.out]; show _ = _ + 0; omega, HL1.out⟩
        case round =>
          obtain ⟨b, l2, hb, rfl, hl, hLW⟩ := hrel
          generalize wr = W2 at *
          have HL2 := Lib.hid hLW
          have HLB := Lib.hid hl
          have hbd := lenB_bd OK.out (show a ≤ 40 by omega) (show b ≤ 40 by omega)
          have hbd2 := lenB_bd OK.out (show a ≤ 40 by omega) (show b + 1 ≤ 40 by omega)
          have hst : lenB c a (b + 1) = lenB c a b + edgesR c (a : Int) (b : Int) := (Int.add_assoc _ _ _).symm
          rw [← hl] at hbd hst
          clear hLW hl
          by_cases hlb : b < a
          · have hlbI : (b : Int) < (a : Int) := by omega
            have hw2 : IntKind.i64.wrap ((b : Int) + 1) = ((b + 1 : Nat) : Int) := by rw [IntWalk.i64_in _ (by omega)]; omega
            have hw3 : IntKind.i64.wrap (l2 + edgesR c (a : Int) (b : Int)) = l2 + edgesR c (a : Int) (b : Int) := IntWalk.i64_in _ (by omega)
            have HNX := Lib.hid (fun (W' : World) (h : LnW go c w W' (l2 + edgesR c (a : Int) (b : Int)) 0 0 0) => (show RL2 go c w a (.int .i64 ((b + 1 : Nat) : Int)) W' from ⟨b + 1, _, by omega, rfl, hst.symm, h⟩))
            have HMU := Lib.hid (show a - (b + 1) < a - b from by omega)
            clear hst hbd hbd2
            go_upto_region 11 with fail
            have HC := Lib.hid (show ∀ W : World, Below W2.heap.size W2 W → Calls Try.prog 37 #[.agg #[.int .i64 c.wide, .int .i64 c.high, .slice c.A c.piece.length c.c], .int .i64 (a : Int), .int .i64 (b : Int)] W (Ret (.int .i64 (edgesR c (a : Int) (b : Int))) W) from fun W h => Edges_any c _ _ W OK.out (HRW.out.next (HL2.out.b.trans (h.mono HL2.out.b.size))))
            have H3 := Lib.hid (show ∀ W : World, Below W2.heap.size W2 W → (W.cell? ⟨w.heap.size, 0, none⟩ = some (.int .i64 c.wide) ∧ W.cell? ⟨w.heap.size, 1, none⟩ = some (.int .i64 c.high) ∧ W.cell? ⟨w.heap.size, 2, none⟩ = some (.slice c.A c.piece.length c.c) ∧ W.cell? ⟨go, 0, none⟩ = some (.int .i64 l2)) from fun W h => ⟨(HL2.out.x.next h).c 0 _ rfl, (HL2.out.x.next h).c 1 _ rfl, (HL2.out.x.next h).c 2 _ rfl, (HL2.out.o.next h).c 0 _ rfl⟩)
            refine wp_region_noPanic ?_
            refine wp_region_held_drew (S := fun _ => True) (by kernel_rfl) ?_ (fun _ => ?_)
            · trivial
            refine GG.sound (S0 := (fun W => Below W2.heap.size W2 W ∧ W.cell? ⟨w.heap.size, 0, none⟩ = some (.int .i64 c.wide) ∧ W.cell? ⟨w.heap.size, 1, none⟩ = some (.int .i64 c.high) ∧ W.cell? ⟨w.heap.size, 2, none⟩ = some (.slice c.A c.piece.length c.c) ∧ W.cell? ⟨go, 0, none⟩ = some (.int .i64 l2))) _ (fun W => Below W2.heap.size W2 W) _ _ (fun W W' h hb => h.trans (hb.mono h.size)) (fun W h => ⟨h, H3.out W h⟩) ?_ _ ((Below.refl _ _).drew)
            refine gtake (i := 0) (v := ?v1) rfl (by kernel_rfl) (by kernel_rfl) (by kernel_rfl) (MakesIf.yields (Or.inl ⟨by rfl, ?hy1⟩)) ?_
            case hy1 => (intro w hSw; (try dsimp only at hSw); go_simp; try (with_reducible rfl))
            try simp only [Act.put, List.setIfInBounds_toArray, List.set_cons_zero, List.set_cons_succ]
            refine gtake (i := 1) (v := ?v2) rfl (by kernel_rfl) (by kernel_rfl) (by kernel_rfl) (MakesIf.yields (Or.inl ⟨by rfl, ?hy2⟩)) ?_
            case hy2 => (intro w hSw; (try dsimp only at hSw); go_simp; try (with_reducible rfl))
            try simp only [Act.put, List.setIfInBounds_toArray, List.set_cons_zero, List.set_cons_succ]
            refine gtake (i := 2) (v := ?v3) rfl (by kernel_rfl) (by kernel_rfl) (by kernel_rfl) (MakesIf.yields (Or.inl ⟨by rfl, ?hy3⟩)) ?_
            case hy3 => (intro w hSw; (try dsimp only at hSw); go_simp; try (with_reducible rfl))
            try simp only [Act.put, List.setIfInBounds_toArray, List.set_cons_zero, List.set_cons_succ]
            refine gtake (i := 3) (v := ?v4) rfl (by kernel_rfl) (by kernel_rfl) (by kernel_rfl) (MakesIf.yields (Or.inl ⟨by rfl, ?hy4⟩)) ?_
            case hy4 => (intro w hSw; (try dsimp only at hSw); go_simp; try (with_reducible rfl))
            try simp only [Act.put, List.setIfInBounds_toArray, List.set_cons_zero, List.set_cons_succ]
            refine gtake (i := 4) (v := ?v5) rfl (by kernel_rfl) (by kernel_rfl) (by kernel_rfl) (MakesIf.yields (Or.inl ⟨by rfl, ?hy5⟩)) ?_
            case hy5 => (intro w hSw; (try dsimp only at hSw); go_simp; try (with_reducible rfl))
            try simp only [Act.put, List.setIfInBounds_toArray, List.set_cons_zero, List.set_cons_succ]
            refine gtake (i := 5) (v := .int .i64 (edgesR c (a : Int) (b : Int))) rfl (by kernel_rfl) (by kernel_rfl) (by kernel_rfl) (Or.inl ⟨by rfl, fun W hW => ?_⟩) ?_
            · go_simp; exact HC.out W hW.1
            try simp only [Act.put, List.setIfInBounds_toArray, List.set_cons_zero, List.set_cons_succ]
            refine gtake (i := 6) (v := ?v6) rfl (by kernel_rfl) (by kernel_rfl) (by kernel_rfl) (MakesIf.yields (Or.inl ⟨by rfl, ?hy6⟩)) ?_
            case hy6 => (intro w hSw; (try dsimp only at hSw); go_simp; try (with_reducible rfl))
            try simp only [Act.put, List.setIfInBounds_toArray, List.set_cons_zero, List.set_cons_succ]
            refine gtake (i := 7) (v := ?v7) rfl (by kernel_rfl) (by kernel_rfl) (by kernel_rfl) (MakesIf.yields (Or.inl ⟨by rfl, ?hy7⟩)) ?_
            case hy7 => (intro w hSw; (try dsimp only at hSw); go_simp; try (with_reducible rfl))
            try simp only [Act.put, List.setIfInBounds_toArray, List.set_cons_zero, List.set_cons_succ]
            refine glate (late_of (by kernel_rfl)) (fun w' hT => ?_)
            refine wpAnyH_ready (rs := [8]) (by kernel_rfl) (by simp) ?_
            refine hcons rfl (fun K hK => ?_) (AllReadyH.nil)
            have z0 := (HL2.out.o.next hT).c 0 _ rfl; have y0 := (HL2.out.o.next hT).fr 0; go_simp
            refine hK.out _ _ ?_ (fun _ => ?_)
            · trivial
            clear hK K
            try simp only [Act.put]
            refine wpAnyH_done (by kernel_rfl) ?_ _
            refine NoPanic.normal ?_
            have HF := Lib.hid (HNX.out _ ((HL2.out.next hT).set0 (l2 + edgesR c (a : Int) (b : Int))))
            clear hT HC H3 HNX
            go_wp2_with fail
            exact ⟨HF.out, by have := HMU.out; simp [intOf]; omega⟩
          · have hlbI : ¬ (b : Int) < (a : Int) := by omega
            have heb : b = a := by omega
            subst heb
            have HF := Lib.hid (show RL1 go c w (.int .i64 ((b + 1 : Nat) : Int)) W2 from ⟨b + 1, _, by rw [← HN.out]; omega, rfl, HLB.out, HL2.out⟩)
            have HMU := Lib.hid (show N - (b + 1) < N - b from by omega)
            clear hst hbd hbd2
            go_wp2_with fail
            exact ⟨HF.out, by have := HMU.out; simp [intOf]; omega⟩
      · have hltI : ¬ (a : Int) < greatS c + 1 := by have := HNI.out; omega
        have hea : a = N := by omega
        have HLA2 := Lib.hid (show l = lenS c from by rw [HLA.out, hea, HN.out]; rfl)
        clear hea
        go_wp2_with fail
        go_loopw [9] (fun yv wr => RL3 go c w l yv wr) (fun yv _ => H c - (intOf yv).toNat)
        case atStart => exact ⟨0, 0, 0, by omega, rfl, rfl, rfl, HL1.out⟩
        case round =>
          obtain ⟨y, b, j, hy, rfl, hb, hj, hLW⟩ := hrel
          generalize wr = W3 at *
          have HL3 := Lib.hid hLW
          have HB3 := Lib.hid hb
          have HJ3 := Lib.hid hj
          have hhH := HH.out
          have c1 := HL3.out.x.c 1 _ rfl
          clear hLW hb hj
          by_cases hly : y < H c - 1
          · have hlyI : ((y : Int) + 1) < c.high := by omega
            have hw1 : IntKind.i64.wrap ((y : Int) + 1 + 1) = (y : Int) + 1 + 1 := IntWalk.i64_in _ (by omega)
            have HMU3 := Lib.hid (show H c - (y + 1 + 1) < H c - (y + 1) from by omega)
            clear hhH
            go_wp2_with fail
            clear c1
            go_loopw [10] (fun xv wr => RL4 go c w l y xv wr) (fun xv _ => W c - (intOf xv).toNat)
            case atStart => exact ⟨0, b, j, by omega, rfl, by rw [HB3.out]; show _ = _ + 0; omega, by rw [HJ3.out]; show _ = _ + 0; omega, HL3.out⟩
            case round =>
              obtain ⟨x, b2, j2, hx, rfl, hb, hj, hLW⟩ := hrel
              generalize wr = W4 at *
              have HL4 := Lib.hid hLW
              have HB4 := Lib.hid hb
              have HJ4 := Lib.hid hj
              have hhW := HW.out
              have hhH := HH.out
              have hbd1 := two_bd (f := beL c) (n := W c - 1) (fun y x => b2i_bd _) (by omega) (show y ≤ 12 by omega) (show x ≤ 12 by omega)
              have hbd2 := two_bd (f := joL c) (n := W c - 1) (fun y x => b2i_bd _) (by omega) (show y ≤ 12 by omega) (show x ≤ 12 by omega)
              have hbb : 0 ≤ b2 ∧ b2 ≤ 1000 := by rw [hb]; exact hbd1
              have hjb : 0 ≤ j2 ∧ j2 ≤ 1000 := by rw [hj]; exact hbd2
              have c0 := HL4.out.x.c 0 _ rfl
              have c1 := HL4.out.x.c 1 _ rfl
              have c2 := HL4.out.x.c 2 _ rfl
              clear hLW hb hj hbd1 hbd2
              by_cases hlx : x < W c - 1
              · have hlxI : ((x : Int) + 1) < c.wide := by omega
                have hw2 : IntKind.i64.wrap ((x : Int) + 1 + 1) = (x : Int) + 1 + 1 := IntWalk.i64_in _ (by omega)
                have hw3 : IntKind.i64.wrap (b2 + 1) = b2 + 1 := IntWalk.i64_in _ (by omega)
                have hw4 : IntKind.i64.wrap (j2 + 1) = j2 + 1 := IntWalk.i64_in _ (by omega)
                have HMU4 := Lib.hid (show W c - (x + 1 + 1) < W c - (x + 1) from by omega)
                have hxl : (x : Int) + 1 ≤ 12 := by omega
                have hyl : (y : Int) + 1 ≤ 12 := by omega
                have HNX := Lib.hid (fun (W' : World) (bn jn : Int) (h1 : bn = b2 + beL c y x) (h2 : jn = j2 + joL c y x) (h : LnW go c w W' l bn jn 0) => (show RL4 go c w l y (.int .i64 ((x : Int) + 1 + 1)) W' from ⟨x + 1, bn, jn, by omega, rfl, by rw [h1, HB4.out]; show _ = _ + (_ + _); omega, by rw [h2, HJ4.out]; show _ = _ + (_ + _); omega, h⟩))
                have HBE := Lib.hid (show beL c y x = b2i (!threeR c ((x : Int) + 1) ((y : Int) + 1) && bendR c ((x : Int) + 1) ((y : Int) + 1)) from rfl)
                have HJO := Lib.hid (show joL c y x = b2i (threeR c ((x : Int) + 1) ((y : Int) + 1)) from rfl)
                clear hhW hhH
                go_wp2_with fail
                refine (Around_any c _ _ W4 OK.out (by omega) (by omega) (HRW.out.next HL4.out.b)).mono ?_
                rintro e W5 ⟨rfl, hb5⟩
                have HL5 := Lib.hid (HL4.out.next hb5)
                unfold threeR bendR at HBE
                unfold threeR at HJO
                unfold aroundV
                have o1 := HL5.out.o.c 1 _ rfl
                have o2 := HL5.out.o.c 2 _ rfl
                have f1 := HL5.out.o.fr 1
                have f2 := HL5.out.o.fr 2
                clear hb5 c0 c1 c2 hxl hyl
                generalize upR c ((x : Int) + 1) ((y : Int) + 1) = u at *
                generalize downR c ((x : Int) + 1) ((y : Int) + 1) = d at *
                generalize leftR c ((x : Int) + 1) ((y : Int) + 1) = le at *
                generalize rightR c ((x : Int) + 1) ((y : Int) + 1) = ri at *
                cases u <;> cases d <;> cases le <;> cases ri
                · skip
                  have HF := Lib.hid (HNX.out _ b2 j2 (by rw [HBE.out]; show _ = _ + (0 : Int); omega) (by rw [HJO.out]; show _ = _ + (0 : Int); omega) HL5.out)
                  clear HNX HBE HJO
                  go_wp2_with fail
                  exact ⟨HF.out, by have := HMU4.out; simp [intOf]; omega⟩
                · skip
                  have HF := Lib.hid (HNX.out _ b2 j2 (by rw [HBE.out]; show _ = _ + (0 : Int); omega) (by rw [HJO.out]; show _ = _ + (0 : Int); omega) HL5.out)
                  clear HNX HBE HJO
                  go_wp2_with fail
                  exact ⟨HF.out, by have := HMU4.out; simp [intOf]; omega⟩
                · skip
                  have HF := Lib.hid (HNX.out _ b2 j2 (by rw [HBE.out]; show _ = _ + (0 : Int); omega) (by rw [HJO.out]; show _ = _ + (0 : Int); omega) HL5.out)
                  clear HNX HBE HJO
                  go_wp2_with fail
                  exact ⟨HF.out, by have := HMU4.out; simp [intOf]; omega⟩
                · skip
                  have HF := Lib.hid (HNX.out _ b2 j2 (by rw [HBE.out]; show _ = _ + (0 : Int); omega) (by rw [HJO.out]; show _ = _ + (0 : Int); omega) HL5.out)
                  clear HNX HBE HJO
                  go_wp2_with fail
                  exact ⟨HF.out, by have := HMU4.out; simp [intOf]; omega⟩
                · skip
                  have HF := Lib.hid (HNX.out _ b2 j2 (by rw [HBE.out]; show _ = _ + (0 : Int); omega) (by rw [HJO.out]; show _ = _ + (0 : Int); omega) HL5.out)
                  clear HNX HBE HJO
                  go_wp2_with fail
                  exact ⟨HF.out, by have := HMU4.out; simp [intOf]; omega⟩
                · skip
                  have HF := Lib.hid (HNX.out _ (b2 + 1) j2 (by rw [HBE.out]; rfl) (by rw [HJO.out]; show _ = _ + (0 : Int); omega) (HL5.out.set1 (b2 + 1)))
                  clear HNX HBE HJO
                  go_wp2_with fail
                  exact ⟨HF.out, by have := HMU4.out; simp [intOf]; omega⟩
                · skip
                  have HF := Lib.hid (HNX.out _ (b2 + 1) j2 (by rw [HBE.out]; rfl) (by rw [HJO.out]; show _ = _ + (0 : Int); omega) (HL5.out.set1 (b2 + 1)))
                  clear HNX HBE HJO
                  go_wp2_with fail
                  exact ⟨HF.out, by have := HMU4.out; simp [intOf]; omega⟩
                · skip
                  have HF := Lib.hid (HNX.out _ b2 (j2 + 1) (by rw [HBE.out]; show _ = _ + (0 : Int); omega) (by rw [HJO.out]; rfl) (HL5.out.set2 (j2 + 1)))
                  clear HNX HBE HJO
                  go_wp2_with fail
                  exact ⟨HF.out, by have := HMU4.out; simp [intOf]; omega⟩
                · skip
                  have HF := Lib.hid (HNX.out _ b2 j2 (by rw [HBE.out]; show _ = _ + (0 : Int); omega) (by rw [HJO.out]; show _ = _ + (0 : Int); omega) HL5.out)
                  clear HNX HBE HJO
                  go_wp2_with fail
                  exact ⟨HF.out, by have := HMU4.out; simp [intOf]; omega⟩
                · skip
                  have HF := Lib.hid (HNX.out _ (b2 + 1) j2 (by rw [HBE.out]; rfl) (by rw [HJO.out]; show _ = _ + (0 : Int); omega) (HL5.out.set1 (b2 + 1)))
                  clear HNX HBE HJO
                  go_wp2_with fail
                  exact ⟨HF.out, by have := HMU4.out; simp [intOf]; omega⟩
                · skip
                  have HF := Lib.hid (HNX.out _ (b2 + 1) j2 (by rw [HBE.out]; rfl) (by rw [HJO.out]; show _ = _ + (0 : Int); omega) (HL5.out.set1 (b2 + 1)))
                  clear HNX HBE HJO
                  go_wp2_with fail
                  exact ⟨HF.out, by have := HMU4.out; simp [intOf]; omega⟩
                · skip
                  have HF := Lib.hid (HNX.out _ b2 (j2 + 1) (by rw [HBE.out]; show _ = _ + (0 : Int); omega) (by rw [HJO.out]; rfl) (HL5.out.set2 (j2 + 1)))
                  clear HNX HBE HJO
                  go_wp2_with fail
                  exact ⟨HF.out, by have := HMU4.out; simp [intOf]; omega⟩
                · skip
                  have HF := Lib.hid (HNX.out _ b2 j2 (by rw [HBE.out]; show _ = _ + (0 : Int); omega) (by rw [HJO.out]; show _ = _ + (0 : Int); omega) HL5.out)
                  clear HNX HBE HJO
                  go_wp2_with fail
                  exact ⟨HF.out, by have := HMU4.out; simp [intOf]; omega⟩
                · skip
                  have HF := Lib.hid (HNX.out _ b2 (j2 + 1) (by rw [HBE.out]; show _ = _ + (0 : Int); omega) (by rw [HJO.out]; rfl) (HL5.out.set2 (j2 + 1)))
                  clear HNX HBE HJO
                  go_wp2_with fail
                  exact ⟨HF.out, by have := HMU4.out; simp [intOf]; omega⟩
                · skip
                  have HF := Lib.hid (HNX.out _ b2 (j2 + 1) (by rw [HBE.out]; show _ = _ + (0 : Int); omega) (by rw [HJO.out]; rfl) (HL5.out.set2 (j2 + 1)))
                  clear HNX HBE HJO
                  go_wp2_with fail
                  exact ⟨HF.out, by have := HMU4.out; simp [intOf]; omega⟩
                · skip
                  have HF := Lib.hid (HNX.out _ b2 (j2 + 1) (by rw [HBE.out]; show _ = _ + (0 : Int); omega) (by rw [HJO.out]; rfl) (HL5.out.set2 (j2 + 1)))
                  clear HNX HBE HJO
                  go_wp2_with fail
                  exact ⟨HF.out, by have := HMU4.out; simp [intOf]; omega⟩
              · have hlxI : ¬ ((x : Int) + 1) < c.wide := by omega
                have hex : x = W c - 1 := by omega
                have HF := Lib.hid (show RL3 go c w l (.int .i64 ((y : Int) + 1 + 1)) W4 from ⟨y + 1, b2, j2, by omega, rfl, by rw [HB4.out, hex]; rfl, by rw [HJ4.out, hex]; rfl, HL4.out⟩)
                clear hex hhW hhH
                go_wp2_with fail
                exact ⟨HF.out, by have := HMU3.out; simp [intOf]; omega⟩
          · have hlyI : ¬ ((y : Int) + 1) < c.high := by omega
            have hey : y = H c - 1 := by omega
            have HB3b := Lib.hid (show b = overP c (bendP c) from by rw [HB3.out, hey, bends_eq OK.out]; rfl)
            have HJ3b := Lib.hid (show j = overP c (jointP c) from by rw [HJ3.out, hey, joints_eq OK.out]; rfl)
            clear hey hhH
            go_wp2_with fail
            clear c1
            go_loopw [15] (fun xv wr => RL5 go c w l b j xv wr) (fun xv _ => W c - (intOf xv).toNat)
            case atStart => exact ⟨0, 0, by omega, rfl, rfl, HL3.out⟩
            case round =>
              obtain ⟨x, s, hx, rfl, hs, hLW⟩ := hrel
              generalize wr = W4 at *
              have HL4 := Lib.hid hLW
              have HS4 := Lib.hid hs
              have hhW := HW.out
              have hbd := sumTo_bd (stX_bd c) x
              have hsb : 0 ≤ s ∧ s ≤ 100 := by omega
              have c0 := HL4.out.x.c 0 _ rfl
              have c1 := HL4.out.x.c 1 _ rfl
              have c2 := HL4.out.x.c 2 _ rfl
              clear hLW hs hbd
              by_cases hlx : x < W c - 1
              · have hlxI : ((x : Int) + 1) < c.wide := by omega
                obtain ⟨z, hz⟩ : ∃ z : Int, z = (x : Int) + 1 := ⟨_, rfl⟩
                have hw2 : IntKind.i64.wrap (z + 1) = z + 1 := IntWalk.i64_in _ (by omega)
                have hw3 : IntKind.i64.wrap (z - 1) = z - 1 := IntWalk.i64_in _ (by omega)
                have hw4 : IntKind.i64.wrap (c.high - 1) = c.high - 1 := IntWalk.i64_in _ (by omega)
                have hw5 : IntKind.i64.wrap (s + 1) = s + 1 := IntWalk.i64_in _ (by omega)
                have hw6 : IntKind.i64.wrap (s + 1 + 1) = s + 1 + 1 := IntWalk.i64_in _ (by omega)
                have HMU4 := Lib.hid (show W c - (z + 1).toNat < W c - z.toNat from by omega)
                have HNX := Lib.hid (fun (W' : World) (sn : Int) (h1 : sn = s + stX c x) (h : LnW go c w W' l b j sn) => (show RL5 go c w l b j (.int .i64 (z + 1)) W' from ⟨x + 1, sn, by omega, by rw [hz]; rfl, by rw [h1, HS4.out]; rfl, h⟩))
                have HST := Lib.hid (show stX c x = b2i (at2 c (z - 1) 0 != at2 c z 0) + b2i (at2 c (z - 1) (c.high - 1) != at2 c z (c.high - 1)) from by rw [hz]; rfl)
                have hzb : 0 ≤ z ∧ z ≤ 12 := by omega
                rw [← hz] at hlxI ⊢
                clear hz
                clear hhW
                go_upto_region 26 with fail
                have HC := Lib.hid (show ∀ (x y : Int) (W : World), Below W4.heap.size W4 W → Calls Try.prog 34 #[.agg #[.int .i64 c.wide, .int .i64 c.high, .slice c.A c.piece.length c.c], .int .i64 x, .int .i64 y] W (Ret (.int .i64 (at2 c x y)) W) from fun x y W h => At_any c x y W OK.out (HRW.out.next (HL4.out.b.trans (h.mono HL4.out.b.size))))
                have H3 := Lib.hid (show ∀ W : World, Below W4.heap.size W4 W → (W.cell? ⟨w.heap.size, 0, none⟩ = some (.int .i64 c.wide) ∧ W.cell? ⟨w.heap.size, 1, none⟩ = some (.int .i64 c.high) ∧ W.cell? ⟨w.heap.size, 2, none⟩ = some (.slice c.A c.piece.length c.c)) from fun W h => ⟨(HL4.out.x.next h).c 0 _ rfl, (HL4.out.x.next h).c 1 _ rfl, (HL4.out.x.next h).c 2 _ rfl⟩)
                refine wp_region_noPanic ?_
                refine wp_region_held_drew (S := fun _ => True) (by kernel_rfl) ?_ (fun _ => ?_)
                · trivial
                refine GG.sound (S0 := (fun W => Below W4.heap.size W4 W ∧ W.cell? ⟨w.heap.size, 0, none⟩ = some (.int .i64 c.wide) ∧ W.cell? ⟨w.heap.size, 1, none⟩ = some (.int .i64 c.high) ∧ W.cell? ⟨w.heap.size, 2, none⟩ = some (.slice c.A c.piece.length c.c))) _ (fun W => Below W4.heap.size W4 W) _ _ (fun W W' h hb => h.trans (hb.mono h.size)) (fun W h => ⟨h, H3.out W h⟩) ?_ _ ((Below.refl _ _).drew)
                refine gtake (i := 0) (v := ?v8) rfl (by kernel_rfl) (by kernel_rfl) (by kernel_rfl) (MakesIf.yields (Or.inl ⟨by rfl, ?hy8⟩)) ?_
                case hy8 => (intro w hSw; (try dsimp only at hSw); go_simp; try (with_reducible rfl))
                try simp only [Act.put, List.setIfInBounds_toArray, List.set_cons_zero, List.set_cons_succ]
                refine gtake (i := 1) (v := ?v9) rfl (by kernel_rfl) (by kernel_rfl) (by kernel_rfl) (MakesIf.yields (Or.inl ⟨by rfl, ?hy9⟩)) ?_
                case hy9 => (intro w hSw; (try dsimp only at hSw); go_simp; try (with_reducible rfl))
                try simp only [Act.put, List.setIfInBounds_toArray, List.set_cons_zero, List.set_cons_succ]
                refine gtake (i := 2) (v := ?v10) rfl (by kernel_rfl) (by kernel_rfl) (by kernel_rfl) (MakesIf.yields (Or.inl ⟨by rfl, ?hy10⟩)) ?_
                case hy10 => (intro w hSw; (try dsimp only at hSw); go_simp; try (with_reducible rfl))
                try simp only [Act.put, List.setIfInBounds_toArray, List.set_cons_zero, List.set_cons_succ]
                refine gtake (i := 3) (v := .int .i64 (at2 c (z - 1) (0))) rfl (by kernel_rfl) (by kernel_rfl) (by kernel_rfl) (Or.inl ⟨by rfl, fun W hW => ?_⟩) ?_
                · go_simp; exact HC.out (z - 1) (0) W hW.1
                try simp only [Act.put, List.setIfInBounds_toArray, List.set_cons_zero, List.set_cons_succ]
                refine gtake (i := 4) (v := ?v11) rfl (by kernel_rfl) (by kernel_rfl) (by kernel_rfl) (MakesIf.yields (Or.inl ⟨by rfl, ?hy11⟩)) ?_
                case hy11 => (intro w hSw; (try dsimp only at hSw); go_simp; try (with_reducible rfl))
                try simp only [Act.put, List.setIfInBounds_toArray, List.set_cons_zero, List.set_cons_succ]
                refine gtake (i := 5) (v := ?v12) rfl (by kernel_rfl) (by kernel_rfl) (by kernel_rfl) (MakesIf.yields (Or.inl ⟨by rfl, ?hy12⟩)) ?_
                case hy12 => (intro w hSw; (try dsimp only at hSw); go_simp; try (with_reducible rfl))
                try simp only [Act.put, List.setIfInBounds_toArray, List.set_cons_zero, List.set_cons_succ]
                refine gtake (i := 6) (v := .int .i64 (at2 c (z) (0))) rfl (by kernel_rfl) (by kernel_rfl) (by kernel_rfl) (Or.inl ⟨by rfl, fun W hW => ?_⟩) ?_
                · go_simp; exact HC.out (z) (0) W hW.1
                try simp only [Act.put, List.setIfInBounds_toArray, List.set_cons_zero, List.set_cons_succ]
                refine gtake (i := 7) (v := ?v13) rfl (by kernel_rfl) (by kernel_rfl) (by kernel_rfl) (MakesIf.yields (Or.inl ⟨by rfl, ?hy13⟩)) ?_
                case hy13 => (intro w hSw; (try dsimp only at hSw); go_simp; try (with_reducible rfl))
                try simp only [Act.put, List.setIfInBounds_toArray, List.set_cons_zero, List.set_cons_succ]
                refine gdone (by kernel_rfl) (fun w' hT => ?_)
                refine NoPanic.normal ?_
                clear HC H3
                have HLa := Lib.hid (HL4.out.next hT)
                clear hT
                generalize at2 c (z - 1) (0) = pa at *
                generalize at2 c (z) (0) = pb at *
                clear c0 c1 c2
                by_cases h1 : ¬ pa = pb
                · have e1 : (pa != pb) = true := by simp [h1]
                  have o3 := HLa.out.o.c 3 _ rfl
                  have f3 := HLa.out.o.fr 3
                  have HLb := Lib.hid (HLa.out.set3 (s + 1))
                  go_upto_region 28 with fail
                  generalize w'.setCell ⟨go, 3, none⟩ (.int .i64 (s + 1)) = Wb at *
                  clear o3 f3
                  have c0 := HLb.out.x.c 0 _ rfl
                  have c1 := HLb.out.x.c 1 _ rfl
                  have c2 := HLb.out.x.c 2 _ rfl
                  clear HLa
                  have HC := Lib.hid (show ∀ (x y : Int) (W : World), Below Wb.heap.size Wb W → Calls Try.prog 34 #[.agg #[.int .i64 c.wide, .int .i64 c.high, .slice c.A c.piece.length c.c], .int .i64 x, .int .i64 y] W (Ret (.int .i64 (at2 c x y)) W) from fun x y W h => At_any c x y W OK.out (HRW.out.next (HLb.out.b.trans (h.mono HLb.out.b.size))))
                  have H3 := Lib.hid (show ∀ W : World, Below Wb.heap.size Wb W → (W.cell? ⟨w.heap.size, 0, none⟩ = some (.int .i64 c.wide) ∧ W.cell? ⟨w.heap.size, 1, none⟩ = some (.int .i64 c.high) ∧ W.cell? ⟨w.heap.size, 2, none⟩ = some (.slice c.A c.piece.length c.c)) from fun W h => ⟨(HLb.out.x.next h).c 0 _ rfl, (HLb.out.x.next h).c 1 _ rfl, (HLb.out.x.next h).c 2 _ rfl⟩)
                  refine wp_region_noPanic ?_
                  refine wp_region_held_drew (S := fun _ => True) (by kernel_rfl) ?_ (fun _ => ?_)
                  · trivial
                  refine GG.sound (S0 := (fun W => Below Wb.heap.size Wb W ∧ W.cell? ⟨w.heap.size, 0, none⟩ = some (.int .i64 c.wide) ∧ W.cell? ⟨w.heap.size, 1, none⟩ = some (.int .i64 c.high) ∧ W.cell? ⟨w.heap.size, 2, none⟩ = some (.slice c.A c.piece.length c.c))) _ (fun W => Below Wb.heap.size Wb W) _ _ (fun W W' h hb => h.trans (hb.mono h.size)) (fun W h => ⟨h, H3.out W h⟩) ?_ _ ((Below.refl _ _).drew)
                  refine gtake (i := 0) (v := ?v14) rfl (by kernel_rfl) (by kernel_rfl) (by kernel_rfl) (MakesIf.yields (Or.inl ⟨by rfl, ?hy14⟩)) ?_
                  case hy14 => (intro w hSw; (try dsimp only at hSw); go_simp; try (with_reducible rfl))
                  try simp only [Act.put, List.setIfInBounds_toArray, List.set_cons_zero, List.set_cons_succ]
                  refine gtake (i := 1) (v := ?v15) rfl (by kernel_rfl) (by kernel_rfl) (by kernel_rfl) (MakesIf.yields (Or.inl ⟨by rfl, ?hy15⟩)) ?_
                  case hy15 => (intro w hSw; (try dsimp only at hSw); go_simp; try (with_reducible rfl))
                  try simp only [Act.put, List.setIfInBounds_toArray, List.set_cons_zero, List.set_cons_succ]
                  refine gtake (i := 2) (v := ?v16) rfl (by kernel_rfl) (by kernel_rfl) (by kernel_rfl) (MakesIf.yields (Or.inl ⟨by rfl, ?hy16⟩)) ?_
                  case hy16 => (intro w hSw; (try dsimp only at hSw); go_simp; try (with_reducible rfl))
                  try simp only [Act.put, List.setIfInBounds_toArray, List.set_cons_zero, List.set_cons_succ]
                  refine gtake (i := 3) (v := ?v17) rfl (by kernel_rfl) (by kernel_rfl) (by kernel_rfl) (MakesIf.yields (Or.inl ⟨by rfl, ?hy17⟩)) ?_
                  case hy17 => (intro w hSw; (try dsimp only at hSw); go_simp; try (with_reducible rfl))
                  try simp only [Act.put, List.setIfInBounds_toArray, List.set_cons_zero, List.set_cons_succ]
                  refine gtake (i := 4) (v := ?v18) rfl (by kernel_rfl) (by kernel_rfl) (by kernel_rfl) (MakesIf.yields (Or.inl ⟨by rfl, ?hy18⟩)) ?_
                  case hy18 => (intro w hSw; (try dsimp only at hSw); go_simp; try (with_reducible rfl))
                  try simp only [Act.put, List.setIfInBounds_toArray, List.set_cons_zero, List.set_cons_succ]
                  refine gtake (i := 5) (v := ?v19) rfl (by kernel_rfl) (by kernel_rfl) (by kernel_rfl) (MakesIf.yields (Or.inl ⟨by rfl, ?hy19⟩)) ?_
                  case hy19 => (intro w hSw; (try dsimp only at hSw); go_simp; try (with_reducible rfl))
                  try simp only [Act.put, List.setIfInBounds_toArray, List.set_cons_zero, List.set_cons_succ]
                  refine gtake (i := 6) (v := .int .i64 (at2 c (z - 1) (c.high - 1))) rfl (by kernel_rfl) (by kernel_rfl) (by kernel_rfl) (Or.inl ⟨by rfl, fun W hW => ?_⟩) ?_
                  · go_simp; exact HC.out (z - 1) (c.high - 1) W hW.1
                  try simp only [Act.put, List.setIfInBounds_toArray, List.set_cons_zero, List.set_cons_succ]
                  refine gtake (i := 7) (v := ?v20) rfl (by kernel_rfl) (by kernel_rfl) (by kernel_rfl) (MakesIf.yields (Or.inl ⟨by rfl, ?hy20⟩)) ?_
                  case hy20 => (intro w hSw; (try dsimp only at hSw); go_simp; try (with_reducible rfl))
                  try simp only [Act.put, List.setIfInBounds_toArray, List.set_cons_zero, List.set_cons_succ]
                  refine gtake (i := 8) (v := ?v21) rfl (by kernel_rfl) (by kernel_rfl) (by kernel_rfl) (MakesIf.yields (Or.inl ⟨by rfl, ?hy21⟩)) ?_
                  case hy21 => (intro w hSw; (try dsimp only at hSw); go_simp; try (with_reducible rfl))
                  try simp only [Act.put, List.setIfInBounds_toArray, List.set_cons_zero, List.set_cons_succ]
                  refine gtake (i := 9) (v := ?v22) rfl (by kernel_rfl) (by kernel_rfl) (by kernel_rfl) (MakesIf.yields (Or.inl ⟨by rfl, ?hy22⟩)) ?_
                  case hy22 => (intro w hSw; (try dsimp only at hSw); go_simp; try (with_reducible rfl))
                  try simp only [Act.put, List.setIfInBounds_toArray, List.set_cons_zero, List.set_cons_succ]
                  refine gtake (i := 10) (v := ?v23) rfl (by kernel_rfl) (by kernel_rfl) (by kernel_rfl) (MakesIf.yields (Or.inl ⟨by rfl, ?hy23⟩)) ?_
                  case hy23 => (intro w hSw; (try dsimp only at hSw); go_simp; try (with_reducible rfl))
                  try simp only [Act.put, List.setIfInBounds_toArray, List.set_cons_zero, List.set_cons_succ]
                  refine gtake (i := 11) (v := ?v24) rfl (by kernel_rfl) (by kernel_rfl) (by kernel_rfl) (MakesIf.yields (Or.inl ⟨by rfl, ?hy24⟩)) ?_
                  case hy24 => (intro w hSw; (try dsimp only at hSw); go_simp; try (with_reducible rfl))
                  try simp only [Act.put, List.setIfInBounds_toArray, List.set_cons_zero, List.set_cons_succ]
                  refine gtake (i := 12) (v := .int .i64 (at2 c (z) (c.high - 1))) rfl (by kernel_rfl) (by kernel_rfl) (by kernel_rfl) (Or.inl ⟨by rfl, fun W hW => ?_⟩) ?_
                  · go_simp; exact HC.out (z) (c.high - 1) W hW.1
                  try simp only [Act.put, List.setIfInBounds_toArray, List.set_cons_zero, List.set_cons_succ]
                  refine gtake (i := 13) (v := ?v25) rfl (by kernel_rfl) (by kernel_rfl) (by kernel_rfl) (MakesIf.yields (Or.inl ⟨by rfl, ?hy25⟩)) ?_
                  case hy25 => (intro w hSw; (try dsimp only at hSw); go_simp; try (with_reducible rfl))
                  try simp only [Act.put, List.setIfInBounds_toArray, List.set_cons_zero, List.set_cons_succ]
                  refine gdone (by kernel_rfl) (fun w' hT => ?_)
                  refine NoPanic.normal ?_
                  clear HC H3
                  have HLc := Lib.hid (HLb.out.next hT)
                  clear hT c0 c1 c2
                  generalize at2 c (z - 1) (c.high - 1) = qa at *
                  generalize at2 c (z) (c.high - 1) = qb at *
                  by_cases h2 : ¬ qa = qb
                  · have e2 : (qa != qb) = true := by simp [h2]
                    have o3 := HLc.out.o.c 3 _ rfl
                    have f3 := HLc.out.o.fr 3
                    have HF := Lib.hid (HNX.out _ (s + 1 + 1) (by rw [HST.out, e1, e2]; show _ = _ + (1 + (1 : Int)); omega) (HLc.out.set3 (s + 1 + 1)))
                    clear HNX HST
                    go_wp2_with fail
                    exact ⟨HF.out, by have := HMU4.out; simp [intOf]; omega⟩
                  · have h2 : qa = qb := Classical.not_not.1 h2
                    have e2 : (qa != qb) = false := by simp [h2]
                    have HF := Lib.hid (HNX.out _ (s + 1) (by rw [HST.out, e1, e2]; show _ = _ + (1 + (0 : Int)); omega) HLc.out)
                    clear HNX HST
                    go_wp2_with fail
                    exact ⟨HF.out, by have := HMU4.out; simp [intOf]; omega⟩
                · have h1 : pa = pb := Classical.not_not.1 h1
                  have e1 : (pa != pb) = false := by simp [h1]
                  have HLb := HLa
                  go_upto_region 28 with fail
                  generalize w' = Wb at *
                  have c0 := HLb.out.x.c 0 _ rfl
                  have c1 := HLb.out.x.c 1 _ rfl
                  have c2 := HLb.out.x.c 2 _ rfl
                  clear HLa
                  have HC := Lib.hid (show ∀ (x y : Int) (W : World), Below Wb.heap.size Wb W → Calls Try.prog 34 #[.agg #[.int .i64 c.wide, .int .i64 c.high, .slice c.A c.piece.length c.c], .int .i64 x, .int .i64 y] W (Ret (.int .i64 (at2 c x y)) W) from fun x y W h => At_any c x y W OK.out (HRW.out.next (HLb.out.b.trans (h.mono HLb.out.b.size))))
                  have H3 := Lib.hid (show ∀ W : World, Below Wb.heap.size Wb W → (W.cell? ⟨w.heap.size, 0, none⟩ = some (.int .i64 c.wide) ∧ W.cell? ⟨w.heap.size, 1, none⟩ = some (.int .i64 c.high) ∧ W.cell? ⟨w.heap.size, 2, none⟩ = some (.slice c.A c.piece.length c.c)) from fun W h => ⟨(HLb.out.x.next h).c 0 _ rfl, (HLb.out.x.next h).c 1 _ rfl, (HLb.out.x.next h).c 2 _ rfl⟩)
                  refine wp_region_noPanic ?_
                  refine wp_region_held_drew (S := fun _ => True) (by kernel_rfl) ?_ (fun _ => ?_)
                  · trivial
                  refine GG.sound (S0 := (fun W => Below Wb.heap.size Wb W ∧ W.cell? ⟨w.heap.size, 0, none⟩ = some (.int .i64 c.wide) ∧ W.cell? ⟨w.heap.size, 1, none⟩ = some (.int .i64 c.high) ∧ W.cell? ⟨w.heap.size, 2, none⟩ = some (.slice c.A c.piece.length c.c))) _ (fun W => Below Wb.heap.size Wb W) _ _ (fun W W' h hb => h.trans (hb.mono h.size)) (fun W h => ⟨h, H3.out W h⟩) ?_ _ ((Below.refl _ _).drew)
                  refine gtake (i := 0) (v := ?v26) rfl (by kernel_rfl) (by kernel_rfl) (by kernel_rfl) (MakesIf.yields (Or.inl ⟨by rfl, ?hy26⟩)) ?_
                  case hy26 => (intro w hSw; (try dsimp only at hSw); go_simp; try (with_reducible rfl))
                  try simp only [Act.put, List.setIfInBounds_toArray, List.set_cons_zero, List.set_cons_succ]
                  refine gtake (i := 1) (v := ?v27) rfl (by kernel_rfl) (by kernel_rfl) (by kernel_rfl) (MakesIf.yields (Or.inl ⟨by rfl, ?hy27⟩)) ?_
                  case hy27 => (intro w hSw; (try dsimp only at hSw); go_simp; try (with_reducible rfl))
                  try simp only [Act.put, List.setIfInBounds_toArray, List.set_cons_zero, List.set_cons_succ]
                  refine gtake (i := 2) (v := ?v28) rfl (by kernel_rfl) (by kernel_rfl) (by kernel_rfl) (MakesIf.yields (Or.inl ⟨by rfl, ?hy28⟩)) ?_
                  case hy28 => (intro w hSw; (try dsimp only at hSw); go_simp; try (with_reducible rfl))
                  try simp only [Act.put, List.setIfInBounds_toArray, List.set_cons_zero, List.set_cons_succ]
                  refine gtake (i := 3) (v := ?v29) rfl (by kernel_rfl) (by kernel_rfl) (by kernel_rfl) (MakesIf.yields (Or.inl ⟨by rfl, ?hy29⟩)) ?_
                  case hy29 => (intro w hSw; (try dsimp only at hSw); go_simp; try (with_reducible rfl))
                  try simp only [Act.put, List.setIfInBounds_toArray, List.set_cons_zero, List.set_cons_succ]
                  refine gtake (i := 4) (v := ?v30) rfl (by kernel_rfl) (by kernel_rfl) (by kernel_rfl) (MakesIf.yields (Or.inl ⟨by rfl, ?hy30⟩)) ?_
                  case hy30 => (intro w hSw; (try dsimp only at hSw); go_simp; try (with_reducible rfl))
                  try simp only [Act.put, List.setIfInBounds_toArray, List.set_cons_zero, List.set_cons_succ]
                  refine gtake (i := 5) (v := ?v31) rfl (by kernel_rfl) (by kernel_rfl) (by kernel_rfl) (MakesIf.yields (Or.inl ⟨by rfl, ?hy31⟩)) ?_
                  case hy31 => (intro w hSw; (try dsimp only at hSw); go_simp; try (with_reducible rfl))
                  try simp only [Act.put, List.setIfInBounds_toArray, List.set_cons_zero, List.set_cons_succ]
                  refine gtake (i := 6) (v := .int .i64 (at2 c (z - 1) (c.high - 1))) rfl (by kernel_rfl) (by kernel_rfl) (by kernel_rfl) (Or.inl ⟨by rfl, fun W hW => ?_⟩) ?_
                  · go_simp; exact HC.out (z - 1) (c.high - 1) W hW.1
                  try simp only [Act.put, List.setIfInBounds_toArray, List.set_cons_zero, List.set_cons_succ]
                  refine gtake (i := 7) (v := ?v32) rfl (by kernel_rfl) (by kernel_rfl) (by kernel_rfl) (MakesIf.yields (Or.inl ⟨by rfl, ?hy32⟩)) ?_
                  case hy32 => (intro w hSw; (try dsimp only at hSw); go_simp; try (with_reducible rfl))
                  try simp only [Act.put, List.setIfInBounds_toArray, List.set_cons_zero, List.set_cons_succ]
                  refine gtake (i := 8) (v := ?v33) rfl (by kernel_rfl) (by kernel_rfl) (by kernel_rfl) (MakesIf.yields (Or.inl ⟨by rfl, ?hy33⟩)) ?_
                  case hy33 => (intro w hSw; (try dsimp only at hSw); go_simp; try (with_reducible rfl))
                  try simp only [Act.put, List.setIfInBounds_toArray, List.set_cons_zero, List.set_cons_succ]
                  refine gtake (i := 9) (v := ?v34) rfl (by kernel_rfl) (by kernel_rfl) (by kernel_rfl) (MakesIf.yields (Or.inl ⟨by rfl, ?hy34⟩)) ?_
                  case hy34 => (intro w hSw; (try dsimp only at hSw); go_simp; try (with_reducible rfl))
                  try simp only [Act.put, List.setIfInBounds_toArray, List.set_cons_zero, List.set_cons_succ]
                  refine gtake (i := 10) (v := ?v35) rfl (by kernel_rfl) (by kernel_rfl) (by kernel_rfl) (MakesIf.yields (Or.inl ⟨by rfl, ?hy35⟩)) ?_
                  case hy35 => (intro w hSw; (try dsimp only at hSw); go_simp; try (with_reducible rfl))
                  try simp only [Act.put, List.setIfInBounds_toArray, List.set_cons_zero, List.set_cons_succ]
                  refine gtake (i := 11) (v := ?v36) rfl (by kernel_rfl) (by kernel_rfl) (by kernel_rfl) (MakesIf.yields (Or.inl ⟨by rfl, ?hy36⟩)) ?_
                  case hy36 => (intro w hSw; (try dsimp only at hSw); go_simp; try (with_reducible rfl))
                  try simp only [Act.put, List.setIfInBounds_toArray, List.set_cons_zero, List.set_cons_succ]
                  refine gtake (i := 12) (v := .int .i64 (at2 c (z) (c.high - 1))) rfl (by kernel_rfl) (by kernel_rfl) (by kernel_rfl) (Or.inl ⟨by rfl, fun W hW => ?_⟩) ?_
                  · go_simp; exact HC.out (z) (c.high - 1) W hW.1
                  try simp only [Act.put, List.setIfInBounds_toArray, List.set_cons_zero, List.set_cons_succ]
                  refine gtake (i := 13) (v := ?v37) rfl (by kernel_rfl) (by kernel_rfl) (by kernel_rfl) (MakesIf.yields (Or.inl ⟨by rfl, ?hy37⟩)) ?_
                  case hy37 => (intro w hSw; (try dsimp only at hSw); go_simp; try (with_reducible rfl))
                  try simp only [Act.put, List.setIfInBounds_toArray, List.set_cons_zero, List.set_cons_succ]
                  refine gdone (by kernel_rfl) (fun w' hT => ?_)
                  refine NoPanic.normal ?_
                  clear HC H3
                  have HLc := Lib.hid (HLb.out.next hT)
                  clear hT c0 c1 c2
                  generalize at2 c (z - 1) (c.high - 1) = qa at *
                  generalize at2 c (z) (c.high - 1) = qb at *
                  by_cases h2 : ¬ qa = qb
                  · have e2 : (qa != qb) = true := by simp [h2]
                    have o3 := HLc.out.o.c 3 _ rfl
                    have f3 := HLc.out.o.fr 3
                    have HF := Lib.hid (HNX.out _ (s + 1) (by rw [HST.out, e1, e2]; show _ = _ + (0 + (1 : Int)); omega) (HLc.out.set3 (s + 1)))
                    clear HNX HST
                    go_wp2_with fail
                    exact ⟨HF.out, by have := HMU4.out; simp [intOf]; omega⟩
                  · have h2 : qa = qb := Classical.not_not.1 h2
                    have e2 : (qa != qb) = false := by simp [h2]
                    have HF := Lib.hid (HNX.out _ (s) (by rw [HST.out, e1, e2]; show _ = _ + (0 + (0 : Int)); omega) HLc.out)
                    clear HNX HST
                    go_wp2_with fail
                    exact ⟨HF.out, by have := HMU4.out; simp [intOf]; omega⟩
              · have hlxI : ¬ ((x : Int) + 1) < c.wide := by omega
                have hex : x = W c - 1 := by omega
                have HS5 := Lib.hid (show s = sumTo (stX c) (W c - 1) from by rw [HS4.out, hex])
                clear hex hhW
                go_wp2_with fail
                clear c0 c1 c2
                go_loopw [16] (fun yv wr => RL6 go c w l b j s yv wr) (fun yv _ => H c - (intOf yv).toNat)
                case atStart => exact ⟨0, s, by omega, rfl, by show _ = _ + 0; omega, HL4.out⟩
                case round =>
                  obtain ⟨y2, s2, hy2, rfl, hs, hLW⟩ := hrel
                  generalize wr = W5 at *
                  have HL5 := Lib.hid hLW
                  have HS6 := Lib.hid hs
                  have hhH := HH.out
                  have hbd := sumTo_bd (stY_bd c) y2
                  have hsb2 : 0 ≤ s2 ∧ s2 ≤ 1000 := by omega
                  have c0 := HL5.out.x.c 0 _ rfl
                  have c1 := HL5.out.x.c 1 _ rfl
                  have c2 := HL5.out.x.c 2 _ rfl
                  clear hLW hs hbd
                  by_cases hly2 : y2 < H c - 1
                  · have hlyI2 : ((y2 : Int) + 1) < c.high := by omega
                    obtain ⟨z, hz⟩ : ∃ z : Int, z = (y2 : Int) + 1 := ⟨_, rfl⟩
                    have hw2 : IntKind.i64.wrap (z + 1) = z + 1 := IntWalk.i64_in _ (by omega)
                    have hw3 : IntKind.i64.wrap (z - 1) = z - 1 := IntWalk.i64_in _ (by omega)
                    have hw4 : IntKind.i64.wrap (c.wide - 1) = c.wide - 1 := IntWalk.i64_in _ (by omega)
                    have hw5 : IntKind.i64.wrap (s2 + 1) = s2 + 1 := IntWalk.i64_in _ (by omega)
                    have hw6 : IntKind.i64.wrap (s2 + 1 + 1) = s2 + 1 + 1 := IntWalk.i64_in _ (by omega)
                    have HMU5 := Lib.hid (show H c - (z + 1).toNat < H c - z.toNat from by omega)
                    have HNX := Lib.hid (fun (W' : World) (sn : Int) (h1 : sn = s2 + stY c y2) (h : LnW go c w W' l b j sn) => (show RL6 go c w l b j s (.int .i64 (z + 1)) W' from ⟨y2 + 1, sn, by omega, by rw [hz]; rfl, by rw [h1, HS6.out]; show _ = _ + (_ + _); omega, h⟩))
                    have HST := Lib.hid (show stY c y2 = b2i (at2 c 0 (z - 1) != at2 c 0 z) + b2i (at2 c (c.wide - 1) (z - 1) != at2 c (c.wide - 1) z) from by rw [hz]; rfl)
                    have hzb : 0 ≤ z ∧ z ≤ 12 := by omega
                    rw [← hz] at hlyI2 ⊢
                    clear hz
                    clear hhH
                    go_upto_region 33 with fail
                    have HC := Lib.hid (show ∀ (x y : Int) (W : World), Below W5.heap.size W5 W → Calls Try.prog 34 #[.agg #[.int .i64 c.wide, .int .i64 c.high, .slice c.A c.piece.length c.c], .int .i64 x, .int .i64 y] W (Ret (.int .i64 (at2 c x y)) W) from fun x y W h => At_any c x y W OK.out (HRW.out.next (HL5.out.b.trans (h.mono HL5.out.b.size))))
                    have H3 := Lib.hid (show ∀ W : World, Below W5.heap.size W5 W → (W.cell? ⟨w.heap.size, 0, none⟩ = some (.int .i64 c.wide) ∧ W.cell? ⟨w.heap.size, 1, none⟩ = some (.int .i64 c.high) ∧ W.cell? ⟨w.heap.size, 2, none⟩ = some (.slice c.A c.piece.length c.c)) from fun W h => ⟨(HL5.out.x.next h).c 0 _ rfl, (HL5.out.x.next h).c 1 _ rfl, (HL5.out.x.next h).c 2 _ rfl⟩)
                    refine wp_region_noPanic ?_
                    refine wp_region_held_drew (S := fun _ => True) (by kernel_rfl) ?_ (fun _ => ?_)
                    · trivial
                    refine GG.sound (S0 := (fun W => Below W5.heap.size W5 W ∧ W.cell? ⟨w.heap.size, 0, none⟩ = some (.int .i64 c.wide) ∧ W.cell? ⟨w.heap.size, 1, none⟩ = some (.int .i64 c.high) ∧ W.cell? ⟨w.heap.size, 2, none⟩ = some (.slice c.A c.piece.length c.c))) _ (fun W => Below W5.heap.size W5 W) _ _ (fun W W' h hb => h.trans (hb.mono h.size)) (fun W h => ⟨h, H3.out W h⟩) ?_ _ ((Below.refl _ _).drew)
                    refine gtake (i := 0) (v := ?v38) rfl (by kernel_rfl) (by kernel_rfl) (by kernel_rfl) (MakesIf.yields (Or.inl ⟨by rfl, ?hy38⟩)) ?_
                    case hy38 => (intro w hSw; (try dsimp only at hSw); go_simp; try (with_reducible rfl))
                    try simp only [Act.put, List.setIfInBounds_toArray, List.set_cons_zero, List.set_cons_succ]
                    refine gtake (i := 1) (v := ?v39) rfl (by kernel_rfl) (by kernel_rfl) (by kernel_rfl) (MakesIf.yields (Or.inl ⟨by rfl, ?hy39⟩)) ?_
                    case hy39 => (intro w hSw; (try dsimp only at hSw); go_simp; try (with_reducible rfl))
                    try simp only [Act.put, List.setIfInBounds_toArray, List.set_cons_zero, List.set_cons_succ]
                    refine gtake (i := 2) (v := ?v40) rfl (by kernel_rfl) (by kernel_rfl) (by kernel_rfl) (MakesIf.yields (Or.inl ⟨by rfl, ?hy40⟩)) ?_
                    case hy40 => (intro w hSw; (try dsimp only at hSw); go_simp; try (with_reducible rfl))
                    try simp only [Act.put, List.setIfInBounds_toArray, List.set_cons_zero, List.set_cons_succ]
                    refine gtake (i := 3) (v := .int .i64 (at2 c (0) (z - 1))) rfl (by kernel_rfl) (by kernel_rfl) (by kernel_rfl) (Or.inl ⟨by rfl, fun W hW => ?_⟩) ?_
                    · go_simp; exact HC.out (0) (z - 1) W hW.1
                    try simp only [Act.put, List.setIfInBounds_toArray, List.set_cons_zero, List.set_cons_succ]
                    refine gtake (i := 4) (v := ?v41) rfl (by kernel_rfl) (by kernel_rfl) (by kernel_rfl) (MakesIf.yields (Or.inl ⟨by rfl, ?hy41⟩)) ?_
                    case hy41 => (intro w hSw; (try dsimp only at hSw); go_simp; try (with_reducible rfl))
                    try simp only [Act.put, List.setIfInBounds_toArray, List.set_cons_zero, List.set_cons_succ]
                    refine gtake (i := 5) (v := ?v42) rfl (by kernel_rfl) (by kernel_rfl) (by kernel_rfl) (MakesIf.yields (Or.inl ⟨by rfl, ?hy42⟩)) ?_
                    case hy42 => (intro w hSw; (try dsimp only at hSw); go_simp; try (with_reducible rfl))
                    try simp only [Act.put, List.setIfInBounds_toArray, List.set_cons_zero, List.set_cons_succ]
                    refine gtake (i := 6) (v := .int .i64 (at2 c (0) (z))) rfl (by kernel_rfl) (by kernel_rfl) (by kernel_rfl) (Or.inl ⟨by rfl, fun W hW => ?_⟩) ?_
                    · go_simp; exact HC.out (0) (z) W hW.1
                    try simp only [Act.put, List.setIfInBounds_toArray, List.set_cons_zero, List.set_cons_succ]
                    refine gtake (i := 7) (v := ?v43) rfl (by kernel_rfl) (by kernel_rfl) (by kernel_rfl) (MakesIf.yields (Or.inl ⟨by rfl, ?hy43⟩)) ?_
                    case hy43 => (intro w hSw; (try dsimp only at hSw); go_simp; try (with_reducible rfl))
                    try simp only [Act.put, List.setIfInBounds_toArray, List.set_cons_zero, List.set_cons_succ]
                    refine gdone (by kernel_rfl) (fun w' hT => ?_)
                    refine NoPanic.normal ?_
                    clear HC H3
                    have HLa := Lib.hid (HL5.out.next hT)
                    clear hT
                    generalize at2 c (0) (z - 1) = pa at *
                    generalize at2 c (0) (z) = pb at *
                    clear c0 c1 c2
                    by_cases h1 : ¬ pa = pb
                    · have e1 : (pa != pb) = true := by simp [h1]
                      have o3 := HLa.out.o.c 3 _ rfl
                      have f3 := HLa.out.o.fr 3
                      have HLb := Lib.hid (HLa.out.set3 (s2 + 1))
                      go_upto_region 35 with fail
                      generalize w'.setCell ⟨go, 3, none⟩ (.int .i64 (s2 + 1)) = Wb at *
                      clear o3 f3
                      have c0 := HLb.out.x.c 0 _ rfl
                      have c1 := HLb.out.x.c 1 _ rfl
                      have c2 := HLb.out.x.c 2 _ rfl
                      clear HLa
                      have HC := Lib.hid (show ∀ (x y : Int) (W : World), Below Wb.heap.size Wb W → Calls Try.prog 34 #[.agg #[.int .i64 c.wide, .int .i64 c.high, .slice c.A c.piece.length c.c], .int .i64 x, .int .i64 y] W (Ret (.int .i64 (at2 c x y)) W) from fun x y W h => At_any c x y W OK.out (HRW.out.next (HLb.out.b.trans (h.mono HLb.out.b.size))))
                      have H3 := Lib.hid (show ∀ W : World, Below Wb.heap.size Wb W → (W.cell? ⟨w.heap.size, 0, none⟩ = some (.int .i64 c.wide) ∧ W.cell? ⟨w.heap.size, 1, none⟩ = some (.int .i64 c.high) ∧ W.cell? ⟨w.heap.size, 2, none⟩ = some (.slice c.A c.piece.length c.c)) from fun W h => ⟨(HLb.out.x.next h).c 0 _ rfl, (HLb.out.x.next h).c 1 _ rfl, (HLb.out.x.next h).c 2 _ rfl⟩)
                      refine wp_region_noPanic ?_
                      refine wp_region_held_drew (S := fun _ => True) (by kernel_rfl) ?_ (fun _ => ?_)
                      · trivial
                      refine GG.sound (S0 := (fun W => Below Wb.heap.size Wb W ∧ W.cell? ⟨w.heap.size, 0, none⟩ = some (.int .i64 c.wide) ∧ W.cell? ⟨w.heap.size, 1, none⟩ = some (.int .i64 c.high) ∧ W.cell? ⟨w.heap.size, 2, none⟩ = some (.slice c.A c.piece.length c.c))) _ (fun W => Below Wb.heap.size Wb W) _ _ (fun W W' h hb => h.trans (hb.mono h.size)) (fun W h => ⟨h, H3.out W h⟩) ?_ _ ((Below.refl _ _).drew)
                      refine gtake (i := 0) (v := ?v44) rfl (by kernel_rfl) (by kernel_rfl) (by kernel_rfl) (MakesIf.yields (Or.inl ⟨by rfl, ?hy44⟩)) ?_
                      case hy44 => (intro w hSw; (try dsimp only at hSw); go_simp; try (with_reducible rfl))
                      try simp only [Act.put, List.setIfInBounds_toArray, List.set_cons_zero, List.set_cons_succ]
                      refine gtake (i := 1) (v := ?v45) rfl (by kernel_rfl) (by kernel_rfl) (by kernel_rfl) (MakesIf.yields (Or.inl ⟨by rfl, ?hy45⟩)) ?_
                      case hy45 => (intro w hSw; (try dsimp only at hSw); go_simp; try (with_reducible rfl))
                      try simp only [Act.put, List.setIfInBounds_toArray, List.set_cons_zero, List.set_cons_succ]
                      refine gtake (i := 2) (v := ?v46) rfl (by kernel_rfl) (by kernel_rfl) (by kernel_rfl) (MakesIf.yields (Or.inl ⟨by rfl, ?hy46⟩)) ?_
                      case hy46 => (intro w hSw; (try dsimp only at hSw); go_simp; try (with_reducible rfl))
                      try simp only [Act.put, List.setIfInBounds_toArray, List.set_cons_zero, List.set_cons_succ]
                      refine gtake (i := 3) (v := ?v47) rfl (by kernel_rfl) (by kernel_rfl) (by kernel_rfl) (MakesIf.yields (Or.inl ⟨by rfl, ?hy47⟩)) ?_
                      case hy47 => (intro w hSw; (try dsimp only at hSw); go_simp; try (with_reducible rfl))
                      try simp only [Act.put, List.setIfInBounds_toArray, List.set_cons_zero, List.set_cons_succ]
                      refine gtake (i := 4) (v := ?v48) rfl (by kernel_rfl) (by kernel_rfl) (by kernel_rfl) (MakesIf.yields (Or.inl ⟨by rfl, ?hy48⟩)) ?_
                      case hy48 => (intro w hSw; (try dsimp only at hSw); go_simp; try (with_reducible rfl))
                      try simp only [Act.put, List.setIfInBounds_toArray, List.set_cons_zero, List.set_cons_succ]
                      refine gtake (i := 5) (v := ?v49) rfl (by kernel_rfl) (by kernel_rfl) (by kernel_rfl) (MakesIf.yields (Or.inl ⟨by rfl, ?hy49⟩)) ?_
                      case hy49 => (intro w hSw; (try dsimp only at hSw); go_simp; try (with_reducible rfl))
                      try simp only [Act.put, List.setIfInBounds_toArray, List.set_cons_zero, List.set_cons_succ]
                      refine gtake (i := 6) (v := .int .i64 (at2 c (c.wide - 1) (z - 1))) rfl (by kernel_rfl) (by kernel_rfl) (by kernel_rfl) (Or.inl ⟨by rfl, fun W hW => ?_⟩) ?_
                      · go_simp; exact HC.out (c.wide - 1) (z - 1) W hW.1
                      try simp only [Act.put, List.setIfInBounds_toArray, List.set_cons_zero, List.set_cons_succ]
                      refine gtake (i := 7) (v := ?v50) rfl (by kernel_rfl) (by kernel_rfl) (by kernel_rfl) (MakesIf.yields (Or.inl ⟨by rfl, ?hy50⟩)) ?_
                      case hy50 => (intro w hSw; (try dsimp only at hSw); go_simp; try (with_reducible rfl))
                      try simp only [Act.put, List.setIfInBounds_toArray, List.set_cons_zero, List.set_cons_succ]
                      refine gtake (i := 8) (v := ?v51) rfl (by kernel_rfl) (by kernel_rfl) (by kernel_rfl) (MakesIf.yields (Or.inl ⟨by rfl, ?hy51⟩)) ?_
                      case hy51 => (intro w hSw; (try dsimp only at hSw); go_simp; try (with_reducible rfl))
                      try simp only [Act.put, List.setIfInBounds_toArray, List.set_cons_zero, List.set_cons_succ]
                      refine gtake (i := 9) (v := ?v52) rfl (by kernel_rfl) (by kernel_rfl) (by kernel_rfl) (MakesIf.yields (Or.inl ⟨by rfl, ?hy52⟩)) ?_
                      case hy52 => (intro w hSw; (try dsimp only at hSw); go_simp; try (with_reducible rfl))
                      try simp only [Act.put, List.setIfInBounds_toArray, List.set_cons_zero, List.set_cons_succ]
                      refine gtake (i := 10) (v := ?v53) rfl (by kernel_rfl) (by kernel_rfl) (by kernel_rfl) (MakesIf.yields (Or.inl ⟨by rfl, ?hy53⟩)) ?_
                      case hy53 => (intro w hSw; (try dsimp only at hSw); go_simp; try (with_reducible rfl))
                      try simp only [Act.put, List.setIfInBounds_toArray, List.set_cons_zero, List.set_cons_succ]
                      refine gtake (i := 11) (v := ?v54) rfl (by kernel_rfl) (by kernel_rfl) (by kernel_rfl) (MakesIf.yields (Or.inl ⟨by rfl, ?hy54⟩)) ?_
                      case hy54 => (intro w hSw; (try dsimp only at hSw); go_simp; try (with_reducible rfl))
                      try simp only [Act.put, List.setIfInBounds_toArray, List.set_cons_zero, List.set_cons_succ]
                      refine gtake (i := 12) (v := .int .i64 (at2 c (c.wide - 1) (z))) rfl (by kernel_rfl) (by kernel_rfl) (by kernel_rfl) (Or.inl ⟨by rfl, fun W hW => ?_⟩) ?_
                      · go_simp; exact HC.out (c.wide - 1) (z) W hW.1
                      try simp only [Act.put, List.setIfInBounds_toArray, List.set_cons_zero, List.set_cons_succ]
                      refine gtake (i := 13) (v := ?v55) rfl (by kernel_rfl) (by kernel_rfl) (by kernel_rfl) (MakesIf.yields (Or.inl ⟨by rfl, ?hy55⟩)) ?_
                      case hy55 => (intro w hSw; (try dsimp only at hSw); go_simp; try (with_reducible rfl))
                      try simp only [Act.put, List.setIfInBounds_toArray, List.set_cons_zero, List.set_cons_succ]
                      refine gdone (by kernel_rfl) (fun w' hT => ?_)
                      refine NoPanic.normal ?_
                      clear HC H3
                      have HLc := Lib.hid (HLb.out.next hT)
                      clear hT c0 c1 c2
                      generalize at2 c (c.wide - 1) (z - 1) = qa at *
                      generalize at2 c (c.wide - 1) (z) = qb at *
                      by_cases h2 : ¬ qa = qb
                      · have e2 : (qa != qb) = true := by simp [h2]
                        have o3 := HLc.out.o.c 3 _ rfl
                        have f3 := HLc.out.o.fr 3
                        have HF := Lib.hid (HNX.out _ (s2 + 1 + 1) (by rw [HST.out, e1, e2]; show _ = _ + (1 + (1 : Int)); omega) (HLc.out.set3 (s2 + 1 + 1)))
                        clear HNX HST
                        go_wp2_with fail
                        exact ⟨HF.out, by have := HMU5.out; simp [intOf]; omega⟩
                      · have h2 : qa = qb := Classical.not_not.1 h2
                        have e2 : (qa != qb) = false := by simp [h2]
                        have HF := Lib.hid (HNX.out _ (s2 + 1) (by rw [HST.out, e1, e2]; show _ = _ + (1 + (0 : Int)); omega) HLc.out)
                        clear HNX HST
                        go_wp2_with fail
                        exact ⟨HF.out, by have := HMU5.out; simp [intOf]; omega⟩
                    · have h1 : pa = pb := Classical.not_not.1 h1
                      have e1 : (pa != pb) = false := by simp [h1]
                      have HLb := HLa
                      go_upto_region 35 with fail
                      generalize w' = Wb at *
                      have c0 := HLb.out.x.c 0 _ rfl
                      have c1 := HLb.out.x.c 1 _ rfl
                      have c2 := HLb.out.x.c 2 _ rfl
                      clear HLa
                      have HC := Lib.hid (show ∀ (x y : Int) (W : World), Below Wb.heap.size Wb W → Calls Try.prog 34 #[.agg #[.int .i64 c.wide, .int .i64 c.high, .slice c.A c.piece.length c.c], .int .i64 x, .int .i64 y] W (Ret (.int .i64 (at2 c x y)) W) from fun x y W h => At_any c x y W OK.out (HRW.out.next (HLb.out.b.trans (h.mono HLb.out.b.size))))
                      have H3 := Lib.hid (show ∀ W : World, Below Wb.heap.size Wb W → (W.cell? ⟨w.heap.size, 0, none⟩ = some (.int .i64 c.wide) ∧ W.cell? ⟨w.heap.size, 1, none⟩ = some (.int .i64 c.high) ∧ W.cell? ⟨w.heap.size, 2, none⟩ = some (.slice c.A c.piece.length c.c)) from fun W h => ⟨(HLb.out.x.next h).c 0 _ rfl, (HLb.out.x.next h).c 1 _ rfl, (HLb.out.x.next h).c 2 _ rfl⟩)
                      refine wp_region_noPanic ?_
                      refine wp_region_held_drew (S := fun _ => True) (by kernel_rfl) ?_ (fun _ => ?_)
                      · trivial
                      refine GG.sound (S0 := (fun W => Below Wb.heap.size Wb W ∧ W.cell? ⟨w.heap.size, 0, none⟩ = some (.int .i64 c.wide) ∧ W.cell? ⟨w.heap.size, 1, none⟩ = some (.int .i64 c.high) ∧ W.cell? ⟨w.heap.size, 2, none⟩ = some (.slice c.A c.piece.length c.c))) _ (fun W => Below Wb.heap.size Wb W) _ _ (fun W W' h hb => h.trans (hb.mono h.size)) (fun W h => ⟨h, H3.out W h⟩) ?_ _ ((Below.refl _ _).drew)
                      refine gtake (i := 0) (v := ?v56) rfl (by kernel_rfl) (by kernel_rfl) (by kernel_rfl) (MakesIf.yields (Or.inl ⟨by rfl, ?hy56⟩)) ?_
                      case hy56 => (intro w hSw; (try dsimp only at hSw); go_simp; try (with_reducible rfl))
                      try simp only [Act.put, List.setIfInBounds_toArray, List.set_cons_zero, List.set_cons_succ]
                      refine gtake (i := 1) (v := ?v57) rfl (by kernel_rfl) (by kernel_rfl) (by kernel_rfl) (MakesIf.yields (Or.inl ⟨by rfl, ?hy57⟩)) ?_
                      case hy57 => (intro w hSw; (try dsimp only at hSw); go_simp; try (with_reducible rfl))
                      try simp only [Act.put, List.setIfInBounds_toArray, List.set_cons_zero, List.set_cons_succ]
                      refine gtake (i := 2) (v := ?v58) rfl (by kernel_rfl) (by kernel_rfl) (by kernel_rfl) (MakesIf.yields (Or.inl ⟨by rfl, ?hy58⟩)) ?_
                      case hy58 => (intro w hSw; (try dsimp only at hSw); go_simp; try (with_reducible rfl))
                      try simp only [Act.put, List.setIfInBounds_toArray, List.set_cons_zero, List.set_cons_succ]
                      refine gtake (i := 3) (v := ?v59) rfl (by kernel_rfl) (by kernel_rfl) (by kernel_rfl) (MakesIf.yields (Or.inl ⟨by rfl, ?hy59⟩)) ?_
                      case hy59 => (intro w hSw; (try dsimp only at hSw); go_simp; try (with_reducible rfl))
                      try simp only [Act.put, List.setIfInBounds_toArray, List.set_cons_zero, List.set_cons_succ]
                      refine gtake (i := 4) (v := ?v60) rfl (by kernel_rfl) (by kernel_rfl) (by kernel_rfl) (MakesIf.yields (Or.inl ⟨by rfl, ?hy60⟩)) ?_
                      case hy60 => (intro w hSw; (try dsimp only at hSw); go_simp; try (with_reducible rfl))
                      try simp only [Act.put, List.setIfInBounds_toArray, List.set_cons_zero, List.set_cons_succ]
                      refine gtake (i := 5) (v := ?v61) rfl (by kernel_rfl) (by kernel_rfl) (by kernel_rfl) (MakesIf.yields (Or.inl ⟨by rfl, ?hy61⟩)) ?_
                      case hy61 => (intro w hSw; (try dsimp only at hSw); go_simp; try (with_reducible rfl))
                      try simp only [Act.put, List.setIfInBounds_toArray, List.set_cons_zero, List.set_cons_succ]
                      refine gtake (i := 6) (v := .int .i64 (at2 c (c.wide - 1) (z - 1))) rfl (by kernel_rfl) (by kernel_rfl) (by kernel_rfl) (Or.inl ⟨by rfl, fun W hW => ?_⟩) ?_
                      · go_simp; exact HC.out (c.wide - 1) (z - 1) W hW.1
                      try simp only [Act.put, List.setIfInBounds_toArray, List.set_cons_zero, List.set_cons_succ]
                      refine gtake (i := 7) (v := ?v62) rfl (by kernel_rfl) (by kernel_rfl) (by kernel_rfl) (MakesIf.yields (Or.inl ⟨by rfl, ?hy62⟩)) ?_
                      case hy62 => (intro w hSw; (try dsimp only at hSw); go_simp; try (with_reducible rfl))
                      try simp only [Act.put, List.setIfInBounds_toArray, List.set_cons_zero, List.set_cons_succ]
                      refine gtake (i := 8) (v := ?v63) rfl (by kernel_rfl) (by kernel_rfl) (by kernel_rfl) (MakesIf.yields (Or.inl ⟨by rfl, ?hy63⟩)) ?_
                      case hy63 => (intro w hSw; (try dsimp only at hSw); go_simp; try (with_reducible rfl))
                      try simp only [Act.put, List.setIfInBounds_toArray, List.set_cons_zero, List.set_cons_succ]
                      refine gtake (i := 9) (v := ?v64) rfl (by kernel_rfl) (by kernel_rfl) (by kernel_rfl) (MakesIf.yields (Or.inl ⟨by rfl, ?hy64⟩)) ?_
                      case hy64 => (intro w hSw; (try dsimp only at hSw); go_simp; try (with_reducible rfl))
                      try simp only [Act.put, List.setIfInBounds_toArray, List.set_cons_zero, List.set_cons_succ]
                      refine gtake (i := 10) (v := ?v65) rfl (by kernel_rfl) (by kernel_rfl) (by kernel_rfl) (MakesIf.yields (Or.inl ⟨by rfl, ?hy65⟩)) ?_
                      case hy65 => (intro w hSw; (try dsimp only at hSw); go_simp; try (with_reducible rfl))
                      try simp only [Act.put, List.setIfInBounds_toArray, List.set_cons_zero, List.set_cons_succ]
                      refine gtake (i := 11) (v := ?v66) rfl (by kernel_rfl) (by kernel_rfl) (by kernel_rfl) (MakesIf.yields (Or.inl ⟨by rfl, ?hy66⟩)) ?_
                      case hy66 => (intro w hSw; (try dsimp only at hSw); go_simp; try (with_reducible rfl))
                      try simp only [Act.put, List.setIfInBounds_toArray, List.set_cons_zero, List.set_cons_succ]
                      refine gtake (i := 12) (v := .int .i64 (at2 c (c.wide - 1) (z))) rfl (by kernel_rfl) (by kernel_rfl) (by kernel_rfl) (Or.inl ⟨by rfl, fun W hW => ?_⟩) ?_
                      · go_simp; exact HC.out (c.wide - 1) (z) W hW.1
                      try simp only [Act.put, List.setIfInBounds_toArray, List.set_cons_zero, List.set_cons_succ]
                      refine gtake (i := 13) (v := ?v67) rfl (by kernel_rfl) (by kernel_rfl) (by kernel_rfl) (MakesIf.yields (Or.inl ⟨by rfl, ?hy67⟩)) ?_
                      case hy67 => (intro w hSw; (try dsimp only at hSw); go_simp; try (with_reducible rfl))
                      try simp only [Act.put, List.setIfInBounds_toArray, List.set_cons_zero, List.set_cons_succ]
                      refine gdone (by kernel_rfl) (fun w' hT => ?_)
                      refine NoPanic.normal ?_
                      clear HC H3
                      have HLc := Lib.hid (HLb.out.next hT)
                      clear hT c0 c1 c2
                      generalize at2 c (c.wide - 1) (z - 1) = qa at *
                      generalize at2 c (c.wide - 1) (z) = qb at *
                      by_cases h2 : ¬ qa = qb
                      · have e2 : (qa != qb) = true := by simp [h2]
                        have o3 := HLc.out.o.c 3 _ rfl
                        have f3 := HLc.out.o.fr 3
                        have HF := Lib.hid (HNX.out _ (s2 + 1) (by rw [HST.out, e1, e2]; show _ = _ + (0 + (1 : Int)); omega) (HLc.out.set3 (s2 + 1)))
                        clear HNX HST
                        go_wp2_with fail
                        exact ⟨HF.out, by have := HMU5.out; simp [intOf]; omega⟩
                      · have h2 : qa = qb := Classical.not_not.1 h2
                        have e2 : (qa != qb) = false := by simp [h2]
                        have HF := Lib.hid (HNX.out _ (s2) (by rw [HST.out, e1, e2]; show _ = _ + (0 + (0 : Int)); omega) HLc.out)
                        clear HNX HST
                        go_wp2_with fail
                        exact ⟨HF.out, by have := HMU5.out; simp [intOf]; omega⟩
                  · have hlyI2 : ¬ ((y2 : Int) + 1) < c.high := by omega
                    have hey2 : y2 = H c - 1 := by omega
                    have HS7 := Lib.hid (show s2 = overP c (startP c) from by rw [HS6.out, HS5.out, hey2, starts_eq OK.out]; rfl)
                    have d0 := HL5.out.o.c 0 _ rfl
                    have d1 := HL5.out.o.c 1 _ rfl
                    have d2 := HL5.out.o.c 2 _ rfl
                    have d3 := HL5.out.o.c 3 _ rfl
                    have g0 := HL5.out.y.c 0 _ rfl
                    have g1 := HL5.out.y.c 1 _ rfl
                    have g2 := HL5.out.y.c 2 _ rfl
                    have g3 := HL5.out.y.c 3 _ rfl
                    have f0 := HL5.out.y.fr 0
                    have f1 := HL5.out.y.fr 1
                    have f2 := HL5.out.y.fr 2
                    have f3 := HL5.out.y.fr 3
                    have HRES := Lib.hid (loadL (HL5.out.y.setAll [.int .i64 l, .int .i64 b, .int .i64 j, .int .i64 s2] rfl))
                    have HBS := Lib.hid (below_setCells (b := w.heap.size + 1) (B := w.heap.size) (by omega) [.int .i64 l, .int .i64 b, .int .i64 j, .int .i64 s2] 0 HL5.out.b)
                    clear hey2 hhH
                    go_wp2_with fail
                    ((try simp only [Exit.inBlock, Exit.then]); refine bodyPost_ret (results_cellA rfl rfl HRES.out) rfl ?_)
                    exact ret_lines (by rw [HLS.out, if_pos HCE0.out, HLA2.out, HB3b.out, HJ3b.out, HS7.out]) HCE0.out HBS.out
  · have HE := Lib.hid h1
    have e1 : ((checkS c).2 == 0) = false := by simp [h1]
    have f0 := HY.out.fr 0
    have f1 := HY.out.fr 1
    have f2 := HY.out.fr 2
    have f3 := HY.out.fr 3
    have g0 := HY.out.c 0 _ rfl
    have g1 := HY.out.c 1 _ rfl
    have g2 := HY.out.c 2 _ rfl
    have g3 := HY.out.c 3 _ rfl
    have HRES := Lib.hid (loadL (HY.out.setAll [.int .i64 0, .int .i64 0, .int .i64 0, .int .i64 0] rfl))
    have HBS := Lib.hid (below_setCells (b := w.heap.size + 1) (B := w.heap.size) (by omega) [.int .i64 0, .int .i64 0, .int .i64 0, .int .i64 0] 0 HB.out)
    generalize (checkS c).1 = n0 at *
    have HCE1 := Lib.hid (show cutE c = (checkS c).2 from rfl)
    generalize (checkS c).2 = ee at *
    go_wp2_with fail
    ((try simp only [Exit.inBlock, Exit.then]); refine bodyPost_ret (results_cellA rfl rfl HRES.out) rfl ?_)
    exact ret_lines (by rw [HLS.out, if_neg (by rw [HCE1.out]; exact HE.out)]) HCE1.out HBS.out
end Go.Proofs.Ytjlicbdnppodgaa
