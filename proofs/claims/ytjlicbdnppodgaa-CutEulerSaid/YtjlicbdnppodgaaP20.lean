import Derived.Test.YtjlicbdnppodgaaP19
import Derived.Test.YtjlicbdnppodgaaLns
namespace Go.Proofs.Ytjlicbdnppodgaa
open Go.RowKit
/-! The program: Lines. -/
set_option maxHeartbeats 400000 in
theorem containsEq_any (v : Int) (A : Option Addr) (c : Nat) (l : List Int) (w : World) (h : At w w.heap.size 1 icell A l) (hl : l.length ≤ 9223372036854775807) :
    Calls Try.prog 55 #[.slice A l.length c, .int .i64 v] w (RetQ (.bool (decide (0 ≤ firstI (eqPc v) l))) w) := by
  have H1 := Lib.hid (indexEq_any v A c l w h hl)
  clear h hl
  go_enter Try.func55, Try.ntmps55
  go_upto_region 1 with fail
  go_wp2_with (go_at_call 45; (with_reducible refine (H1.out).mono ?_); rintro e w' ⟨rfl, rfl⟩)
  go_ret
  exact ⟨rfl, rfl⟩
theorem grown_setC (W : World) (b o : Nat) (u : Value) : W.grownBy (W.setCell ⟨b, o, none⟩ u) (some b) :=
  ⟨rfl, rfl, rfl, by rw [World.size_setCell]; exact Nat.le_refl _, fun i _ hi => blkSet (fun e => hi (by rw [e])) _ _⟩
structure LnP (c : Cut) (bm gp : Nat) (w W : World) (l b j s : Int) : Prop where
  o : Bx W (w.heap.size + 1) [.int .i64 l, .int .i64 b, .int .i64 j, .int .i64 s]
  x : Bx W w.heap.size (cutL c)
  p : Bx W gp (picL c bm)
  pic : PicAt c bm W
  b : Below w.heap.size w W
  g : w.heap.size + 2 ≤ gp
section
variable {c : Cut} {bm gp : Nat} {w W W' : World} {l b j s : Int}
theorem LnP.next (h : LnP c bm gp w W l b j s) (hb : Below W.heap.size W W') : LnP c bm gp w W' l b j s :=
  ⟨h.o.next hb, h.x.next hb, h.p.next hb, MapIs.next h.pic hb, h.b.trans (hb.mono h.b.size), h.g⟩
theorem LnP.grow (h : LnP c bm gp w W l b j s) {r : Nat} (hg : W.grownBy W' (some r)) (hr : r ≠ w.heap.size + 1 ∧ r ≠ w.heap.size ∧ r ≠ gp ∧ r ≠ bm ∧ w.heap.size ≤ r) : LnP c bm gp w W' l b j s :=
  ⟨h.o.gk hg (fun q e => by injection e with e; omega), h.x.gk hg (fun q e => by injection e with e; omega), h.p.gk hg (fun q e => by injection e with e; omega), MapIs.grown h.pic hg (fun e => by injection e with e; omega), h.b.grown hg h.b.size (fun q e => by injection e with e; omega), h.g⟩
theorem LnP.set (h : LnP c bm gp w W l b j s) {k : Nat} (v : Value) {l' b' j' s' : Int} (hk : k < 4) (he : [.int .i64 l, .int .i64 b, .int .i64 j, .int .i64 s].set k v = [.int .i64 l', .int .i64 b', .int .i64 j', .int .i64 s']) : LnP c bm gp w (W.setCell ⟨w.heap.size + 1, k, none⟩ v) l' b' j' s' := by
  have hg := h.g
  refine ⟨?_, h.x.far (by omega) _, h.p.far (by omega) _, h.pic.of (blkSet (bx_map_ne h.o h.pic) _ _), h.b.setCell (p := ⟨w.heap.size + 1, k, none⟩) (by show w.heap.size ≤ w.heap.size + 1; omega) _, h.g⟩
  rw [← he]
  exact h.o.set (by simpa using hk) v
theorem LnP.set0 (h : LnP c bm gp w W l b j s) (l' : Int) : LnP c bm gp w (W.setCell ⟨w.heap.size + 1, 0, none⟩ (.int .i64 l')) l' b j s := h.set _ (by omega) rfl
theorem LnP.set1 (h : LnP c bm gp w W l b j s) (b' : Int) : LnP c bm gp w (W.setCell ⟨w.heap.size + 1, 1, none⟩ (.int .i64 b')) l b' j s := h.set _ (by omega) rfl
theorem LnP.set2 (h : LnP c bm gp w W l b j s) (j' : Int) : LnP c bm gp w (W.setCell ⟨w.heap.size + 1, 2, none⟩ (.int .i64 j')) l b j' s := h.set _ (by omega) rfl
theorem LnP.set3 (h : LnP c bm gp w W l b j s) (s' : Int) : LnP c bm gp w (W.setCell ⟨w.heap.size + 1, 3, none⟩ (.int .i64 s')) l b j s' := h.set _ (by omega) rfl
end
theorem loadLp {w : World} {b : Nat} {a0 a1 a2 a3 : Value} (h : Bx w b [a0, a1, a2, a3]) : (loadVar 39 ⟨b, 0, none⟩).run Try.prog w = .ok (.agg #[a0, a1, a2, a3]) w := by
  have h0 := h.c 0 _ rfl
  have h1 := h.c 1 _ rfl
  have h2 := h.c 2 _ rfl
  have h3 := h.c 3 _ rfl
  go_simp
theorem ret_linesP {c : Cut} {w w' : World} {l b j s e : Int} (h1 : linesS c = (l, b, j, s)) (h2 : cutE c = e) (hb : Below w.heap.size w w') : Ret (linesV c) w (.returned (.tuple #[.agg #[.int .i64 l, .int .i64 b, .int .i64 j, .int .i64 s], .int .i64 e])) w' := by
  refine ⟨?_, hb⟩
  unfold linesV
  rw [h1, h2]
/-! The corners of a point. -/
def cornL (c : Cut) (x y : Int) : List Int := [cornA c x y, cornB c x y, cornF c x y, cornD c x y]
theorem corn_edge (c : Cut) (x y : Int) : decide (0 ≤ firstI (eqPc (-1)) (cornL c x y)) = edgeP c x y := by
  unfold cornL edgeP
  rw [Bool.eq_iff_iff, decide_eq_true_iff, decide_eq_true_iff]
  rcases firstI_cases (eqPc (-1)) [cornA c x y, cornB c x y, cornF c x y, cornD c x y] with ⟨k, hk, e, hp, -⟩ | ⟨e, hj⟩
  · rw [e]
    refine ⟨fun _ => ?_, fun _ => by omega⟩
    unfold eqPc at hp
    simp only [List.length_cons, List.length_nil] at hk
    have hk : k < 4 := by omega
    match k, hk with
    | 0, _ => simp at hp; omega
    | 1, _ => simp at hp; omega
    | 2, _ => simp at hp; omega
    | 3, _ => simp at hp; omega
  · rw [e]
    refine ⟨fun h => by omega, fun h => ?_⟩
    have h0 := hj 0 (by simp)
    have h1 := hj 1 (by simp)
    have h2 := hj 2 (by simp)
    have h3 := hj 3 (by simp)
    unfold eqPc at h0 h1 h2 h3
    simp at h0 h1 h2 h3
    omega
theorem manyP_bd (c : Cut) (x y : Int) : 0 ≤ manyP c x y ∧ manyP c x y ≤ 4 := by
  unfold manyP
  have h1 := b2i_bd (upB c x y)
  have h2 := b2i_bd (rightB c x y)
  have h3 := b2i_bd (downB c x y)
  have h4 := b2i_bd (leftB c x y)
  omega
theorem stP_bd (c : Cut) (x y : Int) : (0 ≤ startP c x y ∧ startP c x y ≤ 4) ∧ (0 ≤ jointP c x y ∧ jointP c x y ≤ 4) ∧ (0 ≤ bendP c x y ∧ bendP c x y ≤ 4) := by
  have := manyP_bd c x y
  refine ⟨?_, ?_, ?_⟩
  · unfold startP; split <;> omega
  · unfold jointP; split <;> (try split) <;> omega
  · unfold bendP; split <;> (try split) <;> (try split) <;> omega
def rowP (c : Cut) (g : Int → Int → Int) (y : Nat) : Int := sumTo (fun x => g (x : Int) (y : Int)) (W c + 1)
theorem over_bd {c : Cut} (ok : OkC c) {g : Int → Int → Int} (h : ∀ x y, 0 ≤ g x y ∧ g x y ≤ 4) {y x : Nat} (hy : y ≤ 13) (hx : x ≤ 13) : 0 ≤ sumTo (rowP c g) y + sumTo (fun x : Nat => g (x : Int) (y : Int)) x ∧ sumTo (rowP c g) y + sumTo (fun x : Nat => g (x : Int) (y : Int)) x ≤ 1000 := by
  have hw := ok.w
  have h1 := sumTo_bd (f := rowP c g) (B := 52) (fun y => by
    have := sumTo_bd (f := fun x : Nat => g (x : Int) (y : Int)) (B := 4) (fun x => h _ _) (Go.Proofs.Ytjlicbdnppodgaa.W c + 1)
    have hW : ((Go.Proofs.Ytjlicbdnppodgaa.W c : Nat) : Int) = c.wide := by unfold Go.Proofs.Ytjlicbdnppodgaa.W; omega
    unfold rowP
    omega) y
  have h2 := sumTo_bd (f := fun x : Nat => g (x : Int) (y : Int)) (B := 4) (fun x => h _ _) x
  omega
/-! The loops' relations. -/
structure RMp (c : Cut) (bm gp be rr : Nat) (w W : World) (done : Pt → Bool) (cnt : Nat) : Prop where
  ln : LnP c bm gp w W (lenD c done) 0 0 0
  rg : RangeIs Try.prog 84 kv2 vvI be rr (edgO c) done cnt W
def RP3 (c : Cut) (bm gp : Nat) (w : World) (l : Int) (yv : Value) (wr : World) : Prop := ∃ (y : Nat) (b j s : Int), y ≤ H c + 1 ∧ yv = .int .i64 (y : Int) ∧ b = sumTo (rowP c (bendP c)) y ∧ j = sumTo (rowP c (jointP c)) y ∧ s = sumTo (rowP c (startP c)) y ∧ LnP c bm gp w wr l b j s
def RP4 (c : Cut) (bm gp : Nat) (w : World) (l : Int) (y : Nat) (xv : Value) (wr : World) : Prop := ∃ (x : Nat) (b j s : Int), x ≤ W c + 1 ∧ xv = .int .i64 (x : Int) ∧ b = sumTo (rowP c (bendP c)) y + sumTo (fun x : Nat => bendP c (x : Int) (y : Int)) x ∧ j = sumTo (rowP c (jointP c)) y + sumTo (fun x : Nat => jointP c (x : Int) (y : Int)) x ∧ s = sumTo (rowP c (startP c)) y + sumTo (fun x : Nat => startP c (x : Int) (y : Int)) x ∧ LnP c bm gp w wr l b j s
/-- The edges of a point, as far as they have been looked at. -/
def cutsL (u r d l : Bool) (i : Nat) : List Value := [.bool (decide (1 ≤ i) && u), .bool (decide (2 ≤ i) && r), .bool (decide (3 ≤ i) && d), .bool (decide (4 ≤ i) && l)]
def manyI (u r d l : Bool) (i : Nat) : Int := b2i (decide (1 ≤ i) && u) + b2i (decide (2 ≤ i) && r) + b2i (decide (3 ≤ i) && d) + b2i (decide (4 ≤ i) && l)
structure RPi (c : Cut) (bm gp : Nat) (w : World) (l b j s : Int) (g14 g15 : Nat) (pa pb pf pd : Int) (u r d le : Bool) (i : Nat) (mv : Value) (W : World) : Prop where
  hi : i ≤ 4
  m : mv = .int .i64 (manyI u r d le i)
  ln : LnP c bm gp w W l b j s
  x14 : Bx W g14 [.int .i64 pa, .int .i64 pb, .int .i64 pf, .int .i64 pd]
  x15 : Bx W g15 (cutsL u r d le i)
  ne : g14 ≠ g15 ∧ w.heap.size + 1 ≠ g15 ∧ w.heap.size + 1 ≠ g14 ∧ w.heap.size ≤ g15 ∧ gp ≠ g15 ∧ w.heap.size ≠ g15 ∧ bm ≠ g15
theorem RPi.no {c : Cut} {bm gp : Nat} {w : World} {l b j s : Int} {g14 g15 : Nat} {pa pb pf pd : Int} {u r d le : Bool} {i : Nat} {mv : Value} {W : World} (h : RPi c bm gp w l b j s g14 g15 pa pb pf pd u r d le i mv W) (hi : i < 4) (hq : [u, r, d, le].getD i false = false) : RPi c bm gp w l b j s g14 g15 pa pb pf pd u r d le (i + 1) mv W := by
  have e : manyI u r d le (i + 1) = manyI u r d le i ∧ cutsL u r d le (i + 1) = cutsL u r d le i := by
    rcases (by omega : i = 0 ∨ i = 1 ∨ i = 2 ∨ i = 3) with rfl | rfl | rfl | rfl
    · obtain rfl : u = false := hq
      exact ⟨rfl, rfl⟩
    · obtain rfl : r = false := hq
      exact ⟨rfl, rfl⟩
    · obtain rfl : d = false := hq
      exact ⟨rfl, rfl⟩
    · obtain rfl : le = false := hq
      exact ⟨rfl, rfl⟩
  exact ⟨by omega, by rw [e.1]; exact h.m, h.ln, h.x14, by rw [e.2]; exact h.x15, h.ne⟩
theorem RPi.yes {c : Cut} {bm gp : Nat} {w : World} {l b j s : Int} {g14 g15 : Nat} {pa pb pf pd : Int} {u r d le : Bool} {i : Nat} {mv : Value} {W : World} (h : RPi c bm gp w l b j s g14 g15 pa pb pf pd u r d le i mv W) (hi : i < 4) (hq : [u, r, d, le].getD i false = true) : RPi c bm gp w l b j s g14 g15 pa pb pf pd u r d le (i + 1) (.int .i64 (manyI u r d le i + 1)) (W.setCell ⟨g15, i, none⟩ (.bool true)) := by
  have e : manyI u r d le (i + 1) = manyI u r d le i + 1 ∧ cutsL u r d le (i + 1) = (cutsL u r d le i).set i (.bool true) := by
    rcases (by omega : i = 0 ∨ i = 1 ∨ i = 2 ∨ i = 3) with rfl | rfl | rfl | rfl
    · obtain rfl : u = true := hq
      exact ⟨by cases r <;> cases d <;> cases le <;> rfl, rfl⟩
    · obtain rfl : r = true := hq
      exact ⟨by cases u <;> cases d <;> cases le <;> rfl, rfl⟩
    · obtain rfl : d = true := hq
      exact ⟨by cases u <;> cases r <;> cases le <;> rfl, rfl⟩
    · obtain rfl : le = true := hq
      exact ⟨by cases u <;> cases r <;> cases d <;> rfl, rfl⟩
  have hn := h.ne
  refine ⟨by omega, by rw [e.1], ?_, h.x14.far (by omega) _, by rw [e.2]; exact h.x15.set (by simp [cutsL]; omega) _, h.ne⟩
  exact ⟨h.ln.o.far (by omega) _, h.ln.x.far (by omega) _, h.ln.p.far (by omega) _, h.ln.pic.of (blkSet (by omega) _ _), h.ln.b.setCell (p := ⟨g15, i, none⟩) (by show w.heap.size ≤ g15; omega) _, h.ln.g⟩
theorem manyI_bd (u r d le : Bool) (i : Nat) : 0 ≤ manyI u r d le i ∧ manyI u r d le i ≤ 4 := by
  unfold manyI
  have h1 := b2i_bd (decide (1 ≤ i) && u)
  have h2 := b2i_bd (decide (2 ≤ i) && r)
  have h3 := b2i_bd (decide (3 ≤ i) && d)
  have h4 := b2i_bd (decide (4 ≤ i) && le)
  omega
theorem at_four {W : World} {g : Nat} {pa pb pf pd : Int} (h : Bx W g [.int .i64 pa, .int .i64 pb, .int .i64 pf, .int .i64 pd]) : At W W.heap.size 1 icell (some ⟨g, 0, none⟩) [pa, pb, pf, pd] := by
  intro k x hx
  refine ⟨g, 0, rfl, h.lt, fun j u hu => ?_⟩
  unfold icell at hu
  match j, hu with
  | 0, hu =>
    injection hu with hu
    subst hu
    rw [Nat.mul_one, Nat.zero_add, Nat.add_zero]
    refine h.c k _ ?_
    match k, hx with
    | 0, hx => injection hx with hx; subst hx; rfl
    | 1, hx => injection hx with hx; subst hx; rfl
    | 2, hx => injection hx with hx; subst hx; rfl
    | 3, hx => injection hx with hx; subst hx; rfl
def lnM2 : List (Option Nat) := [none, none, none, none, none, none, none, none, some 8, some 9, some 10, some 11, some 12, some 13, some 14, some 15, some 16, some 17, some 18, some 19, none, none, none, none, none, none, none, none, none, none, none, none, none, none, none, none, none, none, none, none, none, none, none, none, none, none, none, none, none, none, none, none, none, some 53, some 54, some 55, some 56, some 57, some 58, some 59, some 60, some 61, some 62, some 63, some 64, some 65, some 66, some 67, some 68, some 69, some 70, some 71, some 72, some 73, some 74, some 75, some 76, some 77, some 78, some 79, some 80, some 81, some 82, some 83, some 84, some 85, some 86, some 87, some 88, some 89, some 90, some 91, some 92, some 93, some 94, some 95, some 96, some 97, some 98, some 99, some 100, some 101, some 102, some 103, some 104, some 105, some 106, some 107, some 108, some 109, some 110, some 111, some 112, some 113, some 114, some 115, some 116, some 117, some 118, some 119, some 120, some 121, some 122, some 123, some 124, some 125, some 126, some 127, some 128, some 129, some 130, some 131, some 132, some 133, some 134, some 135, some 136, some 137, some 138, some 139, some 140, some 141, some 142, some 143, some 144, some 145, some 146, some 147, some 148, none]
def lnM3 : List (Option Nat) := [none, none, none, none, none, none, none, none, none, some 9, some 10, some 11, some 12, some 13, some 14, some 15, some 16, some 17, some 18, some 19, none, none, none, none, none, none, none, none, none, none, none, none, none, none, none, none, none, none, none, none, none, none, none, none, none, none, none, none, none, none, none, none, none, none, none, none, none, none, none, some 59, some 60, some 61, some 62, some 63, some 64, some 65, some 66, some 67, some 68, some 69, some 70, some 71, some 72, some 73, some 74, some 75, some 76, some 77, some 78, some 79, some 80, some 81, some 82, some 83, some 84, some 85, some 86, some 87, some 88, some 89, some 90, some 91, some 92, some 93, some 94, some 95, some 96, some 97, some 98, some 99, some 100, some 101, some 102, some 103, some 104, some 105, some 106, some 107, some 108, some 109, some 110, some 111, some 112, some 113, some 114, some 115, some 116, some 117, some 118, some 119, some 120, some 121, some 122, some 123, some 124, some 125, some 126, some 127, some 128, some 129, some 130, some 131, some 132, some 133, some 134, some 135, some 136, some 137, some 138, some 139, some 140, some 141, some 142, some 143, some 144, some 145, some 146, some 147, some 148, none]
def lnM4 : List (Option Nat) := [none, none, none, none, none, none, none, none, none, none, none, none, none, none, none, none, some 16, some 17, some 18, some 19, none, none, none, none, none, none, none, none, none, none, none, none, none, none, none, none, none, none, none, none, none, none, none, none, none, none, none, none, none, none, none, none, none, none, none, none, none, none, none, none, none, none, none, none, none, none, none, none, none, none, none, none, none, none, none, none, none, none, none, none, none, none, none, none, none, none, none, none, none, none, none, none, none, none, none, some 95, some 96, some 97, some 98, some 99, some 100, some 101, some 102, some 103, some 104, some 105, some 106, some 107, some 108, some 109, some 110, some 111, some 112, some 113, some 114, some 115, some 116, some 117, some 118, some 119, none, none, none, none, none, none, none, none, none, none, none, none, none, none, none, none, none, none, none, none, none, none, none, none, none, none, none, none, none, none]
set_option maxRecDepth 100000 in
set_option maxHeartbeats 8000000 in
theorem LinesP_any (c : Cut) (w : World) (hr : CutAt w w.heap.size c) : Calls Try.prog 22 #[.agg #[.int .i64 c.wide, .int .i64 c.high, .slice c.A c.piece.length c.c]] w (Ret (linesV c) w) := by
  have n1 := nxA w (.cells #[.int .i64 c.wide, .int .i64 c.high, .slice c.A c.piece.length c.c] 24)
  have n2 := nxA (w.alloc (.cells #[.int .i64 c.wide, .int .i64 c.high, .slice c.A c.piece.length c.c] 24)) (.cells #[.int .i64 0, .int .i64 0, .int .i64 0, .int .i64 0] 39)
  have HX0 := Lib.hid ((Bx.new w #[.int .i64 c.wide, .int .i64 c.high, .slice c.A c.piece.length c.c] 24).next n2)
  have HY0 := Lib.hid (Bx.new (w.alloc (.cells #[.int .i64 c.wide, .int .i64 c.high, .slice c.A c.piece.length c.c] 24)) #[.int .i64 0, .int .i64 0, .int .i64 0, .int .i64 0] 39)
  have HB0 := Lib.hid (n1.trans (n2.mono n1.size))
  have HR0 := Lib.hid (hr.next HB0.out)
  simp only [World.size_alloc] at HY0
  have HLS := Lib.hid (show linesS c = if cutE c = 0 then (lenS c, overP c (bendP c), overP c (jointP c), overP c (startP c)) else (0, 0, 0, 0) from rfl)
  clear hr n1 n2
  go_enter Try.func22, Try.ntmps22
  go_upto_region 1 with fail
  generalize (w.alloc (.cells #[.int .i64 c.wide, .int .i64 c.high, .slice c.A c.piece.length c.c] 24)).alloc (.cells #[.int .i64 0, .int .i64 0, .int .i64 0, .int .i64 0] 39) = V at *
  have c0 := HX0.out.c 0 _ rfl
  have c1 := HX0.out.c 1 _ rfl
  have c2 := HX0.out.c 2 _ rfl
  go_wp2_with fail
  refine (open_any c 0 V HR0.out).mono ?_
  rintro e V0 ⟨ho, hbw⟩
  clear c0 c1 c2
  have HXw := Lib.hid (HX0.out.next hbw)
  have HYw := Lib.hid (HY0.out.next hbw)
  have HBw := Lib.hid (HB0.out.trans (hbw.mono HB0.out.size))
  clear HX0 HY0 HR0 HB0 hbw
  rcases ho with ho | ho
  · obtain ⟨h0, rfl⟩ := ho
    have hn := nxA V0 (.cells #[.int .i64 0, .int .i64 0, .slice none 0 0, .map none] 71)
    have HY := Lib.hid (HYw.out.next hn)
    have HB := Lib.hid (HBw.out.trans (hn.mono HBw.out.size))
    have HE := Lib.hid (show cutE c = openE c 0 from (open_zero c).symm)
    have HL := Lib.hid (show linesS c = (0, 0, 0, 0) from by rw [HLS.out, if_neg (by rw [HE.out]; exact h0)])
    have e0 : (openE c 0 == 0) = false := by simp [h0]
    have f0 := HY.out.fr 0
    have f1 := HY.out.fr 1
    have f2 := HY.out.fr 2
    have f3 := HY.out.fr 3
    have g0 := HY.out.c 0 _ rfl
    have g1 := HY.out.c 1 _ rfl
    have g2 := HY.out.c 2 _ rfl
    have g3 := HY.out.c 3 _ rfl
    have HRES := Lib.hid (loadLp (HY.out.setAll [.int .i64 0, .int .i64 0, .int .i64 0, .int .i64 0] rfl))
    have HBS := Lib.hid (below_setCells (b := w.heap.size + 1) (B := w.heap.size) (by omega) [.int .i64 0, .int .i64 0, .int .i64 0, .int .i64 0] 0 HB.out)
    clear h0 hn HXw HYw HBw
    generalize openE c 0 = x at *
    go_wp2_with fail
    ((try simp only [Exit.inBlock, Exit.then]); refine bodyPost_ret (results_cellA rfl rfl HRES.out) rfl ?_)
    exact ret_linesP HL.out HE.out HBS.out
  · obtain ⟨h0, bm, rfl, hbm, hpic⟩ := ho
    have HG := Lib.hid (openE_good h0)
    have HCE := Lib.hid (show cutE c = 0 from (open_zero c).symm.trans h0)
    have hn := nxA V0 (.cells #[.int .i64 c.wide, .int .i64 c.high, .slice c.A c.piece.length c.c, .map (some (bm))] 71)
    obtain ⟨gp, hgp⟩ : ∃ g, g = V0.heap.size := ⟨_, rfl⟩
    have HL0 := Lib.hid (show LnP c bm gp w (V0.alloc (.cells #[.int .i64 c.wide, .int .i64 c.high, .slice c.A c.piece.length c.c, .map (some (bm))] 71)) 0 0 0 0 from ⟨HYw.out.next hn, HXw.out.next hn, by rw [hgp]; exact Bx.new V0 #[.int .i64 c.wide, .int .i64 c.high, .slice c.A c.piece.length c.c, .map (some (bm))] 71, MapIs.next hpic hn, HBw.out.trans (hn.mono HBw.out.size), by have := HYw.out.lt; omega⟩)
    have HW := Lib.hid (show ((W c : Nat) : Int) = c.wide from by have := HG.out.ok.w; unfold W; omega)
    have HH := Lib.hid (show ((H c : Nat) : Int) = c.high from by have := HG.out.ok.h; unfold H; omega)
    have hwd := HG.out.ok.w
    have hhd := HG.out.ok.h
    clear h0 hbm hpic hn HXw HYw HBw
    go_upto_region 2 with fail
    rw [← hgp]
    clear hgp
    generalize V0.alloc (.cells #[.int .i64 c.wide, .int .i64 c.high, .slice c.A c.piece.length c.c, .map (some (bm))] 71) = V1 at *
    have q0 := HL0.out.p.c 0 _ rfl
    have q1 := HL0.out.p.c 1 _ rfl
    have q2 := HL0.out.p.c 2 _ rfl
    have q3 := HL0.out.p.c 3 _ rfl
    go_wp2_with fail
    refine (edges_any c bm V1 HG.out.ok HL0.out.pic).mono ?_
    rintro e V2 ⟨be, rfl, hbe, hed, hb2⟩
    obtain ⟨rr, hrr⟩ : ∃ rr, rr = V2.heap.size := ⟨_, rfl⟩
    obtain ⟨V3, cnt0, hrun, hR0, hB3, hz3⟩ := hed.range mapP_und
    rw [← hrr] at hrun hR0 hz3
    have HL3 := Lib.hid ((HL0.out.next hb2).next hB3)
    have hbm := HL0.out.pic.lt
    have hgp := HL0.out.g
    have hgp2 := HL0.out.p.lt
    have HNE := Lib.hid (show (rr ≠ w.heap.size + 1 ∧ rr ≠ w.heap.size ∧ rr ≠ gp ∧ rr ≠ bm ∧ w.heap.size ≤ rr) ∧ be ≠ w.heap.size + 1 from by have := hb2.size; omega)
    have HM0 := Lib.hid (show RMp c bm gp be rr w V3 (fun _ => false) cnt0 from ⟨by rw [lenD_none]; exact HL3.out, hR0⟩)
    clear hed hbe hb2 hR0 hB3 hz3 hbm hgp hgp2 hrr q0 q1 q2 q3
    go_wp2_with fail
    clear hrun HL3
    go_loopw [] (fun wr => ∃ done cnt, RMp c bm gp be rr w wr done cnt) (fun wr => leftW be rr wr)
    case atStart => exact ⟨_, _, HM0.out⟩
    case round =>
      obtain ⟨done, cnt, hr⟩ := hrel
      have HM := Lib.hid hr
      have HLE := Lib.hid hr.rg.left
      generalize wr = W1 at *
      rcases hr.rg.step kv2_inj 0 with ⟨h0, hall, hnx⟩ | ⟨p, v, W2, cnt2, hf, hdn, -, hnx, hr2, hlt2, hg2, hz2, hent⟩
      · have HLN := Lib.hid (show LnP c bm gp w W1 (lenS c) 0 0 0 from by have := hr.ln; rw [lenD_all hall] at this; exact this)
        obtain ⟨l, hl⟩ : ∃ l, l = lenS c := ⟨_, rfl⟩
        rw [← hl] at HLN HLS
        clear hr hall hl
        go_wp2_with fail
        refine wp_loopM lnM2 (fun g W => RP3 c bm gp w l (g 8) W) (fun g _ => H c + 1 - (intOf (g 8)).toNat) (by kernel_rfl) ⟨0, 0, 0, 0, by omega, slotF_at rfl, rfl, rfl, rfl, HLN.out⟩ ?_
        · intro f8 wr hrel
          obtain ⟨y, b, j, s, hy, e8, hb, hj, hs, hLW⟩ := hrel
          simp only [lnM2, mixF, e8]
          have HE8 := Lib.hid e8
          clear e8
          generalize wr = W3 at *
          have HL3 := Lib.hid hLW
          have HB3 := Lib.hid hb
          have HJ3 := Lib.hid hj
          have HS3 := Lib.hid hs
          have hhH := HH.out
          have c1 := HL3.out.x.c 1 _ rfl
          clear hLW hb hj hs
          by_cases hly : y < H c + 1
          · have hlyI : (y : Int) ≤ c.high := by omega
            have hw1 : IntKind.i64.wrap ((y : Int) + 1) = (y : Int) + 1 := IntWalk.i64_in _ (by omega)
            have hw1b : IntKind.i64.wrap ((y : Int) - 1) = (y : Int) - 1 := IntWalk.i64_in _ (by omega)
            have HMU3 := Lib.hid (show H c + 1 - (y + 1) < H c + 1 - y from by omega)
            clear hhH
            go_wp2_with fail
            clear c1
            refine wp_loopM lnM3 (fun g W' => RP4 c bm gp w l y (g 9) W') (fun g _ => W c + 1 - (intOf (g 9)).toNat) (by kernel_rfl) ⟨0, b, j, s, by omega, slotF_at rfl, by rw [HB3.out]; show _ = _ + 0; omega, by rw [HJ3.out]; show _ = _ + 0; omega, by rw [HS3.out]; show _ = _ + 0; omega, HL3.out⟩ ?_
            · intro f9 wr hrel
              obtain ⟨x, b2, j2, s2, hx, e9, hb, hj, hs, hLW⟩ := hrel
              simp only [lnM3, mixF, e9]
              have HE9 := Lib.hid e9
              clear e9
              generalize wr = W4 at *
              have HL4 := Lib.hid hLW
              have HB4 := Lib.hid hb
              have HJ4 := Lib.hid hj
              have HS4 := Lib.hid hs
              have hhW := HW.out
              have hhH := HH.out
              have hbb : 0 ≤ b2 ∧ b2 ≤ 1000 := by rw [hb]; exact over_bd HG.out.ok (fun x y => (stP_bd c x y).2.2) (by omega) (by omega)
              have hjb : 0 ≤ j2 ∧ j2 ≤ 1000 := by rw [hj]; exact over_bd HG.out.ok (fun x y => (stP_bd c x y).2.1) (by omega) (by omega)
              have hsb : 0 ≤ s2 ∧ s2 ≤ 1000 := by rw [hs]; exact over_bd HG.out.ok (fun x y => (stP_bd c x y).1) (by omega) (by omega)
              have c0 := HL4.out.x.c 0 _ rfl
              clear hLW hb hj hs
              by_cases hlx : x < W c + 1
              · have hlxI : (x : Int) ≤ c.wide := by omega
                have hw2 : IntKind.i64.wrap ((x : Int) + 1) = (x : Int) + 1 := IntWalk.i64_in _ (by omega)
                have hw2b : IntKind.i64.wrap ((x : Int) - 1) = (x : Int) - 1 := IntWalk.i64_in _ (by omega)
                have hw3 : IntKind.i64.wrap (b2 + 1) = b2 + 1 := IntWalk.i64_in _ (by omega)
                have hw4 : IntKind.i64.wrap (j2 + 1) = j2 + 1 := IntWalk.i64_in _ (by omega)
                have HMU4 := Lib.hid (show W c + 1 - (x + 1) < W c + 1 - x from by omega)
                have hxl : (x : Int) ≤ 12 := by omega
                have hyl : (y : Int) ≤ 12 := by omega
                have HNX := Lib.hid (fun (W' : World) (bn jn sn : Int) (h1 : bn = b2 + bendP c (x : Int) (y : Int)) (h2 : jn = j2 + jointP c (x : Int) (y : Int)) (h3 : sn = s2 + startP c (x : Int) (y : Int)) (h : LnP c bm gp w W' l bn jn sn) => (show RP4 c bm gp w l y (.int .i64 ((x : Int) + 1)) W' from ⟨x + 1, bn, jn, sn, by omega, rfl, by rw [h1, HB4.out]; exact Int.add_assoc _ _ _, by rw [h2, HJ4.out]; exact Int.add_assoc _ _ _, by rw [h3, HS4.out]; exact Int.add_assoc _ _ _, h⟩))
                have HED := Lib.hid (corn_edge c (x : Int) (y : Int))
                have HSP := Lib.hid (show startP c (x : Int) (y : Int) = if edgeP c (x : Int) (y : Int) = true then manyP c (x : Int) (y : Int) else 0 from rfl)
                have HJP := Lib.hid (show jointP c (x : Int) (y : Int) = if edgeP c (x : Int) (y : Int) = true then 0 else if 2 < manyP c (x : Int) (y : Int) then 1 else 0 from rfl)
                have HBP := Lib.hid (show bendP c (x : Int) (y : Int) = if edgeP c (x : Int) (y : Int) = true then 0 else if 2 < manyP c (x : Int) (y : Int) then 0 else if manyP c (x : Int) (y : Int) = 2 ∧ upB c (x : Int) (y : Int) ≠ downB c (x : Int) (y : Int) then 1 else 0 from rfl)
                have HMP := Lib.hid (show manyP c (x : Int) (y : Int) = b2i (upB c (x : Int) (y : Int)) + b2i (rightB c (x : Int) (y : Int)) + b2i (downB c (x : Int) (y : Int)) + b2i (leftB c (x : Int) (y : Int)) from rfl)
                have HUB := Lib.hid (show upB c (x : Int) (y : Int) = cutB (at2 c (x : Int) ((y : Int) - 1)) (at2 c ((x : Int) - 1) ((y : Int) - 1)) from rfl)
                have HRB := Lib.hid (show rightB c (x : Int) (y : Int) = cutB (at2 c (x : Int) (y : Int)) (at2 c (x : Int) ((y : Int) - 1)) from rfl)
                have HDB := Lib.hid (show downB c (x : Int) (y : Int) = cutB (at2 c ((x : Int) - 1) (y : Int)) (at2 c (x : Int) (y : Int)) from rfl)
                have HLB := Lib.hid (show leftB c (x : Int) (y : Int) = cutB (at2 c ((x : Int) - 1) ((y : Int) - 1)) (at2 c ((x : Int) - 1) (y : Int)) from rfl)
                unfold cornL cornA cornB cornF cornD at HED
                clear hhW hhH
                go_upto_region 15 with fail
                clear c0
                have HC := Lib.hid (show ∀ (x y : Int) (W : World), I64 x → I64 y → Below W4.heap.size W4 W → Calls Try.prog 54 #[.agg #[.int .i64 c.wide, .int .i64 c.high, .slice c.A c.piece.length c.c, .map (some (bm))], .agg #[.int .i64 x, .int .i64 y]] W (Ret (.int .i64 (at2 c x y)) W) from fun x y W hx hy h => piece_any c bm x y W (HL4.out.next h).pic hx hy)
                have H3 := Lib.hid (show ∀ W : World, Below W4.heap.size W4 W → (W.cell? ⟨gp, 0, none⟩ = some (.int .i64 c.wide) ∧ W.cell? ⟨gp, 1, none⟩ = some (.int .i64 c.high) ∧ W.cell? ⟨gp, 2, none⟩ = some (.slice c.A c.piece.length c.c) ∧ W.cell? ⟨gp, 3, none⟩ = some (.map (some bm))) from fun W h => ⟨(HL4.out.p.next h).c 0 _ rfl, (HL4.out.p.next h).c 1 _ rfl, (HL4.out.p.next h).c 2 _ rfl, (HL4.out.p.next h).c 3 _ rfl⟩)
                have i1 : I64 (x : Int) := ⟨by omega, by omega⟩
                have i2 : I64 (y : Int) := ⟨by omega, by omega⟩
                have i3 : I64 ((x : Int) - 1) := ⟨by omega, by omega⟩
                have i4 : I64 ((y : Int) - 1) := ⟨by omega, by omega⟩
                refine wp_region_noPanic ?_
                refine wp_region_held_drew (S := fun _ => True) (by kernel_rfl) ?_ (fun _ => ?_)
                · trivial
                refine GG.sound (S0 := (fun W => Below W4.heap.size W4 W ∧ W.cell? ⟨gp, 0, none⟩ = some (.int .i64 c.wide) ∧ W.cell? ⟨gp, 1, none⟩ = some (.int .i64 c.high) ∧ W.cell? ⟨gp, 2, none⟩ = some (.slice c.A c.piece.length c.c) ∧ W.cell? ⟨gp, 3, none⟩ = some (.map (some bm)))) _ (fun W => Below W4.heap.size W4 W) _ _ (fun W W' h hb => h.trans (hb.mono h.size)) (fun W h => ⟨h, H3.out W h⟩) ?_ _ ((Below.refl _ _).drew)
                refine gtake (i := 0) (v := ?v1) rfl (by kernel_rfl) (by kernel_rfl) (by kernel_rfl) (MakesIf.yields (Or.inl ⟨by rfl, ?hy1⟩)) ?_
                case hy1 => (intro w hSw; (try dsimp only at hSw); go_simp; try (with_reducible rfl))
                try simp only [Act.put, List.setIfInBounds_toArray, List.set_cons_zero, List.set_cons_succ]
                refine gtake (i := 1) (v := ?v2) rfl (by kernel_rfl) (by kernel_rfl) (by kernel_rfl) (MakesIf.yields (Or.inl ⟨by rfl, ?hy2⟩)) ?_
                case hy2 => (intro w hSw; (try dsimp only at hSw); go_simp; try (with_reducible rfl))
                try simp only [Act.put, List.setIfInBounds_toArray, List.set_cons_zero, List.set_cons_succ]
                refine gtake (i := 2) (v := ?v3) rfl (by kernel_rfl) (by kernel_rfl) (by kernel_rfl) (MakesIf.yields (Or.inl ⟨by rfl, ?hy3⟩)) ?_
                case hy3 => (intro w hSw; (try dsimp only at hSw); go_simp; try (with_reducible rfl))
                try simp only [Act.put, List.setIfInBounds_toArray, List.set_cons_zero, List.set_cons_succ]
                refine gtake (i := 3) (v := ?v4) rfl (by kernel_rfl) (by kernel_rfl) (by kernel_rfl) (MakesIf.yields (Or.inl ⟨by rfl, ?hy4⟩)) ?_
                case hy4 => (intro w hSw; (try dsimp only at hSw); go_simp; try (with_reducible rfl))
                try simp only [Act.put, List.setIfInBounds_toArray, List.set_cons_zero, List.set_cons_succ]
                refine gtake (i := 4) (v := ?v5) rfl (by kernel_rfl) (by kernel_rfl) (by kernel_rfl) (MakesIf.yields (Or.inl ⟨by rfl, ?hy5⟩)) ?_
                case hy5 => (intro w hSw; (try dsimp only at hSw); go_simp; try (with_reducible rfl))
                try simp only [Act.put, List.setIfInBounds_toArray, List.set_cons_zero, List.set_cons_succ]
                refine gtake (i := 5) (v := ?v6) rfl (by kernel_rfl) (by kernel_rfl) (by kernel_rfl) (MakesIf.yields (Or.inl ⟨by rfl, ?hy6⟩)) ?_
                case hy6 => (intro w hSw; (try dsimp only at hSw); go_simp; try (with_reducible rfl))
                try simp only [Act.put, List.setIfInBounds_toArray, List.set_cons_zero, List.set_cons_succ]
                refine gtake (i := 6) (v := .int .i64 (at2 c ((x : Int) - 1) ((y : Int) - 1))) rfl (by kernel_rfl) (by kernel_rfl) (by kernel_rfl) (Or.inl ⟨by rfl, fun W hW => ?_⟩) ?_
                · go_simp; exact HC.out _ _ W i3 i4 hW.1
                try simp only [Act.put, List.setIfInBounds_toArray, List.set_cons_zero, List.set_cons_succ]
                refine gtake (i := 7) (v := ?v7) rfl (by kernel_rfl) (by kernel_rfl) (by kernel_rfl) (MakesIf.yields (Or.inl ⟨by rfl, ?hy7⟩)) ?_
                case hy7 => (intro w hSw; (try dsimp only at hSw); go_simp; try (with_reducible rfl))
                try simp only [Act.put, List.setIfInBounds_toArray, List.set_cons_zero, List.set_cons_succ]
                refine gtake (i := 8) (v := ?v8) rfl (by kernel_rfl) (by kernel_rfl) (by kernel_rfl) (MakesIf.yields (Or.inl ⟨by rfl, ?hy8⟩)) ?_
                case hy8 => (intro w hSw; (try dsimp only at hSw); go_simp; try (with_reducible rfl))
                try simp only [Act.put, List.setIfInBounds_toArray, List.set_cons_zero, List.set_cons_succ]
                refine gtake (i := 9) (v := ?v9) rfl (by kernel_rfl) (by kernel_rfl) (by kernel_rfl) (MakesIf.yields (Or.inl ⟨by rfl, ?hy9⟩)) ?_
                case hy9 => (intro w hSw; (try dsimp only at hSw); go_simp; try (with_reducible rfl))
                try simp only [Act.put, List.setIfInBounds_toArray, List.set_cons_zero, List.set_cons_succ]
                refine gtake (i := 10) (v := ?v10) rfl (by kernel_rfl) (by kernel_rfl) (by kernel_rfl) (MakesIf.yields (Or.inl ⟨by rfl, ?hy10⟩)) ?_
                case hy10 => (intro w hSw; (try dsimp only at hSw); go_simp; try (with_reducible rfl))
                try simp only [Act.put, List.setIfInBounds_toArray, List.set_cons_zero, List.set_cons_succ]
                refine gtake (i := 11) (v := ?v11) rfl (by kernel_rfl) (by kernel_rfl) (by kernel_rfl) (MakesIf.yields (Or.inl ⟨by rfl, ?hy11⟩)) ?_
                case hy11 => (intro w hSw; (try dsimp only at hSw); go_simp; try (with_reducible rfl))
                try simp only [Act.put, List.setIfInBounds_toArray, List.set_cons_zero, List.set_cons_succ]
                refine gtake (i := 12) (v := .int .i64 (at2 c (x : Int) ((y : Int) - 1))) rfl (by kernel_rfl) (by kernel_rfl) (by kernel_rfl) (Or.inl ⟨by rfl, fun W hW => ?_⟩) ?_
                · go_simp; exact HC.out _ _ W i1 i4 hW.1
                try simp only [Act.put, List.setIfInBounds_toArray, List.set_cons_zero, List.set_cons_succ]
                refine gtake (i := 13) (v := ?v12) rfl (by kernel_rfl) (by kernel_rfl) (by kernel_rfl) (MakesIf.yields (Or.inl ⟨by rfl, ?hy12⟩)) ?_
                case hy12 => (intro w hSw; (try dsimp only at hSw); go_simp; try (with_reducible rfl))
                try simp only [Act.put, List.setIfInBounds_toArray, List.set_cons_zero, List.set_cons_succ]
                refine gtake (i := 14) (v := ?v13) rfl (by kernel_rfl) (by kernel_rfl) (by kernel_rfl) (MakesIf.yields (Or.inl ⟨by rfl, ?hy13⟩)) ?_
                case hy13 => (intro w hSw; (try dsimp only at hSw); go_simp; try (with_reducible rfl))
                try simp only [Act.put, List.setIfInBounds_toArray, List.set_cons_zero, List.set_cons_succ]
                refine gtake (i := 15) (v := ?v14) rfl (by kernel_rfl) (by kernel_rfl) (by kernel_rfl) (MakesIf.yields (Or.inl ⟨by rfl, ?hy14⟩)) ?_
                case hy14 => (intro w hSw; (try dsimp only at hSw); go_simp; try (with_reducible rfl))
                try simp only [Act.put, List.setIfInBounds_toArray, List.set_cons_zero, List.set_cons_succ]
                refine gtake (i := 16) (v := ?v15) rfl (by kernel_rfl) (by kernel_rfl) (by kernel_rfl) (MakesIf.yields (Or.inl ⟨by rfl, ?hy15⟩)) ?_
                case hy15 => (intro w hSw; (try dsimp only at hSw); go_simp; try (with_reducible rfl))
                try simp only [Act.put, List.setIfInBounds_toArray, List.set_cons_zero, List.set_cons_succ]
                refine gtake (i := 17) (v := ?v16) rfl (by kernel_rfl) (by kernel_rfl) (by kernel_rfl) (MakesIf.yields (Or.inl ⟨by rfl, ?hy16⟩)) ?_
                case hy16 => (intro w hSw; (try dsimp only at hSw); go_simp; try (with_reducible rfl))
                try simp only [Act.put, List.setIfInBounds_toArray, List.set_cons_zero, List.set_cons_succ]
                refine gtake (i := 18) (v := .int .i64 (at2 c ((x : Int) - 1) (y : Int))) rfl (by kernel_rfl) (by kernel_rfl) (by kernel_rfl) (Or.inl ⟨by rfl, fun W hW => ?_⟩) ?_
                · go_simp; exact HC.out _ _ W i3 i2 hW.1
                try simp only [Act.put, List.setIfInBounds_toArray, List.set_cons_zero, List.set_cons_succ]
                refine gtake (i := 19) (v := ?v17) rfl (by kernel_rfl) (by kernel_rfl) (by kernel_rfl) (MakesIf.yields (Or.inl ⟨by rfl, ?hy17⟩)) ?_
                case hy17 => (intro w hSw; (try dsimp only at hSw); go_simp; try (with_reducible rfl))
                try simp only [Act.put, List.setIfInBounds_toArray, List.set_cons_zero, List.set_cons_succ]
                refine gtake (i := 20) (v := ?v18) rfl (by kernel_rfl) (by kernel_rfl) (by kernel_rfl) (MakesIf.yields (Or.inl ⟨by rfl, ?hy18⟩)) ?_
                case hy18 => (intro w hSw; (try dsimp only at hSw); go_simp; try (with_reducible rfl))
                try simp only [Act.put, List.setIfInBounds_toArray, List.set_cons_zero, List.set_cons_succ]
                refine gtake (i := 21) (v := ?v19) rfl (by kernel_rfl) (by kernel_rfl) (by kernel_rfl) (MakesIf.yields (Or.inl ⟨by rfl, ?hy19⟩)) ?_
                case hy19 => (intro w hSw; (try dsimp only at hSw); go_simp; try (with_reducible rfl))
                try simp only [Act.put, List.setIfInBounds_toArray, List.set_cons_zero, List.set_cons_succ]
                refine gtake (i := 22) (v := ?v20) rfl (by kernel_rfl) (by kernel_rfl) (by kernel_rfl) (MakesIf.yields (Or.inl ⟨by rfl, ?hy20⟩)) ?_
                case hy20 => (intro w hSw; (try dsimp only at hSw); go_simp; try (with_reducible rfl))
                try simp only [Act.put, List.setIfInBounds_toArray, List.set_cons_zero, List.set_cons_succ]
                refine gtake (i := 23) (v := .int .i64 (at2 c (x : Int) (y : Int))) rfl (by kernel_rfl) (by kernel_rfl) (by kernel_rfl) (Or.inl ⟨by rfl, fun W hW => ?_⟩) ?_
                · go_simp; exact HC.out _ _ W i1 i2 hW.1
                try simp only [Act.put, List.setIfInBounds_toArray, List.set_cons_zero, List.set_cons_succ]
                refine gtake (i := 24) (v := ?v21) rfl (by kernel_rfl) (by kernel_rfl) (by kernel_rfl) (MakesIf.yields (Or.inl ⟨by rfl, ?hy21⟩)) ?_
                case hy21 => (intro w hSw; (try dsimp only at hSw); go_simp; try (with_reducible rfl))
                try simp only [Act.put, List.setIfInBounds_toArray, List.set_cons_zero, List.set_cons_succ]
                refine gtake (i := 25) (v := ?v22) rfl (by kernel_rfl) (by kernel_rfl) (by kernel_rfl) (MakesIf.yields (Or.inl ⟨by rfl, ?hy22⟩)) ?_
                case hy22 => (intro w hSw; (try dsimp only at hSw); go_simp; try (with_reducible rfl))
                try simp only [Act.put, List.setIfInBounds_toArray, List.set_cons_zero, List.set_cons_succ]
                refine gtake (i := 26) (v := ?v23) rfl (by kernel_rfl) (by kernel_rfl) (by kernel_rfl) (MakesIf.yields (Or.inl ⟨by rfl, ?hy23⟩)) ?_
                case hy23 => (intro w hSw; (try dsimp only at hSw); go_simp; try (with_reducible rfl))
                try simp only [Act.put, List.setIfInBounds_toArray, List.set_cons_zero, List.set_cons_succ]
                refine gtake (i := 27) (v := ?v24) rfl (by kernel_rfl) (by kernel_rfl) (by kernel_rfl) (MakesIf.yields (Or.inl ⟨by rfl, ?hy24⟩)) ?_
                case hy24 => (intro w hSw; (try dsimp only at hSw); go_simp; try (with_reducible rfl))
                try simp only [Act.put, List.setIfInBounds_toArray, List.set_cons_zero, List.set_cons_succ]
                refine gdone (by kernel_rfl) (fun w' hT => ?_)
                refine NoPanic.normal ?_
                have HL5 := Lib.hid (HL4.out.next hT)
                clear hT HC H3 i1 i2 i3 i4 hw1b hw2b
                generalize at2 c ((x : Int) - 1) ((y : Int) - 1) = pa at *
                generalize at2 c (x : Int) ((y : Int) - 1) = pb at *
                generalize at2 c ((x : Int) - 1) (y : Int) = pd at *
                generalize at2 c (x : Int) (y : Int) = pf at *
                obtain ⟨u, hu⟩ : ∃ u, u = cutB pb pa := ⟨_, rfl⟩
                obtain ⟨r, hr2⟩ : ∃ r, r = cutB pf pb := ⟨_, rfl⟩
                obtain ⟨d, hd⟩ : ∃ d, d = cutB pd pf := ⟨_, rfl⟩
                obtain ⟨le, hle⟩ : ∃ le, le = cutB pa pd := ⟨_, rfl⟩
                rw [← hu] at HUB
                rw [← hr2] at HRB
                rw [← hd] at HDB
                rw [← hle] at HLB
                have HU := Lib.hid hu
                have HR := Lib.hid hr2
                have HD := Lib.hid hd
                have HLE := Lib.hid hle
                clear hu hr2 hd hle
                generalize w' = W5 at *
                have n14 := nxA W5 (.cells #[.int .i64 pa, .int .i64 pb, .int .i64 pf, .int .i64 pd] 91)
                have n15 := nxA (W5.alloc (.cells #[.int .i64 pa, .int .i64 pb, .int .i64 pf, .int .i64 pd] 91)) (.cells #[.bool false, .bool false, .bool false, .bool false] 92)
                have x14 := (Bx.new W5 #[.int .i64 pa, .int .i64 pb, .int .i64 pf, .int .i64 pd] 91).next n15
                have x15 := Bx.new (W5.alloc (.cells #[.int .i64 pa, .int .i64 pb, .int .i64 pf, .int .i64 pd] 91)) #[.bool false, .bool false, .bool false, .bool false] 92
                simp only [World.size_alloc] at x15
                obtain ⟨g14, hg14⟩ : ∃ g, g = W5.heap.size := ⟨_, rfl⟩
                obtain ⟨W6, hW6⟩ : ∃ W', W' = (W5.alloc (.cells #[.int .i64 pa, .int .i64 pb, .int .i64 pf, .int .i64 pd] 91)).alloc (.cells #[.bool false, .bool false, .bool false, .bool false] 92) := ⟨_, rfl⟩
                have HI0 := Lib.hid (show RPi c bm gp w l b2 j2 s2 g14 (g14 + 1) pa pb pf pd u r d le 0 (.int .i64 0) W6 from by
                  have h1 := HL5.out.o.lt
                  have h2 := HL5.out.p.lt
                  have h3 := HL5.out.pic.lt
                  have h4 := HL5.out.x.lt
                  refine ⟨by omega, rfl, by rw [hW6]; exact (HL5.out.next n14).next n15, by rw [hW6, hg14]; exact x14, by rw [hW6, hg14]; exact x15, ?_⟩
                  omega)
                go_wp2_with fail
                rw [← hW6, ← hg14]
                clear hW6 hg14 n14 n15 x14 x15 HL5
                have HM := Lib.hid (show manyI u r d le 4 = manyP c (x : Int) (y : Int) from by rw [HMP.out, HUB.out, HRB.out, HDB.out, HLB.out]; rfl)
                refine wp_loopM lnM4 (fun g W' => ∃ i : Nat, g 95 = .int .i64 (i : Int) ∧ RPi c bm gp w l b2 j2 s2 g14 (g14 + 1) pa pb pf pd u r d le i (g 16) W') (fun g _ => 4 - (intOf (g 95)).toNat) (by kernel_rfl) ⟨0, slotF_at rfl, by rw [slotF_at rfl]; exact HI0.out⟩ ?_
                · intro fi wr hrel
                  obtain ⟨i, e95, hri⟩ := hrel
                  have e16 := hri.m
                  rw [e16] at hri
                  simp only [lnM4, mixF, e95, e16]
                  have HE95 := Lib.hid e95
                  clear e95 e16
                  have hi := hri.hi
                  have hmb := manyI_bd u r d le i
                  have hwm : IntKind.i64.wrap (manyI u r d le i + 1) = manyI u r d le i + 1 := IntWalk.i64_in _ (by omega)
                  generalize wr = W7 at *
                  rcases (by omega : i = 0 ∨ i = 1 ∨ i = 2 ∨ i = 3 ∨ i = 4) with rfl | rfl | rfl | rfl | rfl
                  · have HI := Lib.hid hri
                    have t0 := hri.x14.c 0 _ rfl
                    have t1 := hri.x14.c 1 _ rfl
                    have t2 := hri.x14.c 2 _ rfl
                    have t3 := hri.x14.c 3 _ rfl
                    have s0 := hri.x15.fr 0
                    have s1 := hri.x15.c 0 _ rfl
                    have hix : ∀ W : World, (Instr.index 91 (.agg #[.int .i64 pa, .int .i64 pb, .int .i64 pf, .int .i64 pd]) (.int .i64 0)).run Try.prog W = .ok (.int .i64 pa) W := fun W => by kernel_rfl
                    clear hri
                    by_cases h1 : pb = pa
                    · have HN := Lib.hid (HI.out.no (by omega) (by show u = false; rw [HU.out]; unfold cutB; simp; omega))
                      have e1 : (pb == pa) = true := by simp [h1]
                      have e1b : (pb != pa) = false := by simp [h1]
                      clear h1
                      clear HI
                      go_wp2_with fail
                      refine endM (by kernel_rfl) (by kernel_rfl) ⟨1, slotF_at rfl, by rw [slotF_at rfl]; exact HN.out⟩ ?_
                      show 4 - (intOf (slotF _ 95)).toNat < 4 - (intOf (fi 95)).toNat
                      rw [slotF_at rfl, HE95.out]
                      decide
                    · have e1 : (pb == pa) = false := by simp [h1]
                      have e1b : (pb != pa) = true := by simp [h1]
                      by_cases h2 : pb = -1
                      · have HN := Lib.hid (HI.out.no (by omega) (by show u = false; rw [HU.out]; unfold cutB; simp; omega))
                        have e2 : (pb == -1) = true := by simp [h2]
                        have e2b : (pb != -1) = false := by simp [h2]
                        clear h1 h2
                        clear HI
                        go_wp2_with fail
                        refine endM (by kernel_rfl) (by kernel_rfl) ⟨1, slotF_at rfl, by rw [slotF_at rfl]; exact HN.out⟩ ?_
                        show 4 - (intOf (slotF _ 95)).toNat < 4 - (intOf (fi 95)).toNat
                        rw [slotF_at rfl, HE95.out]
                        decide
                      · have e2 : (pb == -1) = false := by simp [h2]
                        have e2b : (pb != -1) = true := by simp [h2]
                        by_cases h3 : pa = -1
                        · have HN := Lib.hid (HI.out.no (by omega) (by show u = false; rw [HU.out]; unfold cutB; simp; omega))
                          have e3 : (pa == -1) = true := by simp [h3]
                          have e3b : (pa != -1) = false := by simp [h3]
                          clear h1 h2 h3
                          clear HI
                          go_wp2_with fail
                          refine endM (by kernel_rfl) (by kernel_rfl) ⟨1, slotF_at rfl, by rw [slotF_at rfl]; exact HN.out⟩ ?_
                          show 4 - (intOf (slotF _ 95)).toNat < 4 - (intOf (fi 95)).toNat
                          rw [slotF_at rfl, HE95.out]
                          decide
                        · have e3 : (pa == -1) = false := by simp [h3]
                          have e3b : (pa != -1) = true := by simp [h3]
                          have HN := Lib.hid (HI.out.yes (by omega) (by show u = true; rw [HU.out]; unfold cutB; simp; omega))
                          clear HI h1 h2 h3
                          go_wp2_with fail
                          refine endM (by kernel_rfl) (by kernel_rfl) ⟨1, slotF_at rfl, by rw [slotF_at rfl]; exact HN.out⟩ ?_
                          show 4 - (intOf (slotF _ 95)).toNat < 4 - (intOf (fi 95)).toNat
                          rw [slotF_at rfl, HE95.out]
                          decide
                  · have HI := Lib.hid hri
                    have t0 := hri.x14.c 0 _ rfl
                    have t1 := hri.x14.c 1 _ rfl
                    have t2 := hri.x14.c 2 _ rfl
                    have t3 := hri.x14.c 3 _ rfl
                    have s0 := hri.x15.fr 1
                    have s1 := hri.x15.c 1 _ rfl
                    have hix : ∀ W : World, (Instr.index 91 (.agg #[.int .i64 pa, .int .i64 pb, .int .i64 pf, .int .i64 pd]) (.int .i64 1)).run Try.prog W = .ok (.int .i64 pb) W := fun W => by kernel_rfl
                    clear hri
                    by_cases h1 : pf = pb
                    · have HN := Lib.hid (HI.out.no (by omega) (by show r = false; rw [HR.out]; unfold cutB; simp; omega))
                      have e1 : (pf == pb) = true := by simp [h1]
                      have e1b : (pf != pb) = false := by simp [h1]
                      clear h1
                      clear HI
                      go_wp2_with fail
                      refine endM (by kernel_rfl) (by kernel_rfl) ⟨2, slotF_at rfl, by rw [slotF_at rfl]; exact HN.out⟩ ?_
                      show 4 - (intOf (slotF _ 95)).toNat < 4 - (intOf (fi 95)).toNat
                      rw [slotF_at rfl, HE95.out]
                      decide
                    · have e1 : (pf == pb) = false := by simp [h1]
                      have e1b : (pf != pb) = true := by simp [h1]
                      by_cases h2 : pf = -1
                      · have HN := Lib.hid (HI.out.no (by omega) (by show r = false; rw [HR.out]; unfold cutB; simp; omega))
                        have e2 : (pf == -1) = true := by simp [h2]
                        have e2b : (pf != -1) = false := by simp [h2]
                        clear h1 h2
                        clear HI
                        go_wp2_with fail
                        refine endM (by kernel_rfl) (by kernel_rfl) ⟨2, slotF_at rfl, by rw [slotF_at rfl]; exact HN.out⟩ ?_
                        show 4 - (intOf (slotF _ 95)).toNat < 4 - (intOf (fi 95)).toNat
                        rw [slotF_at rfl, HE95.out]
                        decide
                      · have e2 : (pf == -1) = false := by simp [h2]
                        have e2b : (pf != -1) = true := by simp [h2]
                        by_cases h3 : pb = -1
                        · have HN := Lib.hid (HI.out.no (by omega) (by show r = false; rw [HR.out]; unfold cutB; simp; omega))
                          have e3 : (pb == -1) = true := by simp [h3]
                          have e3b : (pb != -1) = false := by simp [h3]
                          clear h1 h2 h3
                          clear HI
                          go_wp2_with fail
                          refine endM (by kernel_rfl) (by kernel_rfl) ⟨2, slotF_at rfl, by rw [slotF_at rfl]; exact HN.out⟩ ?_
                          show 4 - (intOf (slotF _ 95)).toNat < 4 - (intOf (fi 95)).toNat
                          rw [slotF_at rfl, HE95.out]
                          decide
                        · have e3 : (pb == -1) = false := by simp [h3]
                          have e3b : (pb != -1) = true := by simp [h3]
                          have HN := Lib.hid (HI.out.yes (by omega) (by show r = true; rw [HR.out]; unfold cutB; simp; omega))
                          clear HI h1 h2 h3
                          go_wp2_with fail
                          refine endM (by kernel_rfl) (by kernel_rfl) ⟨2, slotF_at rfl, by rw [slotF_at rfl]; exact HN.out⟩ ?_
                          show 4 - (intOf (slotF _ 95)).toNat < 4 - (intOf (fi 95)).toNat
                          rw [slotF_at rfl, HE95.out]
                          decide
                  · have HI := Lib.hid hri
                    have t0 := hri.x14.c 0 _ rfl
                    have t1 := hri.x14.c 1 _ rfl
                    have t2 := hri.x14.c 2 _ rfl
                    have t3 := hri.x14.c 3 _ rfl
                    have s0 := hri.x15.fr 2
                    have s1 := hri.x15.c 2 _ rfl
                    have hix : ∀ W : World, (Instr.index 91 (.agg #[.int .i64 pa, .int .i64 pb, .int .i64 pf, .int .i64 pd]) (.int .i64 2)).run Try.prog W = .ok (.int .i64 pf) W := fun W => by kernel_rfl
                    clear hri
                    by_cases h1 : pd = pf
                    · have HN := Lib.hid (HI.out.no (by omega) (by show d = false; rw [HD.out]; unfold cutB; simp; omega))
                      have e1 : (pd == pf) = true := by simp [h1]
                      have e1b : (pd != pf) = false := by simp [h1]
                      clear h1
                      clear HI
                      go_wp2_with fail
                      refine endM (by kernel_rfl) (by kernel_rfl) ⟨3, slotF_at rfl, by rw [slotF_at rfl]; exact HN.out⟩ ?_
                      show 4 - (intOf (slotF _ 95)).toNat < 4 - (intOf (fi 95)).toNat
                      rw [slotF_at rfl, HE95.out]
                      decide
                    · have e1 : (pd == pf) = false := by simp [h1]
                      have e1b : (pd != pf) = true := by simp [h1]
                      by_cases h2 : pd = -1
                      · have HN := Lib.hid (HI.out.no (by omega) (by show d = false; rw [HD.out]; unfold cutB; simp; omega))
                        have e2 : (pd == -1) = true := by simp [h2]
                        have e2b : (pd != -1) = false := by simp [h2]
                        clear h1 h2
                        clear HI
                        go_wp2_with fail
                        refine endM (by kernel_rfl) (by kernel_rfl) ⟨3, slotF_at rfl, by rw [slotF_at rfl]; exact HN.out⟩ ?_
                        show 4 - (intOf (slotF _ 95)).toNat < 4 - (intOf (fi 95)).toNat
                        rw [slotF_at rfl, HE95.out]
                        decide
                      · have e2 : (pd == -1) = false := by simp [h2]
                        have e2b : (pd != -1) = true := by simp [h2]
                        by_cases h3 : pf = -1
                        · have HN := Lib.hid (HI.out.no (by omega) (by show d = false; rw [HD.out]; unfold cutB; simp; omega))
                          have e3 : (pf == -1) = true := by simp [h3]
                          have e3b : (pf != -1) = false := by simp [h3]
                          clear h1 h2 h3
                          clear HI
                          go_wp2_with fail
                          refine endM (by kernel_rfl) (by kernel_rfl) ⟨3, slotF_at rfl, by rw [slotF_at rfl]; exact HN.out⟩ ?_
                          show 4 - (intOf (slotF _ 95)).toNat < 4 - (intOf (fi 95)).toNat
                          rw [slotF_at rfl, HE95.out]
                          decide
                        · have e3 : (pf == -1) = false := by simp [h3]
                          have e3b : (pf != -1) = true := by simp [h3]
                          have HN := Lib.hid (HI.out.yes (by omega) (by show d = true; rw [HD.out]; unfold cutB; simp; omega))
                          clear HI h1 h2 h3
                          go_wp2_with fail
                          refine endM (by kernel_rfl) (by kernel_rfl) ⟨3, slotF_at rfl, by rw [slotF_at rfl]; exact HN.out⟩ ?_
                          show 4 - (intOf (slotF _ 95)).toNat < 4 - (intOf (fi 95)).toNat
                          rw [slotF_at rfl, HE95.out]
                          decide
                  · have HI := Lib.hid hri
                    have t0 := hri.x14.c 0 _ rfl
                    have t1 := hri.x14.c 1 _ rfl
                    have t2 := hri.x14.c 2 _ rfl
                    have t3 := hri.x14.c 3 _ rfl
                    have s0 := hri.x15.fr 3
                    have s1 := hri.x15.c 3 _ rfl
                    have hix : ∀ W : World, (Instr.index 91 (.agg #[.int .i64 pa, .int .i64 pb, .int .i64 pf, .int .i64 pd]) (.int .i64 3)).run Try.prog W = .ok (.int .i64 pd) W := fun W => by kernel_rfl
                    clear hri
                    by_cases h1 : pa = pd
                    · have HN := Lib.hid (HI.out.no (by omega) (by show le = false; rw [HLE.out]; unfold cutB; simp; omega))
                      have e1 : (pa == pd) = true := by simp [h1]
                      have e1b : (pa != pd) = false := by simp [h1]
                      clear h1
                      clear HI
                      go_wp2_with fail
                      refine endM (by kernel_rfl) (by kernel_rfl) ⟨4, slotF_at rfl, by rw [slotF_at rfl]; exact HN.out⟩ ?_
                      show 4 - (intOf (slotF _ 95)).toNat < 4 - (intOf (fi 95)).toNat
                      rw [slotF_at rfl, HE95.out]
                      decide
                    · have e1 : (pa == pd) = false := by simp [h1]
                      have e1b : (pa != pd) = true := by simp [h1]
                      by_cases h2 : pa = -1
                      · have HN := Lib.hid (HI.out.no (by omega) (by show le = false; rw [HLE.out]; unfold cutB; simp; omega))
                        have e2 : (pa == -1) = true := by simp [h2]
                        have e2b : (pa != -1) = false := by simp [h2]
                        clear h1 h2
                        clear HI
                        go_wp2_with fail
                        refine endM (by kernel_rfl) (by kernel_rfl) ⟨4, slotF_at rfl, by rw [slotF_at rfl]; exact HN.out⟩ ?_
                        show 4 - (intOf (slotF _ 95)).toNat < 4 - (intOf (fi 95)).toNat
                        rw [slotF_at rfl, HE95.out]
                        decide
                      · have e2 : (pa == -1) = false := by simp [h2]
                        have e2b : (pa != -1) = true := by simp [h2]
                        by_cases h3 : pd = -1
                        · have HN := Lib.hid (HI.out.no (by omega) (by show le = false; rw [HLE.out]; unfold cutB; simp; omega))
                          have e3 : (pd == -1) = true := by simp [h3]
                          have e3b : (pd != -1) = false := by simp [h3]
                          clear h1 h2 h3
                          clear HI
                          go_wp2_with fail
                          refine endM (by kernel_rfl) (by kernel_rfl) ⟨4, slotF_at rfl, by rw [slotF_at rfl]; exact HN.out⟩ ?_
                          show 4 - (intOf (slotF _ 95)).toNat < 4 - (intOf (fi 95)).toNat
                          rw [slotF_at rfl, HE95.out]
                          decide
                        · have e3 : (pd == -1) = false := by simp [h3]
                          have e3b : (pd != -1) = true := by simp [h3]
                          have HN := Lib.hid (HI.out.yes (by omega) (by show le = true; rw [HLE.out]; unfold cutB; simp; omega))
                          clear HI h1 h2 h3
                          go_wp2_with fail
                          refine endM (by kernel_rfl) (by kernel_rfl) ⟨4, slotF_at rfl, by rw [slotF_at rfl]; exact HN.out⟩ ?_
                          show 4 - (intOf (slotF _ 95)).toNat < 4 - (intOf (fi 95)).toNat
                          rw [slotF_at rfl, HE95.out]
                          decide
                  · have HI := Lib.hid hri
                    have hat : At W7 W7.heap.size 1 icell (some ⟨g14, 0, none⟩) [pa, pb, pf, pd] := at_four hri.x14
                    have HAT := Lib.hid hat
                    rw [HM.out] at hmb hwm ⊢
                    have hc0 := hri.x15.c 0 _ rfl
                    have hc2 := hri.x15.c 2 _ rfl
                    have o1 := hri.ln.o.c 1 _ rfl
                    have o2 := hri.ln.o.c 2 _ rfl
                    have o3 := hri.ln.o.c 3 _ rfl
                    have f1 := hri.ln.o.fr 1
                    have f2 := hri.ln.o.fr 2
                    have f3 := hri.ln.o.fr 3
                    change W7.cell? ⟨g14 + 1, 0, none⟩ = some (.bool u) at hc0
                    change W7.cell? ⟨g14 + 1, 2, none⟩ = some (.bool d) at hc2
                    rw [HUB.out, HDB.out] at HBP
                    clear hri hat HMP HUB HRB HDB HLB HU HR HD HLE HI0 HM hwm
                    generalize manyP c (x : Int) (y : Int) = mm at *
                    have hw5 : IntKind.i64.wrap (s2 + mm) = s2 + mm := IntWalk.i64_in _ (by omega)
                    go_wp2_with fail
                    refine (containsEq_any (-1) (some ⟨g14, 0, none⟩) 4 [pa, pb, pf, pd] W7 HAT.out (by simp)).mono ?_
                    rintro e w' ⟨rfl, rfl⟩
                    rw [HED.out]
                    generalize edgeP c (x : Int) (y : Int) = ed at *
                    clear HED HAT
                    cases ed
                    · by_cases hm2 : 2 < mm
                      · have HN := Lib.hid (HNX.out _ b2 (j2 + 1) s2 (by rw [HBP.out]; simp [hm2]) (by rw [HJP.out]; simp [hm2]) (by rw [HSP.out]; simp) (HI.out.ln.set2 (j2 + 1)))
                        clear HNX HBP HJP HSP
                        go_wp2_with fail
                        refine endM (by kernel_rfl) (by kernel_rfl) (by show RP4 c bm gp w l y (slotF _ 9) _; rw [slotF_at rfl]; exact HN.out) ?_
                        show W c + 1 - (intOf (slotF _ 9)).toNat < W c + 1 - (intOf (f9 9)).toNat
                        rw [slotF_at rfl, HE9.out]
                        have := HMU4.out
                        simp [intOf]
                        omega
                      · by_cases hm3 : mm = 2
                        · subst hm3
                          cases u <;> cases d
                          · have HN := Lib.hid (HNX.out _ b2 j2 s2 (by rw [HBP.out]; simp) (by rw [HJP.out]; simp) (by rw [HSP.out]; simp) HI.out.ln)
                            clear HNX HBP HJP HSP
                            go_wp2_with fail
                            refine endM (by kernel_rfl) (by kernel_rfl) (by show RP4 c bm gp w l y (slotF _ 9) _; rw [slotF_at rfl]; exact HN.out) ?_
                            show W c + 1 - (intOf (slotF _ 9)).toNat < W c + 1 - (intOf (f9 9)).toNat
                            rw [slotF_at rfl, HE9.out]
                            have := HMU4.out
                            simp [intOf]
                            omega
                          · have HN := Lib.hid (HNX.out _ (b2 + 1) j2 s2 (by rw [HBP.out]; simp) (by rw [HJP.out]; simp) (by rw [HSP.out]; simp) (HI.out.ln.set1 (b2 + 1)))
                            clear HNX HBP HJP HSP
                            go_wp2_with fail
                            refine endM (by kernel_rfl) (by kernel_rfl) (by show RP4 c bm gp w l y (slotF _ 9) _; rw [slotF_at rfl]; exact HN.out) ?_
                            show W c + 1 - (intOf (slotF _ 9)).toNat < W c + 1 - (intOf (f9 9)).toNat
                            rw [slotF_at rfl, HE9.out]
                            have := HMU4.out
                            simp [intOf]
                            omega
                          · have HN := Lib.hid (HNX.out _ (b2 + 1) j2 s2 (by rw [HBP.out]; simp) (by rw [HJP.out]; simp) (by rw [HSP.out]; simp) (HI.out.ln.set1 (b2 + 1)))
                            clear HNX HBP HJP HSP
                            go_wp2_with fail
                            refine endM (by kernel_rfl) (by kernel_rfl) (by show RP4 c bm gp w l y (slotF _ 9) _; rw [slotF_at rfl]; exact HN.out) ?_
                            show W c + 1 - (intOf (slotF _ 9)).toNat < W c + 1 - (intOf (f9 9)).toNat
                            rw [slotF_at rfl, HE9.out]
                            have := HMU4.out
                            simp [intOf]
                            omega
                          · have HN := Lib.hid (HNX.out _ b2 j2 s2 (by rw [HBP.out]; simp) (by rw [HJP.out]; simp) (by rw [HSP.out]; simp) HI.out.ln)
                            clear HNX HBP HJP HSP
                            go_wp2_with fail
                            refine endM (by kernel_rfl) (by kernel_rfl) (by show RP4 c bm gp w l y (slotF _ 9) _; rw [slotF_at rfl]; exact HN.out) ?_
                            show W c + 1 - (intOf (slotF _ 9)).toNat < W c + 1 - (intOf (f9 9)).toNat
                            rw [slotF_at rfl, HE9.out]
                            have := HMU4.out
                            simp [intOf]
                            omega
                        · have e3 : (mm == 2) = false := by simp [hm3]
                          have HN := Lib.hid (HNX.out _ b2 j2 s2 (by rw [HBP.out]; simp [hm2, hm3]) (by rw [HJP.out]; simp [hm2]) (by rw [HSP.out]; simp) HI.out.ln)
                          clear HNX HBP HJP HSP hm3
                          go_wp2_with fail
                          refine endM (by kernel_rfl) (by kernel_rfl) (by show RP4 c bm gp w l y (slotF _ 9) _; rw [slotF_at rfl]; exact HN.out) ?_
                          show W c + 1 - (intOf (slotF _ 9)).toNat < W c + 1 - (intOf (f9 9)).toNat
                          rw [slotF_at rfl, HE9.out]
                          have := HMU4.out
                          simp [intOf]
                          omega
                    · have HN := Lib.hid (HNX.out _ b2 j2 (s2 + mm) (by rw [HBP.out]; simp) (by rw [HJP.out]; simp) (by rw [HSP.out]; simp) (HI.out.ln.set3 (s2 + mm)))
                      clear HNX HBP HJP HSP
                      go_wp2_with fail
                      refine endM (by kernel_rfl) (by kernel_rfl) (by show RP4 c bm gp w l y (slotF _ 9) _; rw [slotF_at rfl]; exact HN.out) ?_
                      show W c + 1 - (intOf (slotF _ 9)).toNat < W c + 1 - (intOf (f9 9)).toNat
                      rw [slotF_at rfl, HE9.out]
                      have := HMU4.out
                      simp [intOf]
                      omega
              · have hlxI : ¬ (x : Int) ≤ c.wide := by omega
                have hex : x = W c + 1 := by omega
                have HF := Lib.hid (show RP3 c bm gp w l (.int .i64 ((y : Int) + 1)) W4 from ⟨y + 1, b2, j2, s2, by omega, rfl, by rw [HB4.out, hex]; rfl, by rw [HJ4.out, hex]; rfl, by rw [HS4.out, hex]; rfl, HL4.out⟩)
                clear hex hhW hhH hw1b
                go_wp2_with fail
                refine endM (by kernel_rfl) (by kernel_rfl) (by show RP3 c bm gp w l (slotF _ 8) _; rw [slotF_at rfl]; exact HF.out) ?_
                show H c + 1 - (intOf (slotF _ 8)).toNat < H c + 1 - (intOf (f8 8)).toNat
                rw [slotF_at rfl, HE8.out]
                have := HMU3.out
                simp [intOf]
                omega
          · have hlyI : ¬ (y : Int) ≤ c.high := by omega
            have hey : y = H c + 1 := by omega
            have HB5 := Lib.hid (show b = overP c (bendP c) from by rw [HB3.out, hey]; rfl)
            have HJ5 := Lib.hid (show j = overP c (jointP c) from by rw [HJ3.out, hey]; rfl)
            have HS5 := Lib.hid (show s = overP c (startP c) from by rw [HS3.out, hey]; rfl)
            have d0 := HL3.out.o.c 0 _ rfl
            have d1 := HL3.out.o.c 1 _ rfl
            have d2 := HL3.out.o.c 2 _ rfl
            have d3 := HL3.out.o.c 3 _ rfl
            have f0 := HL3.out.o.fr 0
            have f1 := HL3.out.o.fr 1
            have f2 := HL3.out.o.fr 2
            have f3 := HL3.out.o.fr 3
            have HRES := Lib.hid (loadLp (HL3.out.o.setAll [.int .i64 l, .int .i64 b, .int .i64 j, .int .i64 s] rfl))
            have HBS := Lib.hid (below_setCells (b := w.heap.size + 1) (B := w.heap.size) (by omega) [.int .i64 l, .int .i64 b, .int .i64 j, .int .i64 s] 0 HL3.out.b)
            clear hey hhH
            go_wp2_with fail
            ((try simp only [Exit.inBlock, Exit.then]); refine bodyPost_ret (results_cellA rfl rfl HRES.out) rfl ?_)
            exact ret_linesP (by rw [HLS.out, if_pos HCE.out, HB5.out, HJ5.out, HS5.out]) HCE.out HBS.out
      · have hrr := hr2.rlt
        have hv : edgesR c p.2 p.1 = v ∧ 0 < v := by
          unfold edgO posO at hf
          split at hf
          · split at hf
            · injection hf with hf
              omega
            · cases hf
          · cases hf
        have hbd := edges_bd HG.out.ok (a := p.2) (b := p.1) (by omega)
        have hlt := edges_lt HG.out.ok p.2 p.1
        have hl0 := lenD_bd HG.out.ok done
        have HLN := Lib.hid (show LnP c bm gp w W2 (lenD c done) 0 0 0 from hr.ln.grow hg2 HNE.out.1)
        have HR2 := Lib.hid hr2
        have HLT := Lib.hid (show cnt2 < leftW be rr W1 from by rw [hr.rg.left]; exact hlt2)
        have hn := nxA W2 (.cells #[.int .i64 p.1, .int .i64 p.2] 84)
        have HL4 := Lib.hid (HLN.out.next hn)
        have HR4 := Lib.hid (HR2.out.next_ hn)
        have HADD := Lib.hid (fun h => lenD_add (c := c) (D := done) (p := p) hdn h ⟨by omega, by omega⟩)
        have HSKP := Lib.hid (fun h => lenD_skip (c := c) (D := done) (p := p) h (by omega))
        have HV := Lib.hid hv.1
        unfold kv2 vvI at hnx hent
        obtain ⟨l0, hl0e⟩ : ∃ l0, l0 = lenD c done := ⟨_, rfl⟩
        rw [← hl0e] at HL4 hl0 HADD HSKP
        have hw1 : IntKind.i64.wrap (l0 + v) = l0 + v := IntWalk.i64_in _ (by omega)
        have x6 := Bx.new W2 #[.int .i64 p.1, .int .i64 p.2] 84
        have k0 := HL4.out.o.c 0 _ rfl
        have k1 := HL4.out.o.fr 0
        clear hr hf hdn hr2 hlt2 hg2 hz2 hn hv hl0e hrr HLN HR2
        by_cases hA : p.1 = -1
        · have e1 : (p.1 == -1) = true := by simp [hA]
          have e1' : (p.1 != -1) = false := by simp [hA]
          have HS := Lib.hid (HSKP.out (fun h => h.1 hA))
          have z0 := x6.c 0 _ rfl
          clear HADD HSKP hA x6
          go_wp2_with fail
          refine ⟨⟨_, _, ⟨by rw [HS.out]; exact HL4.out, HR4.out⟩⟩, ?_⟩
          rw [HR4.out.left]
          exact HLT.out
        · have e1 : (p.1 == -1) = false := by simp [hA]
          have e1' : (p.1 != -1) = true := by simp [hA]
          by_cases hC : p.1 < p.2
          · have HS := Lib.hid (HADD.out ⟨hA, hC⟩)
            have z0 := x6.c 0 _ rfl
            have z1 := x6.c 1 _ rfl
            have HR5 := Lib.hid (HR4.out.grown (grown_setC _ (w.heap.size + 1) 0 (.int .i64 (l0 + v))) (fun e => HNE.out.2 (by injection e)) (fun e => HNE.out.1.1 (by injection e)))
            have HL5 := Lib.hid (HL4.out.set0 (l0 + v))
            clear HADD HSKP hA x6
            go_wp2_with fail
            refine ⟨⟨_, _, ⟨by rw [HS.out, HV.out]; exact HL5.out, HR5.out⟩⟩, ?_⟩
            rw [HR5.out.left]
            exact HLT.out
          · have HS := Lib.hid (HSKP.out (fun h => hC h.2))
            have z0 := x6.c 0 _ rfl
            have z1 := x6.c 1 _ rfl
            clear HADD HSKP hA x6
            go_wp2_with fail
            refine ⟨⟨_, _, ⟨by rw [HS.out]; exact HL4.out, HR4.out⟩⟩, ?_⟩
            rw [HR4.out.left]
            exact HLT.out
end Go.Proofs.Ytjlicbdnppodgaa
