import Derived.Test.YtjlicbdnppodgaaR3
import Derived.Test.YtjlicbdnppodgaaL1
namespace Go.Proofs.Ytjlicbdnppodgaa
open Go.RowKit
/-! The reference: Around. -/
theorem results_tmp4 {fn : Func} {t u v x : Tmp} (h : fn.results = #[.tmp t, .tmp u, .tmp v, .tmp x]) (tmps : Array Value) (P : Program) (w : World) :
    (results fn tmps).run P w = .ok (.tuple #[tmps.getD t undef, tmps.getD u undef, tmps.getD v undef, tmps.getD x undef]) w := by
  simp [results, h]
def aroundV (c : Cut) (x y : Int) : Value := .tuple #[.bool (upR c x y), .bool (downR c x y), .bool (leftR c x y), .bool (rightR c x y)]
set_option maxHeartbeats 2000000 in
theorem Around_any (c : Cut) (x y : Int) (w : World) (ok : OkC c) (hx : -100 ≤ x ∧ x ≤ 100) (hy : -100 ≤ y ∧ y ≤ 100) (hr : CutAt w w.heap.size c) : Calls Try.prog 56 #[.agg #[.int .i64 c.wide, .int .i64 c.high, .slice c.A c.piece.length c.c], .int .i64 x, .int .i64 y] w (Ret (aroundV c x y) w) := by
  have OK := Lib.hid ok
  have HX := Lib.hid (Bx.new w #[.int .i64 c.wide, .int .i64 c.high, .slice c.A c.piece.length c.c] 24)
  have HB := Lib.hid (nxA w (.cells #[.int .i64 c.wide, .int .i64 c.high, .slice c.A c.piece.length c.c] 24))
  have HR := Lib.hid (hr.next HB.out)
  clear ok hr
  have hw1 : IntKind.i64.wrap (x - 1) = x - 1 := IntWalk.i64_in _ (by omega)
  have hw2 : IntKind.i64.wrap (y - 1) = y - 1 := IntWalk.i64_in _ (by omega)
  go_enter Try.func56, Try.ntmps56
  go_upto_region 1 with fail
  generalize (w.alloc (.cells #[.int .i64 c.wide, .int .i64 c.high, .slice c.A c.piece.length c.c] 24)) = V at *
  have H3 := Lib.hid (show ∀ W : World, Below V.heap.size V W → (W.cell? ⟨w.heap.size, 0, none⟩ = some (.int .i64 c.wide) ∧ W.cell? ⟨w.heap.size, 1, none⟩ = some (.int .i64 c.high) ∧ W.cell? ⟨w.heap.size, 2, none⟩ = some (.slice c.A c.piece.length c.c)) from fun W h => ⟨(HX.out.next h).c 0 _ rfl, (HX.out.next h).c 1 _ rfl, (HX.out.next h).c 2 _ rfl⟩)
  have HC := Lib.hid (show ∀ (x y : Int) (W : World), Below V.heap.size V W → Calls Try.prog 34 #[.agg #[.int .i64 c.wide, .int .i64 c.high, .slice c.A c.piece.length c.c], .int .i64 x, .int .i64 y] W (Ret (.int .i64 (at2 c x y)) W) from fun x y W h => At_any c x y W OK.out (HR.out.next h))
  refine wp_region_noPanic ?_
  refine wp_region_held_drew (S := fun _ => True) (by kernel_rfl) ?_ (fun _ => ?_)
  · trivial
  refine GG.sound (S0 := (fun W => Below V.heap.size V W ∧ W.cell? ⟨w.heap.size, 0, none⟩ = some (.int .i64 c.wide) ∧ W.cell? ⟨w.heap.size, 1, none⟩ = some (.int .i64 c.high) ∧ W.cell? ⟨w.heap.size, 2, none⟩ = some (.slice c.A c.piece.length c.c))) _ (fun W => Below V.heap.size V W) _ _ (fun W W' h hb => h.trans (hb.mono h.size)) (fun W h => ⟨h, H3.out W h⟩) ?_ _ ((Below.refl _ _).drew)
  refine gtake (i := 0) (v := ?v1) rfl (by kernel_rfl) (by kernel_rfl) (by kernel_rfl) (MakesIf.yields (Or.inl ⟨by rfl, ?hy1⟩)) ?_
  case hy1 => (intro w hSw; (try dsimp only at hSw); go_simp; try (with_reducible rfl))
  try simp only [Act.put, List.setIfInBounds_toArray, List.set_cons_zero, List.set_cons_succ]
  refine gtake (i := 1) (v := ?v2) rfl (by kernel_rfl) (by kernel_rfl) (by kernel_rfl) (MakesIf.yields (Or.inl ⟨by rfl, ?hy2⟩)) ?_
  case hy2 => (intro w hSw; (try dsimp only at hSw); go_simp; try (with_reducible rfl))
  try simp only [Act.put, List.setIfInBounds_toArray, List.set_cons_zero, List.set_cons_succ]
  refine gtake (i := 2) (v := ?v3) rfl (by kernel_rfl) (by kernel_rfl) (by kernel_rfl) (MakesIf.yields (Or.inl ⟨by rfl, ?hy3⟩)) ?_
  case hy3 => (intro w hSw; (try dsimp only at hSw); go_simp; try (with_reducible rfl))
  try simp only [Act.put, List.setIfInBounds_toArray, List.set_cons_zero, List.set_cons_succ]
  refine gtake (i := 3) (v := ?v4) rfl (by kernel_rfl) (by kernel_rfl) (by kernel_rfl) (MakesIf.yields (Or.inl ⟨by rfl, ?hy4⟩)) ?_
  case hy4 => (intro w hSw; (try dsimp only at hSw); go_simp; try (with_reducible rfl))
  try simp only [Act.put, List.setIfInBounds_toArray, List.set_cons_zero, List.set_cons_succ]
  refine gtake (i := 4) (v := ?v5) rfl (by kernel_rfl) (by kernel_rfl) (by kernel_rfl) (MakesIf.yields (Or.inl ⟨by rfl, ?hy5⟩)) ?_
  case hy5 => (intro w hSw; (try dsimp only at hSw); go_simp; try (with_reducible rfl))
  try simp only [Act.put, List.setIfInBounds_toArray, List.set_cons_zero, List.set_cons_succ]
  refine gtake (i := 5) (v := .int .i64 (at2 c (x - 1) (y - 1))) rfl (by kernel_rfl) (by kernel_rfl) (by kernel_rfl) (Or.inl ⟨by rfl, fun W hW => ?_⟩) ?_
  · go_simp; exact HC.out (x - 1) (y - 1) W hW.1
  try simp only [Act.put, List.setIfInBounds_toArray, List.set_cons_zero, List.set_cons_succ]
  refine gtake (i := 6) (v := ?v6) rfl (by kernel_rfl) (by kernel_rfl) (by kernel_rfl) (MakesIf.yields (Or.inl ⟨by rfl, ?hy6⟩)) ?_
  case hy6 => (intro w hSw; (try dsimp only at hSw); go_simp; try (with_reducible rfl))
  try simp only [Act.put, List.setIfInBounds_toArray, List.set_cons_zero, List.set_cons_succ]
  refine gtake (i := 7) (v := ?v7) rfl (by kernel_rfl) (by kernel_rfl) (by kernel_rfl) (MakesIf.yields (Or.inl ⟨by rfl, ?hy7⟩)) ?_
  case hy7 => (intro w hSw; (try dsimp only at hSw); go_simp; try (with_reducible rfl))
  try simp only [Act.put, List.setIfInBounds_toArray, List.set_cons_zero, List.set_cons_succ]
  refine gtake (i := 8) (v := ?v8) rfl (by kernel_rfl) (by kernel_rfl) (by kernel_rfl) (MakesIf.yields (Or.inl ⟨by rfl, ?hy8⟩)) ?_
  case hy8 => (intro w hSw; (try dsimp only at hSw); go_simp; try (with_reducible rfl))
  try simp only [Act.put, List.setIfInBounds_toArray, List.set_cons_zero, List.set_cons_succ]
  refine gtake (i := 9) (v := ?v9) rfl (by kernel_rfl) (by kernel_rfl) (by kernel_rfl) (MakesIf.yields (Or.inl ⟨by rfl, ?hy9⟩)) ?_
  case hy9 => (intro w hSw; (try dsimp only at hSw); go_simp; try (with_reducible rfl))
  try simp only [Act.put, List.setIfInBounds_toArray, List.set_cons_zero, List.set_cons_succ]
  refine gtake (i := 10) (v := .int .i64 (at2 c x (y - 1))) rfl (by kernel_rfl) (by kernel_rfl) (by kernel_rfl) (Or.inl ⟨by rfl, fun W hW => ?_⟩) ?_
  · go_simp; exact HC.out x (y - 1) W hW.1
  try simp only [Act.put, List.setIfInBounds_toArray, List.set_cons_zero, List.set_cons_succ]
  refine gtake (i := 11) (v := ?v10) rfl (by kernel_rfl) (by kernel_rfl) (by kernel_rfl) (MakesIf.yields (Or.inl ⟨by rfl, ?hy10⟩)) ?_
  case hy10 => (intro w hSw; (try dsimp only at hSw); go_simp; try (with_reducible rfl))
  try simp only [Act.put, List.setIfInBounds_toArray, List.set_cons_zero, List.set_cons_succ]
  refine gtake (i := 12) (v := ?v11) rfl (by kernel_rfl) (by kernel_rfl) (by kernel_rfl) (MakesIf.yields (Or.inl ⟨by rfl, ?hy11⟩)) ?_
  case hy11 => (intro w hSw; (try dsimp only at hSw); go_simp; try (with_reducible rfl))
  try simp only [Act.put, List.setIfInBounds_toArray, List.set_cons_zero, List.set_cons_succ]
  refine gtake (i := 13) (v := ?v12) rfl (by kernel_rfl) (by kernel_rfl) (by kernel_rfl) (MakesIf.yields (Or.inl ⟨by rfl, ?hy12⟩)) ?_
  case hy12 => (intro w hSw; (try dsimp only at hSw); go_simp; try (with_reducible rfl))
  try simp only [Act.put, List.setIfInBounds_toArray, List.set_cons_zero, List.set_cons_succ]
  refine gtake (i := 14) (v := ?v13) rfl (by kernel_rfl) (by kernel_rfl) (by kernel_rfl) (MakesIf.yields (Or.inl ⟨by rfl, ?hy13⟩)) ?_
  case hy13 => (intro w hSw; (try dsimp only at hSw); go_simp; try (with_reducible rfl))
  try simp only [Act.put, List.setIfInBounds_toArray, List.set_cons_zero, List.set_cons_succ]
  refine gtake (i := 15) (v := .int .i64 (at2 c (x - 1) y)) rfl (by kernel_rfl) (by kernel_rfl) (by kernel_rfl) (Or.inl ⟨by rfl, fun W hW => ?_⟩) ?_
  · go_simp; exact HC.out (x - 1) y W hW.1
  try simp only [Act.put, List.setIfInBounds_toArray, List.set_cons_zero, List.set_cons_succ]
  refine gtake (i := 16) (v := ?v14) rfl (by kernel_rfl) (by kernel_rfl) (by kernel_rfl) (MakesIf.yields (Or.inl ⟨by rfl, ?hy14⟩)) ?_
  case hy14 => (intro w hSw; (try dsimp only at hSw); go_simp; try (with_reducible rfl))
  try simp only [Act.put, List.setIfInBounds_toArray, List.set_cons_zero, List.set_cons_succ]
  refine gtake (i := 17) (v := ?v15) rfl (by kernel_rfl) (by kernel_rfl) (by kernel_rfl) (MakesIf.yields (Or.inl ⟨by rfl, ?hy15⟩)) ?_
  case hy15 => (intro w hSw; (try dsimp only at hSw); go_simp; try (with_reducible rfl))
  try simp only [Act.put, List.setIfInBounds_toArray, List.set_cons_zero, List.set_cons_succ]
  refine gtake (i := 18) (v := ?v16) rfl (by kernel_rfl) (by kernel_rfl) (by kernel_rfl) (MakesIf.yields (Or.inl ⟨by rfl, ?hy16⟩)) ?_
  case hy16 => (intro w hSw; (try dsimp only at hSw); go_simp; try (with_reducible rfl))
  try simp only [Act.put, List.setIfInBounds_toArray, List.set_cons_zero, List.set_cons_succ]
  refine gtake (i := 19) (v := .int .i64 (at2 c x y)) rfl (by kernel_rfl) (by kernel_rfl) (by kernel_rfl) (Or.inl ⟨by rfl, fun W hW => ?_⟩) ?_
  · go_simp; exact HC.out x y W hW.1
  try simp only [Act.put, List.setIfInBounds_toArray, List.set_cons_zero, List.set_cons_succ]
  refine gtake (i := 20) (v := ?v17) rfl (by kernel_rfl) (by kernel_rfl) (by kernel_rfl) (MakesIf.yields (Or.inl ⟨by rfl, ?hy17⟩)) ?_
  case hy17 => (intro w hSw; (try dsimp only at hSw); go_simp; try (with_reducible rfl))
  try simp only [Act.put, List.setIfInBounds_toArray, List.set_cons_zero, List.set_cons_succ]
  refine gtake (i := 21) (v := ?v18) rfl (by kernel_rfl) (by kernel_rfl) (by kernel_rfl) (MakesIf.yields (Or.inl ⟨by rfl, ?hy18⟩)) ?_
  case hy18 => (intro w hSw; (try dsimp only at hSw); go_simp; try (with_reducible rfl))
  try simp only [Act.put, List.setIfInBounds_toArray, List.set_cons_zero, List.set_cons_succ]
  refine gtake (i := 22) (v := ?v19) rfl (by kernel_rfl) (by kernel_rfl) (by kernel_rfl) (MakesIf.yields (Or.inl ⟨by rfl, ?hy19⟩)) ?_
  case hy19 => (intro w hSw; (try dsimp only at hSw); go_simp; try (with_reducible rfl))
  try simp only [Act.put, List.setIfInBounds_toArray, List.set_cons_zero, List.set_cons_succ]
  refine gtake (i := 23) (v := ?v20) rfl (by kernel_rfl) (by kernel_rfl) (by kernel_rfl) (MakesIf.yields (Or.inl ⟨by rfl, ?hy20⟩)) ?_
  case hy20 => (intro w hSw; (try dsimp only at hSw); go_simp; try (with_reducible rfl))
  try simp only [Act.put, List.setIfInBounds_toArray, List.set_cons_zero, List.set_cons_succ]
  refine gdone (by kernel_rfl) (fun w' hT => ?_)
  refine NoPanic.normal ?_
  go_wp2_with fail
  ((try simp only [Exit.inBlock, Exit.then]); refine bodyPost_ret (results_tmp4 rfl _ _ _) rfl ?_)
  exact ⟨rfl, HB.out.trans (hT.mono HB.out.size)⟩
/-- The edges of one cell. -/
def cellE (c : Cut) (x y a b : Int) : Int := if at2 c x y = a then b2i (at2 c (x - 1) y == b) + b2i (at2 c (x + 1) y == b) + b2i (at2 c x (y - 1) == b) + b2i (at2 c x (y + 1) == b) else 0
/-- The reference's count, row by row. -/
def edgesR (c : Cut) (a b : Int) : Int := sumTo (fun y => sumTo (fun x => cellE c x y a b) (W c)) (H c)
theorem b2i_bd (b : Bool) : 0 ≤ b2i b ∧ b2i b ≤ 1 := by cases b <;> exact ⟨by decide, by decide⟩
theorem cellE_bd (c : Cut) (x y a b : Int) : 0 ≤ cellE c x y a b ∧ cellE c x y a b ≤ 4 := by
  unfold cellE
  split
  · have h1 := b2i_bd (at2 c (x - 1) y == b)
    have h2 := b2i_bd (at2 c (x + 1) y == b)
    have h3 := b2i_bd (at2 c x (y - 1) == b)
    have h4 := b2i_bd (at2 c x (y + 1) == b)
    omega
  · omega
theorem sumTo_bd {f : Nat → Int} {B : Int} (h : ∀ k, 0 ≤ f k ∧ f k ≤ B) : ∀ n : Nat, 0 ≤ sumTo f n ∧ sumTo f n ≤ B * n
  | 0 => ⟨Int.le_refl _, by simp [sumTo]⟩
  | n + 1 => by
    have ih := sumTo_bd h n
    have hn := h n
    unfold sumTo
    have : B * ((n + 1 : Nat) : Int) = B * n + B := by rw [Int.natCast_add, Int.mul_add]; simp
    omega
def REo (c : Cut) (a b : Int) (V : World) (nv yv : Value) (W' : World) : Prop := ∃ y : Nat, y ≤ H c ∧ yv = .int .i64 y ∧ nv = .int .i64 (sumTo (fun y => sumTo (fun x => cellE c x y a b) (W c)) y) ∧ Below V.heap.size V W'
def REi (c : Cut) (a b : Int) (y : Nat) (V : World) (nv xv : Value) (W' : World) : Prop := ∃ x : Nat, x ≤ W c ∧ xv = .int .i64 x ∧ nv = .int .i64 (sumTo (fun y => sumTo (fun x => cellE c x y a b) (W c)) y + sumTo (fun x => cellE c x y a b) x) ∧ Below V.heap.size V W'
theorem four_at {W : World} {g : Nat} {p0 p1 p2 p3 : Int} (h : Bx W g [.int .i64 p0, .int .i64 p1, .int .i64 p2, .int .i64 p3]) {k : Nat} (hk : k < 4) : W.cell? ⟨g, k, none⟩ = some (.int .i64 ([p0, p1, p2, p3].getD k 0)) := by
  match k, hk with
  | 0, _ => exact h.c 0 _ rfl
  | 1, _ => exact h.c 1 _ rfl
  | 2, _ => exact h.c 2 _ rfl
  | 3, _ => exact h.c 3 _ rfl
def REk (l : List Int) (b n0 : Int) (V : World) (nv kv : Value) (W' : World) : Prop := ∃ k : Nat, k ≤ 4 ∧ kv = .int .i64 k ∧ nv = .int .i64 (n0 + sumTo (fun k => b2i (l.getD k 0 == b)) k) ∧ Below V.heap.size V W'
set_option maxHeartbeats 4000000 in
set_option maxRecDepth 100000 in
theorem Edges_any (c : Cut) (a b : Int) (w : World) (ok : OkC c) (hr : CutAt w w.heap.size c) : Calls Try.prog 37 #[.agg #[.int .i64 c.wide, .int .i64 c.high, .slice c.A c.piece.length c.c], .int .i64 a, .int .i64 b] w (Ret (.int .i64 (edgesR c a b)) w) := by
  have hw := ok.w
  have hh := ok.h
  have hW : ((W c : Nat) : Int) = c.wide := by unfold W; omega
  have hH : ((H c : Nat) : Int) = c.high := by unfold H; omega
  have OK := Lib.hid ok
  have HX := Lib.hid (Bx.new w #[.int .i64 c.wide, .int .i64 c.high, .slice c.A c.piece.length c.c] 24)
  have HB := Lib.hid (nxA w (.cells #[.int .i64 c.wide, .int .i64 c.high, .slice c.A c.piece.length c.c] 24))
  have HR := Lib.hid (hr.next HB.out)
  clear ok hr
  go_enter Try.func37, Try.ntmps37
  go_upto_region 1 with fail
  generalize (w.alloc (.cells #[.int .i64 c.wide, .int .i64 c.high, .slice c.A c.piece.length c.c] 24)) = V at *
  go_wp2_with fail
  go_loopw [7, 8] (fun n y wr => REo c a b V n y wr) (fun _ y _ => H c - (intOf y).toNat)
  case atStart => exact ⟨0, by omega, rfl, rfl, Below.refl _ _⟩
  case round =>
    obtain ⟨y, hy, rfl, rfl, hb⟩ := hrel
    generalize wr = Wy at *
    have c1 := (HX.out.next hb).c 1 _ rfl
    have HBy := Lib.hid hb
    have hbd := sumTo_bd (f := fun y => sumTo (fun x => cellE c x y a b) (W c)) (B := 48) (fun y => by have := sumTo_bd (f := fun x => cellE c (x : Int) (y : Int) a b) (B := 4) (fun x => cellE_bd c x y a b) (W c); omega) y
    have hs1 := Lib.hid (show sumTo (fun y => sumTo (fun x => cellE c x y a b) (W c)) (y + 1) = sumTo (fun y => sumTo (fun x => cellE c x y a b) (W c)) y + sumTo (fun x => cellE c x y a b) (W c) from rfl)
    by_cases hlt : y < H c
    · have hyc : (y : Int) < c.high := by omega
      clear hb
      go_wp2_with fail
      have hS := Lib.hid (fun x => (show sumTo (fun x => cellE c (x : Int) (y : Int) a b) (x + 1) = sumTo (fun x => cellE c (x : Int) (y : Int) a b) x + cellE c (x : Int) (y : Int) a b from rfl))
      have HRo := Lib.hid (fun (nv yv : Value) (W' : World) (hyv : yv = .int .i64 ((y + 1 : Nat) : Int)) (hnv : nv = .int .i64 (sumTo (fun y => sumTo (fun x => cellE c x y a b) (W c)) y + sumTo (fun x => cellE c (x : Int) (y : Int) a b) (W c))) (hb : Below V.heap.size V W') => (show REo c a b V nv yv W' from ⟨y + 1, by omega, hyv, hnv, hb⟩))
      have HRi := Lib.hid (fun (x : Nat) (nv xv : Value) (W' : World) (hx : x ≤ W c) (hxv : xv = .int .i64 (x : Int)) (hnv : nv = .int .i64 (sumTo (fun y => sumTo (fun x => cellE c x y a b) (W c)) y + sumTo (fun x => cellE c (x : Int) (y : Int) a b) x)) (hb : Below Wy.heap.size Wy W') => (show REi c a b y Wy nv xv W' from ⟨x, hx, hxv, hnv, hb⟩))
      clear hs1
      go_loopw [7, 9] (fun n x w2 => REi c a b y Wy n x w2) (fun _ x _ => W c - (intOf x).toNat)
      case atStart => exact HRi.out 0 _ _ _ (by omega) rfl (by show _ = Value.int .i64 (_ + 0); rw [Int.add_zero]) (Below.refl _ _)
      case round =>
        obtain ⟨x, hx, rfl, rfl, hb⟩ := hrel
        generalize wr = Wx at *
        have hbx := sumTo_bd (f := fun x => cellE c (x : Int) (y : Int) a b) (B := 4) (fun x => cellE_bd c x y a b) x
        have hSx := Lib.hid (hS.out x)
        generalize sumTo (fun y => sumTo (fun x => cellE c x y a b) (W c)) y = s0 at *
        have HBx := Lib.hid hb
        have HVx := Lib.hid (HBy.out.trans (hb.mono HBy.out.size))
        have c0 := (HX.out.next HVx.out).c 0 _ rfl
        have c1 := (HX.out.next HVx.out).c 1 _ rfl
        have c2 := (HX.out.next HVx.out).c 2 _ rfl
        by_cases hltx : x < W c
        · have hxc : (x : Int) < c.wide := by omega
          clear hb
          go_wp2_with fail
          refine (At_any c x y Wx OK.out (HR.out.next HVx.out)).mono ?_
          rintro e w3 ⟨rfl, hb3⟩
          have HV3 := Lib.hid (HVx.out.trans (hb3.mono HVx.out.size))
          have HB3 := Lib.hid (HBx.out.trans (hb3.mono HBx.out.size))
          clear hb3 c0 c1 c2
          have hcb := cellE_bd c x y a b
          by_cases hE : at2 c x y = a
          · have hce := Lib.hid (show cellE c x y a b = sumTo (fun k => b2i ([at2 c (x - 1) y, at2 c (x + 1) y, at2 c x (y - 1), at2 c x (y + 1)].getD k 0 == b)) 4 from by
              unfold cellE
              rw [if_pos hE]
              show _ = 0 + b2i (at2 c (x - 1) y == b) + b2i (at2 c (x + 1) y == b) + b2i (at2 c x (y - 1) == b) + b2i (at2 c x (y + 1) == b)
              omega)
            have e1 : (at2 c x y != a) = false := by simp [hE]
            have HRn := Lib.hid (fun (nv xv : Value) (W' : World) (hxv : xv = .int .i64 ((x + 1 : Nat) : Int)) (hnv : nv = .int .i64 ((s0 + sumTo (fun x => cellE c (x : Int) (y : Int) a b) x) + cellE c x y a b)) (hb : Below Wy.heap.size Wy W') => HRi.out (x + 1) nv xv W' (by omega) hxv (by rw [hnv, hSx.out, Int.add_assoc]) hb)
            have hbc := Lib.hid hcb
            clear hE hcb
            generalize hP : cellE c x y a b = ce at *
            clear hP
            go_upto_region 9 with fail
            have HC := Lib.hid (show ∀ (x y : Int) (W : World), Below w3.heap.size w3 W → Calls Try.prog 34 #[.agg #[.int .i64 c.wide, .int .i64 c.high, .slice c.A c.piece.length c.c], .int .i64 x, .int .i64 y] W (Ret (.int .i64 (at2 c x y)) W) from fun x y W h => At_any c x y W OK.out (HR.out.next (HV3.out.trans (h.mono HV3.out.size))))
            have H3 := Lib.hid (show ∀ W : World, Below w3.heap.size w3 W → (W.cell? ⟨w.heap.size, 0, none⟩ = some (.int .i64 c.wide) ∧ W.cell? ⟨w.heap.size, 1, none⟩ = some (.int .i64 c.high) ∧ W.cell? ⟨w.heap.size, 2, none⟩ = some (.slice c.A c.piece.length c.c)) from fun W h => ⟨((HX.out.next HV3.out).next h).c 0 _ rfl, ((HX.out.next HV3.out).next h).c 1 _ rfl, ((HX.out.next HV3.out).next h).c 2 _ rfl⟩)
            have hw1 : IntKind.i64.wrap ((x : Int) - 1) = (x : Int) - 1 := IntWalk.i64_in _ (by omega)
            have hw2 : IntKind.i64.wrap ((y : Int) - 1) = (y : Int) - 1 := IntWalk.i64_in _ (by omega)
            have hw3 : IntKind.i64.wrap ((x : Int) + 1) = (x : Int) + 1 := IntWalk.i64_in _ (by omega)
            have hw4 : IntKind.i64.wrap ((y : Int) + 1) = (y : Int) + 1 := IntWalk.i64_in _ (by omega)
            refine wp_region_noPanic ?_
            refine wp_region_held_drew (S := fun _ => True) (by kernel_rfl) ?_ (fun _ => ?_)
            · trivial
            refine GG.sound (S0 := (fun W => Below w3.heap.size w3 W ∧ W.cell? ⟨w.heap.size, 0, none⟩ = some (.int .i64 c.wide) ∧ W.cell? ⟨w.heap.size, 1, none⟩ = some (.int .i64 c.high) ∧ W.cell? ⟨w.heap.size, 2, none⟩ = some (.slice c.A c.piece.length c.c))) _ (fun W => Below w3.heap.size w3 W) _ _ (fun W W' h hb => h.trans (hb.mono h.size)) (fun W h => ⟨h, H3.out W h⟩) ?_ _ ((Below.refl _ _).drew)
            refine gtake (i := 0) (v := ?v21) rfl (by kernel_rfl) (by kernel_rfl) (by kernel_rfl) (MakesIf.yields (Or.inl ⟨by rfl, ?hy21⟩)) ?_
            case hy21 => (intro w hSw; (try dsimp only at hSw); go_simp; try (with_reducible rfl))
            try simp only [Act.put, List.setIfInBounds_toArray, List.set_cons_zero, List.set_cons_succ]
            refine gtake (i := 1) (v := ?v22) rfl (by kernel_rfl) (by kernel_rfl) (by kernel_rfl) (MakesIf.yields (Or.inl ⟨by rfl, ?hy22⟩)) ?_
            case hy22 => (intro w hSw; (try dsimp only at hSw); go_simp; try (with_reducible rfl))
            try simp only [Act.put, List.setIfInBounds_toArray, List.set_cons_zero, List.set_cons_succ]
            refine gtake (i := 2) (v := ?v23) rfl (by kernel_rfl) (by kernel_rfl) (by kernel_rfl) (MakesIf.yields (Or.inl ⟨by rfl, ?hy23⟩)) ?_
            case hy23 => (intro w hSw; (try dsimp only at hSw); go_simp; try (with_reducible rfl))
            try simp only [Act.put, List.setIfInBounds_toArray, List.set_cons_zero, List.set_cons_succ]
            refine gtake (i := 3) (v := ?v24) rfl (by kernel_rfl) (by kernel_rfl) (by kernel_rfl) (MakesIf.yields (Or.inl ⟨by rfl, ?hy24⟩)) ?_
            case hy24 => (intro w hSw; (try dsimp only at hSw); go_simp; try (with_reducible rfl))
            try simp only [Act.put, List.setIfInBounds_toArray, List.set_cons_zero, List.set_cons_succ]
            refine gtake (i := 4) (v := .int .i64 (at2 c ((x : Int) - 1) y)) rfl (by kernel_rfl) (by kernel_rfl) (by kernel_rfl) (Or.inl ⟨by rfl, fun W hW => ?_⟩) ?_
            · go_simp; exact HC.out ((x : Int) - 1) y W hW.1
            try simp only [Act.put, List.setIfInBounds_toArray, List.set_cons_zero, List.set_cons_succ]
            refine gtake (i := 5) (v := ?v25) rfl (by kernel_rfl) (by kernel_rfl) (by kernel_rfl) (MakesIf.yields (Or.inl ⟨by rfl, ?hy25⟩)) ?_
            case hy25 => (intro w hSw; (try dsimp only at hSw); go_simp; try (with_reducible rfl))
            try simp only [Act.put, List.setIfInBounds_toArray, List.set_cons_zero, List.set_cons_succ]
            refine gtake (i := 6) (v := ?v26) rfl (by kernel_rfl) (by kernel_rfl) (by kernel_rfl) (MakesIf.yields (Or.inl ⟨by rfl, ?hy26⟩)) ?_
            case hy26 => (intro w hSw; (try dsimp only at hSw); go_simp; try (with_reducible rfl))
            try simp only [Act.put, List.setIfInBounds_toArray, List.set_cons_zero, List.set_cons_succ]
            refine gtake (i := 7) (v := ?v27) rfl (by kernel_rfl) (by kernel_rfl) (by kernel_rfl) (MakesIf.yields (Or.inl ⟨by rfl, ?hy27⟩)) ?_
            case hy27 => (intro w hSw; (try dsimp only at hSw); go_simp; try (with_reducible rfl))
            try simp only [Act.put, List.setIfInBounds_toArray, List.set_cons_zero, List.set_cons_succ]
            refine gtake (i := 8) (v := ?v28) rfl (by kernel_rfl) (by kernel_rfl) (by kernel_rfl) (MakesIf.yields (Or.inl ⟨by rfl, ?hy28⟩)) ?_
            case hy28 => (intro w hSw; (try dsimp only at hSw); go_simp; try (with_reducible rfl))
            try simp only [Act.put, List.setIfInBounds_toArray, List.set_cons_zero, List.set_cons_succ]
            refine gtake (i := 9) (v := .int .i64 (at2 c ((x : Int) + 1) y)) rfl (by kernel_rfl) (by kernel_rfl) (by kernel_rfl) (Or.inl ⟨by rfl, fun W hW => ?_⟩) ?_
            · go_simp; exact HC.out ((x : Int) + 1) y W hW.1
            try simp only [Act.put, List.setIfInBounds_toArray, List.set_cons_zero, List.set_cons_succ]
            refine gtake (i := 10) (v := ?v29) rfl (by kernel_rfl) (by kernel_rfl) (by kernel_rfl) (MakesIf.yields (Or.inl ⟨by rfl, ?hy29⟩)) ?_
            case hy29 => (intro w hSw; (try dsimp only at hSw); go_simp; try (with_reducible rfl))
            try simp only [Act.put, List.setIfInBounds_toArray, List.set_cons_zero, List.set_cons_succ]
            refine gtake (i := 11) (v := ?v30) rfl (by kernel_rfl) (by kernel_rfl) (by kernel_rfl) (MakesIf.yields (Or.inl ⟨by rfl, ?hy30⟩)) ?_
            case hy30 => (intro w hSw; (try dsimp only at hSw); go_simp; try (with_reducible rfl))
            try simp only [Act.put, List.setIfInBounds_toArray, List.set_cons_zero, List.set_cons_succ]
            refine gtake (i := 12) (v := ?v31) rfl (by kernel_rfl) (by kernel_rfl) (by kernel_rfl) (MakesIf.yields (Or.inl ⟨by rfl, ?hy31⟩)) ?_
            case hy31 => (intro w hSw; (try dsimp only at hSw); go_simp; try (with_reducible rfl))
            try simp only [Act.put, List.setIfInBounds_toArray, List.set_cons_zero, List.set_cons_succ]
            refine gtake (i := 13) (v := ?v32) rfl (by kernel_rfl) (by kernel_rfl) (by kernel_rfl) (MakesIf.yields (Or.inl ⟨by rfl, ?hy32⟩)) ?_
            case hy32 => (intro w hSw; (try dsimp only at hSw); go_simp; try (with_reducible rfl))
            try simp only [Act.put, List.setIfInBounds_toArray, List.set_cons_zero, List.set_cons_succ]
            refine gtake (i := 14) (v := .int .i64 (at2 c x ((y : Int) - 1))) rfl (by kernel_rfl) (by kernel_rfl) (by kernel_rfl) (Or.inl ⟨by rfl, fun W hW => ?_⟩) ?_
            · go_simp; exact HC.out x ((y : Int) - 1) W hW.1
            try simp only [Act.put, List.setIfInBounds_toArray, List.set_cons_zero, List.set_cons_succ]
            refine gtake (i := 15) (v := ?v33) rfl (by kernel_rfl) (by kernel_rfl) (by kernel_rfl) (MakesIf.yields (Or.inl ⟨by rfl, ?hy33⟩)) ?_
            case hy33 => (intro w hSw; (try dsimp only at hSw); go_simp; try (with_reducible rfl))
            try simp only [Act.put, List.setIfInBounds_toArray, List.set_cons_zero, List.set_cons_succ]
            refine gtake (i := 16) (v := ?v34) rfl (by kernel_rfl) (by kernel_rfl) (by kernel_rfl) (MakesIf.yields (Or.inl ⟨by rfl, ?hy34⟩)) ?_
            case hy34 => (intro w hSw; (try dsimp only at hSw); go_simp; try (with_reducible rfl))
            try simp only [Act.put, List.setIfInBounds_toArray, List.set_cons_zero, List.set_cons_succ]
            refine gtake (i := 17) (v := ?v35) rfl (by kernel_rfl) (by kernel_rfl) (by kernel_rfl) (MakesIf.yields (Or.inl ⟨by rfl, ?hy35⟩)) ?_
            case hy35 => (intro w hSw; (try dsimp only at hSw); go_simp; try (with_reducible rfl))
            try simp only [Act.put, List.setIfInBounds_toArray, List.set_cons_zero, List.set_cons_succ]
            refine gtake (i := 18) (v := ?v36) rfl (by kernel_rfl) (by kernel_rfl) (by kernel_rfl) (MakesIf.yields (Or.inl ⟨by rfl, ?hy36⟩)) ?_
            case hy36 => (intro w hSw; (try dsimp only at hSw); go_simp; try (with_reducible rfl))
            try simp only [Act.put, List.setIfInBounds_toArray, List.set_cons_zero, List.set_cons_succ]
            refine gtake (i := 19) (v := .int .i64 (at2 c x ((y : Int) + 1))) rfl (by kernel_rfl) (by kernel_rfl) (by kernel_rfl) (Or.inl ⟨by rfl, fun W hW => ?_⟩) ?_
            · go_simp; exact HC.out x ((y : Int) + 1) W hW.1
            try simp only [Act.put, List.setIfInBounds_toArray, List.set_cons_zero, List.set_cons_succ]
            refine gtake (i := 20) (v := ?v37) rfl (by kernel_rfl) (by kernel_rfl) (by kernel_rfl) (MakesIf.yields (Or.inl ⟨by rfl, ?hy37⟩)) ?_
            case hy37 => (intro w hSw; (try dsimp only at hSw); go_simp; try (with_reducible rfl))
            try simp only [Act.put, List.setIfInBounds_toArray, List.set_cons_zero, List.set_cons_succ]
            refine galloc (i := 21) (vs := #[.int .i64 0, .int .i64 0, .int .i64 0, .int .i64 0]) (t := 91) rfl (by kernel_rfl) ⟨by rfl, fun W hW => ?_⟩ (fun g hg0 => ?_)
            · go_simp
            try simp only [Act.put, List.setIfInBounds_toArray, List.set_cons_zero, List.set_cons_succ]
            refine glate (late_of (by kernel_rfl)) (fun w' hT => ?_)
            refine wpAnyH_ready (rs := [22]) (by kernel_rfl) (by simp) ?_
            refine hcons rfl (fun K hK => ?_) (AllReadyH.nil)
            have z0 := hT.2.c 0 _ rfl; have z1 := hT.2.c 1 _ rfl; have z2 := hT.2.c 2 _ rfl; have z3 := hT.2.c 3 _ rfl; have y0 := hT.2.fr 0; have y1 := hT.2.fr 1; have y2 := hT.2.fr 2; have y3 := hT.2.fr 3; go_simp
            refine hK.out _ _ ?_ (fun _ => ?_)
            · trivial
            clear hK K
            try simp only [Act.put]
            refine wpAnyH_done (by kernel_rfl) ?_ _
            refine NoPanic.normal ?_
            have hg : w3.heap.size ≤ g := by obtain ⟨W0, h0, rfl⟩ := hg0; exact h0.size
            have hn0 : 0 ≤ s0 + sumTo (fun x => cellE c (x : Int) (y : Int) a b) x ∧ s0 + sumTo (fun x => cellE c (x : Int) (y : Int) a b) x ≤ 48 * y + 4 * x := by omega
            clear hw1 hw2 hw3 hw4 HC H3 hbx hbd hSx
            generalize s0 + sumTo (fun x => cellE c (x : Int) (y : Int) a b) x = n0 at *
            generalize at2 c ((x : Int) - 1) y = p0 at *
            generalize at2 c ((x : Int) + 1) y = p1 at *
            generalize at2 c x ((y : Int) - 1) = p2 at *
            generalize at2 c x ((y : Int) + 1) = p3 at *
            have BX := Lib.hid (show Bx ((((w'.setCell ⟨g, 0, none⟩ (.int .i64 p0)).setCell ⟨g, 1, none⟩ (.int .i64 p1)).setCell ⟨g, 2, none⟩ (.int .i64 p2)).setCell ⟨g, 3, none⟩ (.int .i64 p3)) g [.int .i64 p0, .int .i64 p1, .int .i64 p2, .int .i64 p3] from hT.2.setAll [.int .i64 p0, .int .i64 p1, .int .i64 p2, .int .i64 p3] rfl)
            have hb4 : Below w3.heap.size w3 ((((w'.setCell ⟨g, 0, none⟩ (.int .i64 p0)).setCell ⟨g, 1, none⟩ (.int .i64 p1)).setCell ⟨g, 2, none⟩ (.int .i64 p2)).setCell ⟨g, 3, none⟩ (.int .i64 p3)) := below_setCells hg [.int .i64 p0, .int .i64 p1, .int .i64 p2, .int .i64 p3] 0 hT.1
            have HB4 := Lib.hid (HB3.out.trans (hb4.mono HB3.out.size))
            clear hb4 hT hg hg0
            generalize ((((w'.setCell ⟨g, 0, none⟩ (.int .i64 p0)).setCell ⟨g, 1, none⟩ (.int .i64 p1)).setCell ⟨g, 2, none⟩ (.int .i64 p2)).setCell ⟨g, 3, none⟩ (.int .i64 p3)) = W4 at *
            go_wp2_with fail
            go_loopw [7, 11] (fun n k w5 => REk [p0, p1, p2, p3] b n0 W4 n k w5) (fun _ k _ => 4 - (intOf k).toNat)
            case atStart => exact ⟨0, by omega, rfl, by show _ = Value.int .i64 (n0 + 0); rw [Int.add_zero], Below.refl _ _⟩
            case round =>
              obtain ⟨k, hk, rfl, rfl, hb⟩ := hrel
              generalize wr = Wk at *
              have HBk := Lib.hid hb
              have hbk := sumTo_bd (f := fun k => b2i ([p0, p1, p2, p3].getD k 0 == b)) (B := 1) (fun k => b2i_bd _) k
              have hSk := Lib.hid (show sumTo (fun k => b2i ([p0, p1, p2, p3].getD k 0 == b)) (k + 1) = sumTo (fun k => b2i ([p0, p1, p2, p3].getD k 0 == b)) k + b2i ([p0, p1, p2, p3].getD k 0 == b) from rfl)
              by_cases hlk : k < 4
              · have g0 := four_at (BX.out.next hb) hlk
                have hkI : (k : Int) < 4 := by omega
                have HRk := Lib.hid (fun (nv kv : Value) (W' : World) (hkv : kv = .int .i64 ((k + 1 : Nat) : Int)) (hnv : nv = .int .i64 (n0 + sumTo (fun k => b2i ([p0, p1, p2, p3].getD k 0 == b)) k + b2i ([p0, p1, p2, p3].getD k 0 == b))) (hb : Below W4.heap.size W4 W') => (show REk [p0, p1, p2, p3] b n0 W4 nv kv W' from ⟨k + 1, by omega, hkv, by rw [hnv, hSk.out, Int.add_assoc], hb⟩))
                clear hb hSk
                generalize sumTo (fun k => b2i ([p0, p1, p2, p3].getD k 0 == b)) k = sk at *
                generalize [p0, p1, p2, p3].getD k 0 = v at *
                by_cases hv : v = b
                · have e2 : (v == b) = true := by simp [hv]
                  have e3 := Lib.hid (show b2i (v == b) = 1 from by rw [e2]; rfl)
                  go_wp2_with fail
                  go_roundw
                  case rel => exact HRk.out _ _ _ (by go_num) (by rw [e3.out]) HBk.out
                  case measure => simp [intOf]; omega
                · have e2 : (v == b) = false := by simp [hv]
                  have e3 := Lib.hid (show b2i (v == b) = 0 from by rw [e2]; rfl)
                  go_wp2_with fail
                  go_roundw
                  case rel => exact HRk.out _ _ _ (by go_num) (by rw [e3.out, Int.add_zero]) HBk.out
                  case measure => simp [intOf]; omega
              · obtain rfl : k = 4 := by omega
                clear hb
                go_wp2_with fail
                go_roundw
                case rel => exact HRn.out _ _ _ (by go_num) (by rw [hce.out]) (HB4.out.trans (HBk.out.mono HB4.out.size))
                case measure => simp [intOf]; omega
          · have hce : cellE c x y a b = 0 := by unfold cellE; rw [if_neg hE]
            have e1 : (at2 c x y != a) = true := by simp [hE]
            have HCE := Lib.hid hce
            clear hce
            go_wp2_with fail
            go_roundw
            case rel => exact HRi.out (x + 1) _ _ _ (by omega) (by go_num) (by rw [hSx.out, HCE.out, Int.add_zero]) HB3.out
            case measure => simp [intOf]; omega
        · obtain rfl : x = W c := by omega
          clear hb
          go_wp2_with fail
          go_roundw
          case rel => exact HRo.out _ _ _ (by go_num) rfl HVx.out
          case measure => simp [intOf]; omega
    · obtain rfl : y = H c := by omega
      clear hb
      go_wp2_with fail
      go_ret
      exact ⟨rfl, HB.out.trans (HBy.out.mono HB.out.size)⟩
end Go.Proofs.Ytjlicbdnppodgaa
