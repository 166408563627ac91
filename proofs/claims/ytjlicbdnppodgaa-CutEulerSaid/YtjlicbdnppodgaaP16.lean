import Derived.Test.YtjlicbdnppodgaaP15
import Derived.Test.YtjlicbdnppodgaaP7
namespace Go.Proofs.Ytjlicbdnppodgaa
open Go.RowKit
open Go.Maps (Keyed)
attribute [local go_sem] Oper.semAt_some
/-! The program: row, column, split, pieces. -/
set_option maxHeartbeats 400000 in
theorem row_any (x y : Int) (w : World) : Calls Try.prog 70 #[.agg #[.int .i64 x, .int .i64 y]] w (Ret (.int .i64 y) w) := by
  go_enter Try.func70, Try.ntmps70
  go_wp2
  go_ret
  exact ⟨rfl, nxA _ _⟩
set_option maxHeartbeats 400000 in
theorem column_any (x y : Int) (w : World) : Calls Try.prog 71 #[.agg #[.int .i64 x, .int .i64 y]] w (Ret (.int .i64 x) w) := by
  go_enter Try.func71, Try.ntmps71
  go_wp2
  go_ret
  exact ⟨rfl, nxA _ _⟩
theorem loadR {w : World} {b : Nat} {a0 a1 a2 a3 : Value} (h : Bx w b [a0, a1, a2, a3]) : (loadVar 98 ⟨b, 0, none⟩).run Try.prog w = .ok (.agg #[a0, a1, a2, a3]) w := by
  have c0 := h.c 0 _ rfl
  have c1 := h.c 1 _ rfl
  have c2 := h.c 2 _ rfl
  have c3 := h.c 3 _ rfl
  clear h
  go_simp
/-- The three variables of split. -/
structure SpW (w V : World) (r a b : List Value) : Prop where
  x0 : Bx V w.heap.size r
  x1 : Bx V (w.heap.size + 1) a
  x2 : Bx V (w.heap.size + 1 + 1) b
  b : Below w.heap.size w V
theorem SpW.drew {w V : World} {r a b : List Value} (h : SpW w V r a b) : SpW w V.drew r a b := ⟨h.x0.drew, h.x1.drew, h.x2.drew, h.b.drew⟩
theorem SpW.set1 {w V : World} {r a b : List Value} (h : SpW w V r a b) (vs : List Value) (hl : vs.length = a.length) : SpW w (setCells V (w.heap.size + 1) 0 vs) r vs b :=
  ⟨h.x0.setOther (by omega) vs 0, h.x1.setAll vs hl, h.x2.setOther (by omega) vs 0, below_setCells (by omega) vs 0 h.b⟩
theorem SpW.set2 {w V : World} {r a b : List Value} (h : SpW w V r a b) (vs : List Value) (hl : vs.length = b.length) : SpW w (setCells V (w.heap.size + 1 + 1) 0 vs) r a vs :=
  ⟨h.x0.setOther (by omega) vs 0, h.x1.setOther (by omega) vs 0, h.x2.setAll vs hl, below_setCells (by omega) vs 0 h.b⟩
set_option maxHeartbeats 4000000 in
theorem split_row (x0 y0 x1 y1 at_ : Int) (w : World) : Calls Try.prog 72 #[.agg #[.int .i64 x0, .int .i64 y0, .int .i64 x1, .int .i64 y1], .bool false, .int .i64 at_] w (Ret (.tuple #[.agg #[.int .i64 x0, .int .i64 y0, .int .i64 x1, .int .i64 at_], .agg #[.int .i64 x0, .int .i64 at_, .int .i64 x1, .int .i64 y1]]) w) := by
  have n0 := nxA w (.cells #[.int .i64 x0, .int .i64 y0, .int .i64 x1, .int .i64 y1] 98)
  have n1 := nxA (w.alloc (.cells #[.int .i64 x0, .int .i64 y0, .int .i64 x1, .int .i64 y1] 98)) (.cells #[.int .i64 0, .int .i64 0, .int .i64 0, .int .i64 0] 98)
  have n2 := nxA ((w.alloc (.cells #[.int .i64 x0, .int .i64 y0, .int .i64 x1, .int .i64 y1] 98)).alloc (.cells #[.int .i64 0, .int .i64 0, .int .i64 0, .int .i64 0] 98)) (.cells #[.int .i64 0, .int .i64 0, .int .i64 0, .int .i64 0] 98)
  have y0' := ((Bx.new w #[.int .i64 x0, .int .i64 y0, .int .i64 x1, .int .i64 y1] 98).next n1).next n2
  have y1' := (Bx.new (w.alloc (.cells #[.int .i64 x0, .int .i64 y0, .int .i64 x1, .int .i64 y1] 98)) #[.int .i64 0, .int .i64 0, .int .i64 0, .int .i64 0] 98).next n2
  have y2' := Bx.new ((w.alloc (.cells #[.int .i64 x0, .int .i64 y0, .int .i64 x1, .int .i64 y1] 98)).alloc (.cells #[.int .i64 0, .int .i64 0, .int .i64 0, .int .i64 0] 98)) #[.int .i64 0, .int .i64 0, .int .i64 0, .int .i64 0] 98
  simp only [World.size_alloc] at y1' y2'
  have HS := Lib.hid (show SpW w _ (rectL x0 y0 x1 y1) [.int .i64 0, .int .i64 0, .int .i64 0, .int .i64 0] [.int .i64 0, .int .i64 0, .int .i64 0, .int .i64 0] from ⟨y0', y1', y2', n0.trans ((n1.trans (n2.mono n1.size)).mono n0.size)⟩)
  clear n0 n1 n2 y0' y1' y2'
  go_enter Try.func72, Try.ntmps72
  go_upto_region 1 with fail
  generalize ((w.alloc (.cells #[.int .i64 x0, .int .i64 y0, .int .i64 x1, .int .i64 y1] 98)).alloc (.cells #[.int .i64 0, .int .i64 0, .int .i64 0, .int .i64 0] 98)).alloc (.cells #[.int .i64 0, .int .i64 0, .int .i64 0, .int .i64 0] 98) = V at *
  go_cut [] (fun wx => SpW w wx (rectL x0 y0 x1 y1) (rectL x0 y0 x1 y1) (rectL x0 y0 x1 y1))
  case first =>
    have z0 := HS.out.x1.c 0 _ rfl
    have z1 := HS.out.x1.c 1 _ rfl
    have z2 := HS.out.x1.c 2 _ rfl
    have z3 := HS.out.x1.c 3 _ rfl
    have z4 := HS.out.x2.c 0 _ rfl
    have z5 := HS.out.x2.c 1 _ rfl
    have z6 := HS.out.x2.c 2 _ rfl
    have z7 := HS.out.x2.c 3 _ rfl
    have f0 := HS.out.x1.fr 0
    have f1 := HS.out.x1.fr 1
    have f2 := HS.out.x1.fr 2
    have f3 := HS.out.x1.fr 3
    have f4 := HS.out.x2.fr 0
    have f5 := HS.out.x2.fr 1
    have f6 := HS.out.x2.fr 2
    have f7 := HS.out.x2.fr 3
    have H1 := Lib.hid HS.out.drew
    have H2 := Lib.hid (show SpW w ((((V.setCell ⟨w.heap.size + 1, 0, none⟩ (.int .i64 x0)).setCell ⟨w.heap.size + 1, 1, none⟩ (.int .i64 y0)).setCell ⟨w.heap.size + 1, 2, none⟩ (.int .i64 x1)).setCell ⟨w.heap.size + 1, 3, none⟩ (.int .i64 y1)).drew (rectL x0 y0 x1 y1) (rectL x0 y0 x1 y1) [.int .i64 0, .int .i64 0, .int .i64 0, .int .i64 0] from (HS.out.set1 (rectL x0 y0 x1 y1) rfl).drew)
    have H3 := Lib.hid (show SpW w ((((V.setCell ⟨w.heap.size + 1 + 1, 0, none⟩ (.int .i64 x0)).setCell ⟨w.heap.size + 1 + 1, 1, none⟩ (.int .i64 y0)).setCell ⟨w.heap.size + 1 + 1, 2, none⟩ (.int .i64 x1)).setCell ⟨w.heap.size + 1 + 1, 3, none⟩ (.int .i64 y1)).drew (rectL x0 y0 x1 y1) [.int .i64 0, .int .i64 0, .int .i64 0, .int .i64 0] (rectL x0 y0 x1 y1) from (HS.out.set2 (rectL x0 y0 x1 y1) rfl).drew)
    have H4 := Lib.hid (show SpW w ((((((((V.setCell ⟨w.heap.size + 1, 0, none⟩ (.int .i64 x0)).setCell ⟨w.heap.size + 1, 1, none⟩ (.int .i64 y0)).setCell ⟨w.heap.size + 1, 2, none⟩ (.int .i64 x1)).setCell ⟨w.heap.size + 1, 3, none⟩ (.int .i64 y1)).setCell ⟨w.heap.size + 1 + 1, 0, none⟩ (.int .i64 x0)).setCell ⟨w.heap.size + 1 + 1, 1, none⟩ (.int .i64 y0)).setCell ⟨w.heap.size + 1 + 1, 2, none⟩ (.int .i64 x1)).setCell ⟨w.heap.size + 1 + 1, 3, none⟩ (.int .i64 y1)).drew (rectL x0 y0 x1 y1) (rectL x0 y0 x1 y1) (rectL x0 y0 x1 y1) from ((HS.out.set1 (rectL x0 y0 x1 y1) rfl).set2 (rectL x0 y0 x1 y1) rfl).drew)
    have H5 := Lib.hid (show SpW w ((((((((V.setCell ⟨w.heap.size + 1 + 1, 0, none⟩ (.int .i64 x0)).setCell ⟨w.heap.size + 1 + 1, 1, none⟩ (.int .i64 y0)).setCell ⟨w.heap.size + 1 + 1, 2, none⟩ (.int .i64 x1)).setCell ⟨w.heap.size + 1 + 1, 3, none⟩ (.int .i64 y1)).setCell ⟨w.heap.size + 1, 0, none⟩ (.int .i64 x0)).setCell ⟨w.heap.size + 1, 1, none⟩ (.int .i64 y0)).setCell ⟨w.heap.size + 1, 2, none⟩ (.int .i64 x1)).setCell ⟨w.heap.size + 1, 3, none⟩ (.int .i64 y1)).drew (rectL x0 y0 x1 y1) (rectL x0 y0 x1 y1) (rectL x0 y0 x1 y1) from ((HS.out.set2 (rectL x0 y0 x1 y1) rfl).set1 (rectL x0 y0 x1 y1) rfl).drew)
    have KK := Lib.hid (fun (W : World) (a b : List Value) (h : SpW w W (rectL x0 y0 x1 y1) a b) => (show W.cell? ⟨w.heap.size, 0, none⟩ = some (.int .i64 x0) ∧ W.cell? ⟨w.heap.size, 1, none⟩ = some (.int .i64 y0) ∧ W.cell? ⟨w.heap.size, 2, none⟩ = some (.int .i64 x1) ∧ W.cell? ⟨w.heap.size, 3, none⟩ = some (.int .i64 y1) from ⟨h.x0.c 0 _ rfl, h.x0.c 1 _ rfl, h.x0.c 2 _ rfl, h.x0.c 3 _ rfl⟩))
    refine wp_region_noPanic ?_
    refine wp_region_held_drew (S := (fun W => W.cell? ⟨w.heap.size, 0, none⟩ = some (.int .i64 x0) ∧ W.cell? ⟨w.heap.size, 1, none⟩ = some (.int .i64 y0) ∧ W.cell? ⟨w.heap.size, 2, none⟩ = some (.int .i64 x1) ∧ W.cell? ⟨w.heap.size, 3, none⟩ = some (.int .i64 y1))) (by kernel_rfl) ?_ (fun hHeld => ?_)
    · (try dsimp only); exact KK.out _ _ _ H1.out
    refine htake (i := 0) (v := ?v1) rfl (by kernel_rfl) (by kernel_rfl) (by kernel_rfl) (fun _ _ _ h => h) (Or.inl ⟨by rfl, ?hy1⟩) (by assumption) ?_
    case hy1 => (intro w hSw; (try dsimp only at hSw); go_simp; try (with_reducible rfl))
    try simp only [Act.put, List.setIfInBounds_toArray, List.set_cons_zero, List.set_cons_succ]
    refine htake (i := 1) (v := ?v2) rfl (by kernel_rfl) (by kernel_rfl) (by kernel_rfl) (fun _ _ _ h => h) (Or.inl ⟨by rfl, ?hy2⟩) (by assumption) ?_
    case hy2 => (intro w hSw; (try dsimp only at hSw); go_simp; try (with_reducible rfl))
    try simp only [Act.put, List.setIfInBounds_toArray, List.set_cons_zero, List.set_cons_succ]
    refine wpAnyH_ready (rs := [2]) (by kernel_rfl) (by simp) ?_
    refine hcons rfl (fun K hK => ?_) (AllReadyH.nil)
    go_simp
    refine hK.out _ _ ?_ (fun hHeld => ?_)
    · (try dsimp only); first | (with_reducible exact KK.out _ _ _ H2.out) | (with_reducible exact KK.out _ _ _ H5.out)
    clear hK K
    try simp only [Act.put, List.setIfInBounds_toArray, List.set_cons_zero, List.set_cons_succ]
    refine wpAnyH_ready (rs := [3]) (by kernel_rfl) (by simp) ?_
    refine hcons rfl (fun K hK => ?_) (AllReadyH.nil)
    go_simp
    refine hK.out _ _ ?_ (fun hHeld => ?_)
    · (try dsimp only); first | (with_reducible exact KK.out _ _ _ H3.out) | (with_reducible exact KK.out _ _ _ H4.out)
    clear hK K
    try simp only [Act.put, List.setIfInBounds_toArray, List.set_cons_zero, List.set_cons_succ]
    refine wpAnyH_done (by kernel_rfl) ?_ _
    refine NoPanic.normal ?_
    iterate 5 (try clear hHeld)
    all_goals (go_wp2_with fail; go_meet)
    all_goals first | (with_reducible exact H4.out) | (with_reducible exact H5.out)
  case rest =>
    have yy1 := hcut.x1.c 3 _ rfl
    have yy2 := hcut.x2.c 1 _ rfl
    have g1 := hcut.x1.fr 3
    have g2 := hcut.x2.fr 1
    have HS2 := Lib.hid (show SpW w ((wc.setCell ⟨w.heap.size + 1, 3, none⟩ (.int .i64 at_)).setCell ⟨w.heap.size + 1 + 1, 1, none⟩ (.int .i64 at_)) (rectL x0 y0 x1 y1) [.int .i64 x0, .int .i64 y0, .int .i64 x1, .int .i64 at_] [.int .i64 x0, .int .i64 at_, .int .i64 x1, .int .i64 y1] from
      ⟨(hcut.x0.other (by omega) _ _).other (by omega) _ _, (hcut.x1.set (k := 3) (by simp [rectL]) (.int .i64 at_)).other (by omega) _ _, (hcut.x2.other (by omega) _ _).set (k := 1) (by simp [rectL]) (.int .i64 at_), (hcut.b.setCell (p := ⟨w.heap.size + 1, 3, none⟩) (by show w.heap.size ≤ w.heap.size + 1; omega) _).setCell (p := ⟨w.heap.size + 1 + 1, 1, none⟩) (by show w.heap.size ≤ w.heap.size + 1 + 1; omega) _⟩)
    clear hcut HS
    go_upto_region 5 with fail
    clear yy1 yy2 g1 g2
    generalize (wc.setCell ⟨w.heap.size + 1, 3, none⟩ (.int .i64 at_)).setCell ⟨w.heap.size + 1 + 1, 1, none⟩ (.int .i64 at_) = V2 at *
    have z0 := HS2.out.x1.c 0 _ rfl
    have z1 := HS2.out.x1.c 1 _ rfl
    have z2 := HS2.out.x1.c 2 _ rfl
    have z3 := HS2.out.x1.c 3 _ rfl
    have z4 := HS2.out.x2.c 0 _ rfl
    have z5 := HS2.out.x2.c 1 _ rfl
    have z6 := HS2.out.x2.c 2 _ rfl
    have z7 := HS2.out.x2.c 3 _ rfl
    have f0 := HS2.out.x1.fr 0
    have f1 := HS2.out.x1.fr 1
    have f2 := HS2.out.x1.fr 2
    have f3 := HS2.out.x1.fr 3
    have f4 := HS2.out.x2.fr 0
    have f5 := HS2.out.x2.fr 1
    have f6 := HS2.out.x2.fr 2
    have f7 := HS2.out.x2.fr 3
    have H1 := Lib.hid HS2.out.drew
    have H2 := Lib.hid (show SpW w ((((V2.setCell ⟨w.heap.size + 1, 0, none⟩ (.int .i64 x0)).setCell ⟨w.heap.size + 1, 1, none⟩ (.int .i64 y0)).setCell ⟨w.heap.size + 1, 2, none⟩ (.int .i64 x1)).setCell ⟨w.heap.size + 1, 3, none⟩ (.int .i64 at_)).drew (rectL x0 y0 x1 y1) [.int .i64 x0, .int .i64 y0, .int .i64 x1, .int .i64 at_] [.int .i64 x0, .int .i64 at_, .int .i64 x1, .int .i64 y1] from (HS2.out.set1 [.int .i64 x0, .int .i64 y0, .int .i64 x1, .int .i64 at_] rfl).drew)
    have H3 := Lib.hid (show SpW w ((((V2.setCell ⟨w.heap.size + 1 + 1, 0, none⟩ (.int .i64 x0)).setCell ⟨w.heap.size + 1 + 1, 1, none⟩ (.int .i64 at_)).setCell ⟨w.heap.size + 1 + 1, 2, none⟩ (.int .i64 x1)).setCell ⟨w.heap.size + 1 + 1, 3, none⟩ (.int .i64 y1)).drew (rectL x0 y0 x1 y1) [.int .i64 x0, .int .i64 y0, .int .i64 x1, .int .i64 at_] [.int .i64 x0, .int .i64 at_, .int .i64 x1, .int .i64 y1] from (HS2.out.set2 [.int .i64 x0, .int .i64 at_, .int .i64 x1, .int .i64 y1] rfl).drew)
    have H4 := Lib.hid (show SpW w ((((((((V2.setCell ⟨w.heap.size + 1, 0, none⟩ (.int .i64 x0)).setCell ⟨w.heap.size + 1, 1, none⟩ (.int .i64 y0)).setCell ⟨w.heap.size + 1, 2, none⟩ (.int .i64 x1)).setCell ⟨w.heap.size + 1, 3, none⟩ (.int .i64 at_)).setCell ⟨w.heap.size + 1 + 1, 0, none⟩ (.int .i64 x0)).setCell ⟨w.heap.size + 1 + 1, 1, none⟩ (.int .i64 at_)).setCell ⟨w.heap.size + 1 + 1, 2, none⟩ (.int .i64 x1)).setCell ⟨w.heap.size + 1 + 1, 3, none⟩ (.int .i64 y1)).drew (rectL x0 y0 x1 y1) [.int .i64 x0, .int .i64 y0, .int .i64 x1, .int .i64 at_] [.int .i64 x0, .int .i64 at_, .int .i64 x1, .int .i64 y1] from ((HS2.out.set1 [.int .i64 x0, .int .i64 y0, .int .i64 x1, .int .i64 at_] rfl).set2 [.int .i64 x0, .int .i64 at_, .int .i64 x1, .int .i64 y1] rfl).drew)
    have H5 := Lib.hid (show SpW w ((((((((V2.setCell ⟨w.heap.size + 1 + 1, 0, none⟩ (.int .i64 x0)).setCell ⟨w.heap.size + 1 + 1, 1, none⟩ (.int .i64 at_)).setCell ⟨w.heap.size + 1 + 1, 2, none⟩ (.int .i64 x1)).setCell ⟨w.heap.size + 1 + 1, 3, none⟩ (.int .i64 y1)).setCell ⟨w.heap.size + 1, 0, none⟩ (.int .i64 x0)).setCell ⟨w.heap.size + 1, 1, none⟩ (.int .i64 y0)).setCell ⟨w.heap.size + 1, 2, none⟩ (.int .i64 x1)).setCell ⟨w.heap.size + 1, 3, none⟩ (.int .i64 at_)).drew (rectL x0 y0 x1 y1) [.int .i64 x0, .int .i64 y0, .int .i64 x1, .int .i64 at_] [.int .i64 x0, .int .i64 at_, .int .i64 x1, .int .i64 y1] from ((HS2.out.set2 [.int .i64 x0, .int .i64 at_, .int .i64 x1, .int .i64 y1] rfl).set1 [.int .i64 x0, .int .i64 y0, .int .i64 x1, .int .i64 at_] rfl).drew)
    have KK := Lib.hid (fun (W : World) (h : SpW w W (rectL x0 y0 x1 y1) [.int .i64 x0, .int .i64 y0, .int .i64 x1, .int .i64 at_] [.int .i64 x0, .int .i64 at_, .int .i64 x1, .int .i64 y1]) => (show W.cell? ⟨w.heap.size + 1, 0, none⟩ = some (.int .i64 x0) ∧ W.cell? ⟨w.heap.size + 1, 1, none⟩ = some (.int .i64 y0) ∧ W.cell? ⟨w.heap.size + 1, 2, none⟩ = some (.int .i64 x1) ∧ W.cell? ⟨w.heap.size + 1, 3, none⟩ = some (.int .i64 at_) ∧ W.cell? ⟨w.heap.size + 1 + 1, 0, none⟩ = some (.int .i64 x0) ∧ W.cell? ⟨w.heap.size + 1 + 1, 1, none⟩ = some (.int .i64 at_) ∧ W.cell? ⟨w.heap.size + 1 + 1, 2, none⟩ = some (.int .i64 x1) ∧ W.cell? ⟨w.heap.size + 1 + 1, 3, none⟩ = some (.int .i64 y1) from ⟨h.x1.c 0 _ rfl, h.x1.c 1 _ rfl, h.x1.c 2 _ rfl, h.x1.c 3 _ rfl, h.x2.c 0 _ rfl, h.x2.c 1 _ rfl, h.x2.c 2 _ rfl, h.x2.c 3 _ rfl⟩))
    refine wp_region_noPanic ?_
    refine wp_region_held_drew (S := (fun W => W.cell? ⟨w.heap.size + 1, 0, none⟩ = some (.int .i64 x0) ∧ W.cell? ⟨w.heap.size + 1, 1, none⟩ = some (.int .i64 y0) ∧ W.cell? ⟨w.heap.size + 1, 2, none⟩ = some (.int .i64 x1) ∧ W.cell? ⟨w.heap.size + 1, 3, none⟩ = some (.int .i64 at_) ∧ W.cell? ⟨w.heap.size + 1 + 1, 0, none⟩ = some (.int .i64 x0) ∧ W.cell? ⟨w.heap.size + 1 + 1, 1, none⟩ = some (.int .i64 at_) ∧ W.cell? ⟨w.heap.size + 1 + 1, 2, none⟩ = some (.int .i64 x1) ∧ W.cell? ⟨w.heap.size + 1 + 1, 3, none⟩ = some (.int .i64 y1))) (by kernel_rfl) ?_ (fun hHeld => ?_)
    · (try dsimp only); exact KK.out _ H1.out
    refine htake (i := 0) (v := ?v3) rfl (by kernel_rfl) (by kernel_rfl) (by kernel_rfl) (fun _ _ _ h => h) (Or.inl ⟨by rfl, ?hy3⟩) (by assumption) ?_
    case hy3 => (intro w hSw; (try dsimp only at hSw); go_simp; try (with_reducible rfl))
    try simp only [Act.put, List.setIfInBounds_toArray, List.set_cons_zero, List.set_cons_succ]
    refine htake (i := 1) (v := ?v4) rfl (by kernel_rfl) (by kernel_rfl) (by kernel_rfl) (fun _ _ _ h => h) (Or.inl ⟨by rfl, ?hy4⟩) (by assumption) ?_
    case hy4 => (intro w hSw; (try dsimp only at hSw); go_simp; try (with_reducible rfl))
    try simp only [Act.put, List.setIfInBounds_toArray, List.set_cons_zero, List.set_cons_succ]
    refine wpAnyH_ready (rs := [2]) (by kernel_rfl) (by simp) ?_
    refine hcons rfl (fun K hK => ?_) (AllReadyH.nil)
    go_simp
    refine hK.out _ _ ?_ (fun hHeld => ?_)
    · (try dsimp only); first | (with_reducible exact KK.out _ H2.out) | (with_reducible exact KK.out _ H5.out)
    clear hK K
    try simp only [Act.put, List.setIfInBounds_toArray, List.set_cons_zero, List.set_cons_succ]
    refine wpAnyH_ready (rs := [3]) (by kernel_rfl) (by simp) ?_
    refine hcons rfl (fun K hK => ?_) (AllReadyH.nil)
    go_simp
    refine hK.out _ _ ?_ (fun hHeld => ?_)
    · (try dsimp only); first | (with_reducible exact KK.out _ H3.out) | (with_reducible exact KK.out _ H4.out)
    clear hK K
    try simp only [Act.put, List.setIfInBounds_toArray, List.set_cons_zero, List.set_cons_succ]
    refine wpAnyH_done (by kernel_rfl) ?_ _
    refine NoPanic.normal ?_
    iterate 5 (try clear hHeld)
    · have R1 := Lib.hid (loadR H4.out.x1)
      have R2 := Lib.hid (loadR H4.out.x2)
      go_wp2_with fail
      ((try simp only [Exit.inBlock, Exit.then]); refine bodyPost_ret (results_cells2 rfl rfl rfl R1.out R2.out) rfl ?_)
      exact ⟨rfl, H4.out.b⟩
set_option maxHeartbeats 4000000 in
theorem split_col (x0 y0 x1 y1 at_ : Int) (w : World) : Calls Try.prog 72 #[.agg #[.int .i64 x0, .int .i64 y0, .int .i64 x1, .int .i64 y1], .bool true, .int .i64 at_] w (Ret (.tuple #[.agg #[.int .i64 x0, .int .i64 y0, .int .i64 at_, .int .i64 y1], .agg #[.int .i64 at_, .int .i64 y0, .int .i64 x1, .int .i64 y1]]) w) := by
  have n0 := nxA w (.cells #[.int .i64 x0, .int .i64 y0, .int .i64 x1, .int .i64 y1] 98)
  have n1 := nxA (w.alloc (.cells #[.int .i64 x0, .int .i64 y0, .int .i64 x1, .int .i64 y1] 98)) (.cells #[.int .i64 0, .int .i64 0, .int .i64 0, .int .i64 0] 98)
  have n2 := nxA ((w.alloc (.cells #[.int .i64 x0, .int .i64 y0, .int .i64 x1, .int .i64 y1] 98)).alloc (.cells #[.int .i64 0, .int .i64 0, .int .i64 0, .int .i64 0] 98)) (.cells #[.int .i64 0, .int .i64 0, .int .i64 0, .int .i64 0] 98)
  have y0' := ((Bx.new w #[.int .i64 x0, .int .i64 y0, .int .i64 x1, .int .i64 y1] 98).next n1).next n2
  have y1' := (Bx.new (w.alloc (.cells #[.int .i64 x0, .int .i64 y0, .int .i64 x1, .int .i64 y1] 98)) #[.int .i64 0, .int .i64 0, .int .i64 0, .int .i64 0] 98).next n2
  have y2' := Bx.new ((w.alloc (.cells #[.int .i64 x0, .int .i64 y0, .int .i64 x1, .int .i64 y1] 98)).alloc (.cells #[.int .i64 0, .int .i64 0, .int .i64 0, .int .i64 0] 98)) #[.int .i64 0, .int .i64 0, .int .i64 0, .int .i64 0] 98
  simp only [World.size_alloc] at y1' y2'
  have HS := Lib.hid (show SpW w _ (rectL x0 y0 x1 y1) [.int .i64 0, .int .i64 0, .int .i64 0, .int .i64 0] [.int .i64 0, .int .i64 0, .int .i64 0, .int .i64 0] from ⟨y0', y1', y2', n0.trans ((n1.trans (n2.mono n1.size)).mono n0.size)⟩)
  clear n0 n1 n2 y0' y1' y2'
  go_enter Try.func72, Try.ntmps72
  go_upto_region 1 with fail
  generalize ((w.alloc (.cells #[.int .i64 x0, .int .i64 y0, .int .i64 x1, .int .i64 y1] 98)).alloc (.cells #[.int .i64 0, .int .i64 0, .int .i64 0, .int .i64 0] 98)).alloc (.cells #[.int .i64 0, .int .i64 0, .int .i64 0, .int .i64 0] 98) = V at *
  go_cut [] (fun wx => SpW w wx (rectL x0 y0 x1 y1) (rectL x0 y0 x1 y1) (rectL x0 y0 x1 y1))
  case first =>
    have z0 := HS.out.x1.c 0 _ rfl
    have z1 := HS.out.x1.c 1 _ rfl
    have z2 := HS.out.x1.c 2 _ rfl
    have z3 := HS.out.x1.c 3 _ rfl
    have z4 := HS.out.x2.c 0 _ rfl
    have z5 := HS.out.x2.c 1 _ rfl
    have z6 := HS.out.x2.c 2 _ rfl
    have z7 := HS.out.x2.c 3 _ rfl
    have f0 := HS.out.x1.fr 0
    have f1 := HS.out.x1.fr 1
    have f2 := HS.out.x1.fr 2
    have f3 := HS.out.x1.fr 3
    have f4 := HS.out.x2.fr 0
    have f5 := HS.out.x2.fr 1
    have f6 := HS.out.x2.fr 2
    have f7 := HS.out.x2.fr 3
    have H1 := Lib.hid HS.out.drew
    have H2 := Lib.hid (show SpW w ((((V.setCell ⟨w.heap.size + 1, 0, none⟩ (.int .i64 x0)).setCell ⟨w.heap.size + 1, 1, none⟩ (.int .i64 y0)).setCell ⟨w.heap.size + 1, 2, none⟩ (.int .i64 x1)).setCell ⟨w.heap.size + 1, 3, none⟩ (.int .i64 y1)).drew (rectL x0 y0 x1 y1) (rectL x0 y0 x1 y1) [.int .i64 0, .int .i64 0, .int .i64 0, .int .i64 0] from (HS.out.set1 (rectL x0 y0 x1 y1) rfl).drew)
    have H3 := Lib.hid (show SpW w ((((V.setCell ⟨w.heap.size + 1 + 1, 0, none⟩ (.int .i64 x0)).setCell ⟨w.heap.size + 1 + 1, 1, none⟩ (.int .i64 y0)).setCell ⟨w.heap.size + 1 + 1, 2, none⟩ (.int .i64 x1)).setCell ⟨w.heap.size + 1 + 1, 3, none⟩ (.int .i64 y1)).drew (rectL x0 y0 x1 y1) [.int .i64 0, .int .i64 0, .int .i64 0, .int .i64 0] (rectL x0 y0 x1 y1) from (HS.out.set2 (rectL x0 y0 x1 y1) rfl).drew)
    have H4 := Lib.hid (show SpW w ((((((((V.setCell ⟨w.heap.size + 1, 0, none⟩ (.int .i64 x0)).setCell ⟨w.heap.size + 1, 1, none⟩ (.int .i64 y0)).setCell ⟨w.heap.size + 1, 2, none⟩ (.int .i64 x1)).setCell ⟨w.heap.size + 1, 3, none⟩ (.int .i64 y1)).setCell ⟨w.heap.size + 1 + 1, 0, none⟩ (.int .i64 x0)).setCell ⟨w.heap.size + 1 + 1, 1, none⟩ (.int .i64 y0)).setCell ⟨w.heap.size + 1 + 1, 2, none⟩ (.int .i64 x1)).setCell ⟨w.heap.size + 1 + 1, 3, none⟩ (.int .i64 y1)).drew (rectL x0 y0 x1 y1) (rectL x0 y0 x1 y1) (rectL x0 y0 x1 y1) from ((HS.out.set1 (rectL x0 y0 x1 y1) rfl).set2 (rectL x0 y0 x1 y1) rfl).drew)
    have H5 := Lib.hid (show SpW w ((((((((V.setCell ⟨w.heap.size + 1 + 1, 0, none⟩ (.int .i64 x0)).setCell ⟨w.heap.size + 1 + 1, 1, none⟩ (.int .i64 y0)).setCell ⟨w.heap.size + 1 + 1, 2, none⟩ (.int .i64 x1)).setCell ⟨w.heap.size + 1 + 1, 3, none⟩ (.int .i64 y1)).setCell ⟨w.heap.size + 1, 0, none⟩ (.int .i64 x0)).setCell ⟨w.heap.size + 1, 1, none⟩ (.int .i64 y0)).setCell ⟨w.heap.size + 1, 2, none⟩ (.int .i64 x1)).setCell ⟨w.heap.size + 1, 3, none⟩ (.int .i64 y1)).drew (rectL x0 y0 x1 y1) (rectL x0 y0 x1 y1) (rectL x0 y0 x1 y1) from ((HS.out.set2 (rectL x0 y0 x1 y1) rfl).set1 (rectL x0 y0 x1 y1) rfl).drew)
    have KK := Lib.hid (fun (W : World) (a b : List Value) (h : SpW w W (rectL x0 y0 x1 y1) a b) => (show W.cell? ⟨w.heap.size, 0, none⟩ = some (.int .i64 x0) ∧ W.cell? ⟨w.heap.size, 1, none⟩ = some (.int .i64 y0) ∧ W.cell? ⟨w.heap.size, 2, none⟩ = some (.int .i64 x1) ∧ W.cell? ⟨w.heap.size, 3, none⟩ = some (.int .i64 y1) from ⟨h.x0.c 0 _ rfl, h.x0.c 1 _ rfl, h.x0.c 2 _ rfl, h.x0.c 3 _ rfl⟩))
    refine wp_region_noPanic ?_
    refine wp_region_held_drew (S := (fun W => W.cell? ⟨w.heap.size, 0, none⟩ = some (.int .i64 x0) ∧ W.cell? ⟨w.heap.size, 1, none⟩ = some (.int .i64 y0) ∧ W.cell? ⟨w.heap.size, 2, none⟩ = some (.int .i64 x1) ∧ W.cell? ⟨w.heap.size, 3, none⟩ = some (.int .i64 y1))) (by kernel_rfl) ?_ (fun hHeld => ?_)
    · (try dsimp only); exact KK.out _ _ _ H1.out
    refine htake (i := 0) (v := ?v5) rfl (by kernel_rfl) (by kernel_rfl) (by kernel_rfl) (fun _ _ _ h => h) (Or.inl ⟨by rfl, ?hy5⟩) (by assumption) ?_
    case hy5 => (intro w hSw; (try dsimp only at hSw); go_simp; try (with_reducible rfl))
    try simp only [Act.put, List.setIfInBounds_toArray, List.set_cons_zero, List.set_cons_succ]
    refine htake (i := 1) (v := ?v6) rfl (by kernel_rfl) (by kernel_rfl) (by kernel_rfl) (fun _ _ _ h => h) (Or.inl ⟨by rfl, ?hy6⟩) (by assumption) ?_
    case hy6 => (intro w hSw; (try dsimp only at hSw); go_simp; try (with_reducible rfl))
    try simp only [Act.put, List.setIfInBounds_toArray, List.set_cons_zero, List.set_cons_succ]
    refine wpAnyH_ready (rs := [2]) (by kernel_rfl) (by simp) ?_
    refine hcons rfl (fun K hK => ?_) (AllReadyH.nil)
    go_simp
    refine hK.out _ _ ?_ (fun hHeld => ?_)
    · (try dsimp only); first | (with_reducible exact KK.out _ _ _ H2.out) | (with_reducible exact KK.out _ _ _ H5.out)
    clear hK K
    try simp only [Act.put, List.setIfInBounds_toArray, List.set_cons_zero, List.set_cons_succ]
    refine wpAnyH_ready (rs := [3]) (by kernel_rfl) (by simp) ?_
    refine hcons rfl (fun K hK => ?_) (AllReadyH.nil)
    go_simp
    refine hK.out _ _ ?_ (fun hHeld => ?_)
    · (try dsimp only); first | (with_reducible exact KK.out _ _ _ H3.out) | (with_reducible exact KK.out _ _ _ H4.out)
    clear hK K
    try simp only [Act.put, List.setIfInBounds_toArray, List.set_cons_zero, List.set_cons_succ]
    refine wpAnyH_done (by kernel_rfl) ?_ _
    refine NoPanic.normal ?_
    iterate 5 (try clear hHeld)
    all_goals (go_wp2_with fail; go_meet)
    all_goals first | (with_reducible exact H4.out) | (with_reducible exact H5.out)
  case rest =>
    have yy1 := hcut.x1.c 2 _ rfl
    have yy2 := hcut.x2.c 0 _ rfl
    have g1 := hcut.x1.fr 2
    have g2 := hcut.x2.fr 0
    have HS2 := Lib.hid (show SpW w ((wc.setCell ⟨w.heap.size + 1, 2, none⟩ (.int .i64 at_)).setCell ⟨w.heap.size + 1 + 1, 0, none⟩ (.int .i64 at_)) (rectL x0 y0 x1 y1) [.int .i64 x0, .int .i64 y0, .int .i64 at_, .int .i64 y1] [.int .i64 at_, .int .i64 y0, .int .i64 x1, .int .i64 y1] from
      ⟨(hcut.x0.other (by omega) _ _).other (by omega) _ _, (hcut.x1.set (k := 2) (by simp [rectL]) (.int .i64 at_)).other (by omega) _ _, (hcut.x2.other (by omega) _ _).set (k := 0) (by simp [rectL]) (.int .i64 at_), (hcut.b.setCell (p := ⟨w.heap.size + 1, 2, none⟩) (by show w.heap.size ≤ w.heap.size + 1; omega) _).setCell (p := ⟨w.heap.size + 1 + 1, 0, none⟩) (by show w.heap.size ≤ w.heap.size + 1 + 1; omega) _⟩)
    clear hcut HS
    go_upto_region 5 with fail
    clear yy1 yy2 g1 g2
    generalize (wc.setCell ⟨w.heap.size + 1, 2, none⟩ (.int .i64 at_)).setCell ⟨w.heap.size + 1 + 1, 0, none⟩ (.int .i64 at_) = V2 at *
    have z0 := HS2.out.x1.c 0 _ rfl
    have z1 := HS2.out.x1.c 1 _ rfl
    have z2 := HS2.out.x1.c 2 _ rfl
    have z3 := HS2.out.x1.c 3 _ rfl
    have z4 := HS2.out.x2.c 0 _ rfl
    have z5 := HS2.out.x2.c 1 _ rfl
    have z6 := HS2.out.x2.c 2 _ rfl
    have z7 := HS2.out.x2.c 3 _ rfl
    have f0 := HS2.out.x1.fr 0
    have f1 := HS2.out.x1.fr 1
    have f2 := HS2.out.x1.fr 2
    have f3 := HS2.out.x1.fr 3
    have f4 := HS2.out.x2.fr 0
    have f5 := HS2.out.x2.fr 1
    have f6 := HS2.out.x2.fr 2
    have f7 := HS2.out.x2.fr 3
    have H1 := Lib.hid HS2.out.drew
    have H2 := Lib.hid (show SpW w ((((V2.setCell ⟨w.heap.size + 1, 0, none⟩ (.int .i64 x0)).setCell ⟨w.heap.size + 1, 1, none⟩ (.int .i64 y0)).setCell ⟨w.heap.size + 1, 2, none⟩ (.int .i64 at_)).setCell ⟨w.heap.size + 1, 3, none⟩ (.int .i64 y1)).drew (rectL x0 y0 x1 y1) [.int .i64 x0, .int .i64 y0, .int .i64 at_, .int .i64 y1] [.int .i64 at_, .int .i64 y0, .int .i64 x1, .int .i64 y1] from (HS2.out.set1 [.int .i64 x0, .int .i64 y0, .int .i64 at_, .int .i64 y1] rfl).drew)
    have H3 := Lib.hid (show SpW w ((((V2.setCell ⟨w.heap.size + 1 + 1, 0, none⟩ (.int .i64 at_)).setCell ⟨w.heap.size + 1 + 1, 1, none⟩ (.int .i64 y0)).setCell ⟨w.heap.size + 1 + 1, 2, none⟩ (.int .i64 x1)).setCell ⟨w.heap.size + 1 + 1, 3, none⟩ (.int .i64 y1)).drew (rectL x0 y0 x1 y1) [.int .i64 x0, .int .i64 y0, .int .i64 at_, .int .i64 y1] [.int .i64 at_, .int .i64 y0, .int .i64 x1, .int .i64 y1] from (HS2.out.set2 [.int .i64 at_, .int .i64 y0, .int .i64 x1, .int .i64 y1] rfl).drew)
    have H4 := Lib.hid (show SpW w ((((((((V2.setCell ⟨w.heap.size + 1, 0, none⟩ (.int .i64 x0)).setCell ⟨w.heap.size + 1, 1, none⟩ (.int .i64 y0)).setCell ⟨w.heap.size + 1, 2, none⟩ (.int .i64 at_)).setCell ⟨w.heap.size + 1, 3, none⟩ (.int .i64 y1)).setCell ⟨w.heap.size + 1 + 1, 0, none⟩ (.int .i64 at_)).setCell ⟨w.heap.size + 1 + 1, 1, none⟩ (.int .i64 y0)).setCell ⟨w.heap.size + 1 + 1, 2, none⟩ (.int .i64 x1)).setCell ⟨w.heap.size + 1 + 1, 3, none⟩ (.int .i64 y1)).drew (rectL x0 y0 x1 y1) [.int .i64 x0, .int .i64 y0, .int .i64 at_, .int .i64 y1] [.int .i64 at_, .int .i64 y0, .int .i64 x1, .int .i64 y1] from ((HS2.out.set1 [.int .i64 x0, .int .i64 y0, .int .i64 at_, .int .i64 y1] rfl).set2 [.int .i64 at_, .int .i64 y0, .int .i64 x1, .int .i64 y1] rfl).drew)
    have H5 := Lib.hid (show SpW w ((((((((V2.setCell ⟨w.heap.size + 1 + 1, 0, none⟩ (.int .i64 at_)).setCell ⟨w.heap.size + 1 + 1, 1, none⟩ (.int .i64 y0)).setCell ⟨w.heap.size + 1 + 1, 2, none⟩ (.int .i64 x1)).setCell ⟨w.heap.size + 1 + 1, 3, none⟩ (.int .i64 y1)).setCell ⟨w.heap.size + 1, 0, none⟩ (.int .i64 x0)).setCell ⟨w.heap.size + 1, 1, none⟩ (.int .i64 y0)).setCell ⟨w.heap.size + 1, 2, none⟩ (.int .i64 at_)).setCell ⟨w.heap.size + 1, 3, none⟩ (.int .i64 y1)).drew (rectL x0 y0 x1 y1) [.int .i64 x0, .int .i64 y0, .int .i64 at_, .int .i64 y1] [.int .i64 at_, .int .i64 y0, .int .i64 x1, .int .i64 y1] from ((HS2.out.set2 [.int .i64 at_, .int .i64 y0, .int .i64 x1, .int .i64 y1] rfl).set1 [.int .i64 x0, .int .i64 y0, .int .i64 at_, .int .i64 y1] rfl).drew)
    have KK := Lib.hid (fun (W : World) (h : SpW w W (rectL x0 y0 x1 y1) [.int .i64 x0, .int .i64 y0, .int .i64 at_, .int .i64 y1] [.int .i64 at_, .int .i64 y0, .int .i64 x1, .int .i64 y1]) => (show W.cell? ⟨w.heap.size + 1, 0, none⟩ = some (.int .i64 x0) ∧ W.cell? ⟨w.heap.size + 1, 1, none⟩ = some (.int .i64 y0) ∧ W.cell? ⟨w.heap.size + 1, 2, none⟩ = some (.int .i64 at_) ∧ W.cell? ⟨w.heap.size + 1, 3, none⟩ = some (.int .i64 y1) ∧ W.cell? ⟨w.heap.size + 1 + 1, 0, none⟩ = some (.int .i64 at_) ∧ W.cell? ⟨w.heap.size + 1 + 1, 1, none⟩ = some (.int .i64 y0) ∧ W.cell? ⟨w.heap.size + 1 + 1, 2, none⟩ = some (.int .i64 x1) ∧ W.cell? ⟨w.heap.size + 1 + 1, 3, none⟩ = some (.int .i64 y1) from ⟨h.x1.c 0 _ rfl, h.x1.c 1 _ rfl, h.x1.c 2 _ rfl, h.x1.c 3 _ rfl, h.x2.c 0 _ rfl, h.x2.c 1 _ rfl, h.x2.c 2 _ rfl, h.x2.c 3 _ rfl⟩))
    refine wp_region_noPanic ?_
    refine wp_region_held_drew (S := (fun W => W.cell? ⟨w.heap.size + 1, 0, none⟩ = some (.int .i64 x0) ∧ W.cell? ⟨w.heap.size + 1, 1, none⟩ = some (.int .i64 y0) ∧ W.cell? ⟨w.heap.size + 1, 2, none⟩ = some (.int .i64 at_) ∧ W.cell? ⟨w.heap.size + 1, 3, none⟩ = some (.int .i64 y1) ∧ W.cell? ⟨w.heap.size + 1 + 1, 0, none⟩ = some (.int .i64 at_) ∧ W.cell? ⟨w.heap.size + 1 + 1, 1, none⟩ = some (.int .i64 y0) ∧ W.cell? ⟨w.heap.size + 1 + 1, 2, none⟩ = some (.int .i64 x1) ∧ W.cell? ⟨w.heap.size + 1 + 1, 3, none⟩ = some (.int .i64 y1))) (by kernel_rfl) ?_ (fun hHeld => ?_)
    · (try dsimp only); exact KK.out _ H1.out
    refine htake (i := 0) (v := ?v7) rfl (by kernel_rfl) (by kernel_rfl) (by kernel_rfl) (fun _ _ _ h => h) (Or.inl ⟨by rfl, ?hy7⟩) (by assumption) ?_
    case hy7 => (intro w hSw; (try dsimp only at hSw); go_simp; try (with_reducible rfl))
    try simp only [Act.put, List.setIfInBounds_toArray, List.set_cons_zero, List.set_cons_succ]
    refine htake (i := 1) (v := ?v8) rfl (by kernel_rfl) (by kernel_rfl) (by kernel_rfl) (fun _ _ _ h => h) (Or.inl ⟨by rfl, ?hy8⟩) (by assumption) ?_
    case hy8 => (intro w hSw; (try dsimp only at hSw); go_simp; try (with_reducible rfl))
    try simp only [Act.put, List.setIfInBounds_toArray, List.set_cons_zero, List.set_cons_succ]
    refine wpAnyH_ready (rs := [2]) (by kernel_rfl) (by simp) ?_
    refine hcons rfl (fun K hK => ?_) (AllReadyH.nil)
    go_simp
    refine hK.out _ _ ?_ (fun hHeld => ?_)
    · (try dsimp only); first | (with_reducible exact KK.out _ H2.out) | (with_reducible exact KK.out _ H5.out)
    clear hK K
    try simp only [Act.put, List.setIfInBounds_toArray, List.set_cons_zero, List.set_cons_succ]
    refine wpAnyH_ready (rs := [3]) (by kernel_rfl) (by simp) ?_
    refine hcons rfl (fun K hK => ?_) (AllReadyH.nil)
    go_simp
    refine hK.out _ _ ?_ (fun hHeld => ?_)
    · (try dsimp only); first | (with_reducible exact KK.out _ H3.out) | (with_reducible exact KK.out _ H4.out)
    clear hK K
    try simp only [Act.put, List.setIfInBounds_toArray, List.set_cons_zero, List.set_cons_succ]
    refine wpAnyH_done (by kernel_rfl) ?_ _
    refine NoPanic.normal ?_
    iterate 5 (try clear hHeld)
    · have R1 := Lib.hid (loadR H4.out.x1)
      have R2 := Lib.hid (loadR H4.out.x2)
      go_wp2_with fail
      ((try simp only [Exit.inBlock, Exit.then]); refine bodyPost_ret (results_cells2 rfl rfl rfl R1.out R2.out) rfl ?_)
      exact ⟨rfl, H4.out.b⟩
end Go.Proofs.Ytjlicbdnppodgaa
