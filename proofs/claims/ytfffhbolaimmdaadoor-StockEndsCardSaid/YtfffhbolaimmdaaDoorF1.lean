import Derived.Test.YtfffhbolaimmdaaDoorA3
import Derived.Test.YtfffhbolaimmdaaDoorQ4
namespace Go.Proofs.YtfffhbolaimmdaaDoor
open Go.RowKit
theorem sheet_info : (Tryd.prog.info? 54).map (fun i => (i.zero, i.size, i.bytes)) = some (some (.agg #[.int .i64 0, .int .i64 0, .int .i64 0]), 3, 24) := by kernel_rfl
def tab3V (n : Nat) (f : Nat → Sheet) : List Value := (List.range n).flatMap fun k => (f k).cells
theorem tab3V_succ (n : Nat) (f : Nat → Sheet) : tab3V (n + 1) f = tab3V n f ++ [.int .i64 (f n).lo, .int .i64 (f n).hi, .int .i64 (f n).cost] := by simp [tab3V, List.range_succ, List.flatMap_append, Sheet.cells]
theorem length_tab3V (n : Nat) (f : Nat → Sheet) : (tab3V n f).length = 3 * n := by
  induction n with
  | zero => rfl
  | succ n ih => rw [tab3V_succ, List.length_append, ih]; simp; omega
theorem tab3V_get {n : Nat} {f : Nat → Sheet} {k : Nat} (hk : k < n) {j : Nat} {u : Value} (hu : (f k).cells[j]? = some u) : (tab3V n f)[k * 3 + j]? = some u := by
  have hj : j < 3 := (List.getElem?_eq_some_iff.1 hu).1
  induction n with
  | zero => omega
  | succ n ih =>
    rw [tab3V_succ]
    by_cases e : k < n
    · rw [List.getElem?_append_left (by rw [length_tab3V]; omega)]
      exact ih e
    · obtain rfl : k = n := by omega
      rw [List.getElem?_append_right (by rw [length_tab3V]; omega), length_tab3V, show k * 3 + j - 3 * k = j by omega]
      exact hu
theorem own_sheets {w : World} {base : Nat} {e : TypeId} {v : Value} {n : Nat} {f : Nat → Sheet} {l : List Sheet} (h : w.ownsRow base e 3 v n (tab3V n f)) (hl : ∀ k x, l[k]? = some x → k < n ∧ x = f k) :
    ∃ A c, v = .slice A n c ∧ At w w.heap.size 3 Sheet.cells A l := by
  obtain ⟨A, c, hv, hc⟩ := own_form h
  refine ⟨A, c, hv, fun k x hx => ?_⟩
  obtain ⟨hk, rfl⟩ := hl k x hx
  obtain ⟨b, hA, _, hb, h0⟩ := hc (k * 3 + 0) _ (tab3V_get hk (j := 0) rfl)
  refine ⟨b, 0, hA, hb, fun j u hu => ?_⟩
  obtain ⟨b', hA', _, _, h1⟩ := hc (k * 3 + j) _ (tab3V_get hk hu)
  rw [hA] at hA'
  injection hA' with hA'
  injection hA' with hA'
  subst hA'
  rw [← h1]; congr 2; omega
theorem cell_three_new (w : World) (x y z : Value) (t : TypeId) : ∀ j u, [x, y, z][j]? = some u → (w.alloc (.cells #[x, y, z] t)).cell? ((⟨w.heap.size, 0, none⟩ : Addr).add j) = some u := by
  intro j u hj
  match j, hj with
  | 0, hj => simp at hj; subst hj; simp [Addr.add]
  | 1, hj => simp at hj; subst hj; simp [Addr.add]
  | 2, hj => simp at hj; subst hj; simp [Addr.add]
  | (j + 3), hj => simp at hj
theorem own_setCell {w : World} {base : Nat} {e : TypeId} {size : Nat} {v : Value} {n : Nat} {xs : List Value} (h : w.ownsRow base e size v n xs) {b : Nat} (hb : b < base) (o : Nat) (x : Value) : (w.setCell ⟨b, o, none⟩ x).ownsRow base e size v n xs := by
  refine ⟨h.1, h.2.imp id ?_⟩
  rintro ⟨g, cap, cur, hv, hg, hh, r⟩
  exact ⟨g, cap, cur, hv, hg, by unfold World.setCell; rw [Array.getElem?_modify, if_neg (by show ¬ b = g; omega)]; exact hh, r⟩
theorem own_setRow {w : World} {base : Nat} {e : TypeId} {size : Nat} {v : Value} {n : Nat} {xs : List Value} (h : w.ownsRow base e size v n xs) {b : Nat} (hb : b < base) (cs : Array Value) : (w.setRow b cs).ownsRow base e size v n xs := by
  refine ⟨h.1, h.2.imp id ?_⟩
  rintro ⟨g, cap, cur, hv, hg, hh, r⟩
  exact ⟨g, cap, cur, hv, hg, (setRow_other w b g cs (by omega)).trans hh, r⟩
theorem row_setCell0 {w : World} {g : Nat} {a b c d : Value} {t : TypeId} {fr : Nat × Nat} (h : w.heap[g]? = some (.cells #[a, b, c, d] t fr)) (x : Value) : (w.setCell ⟨g, 0, none⟩ x).heap[g]? = some (.cells #[x, b, c, d] t fr) := by
  unfold World.setCell; rw [Array.getElem?_modify, if_pos rfl, h]; rfl
theorem row_setCell_other {w : World} {g b : Nat} {o : Obj} (h : w.heap[g]? = some o) (hne : b ≠ g) (i : Nat) (x : Value) : (w.setCell ⟨b, i, none⟩ x).heap[g]? = some o := by
  unfold World.setCell; rw [Array.getElem?_modify, if_neg (by show ¬ b = g; exact hne)]; exact h
/-- The block of the fixed sheets. -/
def FxBlk (s : Store) (b : Bool) (g : Nat) (w : World) : Prop := ∃ cur, w.heap[g]? = some (.cells cur 54 (0, 0)) ∧ cur.toList.take (s.sheets.length * 3) = tab3V s.sheets.length fun k => fixSheet b (sheetAt s k)
def RetFx (s : Store) (b : Bool) (w : World) (e : Ending) (w' : World) : Prop := ∃ g c, e = .returned (.agg #[.slice (some ⟨g, 0, none⟩) s.sheets.length c, .slice s.A2 s.lics.length s.c2, .slice s.A3 s.makes.length s.c3, .slice s.A4 s.wishes.length s.c4]) ∧ w.heap.size ≤ g ∧ FxBlk s b g w' ∧ Below w.heap.size w w'
theorem load27v {w : World} {b : Nat} {x0 x1 x2 x3 : Value} (c0 : w.cell? ⟨b, 0, none⟩ = some x0) (c1 : w.cell? ⟨b, 1, none⟩ = some x1) (c2 : w.cell? ⟨b, 2, none⟩ = some x2) (c3 : w.cell? ⟨b, 3, none⟩ = some x3) : (loadVar 27 ⟨b, 0, none⟩).run Tryd.prog w = .ok (.agg #[x0, x1, x2, x3]) w := by
  go_simp
def R32 (s : Store) (b : Bool) (w0 : World) (i : Value) (w : World) : Prop := ∃ (n : Nat) (v : Value), n ≤ s.sheets.length ∧ i = .int .i64 n ∧ w.heap[w0.heap.size + 1]? = some (.cells #[.slice none 0 0, .slice none 0 0, .slice none 0 0, .slice none 0 0] 27 (0, 0)) ∧
  w.heap[w0.heap.size + 1 + 1]? = some (.cells #[v, .slice s.A2 s.lics.length s.c2, .slice s.A3 s.makes.length s.c3, .slice s.A4 s.wishes.length s.c4] 27 (0, 0)) ∧ w.ownsRow (w0.heap.size + 1 + 1 + 1) 54 3 v n (tab3V n fun k => fixSheet b (sheetAt s k)) ∧ Below w0.heap.size w0 w
set_option maxRecDepth 100000 in
set_option maxHeartbeats 1000000 in
theorem fixed32_any (s : Store) (b : Bool) (w : World) (ok : Ok s) (hr : StoreAt w w.heap.size s) : Calls Tryd.prog 32 #[.agg #[.slice s.A1 s.sheets.length s.c1, .slice s.A2 s.lics.length s.c2, .slice s.A3 s.makes.length s.c3, .slice s.A4 s.wishes.length s.c4], .bool b] w (RetFx s b w) := by
  obtain ⟨i0, hi, hz0, hz1, hz2⟩ := info_parts sheet_info
  have h3 := ok.ns
  obtain ⟨bs, os, e1, hbs, -, -, -⟩ := hr.sheetL (k := 0) (by omega)
  have Hr := Lib.hid hr
  have E1 := Lib.hid e1
  clear hr ok
  go_enter Tryd.func32, Tryd.ntmps32
  go_wp2_with fail
  go_loopw [14] (fun i wr => R32 s b w i wr) (fun i _ => s.sheets.length - (intOf i).toNat)
  case atStart =>
    unfold R32
    refine ⟨0, .slice none 0 0, by omega, rfl, ?_, ?_, World.ownsRow_nil _ _ _ _, ?_⟩
    · exact (Below.heap_alloc _ _ _ (by simp)).trans (heap_alloc_new' (by simp))
    · exact heap_alloc_new' (by simp)
    · exact (((Below.refl _ _).alloc (Nat.le_refl _) _).alloc (by simp) _).alloc (by simp; omega) _
  case round =>
    clear e1
    obtain ⟨n, v, hn, rfl, hz, hx, hown, hb⟩ := hrel
    by_cases hlt : n < s.sheets.length
    · obtain ⟨b', off', e, hb2, x0, x1, x2⟩ := (Hr.out.below hb).sheetL hlt
      rw [E1.out] at e
      injection e with e
      injection e with e1 e2
      subst e1 e2
      have hs := hb.size
      have hs2 : w.heap.size + 1 + 1 < wr.heap.size := (Array.getElem?_eq_some_iff.1 hx).1
      have HN := Lib.hid (tab3V_succ n fun k => fixSheet b (sheetAt s k))
      cases b
      · go_wp2_with fail
        have hV := nxA wr (.cells #[.int .i64 (loAt s n), .int .i64 (hiAt s n), .int .i64 (sheetAt s n).cost] 54)
        have v2 : (wr.alloc (.cells #[.int .i64 (loAt s n), .int .i64 (hiAt s n), .int .i64 (sheetAt s n).cost] 54)).cell? ⟨wr.heap.size, 2, none⟩ = some (.int .i64 (sheetAt s n).cost) := by simp [go_sem]
        have hVz : (wr.alloc (.cells #[.int .i64 (loAt s n), .int .i64 (hiAt s n), .int .i64 (sheetAt s n).cost] 54)).heap.size = wr.heap.size + 1 := by simp
        generalize (wr.alloc (.cells #[.int .i64 (loAt s n), .int .i64 (hiAt s n), .int .i64 (sheetAt s n).cost] 54)) = V at *
        have hx1 := (hV.block _ (by omega)).trans hx
        have c0 := cell_of_row V _ 0 _ _ _ hx1
        have Hown := Lib.hid (own_below hown hV)
        have Hx1 := Lib.hid hx1
        have Hz1 := Lib.hid ((hV.block _ (by omega)).trans hz)
        have Hb := Lib.hid (hb.trans (hV.mono hb.size))
        have hrow := Lib.hid (fun k hk => hown.lt k hk)
        clear hV hx hz hx1 hown hb x0 x1 x2
        simp only [List.getElem?_toArray, List.getElem?_cons_zero] at c0
        refine wp_region_noPanic ?_
        refine wp_region_held_drew (S := (fun W => W.cell? ⟨wr.heap.size, 2, none⟩ = some (.int .i64 (sheetAt s n).cost))) (by kernel_rfl) ?_ (fun hHeld => ?_)
        · (try dsimp only); exact v2
        refine htake (i := 0) (v := ?v1) rfl (by kernel_rfl) (by kernel_rfl) (by kernel_rfl) (fun _ _ _ h => h) (Or.inl ⟨by rfl, ?hy1⟩) (by assumption) ?_
        case hy1 => (intro w hSw; (try dsimp only at hSw); go_simp; try (with_reducible rfl))
        try simp only [Act.put, List.setIfInBounds_toArray, List.set_cons_zero, List.set_cons_succ]
        refine htake (i := 2) (v := ?v2) rfl (by kernel_rfl) (by kernel_rfl) (by kernel_rfl) (fun _ _ _ h => h) (Or.inl ⟨by rfl, ?hy2⟩) (by assumption) ?_
        case hy2 => (intro w hSw; (try dsimp only at hSw); go_simp; try (with_reducible rfl))
        try simp only [Act.put, List.setIfInBounds_toArray, List.set_cons_zero, List.set_cons_succ]
        refine htake (i := 3) (v := ?v3) rfl (by kernel_rfl) (by kernel_rfl) (by kernel_rfl) (fun _ _ _ h => h) (Or.inl ⟨by rfl, ?hy3⟩) (by assumption) ?_
        case hy3 => (intro w hSw; (try dsimp only at hSw); go_simp; try (with_reducible rfl))
        try simp only [Act.put, List.setIfInBounds_toArray, List.set_cons_zero, List.set_cons_succ]
        refine htake (i := 5) (v := ?v4) rfl (by kernel_rfl) (by kernel_rfl) (by kernel_rfl) (fun _ _ _ h => h) (Or.inl ⟨by rfl, ?hy4⟩) (by assumption) ?_
        case hy4 => (intro w hSw; (try dsimp only at hSw); go_simp; try (with_reducible rfl))
        try simp only [Act.put, List.setIfInBounds_toArray, List.set_cons_zero, List.set_cons_succ]
        refine htake (i := 6) (v := ?v5) rfl (by kernel_rfl) (by kernel_rfl) (by kernel_rfl) (fun _ _ _ h => h) (Or.inl ⟨by rfl, ?hy5⟩) (by assumption) ?_
        case hy5 => (intro w hSw; (try dsimp only at hSw); go_simp; try (with_reducible rfl))
        try simp only [Act.put, List.setIfInBounds_toArray, List.set_cons_zero, List.set_cons_succ]
        refine wpAnyH_ready (rs := [1, 4]) (by kernel_rfl) (by simp) ?_
        refine hcons rfl (fun K hK => ?_) (hcons rfl (fun K hK => ?_) (AllReadyH.nil))
        go_simp
        refine hK.out _ _ ?_ (fun hHeld => ?_)
        · (try dsimp only); first | exact v2 | (exact ((bcell hk4).1 _ _ (by omega)).trans v2) | (refine Eq.trans ?_ (((bcell hk4).1 _ _ (by omega)).trans v2); exact (bcell (nxA _ _)).1 _ _ (by omega))
        clear hK K
        try simp only [Act.put, List.setIfInBounds_toArray, List.set_cons_zero, List.set_cons_succ]
        refine wpAnyH_ready (rs := [4]) (by kernel_rfl) (by simp) ?_
        refine hcons rfl (fun K hK => ?_) (AllReadyH.nil)
        go_simp
        (with_reducible refine (span33_any _ _ _).mono ?_); rintro e w4 ⟨rfl, hb4⟩; have hk4 : Below V.heap.size V w4 := (Below.refl _ _).drew.trans hb4; have c4 := ((bcell hk4).1 (w.heap.size + 1 + 1) 0 (by omega)).trans c0; have hz4 := hk4.size; have hz5 : w.heap.size + 1 + 1 < w4.heap.size := by omega
        refine hK.out _ _ ?_ (fun hHeld => ?_)
        · (try dsimp only); exact ((bcell hk4).1 _ _ (by omega)).trans v2
        clear hK K
        try simp only [Act.put, List.setIfInBounds_toArray, List.set_cons_zero, List.set_cons_succ]
        refine htake (i := 7) (v := ?v6) rfl (by kernel_rfl) (by kernel_rfl) (by kernel_rfl) (fun _ _ _ h => h) (Or.inl ⟨by rfl, ?hy6⟩) (by assumption) ?_
        case hy6 => (intro w hSw; (try dsimp only at hSw); go_simp; try (with_reducible rfl))
        try simp only [Act.put, List.setIfInBounds_toArray, List.set_cons_zero, List.set_cons_succ]
        refine wpAnyH_ready (rs := [8]) (by kernel_rfl) (by simp) ?_
        refine hcons rfl (fun K hK => ?_) (AllReadyH.nil)
        go_simp
        refine hK.out _ _ ?_ (fun hHeld => ?_)
        · (try dsimp only); refine Eq.trans ?_ (((bcell hk4).1 _ _ (by omega)).trans v2); exact (bcell (nxA _ _)).1 _ _ (by omega)
        clear hK K
        try simp only [Act.put, List.setIfInBounds_toArray, List.set_cons_zero, List.set_cons_succ]
        refine wpAnyH_ready (rs := [9]) (by kernel_rfl) (by simp) ?_
        refine hcons rfl (fun K hK => ?_) (AllReadyH.nil)
        (refine step_append_lies _ rfl (.tmp 26) (.tmp 33) 22 rfl (w.heap.size + 1 + 1 + 1) 54 i0 (.agg #[.int .i64 0, .int .i64 0, .int .i64 0]) 3 24 Tryd.underlying22 hi hz0 hz1 hz2 rfl (by decide) v n (tab3V n fun k => fixSheet false (sheetAt s k)) rfl ((own_below Hown.out hk4).alloc _) ⟨w4.heap.size, 0, none⟩ 1 1 [.int .i64 (loAt s n), .int .i64 (loAt s n), .int .i64 (sheetAt s n).cost] rfl rfl (cell_three_new _ _ _ _ _) (by simp [Value.oneCell']) (by omega) (by unfold maxLen; omega) (by omega) (by simp; omega) _ rfl ?_); intro g cap w' hown' hgrow hgg hlt'; have hgA : V.grownBy w' v.ownBlock := grown_trans (only_of_below (hk4.alloc hk4.size _) _) hgrow; have hne2 : v.ownBlock ≠ some (w.heap.size + 1 + 1) := (fun e => by have := (hrow.out _ e).1; omega); have hne1 : v.ownBlock ≠ some (w.heap.size + 1) := (fun e => by have := (hrow.out _ e).1; omega); have hne3 : v.ownBlock ≠ some wr.heap.size := (fun e => by have := (hrow.out _ e).2; omega); have hx2 := (hgA.block (w.heap.size + 1 + 1) (by omega) (Ne.symm hne2)).trans Hx1.out; have hzz := (hgA.block (w.heap.size + 1) (by omega) (Ne.symm hne1)).trans Hz1.out; have cc0 := cell_of_row w' _ 0 _ _ _ hx2; have cf0 := frozen_of_row w' _ 0 _ _ hx2; simp only [List.getElem?_toArray, List.getElem?_cons_zero] at cc0; have Hx2 := Lib.hid hx2; have Hzz := Lib.hid hzz; have Hgr := Lib.hid hgA; have Ho' := Lib.hid hown'; have hws := hgA.size; clear hx2 hzz hgA hown' hgrow
        refine hK.out _ _ ?_ (fun hHeld => ?_)
        · (try dsimp only); exact (grown_cell Hgr.out (by omega) hne3 _).trans v2
        clear hK K
        try simp only [Act.put, List.setIfInBounds_toArray, List.set_cons_zero, List.set_cons_succ]
        refine htake (i := 10) (v := ?v7) rfl (by kernel_rfl) (by kernel_rfl) (by kernel_rfl) (fun _ _ _ h => h) (Or.inl ⟨by rfl, ?hy7⟩) (by assumption) ?_
        case hy7 => (intro w hSw; (try dsimp only at hSw); go_simp; try (with_reducible rfl))
        try simp only [Act.put, List.setIfInBounds_toArray, List.set_cons_zero, List.set_cons_succ]
        refine wpAnyH_ready (rs := [11]) (by kernel_rfl) (by simp) ?_
        refine hcons rfl (fun K hK => ?_) (AllReadyH.nil)
        go_simp
        refine hK.out _ _ ?_ (fun hHeld => ?_)
        · (try dsimp only); rw [World.cell?_setCell_other _ _ _ _ (by intro e; injection e with e; omega)]; exact (grown_cell Hgr.out (by omega) hne3 _).trans v2
        clear hK K
        try simp only [Act.put, List.setIfInBounds_toArray, List.set_cons_zero, List.set_cons_succ]
        refine wpAnyH_done (by kernel_rfl) ?_ _
        refine NoPanic.normal ?_
        rotate_left
        go_simp
        (with_reducible refine (span33_any _ _ _).mono ?_); rintro e w4 ⟨rfl, hb4⟩; have hk4 : Below V.heap.size V w4 := (Below.refl _ _).drew.trans hb4; have c4 := ((bcell hk4).1 (w.heap.size + 1 + 1) 0 (by omega)).trans c0; have hz4 := hk4.size; have hz5 : w.heap.size + 1 + 1 < w4.heap.size := by omega
        refine hK.out _ _ ?_ (fun hHeld => ?_)
        · (try dsimp only); exact ((bcell hk4).1 _ _ (by omega)).trans v2
        clear hK K
        try simp only [Act.put, List.setIfInBounds_toArray, List.set_cons_zero, List.set_cons_succ]
        refine htake (i := 7) (v := ?v8) rfl (by kernel_rfl) (by kernel_rfl) (by kernel_rfl) (fun _ _ _ h => h) (Or.inl ⟨by rfl, ?hy8⟩) (by assumption) ?_
        case hy8 => (intro w hSw; (try dsimp only at hSw); go_simp; try (with_reducible rfl))
        try simp only [Act.put, List.setIfInBounds_toArray, List.set_cons_zero, List.set_cons_succ]
        refine wpAnyH_ready (rs := [1, 8]) (by kernel_rfl) (by simp) ?_
        refine hcons rfl (fun K hK => ?_) (hcons rfl (fun K hK => ?_) (AllReadyH.nil))
        go_simp
        refine hK.out _ _ ?_ (fun hHeld => ?_)
        · (try dsimp only); first | exact v2 | (exact ((bcell hk4).1 _ _ (by omega)).trans v2) | (refine Eq.trans ?_ (((bcell hk4).1 _ _ (by omega)).trans v2); exact (bcell (nxA _ _)).1 _ _ (by omega))
        clear hK K
        try simp only [Act.put, List.setIfInBounds_toArray, List.set_cons_zero, List.set_cons_succ]
        refine wpAnyH_ready (rs := [8]) (by kernel_rfl) (by simp) ?_
        refine hcons rfl (fun K hK => ?_) (AllReadyH.nil)
        go_simp
        refine hK.out _ _ ?_ (fun hHeld => ?_)
        · (try dsimp only); refine Eq.trans ?_ (((bcell hk4).1 _ _ (by omega)).trans v2); exact (bcell (nxA _ _)).1 _ _ (by omega)
        clear hK K
        try simp only [Act.put, List.setIfInBounds_toArray, List.set_cons_zero, List.set_cons_succ]
        refine wpAnyH_ready (rs := [9]) (by kernel_rfl) (by simp) ?_
        refine hcons rfl (fun K hK => ?_) (AllReadyH.nil)
        (refine step_append_lies _ rfl (.tmp 26) (.tmp 33) 22 rfl (w.heap.size + 1 + 1 + 1) 54 i0 (.agg #[.int .i64 0, .int .i64 0, .int .i64 0]) 3 24 Tryd.underlying22 hi hz0 hz1 hz2 rfl (by decide) v n (tab3V n fun k => fixSheet false (sheetAt s k)) rfl ((own_below Hown.out hk4).alloc _) ⟨w4.heap.size, 0, none⟩ 1 1 [.int .i64 (loAt s n), .int .i64 (loAt s n), .int .i64 (sheetAt s n).cost] rfl rfl (cell_three_new _ _ _ _ _) (by simp [Value.oneCell']) (by omega) (by unfold maxLen; omega) (by omega) (by simp; omega) _ rfl ?_); intro g cap w' hown' hgrow hgg hlt'; have hgA : V.grownBy w' v.ownBlock := grown_trans (only_of_below (hk4.alloc hk4.size _) _) hgrow; have hne2 : v.ownBlock ≠ some (w.heap.size + 1 + 1) := (fun e => by have := (hrow.out _ e).1; omega); have hne1 : v.ownBlock ≠ some (w.heap.size + 1) := (fun e => by have := (hrow.out _ e).1; omega); have hne3 : v.ownBlock ≠ some wr.heap.size := (fun e => by have := (hrow.out _ e).2; omega); have hx2 := (hgA.block (w.heap.size + 1 + 1) (by omega) (Ne.symm hne2)).trans Hx1.out; have hzz := (hgA.block (w.heap.size + 1) (by omega) (Ne.symm hne1)).trans Hz1.out; have cc0 := cell_of_row w' _ 0 _ _ _ hx2; have cf0 := frozen_of_row w' _ 0 _ _ hx2; simp only [List.getElem?_toArray, List.getElem?_cons_zero] at cc0; have Hx2 := Lib.hid hx2; have Hzz := Lib.hid hzz; have Hgr := Lib.hid hgA; have Ho' := Lib.hid hown'; have hws := hgA.size; clear hx2 hzz hgA hown' hgrow
        refine hK.out _ _ ?_ (fun hHeld => ?_)
        · (try dsimp only); exact (grown_cell Hgr.out (by omega) hne3 _).trans v2
        clear hK K
        try simp only [Act.put, List.setIfInBounds_toArray, List.set_cons_zero, List.set_cons_succ]
        refine htake (i := 10) (v := ?v9) rfl (by kernel_rfl) (by kernel_rfl) (by kernel_rfl) (fun _ _ _ h => h) (Or.inl ⟨by rfl, ?hy9⟩) (by assumption) ?_
        case hy9 => (intro w hSw; (try dsimp only at hSw); go_simp; try (with_reducible rfl))
        try simp only [Act.put, List.setIfInBounds_toArray, List.set_cons_zero, List.set_cons_succ]
        refine wpAnyH_ready (rs := [11]) (by kernel_rfl) (by simp) ?_
        refine hcons rfl (fun K hK => ?_) (AllReadyH.nil)
        go_simp
        refine hK.out _ _ ?_ (fun hHeld => ?_)
        · (try dsimp only); rw [World.cell?_setCell_other _ _ _ _ (by intro e; injection e with e; omega)]; exact (grown_cell Hgr.out (by omega) hne3 _).trans v2
        clear hK K
        try simp only [Act.put, List.setIfInBounds_toArray, List.set_cons_zero, List.set_cons_succ]
        refine wpAnyH_done (by kernel_rfl) ?_ _
        refine NoPanic.normal ?_
        rotate_left
        go_simp
        refine hK.out _ _ ?_ (fun hHeld => ?_)
        · (try dsimp only); refine Eq.trans ?_ (((bcell hk4).1 _ _ (by omega)).trans v2); exact (bcell (nxA _ _)).1 _ _ (by omega)
        clear hK K
        try simp only [Act.put, List.setIfInBounds_toArray, List.set_cons_zero, List.set_cons_succ]
        refine wpAnyH_ready (rs := [1]) (by kernel_rfl) (by simp) ?_
        refine hcons rfl (fun K hK => ?_) (AllReadyH.nil)
        go_simp
        refine hK.out _ _ ?_ (fun hHeld => ?_)
        · (try dsimp only); first | exact v2 | (exact ((bcell hk4).1 _ _ (by omega)).trans v2) | (refine Eq.trans ?_ (((bcell hk4).1 _ _ (by omega)).trans v2); exact (bcell (nxA _ _)).1 _ _ (by omega))
        clear hK K
        try simp only [Act.put, List.setIfInBounds_toArray, List.set_cons_zero, List.set_cons_succ]
        refine wpAnyH_ready (rs := [9]) (by kernel_rfl) (by simp) ?_
        refine hcons rfl (fun K hK => ?_) (AllReadyH.nil)
        (refine step_append_lies _ rfl (.tmp 26) (.tmp 33) 22 rfl (w.heap.size + 1 + 1 + 1) 54 i0 (.agg #[.int .i64 0, .int .i64 0, .int .i64 0]) 3 24 Tryd.underlying22 hi hz0 hz1 hz2 rfl (by decide) v n (tab3V n fun k => fixSheet false (sheetAt s k)) rfl ((own_below Hown.out hk4).alloc _) ⟨w4.heap.size, 0, none⟩ 1 1 [.int .i64 (loAt s n), .int .i64 (loAt s n), .int .i64 (sheetAt s n).cost] rfl rfl (cell_three_new _ _ _ _ _) (by simp [Value.oneCell']) (by omega) (by unfold maxLen; omega) (by omega) (by simp; omega) _ rfl ?_); intro g cap w' hown' hgrow hgg hlt'; have hgA : V.grownBy w' v.ownBlock := grown_trans (only_of_below (hk4.alloc hk4.size _) _) hgrow; have hne2 : v.ownBlock ≠ some (w.heap.size + 1 + 1) := (fun e => by have := (hrow.out _ e).1; omega); have hne1 : v.ownBlock ≠ some (w.heap.size + 1) := (fun e => by have := (hrow.out _ e).1; omega); have hne3 : v.ownBlock ≠ some wr.heap.size := (fun e => by have := (hrow.out _ e).2; omega); have hx2 := (hgA.block (w.heap.size + 1 + 1) (by omega) (Ne.symm hne2)).trans Hx1.out; have hzz := (hgA.block (w.heap.size + 1) (by omega) (Ne.symm hne1)).trans Hz1.out; have cc0 := cell_of_row w' _ 0 _ _ _ hx2; have cf0 := frozen_of_row w' _ 0 _ _ hx2; simp only [List.getElem?_toArray, List.getElem?_cons_zero] at cc0; have Hx2 := Lib.hid hx2; have Hzz := Lib.hid hzz; have Hgr := Lib.hid hgA; have Ho' := Lib.hid hown'; have hws := hgA.size; clear hx2 hzz hgA hown' hgrow
        refine hK.out _ _ ?_ (fun hHeld => ?_)
        · (try dsimp only); exact (grown_cell Hgr.out (by omega) hne3 _).trans v2
        clear hK K
        try simp only [Act.put, List.setIfInBounds_toArray, List.set_cons_zero, List.set_cons_succ]
        refine htake (i := 10) (v := ?v10) rfl (by kernel_rfl) (by kernel_rfl) (by kernel_rfl) (fun _ _ _ h => h) (Or.inl ⟨by rfl, ?hy10⟩) (by assumption) ?_
        case hy10 => (intro w hSw; (try dsimp only at hSw); go_simp; try (with_reducible rfl))
        try simp only [Act.put, List.setIfInBounds_toArray, List.set_cons_zero, List.set_cons_succ]
        refine wpAnyH_ready (rs := [11]) (by kernel_rfl) (by simp) ?_
        refine hcons rfl (fun K hK => ?_) (AllReadyH.nil)
        go_simp
        refine hK.out _ _ ?_ (fun hHeld => ?_)
        · (try dsimp only); rw [World.cell?_setCell_other _ _ _ _ (by intro e; injection e with e; omega)]; exact (grown_cell Hgr.out (by omega) hne3 _).trans v2
        clear hK K
        try simp only [Act.put, List.setIfInBounds_toArray, List.set_cons_zero, List.set_cons_succ]
        refine wpAnyH_done (by kernel_rfl) ?_ _
        refine NoPanic.normal ?_
        iterate 13 (try clear hHeld)
        all_goals
          have hx3 := row_setCell0 Hx2.out (.slice (some ⟨g, 0, none⟩) (n + 1) cap)
          have hz3 := row_setCell_other (b := w.heap.size + 1 + 1) Hzz.out (by omega) 0 (.slice (some ⟨g, 0, none⟩) (n + 1) cap)
          have ho2 : w'.ownsRow (w.heap.size + 1 + 1 + 1) 54 3 (.slice (some ⟨g, 0, none⟩) (n + 1) cap) (n + 1) (tab3V (n + 1) fun k => fixSheet false (sheetAt s k)) := by rw [tab3V_succ]; exact Ho'.out
          have ho3 := own_setCell ho2 (b := w.heap.size + 1 + 1) (by omega) 0 (.slice (some ⟨g, 0, none⟩) (n + 1) cap)
          have hb3 := (Hb.out.grown Hgr.out Hb.out.size (fun k hk => by have := hrow.out k hk; omega)).setCell (p := ⟨w.heap.size + 1 + 1, 0, none⟩) (by simp; omega) (.slice (some ⟨g, 0, none⟩) (n + 1) cap)
          clear ho2 cc0 cf0
          go_wp2
          all_goals (first | (refine ⟨?_, ?_⟩; (unfold R32; exact ⟨n + 1, _, by omega, by go_num, hz3, hx3, ho3, hb3⟩); (simp [intOf]; omega)) | (go_roundw; (case rel => (unfold R32; exact ⟨n + 1, _, by omega, by go_num, hz3, hx3, ho3, hb3⟩)); (case measure => (simp [intOf]; omega))) | (go_round; (case rel => (unfold R32; exact ⟨n + 1, _, by omega, by go_num, hz3, hx3, ho3, hb3⟩)); (case measure => (simp [intOf]; omega))))
      · go_wp2_with fail
        have hV := nxA wr (.cells #[.int .i64 (loAt s n), .int .i64 (hiAt s n), .int .i64 (sheetAt s n).cost] 54)
        have v2 : (wr.alloc (.cells #[.int .i64 (loAt s n), .int .i64 (hiAt s n), .int .i64 (sheetAt s n).cost] 54)).cell? ⟨wr.heap.size, 2, none⟩ = some (.int .i64 (sheetAt s n).cost) := by simp [go_sem]
        have hVz : (wr.alloc (.cells #[.int .i64 (loAt s n), .int .i64 (hiAt s n), .int .i64 (sheetAt s n).cost] 54)).heap.size = wr.heap.size + 1 := by simp
        generalize (wr.alloc (.cells #[.int .i64 (loAt s n), .int .i64 (hiAt s n), .int .i64 (sheetAt s n).cost] 54)) = V at *
        have hx1 := (hV.block _ (by omega)).trans hx
        have c0 := cell_of_row V _ 0 _ _ _ hx1
        have Hown := Lib.hid (own_below hown hV)
        have Hx1 := Lib.hid hx1
        have Hz1 := Lib.hid ((hV.block _ (by omega)).trans hz)
        have Hb := Lib.hid (hb.trans (hV.mono hb.size))
        have hrow := Lib.hid (fun k hk => hown.lt k hk)
        clear hV hx hz hx1 hown hb x0 x1 x2
        simp only [List.getElem?_toArray, List.getElem?_cons_zero] at c0
        refine wp_region_noPanic ?_
        refine wp_region_held_drew (S := (fun W => W.cell? ⟨wr.heap.size, 2, none⟩ = some (.int .i64 (sheetAt s n).cost))) (by kernel_rfl) ?_ (fun hHeld => ?_)
        · (try dsimp only); exact v2
        refine htake (i := 0) (v := ?v11) rfl (by kernel_rfl) (by kernel_rfl) (by kernel_rfl) (fun _ _ _ h => h) (Or.inl ⟨by rfl, ?hy11⟩) (by assumption) ?_
        case hy11 => (intro w hSw; (try dsimp only at hSw); go_simp; try (with_reducible rfl))
        try simp only [Act.put, List.setIfInBounds_toArray, List.set_cons_zero, List.set_cons_succ]
        refine htake (i := 2) (v := ?v12) rfl (by kernel_rfl) (by kernel_rfl) (by kernel_rfl) (fun _ _ _ h => h) (Or.inl ⟨by rfl, ?hy12⟩) (by assumption) ?_
        case hy12 => (intro w hSw; (try dsimp only at hSw); go_simp; try (with_reducible rfl))
        try simp only [Act.put, List.setIfInBounds_toArray, List.set_cons_zero, List.set_cons_succ]
        refine htake (i := 3) (v := ?v13) rfl (by kernel_rfl) (by kernel_rfl) (by kernel_rfl) (fun _ _ _ h => h) (Or.inl ⟨by rfl, ?hy13⟩) (by assumption) ?_
        case hy13 => (intro w hSw; (try dsimp only at hSw); go_simp; try (with_reducible rfl))
        try simp only [Act.put, List.setIfInBounds_toArray, List.set_cons_zero, List.set_cons_succ]
        refine htake (i := 5) (v := ?v14) rfl (by kernel_rfl) (by kernel_rfl) (by kernel_rfl) (fun _ _ _ h => h) (Or.inl ⟨by rfl, ?hy14⟩) (by assumption) ?_
        case hy14 => (intro w hSw; (try dsimp only at hSw); go_simp; try (with_reducible rfl))
        try simp only [Act.put, List.setIfInBounds_toArray, List.set_cons_zero, List.set_cons_succ]
        refine htake (i := 6) (v := ?v15) rfl (by kernel_rfl) (by kernel_rfl) (by kernel_rfl) (fun _ _ _ h => h) (Or.inl ⟨by rfl, ?hy15⟩) (by assumption) ?_
        case hy15 => (intro w hSw; (try dsimp only at hSw); go_simp; try (with_reducible rfl))
        try simp only [Act.put, List.setIfInBounds_toArray, List.set_cons_zero, List.set_cons_succ]
        refine wpAnyH_ready (rs := [1, 4]) (by kernel_rfl) (by simp) ?_
        refine hcons rfl (fun K hK => ?_) (hcons rfl (fun K hK => ?_) (AllReadyH.nil))
        go_simp
        refine hK.out _ _ ?_ (fun hHeld => ?_)
        · (try dsimp only); first | exact v2 | (exact ((bcell hk4).1 _ _ (by omega)).trans v2) | (refine Eq.trans ?_ (((bcell hk4).1 _ _ (by omega)).trans v2); exact (bcell (nxA _ _)).1 _ _ (by omega))
        clear hK K
        try simp only [Act.put, List.setIfInBounds_toArray, List.set_cons_zero, List.set_cons_succ]
        refine wpAnyH_ready (rs := [4]) (by kernel_rfl) (by simp) ?_
        refine hcons rfl (fun K hK => ?_) (AllReadyH.nil)
        go_simp
        (with_reducible refine (span33_any _ _ _).mono ?_); rintro e w4 ⟨rfl, hb4⟩; have hk4 : Below V.heap.size V w4 := (Below.refl _ _).drew.trans hb4; have c4 := ((bcell hk4).1 (w.heap.size + 1 + 1) 0 (by omega)).trans c0; have hz4 := hk4.size; have hz5 : w.heap.size + 1 + 1 < w4.heap.size := by omega
        refine hK.out _ _ ?_ (fun hHeld => ?_)
        · (try dsimp only); exact ((bcell hk4).1 _ _ (by omega)).trans v2
        clear hK K
        try simp only [Act.put, List.setIfInBounds_toArray, List.set_cons_zero, List.set_cons_succ]
        refine htake (i := 7) (v := ?v16) rfl (by kernel_rfl) (by kernel_rfl) (by kernel_rfl) (fun _ _ _ h => h) (Or.inl ⟨by rfl, ?hy16⟩) (by assumption) ?_
        case hy16 => (intro w hSw; (try dsimp only at hSw); go_simp; try (with_reducible rfl))
        try simp only [Act.put, List.setIfInBounds_toArray, List.set_cons_zero, List.set_cons_succ]
        refine wpAnyH_ready (rs := [8]) (by kernel_rfl) (by simp) ?_
        refine hcons rfl (fun K hK => ?_) (AllReadyH.nil)
        go_simp
        refine hK.out _ _ ?_ (fun hHeld => ?_)
        · (try dsimp only); refine Eq.trans ?_ (((bcell hk4).1 _ _ (by omega)).trans v2); exact (bcell (nxA _ _)).1 _ _ (by omega)
        clear hK K
        try simp only [Act.put, List.setIfInBounds_toArray, List.set_cons_zero, List.set_cons_succ]
        refine wpAnyH_ready (rs := [9]) (by kernel_rfl) (by simp) ?_
        refine hcons rfl (fun K hK => ?_) (AllReadyH.nil)
        (refine step_append_lies _ rfl (.tmp 26) (.tmp 33) 22 rfl (w.heap.size + 1 + 1 + 1) 54 i0 (.agg #[.int .i64 0, .int .i64 0, .int .i64 0]) 3 24 Tryd.underlying22 hi hz0 hz1 hz2 rfl (by decide) v n (tab3V n fun k => fixSheet true (sheetAt s k)) rfl ((own_below Hown.out hk4).alloc _) ⟨w4.heap.size, 0, none⟩ 1 1 [.int .i64 (hiAt s n), .int .i64 (hiAt s n), .int .i64 (sheetAt s n).cost] rfl rfl (cell_three_new _ _ _ _ _) (by simp [Value.oneCell']) (by omega) (by unfold maxLen; omega) (by omega) (by simp; omega) _ rfl ?_); intro g cap w' hown' hgrow hgg hlt'; have hgA : V.grownBy w' v.ownBlock := grown_trans (only_of_below (hk4.alloc hk4.size _) _) hgrow; have hne2 : v.ownBlock ≠ some (w.heap.size + 1 + 1) := (fun e => by have := (hrow.out _ e).1; omega); have hne1 : v.ownBlock ≠ some (w.heap.size + 1) := (fun e => by have := (hrow.out _ e).1; omega); have hne3 : v.ownBlock ≠ some wr.heap.size := (fun e => by have := (hrow.out _ e).2; omega); have hx2 := (hgA.block (w.heap.size + 1 + 1) (by omega) (Ne.symm hne2)).trans Hx1.out; have hzz := (hgA.block (w.heap.size + 1) (by omega) (Ne.symm hne1)).trans Hz1.out; have cc0 := cell_of_row w' _ 0 _ _ _ hx2; have cf0 := frozen_of_row w' _ 0 _ _ hx2; simp only [List.getElem?_toArray, List.getElem?_cons_zero] at cc0; have Hx2 := Lib.hid hx2; have Hzz := Lib.hid hzz; have Hgr := Lib.hid hgA; have Ho' := Lib.hid hown'; have hws := hgA.size; clear hx2 hzz hgA hown' hgrow
        refine hK.out _ _ ?_ (fun hHeld => ?_)
        · (try dsimp only); exact (grown_cell Hgr.out (by omega) hne3 _).trans v2
        clear hK K
        try simp only [Act.put, List.setIfInBounds_toArray, List.set_cons_zero, List.set_cons_succ]
        refine htake (i := 10) (v := ?v17) rfl (by kernel_rfl) (by kernel_rfl) (by kernel_rfl) (fun _ _ _ h => h) (Or.inl ⟨by rfl, ?hy17⟩) (by assumption) ?_
        case hy17 => (intro w hSw; (try dsimp only at hSw); go_simp; try (with_reducible rfl))
        try simp only [Act.put, List.setIfInBounds_toArray, List.set_cons_zero, List.set_cons_succ]
        refine wpAnyH_ready (rs := [11]) (by kernel_rfl) (by simp) ?_
        refine hcons rfl (fun K hK => ?_) (AllReadyH.nil)
        go_simp
        refine hK.out _ _ ?_ (fun hHeld => ?_)
        · (try dsimp only); rw [World.cell?_setCell_other _ _ _ _ (by intro e; injection e with e; omega)]; exact (grown_cell Hgr.out (by omega) hne3 _).trans v2
        clear hK K
        try simp only [Act.put, List.setIfInBounds_toArray, List.set_cons_zero, List.set_cons_succ]
        refine wpAnyH_done (by kernel_rfl) ?_ _
        refine NoPanic.normal ?_
        rotate_left
        go_simp
        (with_reducible refine (span33_any _ _ _).mono ?_); rintro e w4 ⟨rfl, hb4⟩; have hk4 : Below V.heap.size V w4 := (Below.refl _ _).drew.trans hb4; have c4 := ((bcell hk4).1 (w.heap.size + 1 + 1) 0 (by omega)).trans c0; have hz4 := hk4.size; have hz5 : w.heap.size + 1 + 1 < w4.heap.size := by omega
        refine hK.out _ _ ?_ (fun hHeld => ?_)
        · (try dsimp only); exact ((bcell hk4).1 _ _ (by omega)).trans v2
        clear hK K
        try simp only [Act.put, List.setIfInBounds_toArray, List.set_cons_zero, List.set_cons_succ]
        refine htake (i := 7) (v := ?v18) rfl (by kernel_rfl) (by kernel_rfl) (by kernel_rfl) (fun _ _ _ h => h) (Or.inl ⟨by rfl, ?hy18⟩) (by assumption) ?_
        case hy18 => (intro w hSw; (try dsimp only at hSw); go_simp; try (with_reducible rfl))
        try simp only [Act.put, List.setIfInBounds_toArray, List.set_cons_zero, List.set_cons_succ]
        refine wpAnyH_ready (rs := [1, 8]) (by kernel_rfl) (by simp) ?_
        refine hcons rfl (fun K hK => ?_) (hcons rfl (fun K hK => ?_) (AllReadyH.nil))
        go_simp
        refine hK.out _ _ ?_ (fun hHeld => ?_)
        · (try dsimp only); first | exact v2 | (exact ((bcell hk4).1 _ _ (by omega)).trans v2) | (refine Eq.trans ?_ (((bcell hk4).1 _ _ (by omega)).trans v2); exact (bcell (nxA _ _)).1 _ _ (by omega))
        clear hK K
        try simp only [Act.put, List.setIfInBounds_toArray, List.set_cons_zero, List.set_cons_succ]
        refine wpAnyH_ready (rs := [8]) (by kernel_rfl) (by simp) ?_
        refine hcons rfl (fun K hK => ?_) (AllReadyH.nil)
        go_simp
        refine hK.out _ _ ?_ (fun hHeld => ?_)
        · (try dsimp only); refine Eq.trans ?_ (((bcell hk4).1 _ _ (by omega)).trans v2); exact (bcell (nxA _ _)).1 _ _ (by omega)
        clear hK K
        try simp only [Act.put, List.setIfInBounds_toArray, List.set_cons_zero, List.set_cons_succ]
        refine wpAnyH_ready (rs := [9]) (by kernel_rfl) (by simp) ?_
        refine hcons rfl (fun K hK => ?_) (AllReadyH.nil)
        (refine step_append_lies _ rfl (.tmp 26) (.tmp 33) 22 rfl (w.heap.size + 1 + 1 + 1) 54 i0 (.agg #[.int .i64 0, .int .i64 0, .int .i64 0]) 3 24 Tryd.underlying22 hi hz0 hz1 hz2 rfl (by decide) v n (tab3V n fun k => fixSheet true (sheetAt s k)) rfl ((own_below Hown.out hk4).alloc _) ⟨w4.heap.size, 0, none⟩ 1 1 [.int .i64 (hiAt s n), .int .i64 (hiAt s n), .int .i64 (sheetAt s n).cost] rfl rfl (cell_three_new _ _ _ _ _) (by simp [Value.oneCell']) (by omega) (by unfold maxLen; omega) (by omega) (by simp; omega) _ rfl ?_); intro g cap w' hown' hgrow hgg hlt'; have hgA : V.grownBy w' v.ownBlock := grown_trans (only_of_below (hk4.alloc hk4.size _) _) hgrow; have hne2 : v.ownBlock ≠ some (w.heap.size + 1 + 1) := (fun e => by have := (hrow.out _ e).1; omega); have hne1 : v.ownBlock ≠ some (w.heap.size + 1) := (fun e => by have := (hrow.out _ e).1; omega); have hne3 : v.ownBlock ≠ some wr.heap.size := (fun e => by have := (hrow.out _ e).2; omega); have hx2 := (hgA.block (w.heap.size + 1 + 1) (by omega) (Ne.symm hne2)).trans Hx1.out; have hzz := (hgA.block (w.heap.size + 1) (by omega) (Ne.symm hne1)).trans Hz1.out; have cc0 := cell_of_row w' _ 0 _ _ _ hx2; have cf0 := frozen_of_row w' _ 0 _ _ hx2; simp only [List.getElem?_toArray, List.getElem?_cons_zero] at cc0; have Hx2 := Lib.hid hx2; have Hzz := Lib.hid hzz; have Hgr := Lib.hid hgA; have Ho' := Lib.hid hown'; have hws := hgA.size; clear hx2 hzz hgA hown' hgrow
        refine hK.out _ _ ?_ (fun hHeld => ?_)
        · (try dsimp only); exact (grown_cell Hgr.out (by omega) hne3 _).trans v2
        clear hK K
        try simp only [Act.put, List.setIfInBounds_toArray, List.set_cons_zero, List.set_cons_succ]
        refine htake (i := 10) (v := ?v19) rfl (by kernel_rfl) (by kernel_rfl) (by kernel_rfl) (fun _ _ _ h => h) (Or.inl ⟨by rfl, ?hy19⟩) (by assumption) ?_
        case hy19 => (intro w hSw; (try dsimp only at hSw); go_simp; try (with_reducible rfl))
        try simp only [Act.put, List.setIfInBounds_toArray, List.set_cons_zero, List.set_cons_succ]
        refine wpAnyH_ready (rs := [11]) (by kernel_rfl) (by simp) ?_
        refine hcons rfl (fun K hK => ?_) (AllReadyH.nil)
        go_simp
        refine hK.out _ _ ?_ (fun hHeld => ?_)
        · (try dsimp only); rw [World.cell?_setCell_other _ _ _ _ (by intro e; injection e with e; omega)]; exact (grown_cell Hgr.out (by omega) hne3 _).trans v2
        clear hK K
        try simp only [Act.put, List.setIfInBounds_toArray, List.set_cons_zero, List.set_cons_succ]
        refine wpAnyH_done (by kernel_rfl) ?_ _
        refine NoPanic.normal ?_
        rotate_left
        go_simp
        refine hK.out _ _ ?_ (fun hHeld => ?_)
        · (try dsimp only); refine Eq.trans ?_ (((bcell hk4).1 _ _ (by omega)).trans v2); exact (bcell (nxA _ _)).1 _ _ (by omega)
        clear hK K
        try simp only [Act.put, List.setIfInBounds_toArray, List.set_cons_zero, List.set_cons_succ]
        refine wpAnyH_ready (rs := [1]) (by kernel_rfl) (by simp) ?_
        refine hcons rfl (fun K hK => ?_) (AllReadyH.nil)
        go_simp
        refine hK.out _ _ ?_ (fun hHeld => ?_)
        · (try dsimp only); first | exact v2 | (exact ((bcell hk4).1 _ _ (by omega)).trans v2) | (refine Eq.trans ?_ (((bcell hk4).1 _ _ (by omega)).trans v2); exact (bcell (nxA _ _)).1 _ _ (by omega))
        clear hK K
        try simp only [Act.put, List.setIfInBounds_toArray, List.set_cons_zero, List.set_cons_succ]
        refine wpAnyH_ready (rs := [9]) (by kernel_rfl) (by simp) ?_
        refine hcons rfl (fun K hK => ?_) (AllReadyH.nil)
        (refine step_append_lies _ rfl (.tmp 26) (.tmp 33) 22 rfl (w.heap.size + 1 + 1 + 1) 54 i0 (.agg #[.int .i64 0, .int .i64 0, .int .i64 0]) 3 24 Tryd.underlying22 hi hz0 hz1 hz2 rfl (by decide) v n (tab3V n fun k => fixSheet true (sheetAt s k)) rfl ((own_below Hown.out hk4).alloc _) ⟨w4.heap.size, 0, none⟩ 1 1 [.int .i64 (hiAt s n), .int .i64 (hiAt s n), .int .i64 (sheetAt s n).cost] rfl rfl (cell_three_new _ _ _ _ _) (by simp [Value.oneCell']) (by omega) (by unfold maxLen; omega) (by omega) (by simp; omega) _ rfl ?_); intro g cap w' hown' hgrow hgg hlt'; have hgA : V.grownBy w' v.ownBlock := grown_trans (only_of_below (hk4.alloc hk4.size _) _) hgrow; have hne2 : v.ownBlock ≠ some (w.heap.size + 1 + 1) := (fun e => by have := (hrow.out _ e).1; omega); have hne1 : v.ownBlock ≠ some (w.heap.size + 1) := (fun e => by have := (hrow.out _ e).1; omega); have hne3 : v.ownBlock ≠ some wr.heap.size := (fun e => by have := (hrow.out _ e).2; omega); have hx2 := (hgA.block (w.heap.size + 1 + 1) (by omega) (Ne.symm hne2)).trans Hx1.out; have hzz := (hgA.block (w.heap.size + 1) (by omega) (Ne.symm hne1)).trans Hz1.out; have cc0 := cell_of_row w' _ 0 _ _ _ hx2; have cf0 := frozen_of_row w' _ 0 _ _ hx2; simp only [List.getElem?_toArray, List.getElem?_cons_zero] at cc0; have Hx2 := Lib.hid hx2; have Hzz := Lib.hid hzz; have Hgr := Lib.hid hgA; have Ho' := Lib.hid hown'; have hws := hgA.size; clear hx2 hzz hgA hown' hgrow
        refine hK.out _ _ ?_ (fun hHeld => ?_)
        · (try dsimp only); exact (grown_cell Hgr.out (by omega) hne3 _).trans v2
        clear hK K
        try simp only [Act.put, List.setIfInBounds_toArray, List.set_cons_zero, List.set_cons_succ]
        refine htake (i := 10) (v := ?v20) rfl (by kernel_rfl) (by kernel_rfl) (by kernel_rfl) (fun _ _ _ h => h) (Or.inl ⟨by rfl, ?hy20⟩) (by assumption) ?_
        case hy20 => (intro w hSw; (try dsimp only at hSw); go_simp; try (with_reducible rfl))
        try simp only [Act.put, List.setIfInBounds_toArray, List.set_cons_zero, List.set_cons_succ]
        refine wpAnyH_ready (rs := [11]) (by kernel_rfl) (by simp) ?_
        refine hcons rfl (fun K hK => ?_) (AllReadyH.nil)
        go_simp
        refine hK.out _ _ ?_ (fun hHeld => ?_)
        · (try dsimp only); rw [World.cell?_setCell_other _ _ _ _ (by intro e; injection e with e; omega)]; exact (grown_cell Hgr.out (by omega) hne3 _).trans v2
        clear hK K
        try simp only [Act.put, List.setIfInBounds_toArray, List.set_cons_zero, List.set_cons_succ]
        refine wpAnyH_done (by kernel_rfl) ?_ _
        refine NoPanic.normal ?_
        iterate 13 (try clear hHeld)
        all_goals
          have hx3 := row_setCell0 Hx2.out (.slice (some ⟨g, 0, none⟩) (n + 1) cap)
          have hz3 := row_setCell_other (b := w.heap.size + 1 + 1) Hzz.out (by omega) 0 (.slice (some ⟨g, 0, none⟩) (n + 1) cap)
          have ho2 : w'.ownsRow (w.heap.size + 1 + 1 + 1) 54 3 (.slice (some ⟨g, 0, none⟩) (n + 1) cap) (n + 1) (tab3V (n + 1) fun k => fixSheet true (sheetAt s k)) := by rw [tab3V_succ]; exact Ho'.out
          have ho3 := own_setCell ho2 (b := w.heap.size + 1 + 1) (by omega) 0 (.slice (some ⟨g, 0, none⟩) (n + 1) cap)
          have hb3 := (Hb.out.grown Hgr.out Hb.out.size (fun k hk => by have := hrow.out k hk; omega)).setCell (p := ⟨w.heap.size + 1 + 1, 0, none⟩) (by simp; omega) (.slice (some ⟨g, 0, none⟩) (n + 1) cap)
          clear ho2 cc0 cf0
          go_wp2
          all_goals (first | (refine ⟨?_, ?_⟩; (unfold R32; exact ⟨n + 1, _, by omega, by go_num, hz3, hx3, ho3, hb3⟩); (simp [intOf]; omega)) | (go_roundw; (case rel => (unfold R32; exact ⟨n + 1, _, by omega, by go_num, hz3, hx3, ho3, hb3⟩)); (case measure => (simp [intOf]; omega))) | (go_round; (case rel => (unfold R32; exact ⟨n + 1, _, by omega, by go_num, hz3, hx3, ho3, hb3⟩)); (case measure => (simp [intOf]; omega))))
    · obtain rfl : n = s.sheets.length := by omega
      have hs2 : w.heap.size + 1 + 1 < wr.heap.size := (Array.getElem?_eq_some_iff.1 hx).1
      have h3' := h3
      rcases hown.2 with ⟨-, h0⟩ | ⟨g, c, cur, rfl, hg, hh, -, -, -, htk⟩
      · omega
      have Hg := Lib.hid (show FxBlk s b g wr from ⟨cur, hh, htk⟩)
      have c0 := cell_of_row wr _ 0 _ _ _ hx
      have c1 := cell_of_row wr _ 1 _ _ _ hx
      have c2 := cell_of_row wr _ 2 _ _ _ hx
      have c3 := cell_of_row wr _ 3 _ _ _ hx
      simp only [List.getElem?_toArray, List.getElem?_cons_zero, List.getElem?_cons_succ] at c0 c1 c2 c3
      have Hz := Lib.hid hz
      have Hb := Lib.hid hb
      clear hz hx hb hown hh htk
      go_wp2_with ((with_reducible refine at_st ?_); (refine wpList_store_row rfl 27 (.tmp 4) (.tmp 37) rfl (w.heap.size + 1) _ rfl rfl 27 _ Hz.out (by kernel_rfl) rfl (by simp [Value.oneCell']) ?_))
      have hb4 := below_setRow Hb.out (Nat.le_succ _) #[.slice (some ⟨g, 0, none⟩) s.sheets.length c, .slice s.A2 s.lics.length s.c2, .slice s.A3 s.makes.length s.c3, .slice s.A4 s.wishes.length s.c4]
      refine bodyPost_ret (results_cell1 rfl rfl (load27v (by rw [cell_setRow_same wr _ 0 _ _ _ _ Hz.out]; rfl) (by rw [cell_setRow_same wr _ 1 _ _ _ _ Hz.out]; rfl) (by rw [cell_setRow_same wr _ 2 _ _ _ _ Hz.out]; rfl) (by rw [cell_setRow_same wr _ 3 _ _ _ _ Hz.out]; rfl))) rfl ?_
      obtain ⟨cur', hh, htk⟩ := Hg.out
      exact ⟨g, c, rfl, by omega, ⟨cur', (setRow_other wr _ g _ (by omega)).trans hh, htk⟩, hb4⟩
/-- The fixed store, read. -/
theorem fx_store {s : Store} {b : Bool} {g c : Nat} {V W : World} (hr : StoreAt V V.heap.size s) (hb : Below V.heap.size V W) (hg : FxBlk s b g W) :
    ∃ t, Fx s b t ∧ (.agg #[.slice t.A1 t.sheets.length t.c1, .slice t.A2 t.lics.length t.c2, .slice t.A3 t.makes.length t.c3, .slice t.A4 t.wishes.length t.c4]) = (.agg #[.slice (some ⟨g, 0, none⟩) s.sheets.length c, .slice s.A2 s.lics.length s.c2, .slice s.A3 s.makes.length s.c3, .slice s.A4 s.wishes.length s.c4] : Value) ∧ StoreAt W W.heap.size t := by
  obtain ⟨cur, hh, htk⟩ := hg
  have hst := hr.next hb
  refine ⟨⟨s.sheets.map (fixSheet b), s.lics, s.makes, s.wishes, some ⟨g, 0, none⟩, c, s.A2, s.c2, s.A3, s.c3, s.A4, s.c4⟩, ⟨_, _, rfl⟩, by simp, ⟨?_, hst.lics, hst.makes, hst.takes, hst.wishes, ?_, hst.l2, hst.l3, hst.l4⟩⟩
  · intro k x hk
    rw [List.getElem?_map] at hk
    obtain ⟨y, hy, rfl⟩ := Option.map_eq_some_iff.1 hk
    have hkn := (List.getElem?_eq_some_iff.1 hy).1
    have hsh : sheetAt s k = y := by unfold sheetAt; rw [List.getD_eq_getElem?_getD, hy]; rfl
    refine ⟨g, 0, rfl, (Array.getElem?_eq_some_iff.1 hh).1, fun j u hu => ?_⟩
    rw [Nat.zero_add, cell_of_row W g _ _ _ _ hh]
    have hj : j < 3 := (List.getElem?_eq_some_iff.1 hu).1
    have := tab3V_get (f := fun k => fixSheet b (sheetAt s k)) hkn (j := j) (u := u) (by show (fixSheet b (sheetAt s k)).cells[j]? = _; rw [hsh]; exact hu)
    rw [← htk, List.getElem?_take, if_pos (by omega)] at this
    simpa using this
  · simpa using hst.l1
end Go.Proofs.YtfffhbolaimmdaaDoor
