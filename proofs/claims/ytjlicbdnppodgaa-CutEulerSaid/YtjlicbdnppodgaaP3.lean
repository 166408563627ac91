import Derived.Test.YtjlicbdnppodgaaP2
import Derived.Test.YtjlicbdnppodgaaW1
namespace Go.Proofs.Ytjlicbdnppodgaa
open Go.RowKit
/-! The program: piece, newPicture. -/
def I64 (x : Int) : Prop := -9223372036854775808 ≤ x ∧ x ≤ 9223372036854775807
set_option maxHeartbeats 1000000 in
theorem piece_any (c : Cut) (b : Nat) (x y : Int) (w : World) (hp : PicAt c b w) (hx : I64 x) (hy : I64 y) : Calls Try.prog 54 #[.agg #[.int .i64 c.wide, .int .i64 c.high, .slice c.A c.piece.length c.c, .map (some (b))], .agg #[.int .i64 x, .int .i64 y]] w (Ret (.int .i64 (at2 c x y)) w) := by
  have hb1 := nxA w (.cells #[.int .i64 c.wide, .int .i64 c.high, .slice c.A c.piece.length c.c, .map (some (b))] 71)
  have hb2 := hb1.trans ((nxA (w.alloc (.cells #[.int .i64 c.wide, .int .i64 c.high, .slice c.A c.piece.length c.c, .map (some (b))] 71)) (.cells #[.int .i64 x, .int .i64 y] 90)).mono hb1.size)
  have hX := (Bx.new w #[.int .i64 c.wide, .int .i64 c.high, .slice c.A c.piece.length c.c, .map (some (b))] 71).next (nxA _ (.cells #[.int .i64 x, .int .i64 y] 90))
  have hY := Bx.new (w.alloc (.cells #[.int .i64 c.wide, .int .i64 c.high, .slice c.A c.piece.length c.c, .map (some (b))] 71)) #[.int .i64 x, .int .i64 y] 90
  rw [World.size_alloc] at hY
  obtain ⟨-, hL⟩ := PicAt.look (hp.next hb2) x y hx hy
  have HV := Lib.hid (picF_val (c := c) (x, y))
  have HG := Lib.hid (picF_some (c := c) (x, y))
  have HB := Lib.hid hb2
  clear hp hb1 hb2 hx hy
  go_enter Try.func54, Try.ntmps54
  go_upto_region 1 with fail
  generalize (w.alloc (.cells #[.int .i64 c.wide, .int .i64 c.high, .slice c.A c.piece.length c.c, .map (some (b))] 71)).alloc (.cells #[.int .i64 x, .int .i64 y] 90) = V at *
  have c3 := hX.c 3 _ rfl
  have d0 := hY.c 0 _ rfl
  have d1 := hY.c 1 _ rfl
  clear hX hY
  cases hi : isIn c x y
  · rw [hi] at hL
    have HE := Lib.hid (show at2 c x y = -1 from by unfold at2; rw [hi]; rfl)
    go_wp2_with fail
    go_ret
    exact ⟨by rw [HE.out]; rfl, HB.out⟩
  · rw [hi] at hL
    have HE := Lib.hid (show (picF c (x, y)).getD 0 = at2 c x y from by unfold picF; rw [if_pos hi]; rfl)
    go_wp2_with fail
    go_ret
    exact ⟨by rw [← HE.out]; rfl, HB.out⟩
/-! newPicture: the cells one after the other. -/
def upF (c : Cut) (j : Nat) (p : Pt) : Option Int := if isIn c p.1 p.2 = true ∧ p.2 * c.wide + p.1 < j then some (at2 c p.1 p.2) else none
theorem upF_zero {c : Cut} (ok : OkC c) (p : Pt) : upF c 0 p = none := by
  unfold upF
  rw [if_neg]
  rintro ⟨h1, h2⟩
  have := ok.idx h1
  omega
theorem upF_all {c : Cut} (ok : OkC c) (p : Pt) : upF c c.piece.length p = picF c p := by
  unfold upF picF
  by_cases h : isIn c p.1 p.2 = true
  · have := ok.idx h
    rw [if_pos ⟨h, by omega⟩, if_pos h]
  · rw [if_neg (fun h' => h h'.1), if_neg h]
theorem upF_succ {c : Cut} (ok : OkC c) {j : Nat} (hj : j < c.piece.length) (p : Pt) : setO (upF c j) (cellOf c j) (atI c j) p = upF c (j + 1) p := by
  obtain ⟨h1, h2, -⟩ := ok.cell hj
  have h3 := ok.at_cell hj
  unfold setO
  by_cases e : p = cellOf c j
  · subst e
    rw [if_pos rfl]
    unfold upF cellOf
    rw [if_pos ⟨h1, by dsimp only; omega⟩]
    dsimp only
    rw [h3]
  · rw [if_neg e]
    unfold upF
    by_cases h : isIn c p.1 p.2 = true
    · have hne : p.2 * c.wide + p.1 ≠ j := fun e2 => by
        obtain ⟨k, hk, e3, e4⟩ := idx_of ok h
        have : k = j := by omega
        subst this
        exact e e3
      by_cases h5 : p.2 * c.wide + p.1 < j
      · rw [if_pos ⟨h, h5⟩, if_pos ⟨h, by omega⟩]
      · rw [if_neg (fun h' => h5 h'.2), if_neg (fun h' => h5 (by have := h'.2; omega))]
    · rw [if_neg (fun h' => h h'.1), if_neg (fun h' => h h'.1)]
def picL (c : Cut) (b : Nat) : List Value := [.int .i64 c.wide, .int .i64 c.high, .slice c.A c.piece.length c.c, .map (some b)]
def zpicL : List Value := [.int .i64 0, .int .i64 0, .slice none 0 0, .map none]
theorem loadP {w : World} {b : Nat} {a0 a1 a2 a3 : Value} (h : Bx w b [a0, a1, a2, a3]) : (loadVar 71 ⟨b, 0, none⟩).run Try.prog w = .ok (.agg #[a0, a1, a2, a3]) w := by
  have c0 := h.c 0 _ rfl
  have c1 := h.c 1 _ rfl
  have c2 := h.c 2 _ rfl
  have c3 := h.c 3 _ rfl
  clear h
  go_simp
/-- What newPicture hands back. -/
def RetNew (c : Cut) (w : World) (e : Ending) (w' : World) : Prop := ∃ b, e = .returned (.agg #[.int .i64 c.wide, .int .i64 c.high, .slice c.A c.piece.length c.c, .map (some (b))]) ∧ w.heap.size ≤ b ∧ PicAt c b w' ∧ Below w.heap.size w w'
theorem Bx.gk {W W' : World} {row : Option Nat} {b : Nat} {vs : List Value} (h : Bx W b vs) (hg : W.grownBy W' row) (hr : ∀ r, row = some r → b ≠ r) : Bx W' b vs := by
  have hk := hg.block b h.lt (fun e => hr b e.symm rfl)
  exact ⟨Nat.lt_of_lt_of_le h.lt hg.size, fun j u hu => (World.cell?_of_block (a := ⟨b, j, none⟩) hk).trans (h.c j u hu), fun j => (World.frozen?_of_block (a := ⟨b, j, none⟩) hk).trans (h.fr j)⟩
theorem results_cell1 {fn : Func} {p : Tmp} {ty : TypeId} (h : fn.results = #[.cell p ty]) {tmps : Array Value} {P : Program} {w : World} {a : Addr} {v : Value} (hp : tmps.getD p undef = .pointer (some a)) (hv : (loadVar ty a).run P w = .ok v w) :
    (results fn tmps).run P w = .ok v w := by
  have hp' : tmps[p]?.getD undef = .pointer (some a) := by simpa using hp
  simp [results, h, hp', asAddr, hv]
theorem blkSet {W : World} {b q : Nat} (h : b ≠ q) (o : Nat) (v : Value) : (W.setCell ⟨b, o, none⟩ v).heap[q]? = W.heap[q]? := by
  unfold World.setCell; rw [Array.getElem?_modify, if_neg (by show ¬ b = q; exact h)]
theorem setCells_blk (b q : Nat) (h : b ≠ q) : ∀ (vs : List Value) (j : Nat) (W : World), (setCells W b j vs).heap[q]? = W.heap[q]?
  | [], _, _ => rfl
  | v :: vs, j, _ => (setCells_blk b q h vs (j + 1) _).trans (blkSet h j v)
structure RNP (c : Cut) (w : World) (i : Value) (W : World) (j : Nat) : Prop where
  hj : j ≤ c.piece.length
  i : i = .int .i64 j
  m : MapIs Try.prog 90 kv2 vvI (w.heap.size + 1 + 1) (upF c j) W
  x0 : Bx W w.heap.size (cutL c)
  x1 : Bx W (w.heap.size + 1) zpicL
  x3 : Bx W (w.heap.size + 1 + 1 + 1) (picL c (w.heap.size + 1 + 1))
  b : Below w.heap.size w W
set_option maxRecDepth 100000 in
set_option maxHeartbeats 1000000 in
theorem newPicture_any (c : Cut) (w : World) (ok : OkC c) (hr : CutAt w w.heap.size c) : Calls Try.prog 42 #[.agg #[.int .i64 c.wide, .int .i64 c.high, .slice c.A c.piece.length c.c]] w (RetNew c w) := by
  have hmm := @run_makeMap Try.prog
  have hw := ok.w
  have hh := ok.h
  have hlen : (c.piece.length : Int) ≤ 144 := by
    have := ok.h
    have := Int.mul_le_mul hw.2 (ok.h).2 (show (0 : Int) ≤ c.high by omega) (show (0 : Int) ≤ 12 by omega)
    have := ok.len
    omega
  have hn := nxA w (.cells #[.int .i64 c.wide, .int .i64 c.high, .slice c.A c.piece.length c.c] 24)
  have hn2 := nxA (w.alloc (.cells #[.int .i64 c.wide, .int .i64 c.high, .slice c.A c.piece.length c.c] 24)) (.cells #[.int .i64 0, .int .i64 0, .slice none 0 0, .map none] 71)
  have hn3 := nxA ((w.alloc (.cells #[.int .i64 c.wide, .int .i64 c.high, .slice c.A c.piece.length c.c] 24)).alloc (.cells #[.int .i64 0, .int .i64 0, .slice none 0 0, .map none] 71)) (.map #[] 0)
  have hn4 := nxA (((w.alloc (.cells #[.int .i64 c.wide, .int .i64 c.high, .slice c.A c.piece.length c.c] 24)).alloc (.cells #[.int .i64 0, .int .i64 0, .slice none 0 0, .map none] 71)).alloc (.map #[] 0)) (.cells #[.int .i64 c.wide, .int .i64 c.high, .slice c.A c.piece.length c.c, .map (some (w.heap.size + 1 + 1))] 71)
  have X0 := Lib.hid ((((Bx.new w #[.int .i64 c.wide, .int .i64 c.high, .slice c.A c.piece.length c.c] 24).next hn2).next hn3).next hn4)
  have X1 := Lib.hid (((Bx.new (w.alloc (.cells #[.int .i64 c.wide, .int .i64 c.high, .slice c.A c.piece.length c.c] 24)) #[.int .i64 0, .int .i64 0, .slice none 0 0, .map none] 71).next hn3).next hn4)
  have XM := Lib.hid ((MapIs.made Try.prog 90 kv2 vvI ((w.alloc (.cells #[.int .i64 c.wide, .int .i64 c.high, .slice c.A c.piece.length c.c] 24)).alloc (.cells #[.int .i64 0, .int .i64 0, .slice none 0 0, .map none] 71))).next hn4)
  have X3 := Lib.hid (Bx.new (((w.alloc (.cells #[.int .i64 c.wide, .int .i64 c.high, .slice c.A c.piece.length c.c] 24)).alloc (.cells #[.int .i64 0, .int .i64 0, .slice none 0 0, .map none] 71)).alloc (.map #[] 0)) #[.int .i64 c.wide, .int .i64 c.high, .slice c.A c.piece.length c.c, .map (some (w.heap.size + 1 + 1))] 71)
  have HB := Lib.hid (hn.trans ((hn2.trans ((hn3.trans (hn4.mono hn3.size)).mono hn2.size)).mono hn.size))
  have HR := Lib.hid (hr.next HB.out)
  have OK := Lib.hid ok
  have HRw := Lib.hid hr
  clear hr hn hn2 hn3 hn4
  simp only [World.size_alloc] at X1 XM X3
  go_enter Try.func42, Try.ntmps42
  go_upto_region 2 with fail
  generalize (((w.alloc (.cells #[.int .i64 c.wide, .int .i64 c.high, .slice c.A c.piece.length c.c] 24)).alloc (.cells #[.int .i64 0, .int .i64 0, .slice none 0 0, .map none] 71)).alloc (.map #[] 0)).alloc (.cells #[.int .i64 c.wide, .int .i64 c.high, .slice c.A c.piece.length c.c, .map (some (w.heap.size + 1 + 1))] 71) = V at *
  clear hmm
  have c2 := X0.out.c 2 _ rfl
  go_wp2_with fail
  clear c2
  go_loopw [12] (fun i wr => ∃ j, RNP c w i wr j) (fun i _ => c.piece.length - (intOf i).toNat)
  case atStart => exact ⟨0, by omega, rfl, XM.out.eq (fun p => (upF_zero OK.out p).symm), X0.out, X1.out, X3.out, HB.out⟩
  case round =>
    obtain ⟨j, hN⟩ := hrel
    have hj := hN.hj
    obtain rfl := hN.i
    generalize wr = W1 at *
    by_cases hlt : j < c.piece.length
    · have hs1 := HB.out.size
      have hs2 := hN.b
      obtain ⟨b, off, e, hbk, g0⟩ := int_at (HRw.out.below hN.b).pa hlt
      have hpv := OK.out.cell hlt
      have hpv2 := OK.out.at_cell hlt
      rw [e]
      replace g0 : W1.cell? ⟨b, off + j, none⟩ = some (.int .i64 (atI c j)) := g0
      have c0 := hN.x0.c 0 _ rfl
      have f3 := hN.x3.c 3 _ rfl
      obtain ⟨l, hl⟩ := cell_key (colI c j) (rowI c j) (by omega) (by omega)
      obtain ⟨W2, hup, hM2, hg2, hz2⟩ := (hN.m.of (W' := W1.drew) rfl).upd cell_keyed kv2_inj mapC_und (p := cellOf c j) hl (atI c j)
      replace hup : (Instr.mapUpdate 69 (.map (some (w.heap.size + 1 + 1))) (.agg #[.int .i64 (colI c j), .int .i64 (rowI c j)]) (.int .i64 (atI c j))).run Try.prog W1.drew = .ok () W2 := hup
      have hl0 := hN.x0.lt
      have hl3 := hN.x3.lt
      have k0 : W2.cell? ⟨w.heap.size, 0, none⟩ = some (.int .i64 c.wide) := (World.cell?_of_block (a := ⟨w.heap.size, 0, none⟩) (hg2.block w.heap.size hl0 (fun e => by injection e with e; omega))).trans c0
      have k3 : W2.cell? ⟨w.heap.size + 1 + 1 + 1, 3, none⟩ = some (.map (some (w.heap.size + 1 + 1))) := (World.cell?_of_block (a := ⟨w.heap.size + 1 + 1 + 1, 3, none⟩) (hg2.block (w.heap.size + 1 + 1 + 1) hl3 (fun e => by injection e with e; omega))).trans f3
      have HM2 := Lib.hid (hM2.eq (upF_succ OK.out hlt))
      have HX0 := Lib.hid (hN.x0.drew.gk hg2 (fun r e => by injection e with e; omega))
      have HX1 := Lib.hid (hN.x1.drew.gk hg2 (fun r e => by injection e with e; omega))
      have HX3 := Lib.hid (hN.x3.drew.gk hg2 (fun r e => by injection e with e; omega))
      have HBn := Lib.hid (hN.b.drew.grown hg2 hN.b.drew.size (fun k e => by injection e with e; omega))
      have hq1 : Int.tmod (j : Int) c.wide = colI c j := Int.tmod_eq_emod_of_nonneg (by omega)
      have hq2 : Int.tdiv (j : Int) c.wide = rowI c j := Int.tdiv_eq_ediv_of_nonneg (by omega)
      have hq3 : (j : Int) % c.wide = colI c j := rfl
      have hq4 : (j : Int) / c.wide = rowI c j := rfl
      have hwz : ¬ c.wide = 0 := by omega
      have hq5 : IntKind.i64.wrap (rowI c j) = rowI c j := IntWalk.i64_in _ (by omega)
      have hpc := OK.out.pc (atI c j) (by unfold atI; rw [getD_get hlt]; exact List.getElem_mem _)
      clear hM2 hN hpv2 hg2 hz2 hl0 hl3 hl
      generalize atI c j = pv at *
      go_upto_region 5 with fail
      have H1 := Lib.hid (show ∀ W : World, W.heap = W1.heap → (W.cell? ⟨w.heap.size, 0, none⟩ = some (.int .i64 c.wide) ∧ W.cell? ⟨w.heap.size + 1 + 1 + 1, 3, none⟩ = some (.map (some (w.heap.size + 1 + 1)))) from fun W h => ⟨by rw [← c0]; unfold World.cell?; rw [h], by rw [← f3]; unfold World.cell?; rw [h]⟩)
      refine wp_region_noPanic ?_
      refine wp_region_held_drew (S := (fun W => W.cell? ⟨w.heap.size, 0, none⟩ = some (.int .i64 c.wide) ∧ W.cell? ⟨w.heap.size + 1 + 1 + 1, 3, none⟩ = some (.map (some (w.heap.size + 1 + 1))))) (by kernel_rfl) ?_ (fun hHeld => ?_)
      · (try dsimp only); exact H1.out _ rfl
      refine htake (i := 0) (v := ?v1) rfl (by kernel_rfl) (by kernel_rfl) (by kernel_rfl) (fun _ _ _ h => h) (Or.inl ⟨by rfl, ?hy1⟩) (by assumption) ?_
      case hy1 => (intro w hSw; (try dsimp only at hSw); go_simp; try (with_reducible rfl))
      try simp only [Act.put, List.setIfInBounds_toArray, List.set_cons_zero, List.set_cons_succ]
      refine htake (i := 1) (v := ?v2) rfl (by kernel_rfl) (by kernel_rfl) (by kernel_rfl) (fun _ _ _ h => h) (Or.inl ⟨by rfl, ?hy2⟩) (by assumption) ?_
      case hy2 => (intro w hSw; (try dsimp only at hSw); go_simp; try (with_reducible rfl))
      try simp only [Act.put, List.setIfInBounds_toArray, List.set_cons_zero, List.set_cons_succ]
      refine htake (i := 2) (v := ?v3) rfl (by kernel_rfl) (by kernel_rfl) (by kernel_rfl) (fun _ _ _ h => h) (Or.inl ⟨by rfl, ?hy3⟩) (by assumption) ?_
      case hy3 => (intro w hSw; (try dsimp only at hSw); go_simp; try (with_reducible rfl))
      try simp only [Act.put, List.setIfInBounds_toArray, List.set_cons_zero, List.set_cons_succ]
      refine htake (i := 3) (v := ?v4) rfl (by kernel_rfl) (by kernel_rfl) (by kernel_rfl) (fun _ _ _ h => h) (Or.inl ⟨by rfl, ?hy4⟩) (by assumption) ?_
      case hy4 => (intro w hSw; (try dsimp only at hSw); go_simp; try (with_reducible rfl))
      try simp only [Act.put, List.setIfInBounds_toArray, List.set_cons_zero, List.set_cons_succ]
      refine htake (i := 4) (v := ?v5) rfl (by kernel_rfl) (by kernel_rfl) (by kernel_rfl) (fun _ _ _ h => h) (Or.inl ⟨by rfl, ?hy5⟩) (by assumption) ?_
      case hy5 => (intro w hSw; (try dsimp only at hSw); go_simp; try (with_reducible rfl))
      try simp only [Act.put, List.setIfInBounds_toArray, List.set_cons_zero, List.set_cons_succ]
      refine htake (i := 5) (v := ?v6) rfl (by kernel_rfl) (by kernel_rfl) (by kernel_rfl) (fun _ _ _ h => h) (Or.inl ⟨by rfl, ?hy6⟩) (by assumption) ?_
      case hy6 => (intro w hSw; (try dsimp only at hSw); go_simp; try (with_reducible rfl))
      try simp only [Act.put, List.setIfInBounds_toArray, List.set_cons_zero, List.set_cons_succ]
      refine htake (i := 6) (v := ?v7) rfl (by kernel_rfl) (by kernel_rfl) (by kernel_rfl) (fun _ _ _ h => h) (Or.inl ⟨by rfl, ?hy7⟩) (by assumption) ?_
      case hy7 => (intro w hSw; (try dsimp only at hSw); go_simp; try (with_reducible rfl))
      try simp only [Act.put, List.setIfInBounds_toArray, List.set_cons_zero, List.set_cons_succ]
      refine htake (i := 7) (v := ?v8) rfl (by kernel_rfl) (by kernel_rfl) (by kernel_rfl) (fun _ _ _ h => h) (Or.inl ⟨by rfl, ?hy8⟩) (by assumption) ?_
      case hy8 => (intro w hSw; (try dsimp only at hSw); go_simp; try (with_reducible rfl))
      try simp only [Act.put, List.setIfInBounds_toArray, List.set_cons_zero, List.set_cons_succ]
      refine htake (i := 8) (v := ?v9) rfl (by kernel_rfl) (by kernel_rfl) (by kernel_rfl) (fun _ _ _ h => h) (Or.inl ⟨by rfl, ?hy9⟩) (by assumption) ?_
      case hy9 => (intro w hSw; (try dsimp only at hSw); go_simp; try (with_reducible rfl))
      try simp only [Act.put, List.setIfInBounds_toArray, List.set_cons_zero, List.set_cons_succ]
      refine htake (i := 9) (v := ?v10) rfl (by kernel_rfl) (by kernel_rfl) (by kernel_rfl) (fun _ _ _ h => h) (Or.inl ⟨by rfl, ?hy10⟩) (by assumption) ?_
      case hy10 => (intro w hSw; (try dsimp only at hSw); go_simp; try (with_reducible rfl))
      try simp only [Act.put, List.setIfInBounds_toArray, List.set_cons_zero, List.set_cons_succ]
      refine htake (i := 10) (v := ?v11) rfl (by kernel_rfl) (by kernel_rfl) (by kernel_rfl) (fun _ _ _ h => h) (Or.inl ⟨by rfl, ?hy11⟩) (by assumption) ?_
      case hy11 => (intro w hSw; (try dsimp only at hSw); go_simp; try (with_reducible rfl))
      try simp only [Act.put, List.setIfInBounds_toArray, List.set_cons_zero, List.set_cons_succ]
      refine htake (i := 11) (v := ?v12) rfl (by kernel_rfl) (by kernel_rfl) (by kernel_rfl) (fun _ _ _ h => h) (Or.inl ⟨by rfl, ?hy12⟩) (by assumption) ?_
      case hy12 => (intro w hSw; (try dsimp only at hSw); go_simp; try (with_reducible rfl))
      try simp only [Act.put, List.setIfInBounds_toArray, List.set_cons_zero, List.set_cons_succ]
      refine wpAnyH_ready (rs := [12]) (by kernel_rfl) (by simp) ?_
      refine hcons rfl (fun K hK => ?_) (AllReadyH.nil)
      go_simp
      refine hK.out _ _ ?_ (fun hHeld => ?_)
      · (try dsimp only); exact ⟨k0, k3⟩
      clear hK K
      try simp only [Act.put, List.setIfInBounds_toArray, List.set_cons_zero, List.set_cons_succ]
      refine wpAnyH_done (by kernel_rfl) ?_ _
      refine NoPanic.normal ?_
      iterate 14 (try clear hHeld)
      go_wp2_with fail
      go_roundw
      case rel => exact ⟨j + 1, by omega, by go_num, HM2.out, HX0.out, HX1.out, HX3.out, HBn.out⟩
      case measure => simp [intOf]; omega
    · obtain rfl : j = c.piece.length := by omega
      have z0 := hN.x1.c 0 _ rfl
      have z1 := hN.x1.c 1 _ rfl
      have z2 := hN.x1.c 2 _ rfl
      have z3 := hN.x1.c 3 _ rfl
      have y0 := hN.x1.fr 0
      have y1 := hN.x1.fr 1
      have y2 := hN.x1.fr 2
      have y3 := hN.x1.fr 3
      have p0 := hN.x3.c 0 _ rfl
      have p1 := hN.x3.c 1 _ rfl
      have p2 := hN.x3.c 2 _ rfl
      have p3 := hN.x3.c 3 _ rfl
      have HN := Lib.hid hN
      clear hN
      go_wp2_with fail
      have hres := loadP (HN.out.x1.setAll [.int .i64 c.wide, .int .i64 c.high, .slice c.A c.piece.length c.c, .map (some (w.heap.size + 1 + 1))] rfl)
      ((try simp only [Exit.inBlock, Exit.then]); refine bodyPost_ret (results_cell1 rfl rfl hres) rfl ?_)
      refine ⟨w.heap.size + 1 + 1, rfl, by omega, ?_, below_setCells (b := w.heap.size + 1) (by omega) [.int .i64 c.wide, .int .i64 c.high, .slice c.A c.piece.length c.c, .map (some (w.heap.size + 1 + 1))] 0 HN.out.b⟩
      exact (HN.out.m.of (setCells_blk (w.heap.size + 1) (w.heap.size + 1 + 1) (by omega) [.int .i64 c.wide, .int .i64 c.high, .slice c.A c.piece.length c.c, .map (some (w.heap.size + 1 + 1))] 0 W1)).eq (upF_all OK.out)
end Go.Proofs.Ytjlicbdnppodgaa
