import Derived.Test.YtfffhbolaimmdaaDoorC2
import Derived.Test.YtfffhbolaimmdaaDoorF1
import Derived.Deep.DeepCutAuto
namespace Go.Proofs.YtfffhbolaimmdaaDoor
open Go.RowKit
theorem step_store_row {P : Program} {ops : Array Oper} {o : Oper} {a : Act} {w : World} {K : Act → World → Prop} {Q : Exit → Act → World → Prop} {E : Prop} (hgd : o.guard = none) (ty : TypeId) (x y : Operand) (ho : o.op = .store ty x y)
    (g : Nat) (cells : Array Value) (hx : a.eval x = .pointer (some ⟨g, 0, none⟩)) (hy : a.eval y = .agg cells)
    (t : TypeId) (old : Array Value) (hg : w.heap[g]? = some (.cells old t (0, 0))) (hi : (P.info? ty).map (·.size) = some cells.size)
    (hold : old.size = cells.size) (h1 : cells.all (·.oneCell') = true)
    (h : K (a.put o.dst undef) (w.setRow g cells)) : if Region.wanted o (yielded ops a.tmps) = true then Oper.wp P o a w K Q else E := by
  have hw : Region.wanted o (yielded ops a.tmps) = true := by simp [Region.wanted, hgd]
  rw [if_pos hw]
  exact wp_store_row ty x y ho g cells hx hy t old hg hi hold h1 h
theorem sz_drew (W : World) : W.drew.heap.size = W.heap.size := rfl
theorem al_new {V W : World} (_ : Below V.heap.size V W) (o : Obj) : (W.alloc o).heap[W.heap.size]? = some o := heap_alloc_new W o
theorem lt_heap {W : World} {b : Nat} {x : Obj} (h : W.heap[b]? = some x) : b < W.heap.size := (Array.getElem?_eq_some_iff.1 h).1
theorem al_old {W : World} {b : Nat} {x : Obj} (h : W.heap[b]? = some x) (o : Obj) : (W.alloc o).heap[b]? = some x := (Below.heap_alloc _ _ _ (lt_heap h)).trans h
theorem FxBlk.lt {s : Store} {b : Bool} {g : Nat} {W : World} (h : FxBlk s b g W) : g < W.heap.size := by obtain ⟨cur, hh, -⟩ := h; exact lt_heap hh
theorem FxBlk.next {s : Store} {b : Bool} {g : Nat} {W W' : World} (h : FxBlk s b g W) (hb : Below W.heap.size W W') : FxBlk s b g W' := by
  obtain ⟨cur, hh, ht⟩ := h; exact ⟨cur, (hb.block _ (lt_heap hh)).trans hh, ht⟩
theorem FxBlk.alloc {s : Store} {b : Bool} {g : Nat} {W : World} (h : FxBlk s b g W) (o : Obj) : FxBlk s b g (W.alloc o) := by
  obtain ⟨cur, hh, ht⟩ := h; exact ⟨cur, al_old hh o, ht⟩
theorem FxBlk.setRow {s : Store} {b : Bool} {g B : Nat} {W : World} (h : FxBlk s b g W) (hne : g ≠ B) (cs : Array Value) : FxBlk s b g (W.setRow B cs) := by
  obtain ⟨cur, hh, ht⟩ := h; exact ⟨cur, (setRow_other W B g cs hne).trans hh, ht⟩
/-- What the two fixed stores leave. -/
def EndsR (s : Store) (V : World) (s5 s6 : Value) (W : World) : Prop := ∃ b5 b6 t u, s5 = .pointer (some ⟨b5, 0, none⟩) ∧ s6 = .pointer (some ⟨b6, 0, none⟩) ∧ Fx s false t ∧ Fx s true u ∧ SBox W b5 t ∧ SBox W b6 u ∧ StoreAt W W.heap.size t ∧ StoreAt W W.heap.size u ∧ Below V.heap.size V W
theorem ends_leaf {s : Store} {V W : World} {b5 b6 g5 g6 c5 c6 : Nat} {o5 o6 : Array Value} {t5 t6 : TypeId} {f5 f6 : Nat × Nat} (hr : StoreAt V V.heap.size s) (hc : Below V.heap.size V W) (h5 : W.heap[b5]? = some (.cells o5 t5 f5)) (h6 : W.heap[b6]? = some (.cells o6 t6 f6)) (k5 : FxBlk s false g5 W) (k6 : FxBlk s true g6 W)
    (n1 : V.heap.size ≤ b5) (n2 : V.heap.size ≤ b6) (e1 : b5 ≠ b6) (e2 : g5 ≠ b5) (e3 : g5 ≠ b6) (e4 : g6 ≠ b5) (e5 : g6 ≠ b6) :
    EndsR s V (.pointer (some ⟨b5, 0, none⟩)) (.pointer (some ⟨b6, 0, none⟩)) ((W.setRow b5 #[.slice (some ⟨g5, 0, none⟩) s.sheets.length c5, .slice s.A2 s.lics.length s.c2, .slice s.A3 s.makes.length s.c3, .slice s.A4 s.wishes.length s.c4]).setRow b6 #[.slice (some ⟨g6, 0, none⟩) s.sheets.length c6, .slice s.A2 s.lics.length s.c2, .slice s.A3 s.makes.length s.c3, .slice s.A4 s.wishes.length s.c4]) := by
  have hb := below_setRow (below_setRow hc n1 #[.slice (some ⟨g5, 0, none⟩) s.sheets.length c5, .slice s.A2 s.lics.length s.c2, .slice s.A3 s.makes.length s.c3, .slice s.A4 s.wishes.length s.c4]) n2 #[.slice (some ⟨g6, 0, none⟩) s.sheets.length c6, .slice s.A2 s.lics.length s.c2, .slice s.A3 s.makes.length s.c3, .slice s.A4 s.wishes.length s.c4]
  obtain ⟨t, ht, et, st⟩ := fx_store (c := c5) hr hb ((k5.setRow e2 _).setRow e3 _)
  obtain ⟨u, hu, eu, su⟩ := fx_store (c := c6) hr hb ((k6.setRow e4 _).setRow e5 _)
  have x5 := SBox.row t h5
  have x6 := SBox.row u ((setRow_other W b5 b6 #[.slice t.A1 t.sheets.length t.c1, .slice t.A2 t.lics.length t.c2, .slice t.A3 t.makes.length t.c3, .slice t.A4 t.wishes.length t.c4] (Ne.symm e1)).trans h6)
  injection et with et
  injection eu with eu
  rw [← et, ← eu]
  rw [← et, ← eu] at hb st su
  refine ⟨b5, b6, t, u, rfl, rfl, ht, hu, ?_, x6, st, su, hb⟩
  have kk : ∀ o, ((W.setRow b5 #[.slice t.A1 t.sheets.length t.c1, .slice t.A2 t.lics.length t.c2, .slice t.A3 t.makes.length t.c3, .slice t.A4 t.wishes.length t.c4]).setRow b6 #[.slice u.A1 u.sheets.length u.c1, .slice u.A2 u.lics.length u.c2, .slice u.A3 u.makes.length u.c3, .slice u.A4 u.wishes.length u.c4]).cell? ⟨b5, o, none⟩ = (W.setRow b5 #[.slice t.A1 t.sheets.length t.c1, .slice t.A2 t.lics.length t.c2, .slice t.A3 t.makes.length t.c3, .slice t.A4 t.wishes.length t.c4]).cell? ⟨b5, o, none⟩ := fun o => World.cell?_of_block (setRow_other _ b6 b5 _ e1)
  exact ⟨by rw [setRow_size]; exact x5.lt, (kk 0).trans x5.c0, (kk 1).trans x5.c1, (kk 2).trans x5.c2, (kk 3).trans x5.c3⟩
structure EW (s t u : Store) (bs b5 b6 : Nat) (W : World) : Prop where
  aw : AwW s bs W
  x5 : SBox W b5 t
  x6 : SBox W b6 u
  s5 : StoreAt W W.heap.size t
  s6 : StoreAt W W.heap.size u
theorem EW.next {s t u : Store} {bs b5 b6 : Nat} {W W' : World} (h : EW s t u bs b5 b6 W) (hb : Below W.heap.size W W') : EW s t u bs b5 b6 W' := ⟨h.aw.next hb, h.x5.next hb, h.x6.next hb, h.s5.next hb, h.s6.next hb⟩
theorem IBlk2.cells {w : World} {g : Nat} {a b : Int} (h : IBlk w g 2 (two a b)) : w.cell? ⟨g, 0, none⟩ = some (.int .i64 a) ∧ w.cell? ⟨g, 1, none⟩ = some (.int .i64 b) := ⟨h.cell 0 (by omega), h.cell 1 (by omega)⟩
def R7E (s : Store) (V : World) (i : Value) (W : World) : Prop := ∃ k : Nat, k ≤ s.sheets.length ∧ i = .int .i64 k ∧ Below V.heap.size V W
theorem at_span {W : World} {B : Nat} {A : Option Addr} {n : Nat} {f : Nat → Int × Int} (h : At W B 2 spv A (tab2 n f)) (hn : 1 ≤ n) : ∃ b off, A = some ⟨b, off, none⟩ ∧ b < B ∧ ∀ k, k < n → W.cell? ⟨b, off + k * 2, none⟩ = some (.int .i64 (f k).1) ∧ W.cell? ⟨b, off + k * 2 + 1, none⟩ = some (.int .i64 (f k).2) := by
  have g : ∀ k, k < n → (tab2 n f)[k]? = some (f k) := fun k hk => by simp [tab2, hk]
  obtain ⟨b, off, e, hb, -⟩ := h 0 _ (g 0 (by omega))
  refine ⟨b, off, e, hb, fun k hk => ?_⟩
  obtain ⟨b', off', e', -, hc⟩ := h k _ (g k hk)
  rw [e] at e'
  injection e' with e'
  injection e' with e1 e2
  subst e1 e2
  exact ⟨hc 0 _ rfl, hc 1 _ rfl⟩
set_option maxRecDepth 100000
theorem lacks_eq {s t : Store} {b : Bool} (h : Fx s b t) (ok : Ok s) (st : Int) (W : World) (hr : StoreAt W W.heap.size t) (he : Env W) : Calls Tryd.prog 19 #[.agg #[.slice t.A1 t.sheets.length t.c1, .slice t.A2 t.lics.length t.c2, .slice t.A3 t.makes.length t.c3, .slice t.A4 t.wishes.length t.c4], .int .i64 st] W (RetL2 (lenIf (acceptedS s st) s.sheets.length) (lacksS t st.toNat) (acceptedS s st) W) := by
  have e : RetL2 (lenIf (acceptedS s st) s.sheets.length) (lacksS t st.toNat) (acceptedS s st) W = RetL2 (lenIf (acceptedS t st) t.sheets.length) (lacksS t st.toNat) (acceptedS t st) W := by rw [h.accepted ok, h.len]
  rw [e]
  exact Lacks19_any t st W hr he
theorem profit_eq {s t : Store} {b : Bool} (h : Fx s b t) (ok : Ok s) (st : Int) (W : World) (hr : StoreAt W W.heap.size t) (he : Env W) {q : Int × Int} (hq : profitS t st = q) : Calls Tryd.prog 23 #[.agg #[.slice t.A1 t.sheets.length t.c1, .slice t.A2 t.lics.length t.c2, .slice t.A3 t.makes.length t.c3, .slice t.A4 t.wishes.length t.c4], .int .i64 st] W (RetP q (acceptedS s st) W) := by
  have := Profit23_any t st W hr he
  rw [h.accepted ok, hq] at this; exact this
theorem covered_eq {s t : Store} {b : Bool} (h : Fx s b t) (ok : Ok s) (st : Int) (W : World) (hr : StoreAt W W.heap.size t) (he : Env W) {q : Bool} (hq : surelyS t st = q) : ∃ q2, Calls Tryd.prog 21 #[.agg #[.slice t.A1 t.sheets.length t.c1, .slice t.A2 t.lics.length t.c2, .slice t.A3 t.makes.length t.c3, .slice t.A4 t.wishes.length t.c4], .int .i64 st] W (Ret3 (.bool q) (.bool q2) (.int .i64 (acceptedS s st)) W) := by
  have := Covered21_any t st W hr he
  rw [h.accepted ok, hq] at this; exact ⟨_, this⟩
theorem accept_eq {s t : Store} (h : Fx s false t) (ok : Ok s) (W : World) (hr : StoreAt W W.heap.size t) : Calls Tryd.prog 26 #[.agg #[.slice t.A1 t.sheets.length t.c1, .slice t.A2 t.lics.length t.c2, .slice t.A3 t.makes.length t.c3, .slice t.A4 t.wishes.length t.c4]] W (Ret3 (.int .i64 (acSet s)) (.int .i64 (acGain s)) (.int .i64 0) W) := by
  have := Accept26_any t W hr
  obtain ⟨h1, h2, h3⟩ := h.acs ok
  rw [h1, h2, h3, show acS s = 0 from if_pos ((ok_iff s).2 ok)] at this; exact this
set_option maxRecDepth 100000 in
set_option maxHeartbeats 4000000 in
theorem StockEnds_walk (s : Store) (st : Int) (w : World) (hr : StoreAt w w.heap.size s) (he : Env w) : Calls Tryd.prog 7 #[.agg #[.slice s.A1 s.sheets.length s.c1, .slice s.A2 s.lics.length s.c2, .slice s.A3 s.makes.length s.c3, .slice s.A4 s.wishes.length s.c4], .int .i64 st] w (Ret (.bool true) w) := by
  have K1 := Lib.hid (AwW.start hr he 27)
  have B1 := Lib.hid (nxA w (.cells #[.slice s.A1 s.sheets.length s.c1, .slice s.A2 s.lics.length s.c2, .slice s.A3 s.makes.length s.c3, .slice s.A4 s.wishes.length s.c4] 27))
  clear hr he
  have p0 := True.intro
  have p1 := True.intro
  have p2 := True.intro
  have p3 := True.intro
  go_enter Tryd.func7, Tryd.ntmps7
  go_wp2_with fail
  generalize (w.alloc (.cells #[.slice s.A1 s.sheets.length s.c1, .slice s.A2 s.lics.length s.c2, .slice s.A3 s.makes.length s.c3, .slice s.A4 s.wishes.length s.c4] 27)) = V1 at *
  refine (far_any s V1 K1.out.st).mono ?_
  rintro e V2 ⟨rfl, hb⟩
  have K2 := Lib.hid (K1.out.next hb)
  have B2 := Lib.hid (B1.out.trans (hb.mono B1.out.size))
  clear hb K1 B1 p0 p1 p2 p3
  obtain ⟨-, -, -, p0, p1, p2, p3⟩ := id K2.out
  cases hf : farS s
  · clear hf
    go_wp2_with fail
    refine (Store_any s V2 K2.out.st).mono ?_
    rintro e V3 ⟨rfl, hb⟩
    have K3 := Lib.hid (K2.out.next hb)
    have B3 := Lib.hid (B2.out.trans (hb.mono B2.out.size))
    clear hb K2 B2 p0 p1 p2 p3
    obtain ⟨-, -, -, p0, p1, p2, p3⟩ := id K3.out
    cases hs : storeS s
    · clear hs
      go_wp2_with fail
      refine (awake_any V3 K3.out.en).mono ?_
      rintro e V4 ⟨rfl, hb⟩
      have B4 := Lib.hid (B3.out.trans (hb.mono B3.out.size))
      clear hb
      go_wp2
      go_ret
      exact ⟨rfl, B4.out⟩
    · have Hok := Lib.hid ((ok_iff s).1 hs)
      clear hs
      go_upto_region 3 with fail
      go_cut [5, 6] (fun s5 s6 wx => EndsR s V3 s5 s6 wx)
      case first =>
        as_aux_lemma =>
          have hc : Below V3.heap.size V3 V3.drew := (Below.refl _ _).drew
          refine wp_region_noPanic ?_
          refine wp_region_held_drew (S := (fun W => W.cell? ⟨w.heap.size, 0, none⟩ = some (.slice s.A1 s.sheets.length s.c1) ∧ W.cell? ⟨w.heap.size, 1, none⟩ = some (.slice s.A2 s.lics.length s.c2) ∧ W.cell? ⟨w.heap.size, 2, none⟩ = some (.slice s.A3 s.makes.length s.c3) ∧ W.cell? ⟨w.heap.size, 3, none⟩ = some (.slice s.A4 s.wishes.length s.c4))) (by as_aux_lemma => kernel_rfl) ?_ (fun hHeld => ?_)
          · (try dsimp only); exact (K3.out.next hc).bx.four
          refine htake (i := 0) (v := ?v1) rfl (by as_aux_lemma => kernel_rfl) (by as_aux_lemma => kernel_rfl) (by as_aux_lemma => kernel_rfl) (fun _ _ _ h => h) (Or.inl ⟨by rfl, ?hy1⟩) (by assumption) ?_
          case hy1 => (intro w hSw; (try dsimp only at hSw); go_simp; try (with_reducible rfl))
          try simp only [Act.put, List.setIfInBounds_toArray, List.set_cons_zero, List.set_cons_succ]
          refine htake (i := 2) (v := ?v2) rfl (by as_aux_lemma => kernel_rfl) (by as_aux_lemma => kernel_rfl) (by as_aux_lemma => kernel_rfl) (fun _ _ _ h => h) (Or.inl ⟨by rfl, ?hy2⟩) (by assumption) ?_
          case hy2 => (intro w hSw; (try dsimp only at hSw); go_simp; try (with_reducible rfl))
          try simp only [Act.put, List.setIfInBounds_toArray, List.set_cons_zero, List.set_cons_succ]
          refine wpAnyH_ready (rs := [1, 4, 5]) (by as_aux_lemma => kernel_rfl) (by simp) ?_
          refine hcons rfl (fun K hK => ?_) (hcons rfl (fun K hK => ?_) (hcons rfl (fun K hK => ?_) (AllReadyH.nil)))
          go_simp
          (with_reducible refine (fixed32_any s false _ Hok.out ?_).mono ?_); (exact K3.out.st.next hc); rintro e w5 ⟨g5, c5, rfl, hg5, k5, hb5⟩; have hz5 := hc.size; (try simp only [World.size_alloc] at hz5 hg5); (try (have qx5c5 := lt_heap hx5; simp only [World.size_alloc] at qx5c5)); (try (have rx5c5 := lt_heap hx5)); (try (have qx6c5 := lt_heap hx6; simp only [World.size_alloc] at qx6c5)); (try (have rx6c5 := lt_heap hx6)); (try (have qk5c5 := kk.lt; simp only [World.size_alloc] at qk5c5)); (try (have rk5c5 := kk.lt)); (try (have qk6c5 := k6.lt; simp only [World.size_alloc] at qk6c5)); (try (have rk6c5 := k6.lt)); replace hc := hc.trans (hb5.mono hc.size); have hw5 := hb5.size; (try simp only [World.size_alloc] at hw5); (try replace hx5 := (hb5.block _ (lt_heap hx5)).trans hx5); (try replace hx6 := (hb5.block _ (lt_heap hx6)).trans hx6)
          refine hK.out _ _ ?_ (fun hHeld => ?_)
          · (try dsimp only); exact (K3.out.next hc).bx.four
          clear hK K
          try simp only [Act.put, List.setIfInBounds_toArray, List.set_cons_zero, List.set_cons_succ]
          refine wpAnyH_ready (rs := [3, 4, 5]) (by as_aux_lemma => kernel_rfl) (by simp) ?_
          refine hcons rfl (fun K hK => ?_) (hcons rfl (fun K hK => ?_) (hcons rfl (fun K hK => ?_) (AllReadyH.nil)))
          go_simp
          (with_reducible refine (fixed32_any s true _ Hok.out ?_).mono ?_); (exact K3.out.st.next hc); rintro e w6 ⟨g6, c6, rfl, hg6, k6, hb6⟩; have hz6 := hc.size; (try simp only [World.size_alloc] at hz6 hg6); (try (have qx5c6 := lt_heap hx5; simp only [World.size_alloc] at qx5c6)); (try (have rx5c6 := lt_heap hx5)); (try (have qx6c6 := lt_heap hx6; simp only [World.size_alloc] at qx6c6)); (try (have rx6c6 := lt_heap hx6)); (try (have qk5c6 := k5.lt; simp only [World.size_alloc] at qk5c6)); (try (have rk5c6 := k5.lt)); (try (have qk6c6 := kk.lt; simp only [World.size_alloc] at qk6c6)); (try (have rk6c6 := kk.lt)); replace hc := hc.trans (hb6.mono hc.size); have hw6 := hb6.size; (try simp only [World.size_alloc] at hw6); (try replace hx5 := (hb6.block _ (lt_heap hx5)).trans hx5); (try replace hx6 := (hb6.block _ (lt_heap hx6)).trans hx6); (try replace k5 := k5.next hb6)
          refine hK.out _ _ ?_ (fun hHeld => ?_)
          · (try dsimp only); exact (K3.out.next hc).bx.four
          clear hK K
          try simp only [Act.put, List.setIfInBounds_toArray, List.set_cons_zero, List.set_cons_succ]
          refine wpAnyH_ready (rs := [4, 5]) (by as_aux_lemma => kernel_rfl) (by simp) ?_
          refine hcons rfl (fun K hK => ?_) (hcons rfl (fun K hK => ?_) (AllReadyH.nil))
          go_simp
          have hx5 := al_new hc (.cells #[.slice none 0 0, .slice none 0 0, .slice none 0 0, .slice none 0 0] 27); have hza5 := hc.size; (try simp only [World.size_alloc] at hx5 hza5); (try (have qx5a5 := lt_heap hh; simp only [World.size_alloc] at qx5a5)); (try (have rx5a5 := lt_heap hh)); (try (have qx6a5 := lt_heap hx6; simp only [World.size_alloc] at qx6a5)); (try (have rx6a5 := lt_heap hx6)); (try (have qk5a5 := k5.lt; simp only [World.size_alloc] at qk5a5)); (try (have rk5a5 := k5.lt)); (try (have qk6a5 := k6.lt; simp only [World.size_alloc] at qk6a5)); (try (have rk6a5 := k6.lt)); replace hc := hc.alloc hc.size (.cells #[.slice none 0 0, .slice none 0 0, .slice none 0 0, .slice none 0 0] 27); (try replace hx6 := al_old hx6 (.cells #[.slice none 0 0, .slice none 0 0, .slice none 0 0, .slice none 0 0] 27)); (try replace k5 := k5.alloc (.cells #[.slice none 0 0, .slice none 0 0, .slice none 0 0, .slice none 0 0] 27)); (try replace k6 := k6.alloc (.cells #[.slice none 0 0, .slice none 0 0, .slice none 0 0, .slice none 0 0] 27))
          refine hK.out _ _ ?_ (fun hHeld => ?_)
          · (try dsimp only); exact (K3.out.next hc).bx.four
          clear hK K
          try simp only [Act.put, List.setIfInBounds_toArray, List.set_cons_zero, List.set_cons_succ]
          refine wpAnyH_ready (rs := [5]) (by as_aux_lemma => kernel_rfl) (by simp) ?_
          refine hcons rfl (fun K hK => ?_) (AllReadyH.nil)
          go_simp
          have hx6 := al_new hc (.cells #[.slice none 0 0, .slice none 0 0, .slice none 0 0, .slice none 0 0] 27); have hza6 := hc.size; (try simp only [World.size_alloc] at hx6 hza6); (try (have qx5a6 := lt_heap hx5; simp only [World.size_alloc] at qx5a6)); (try (have rx5a6 := lt_heap hx5)); (try (have qx6a6 := lt_heap hh; simp only [World.size_alloc] at qx6a6)); (try (have rx6a6 := lt_heap hh)); (try (have qk5a6 := k5.lt; simp only [World.size_alloc] at qk5a6)); (try (have rk5a6 := k5.lt)); (try (have qk6a6 := k6.lt; simp only [World.size_alloc] at qk6a6)); (try (have rk6a6 := k6.lt)); replace hc := hc.alloc hc.size (.cells #[.slice none 0 0, .slice none 0 0, .slice none 0 0, .slice none 0 0] 27); (try replace hx5 := al_old hx5 (.cells #[.slice none 0 0, .slice none 0 0, .slice none 0 0, .slice none 0 0] 27)); (try replace k5 := k5.alloc (.cells #[.slice none 0 0, .slice none 0 0, .slice none 0 0, .slice none 0 0] 27)); (try replace k6 := k6.alloc (.cells #[.slice none 0 0, .slice none 0 0, .slice none 0 0, .slice none 0 0] 27))
          refine hK.out _ _ ?_ (fun hHeld => ?_)
          · (try dsimp only); exact (K3.out.next hc).bx.four
          clear hK K
          try simp only [Act.put, List.setIfInBounds_toArray, List.set_cons_zero, List.set_cons_succ]
          refine wpAnyH_ready (rs := [6]) (by as_aux_lemma => kernel_rfl) (by simp) ?_
          refine hcons rfl (fun K hK => ?_) (AllReadyH.nil)
          refine step_store_row rfl 27 (.tmp 5) (.tmp 44) rfl _ _ rfl rfl 27 _ hx5 (by as_aux_lemma => kernel_rfl) rfl (by simp [Value.oneCell']) ?_
          refine hK.out _ _ ?_ (fun hHeld => ?_)
          · (try dsimp only); exact (K3.out.next (below_setRow hc (by omega) _)).bx.four
          clear hK K
          try simp only [Act.put]
          refine wpAnyH_ready (rs := [7]) (by as_aux_lemma => kernel_rfl) (by simp) ?_
          refine hcons rfl (fun K hK => ?_) (AllReadyH.nil)
          refine step_store_row rfl 27 (.tmp 6) (.tmp 46) rfl _ _ rfl rfl 27 _ ((setRow_other _ _ _ _ (by omega)).trans hx6) (by as_aux_lemma => kernel_rfl) rfl (by simp [Value.oneCell']) ?_
          refine hK.out _ _ ?_ (fun hHeld => ?_)
          · (try dsimp only); exact (K3.out.next (below_setRow (below_setRow hc (by omega) _) (by omega) _)).bx.four
          clear hK K
          try simp only [Act.put]
          refine wpAnyH_done (by as_aux_lemma => kernel_rfl) ?_ _
          refine NoPanic.normal ?_
          rotate_left
          go_simp
          have hx6 := al_new hc (.cells #[.slice none 0 0, .slice none 0 0, .slice none 0 0, .slice none 0 0] 27); have hza6 := hc.size; (try simp only [World.size_alloc] at hx6 hza6); (try (have qx5a6 := lt_heap hx5; simp only [World.size_alloc] at qx5a6)); (try (have rx5a6 := lt_heap hx5)); (try (have qx6a6 := lt_heap hh; simp only [World.size_alloc] at qx6a6)); (try (have rx6a6 := lt_heap hh)); (try (have qk5a6 := k5.lt; simp only [World.size_alloc] at qk5a6)); (try (have rk5a6 := k5.lt)); (try (have qk6a6 := k6.lt; simp only [World.size_alloc] at qk6a6)); (try (have rk6a6 := k6.lt)); replace hc := hc.alloc hc.size (.cells #[.slice none 0 0, .slice none 0 0, .slice none 0 0, .slice none 0 0] 27); (try replace hx5 := al_old hx5 (.cells #[.slice none 0 0, .slice none 0 0, .slice none 0 0, .slice none 0 0] 27)); (try replace k5 := k5.alloc (.cells #[.slice none 0 0, .slice none 0 0, .slice none 0 0, .slice none 0 0] 27)); (try replace k6 := k6.alloc (.cells #[.slice none 0 0, .slice none 0 0, .slice none 0 0, .slice none 0 0] 27))
          refine hK.out _ _ ?_ (fun hHeld => ?_)
          · (try dsimp only); exact (K3.out.next hc).bx.four
          clear hK K
          try simp only [Act.put, List.setIfInBounds_toArray, List.set_cons_zero, List.set_cons_succ]
          refine wpAnyH_ready (rs := [4]) (by as_aux_lemma => kernel_rfl) (by simp) ?_
          refine hcons rfl (fun K hK => ?_) (AllReadyH.nil)
          go_simp
          have hx5 := al_new hc (.cells #[.slice none 0 0, .slice none 0 0, .slice none 0 0, .slice none 0 0] 27); have hza5 := hc.size; (try simp only [World.size_alloc] at hx5 hza5); (try (have qx5a5 := lt_heap hh; simp only [World.size_alloc] at qx5a5)); (try (have rx5a5 := lt_heap hh)); (try (have qx6a5 := lt_heap hx6; simp only [World.size_alloc] at qx6a5)); (try (have rx6a5 := lt_heap hx6)); (try (have qk5a5 := k5.lt; simp only [World.size_alloc] at qk5a5)); (try (have rk5a5 := k5.lt)); (try (have qk6a5 := k6.lt; simp only [World.size_alloc] at qk6a5)); (try (have rk6a5 := k6.lt)); replace hc := hc.alloc hc.size (.cells #[.slice none 0 0, .slice none 0 0, .slice none 0 0, .slice none 0 0] 27); (try replace hx6 := al_old hx6 (.cells #[.slice none 0 0, .slice none 0 0, .slice none 0 0, .slice none 0 0] 27)); (try replace k5 := k5.alloc (.cells #[.slice none 0 0, .slice none 0 0, .slice none 0 0, .slice none 0 0] 27)); (try replace k6 := k6.alloc (.cells #[.slice none 0 0, .slice none 0 0, .slice none 0 0, .slice none 0 0] 27))
          refine hK.out _ _ ?_ (fun hHeld => ?_)
          · (try dsimp only); exact (K3.out.next hc).bx.four
          clear hK K
          try simp only [Act.put, List.setIfInBounds_toArray, List.set_cons_zero, List.set_cons_succ]
          refine wpAnyH_ready (rs := [6]) (by as_aux_lemma => kernel_rfl) (by simp) ?_
          refine hcons rfl (fun K hK => ?_) (AllReadyH.nil)
          refine step_store_row rfl 27 (.tmp 5) (.tmp 44) rfl _ _ rfl rfl 27 _ hx5 (by as_aux_lemma => kernel_rfl) rfl (by simp [Value.oneCell']) ?_
          refine hK.out _ _ ?_ (fun hHeld => ?_)
          · (try dsimp only); exact (K3.out.next (below_setRow hc (by omega) _)).bx.four
          clear hK K
          try simp only [Act.put]
          refine wpAnyH_ready (rs := [7]) (by as_aux_lemma => kernel_rfl) (by simp) ?_
          refine hcons rfl (fun K hK => ?_) (AllReadyH.nil)
          refine step_store_row rfl 27 (.tmp 6) (.tmp 46) rfl _ _ rfl rfl 27 _ ((setRow_other _ _ _ _ (by omega)).trans hx6) (by as_aux_lemma => kernel_rfl) rfl (by simp [Value.oneCell']) ?_
          refine hK.out _ _ ?_ (fun hHeld => ?_)
          · (try dsimp only); exact (K3.out.next (below_setRow (below_setRow hc (by omega) _) (by omega) _)).bx.four
          clear hK K
          try simp only [Act.put]
          refine wpAnyH_done (by as_aux_lemma => kernel_rfl) ?_ _
          refine NoPanic.normal ?_
          rotate_left
          go_simp
          have hx5 := al_new hc (.cells #[.slice none 0 0, .slice none 0 0, .slice none 0 0, .slice none 0 0] 27); have hza5 := hc.size; (try simp only [World.size_alloc] at hx5 hza5); (try (have qx5a5 := lt_heap hh; simp only [World.size_alloc] at qx5a5)); (try (have rx5a5 := lt_heap hh)); (try (have qx6a5 := lt_heap hx6; simp only [World.size_alloc] at qx6a5)); (try (have rx6a5 := lt_heap hx6)); (try (have qk5a5 := k5.lt; simp only [World.size_alloc] at qk5a5)); (try (have rk5a5 := k5.lt)); (try (have qk6a5 := k6.lt; simp only [World.size_alloc] at qk6a5)); (try (have rk6a5 := k6.lt)); replace hc := hc.alloc hc.size (.cells #[.slice none 0 0, .slice none 0 0, .slice none 0 0, .slice none 0 0] 27); (try replace hx6 := al_old hx6 (.cells #[.slice none 0 0, .slice none 0 0, .slice none 0 0, .slice none 0 0] 27)); (try replace k5 := k5.alloc (.cells #[.slice none 0 0, .slice none 0 0, .slice none 0 0, .slice none 0 0] 27)); (try replace k6 := k6.alloc (.cells #[.slice none 0 0, .slice none 0 0, .slice none 0 0, .slice none 0 0] 27))
          refine hK.out _ _ ?_ (fun hHeld => ?_)
          · (try dsimp only); exact (K3.out.next hc).bx.four
          clear hK K
          try simp only [Act.put, List.setIfInBounds_toArray, List.set_cons_zero, List.set_cons_succ]
          refine wpAnyH_ready (rs := [3, 5]) (by as_aux_lemma => kernel_rfl) (by simp) ?_
          refine hcons rfl (fun K hK => ?_) (hcons rfl (fun K hK => ?_) (AllReadyH.nil))
          go_simp
          (with_reducible refine (fixed32_any s true _ Hok.out ?_).mono ?_); (exact K3.out.st.next hc); rintro e w6 ⟨g6, c6, rfl, hg6, k6, hb6⟩; have hz6 := hc.size; (try simp only [World.size_alloc] at hz6 hg6); (try (have qx5c6 := lt_heap hx5; simp only [World.size_alloc] at qx5c6)); (try (have rx5c6 := lt_heap hx5)); (try (have qx6c6 := lt_heap hx6; simp only [World.size_alloc] at qx6c6)); (try (have rx6c6 := lt_heap hx6)); (try (have qk5c6 := k5.lt; simp only [World.size_alloc] at qk5c6)); (try (have rk5c6 := k5.lt)); (try (have qk6c6 := kk.lt; simp only [World.size_alloc] at qk6c6)); (try (have rk6c6 := kk.lt)); replace hc := hc.trans (hb6.mono hc.size); have hw6 := hb6.size; (try simp only [World.size_alloc] at hw6); (try replace hx5 := (hb6.block _ (lt_heap hx5)).trans hx5); (try replace hx6 := (hb6.block _ (lt_heap hx6)).trans hx6); (try replace k5 := k5.next hb6)
          refine hK.out _ _ ?_ (fun hHeld => ?_)
          · (try dsimp only); exact (K3.out.next hc).bx.four
          clear hK K
          try simp only [Act.put, List.setIfInBounds_toArray, List.set_cons_zero, List.set_cons_succ]
          refine wpAnyH_ready (rs := [5]) (by as_aux_lemma => kernel_rfl) (by simp) ?_
          refine hcons rfl (fun K hK => ?_) (AllReadyH.nil)
          go_simp
          have hx6 := al_new hc (.cells #[.slice none 0 0, .slice none 0 0, .slice none 0 0, .slice none 0 0] 27); have hza6 := hc.size; (try simp only [World.size_alloc] at hx6 hza6); (try (have qx5a6 := lt_heap hx5; simp only [World.size_alloc] at qx5a6)); (try (have rx5a6 := lt_heap hx5)); (try (have qx6a6 := lt_heap hh; simp only [World.size_alloc] at qx6a6)); (try (have rx6a6 := lt_heap hh)); (try (have qk5a6 := k5.lt; simp only [World.size_alloc] at qk5a6)); (try (have rk5a6 := k5.lt)); (try (have qk6a6 := k6.lt; simp only [World.size_alloc] at qk6a6)); (try (have rk6a6 := k6.lt)); replace hc := hc.alloc hc.size (.cells #[.slice none 0 0, .slice none 0 0, .slice none 0 0, .slice none 0 0] 27); (try replace hx5 := al_old hx5 (.cells #[.slice none 0 0, .slice none 0 0, .slice none 0 0, .slice none 0 0] 27)); (try replace k5 := k5.alloc (.cells #[.slice none 0 0, .slice none 0 0, .slice none 0 0, .slice none 0 0] 27)); (try replace k6 := k6.alloc (.cells #[.slice none 0 0, .slice none 0 0, .slice none 0 0, .slice none 0 0] 27))
          refine hK.out _ _ ?_ (fun hHeld => ?_)
          · (try dsimp only); exact (K3.out.next hc).bx.four
          clear hK K
          try simp only [Act.put, List.setIfInBounds_toArray, List.set_cons_zero, List.set_cons_succ]
          refine wpAnyH_ready (rs := [6]) (by as_aux_lemma => kernel_rfl) (by simp) ?_
          refine hcons rfl (fun K hK => ?_) (AllReadyH.nil)
          refine step_store_row rfl 27 (.tmp 5) (.tmp 44) rfl _ _ rfl rfl 27 _ hx5 (by as_aux_lemma => kernel_rfl) rfl (by simp [Value.oneCell']) ?_
          refine hK.out _ _ ?_ (fun hHeld => ?_)
          · (try dsimp only); exact (K3.out.next (below_setRow hc (by omega) _)).bx.four
          clear hK K
          try simp only [Act.put]
          refine wpAnyH_ready (rs := [7]) (by as_aux_lemma => kernel_rfl) (by simp) ?_
          refine hcons rfl (fun K hK => ?_) (AllReadyH.nil)
          refine step_store_row rfl 27 (.tmp 6) (.tmp 46) rfl _ _ rfl rfl 27 _ ((setRow_other _ _ _ _ (by omega)).trans hx6) (by as_aux_lemma => kernel_rfl) rfl (by simp [Value.oneCell']) ?_
          refine hK.out _ _ ?_ (fun hHeld => ?_)
          · (try dsimp only); exact (K3.out.next (below_setRow (below_setRow hc (by omega) _) (by omega) _)).bx.four
          clear hK K
          try simp only [Act.put]
          refine wpAnyH_done (by as_aux_lemma => kernel_rfl) ?_ _
          refine NoPanic.normal ?_
          rotate_left
          go_simp
          have hx6 := al_new hc (.cells #[.slice none 0 0, .slice none 0 0, .slice none 0 0, .slice none 0 0] 27); have hza6 := hc.size; (try simp only [World.size_alloc] at hx6 hza6); (try (have qx5a6 := lt_heap hx5; simp only [World.size_alloc] at qx5a6)); (try (have rx5a6 := lt_heap hx5)); (try (have qx6a6 := lt_heap hh; simp only [World.size_alloc] at qx6a6)); (try (have rx6a6 := lt_heap hh)); (try (have qk5a6 := k5.lt; simp only [World.size_alloc] at qk5a6)); (try (have rk5a6 := k5.lt)); (try (have qk6a6 := k6.lt; simp only [World.size_alloc] at qk6a6)); (try (have rk6a6 := k6.lt)); replace hc := hc.alloc hc.size (.cells #[.slice none 0 0, .slice none 0 0, .slice none 0 0, .slice none 0 0] 27); (try replace hx5 := al_old hx5 (.cells #[.slice none 0 0, .slice none 0 0, .slice none 0 0, .slice none 0 0] 27)); (try replace k5 := k5.alloc (.cells #[.slice none 0 0, .slice none 0 0, .slice none 0 0, .slice none 0 0] 27)); (try replace k6 := k6.alloc (.cells #[.slice none 0 0, .slice none 0 0, .slice none 0 0, .slice none 0 0] 27))
          refine hK.out _ _ ?_ (fun hHeld => ?_)
          · (try dsimp only); exact (K3.out.next hc).bx.four
          clear hK K
          try simp only [Act.put, List.setIfInBounds_toArray, List.set_cons_zero, List.set_cons_succ]
          refine wpAnyH_ready (rs := [3]) (by as_aux_lemma => kernel_rfl) (by simp) ?_
          refine hcons rfl (fun K hK => ?_) (AllReadyH.nil)
          go_simp
          (with_reducible refine (fixed32_any s true _ Hok.out ?_).mono ?_); (exact K3.out.st.next hc); rintro e w6 ⟨g6, c6, rfl, hg6, k6, hb6⟩; have hz6 := hc.size; (try simp only [World.size_alloc] at hz6 hg6); (try (have qx5c6 := lt_heap hx5; simp only [World.size_alloc] at qx5c6)); (try (have rx5c6 := lt_heap hx5)); (try (have qx6c6 := lt_heap hx6; simp only [World.size_alloc] at qx6c6)); (try (have rx6c6 := lt_heap hx6)); (try (have qk5c6 := k5.lt; simp only [World.size_alloc] at qk5c6)); (try (have rk5c6 := k5.lt)); (try (have qk6c6 := kk.lt; simp only [World.size_alloc] at qk6c6)); (try (have rk6c6 := kk.lt)); replace hc := hc.trans (hb6.mono hc.size); have hw6 := hb6.size; (try simp only [World.size_alloc] at hw6); (try replace hx5 := (hb6.block _ (lt_heap hx5)).trans hx5); (try replace hx6 := (hb6.block _ (lt_heap hx6)).trans hx6); (try replace k5 := k5.next hb6)
          refine hK.out _ _ ?_ (fun hHeld => ?_)
          · (try dsimp only); exact (K3.out.next hc).bx.four
          clear hK K
          try simp only [Act.put, List.setIfInBounds_toArray, List.set_cons_zero, List.set_cons_succ]
          refine wpAnyH_ready (rs := [6]) (by as_aux_lemma => kernel_rfl) (by simp) ?_
          refine hcons rfl (fun K hK => ?_) (AllReadyH.nil)
          refine step_store_row rfl 27 (.tmp 5) (.tmp 44) rfl _ _ rfl rfl 27 _ hx5 (by as_aux_lemma => kernel_rfl) rfl (by simp [Value.oneCell']) ?_
          refine hK.out _ _ ?_ (fun hHeld => ?_)
          · (try dsimp only); exact (K3.out.next (below_setRow hc (by omega) _)).bx.four
          clear hK K
          try simp only [Act.put]
          refine wpAnyH_ready (rs := [7]) (by as_aux_lemma => kernel_rfl) (by simp) ?_
          refine hcons rfl (fun K hK => ?_) (AllReadyH.nil)
          refine step_store_row rfl 27 (.tmp 6) (.tmp 46) rfl _ _ rfl rfl 27 _ ((setRow_other _ _ _ _ (by omega)).trans hx6) (by as_aux_lemma => kernel_rfl) rfl (by simp [Value.oneCell']) ?_
          refine hK.out _ _ ?_ (fun hHeld => ?_)
          · (try dsimp only); exact (K3.out.next (below_setRow (below_setRow hc (by omega) _) (by omega) _)).bx.four
          clear hK K
          try simp only [Act.put]
          refine wpAnyH_done (by as_aux_lemma => kernel_rfl) ?_ _
          refine NoPanic.normal ?_
          rotate_left
          go_simp
          have hx6 := al_new hc (.cells #[.slice none 0 0, .slice none 0 0, .slice none 0 0, .slice none 0 0] 27); have hza6 := hc.size; (try simp only [World.size_alloc] at hx6 hza6); (try (have qx5a6 := lt_heap hx5; simp only [World.size_alloc] at qx5a6)); (try (have rx5a6 := lt_heap hx5)); (try (have qx6a6 := lt_heap hh; simp only [World.size_alloc] at qx6a6)); (try (have rx6a6 := lt_heap hh)); (try (have qk5a6 := k5.lt; simp only [World.size_alloc] at qk5a6)); (try (have rk5a6 := k5.lt)); (try (have qk6a6 := k6.lt; simp only [World.size_alloc] at qk6a6)); (try (have rk6a6 := k6.lt)); replace hc := hc.alloc hc.size (.cells #[.slice none 0 0, .slice none 0 0, .slice none 0 0, .slice none 0 0] 27); (try replace hx5 := al_old hx5 (.cells #[.slice none 0 0, .slice none 0 0, .slice none 0 0, .slice none 0 0] 27)); (try replace k5 := k5.alloc (.cells #[.slice none 0 0, .slice none 0 0, .slice none 0 0, .slice none 0 0] 27)); (try replace k6 := k6.alloc (.cells #[.slice none 0 0, .slice none 0 0, .slice none 0 0, .slice none 0 0] 27))
          refine hK.out _ _ ?_ (fun hHeld => ?_)
          · (try dsimp only); exact (K3.out.next hc).bx.four
          clear hK K
          try simp only [Act.put, List.setIfInBounds_toArray, List.set_cons_zero, List.set_cons_succ]
          refine wpAnyH_ready (rs := [3, 4]) (by as_aux_lemma => kernel_rfl) (by simp) ?_
          refine hcons rfl (fun K hK => ?_) (hcons rfl (fun K hK => ?_) (AllReadyH.nil))
          go_simp
          (with_reducible refine (fixed32_any s true _ Hok.out ?_).mono ?_); (exact K3.out.st.next hc); rintro e w6 ⟨g6, c6, rfl, hg6, k6, hb6⟩; have hz6 := hc.size; (try simp only [World.size_alloc] at hz6 hg6); (try (have qx5c6 := lt_heap hx5; simp only [World.size_alloc] at qx5c6)); (try (have rx5c6 := lt_heap hx5)); (try (have qx6c6 := lt_heap hx6; simp only [World.size_alloc] at qx6c6)); (try (have rx6c6 := lt_heap hx6)); (try (have qk5c6 := k5.lt; simp only [World.size_alloc] at qk5c6)); (try (have rk5c6 := k5.lt)); (try (have qk6c6 := kk.lt; simp only [World.size_alloc] at qk6c6)); (try (have rk6c6 := kk.lt)); replace hc := hc.trans (hb6.mono hc.size); have hw6 := hb6.size; (try simp only [World.size_alloc] at hw6); (try replace hx5 := (hb6.block _ (lt_heap hx5)).trans hx5); (try replace hx6 := (hb6.block _ (lt_heap hx6)).trans hx6); (try replace k5 := k5.next hb6)
          refine hK.out _ _ ?_ (fun hHeld => ?_)
          · (try dsimp only); exact (K3.out.next hc).bx.four
          clear hK K
          try simp only [Act.put, List.setIfInBounds_toArray, List.set_cons_zero, List.set_cons_succ]
          refine wpAnyH_ready (rs := [4]) (by as_aux_lemma => kernel_rfl) (by simp) ?_
          refine hcons rfl (fun K hK => ?_) (AllReadyH.nil)
          go_simp
          have hx5 := al_new hc (.cells #[.slice none 0 0, .slice none 0 0, .slice none 0 0, .slice none 0 0] 27); have hza5 := hc.size; (try simp only [World.size_alloc] at hx5 hza5); (try (have qx5a5 := lt_heap hh; simp only [World.size_alloc] at qx5a5)); (try (have rx5a5 := lt_heap hh)); (try (have qx6a5 := lt_heap hx6; simp only [World.size_alloc] at qx6a5)); (try (have rx6a5 := lt_heap hx6)); (try (have qk5a5 := k5.lt; simp only [World.size_alloc] at qk5a5)); (try (have rk5a5 := k5.lt)); (try (have qk6a5 := k6.lt; simp only [World.size_alloc] at qk6a5)); (try (have rk6a5 := k6.lt)); replace hc := hc.alloc hc.size (.cells #[.slice none 0 0, .slice none 0 0, .slice none 0 0, .slice none 0 0] 27); (try replace hx6 := al_old hx6 (.cells #[.slice none 0 0, .slice none 0 0, .slice none 0 0, .slice none 0 0] 27)); (try replace k5 := k5.alloc (.cells #[.slice none 0 0, .slice none 0 0, .slice none 0 0, .slice none 0 0] 27)); (try replace k6 := k6.alloc (.cells #[.slice none 0 0, .slice none 0 0, .slice none 0 0, .slice none 0 0] 27))
          refine hK.out _ _ ?_ (fun hHeld => ?_)
          · (try dsimp only); exact (K3.out.next hc).bx.four
          clear hK K
          try simp only [Act.put, List.setIfInBounds_toArray, List.set_cons_zero, List.set_cons_succ]
          refine wpAnyH_ready (rs := [6]) (by as_aux_lemma => kernel_rfl) (by simp) ?_
          refine hcons rfl (fun K hK => ?_) (AllReadyH.nil)
          refine step_store_row rfl 27 (.tmp 5) (.tmp 44) rfl _ _ rfl rfl 27 _ hx5 (by as_aux_lemma => kernel_rfl) rfl (by simp [Value.oneCell']) ?_
          refine hK.out _ _ ?_ (fun hHeld => ?_)
          · (try dsimp only); exact (K3.out.next (below_setRow hc (by omega) _)).bx.four
          clear hK K
          try simp only [Act.put]
          refine wpAnyH_ready (rs := [7]) (by as_aux_lemma => kernel_rfl) (by simp) ?_
          refine hcons rfl (fun K hK => ?_) (AllReadyH.nil)
          refine step_store_row rfl 27 (.tmp 6) (.tmp 46) rfl _ _ rfl rfl 27 _ ((setRow_other _ _ _ _ (by omega)).trans hx6) (by as_aux_lemma => kernel_rfl) rfl (by simp [Value.oneCell']) ?_
          refine hK.out _ _ ?_ (fun hHeld => ?_)
          · (try dsimp only); exact (K3.out.next (below_setRow (below_setRow hc (by omega) _) (by omega) _)).bx.four
          clear hK K
          try simp only [Act.put]
          refine wpAnyH_done (by as_aux_lemma => kernel_rfl) ?_ _
          refine NoPanic.normal ?_
          rotate_left
          go_simp
          have hx5 := al_new hc (.cells #[.slice none 0 0, .slice none 0 0, .slice none 0 0, .slice none 0 0] 27); have hza5 := hc.size; (try simp only [World.size_alloc] at hx5 hza5); (try (have qx5a5 := lt_heap hh; simp only [World.size_alloc] at qx5a5)); (try (have rx5a5 := lt_heap hh)); (try (have qx6a5 := lt_heap hx6; simp only [World.size_alloc] at qx6a5)); (try (have rx6a5 := lt_heap hx6)); (try (have qk5a5 := k5.lt; simp only [World.size_alloc] at qk5a5)); (try (have rk5a5 := k5.lt)); (try (have qk6a5 := k6.lt; simp only [World.size_alloc] at qk6a5)); (try (have rk6a5 := k6.lt)); replace hc := hc.alloc hc.size (.cells #[.slice none 0 0, .slice none 0 0, .slice none 0 0, .slice none 0 0] 27); (try replace hx6 := al_old hx6 (.cells #[.slice none 0 0, .slice none 0 0, .slice none 0 0, .slice none 0 0] 27)); (try replace k5 := k5.alloc (.cells #[.slice none 0 0, .slice none 0 0, .slice none 0 0, .slice none 0 0] 27)); (try replace k6 := k6.alloc (.cells #[.slice none 0 0, .slice none 0 0, .slice none 0 0, .slice none 0 0] 27))
          refine hK.out _ _ ?_ (fun hHeld => ?_)
          · (try dsimp only); exact (K3.out.next hc).bx.four
          clear hK K
          try simp only [Act.put, List.setIfInBounds_toArray, List.set_cons_zero, List.set_cons_succ]
          refine wpAnyH_ready (rs := [3]) (by as_aux_lemma => kernel_rfl) (by simp) ?_
          refine hcons rfl (fun K hK => ?_) (AllReadyH.nil)
          go_simp
          (with_reducible refine (fixed32_any s true _ Hok.out ?_).mono ?_); (exact K3.out.st.next hc); rintro e w6 ⟨g6, c6, rfl, hg6, k6, hb6⟩; have hz6 := hc.size; (try simp only [World.size_alloc] at hz6 hg6); (try (have qx5c6 := lt_heap hx5; simp only [World.size_alloc] at qx5c6)); (try (have rx5c6 := lt_heap hx5)); (try (have qx6c6 := lt_heap hx6; simp only [World.size_alloc] at qx6c6)); (try (have rx6c6 := lt_heap hx6)); (try (have qk5c6 := k5.lt; simp only [World.size_alloc] at qk5c6)); (try (have rk5c6 := k5.lt)); (try (have qk6c6 := kk.lt; simp only [World.size_alloc] at qk6c6)); (try (have rk6c6 := kk.lt)); replace hc := hc.trans (hb6.mono hc.size); have hw6 := hb6.size; (try simp only [World.size_alloc] at hw6); (try replace hx5 := (hb6.block _ (lt_heap hx5)).trans hx5); (try replace hx6 := (hb6.block _ (lt_heap hx6)).trans hx6); (try replace k5 := k5.next hb6)
          refine hK.out _ _ ?_ (fun hHeld => ?_)
          · (try dsimp only); exact (K3.out.next hc).bx.four
          clear hK K
          try simp only [Act.put, List.setIfInBounds_toArray, List.set_cons_zero, List.set_cons_succ]
          refine wpAnyH_ready (rs := [6]) (by as_aux_lemma => kernel_rfl) (by simp) ?_
          refine hcons rfl (fun K hK => ?_) (AllReadyH.nil)
          refine step_store_row rfl 27 (.tmp 5) (.tmp 44) rfl _ _ rfl rfl 27 _ hx5 (by as_aux_lemma => kernel_rfl) rfl (by simp [Value.oneCell']) ?_
          refine hK.out _ _ ?_ (fun hHeld => ?_)
          · (try dsimp only); exact (K3.out.next (below_setRow hc (by omega) _)).bx.four
          clear hK K
          try simp only [Act.put]
          refine wpAnyH_ready (rs := [7]) (by as_aux_lemma => kernel_rfl) (by simp) ?_
          refine hcons rfl (fun K hK => ?_) (AllReadyH.nil)
          refine step_store_row rfl 27 (.tmp 6) (.tmp 46) rfl _ _ rfl rfl 27 _ ((setRow_other _ _ _ _ (by omega)).trans hx6) (by as_aux_lemma => kernel_rfl) rfl (by simp [Value.oneCell']) ?_
          refine hK.out _ _ ?_ (fun hHeld => ?_)
          · (try dsimp only); exact (K3.out.next (below_setRow (below_setRow hc (by omega) _) (by omega) _)).bx.four
          clear hK K
          try simp only [Act.put]
          refine wpAnyH_done (by as_aux_lemma => kernel_rfl) ?_ _
          refine NoPanic.normal ?_
          rotate_left
          go_simp
          have hx5 := al_new hc (.cells #[.slice none 0 0, .slice none 0 0, .slice none 0 0, .slice none 0 0] 27); have hza5 := hc.size; (try simp only [World.size_alloc] at hx5 hza5); (try (have qx5a5 := lt_heap hh; simp only [World.size_alloc] at qx5a5)); (try (have rx5a5 := lt_heap hh)); (try (have qx6a5 := lt_heap hx6; simp only [World.size_alloc] at qx6a5)); (try (have rx6a5 := lt_heap hx6)); (try (have qk5a5 := k5.lt; simp only [World.size_alloc] at qk5a5)); (try (have rk5a5 := k5.lt)); (try (have qk6a5 := k6.lt; simp only [World.size_alloc] at qk6a5)); (try (have rk6a5 := k6.lt)); replace hc := hc.alloc hc.size (.cells #[.slice none 0 0, .slice none 0 0, .slice none 0 0, .slice none 0 0] 27); (try replace hx6 := al_old hx6 (.cells #[.slice none 0 0, .slice none 0 0, .slice none 0 0, .slice none 0 0] 27)); (try replace k5 := k5.alloc (.cells #[.slice none 0 0, .slice none 0 0, .slice none 0 0, .slice none 0 0] 27)); (try replace k6 := k6.alloc (.cells #[.slice none 0 0, .slice none 0 0, .slice none 0 0, .slice none 0 0] 27))
          refine hK.out _ _ ?_ (fun hHeld => ?_)
          · (try dsimp only); exact (K3.out.next hc).bx.four
          clear hK K
          try simp only [Act.put, List.setIfInBounds_toArray, List.set_cons_zero, List.set_cons_succ]
          refine wpAnyH_ready (rs := [1, 5]) (by as_aux_lemma => kernel_rfl) (by simp) ?_
          refine hcons rfl (fun K hK => ?_) (hcons rfl (fun K hK => ?_) (AllReadyH.nil))
          go_simp
          (with_reducible refine (fixed32_any s false _ Hok.out ?_).mono ?_); (exact K3.out.st.next hc); rintro e w5 ⟨g5, c5, rfl, hg5, k5, hb5⟩; have hz5 := hc.size; (try simp only [World.size_alloc] at hz5 hg5); (try (have qx5c5 := lt_heap hx5; simp only [World.size_alloc] at qx5c5)); (try (have rx5c5 := lt_heap hx5)); (try (have qx6c5 := lt_heap hx6; simp only [World.size_alloc] at qx6c5)); (try (have rx6c5 := lt_heap hx6)); (try (have qk5c5 := kk.lt; simp only [World.size_alloc] at qk5c5)); (try (have rk5c5 := kk.lt)); (try (have qk6c5 := k6.lt; simp only [World.size_alloc] at qk6c5)); (try (have rk6c5 := k6.lt)); replace hc := hc.trans (hb5.mono hc.size); have hw5 := hb5.size; (try simp only [World.size_alloc] at hw5); (try replace hx5 := (hb5.block _ (lt_heap hx5)).trans hx5); (try replace hx6 := (hb5.block _ (lt_heap hx6)).trans hx6)
          refine hK.out _ _ ?_ (fun hHeld => ?_)
          · (try dsimp only); exact (K3.out.next hc).bx.four
          clear hK K
          try simp only [Act.put, List.setIfInBounds_toArray, List.set_cons_zero, List.set_cons_succ]
          refine wpAnyH_ready (rs := [3, 5]) (by as_aux_lemma => kernel_rfl) (by simp) ?_
          refine hcons rfl (fun K hK => ?_) (hcons rfl (fun K hK => ?_) (AllReadyH.nil))
          go_simp
          (with_reducible refine (fixed32_any s true _ Hok.out ?_).mono ?_); (exact K3.out.st.next hc); rintro e w6 ⟨g6, c6, rfl, hg6, k6, hb6⟩; have hz6 := hc.size; (try simp only [World.size_alloc] at hz6 hg6); (try (have qx5c6 := lt_heap hx5; simp only [World.size_alloc] at qx5c6)); (try (have rx5c6 := lt_heap hx5)); (try (have qx6c6 := lt_heap hx6; simp only [World.size_alloc] at qx6c6)); (try (have rx6c6 := lt_heap hx6)); (try (have qk5c6 := k5.lt; simp only [World.size_alloc] at qk5c6)); (try (have rk5c6 := k5.lt)); (try (have qk6c6 := kk.lt; simp only [World.size_alloc] at qk6c6)); (try (have rk6c6 := kk.lt)); replace hc := hc.trans (hb6.mono hc.size); have hw6 := hb6.size; (try simp only [World.size_alloc] at hw6); (try replace hx5 := (hb6.block _ (lt_heap hx5)).trans hx5); (try replace hx6 := (hb6.block _ (lt_heap hx6)).trans hx6); (try replace k5 := k5.next hb6)
          refine hK.out _ _ ?_ (fun hHeld => ?_)
          · (try dsimp only); exact (K3.out.next hc).bx.four
          clear hK K
          try simp only [Act.put, List.setIfInBounds_toArray, List.set_cons_zero, List.set_cons_succ]
          refine wpAnyH_ready (rs := [5]) (by as_aux_lemma => kernel_rfl) (by simp) ?_
          refine hcons rfl (fun K hK => ?_) (AllReadyH.nil)
          go_simp
          have hx6 := al_new hc (.cells #[.slice none 0 0, .slice none 0 0, .slice none 0 0, .slice none 0 0] 27); have hza6 := hc.size; (try simp only [World.size_alloc] at hx6 hza6); (try (have qx5a6 := lt_heap hx5; simp only [World.size_alloc] at qx5a6)); (try (have rx5a6 := lt_heap hx5)); (try (have qx6a6 := lt_heap hh; simp only [World.size_alloc] at qx6a6)); (try (have rx6a6 := lt_heap hh)); (try (have qk5a6 := k5.lt; simp only [World.size_alloc] at qk5a6)); (try (have rk5a6 := k5.lt)); (try (have qk6a6 := k6.lt; simp only [World.size_alloc] at qk6a6)); (try (have rk6a6 := k6.lt)); replace hc := hc.alloc hc.size (.cells #[.slice none 0 0, .slice none 0 0, .slice none 0 0, .slice none 0 0] 27); (try replace hx5 := al_old hx5 (.cells #[.slice none 0 0, .slice none 0 0, .slice none 0 0, .slice none 0 0] 27)); (try replace k5 := k5.alloc (.cells #[.slice none 0 0, .slice none 0 0, .slice none 0 0, .slice none 0 0] 27)); (try replace k6 := k6.alloc (.cells #[.slice none 0 0, .slice none 0 0, .slice none 0 0, .slice none 0 0] 27))
          refine hK.out _ _ ?_ (fun hHeld => ?_)
          · (try dsimp only); exact (K3.out.next hc).bx.four
          clear hK K
          try simp only [Act.put, List.setIfInBounds_toArray, List.set_cons_zero, List.set_cons_succ]
          refine wpAnyH_ready (rs := [6]) (by as_aux_lemma => kernel_rfl) (by simp) ?_
          refine hcons rfl (fun K hK => ?_) (AllReadyH.nil)
          refine step_store_row rfl 27 (.tmp 5) (.tmp 44) rfl _ _ rfl rfl 27 _ hx5 (by as_aux_lemma => kernel_rfl) rfl (by simp [Value.oneCell']) ?_
          refine hK.out _ _ ?_ (fun hHeld => ?_)
          · (try dsimp only); exact (K3.out.next (below_setRow hc (by omega) _)).bx.four
          clear hK K
          try simp only [Act.put]
          refine wpAnyH_ready (rs := [7]) (by as_aux_lemma => kernel_rfl) (by simp) ?_
          refine hcons rfl (fun K hK => ?_) (AllReadyH.nil)
          refine step_store_row rfl 27 (.tmp 6) (.tmp 46) rfl _ _ rfl rfl 27 _ ((setRow_other _ _ _ _ (by omega)).trans hx6) (by as_aux_lemma => kernel_rfl) rfl (by simp [Value.oneCell']) ?_
          refine hK.out _ _ ?_ (fun hHeld => ?_)
          · (try dsimp only); exact (K3.out.next (below_setRow (below_setRow hc (by omega) _) (by omega) _)).bx.four
          clear hK K
          try simp only [Act.put]
          refine wpAnyH_done (by as_aux_lemma => kernel_rfl) ?_ _
          refine NoPanic.normal ?_
          rotate_left
          go_simp
          have hx6 := al_new hc (.cells #[.slice none 0 0, .slice none 0 0, .slice none 0 0, .slice none 0 0] 27); have hza6 := hc.size; (try simp only [World.size_alloc] at hx6 hza6); (try (have qx5a6 := lt_heap hx5; simp only [World.size_alloc] at qx5a6)); (try (have rx5a6 := lt_heap hx5)); (try (have qx6a6 := lt_heap hh; simp only [World.size_alloc] at qx6a6)); (try (have rx6a6 := lt_heap hh)); (try (have qk5a6 := k5.lt; simp only [World.size_alloc] at qk5a6)); (try (have rk5a6 := k5.lt)); (try (have qk6a6 := k6.lt; simp only [World.size_alloc] at qk6a6)); (try (have rk6a6 := k6.lt)); replace hc := hc.alloc hc.size (.cells #[.slice none 0 0, .slice none 0 0, .slice none 0 0, .slice none 0 0] 27); (try replace hx5 := al_old hx5 (.cells #[.slice none 0 0, .slice none 0 0, .slice none 0 0, .slice none 0 0] 27)); (try replace k5 := k5.alloc (.cells #[.slice none 0 0, .slice none 0 0, .slice none 0 0, .slice none 0 0] 27)); (try replace k6 := k6.alloc (.cells #[.slice none 0 0, .slice none 0 0, .slice none 0 0, .slice none 0 0] 27))
          refine hK.out _ _ ?_ (fun hHeld => ?_)
          · (try dsimp only); exact (K3.out.next hc).bx.four
          clear hK K
          try simp only [Act.put, List.setIfInBounds_toArray, List.set_cons_zero, List.set_cons_succ]
          refine wpAnyH_ready (rs := [3]) (by as_aux_lemma => kernel_rfl) (by simp) ?_
          refine hcons rfl (fun K hK => ?_) (AllReadyH.nil)
          go_simp
          (with_reducible refine (fixed32_any s true _ Hok.out ?_).mono ?_); (exact K3.out.st.next hc); rintro e w6 ⟨g6, c6, rfl, hg6, k6, hb6⟩; have hz6 := hc.size; (try simp only [World.size_alloc] at hz6 hg6); (try (have qx5c6 := lt_heap hx5; simp only [World.size_alloc] at qx5c6)); (try (have rx5c6 := lt_heap hx5)); (try (have qx6c6 := lt_heap hx6; simp only [World.size_alloc] at qx6c6)); (try (have rx6c6 := lt_heap hx6)); (try (have qk5c6 := k5.lt; simp only [World.size_alloc] at qk5c6)); (try (have rk5c6 := k5.lt)); (try (have qk6c6 := kk.lt; simp only [World.size_alloc] at qk6c6)); (try (have rk6c6 := kk.lt)); replace hc := hc.trans (hb6.mono hc.size); have hw6 := hb6.size; (try simp only [World.size_alloc] at hw6); (try replace hx5 := (hb6.block _ (lt_heap hx5)).trans hx5); (try replace hx6 := (hb6.block _ (lt_heap hx6)).trans hx6); (try replace k5 := k5.next hb6)
          refine hK.out _ _ ?_ (fun hHeld => ?_)
          · (try dsimp only); exact (K3.out.next hc).bx.four
          clear hK K
          try simp only [Act.put, List.setIfInBounds_toArray, List.set_cons_zero, List.set_cons_succ]
          refine wpAnyH_ready (rs := [6]) (by as_aux_lemma => kernel_rfl) (by simp) ?_
          refine hcons rfl (fun K hK => ?_) (AllReadyH.nil)
          refine step_store_row rfl 27 (.tmp 5) (.tmp 44) rfl _ _ rfl rfl 27 _ hx5 (by as_aux_lemma => kernel_rfl) rfl (by simp [Value.oneCell']) ?_
          refine hK.out _ _ ?_ (fun hHeld => ?_)
          · (try dsimp only); exact (K3.out.next (below_setRow hc (by omega) _)).bx.four
          clear hK K
          try simp only [Act.put]
          refine wpAnyH_ready (rs := [7]) (by as_aux_lemma => kernel_rfl) (by simp) ?_
          refine hcons rfl (fun K hK => ?_) (AllReadyH.nil)
          refine step_store_row rfl 27 (.tmp 6) (.tmp 46) rfl _ _ rfl rfl 27 _ ((setRow_other _ _ _ _ (by omega)).trans hx6) (by as_aux_lemma => kernel_rfl) rfl (by simp [Value.oneCell']) ?_
          refine hK.out _ _ ?_ (fun hHeld => ?_)
          · (try dsimp only); exact (K3.out.next (below_setRow (below_setRow hc (by omega) _) (by omega) _)).bx.four
          clear hK K
          try simp only [Act.put]
          refine wpAnyH_done (by as_aux_lemma => kernel_rfl) ?_ _
          refine NoPanic.normal ?_
          rotate_left
          go_simp
          have hx6 := al_new hc (.cells #[.slice none 0 0, .slice none 0 0, .slice none 0 0, .slice none 0 0] 27); have hza6 := hc.size; (try simp only [World.size_alloc] at hx6 hza6); (try (have qx5a6 := lt_heap hx5; simp only [World.size_alloc] at qx5a6)); (try (have rx5a6 := lt_heap hx5)); (try (have qx6a6 := lt_heap hh; simp only [World.size_alloc] at qx6a6)); (try (have rx6a6 := lt_heap hh)); (try (have qk5a6 := k5.lt; simp only [World.size_alloc] at qk5a6)); (try (have rk5a6 := k5.lt)); (try (have qk6a6 := k6.lt; simp only [World.size_alloc] at qk6a6)); (try (have rk6a6 := k6.lt)); replace hc := hc.alloc hc.size (.cells #[.slice none 0 0, .slice none 0 0, .slice none 0 0, .slice none 0 0] 27); (try replace hx5 := al_old hx5 (.cells #[.slice none 0 0, .slice none 0 0, .slice none 0 0, .slice none 0 0] 27)); (try replace k5 := k5.alloc (.cells #[.slice none 0 0, .slice none 0 0, .slice none 0 0, .slice none 0 0] 27)); (try replace k6 := k6.alloc (.cells #[.slice none 0 0, .slice none 0 0, .slice none 0 0, .slice none 0 0] 27))
          refine hK.out _ _ ?_ (fun hHeld => ?_)
          · (try dsimp only); exact (K3.out.next hc).bx.four
          clear hK K
          try simp only [Act.put, List.setIfInBounds_toArray, List.set_cons_zero, List.set_cons_succ]
          refine wpAnyH_ready (rs := [1]) (by as_aux_lemma => kernel_rfl) (by simp) ?_
          refine hcons rfl (fun K hK => ?_) (AllReadyH.nil)
          go_simp
          (with_reducible refine (fixed32_any s false _ Hok.out ?_).mono ?_); (exact K3.out.st.next hc); rintro e w5 ⟨g5, c5, rfl, hg5, k5, hb5⟩; have hz5 := hc.size; (try simp only [World.size_alloc] at hz5 hg5); (try (have qx5c5 := lt_heap hx5; simp only [World.size_alloc] at qx5c5)); (try (have rx5c5 := lt_heap hx5)); (try (have qx6c5 := lt_heap hx6; simp only [World.size_alloc] at qx6c5)); (try (have rx6c5 := lt_heap hx6)); (try (have qk5c5 := kk.lt; simp only [World.size_alloc] at qk5c5)); (try (have rk5c5 := kk.lt)); (try (have qk6c5 := k6.lt; simp only [World.size_alloc] at qk6c5)); (try (have rk6c5 := k6.lt)); replace hc := hc.trans (hb5.mono hc.size); have hw5 := hb5.size; (try simp only [World.size_alloc] at hw5); (try replace hx5 := (hb5.block _ (lt_heap hx5)).trans hx5); (try replace hx6 := (hb5.block _ (lt_heap hx6)).trans hx6)
          refine hK.out _ _ ?_ (fun hHeld => ?_)
          · (try dsimp only); exact (K3.out.next hc).bx.four
          clear hK K
          try simp only [Act.put, List.setIfInBounds_toArray, List.set_cons_zero, List.set_cons_succ]
          refine wpAnyH_ready (rs := [3]) (by as_aux_lemma => kernel_rfl) (by simp) ?_
          refine hcons rfl (fun K hK => ?_) (AllReadyH.nil)
          go_simp
          (with_reducible refine (fixed32_any s true _ Hok.out ?_).mono ?_); (exact K3.out.st.next hc); rintro e w6 ⟨g6, c6, rfl, hg6, k6, hb6⟩; have hz6 := hc.size; (try simp only [World.size_alloc] at hz6 hg6); (try (have qx5c6 := lt_heap hx5; simp only [World.size_alloc] at qx5c6)); (try (have rx5c6 := lt_heap hx5)); (try (have qx6c6 := lt_heap hx6; simp only [World.size_alloc] at qx6c6)); (try (have rx6c6 := lt_heap hx6)); (try (have qk5c6 := k5.lt; simp only [World.size_alloc] at qk5c6)); (try (have rk5c6 := k5.lt)); (try (have qk6c6 := kk.lt; simp only [World.size_alloc] at qk6c6)); (try (have rk6c6 := kk.lt)); replace hc := hc.trans (hb6.mono hc.size); have hw6 := hb6.size; (try simp only [World.size_alloc] at hw6); (try replace hx5 := (hb6.block _ (lt_heap hx5)).trans hx5); (try replace hx6 := (hb6.block _ (lt_heap hx6)).trans hx6); (try replace k5 := k5.next hb6)
          refine hK.out _ _ ?_ (fun hHeld => ?_)
          · (try dsimp only); exact (K3.out.next hc).bx.four
          clear hK K
          try simp only [Act.put, List.setIfInBounds_toArray, List.set_cons_zero, List.set_cons_succ]
          refine wpAnyH_ready (rs := [6]) (by as_aux_lemma => kernel_rfl) (by simp) ?_
          refine hcons rfl (fun K hK => ?_) (AllReadyH.nil)
          refine step_store_row rfl 27 (.tmp 5) (.tmp 44) rfl _ _ rfl rfl 27 _ hx5 (by as_aux_lemma => kernel_rfl) rfl (by simp [Value.oneCell']) ?_
          refine hK.out _ _ ?_ (fun hHeld => ?_)
          · (try dsimp only); exact (K3.out.next (below_setRow hc (by omega) _)).bx.four
          clear hK K
          try simp only [Act.put]
          refine wpAnyH_ready (rs := [7]) (by as_aux_lemma => kernel_rfl) (by simp) ?_
          refine hcons rfl (fun K hK => ?_) (AllReadyH.nil)
          refine step_store_row rfl 27 (.tmp 6) (.tmp 46) rfl _ _ rfl rfl 27 _ ((setRow_other _ _ _ _ (by omega)).trans hx6) (by as_aux_lemma => kernel_rfl) rfl (by simp [Value.oneCell']) ?_
          refine hK.out _ _ ?_ (fun hHeld => ?_)
          · (try dsimp only); exact (K3.out.next (below_setRow (below_setRow hc (by omega) _) (by omega) _)).bx.four
          clear hK K
          try simp only [Act.put]
          refine wpAnyH_done (by as_aux_lemma => kernel_rfl) ?_ _
          refine NoPanic.normal ?_
          rotate_left
          go_simp
          have hx6 := al_new hc (.cells #[.slice none 0 0, .slice none 0 0, .slice none 0 0, .slice none 0 0] 27); have hza6 := hc.size; (try simp only [World.size_alloc] at hx6 hza6); (try (have qx5a6 := lt_heap hx5; simp only [World.size_alloc] at qx5a6)); (try (have rx5a6 := lt_heap hx5)); (try (have qx6a6 := lt_heap hh; simp only [World.size_alloc] at qx6a6)); (try (have rx6a6 := lt_heap hh)); (try (have qk5a6 := k5.lt; simp only [World.size_alloc] at qk5a6)); (try (have rk5a6 := k5.lt)); (try (have qk6a6 := k6.lt; simp only [World.size_alloc] at qk6a6)); (try (have rk6a6 := k6.lt)); replace hc := hc.alloc hc.size (.cells #[.slice none 0 0, .slice none 0 0, .slice none 0 0, .slice none 0 0] 27); (try replace hx5 := al_old hx5 (.cells #[.slice none 0 0, .slice none 0 0, .slice none 0 0, .slice none 0 0] 27)); (try replace k5 := k5.alloc (.cells #[.slice none 0 0, .slice none 0 0, .slice none 0 0, .slice none 0 0] 27)); (try replace k6 := k6.alloc (.cells #[.slice none 0 0, .slice none 0 0, .slice none 0 0, .slice none 0 0] 27))
          refine hK.out _ _ ?_ (fun hHeld => ?_)
          · (try dsimp only); exact (K3.out.next hc).bx.four
          clear hK K
          try simp only [Act.put, List.setIfInBounds_toArray, List.set_cons_zero, List.set_cons_succ]
          refine wpAnyH_ready (rs := [1, 4]) (by as_aux_lemma => kernel_rfl) (by simp) ?_
          refine hcons rfl (fun K hK => ?_) (hcons rfl (fun K hK => ?_) (AllReadyH.nil))
          go_simp
          (with_reducible refine (fixed32_any s false _ Hok.out ?_).mono ?_); (exact K3.out.st.next hc); rintro e w5 ⟨g5, c5, rfl, hg5, k5, hb5⟩; have hz5 := hc.size; (try simp only [World.size_alloc] at hz5 hg5); (try (have qx5c5 := lt_heap hx5; simp only [World.size_alloc] at qx5c5)); (try (have rx5c5 := lt_heap hx5)); (try (have qx6c5 := lt_heap hx6; simp only [World.size_alloc] at qx6c5)); (try (have rx6c5 := lt_heap hx6)); (try (have qk5c5 := kk.lt; simp only [World.size_alloc] at qk5c5)); (try (have rk5c5 := kk.lt)); (try (have qk6c5 := k6.lt; simp only [World.size_alloc] at qk6c5)); (try (have rk6c5 := k6.lt)); replace hc := hc.trans (hb5.mono hc.size); have hw5 := hb5.size; (try simp only [World.size_alloc] at hw5); (try replace hx5 := (hb5.block _ (lt_heap hx5)).trans hx5); (try replace hx6 := (hb5.block _ (lt_heap hx6)).trans hx6)
          refine hK.out _ _ ?_ (fun hHeld => ?_)
          · (try dsimp only); exact (K3.out.next hc).bx.four
          clear hK K
          try simp only [Act.put, List.setIfInBounds_toArray, List.set_cons_zero, List.set_cons_succ]
          refine wpAnyH_ready (rs := [3, 4]) (by as_aux_lemma => kernel_rfl) (by simp) ?_
          refine hcons rfl (fun K hK => ?_) (hcons rfl (fun K hK => ?_) (AllReadyH.nil))
          go_simp
          (with_reducible refine (fixed32_any s true _ Hok.out ?_).mono ?_); (exact K3.out.st.next hc); rintro e w6 ⟨g6, c6, rfl, hg6, k6, hb6⟩; have hz6 := hc.size; (try simp only [World.size_alloc] at hz6 hg6); (try (have qx5c6 := lt_heap hx5; simp only [World.size_alloc] at qx5c6)); (try (have rx5c6 := lt_heap hx5)); (try (have qx6c6 := lt_heap hx6; simp only [World.size_alloc] at qx6c6)); (try (have rx6c6 := lt_heap hx6)); (try (have qk5c6 := k5.lt; simp only [World.size_alloc] at qk5c6)); (try (have rk5c6 := k5.lt)); (try (have qk6c6 := kk.lt; simp only [World.size_alloc] at qk6c6)); (try (have rk6c6 := kk.lt)); replace hc := hc.trans (hb6.mono hc.size); have hw6 := hb6.size; (try simp only [World.size_alloc] at hw6); (try replace hx5 := (hb6.block _ (lt_heap hx5)).trans hx5); (try replace hx6 := (hb6.block _ (lt_heap hx6)).trans hx6); (try replace k5 := k5.next hb6)
          refine hK.out _ _ ?_ (fun hHeld => ?_)
          · (try dsimp only); exact (K3.out.next hc).bx.four
          clear hK K
          try simp only [Act.put, List.setIfInBounds_toArray, List.set_cons_zero, List.set_cons_succ]
          refine wpAnyH_ready (rs := [4]) (by as_aux_lemma => kernel_rfl) (by simp) ?_
          refine hcons rfl (fun K hK => ?_) (AllReadyH.nil)
          go_simp
          have hx5 := al_new hc (.cells #[.slice none 0 0, .slice none 0 0, .slice none 0 0, .slice none 0 0] 27); have hza5 := hc.size; (try simp only [World.size_alloc] at hx5 hza5); (try (have qx5a5 := lt_heap hh; simp only [World.size_alloc] at qx5a5)); (try (have rx5a5 := lt_heap hh)); (try (have qx6a5 := lt_heap hx6; simp only [World.size_alloc] at qx6a5)); (try (have rx6a5 := lt_heap hx6)); (try (have qk5a5 := k5.lt; simp only [World.size_alloc] at qk5a5)); (try (have rk5a5 := k5.lt)); (try (have qk6a5 := k6.lt; simp only [World.size_alloc] at qk6a5)); (try (have rk6a5 := k6.lt)); replace hc := hc.alloc hc.size (.cells #[.slice none 0 0, .slice none 0 0, .slice none 0 0, .slice none 0 0] 27); (try replace hx6 := al_old hx6 (.cells #[.slice none 0 0, .slice none 0 0, .slice none 0 0, .slice none 0 0] 27)); (try replace k5 := k5.alloc (.cells #[.slice none 0 0, .slice none 0 0, .slice none 0 0, .slice none 0 0] 27)); (try replace k6 := k6.alloc (.cells #[.slice none 0 0, .slice none 0 0, .slice none 0 0, .slice none 0 0] 27))
          refine hK.out _ _ ?_ (fun hHeld => ?_)
          · (try dsimp only); exact (K3.out.next hc).bx.four
          clear hK K
          try simp only [Act.put, List.setIfInBounds_toArray, List.set_cons_zero, List.set_cons_succ]
          refine wpAnyH_ready (rs := [6]) (by as_aux_lemma => kernel_rfl) (by simp) ?_
          refine hcons rfl (fun K hK => ?_) (AllReadyH.nil)
          refine step_store_row rfl 27 (.tmp 5) (.tmp 44) rfl _ _ rfl rfl 27 _ hx5 (by as_aux_lemma => kernel_rfl) rfl (by simp [Value.oneCell']) ?_
          refine hK.out _ _ ?_ (fun hHeld => ?_)
          · (try dsimp only); exact (K3.out.next (below_setRow hc (by omega) _)).bx.four
          clear hK K
          try simp only [Act.put]
          refine wpAnyH_ready (rs := [7]) (by as_aux_lemma => kernel_rfl) (by simp) ?_
          refine hcons rfl (fun K hK => ?_) (AllReadyH.nil)
          refine step_store_row rfl 27 (.tmp 6) (.tmp 46) rfl _ _ rfl rfl 27 _ ((setRow_other _ _ _ _ (by omega)).trans hx6) (by as_aux_lemma => kernel_rfl) rfl (by simp [Value.oneCell']) ?_
          refine hK.out _ _ ?_ (fun hHeld => ?_)
          · (try dsimp only); exact (K3.out.next (below_setRow (below_setRow hc (by omega) _) (by omega) _)).bx.four
          clear hK K
          try simp only [Act.put]
          refine wpAnyH_done (by as_aux_lemma => kernel_rfl) ?_ _
          refine NoPanic.normal ?_
          rotate_left
          go_simp
          have hx5 := al_new hc (.cells #[.slice none 0 0, .slice none 0 0, .slice none 0 0, .slice none 0 0] 27); have hza5 := hc.size; (try simp only [World.size_alloc] at hx5 hza5); (try (have qx5a5 := lt_heap hh; simp only [World.size_alloc] at qx5a5)); (try (have rx5a5 := lt_heap hh)); (try (have qx6a5 := lt_heap hx6; simp only [World.size_alloc] at qx6a5)); (try (have rx6a5 := lt_heap hx6)); (try (have qk5a5 := k5.lt; simp only [World.size_alloc] at qk5a5)); (try (have rk5a5 := k5.lt)); (try (have qk6a5 := k6.lt; simp only [World.size_alloc] at qk6a5)); (try (have rk6a5 := k6.lt)); replace hc := hc.alloc hc.size (.cells #[.slice none 0 0, .slice none 0 0, .slice none 0 0, .slice none 0 0] 27); (try replace hx6 := al_old hx6 (.cells #[.slice none 0 0, .slice none 0 0, .slice none 0 0, .slice none 0 0] 27)); (try replace k5 := k5.alloc (.cells #[.slice none 0 0, .slice none 0 0, .slice none 0 0, .slice none 0 0] 27)); (try replace k6 := k6.alloc (.cells #[.slice none 0 0, .slice none 0 0, .slice none 0 0, .slice none 0 0] 27))
          refine hK.out _ _ ?_ (fun hHeld => ?_)
          · (try dsimp only); exact (K3.out.next hc).bx.four
          clear hK K
          try simp only [Act.put, List.setIfInBounds_toArray, List.set_cons_zero, List.set_cons_succ]
          refine wpAnyH_ready (rs := [3]) (by as_aux_lemma => kernel_rfl) (by simp) ?_
          refine hcons rfl (fun K hK => ?_) (AllReadyH.nil)
          go_simp
          (with_reducible refine (fixed32_any s true _ Hok.out ?_).mono ?_); (exact K3.out.st.next hc); rintro e w6 ⟨g6, c6, rfl, hg6, k6, hb6⟩; have hz6 := hc.size; (try simp only [World.size_alloc] at hz6 hg6); (try (have qx5c6 := lt_heap hx5; simp only [World.size_alloc] at qx5c6)); (try (have rx5c6 := lt_heap hx5)); (try (have qx6c6 := lt_heap hx6; simp only [World.size_alloc] at qx6c6)); (try (have rx6c6 := lt_heap hx6)); (try (have qk5c6 := k5.lt; simp only [World.size_alloc] at qk5c6)); (try (have rk5c6 := k5.lt)); (try (have qk6c6 := kk.lt; simp only [World.size_alloc] at qk6c6)); (try (have rk6c6 := kk.lt)); replace hc := hc.trans (hb6.mono hc.size); have hw6 := hb6.size; (try simp only [World.size_alloc] at hw6); (try replace hx5 := (hb6.block _ (lt_heap hx5)).trans hx5); (try replace hx6 := (hb6.block _ (lt_heap hx6)).trans hx6); (try replace k5 := k5.next hb6)
          refine hK.out _ _ ?_ (fun hHeld => ?_)
          · (try dsimp only); exact (K3.out.next hc).bx.four
          clear hK K
          try simp only [Act.put, List.setIfInBounds_toArray, List.set_cons_zero, List.set_cons_succ]
          refine wpAnyH_ready (rs := [6]) (by as_aux_lemma => kernel_rfl) (by simp) ?_
          refine hcons rfl (fun K hK => ?_) (AllReadyH.nil)
          refine step_store_row rfl 27 (.tmp 5) (.tmp 44) rfl _ _ rfl rfl 27 _ hx5 (by as_aux_lemma => kernel_rfl) rfl (by simp [Value.oneCell']) ?_
          refine hK.out _ _ ?_ (fun hHeld => ?_)
          · (try dsimp only); exact (K3.out.next (below_setRow hc (by omega) _)).bx.four
          clear hK K
          try simp only [Act.put]
          refine wpAnyH_ready (rs := [7]) (by as_aux_lemma => kernel_rfl) (by simp) ?_
          refine hcons rfl (fun K hK => ?_) (AllReadyH.nil)
          refine step_store_row rfl 27 (.tmp 6) (.tmp 46) rfl _ _ rfl rfl 27 _ ((setRow_other _ _ _ _ (by omega)).trans hx6) (by as_aux_lemma => kernel_rfl) rfl (by simp [Value.oneCell']) ?_
          refine hK.out _ _ ?_ (fun hHeld => ?_)
          · (try dsimp only); exact (K3.out.next (below_setRow (below_setRow hc (by omega) _) (by omega) _)).bx.four
          clear hK K
          try simp only [Act.put]
          refine wpAnyH_done (by as_aux_lemma => kernel_rfl) ?_ _
          refine NoPanic.normal ?_
          rotate_left
          go_simp
          have hx5 := al_new hc (.cells #[.slice none 0 0, .slice none 0 0, .slice none 0 0, .slice none 0 0] 27); have hza5 := hc.size; (try simp only [World.size_alloc] at hx5 hza5); (try (have qx5a5 := lt_heap hh; simp only [World.size_alloc] at qx5a5)); (try (have rx5a5 := lt_heap hh)); (try (have qx6a5 := lt_heap hx6; simp only [World.size_alloc] at qx6a5)); (try (have rx6a5 := lt_heap hx6)); (try (have qk5a5 := k5.lt; simp only [World.size_alloc] at qk5a5)); (try (have rk5a5 := k5.lt)); (try (have qk6a5 := k6.lt; simp only [World.size_alloc] at qk6a5)); (try (have rk6a5 := k6.lt)); replace hc := hc.alloc hc.size (.cells #[.slice none 0 0, .slice none 0 0, .slice none 0 0, .slice none 0 0] 27); (try replace hx6 := al_old hx6 (.cells #[.slice none 0 0, .slice none 0 0, .slice none 0 0, .slice none 0 0] 27)); (try replace k5 := k5.alloc (.cells #[.slice none 0 0, .slice none 0 0, .slice none 0 0, .slice none 0 0] 27)); (try replace k6 := k6.alloc (.cells #[.slice none 0 0, .slice none 0 0, .slice none 0 0, .slice none 0 0] 27))
          refine hK.out _ _ ?_ (fun hHeld => ?_)
          · (try dsimp only); exact (K3.out.next hc).bx.four
          clear hK K
          try simp only [Act.put, List.setIfInBounds_toArray, List.set_cons_zero, List.set_cons_succ]
          refine wpAnyH_ready (rs := [1]) (by as_aux_lemma => kernel_rfl) (by simp) ?_
          refine hcons rfl (fun K hK => ?_) (AllReadyH.nil)
          go_simp
          (with_reducible refine (fixed32_any s false _ Hok.out ?_).mono ?_); (exact K3.out.st.next hc); rintro e w5 ⟨g5, c5, rfl, hg5, k5, hb5⟩; have hz5 := hc.size; (try simp only [World.size_alloc] at hz5 hg5); (try (have qx5c5 := lt_heap hx5; simp only [World.size_alloc] at qx5c5)); (try (have rx5c5 := lt_heap hx5)); (try (have qx6c5 := lt_heap hx6; simp only [World.size_alloc] at qx6c5)); (try (have rx6c5 := lt_heap hx6)); (try (have qk5c5 := kk.lt; simp only [World.size_alloc] at qk5c5)); (try (have rk5c5 := kk.lt)); (try (have qk6c5 := k6.lt; simp only [World.size_alloc] at qk6c5)); (try (have rk6c5 := k6.lt)); replace hc := hc.trans (hb5.mono hc.size); have hw5 := hb5.size; (try simp only [World.size_alloc] at hw5); (try replace hx5 := (hb5.block _ (lt_heap hx5)).trans hx5); (try replace hx6 := (hb5.block _ (lt_heap hx6)).trans hx6)
          refine hK.out _ _ ?_ (fun hHeld => ?_)
          · (try dsimp only); exact (K3.out.next hc).bx.four
          clear hK K
          try simp only [Act.put, List.setIfInBounds_toArray, List.set_cons_zero, List.set_cons_succ]
          refine wpAnyH_ready (rs := [3]) (by as_aux_lemma => kernel_rfl) (by simp) ?_
          refine hcons rfl (fun K hK => ?_) (AllReadyH.nil)
          go_simp
          (with_reducible refine (fixed32_any s true _ Hok.out ?_).mono ?_); (exact K3.out.st.next hc); rintro e w6 ⟨g6, c6, rfl, hg6, k6, hb6⟩; have hz6 := hc.size; (try simp only [World.size_alloc] at hz6 hg6); (try (have qx5c6 := lt_heap hx5; simp only [World.size_alloc] at qx5c6)); (try (have rx5c6 := lt_heap hx5)); (try (have qx6c6 := lt_heap hx6; simp only [World.size_alloc] at qx6c6)); (try (have rx6c6 := lt_heap hx6)); (try (have qk5c6 := k5.lt; simp only [World.size_alloc] at qk5c6)); (try (have rk5c6 := k5.lt)); (try (have qk6c6 := kk.lt; simp only [World.size_alloc] at qk6c6)); (try (have rk6c6 := kk.lt)); replace hc := hc.trans (hb6.mono hc.size); have hw6 := hb6.size; (try simp only [World.size_alloc] at hw6); (try replace hx5 := (hb6.block _ (lt_heap hx5)).trans hx5); (try replace hx6 := (hb6.block _ (lt_heap hx6)).trans hx6); (try replace k5 := k5.next hb6)
          refine hK.out _ _ ?_ (fun hHeld => ?_)
          · (try dsimp only); exact (K3.out.next hc).bx.four
          clear hK K
          try simp only [Act.put, List.setIfInBounds_toArray, List.set_cons_zero, List.set_cons_succ]
          refine wpAnyH_ready (rs := [6]) (by as_aux_lemma => kernel_rfl) (by simp) ?_
          refine hcons rfl (fun K hK => ?_) (AllReadyH.nil)
          refine step_store_row rfl 27 (.tmp 5) (.tmp 44) rfl _ _ rfl rfl 27 _ hx5 (by as_aux_lemma => kernel_rfl) rfl (by simp [Value.oneCell']) ?_
          refine hK.out _ _ ?_ (fun hHeld => ?_)
          · (try dsimp only); exact (K3.out.next (below_setRow hc (by omega) _)).bx.four
          clear hK K
          try simp only [Act.put]
          refine wpAnyH_ready (rs := [7]) (by as_aux_lemma => kernel_rfl) (by simp) ?_
          refine hcons rfl (fun K hK => ?_) (AllReadyH.nil)
          refine step_store_row rfl 27 (.tmp 6) (.tmp 46) rfl _ _ rfl rfl 27 _ ((setRow_other _ _ _ _ (by omega)).trans hx6) (by as_aux_lemma => kernel_rfl) rfl (by simp [Value.oneCell']) ?_
          refine hK.out _ _ ?_ (fun hHeld => ?_)
          · (try dsimp only); exact (K3.out.next (below_setRow (below_setRow hc (by omega) _) (by omega) _)).bx.four
          clear hK K
          try simp only [Act.put]
          refine wpAnyH_done (by as_aux_lemma => kernel_rfl) ?_ _
          refine NoPanic.normal ?_
          iterate 9 (try clear hHeld)
          all_goals
            clear p0 p1 p2 p3
            go_wp2_with fail
            go_meet
            try simp only [World.size_alloc, sz_drew] at *
            exact ends_leaf K3.out.st hc hx5 hx6 k5 k6 (by omega) (by omega) (by omega) (by omega) (by omega) (by omega) (by omega)
      case rest =>
        obtain ⟨b5, b6, t, u, rfl, rfl, ht, hu, x5, x6, st5, st6, hb⟩ := hcut
        have K4 := Lib.hid (show EW s t u w.heap.size b5 b6 wc from ⟨K3.out.next hb, x5, x6, st5, st6⟩)
        have B4 := Lib.hid (B3.out.trans (hb.mono B3.out.size))
        have HT := Lib.hid ht
        have HU := Lib.hid hu
        obtain ⟨xp, yp, hxy⟩ : ∃ x y, profitS s st = (x, y) := ⟨_, _, rfl⟩
        have EPt := Lib.hid (show profitS t st = (xp, xp) by rw [ht.profitLo Hok.out st, hxy])
        have EPu := Lib.hid (show profitS u st = (yp, yp) by rw [hu.profitHi Hok.out st, hxy])
        have EP := Lib.hid hxy
        have HS := Lib.hid (ht.surely Hok.out st)
        have HC := Lib.hid (hu.can Hok.out st)
        obtain ⟨av, hav⟩ : ∃ av, av = acceptedS s st := ⟨_, rfl⟩
        have HAV := Lib.hid hav
        obtain ⟨nl, hnl⟩ : ∃ nl, nl = lenIf av s.sheets.length := ⟨_, rfl⟩
        have HNL := Lib.hid hnl
        obtain ⟨sv, hsv⟩ : ∃ sv, sv = surelyS s st := ⟨_, rfl⟩
        have HSV := Lib.hid hsv
        obtain ⟨cv, hcv⟩ : ∃ cv, cv = canS s st := ⟨_, rfl⟩
        have HCV := Lib.hid hcv
        clear hb K3 B3 ht hu x5 x6 st5 st6 hxy hav hnl hsv hcv p0 p1 p2 p3
        generalize wc = V4 at *
        obtain ⟨-, p0, p1, p2, p3⟩ := id K4.out.aw.bx
        obtain ⟨-, q0, q1, q2, q3⟩ := id K4.out.x5
        obtain ⟨-, r0, r1, r2, r3⟩ := id K4.out.x6
        go_wp2_with fail
        refine ((show Calls Tryd.prog 19 #[.agg #[.slice s.A1 s.sheets.length s.c1, .slice s.A2 s.lics.length s.c2, .slice s.A3 s.makes.length s.c3, .slice s.A4 s.wishes.length s.c4], .int .i64 st] V4 (RetL2 nl (lacksS s st.toNat) av V4) from by have := Lacks19_any s st V4 K4.out.aw.st K4.out.aw.en; rw [← HAV.out, ← HNL.out] at this; exact this)).mono ?_
        rintro e V5 ⟨Al, cl, rfl, hA, hb⟩
        have K5 := Lib.hid (K4.out.next hb)
        have B5 := Lib.hid (B4.out.trans (hb.mono B4.out.size))
        have Tl5 := Lib.hid hA
        clear hb K4 B4 hA p0 p1 p2 p3 q0 q1 q2 q3 r0 r1 r2 r3
        obtain ⟨-, p0, p1, p2, p3⟩ := id K5.out.aw.bx
        obtain ⟨-, q0, q1, q2, q3⟩ := id K5.out.x5
        obtain ⟨-, r0, r1, r2, r3⟩ := id K5.out.x6
        go_wp2_with fail
        refine ((show Calls Tryd.prog 19 #[.agg #[.slice t.A1 t.sheets.length t.c1, .slice t.A2 t.lics.length t.c2, .slice t.A3 t.makes.length t.c3, .slice t.A4 t.wishes.length t.c4], .int .i64 st] V5 (RetL2 nl (lacksS t st.toNat) av V5) from by have := lacks_eq HT.out Hok.out st V5 K5.out.s5 K5.out.aw.en; rw [← HAV.out, ← HNL.out] at this; exact this)).mono ?_
        rintro e V6 ⟨Aa, ca, rfl, hA, hb⟩
        have K6 := Lib.hid (K5.out.next hb)
        have B6 := Lib.hid (B5.out.trans (hb.mono B5.out.size))
        have Tl6 := Lib.hid (Tl5.out.nextB hb)
        have Ta6 := Lib.hid hA
        clear hb K5 B5 Tl5 hA p0 p1 p2 p3 q0 q1 q2 q3 r0 r1 r2 r3
        obtain ⟨-, p0, p1, p2, p3⟩ := id K6.out.aw.bx
        obtain ⟨-, q0, q1, q2, q3⟩ := id K6.out.x5
        obtain ⟨-, r0, r1, r2, r3⟩ := id K6.out.x6
        go_wp2_with fail
        refine ((show Calls Tryd.prog 19 #[.agg #[.slice u.A1 u.sheets.length u.c1, .slice u.A2 u.lics.length u.c2, .slice u.A3 u.makes.length u.c3, .slice u.A4 u.wishes.length u.c4], .int .i64 st] V6 (RetL2 nl (lacksS u st.toNat) av V6) from by have := lacks_eq HU.out Hok.out st V6 K6.out.s6 K6.out.aw.en; rw [← HAV.out, ← HNL.out] at this; exact this)).mono ?_
        rintro e V7 ⟨Ab, cb, rfl, hA, hb⟩
        have K7 := Lib.hid (K6.out.next hb)
        have B7 := Lib.hid (B6.out.trans (hb.mono B6.out.size))
        have Tl7 := Lib.hid (Tl6.out.nextB hb)
        have Ta7 := Lib.hid (Ta6.out.nextB hb)
        have Tb7 := Lib.hid hA
        clear hb K6 B6 Tl6 Ta6 hA p0 p1 p2 p3 q0 q1 q2 q3 r0 r1 r2 r3
        obtain ⟨-, p0, p1, p2, p3⟩ := id K7.out.aw.bx
        obtain ⟨-, q0, q1, q2, q3⟩ := id K7.out.x5
        obtain ⟨-, r0, r1, r2, r3⟩ := id K7.out.x6
        go_wp2_with fail
        refine ((show Calls Tryd.prog 23 #[.agg #[.slice s.A1 s.sheets.length s.c1, .slice s.A2 s.lics.length s.c2, .slice s.A3 s.makes.length s.c3, .slice s.A4 s.wishes.length s.c4], .int .i64 st] V7 (RetP (xp, yp) av V7) from by have := Profit23_any s st V7 K7.out.aw.st K7.out.aw.en; rw [← HAV.out, EP.out] at this; exact this)).mono ?_
        rintro e V8 ⟨rfl, hb⟩
        dsimp only
        replace hb := hb.alloc hb.size (.cells #[.int .i64 xp, .int .i64 yp] 44)
        have Pp8 := Lib.hid (IBlk.span V8 xp yp 44)
        have K8 := Lib.hid (K7.out.next hb)
        have B8 := Lib.hid (B7.out.trans (hb.mono B7.out.size))
        have Tl8 := Lib.hid (Tl7.out.nextB hb)
        have Ta8 := Lib.hid (Ta7.out.nextB hb)
        have Tb8 := Lib.hid (Tb7.out.nextB hb)
        clear hb K7 B7 Tl7 Ta7 Tb7 p0 p1 p2 p3 q0 q1 q2 q3 r0 r1 r2 r3
        obtain ⟨-, p0, p1, p2, p3⟩ := id K8.out.aw.bx
        obtain ⟨-, q0, q1, q2, q3⟩ := id K8.out.x5
        obtain ⟨-, r0, r1, r2, r3⟩ := id K8.out.x6
        go_wp2_with fail
        generalize (V8.alloc (.cells #[.int .i64 xp, .int .i64 yp] 44)) = W8 at *
        generalize V8.heap.size = gp at *
        skip
        refine ((show Calls Tryd.prog 23 #[.agg #[.slice t.A1 t.sheets.length t.c1, .slice t.A2 t.lics.length t.c2, .slice t.A3 t.makes.length t.c3, .slice t.A4 t.wishes.length t.c4], .int .i64 st] W8 (RetP (xp, xp) av W8) from by have := profit_eq HT.out Hok.out st W8 K8.out.s5 K8.out.aw.en EPt.out; rw [← HAV.out] at this; exact this)).mono ?_
        rintro e V9 ⟨rfl, hb⟩
        dsimp only
        replace hb := hb.alloc hb.size (.cells #[.int .i64 xp, .int .i64 xp] 44)
        have Pq9 := Lib.hid (IBlk.span V9 xp xp 44)
        have K9 := Lib.hid (K8.out.next hb)
        have B9 := Lib.hid (B8.out.trans (hb.mono B8.out.size))
        have Tl9 := Lib.hid (Tl8.out.nextB hb)
        have Ta9 := Lib.hid (Ta8.out.nextB hb)
        have Tb9 := Lib.hid (Tb8.out.nextB hb)
        have Pp9 := Lib.hid (Pp8.out.next hb)
        clear hb K8 B8 Tl8 Ta8 Tb8 Pp8 p0 p1 p2 p3 q0 q1 q2 q3 r0 r1 r2 r3
        obtain ⟨-, p0, p1, p2, p3⟩ := id K9.out.aw.bx
        obtain ⟨-, q0, q1, q2, q3⟩ := id K9.out.x5
        obtain ⟨-, r0, r1, r2, r3⟩ := id K9.out.x6
        go_wp2_with fail
        generalize (V9.alloc (.cells #[.int .i64 xp, .int .i64 xp] 44)) = W9 at *
        generalize V9.heap.size = gq at *
        skip
        refine ((show Calls Tryd.prog 23 #[.agg #[.slice u.A1 u.sheets.length u.c1, .slice u.A2 u.lics.length u.c2, .slice u.A3 u.makes.length u.c3, .slice u.A4 u.wishes.length u.c4], .int .i64 st] W9 (RetP (yp, yp) av W9) from by have := profit_eq HU.out Hok.out st W9 K9.out.s6 K9.out.aw.en EPu.out; rw [← HAV.out] at this; exact this)).mono ?_
        rintro e V10 ⟨rfl, hb⟩
        dsimp only
        replace hb := hb.alloc hb.size (.cells #[.int .i64 yp, .int .i64 yp] 44)
        have Pr10 := Lib.hid (IBlk.span V10 yp yp 44)
        have K10 := Lib.hid (K9.out.next hb)
        have B10 := Lib.hid (B9.out.trans (hb.mono B9.out.size))
        have Tl10 := Lib.hid (Tl9.out.nextB hb)
        have Ta10 := Lib.hid (Ta9.out.nextB hb)
        have Tb10 := Lib.hid (Tb9.out.nextB hb)
        have Pp10 := Lib.hid (Pp9.out.next hb)
        have Pq10 := Lib.hid (Pq9.out.next hb)
        clear hb K9 B9 Tl9 Ta9 Tb9 Pp9 Pq9 p0 p1 p2 p3 q0 q1 q2 q3 r0 r1 r2 r3
        obtain ⟨-, p0, p1, p2, p3⟩ := id K10.out.aw.bx
        obtain ⟨-, q0, q1, q2, q3⟩ := id K10.out.x5
        obtain ⟨-, r0, r1, r2, r3⟩ := id K10.out.x6
        go_wp2_with fail
        generalize (V10.alloc (.cells #[.int .i64 yp, .int .i64 yp] 44)) = W10 at *
        generalize V10.heap.size = gr at *
        skip
        refine ((show Calls Tryd.prog 21 #[.agg #[.slice s.A1 s.sheets.length s.c1, .slice s.A2 s.lics.length s.c2, .slice s.A3 s.makes.length s.c3, .slice s.A4 s.wishes.length s.c4], .int .i64 st] W10 (Ret3 (.bool sv) (.bool cv) (.int .i64 av) W10) from by have := Covered21_any s st W10 K10.out.aw.st K10.out.aw.en; rw [← HAV.out, ← HSV.out, ← HCV.out] at this; exact this)).mono ?_
        rintro e V11 ⟨rfl, hb⟩
        have K11 := Lib.hid (K10.out.next hb)
        have B11 := Lib.hid (B10.out.trans (hb.mono B10.out.size))
        have Tl11 := Lib.hid (Tl10.out.nextB hb)
        have Ta11 := Lib.hid (Ta10.out.nextB hb)
        have Tb11 := Lib.hid (Tb10.out.nextB hb)
        have Pp11 := Lib.hid (Pp10.out.next hb)
        have Pq11 := Lib.hid (Pq10.out.next hb)
        have Pr11 := Lib.hid (Pr10.out.next hb)
        clear hb K10 B10 Tl10 Ta10 Tb10 Pp10 Pq10 Pr10 p0 p1 p2 p3 q0 q1 q2 q3 r0 r1 r2 r3
        obtain ⟨-, p0, p1, p2, p3⟩ := id K11.out.aw.bx
        obtain ⟨-, q0, q1, q2, q3⟩ := id K11.out.x5
        obtain ⟨-, r0, r1, r2, r3⟩ := id K11.out.x6
        go_wp2_with fail
        obtain ⟨ct, hct⟩ := covered_eq HT.out Hok.out st V11 K11.out.s5 K11.out.aw.en (HS.out.trans HSV.out.symm)
        rw [← HAV.out] at hct
        refine (hct).mono ?_
        rintro e V12 ⟨rfl, hb⟩
        have K12 := Lib.hid (K11.out.next hb)
        have B12 := Lib.hid (B11.out.trans (hb.mono B11.out.size))
        have Tl12 := Lib.hid (Tl11.out.nextB hb)
        have Ta12 := Lib.hid (Ta11.out.nextB hb)
        have Tb12 := Lib.hid (Tb11.out.nextB hb)
        have Pp12 := Lib.hid (Pp11.out.next hb)
        have Pq12 := Lib.hid (Pq11.out.next hb)
        have Pr12 := Lib.hid (Pr11.out.next hb)
        clear hb K11 B11 Tl11 Ta11 Tb11 Pp11 Pq11 Pr11 p0 p1 p2 p3 q0 q1 q2 q3 r0 r1 r2 r3
        obtain ⟨-, p0, p1, p2, p3⟩ := id K12.out.aw.bx
        obtain ⟨-, q0, q1, q2, q3⟩ := id K12.out.x5
        obtain ⟨-, r0, r1, r2, r3⟩ := id K12.out.x6
        go_wp2_with fail
        clear hct
        obtain ⟨cu, hcu⟩ := covered_eq HU.out Hok.out st V12 K12.out.s6 K12.out.aw.en (HC.out.trans HCV.out.symm)
        rw [← HAV.out] at hcu
        refine (hcu).mono ?_
        rintro e V13 ⟨rfl, hb⟩
        have K13 := Lib.hid (K12.out.next hb)
        have B13 := Lib.hid (B12.out.trans (hb.mono B12.out.size))
        have Tl13 := Lib.hid (Tl12.out.nextB hb)
        have Ta13 := Lib.hid (Ta12.out.nextB hb)
        have Tb13 := Lib.hid (Tb12.out.nextB hb)
        have Pp13 := Lib.hid (Pp12.out.next hb)
        have Pq13 := Lib.hid (Pq12.out.next hb)
        have Pr13 := Lib.hid (Pr12.out.next hb)
        clear hb K12 B12 Tl12 Ta12 Tb12 Pp12 Pq12 Pr12 p0 p1 p2 p3 q0 q1 q2 q3 r0 r1 r2 r3
        obtain ⟨-, p0, p1, p2, p3⟩ := id K13.out.aw.bx
        obtain ⟨-, q0, q1, q2, q3⟩ := id K13.out.x5
        obtain ⟨-, r0, r1, r2, r3⟩ := id K13.out.x6
        go_wp2_with fail
        clear hcu
        refine ((show Calls Tryd.prog 26 #[.agg #[.slice s.A1 s.sheets.length s.c1, .slice s.A2 s.lics.length s.c2, .slice s.A3 s.makes.length s.c3, .slice s.A4 s.wishes.length s.c4]] V13 (Ret3 (.int .i64 (acSet s)) (.int .i64 (acGain s)) (.int .i64 0) V13) from by have := Accept26_any s V13 K13.out.aw.st; rw [show acS s = 0 from if_pos ((ok_iff s).2 Hok.out)] at this; exact this)).mono ?_
        rintro e V14 ⟨rfl, hb⟩
        have K14 := Lib.hid (K13.out.next hb)
        have B14 := Lib.hid (B13.out.trans (hb.mono B13.out.size))
        have Tl14 := Lib.hid (Tl13.out.nextB hb)
        have Ta14 := Lib.hid (Ta13.out.nextB hb)
        have Tb14 := Lib.hid (Tb13.out.nextB hb)
        have Pp14 := Lib.hid (Pp13.out.next hb)
        have Pq14 := Lib.hid (Pq13.out.next hb)
        have Pr14 := Lib.hid (Pr13.out.next hb)
        clear hb K13 B13 Tl13 Ta13 Tb13 Pp13 Pq13 Pr13 p0 p1 p2 p3 q0 q1 q2 q3 r0 r1 r2 r3
        obtain ⟨-, p0, p1, p2, p3⟩ := id K14.out.aw.bx
        obtain ⟨-, q0, q1, q2, q3⟩ := id K14.out.x5
        obtain ⟨-, r0, r1, r2, r3⟩ := id K14.out.x6
        go_wp2_with fail
        refine (accept_eq HT.out Hok.out V14 K14.out.s5).mono ?_
        rintro e V15 ⟨rfl, hb⟩
        have K15 := Lib.hid (K14.out.next hb)
        have B15 := Lib.hid (B14.out.trans (hb.mono B14.out.size))
        have Tl15 := Lib.hid (Tl14.out.nextB hb)
        have Ta15 := Lib.hid (Ta14.out.nextB hb)
        have Tb15 := Lib.hid (Tb14.out.nextB hb)
        have Pp15 := Lib.hid (Pp14.out.next hb)
        have Pq15 := Lib.hid (Pq14.out.next hb)
        have Pr15 := Lib.hid (Pr14.out.next hb)
        clear hb K14 B14 Tl14 Ta14 Tb14 Pp14 Pq14 Pr14 p0 p1 p2 p3 q0 q1 q2 q3 r0 r1 r2 r3
        obtain ⟨-, p0, p1, p2, p3⟩ := id K15.out.aw.bx
        obtain ⟨-, q0, q1, q2, q3⟩ := id K15.out.x5
        obtain ⟨-, r0, r1, r2, r3⟩ := id K15.out.x6
        obtain ⟨pp0, pp1⟩ := IBlk2.cells Pp15.out
        obtain ⟨pq0, pq1⟩ := IBlk2.cells Pq15.out
        obtain ⟨pr0, pr1⟩ := IBlk2.cells Pr15.out
        by_cases ha : av = 0
        · as_aux_lemma =>
          subst ha
          have hnl : nl = s.sheets.length := HNL.out
          subst hnl
          have hn1 := Hok.out.ns
          obtain ⟨bl, ol, rfl, hl, xl⟩ := at_span Tl15.out hn1.1
          obtain ⟨ba, oa, rfl, hla, xa⟩ := at_span Ta15.out hn1.1
          obtain ⟨bb, ob, rfl, hlb, xb⟩ := at_span Tb15.out hn1.1
          have Xl := Lib.hid xl
          have Xa := Lib.hid xa
          have Xb := Lib.hid xb
          clear xl xa xb
          go_wp2_with fail
          clear p0 p1 p2 p3 q0 q1 q2 q3 r0 r1 r2 r3 pp0 pp1 pq0 pq1 pr0 pr1
          go_loopw [34] (fun i wr => R7E s V15 i wr) (fun i _ => s.sheets.length - (intOf i).toNat)
          case atStart => exact ⟨0, by omega, rfl, Below.refl _ _⟩
          case round =>
            obtain ⟨k, hk, rfl, hb⟩ := hrel
            have hz := hb.size
            by_cases hlt : k < s.sheets.length
            · as_aux_lemma =>
              obtain ⟨xl0, xl1⟩ := Xl.out k hlt
              obtain ⟨xa0, xa1⟩ := Xa.out k hlt
              obtain ⟨xb0, xb1⟩ := Xb.out k hlt
              rw [HT.out.lacksLo st.toNat k] at xa0 xa1
              rw [HU.out.lacksHi st.toNat k] at xb0 xb1
              dsimp only at xa0 xa1 xb0 xb1
              generalize (lacksS s st.toNat k).1 = X at xl0 xl1 xa0 xa1 xb0 xb1
              generalize (lacksS s st.toNat k).2 = Y at xl0 xl1 xa0 xa1 xb0 xb1
              have HS3 := Lib.hid (show ∀ W, Below wr.heap.size wr W → (W.cell? ⟨ba, oa + k * 2, none⟩ = some (.int .i64 Y) ∧ W.cell? ⟨ba, oa + k * 2 + 1, none⟩ = some (.int .i64 Y) ∧ W.cell? ⟨bb, ob + k * 2, none⟩ = some (.int .i64 X) ∧ W.cell? ⟨bb, ob + k * 2 + 1, none⟩ = some (.int .i64 X) ∧ W.cell? ⟨bl, ol + k * 2, none⟩ = some (.int .i64 X) ∧ W.cell? ⟨bl, ol + k * 2 + 1, none⟩ = some (.int .i64 Y)) from fun W h =>
                ⟨((bcell h).1 _ _ (by omega)).trans (((bcell hb).1 _ _ hla).trans xa0), ((bcell h).1 _ _ (by omega)).trans (((bcell hb).1 _ _ hla).trans xa1), ((bcell h).1 _ _ (by omega)).trans (((bcell hb).1 _ _ hlb).trans xb0), ((bcell h).1 _ _ (by omega)).trans (((bcell hb).1 _ _ hlb).trans xb1), ((bcell h).1 _ _ (by omega)).trans (((bcell hb).1 _ _ hl).trans xl0), ((bcell h).1 _ _ (by omega)).trans (((bcell hb).1 _ _ hl).trans xl1)⟩)
              have hq : ∀ W, (binOp .neq 44 (.agg #[.int .i64 X, .int .i64 Y]) (.agg #[.int .i64 X, .int .i64 Y])).run Tryd.prog W = .ok (.bool false) W := fun W => by rw [span_neq]; simp
              have Hb := Lib.hid hb
              clear xl0 xl1 xa0 xa1 xb0 xb1 hb
              go_wp2_with fail
              refine wp_region_noPanic ?_
              refine wp_region_held_drew (S := (fun W => W.cell? ⟨ba, oa + k * 2, none⟩ = some (.int .i64 Y) ∧ W.cell? ⟨ba, oa + k * 2 + 1, none⟩ = some (.int .i64 Y) ∧ W.cell? ⟨bb, ob + k * 2, none⟩ = some (.int .i64 X) ∧ W.cell? ⟨bb, ob + k * 2 + 1, none⟩ = some (.int .i64 X) ∧ W.cell? ⟨bl, ol + k * 2, none⟩ = some (.int .i64 X) ∧ W.cell? ⟨bl, ol + k * 2 + 1, none⟩ = some (.int .i64 Y))) (by as_aux_lemma => kernel_rfl) ?_ (fun hHeld => ?_)
              · (try dsimp only); exact HS3.out _ (Below.refl _ _).drew
              refine htake (i := 0) (v := ?v3) rfl (by as_aux_lemma => kernel_rfl) (by as_aux_lemma => kernel_rfl) (by as_aux_lemma => kernel_rfl) (fun _ _ _ h => h) (Or.inl ⟨by rfl, ?hy3⟩) (by assumption) ?_
              case hy3 => (intro w hSw; (try dsimp only at hSw); go_simp; try (with_reducible rfl))
              try simp only [Act.put, List.setIfInBounds_toArray, List.set_cons_zero, List.set_cons_succ]
              refine htake (i := 1) (v := ?v4) rfl (by as_aux_lemma => kernel_rfl) (by as_aux_lemma => kernel_rfl) (by as_aux_lemma => kernel_rfl) (fun _ _ _ h => h) (Or.inl ⟨by rfl, ?hy4⟩) (by assumption) ?_
              case hy4 => (intro w hSw; (try dsimp only at hSw); go_simp; try (with_reducible rfl))
              try simp only [Act.put, List.setIfInBounds_toArray, List.set_cons_zero, List.set_cons_succ]
              refine htake (i := 2) (v := ?v5) rfl (by as_aux_lemma => kernel_rfl) (by as_aux_lemma => kernel_rfl) (by as_aux_lemma => kernel_rfl) (fun _ _ _ h => h) (Or.inl ⟨by rfl, ?hy5⟩) (by assumption) ?_
              case hy5 => (intro w hSw; (try dsimp only at hSw); go_simp; try (with_reducible rfl))
              try simp only [Act.put, List.setIfInBounds_toArray, List.set_cons_zero, List.set_cons_succ]
              refine htake (i := 3) (v := ?v6) rfl (by as_aux_lemma => kernel_rfl) (by as_aux_lemma => kernel_rfl) (by as_aux_lemma => kernel_rfl) (fun _ _ _ h => h) (Or.inl ⟨by rfl, ?hy6⟩) (by assumption) ?_
              case hy6 => (intro w hSw; (try dsimp only at hSw); go_simp; try (with_reducible rfl))
              try simp only [Act.put, List.setIfInBounds_toArray, List.set_cons_zero, List.set_cons_succ]
              refine htake (i := 4) (v := ?v7) rfl (by as_aux_lemma => kernel_rfl) (by as_aux_lemma => kernel_rfl) (by as_aux_lemma => kernel_rfl) (fun _ _ _ h => h) (Or.inl ⟨by rfl, ?hy7⟩) (by assumption) ?_
              case hy7 => (intro w hSw; (try dsimp only at hSw); go_simp; try (with_reducible rfl))
              try simp only [Act.put, List.setIfInBounds_toArray, List.set_cons_zero, List.set_cons_succ]
              refine htake (i := 5) (v := ?v8) rfl (by as_aux_lemma => kernel_rfl) (by as_aux_lemma => kernel_rfl) (by as_aux_lemma => kernel_rfl) (fun _ _ _ h => h) (Or.inl ⟨by rfl, ?hy8⟩) (by assumption) ?_
              case hy8 => (intro w hSw; (try dsimp only at hSw); go_simp; try (with_reducible rfl))
              try simp only [Act.put, List.setIfInBounds_toArray, List.set_cons_zero, List.set_cons_succ]
              refine htake (i := 6) (v := ?v9) rfl (by as_aux_lemma => kernel_rfl) (by as_aux_lemma => kernel_rfl) (by as_aux_lemma => kernel_rfl) (fun _ _ _ h => h) (Or.inl ⟨by rfl, ?hy9⟩) (by assumption) ?_
              case hy9 => (intro w hSw; (try dsimp only at hSw); go_simp; try (with_reducible rfl))
              try simp only [Act.put, List.setIfInBounds_toArray, List.set_cons_zero, List.set_cons_succ]
              refine htake (i := 7) (v := ?v10) rfl (by as_aux_lemma => kernel_rfl) (by as_aux_lemma => kernel_rfl) (by as_aux_lemma => kernel_rfl) (fun _ _ _ h => h) (Or.inl ⟨by rfl, ?hy10⟩) (by assumption) ?_
              case hy10 => (intro w hSw; (try dsimp only at hSw); go_simp; try (with_reducible rfl))
              try simp only [Act.put, List.setIfInBounds_toArray, List.set_cons_zero, List.set_cons_succ]
              refine htake (i := 8) (v := ?v11) rfl (by as_aux_lemma => kernel_rfl) (by as_aux_lemma => kernel_rfl) (by as_aux_lemma => kernel_rfl) (fun _ _ _ h => h) (Or.inl ⟨by rfl, ?hy11⟩) (by assumption) ?_
              case hy11 => (intro w hSw; (try dsimp only at hSw); go_simp; try (with_reducible rfl))
              try simp only [Act.put, List.setIfInBounds_toArray, List.set_cons_zero, List.set_cons_succ]
              refine htake (i := 9) (v := ?v12) rfl (by as_aux_lemma => kernel_rfl) (by as_aux_lemma => kernel_rfl) (by as_aux_lemma => kernel_rfl) (fun _ _ _ h => h) (Or.inl ⟨by rfl, ?hy12⟩) (by assumption) ?_
              case hy12 => (intro w hSw; (try dsimp only at hSw); go_simp; try (with_reducible rfl))
              try simp only [Act.put, List.setIfInBounds_toArray, List.set_cons_zero, List.set_cons_succ]
              refine htake (i := 10) (v := ?v13) rfl (by as_aux_lemma => kernel_rfl) (by as_aux_lemma => kernel_rfl) (by as_aux_lemma => kernel_rfl) (fun _ _ _ h => h) (Or.inl ⟨by rfl, ?hy13⟩) (by assumption) ?_
              case hy13 => (intro w hSw; (try dsimp only at hSw); go_simp; try (with_reducible rfl))
              try simp only [Act.put, List.setIfInBounds_toArray, List.set_cons_zero, List.set_cons_succ]
              refine htake (i := 11) (v := ?v14) rfl (by as_aux_lemma => kernel_rfl) (by as_aux_lemma => kernel_rfl) (by as_aux_lemma => kernel_rfl) (fun _ _ _ h => h) (Or.inl ⟨by rfl, ?hy14⟩) (by assumption) ?_
              case hy14 => (intro w hSw; (try dsimp only at hSw); go_simp; try (with_reducible rfl))
              try simp only [Act.put, List.setIfInBounds_toArray, List.set_cons_zero, List.set_cons_succ]
              refine htake (i := 12) (v := ?v15) rfl (by as_aux_lemma => kernel_rfl) (by as_aux_lemma => kernel_rfl) (by as_aux_lemma => kernel_rfl) (fun _ _ _ h => h) (Or.inl ⟨by rfl, ?hy15⟩) (by assumption) ?_
              case hy15 => (intro w hSw; (try dsimp only at hSw); go_simp; try (with_reducible rfl))
              try simp only [Act.put, List.setIfInBounds_toArray, List.set_cons_zero, List.set_cons_succ]
              refine htake (i := 13) (v := ?v16) rfl (by as_aux_lemma => kernel_rfl) (by as_aux_lemma => kernel_rfl) (by as_aux_lemma => kernel_rfl) (fun _ _ _ h => h) (Or.inl ⟨by rfl, ?hy16⟩) (by assumption) ?_
              case hy16 => (intro w hSw; (try dsimp only at hSw); go_simp; try (with_reducible rfl))
              try simp only [Act.put, List.setIfInBounds_toArray, List.set_cons_zero, List.set_cons_succ]
              refine htake (i := 14) (v := ?v17) rfl (by as_aux_lemma => kernel_rfl) (by as_aux_lemma => kernel_rfl) (by as_aux_lemma => kernel_rfl) (fun _ _ _ h => h) (Or.inl ⟨by rfl, ?hy17⟩) (by assumption) ?_
              case hy17 => (intro w hSw; (try dsimp only at hSw); go_simp; try (with_reducible rfl))
              try simp only [Act.put, List.setIfInBounds_toArray, List.set_cons_zero, List.set_cons_succ]
              refine htake (i := 15) (v := ?v18) rfl (by as_aux_lemma => kernel_rfl) (by as_aux_lemma => kernel_rfl) (by as_aux_lemma => kernel_rfl) (fun _ _ _ h => h) (Or.inl ⟨by rfl, ?hy18⟩) (by assumption) ?_
              case hy18 => (intro w hSw; (try dsimp only at hSw); go_simp; try (with_reducible rfl))
              try simp only [Act.put, List.setIfInBounds_toArray, List.set_cons_zero, List.set_cons_succ]
              refine htake (i := 16) (v := ?v19) rfl (by as_aux_lemma => kernel_rfl) (by as_aux_lemma => kernel_rfl) (by as_aux_lemma => kernel_rfl) (fun _ _ _ h => h) (Or.inl ⟨by rfl, ?hy19⟩) (by assumption) ?_
              case hy19 => (intro w hSw; (try dsimp only at hSw); go_simp; try (with_reducible rfl))
              try simp only [Act.put, List.setIfInBounds_toArray, List.set_cons_zero, List.set_cons_succ]
              refine htake (i := 17) (v := ?v20) rfl (by as_aux_lemma => kernel_rfl) (by as_aux_lemma => kernel_rfl) (by as_aux_lemma => kernel_rfl) (fun _ _ _ h => h) (Or.inl ⟨by rfl, ?hy20⟩) (by assumption) ?_
              case hy20 => (intro w hSw; (try dsimp only at hSw); go_simp; try (with_reducible rfl))
              try simp only [Act.put, List.setIfInBounds_toArray, List.set_cons_zero, List.set_cons_succ]
              refine htake (i := 18) (v := ?v21) rfl (by as_aux_lemma => kernel_rfl) (by as_aux_lemma => kernel_rfl) (by as_aux_lemma => kernel_rfl) (fun _ _ _ h => h) (Or.inl ⟨by rfl, ?hy21⟩) (by assumption) ?_
              case hy21 => (intro w hSw; (try dsimp only at hSw); go_simp; try (with_reducible rfl))
              try simp only [Act.put, List.setIfInBounds_toArray, List.set_cons_zero, List.set_cons_succ]
              refine htake (i := 19) (v := ?v22) rfl (by as_aux_lemma => kernel_rfl) (by as_aux_lemma => kernel_rfl) (by as_aux_lemma => kernel_rfl) (fun _ _ _ h => h) (Or.inl ⟨by rfl, ?hy22⟩) (by assumption) ?_
              case hy22 => (intro w hSw; (try dsimp only at hSw); go_simp; try (with_reducible rfl))
              try simp only [Act.put, List.setIfInBounds_toArray, List.set_cons_zero, List.set_cons_succ]
              refine htake (i := 20) (v := ?v23) rfl (by as_aux_lemma => kernel_rfl) (by as_aux_lemma => kernel_rfl) (by as_aux_lemma => kernel_rfl) (fun _ _ _ h => h) (Or.inl ⟨by rfl, ?hy23⟩) (by assumption) ?_
              case hy23 => (intro w hSw; (try dsimp only at hSw); go_simp; try (with_reducible rfl))
              try simp only [Act.put, List.setIfInBounds_toArray, List.set_cons_zero, List.set_cons_succ]
              refine htake (i := 21) (v := ?v24) rfl (by as_aux_lemma => kernel_rfl) (by as_aux_lemma => kernel_rfl) (by as_aux_lemma => kernel_rfl) (fun _ _ _ h => h) (Or.inl ⟨by rfl, ?hy24⟩) (by assumption) ?_
              case hy24 => (intro w hSw; (try dsimp only at hSw); go_simp; try (with_reducible rfl))
              try simp only [Act.put, List.setIfInBounds_toArray, List.set_cons_zero, List.set_cons_succ]
              refine htake (i := 22) (v := ?v25) rfl (by as_aux_lemma => kernel_rfl) (by as_aux_lemma => kernel_rfl) (by as_aux_lemma => kernel_rfl) (fun _ _ _ h => h) (Or.inl ⟨by rfl, ?hy25⟩) (by assumption) ?_
              case hy25 => (intro w hSw; (try dsimp only at hSw); go_simp; try (with_reducible rfl))
              try simp only [Act.put, List.setIfInBounds_toArray, List.set_cons_zero, List.set_cons_succ]
              refine htake (i := 23) (v := ?v26) rfl (by as_aux_lemma => kernel_rfl) (by as_aux_lemma => kernel_rfl) (by as_aux_lemma => kernel_rfl) (fun _ _ _ h => h) (Or.inl ⟨by rfl, ?hy26⟩) (by assumption) ?_
              case hy26 => (intro w hSw; (try dsimp only at hSw); go_simp; try (with_reducible rfl))
              try simp only [Act.put, List.setIfInBounds_toArray, List.set_cons_zero, List.set_cons_succ]
              refine htake (i := 24) (v := ?v27) rfl (by as_aux_lemma => kernel_rfl) (by as_aux_lemma => kernel_rfl) (by as_aux_lemma => kernel_rfl) (fun _ _ _ h => h) (Or.inl ⟨by rfl, ?hy27⟩) (by assumption) ?_
              case hy27 => (intro w hSw; (try dsimp only at hSw); go_simp; try (with_reducible rfl))
              try simp only [Act.put, List.setIfInBounds_toArray, List.set_cons_zero, List.set_cons_succ]
              refine htake (i := 25) (v := ?v28) rfl (by as_aux_lemma => kernel_rfl) (by as_aux_lemma => kernel_rfl) (by as_aux_lemma => kernel_rfl) (fun _ _ _ h => h) (Or.inl ⟨by rfl, ?hy28⟩) (by assumption) ?_
              case hy28 => (intro w hSw; (try dsimp only at hSw); go_simp; try (with_reducible rfl))
              try simp only [Act.put, List.setIfInBounds_toArray, List.set_cons_zero, List.set_cons_succ]
              refine htake (i := 26) (v := ?v29) rfl (by as_aux_lemma => kernel_rfl) (by as_aux_lemma => kernel_rfl) (by as_aux_lemma => kernel_rfl) (fun _ _ _ h => h) (Or.inl ⟨by rfl, ?hy29⟩) (by assumption) ?_
              case hy29 => (intro w hSw; (try dsimp only at hSw); go_simp; try (with_reducible rfl))
              try simp only [Act.put, List.setIfInBounds_toArray, List.set_cons_zero, List.set_cons_succ]
              refine htake (i := 27) (v := ?v30) rfl (by as_aux_lemma => kernel_rfl) (by as_aux_lemma => kernel_rfl) (by as_aux_lemma => kernel_rfl) (fun _ _ _ h => h) (Or.inl ⟨by rfl, ?hy30⟩) (by assumption) ?_
              case hy30 => (intro w hSw; (try dsimp only at hSw); go_simp; try (with_reducible rfl))
              try simp only [Act.put, List.setIfInBounds_toArray, List.set_cons_zero, List.set_cons_succ]
              refine htake (i := 28) (v := ?v31) rfl (by as_aux_lemma => kernel_rfl) (by as_aux_lemma => kernel_rfl) (by as_aux_lemma => kernel_rfl) (fun _ _ _ h => h) (Or.inl ⟨by rfl, ?hy31⟩) (by assumption) ?_
              case hy31 => (intro w hSw; (try dsimp only at hSw); go_simp; try (with_reducible rfl))
              try simp only [Act.put, List.setIfInBounds_toArray, List.set_cons_zero, List.set_cons_succ]
              refine htake (i := 29) (v := ?v32) rfl (by as_aux_lemma => kernel_rfl) (by as_aux_lemma => kernel_rfl) (by as_aux_lemma => kernel_rfl) (fun _ _ _ h => h) (Or.inl ⟨by rfl, ?hy32⟩) (by assumption) ?_
              case hy32 => (intro w hSw; (try dsimp only at hSw); go_simp; try (with_reducible rfl))
              try simp only [Act.put, List.setIfInBounds_toArray, List.set_cons_zero, List.set_cons_succ]
              refine htake (i := 30) (v := ?v33) rfl (by as_aux_lemma => kernel_rfl) (by as_aux_lemma => kernel_rfl) (by as_aux_lemma => kernel_rfl) (fun _ _ _ h => h) (Or.inl ⟨by rfl, ?hy33⟩) (by assumption) ?_
              case hy33 => (intro w hSw; (try dsimp only at hSw); go_simp; try (with_reducible rfl))
              try simp only [Act.put, List.setIfInBounds_toArray, List.set_cons_zero, List.set_cons_succ]
              refine htake (i := 31) (v := ?v34) rfl (by as_aux_lemma => kernel_rfl) (by as_aux_lemma => kernel_rfl) (by as_aux_lemma => kernel_rfl) (fun _ _ _ h => h) (Or.inl ⟨by rfl, ?hy34⟩) (by assumption) ?_
              case hy34 => (intro w hSw; (try dsimp only at hSw); go_simp; try (with_reducible rfl))
              try simp only [Act.put, List.setIfInBounds_toArray, List.set_cons_zero, List.set_cons_succ]
              refine htake (i := 32) (v := ?v35) rfl (by as_aux_lemma => kernel_rfl) (by as_aux_lemma => kernel_rfl) (by as_aux_lemma => kernel_rfl) (fun _ _ _ h => h) (Or.inl ⟨by rfl, ?hy35⟩) (by assumption) ?_
              case hy35 => (intro w hSw; (try dsimp only at hSw); go_simp; try (with_reducible rfl))
              try simp only [Act.put, List.setIfInBounds_toArray, List.set_cons_zero, List.set_cons_succ]
              refine htake (i := 33) (v := ?v36) rfl (by as_aux_lemma => kernel_rfl) (by as_aux_lemma => kernel_rfl) (by as_aux_lemma => kernel_rfl) (fun _ _ _ h => h) (Or.inl ⟨by rfl, ?hy36⟩) (by assumption) ?_
              case hy36 => (intro w hSw; (try dsimp only at hSw); go_simp; try (with_reducible rfl))
              try simp only [Act.put, List.setIfInBounds_toArray, List.set_cons_zero, List.set_cons_succ]
              refine htake (i := 34) (v := ?v37) rfl (by as_aux_lemma => kernel_rfl) (by as_aux_lemma => kernel_rfl) (by as_aux_lemma => kernel_rfl) (fun _ _ _ h => h) (Or.inl ⟨by rfl, ?hy37⟩) (by assumption) ?_
              case hy37 => (intro w hSw; (try dsimp only at hSw); go_simp; try (with_reducible rfl))
              try simp only [Act.put, List.setIfInBounds_toArray, List.set_cons_zero, List.set_cons_succ]
              refine htake (i := 35) (v := ?v38) rfl (by as_aux_lemma => kernel_rfl) (by as_aux_lemma => kernel_rfl) (by as_aux_lemma => kernel_rfl) (fun _ _ _ h => h) (Or.inl ⟨by rfl, ?hy38⟩) (by assumption) ?_
              case hy38 => (intro w hSw; (try dsimp only at hSw); go_simp; try (with_reducible rfl))
              try simp only [Act.put, List.setIfInBounds_toArray, List.set_cons_zero, List.set_cons_succ]
              refine htake (i := 36) (v := ?v39) rfl (by as_aux_lemma => kernel_rfl) (by as_aux_lemma => kernel_rfl) (by as_aux_lemma => kernel_rfl) (fun _ _ _ h => h) (Or.inl ⟨by rfl, ?hy39⟩) (by assumption) ?_
              case hy39 => (intro w hSw; (try dsimp only at hSw); go_simp; try (with_reducible rfl))
              try simp only [Act.put, List.setIfInBounds_toArray, List.set_cons_zero, List.set_cons_succ]
              refine htake (i := 37) (v := ?v40) rfl (by as_aux_lemma => kernel_rfl) (by as_aux_lemma => kernel_rfl) (by as_aux_lemma => kernel_rfl) (fun _ _ _ h => h) (Or.inl ⟨by rfl, ?hy40⟩) (by assumption) ?_
              case hy40 => (intro w hSw; (try dsimp only at hSw); go_simp; try (with_reducible rfl))
              try simp only [Act.put, List.setIfInBounds_toArray, List.set_cons_zero, List.set_cons_succ]
              refine htake (i := 38) (v := ?v41) rfl (by as_aux_lemma => kernel_rfl) (by as_aux_lemma => kernel_rfl) (by as_aux_lemma => kernel_rfl) (fun _ _ _ h => h) (Or.inl ⟨by rfl, ?hy41⟩) (by assumption) ?_
              case hy41 => (intro w hSw; (try dsimp only at hSw); go_simp; try (with_reducible rfl))
              try simp only [Act.put, List.setIfInBounds_toArray, List.set_cons_zero, List.set_cons_succ]
              refine wpAnyH_ready (rs := [39]) (by as_aux_lemma => kernel_rfl) (by simp) ?_
              refine hcons rfl (fun K hK => ?_) (AllReadyH.nil)
              go_simp
              (with_reducible refine (span33_any X Y _).mono ?_); rintro e w1 ⟨rfl, hb1⟩; have hk1 : Below wr.heap.size wr w1 := (Below.refl _ _).drew.trans hb1
              refine hK.out _ _ ?_ (fun hHeld => ?_)
              · (try dsimp only); exact HS3.out _ hk1
              clear hK K
              try simp only [Act.put, List.setIfInBounds_toArray, List.set_cons_zero, List.set_cons_succ]
              refine htake (i := 40) (v := ?v42) rfl (by as_aux_lemma => kernel_rfl) (by as_aux_lemma => kernel_rfl) (by as_aux_lemma => kernel_rfl) (fun _ _ _ h => h) (Or.inl ⟨by rfl, ?hy42⟩) (by assumption) ?_
              case hy42 => (intro w hSw; (try dsimp only at hSw); go_simp; try (with_reducible rfl))
              try simp only [Act.put, List.setIfInBounds_toArray, List.set_cons_zero, List.set_cons_succ]
              refine htake (i := 41) (v := ?v43) rfl (by as_aux_lemma => kernel_rfl) (by as_aux_lemma => kernel_rfl) (by as_aux_lemma => kernel_rfl) (fun _ _ _ h => h) (Or.inl ⟨by rfl, ?hy43⟩) (by assumption) ?_
              case hy43 => (intro w hSw; (try dsimp only at hSw); go_simp; try (with_reducible rfl))
              try simp only [Act.put, List.setIfInBounds_toArray, List.set_cons_zero, List.set_cons_succ]
              refine wpAnyH_done (by as_aux_lemma => kernel_rfl) ?_ _
              refine NoPanic.normal ?_
              iterate 43 (try clear hHeld)
              have hb3 := Hb.out.trans (hk1.mono Hb.out.size)
              clear hk1 hb1
              go_wp2
              all_goals (first | (refine ⟨?_, ?_⟩; (unfold R7E; exact ⟨k + 1, by omega, by go_num, hb3⟩); (simp [intOf]; omega)) | (go_roundw; (case rel => (unfold R7E; exact ⟨k + 1, by omega, by go_num, hb3⟩)); (case measure => (simp [intOf]; omega))) | (go_round; (case rel => (unfold R7E; exact ⟨k + 1, by omega, by go_num, hb3⟩)); (case measure => (simp [intOf]; omega))))
            · as_aux_lemma =>
              have kn : k = s.sheets.length := by omega
              subst kn
              have KK := Lib.hid (K15.out.next hb)
              have BB := Lib.hid (B15.out.trans (hb.mono B15.out.size))
              obtain ⟨pp0, pp1⟩ := IBlk2.cells (Pp15.out.next hb)
              obtain ⟨pq0, pq1⟩ := IBlk2.cells (Pq15.out.next hb)
              obtain ⟨pr0, pr1⟩ := IBlk2.cells (Pr15.out.next hb)
              have z1 := (Pp15.out.next hb).lt
              have z2 := (Pq15.out.next hb).lt
              have z3 := (Pr15.out.next hb).lt
              have HS3 := Lib.hid (show ∀ W, Below wr.heap.size wr W → (W.cell? ⟨gp, 0, none⟩ = some (.int .i64 xp) ∧ W.cell? ⟨gp, 1, none⟩ = some (.int .i64 yp) ∧ W.cell? ⟨gq, 0, none⟩ = some (.int .i64 xp) ∧ W.cell? ⟨gq, 1, none⟩ = some (.int .i64 xp) ∧ W.cell? ⟨gr, 0, none⟩ = some (.int .i64 yp) ∧ W.cell? ⟨gr, 1, none⟩ = some (.int .i64 yp)) from fun W h =>
                ⟨((bcell h).1 _ _ z1).trans pp0, ((bcell h).1 _ _ z1).trans pp1, ((bcell h).1 _ _ z2).trans pq0, ((bcell h).1 _ _ z2).trans pq1, ((bcell h).1 _ _ z3).trans pr0, ((bcell h).1 _ _ z3).trans pr1⟩)
              have hq : ∀ W, (binOp .eql 44 (.agg #[.int .i64 xp, .int .i64 yp]) (.agg #[.int .i64 xp, .int .i64 yp])).run Tryd.prog W = .ok (.bool true) W := fun W => by rw [span_eql]; simp
              clear hb
              go_wp2_with fail
              refine wp_region_noPanic ?_
              refine wp_region_held_drew (S := (fun W => W.cell? ⟨gp, 0, none⟩ = some (.int .i64 xp) ∧ W.cell? ⟨gp, 1, none⟩ = some (.int .i64 yp) ∧ W.cell? ⟨gq, 0, none⟩ = some (.int .i64 xp) ∧ W.cell? ⟨gq, 1, none⟩ = some (.int .i64 xp) ∧ W.cell? ⟨gr, 0, none⟩ = some (.int .i64 yp) ∧ W.cell? ⟨gr, 1, none⟩ = some (.int .i64 yp))) (by as_aux_lemma => kernel_rfl) ?_ (fun hHeld => ?_)
              · (try dsimp only); exact HS3.out _ (Below.refl _ _).drew
              refine htake (i := 0) (v := ?v44) rfl (by as_aux_lemma => kernel_rfl) (by as_aux_lemma => kernel_rfl) (by as_aux_lemma => kernel_rfl) (fun _ _ _ h => h) (Or.inl ⟨by rfl, ?hy44⟩) (by assumption) ?_
              case hy44 => (intro w hSw; (try dsimp only at hSw); go_simp; try (with_reducible rfl))
              try simp only [Act.put, List.setIfInBounds_toArray, List.set_cons_zero, List.set_cons_succ]
              refine htake (i := 1) (v := ?v45) rfl (by as_aux_lemma => kernel_rfl) (by as_aux_lemma => kernel_rfl) (by as_aux_lemma => kernel_rfl) (fun _ _ _ h => h) (Or.inl ⟨by rfl, ?hy45⟩) (by assumption) ?_
              case hy45 => (intro w hSw; (try dsimp only at hSw); go_simp; try (with_reducible rfl))
              try simp only [Act.put, List.setIfInBounds_toArray, List.set_cons_zero, List.set_cons_succ]
              refine htake (i := 2) (v := ?v46) rfl (by as_aux_lemma => kernel_rfl) (by as_aux_lemma => kernel_rfl) (by as_aux_lemma => kernel_rfl) (fun _ _ _ h => h) (Or.inl ⟨by rfl, ?hy46⟩) (by assumption) ?_
              case hy46 => (intro w hSw; (try dsimp only at hSw); go_simp; try (with_reducible rfl))
              try simp only [Act.put, List.setIfInBounds_toArray, List.set_cons_zero, List.set_cons_succ]
              refine htake (i := 3) (v := ?v47) rfl (by as_aux_lemma => kernel_rfl) (by as_aux_lemma => kernel_rfl) (by as_aux_lemma => kernel_rfl) (fun _ _ _ h => h) (Or.inl ⟨by rfl, ?hy47⟩) (by assumption) ?_
              case hy47 => (intro w hSw; (try dsimp only at hSw); go_simp; try (with_reducible rfl))
              try simp only [Act.put, List.setIfInBounds_toArray, List.set_cons_zero, List.set_cons_succ]
              refine htake (i := 4) (v := ?v48) rfl (by as_aux_lemma => kernel_rfl) (by as_aux_lemma => kernel_rfl) (by as_aux_lemma => kernel_rfl) (fun _ _ _ h => h) (Or.inl ⟨by rfl, ?hy48⟩) (by assumption) ?_
              case hy48 => (intro w hSw; (try dsimp only at hSw); go_simp; try (with_reducible rfl))
              try simp only [Act.put, List.setIfInBounds_toArray, List.set_cons_zero, List.set_cons_succ]
              refine wpAnyH_ready (rs := [5]) (by as_aux_lemma => kernel_rfl) (by simp) ?_
              refine hcons rfl (fun K hK => ?_) (AllReadyH.nil)
              go_simp
              (with_reducible refine (span33_any xp yp _).mono ?_); rintro e w1 ⟨rfl, hb1⟩; have hk1 : Below wr.heap.size wr w1 := (Below.refl _ _).drew.trans hb1
              refine hK.out _ _ ?_ (fun hHeld => ?_)
              · (try dsimp only); exact HS3.out _ hk1
              clear hK K
              try simp only [Act.put, List.setIfInBounds_toArray, List.set_cons_zero, List.set_cons_succ]
              refine htake (i := 6) (v := ?v49) rfl (by as_aux_lemma => kernel_rfl) (by as_aux_lemma => kernel_rfl) (by as_aux_lemma => kernel_rfl) (fun _ _ _ h => h) (Or.inl ⟨by rfl, ?hy49⟩) (by assumption) ?_
              case hy49 => (intro w hSw; (try dsimp only at hSw); go_simp; try (with_reducible rfl))
              try simp only [Act.put, List.setIfInBounds_toArray, List.set_cons_zero, List.set_cons_succ]
              refine htake (i := 7) (v := ?v50) rfl (by as_aux_lemma => kernel_rfl) (by as_aux_lemma => kernel_rfl) (by as_aux_lemma => kernel_rfl) (fun _ _ _ h => h) (Or.inl ⟨by rfl, ?hy50⟩) (by assumption) ?_
              case hy50 => (intro w hSw; (try dsimp only at hSw); go_simp; try (with_reducible rfl))
              try simp only [Act.put, List.setIfInBounds_toArray, List.set_cons_zero, List.set_cons_succ]
              refine htake (i := 8) (v := ?v51) rfl (by as_aux_lemma => kernel_rfl) (by as_aux_lemma => kernel_rfl) (by as_aux_lemma => kernel_rfl) (fun _ _ _ h => h) (Or.inl ⟨by rfl, ?hy51⟩) (by assumption) ?_
              case hy51 => (intro w hSw; (try dsimp only at hSw); go_simp; try (with_reducible rfl))
              try simp only [Act.put, List.setIfInBounds_toArray, List.set_cons_zero, List.set_cons_succ]
              refine htake (i := 9) (v := ?v52) rfl (by as_aux_lemma => kernel_rfl) (by as_aux_lemma => kernel_rfl) (by as_aux_lemma => kernel_rfl) (fun _ _ _ h => h) (Or.inl ⟨by rfl, ?hy52⟩) (by assumption) ?_
              case hy52 => (intro w hSw; (try dsimp only at hSw); go_simp; try (with_reducible rfl))
              try simp only [Act.put, List.setIfInBounds_toArray, List.set_cons_zero, List.set_cons_succ]
              refine htake (i := 10) (v := ?v53) rfl (by as_aux_lemma => kernel_rfl) (by as_aux_lemma => kernel_rfl) (by as_aux_lemma => kernel_rfl) (fun _ _ _ h => h) (Or.inl ⟨by rfl, ?hy53⟩) (by assumption) ?_
              case hy53 => (intro w hSw; (try dsimp only at hSw); go_simp; try (with_reducible rfl))
              try simp only [Act.put, List.setIfInBounds_toArray, List.set_cons_zero, List.set_cons_succ]
              refine htake (i := 11) (v := ?v54) rfl (by as_aux_lemma => kernel_rfl) (by as_aux_lemma => kernel_rfl) (by as_aux_lemma => kernel_rfl) (fun _ _ _ h => h) (Or.inl ⟨by rfl, ?hy54⟩) (by assumption) ?_
              case hy54 => (intro w hSw; (try dsimp only at hSw); go_simp; try (with_reducible rfl))
              try simp only [Act.put, List.setIfInBounds_toArray, List.set_cons_zero, List.set_cons_succ]
              refine htake (i := 12) (v := ?v55) rfl (by as_aux_lemma => kernel_rfl) (by as_aux_lemma => kernel_rfl) (by as_aux_lemma => kernel_rfl) (fun _ _ _ h => h) (Or.inl ⟨by rfl, ?hy55⟩) (by assumption) ?_
              case hy55 => (intro w hSw; (try dsimp only at hSw); go_simp; try (with_reducible rfl))
              try simp only [Act.put, List.setIfInBounds_toArray, List.set_cons_zero, List.set_cons_succ]
              refine htake (i := 13) (v := ?v56) rfl (by as_aux_lemma => kernel_rfl) (by as_aux_lemma => kernel_rfl) (by as_aux_lemma => kernel_rfl) (fun _ _ _ h => h) (Or.inl ⟨by rfl, ?hy56⟩) (by assumption) ?_
              case hy56 => (intro w hSw; (try dsimp only at hSw); go_simp; try (with_reducible rfl))
              try simp only [Act.put, List.setIfInBounds_toArray, List.set_cons_zero, List.set_cons_succ]
              refine htake (i := 14) (v := ?v57) rfl (by as_aux_lemma => kernel_rfl) (by as_aux_lemma => kernel_rfl) (by as_aux_lemma => kernel_rfl) (fun _ _ _ h => h) (Or.inl ⟨by rfl, ?hy57⟩) (by assumption) ?_
              case hy57 => (intro w hSw; (try dsimp only at hSw); go_simp; try (with_reducible rfl))
              try simp only [Act.put, List.setIfInBounds_toArray, List.set_cons_zero, List.set_cons_succ]
              refine htake (i := 15) (v := ?v58) rfl (by as_aux_lemma => kernel_rfl) (by as_aux_lemma => kernel_rfl) (by as_aux_lemma => kernel_rfl) (fun _ _ _ h => h) (Or.inl ⟨by rfl, ?hy58⟩) (by assumption) ?_
              case hy58 => (intro w hSw; (try dsimp only at hSw); go_simp; try (with_reducible rfl))
              try simp only [Act.put, List.setIfInBounds_toArray, List.set_cons_zero, List.set_cons_succ]
              refine htake (i := 16) (v := ?v59) rfl (by as_aux_lemma => kernel_rfl) (by as_aux_lemma => kernel_rfl) (by as_aux_lemma => kernel_rfl) (fun _ _ _ h => h) (Or.inl ⟨by rfl, ?hy59⟩) (by assumption) ?_
              case hy59 => (intro w hSw; (try dsimp only at hSw); go_simp; try (with_reducible rfl))
              try simp only [Act.put, List.setIfInBounds_toArray, List.set_cons_zero, List.set_cons_succ]
              refine htake (i := 17) (v := ?v60) rfl (by as_aux_lemma => kernel_rfl) (by as_aux_lemma => kernel_rfl) (by as_aux_lemma => kernel_rfl) (fun _ _ _ h => h) (Or.inl ⟨by rfl, ?hy60⟩) (by assumption) ?_
              case hy60 => (intro w hSw; (try dsimp only at hSw); go_simp; try (with_reducible rfl))
              try simp only [Act.put, List.setIfInBounds_toArray, List.set_cons_zero, List.set_cons_succ]
              refine htake (i := 18) (v := ?v61) rfl (by as_aux_lemma => kernel_rfl) (by as_aux_lemma => kernel_rfl) (by as_aux_lemma => kernel_rfl) (fun _ _ _ h => h) (Or.inl ⟨by rfl, ?hy61⟩) (by assumption) ?_
              case hy61 => (intro w hSw; (try dsimp only at hSw); go_simp; try (with_reducible rfl))
              try simp only [Act.put, List.setIfInBounds_toArray, List.set_cons_zero, List.set_cons_succ]
              refine htake (i := 19) (v := ?v62) rfl (by as_aux_lemma => kernel_rfl) (by as_aux_lemma => kernel_rfl) (by as_aux_lemma => kernel_rfl) (fun _ _ _ h => h) (Or.inl ⟨by rfl, ?hy62⟩) (by assumption) ?_
              case hy62 => (intro w hSw; (try dsimp only at hSw); go_simp; try (with_reducible rfl))
              try simp only [Act.put, List.setIfInBounds_toArray, List.set_cons_zero, List.set_cons_succ]
              refine htake (i := 20) (v := ?v63) rfl (by as_aux_lemma => kernel_rfl) (by as_aux_lemma => kernel_rfl) (by as_aux_lemma => kernel_rfl) (fun _ _ _ h => h) (Or.inl ⟨by rfl, ?hy63⟩) (by assumption) ?_
              case hy63 => (intro w hSw; (try dsimp only at hSw); go_simp; try (with_reducible rfl))
              try simp only [Act.put, List.setIfInBounds_toArray, List.set_cons_zero, List.set_cons_succ]
              refine htake (i := 21) (v := ?v64) rfl (by as_aux_lemma => kernel_rfl) (by as_aux_lemma => kernel_rfl) (by as_aux_lemma => kernel_rfl) (fun _ _ _ h => h) (Or.inl ⟨by rfl, ?hy64⟩) (by assumption) ?_
              case hy64 => (intro w hSw; (try dsimp only at hSw); go_simp; try (with_reducible rfl))
              try simp only [Act.put, List.setIfInBounds_toArray, List.set_cons_zero, List.set_cons_succ]
              refine htake (i := 22) (v := ?v65) rfl (by as_aux_lemma => kernel_rfl) (by as_aux_lemma => kernel_rfl) (by as_aux_lemma => kernel_rfl) (fun _ _ _ h => h) (Or.inl ⟨by rfl, ?hy65⟩) (by assumption) ?_
              case hy65 => (intro w hSw; (try dsimp only at hSw); go_simp; try (with_reducible rfl))
              try simp only [Act.put, List.setIfInBounds_toArray, List.set_cons_zero, List.set_cons_succ]
              refine htake (i := 23) (v := ?v66) rfl (by as_aux_lemma => kernel_rfl) (by as_aux_lemma => kernel_rfl) (by as_aux_lemma => kernel_rfl) (fun _ _ _ h => h) (Or.inl ⟨by rfl, ?hy66⟩) (by assumption) ?_
              case hy66 => (intro w hSw; (try dsimp only at hSw); go_simp; try (with_reducible rfl))
              try simp only [Act.put, List.setIfInBounds_toArray, List.set_cons_zero, List.set_cons_succ]
              refine htake (i := 24) (v := ?v67) rfl (by as_aux_lemma => kernel_rfl) (by as_aux_lemma => kernel_rfl) (by as_aux_lemma => kernel_rfl) (fun _ _ _ h => h) (Or.inl ⟨by rfl, ?hy67⟩) (by assumption) ?_
              case hy67 => (intro w hSw; (try dsimp only at hSw); go_simp; try (with_reducible rfl))
              try simp only [Act.put, List.setIfInBounds_toArray, List.set_cons_zero, List.set_cons_succ]
              refine htake (i := 25) (v := ?v68) rfl (by as_aux_lemma => kernel_rfl) (by as_aux_lemma => kernel_rfl) (by as_aux_lemma => kernel_rfl) (fun _ _ _ h => h) (Or.inl ⟨by rfl, ?hy68⟩) (by assumption) ?_
              case hy68 => (intro w hSw; (try dsimp only at hSw); go_simp; try (with_reducible rfl))
              try simp only [Act.put, List.setIfInBounds_toArray, List.set_cons_zero, List.set_cons_succ]
              refine htake (i := 26) (v := ?v69) rfl (by as_aux_lemma => kernel_rfl) (by as_aux_lemma => kernel_rfl) (by as_aux_lemma => kernel_rfl) (fun _ _ _ h => h) (Or.inl ⟨by rfl, ?hy69⟩) (by assumption) ?_
              case hy69 => (intro w hSw; (try dsimp only at hSw); go_simp; try (with_reducible rfl))
              try simp only [Act.put, List.setIfInBounds_toArray, List.set_cons_zero, List.set_cons_succ]
              refine htake (i := 27) (v := ?v70) rfl (by as_aux_lemma => kernel_rfl) (by as_aux_lemma => kernel_rfl) (by as_aux_lemma => kernel_rfl) (fun _ _ _ h => h) (Or.inl ⟨by rfl, ?hy70⟩) (by assumption) ?_
              case hy70 => (intro w hSw; (try dsimp only at hSw); go_simp; try (with_reducible rfl))
              try simp only [Act.put, List.setIfInBounds_toArray, List.set_cons_zero, List.set_cons_succ]
              refine htake (i := 28) (v := ?v71) rfl (by as_aux_lemma => kernel_rfl) (by as_aux_lemma => kernel_rfl) (by as_aux_lemma => kernel_rfl) (fun _ _ _ h => h) (Or.inl ⟨by rfl, ?hy71⟩) (by assumption) ?_
              case hy71 => (intro w hSw; (try dsimp only at hSw); go_simp; try (with_reducible rfl))
              try simp only [Act.put, List.setIfInBounds_toArray, List.set_cons_zero, List.set_cons_succ]
              refine htake (i := 29) (v := ?v72) rfl (by as_aux_lemma => kernel_rfl) (by as_aux_lemma => kernel_rfl) (by as_aux_lemma => kernel_rfl) (fun _ _ _ h => h) (Or.inl ⟨by rfl, ?hy72⟩) (by assumption) ?_
              case hy72 => (intro w hSw; (try dsimp only at hSw); go_simp; try (with_reducible rfl))
              try simp only [Act.put, List.setIfInBounds_toArray, List.set_cons_zero, List.set_cons_succ]
              refine htake (i := 30) (v := ?v73) rfl (by as_aux_lemma => kernel_rfl) (by as_aux_lemma => kernel_rfl) (by as_aux_lemma => kernel_rfl) (fun _ _ _ h => h) (Or.inl ⟨by rfl, ?hy73⟩) (by assumption) ?_
              case hy73 => (intro w hSw; (try dsimp only at hSw); go_simp; try (with_reducible rfl))
              try simp only [Act.put, List.setIfInBounds_toArray, List.set_cons_zero, List.set_cons_succ]
              refine htake (i := 31) (v := ?v74) rfl (by as_aux_lemma => kernel_rfl) (by as_aux_lemma => kernel_rfl) (by as_aux_lemma => kernel_rfl) (fun _ _ _ h => h) (Or.inl ⟨by rfl, ?hy74⟩) (by assumption) ?_
              case hy74 => (intro w hSw; (try dsimp only at hSw); go_simp; try (with_reducible rfl))
              try simp only [Act.put, List.setIfInBounds_toArray, List.set_cons_zero, List.set_cons_succ]
              refine wpAnyH_ready (rs := [32]) (by as_aux_lemma => kernel_rfl) (by simp) ?_
              refine hcons rfl (fun K hK => ?_) (AllReadyH.nil)
              go_simp
              (with_reducible refine (awake_any _ ?_).mono ?_); (exact KK.out.aw.en.next hk1); rintro e w2 ⟨rfl, hb2⟩; have hk2 := below_step hb2 hk1 (Nat.le_refl wr.heap.size)
              refine hK.out _ _ ?_ (fun hHeld => ?_)
              · (try dsimp only); exact HS3.out _ hk2
              clear hK K
              try simp only [Act.put, List.setIfInBounds_toArray, List.set_cons_zero, List.set_cons_succ]
              refine htake (i := 33) (v := ?v75) rfl (by as_aux_lemma => kernel_rfl) (by as_aux_lemma => kernel_rfl) (by as_aux_lemma => kernel_rfl) (fun _ _ _ h => h) (Or.inl ⟨by rfl, ?hy75⟩) (by assumption) ?_
              case hy75 => (intro w hSw; (try dsimp only at hSw); go_simp; try (with_reducible rfl))
              try simp only [Act.put, List.setIfInBounds_toArray, List.set_cons_zero, List.set_cons_succ]
              refine htake (i := 34) (v := ?v76) rfl (by as_aux_lemma => kernel_rfl) (by as_aux_lemma => kernel_rfl) (by as_aux_lemma => kernel_rfl) (fun _ _ _ h => h) (Or.inl ⟨by rfl, ?hy76⟩) (by assumption) ?_
              case hy76 => (intro w hSw; (try dsimp only at hSw); go_simp; try (with_reducible rfl))
              try simp only [Act.put, List.setIfInBounds_toArray, List.set_cons_zero, List.set_cons_succ]
              refine wpAnyH_done (by as_aux_lemma => kernel_rfl) ?_ _
              refine NoPanic.normal ?_
              iterate 36 (try clear hHeld)
              have hb3 := BB.out.trans (hk2.mono BB.out.size)
              clear hk1 hk2 hb1 hb2
              go_wp2
              go_ret
              exact ⟨rfl, hb3⟩
        · have d1 : (av != 0) = true := by simpa using ha
          have hnl : nl = 0 := HNL.out.trans (if_neg ha)
          have hp := EP.out
          have hss := HSV.out
          have hcc := HCV.out
          unfold profitS at hp
          unfold surelyS at hss
          unfold canS at hcc
          rw [← HAV.out, if_neg ha] at hp
          rw [← HAV.out, decide_eq_false ha, Bool.false_and] at hss hcc
          injection hp with hp1 hp2
          subst hnl hss hcc hp1 hp2
          have hse := span_eql 0 0 0 0 V15
          clear ha
          go_wp2_with fail
          refine (awake_any V15 K15.out.aw.en).mono ?_
          rintro e V16 ⟨rfl, hb⟩
          have BE := Lib.hid (B15.out.trans (hb.mono B15.out.size))
          clear hb
          go_wp2
          go_ret
          exact ⟨rfl, BE.out⟩
  · go_wp2_with fail
    refine (awake_any V2 K2.out.en).mono ?_
    rintro e V3 ⟨rfl, hb⟩
    have HB3 := Lib.hid (B2.out.trans (hb.mono B2.out.size))
    clear hb
    go_wp2
    go_ret
    exact ⟨rfl, HB3.out⟩
end Go.Proofs.YtfffhbolaimmdaaDoor
