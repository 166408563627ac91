import Derived.Test.YtjlicbdnppodgaaL0
namespace Go.Proofs.Ytjlicbdnppodgaa
open Go.RowKit
attribute [local go_sem] Oper.semAt_some
/-! The range over the cells around a cell. -/
def nb (p : Pt) : Fin 4 → Pt
  | 0 => (p.1 + -1, p.2)
  | 1 => (p.1 + 1, p.2)
  | 2 => (p.1, p.2 + -1)
  | 3 => (p.1, p.2 + 1)
def encA (p : Pt) (k : Fin 4) : Array Value := #[.agg #[.int .i64 (nb p k).1, .int .i64 (nb p k).2]]
/-- What the iterator leans on. -/
def KpC (bc : Nat) (W W' : World) : Prop := W.heap.size ≤ W'.heap.size ∧ W'.heap[bc]? = W.heap[bc]?
theorem KpC.trans {bc : Nat} {A B C : World} (h : KpC bc A B) (k : KpC bc B C) : KpC bc A C := ⟨Nat.le_trans h.1 k.1, k.2.trans h.2⟩
theorem Bx.of {W W' : World} {b : Nat} {vs : List Value} (h : Bx W b vs) (hs : W.heap.size ≤ W'.heap.size) (hk : W'.heap[b]? = W.heap[b]?) : Bx W' b vs :=
  ⟨Nat.lt_of_lt_of_le h.lt hs, fun j u hu => (World.cell?_of_block (a := ⟨b, j, none⟩) hk).trans (h.c j u hu), fun j => (World.frozen?_of_block (a := ⟨b, j, none⟩) hk).trans (h.fr j)⟩
theorem kpc_put {bc : Nat} {w : World} (hb : bc < w.heap.size) (W : World) (l : Nat) (o o' : Obj) (hl : w.heap.size ≤ l) (_ : W.heap[l]? = some o) (_ : o.isCells = false) (_ : o.isWalk = false) : KpC bc W (W.putObj l o') :=
  ⟨(grownBy_putObj' W l o').size, World.putObj_heap_other (by omega)⟩
set_option maxHeartbeats 400000 in
theorem around_any (x y : Int) (w : World) : Calls Try.prog 66 #[.agg #[.int .i64 x, .int .i64 y]] w fun e w' => e = .returned (.func (.func 74) #[] #[.pointer (some ⟨w.heap.size, 0, none⟩)]) ∧ w' = w.alloc (.cells #[.int .i64 x, .int .i64 y] 90) := by
  go_enter Try.func66, Try.ntmps66
  go_wp2
  go_ret
  exact ⟨rfl, rfl⟩
def four : List (Fin 4) := [0, 1, 2, 3]
def RA (p : Pt) (bc : Nat) (W0 : World) (J : List (Fin 4) → World → Prop) (i : Value) (w : World) : Prop := ∃ k : Nat, k ≤ 4 ∧ i = .int .i64 k ∧ Bx w bc [.int .i64 p.1, .int .i64 p.2] ∧ W0.heap.size ≤ w.heap.size ∧ J (four.take k) w
def Near (p : Pt) : Prop := -1000 ≤ p.1 ∧ p.1 ≤ 1000 ∧ -1000 ≤ p.2 ∧ p.2 ≤ 1000
set_option maxRecDepth 100000 in
set_option maxHeartbeats 1000000 in
theorem around1_stops (n : Nat) (hn : 1 ≤ n) (p : Pt) (bc : Nat) (w : World) (hp : Near p) (hbc : Bx w bc [.int .i64 p.1, .int .i64 p.2]) :
    SeqStopsK Fence.wide n Try.prog 74 #[.pointer (some ⟨bc, 0, none⟩)] (encA p) (KpC bc) (fun xs => xs = four) (fun pre => pre <+: four) 4 w := by
  intro l J Jx W hW hJ hJx hY h0
  have hB := Lib.hid (hbc.next hW)
  have HY := Lib.hid hY
  have H0 := Lib.hid h0
  have HJ := Lib.hid hJ
  obtain ⟨hp1, hp2, hp3, hp4⟩ := hp
  clear hW hY h0 hJ hJx hbc
  refine callsIn_of_wp Try.func74 rfl trivial ?_ rfl
  simp only [Try.ntmps74, List.size_toArray, List.length_cons, List.length_nil, Nat.reduceAdd, Nat.reduceSub, Array.replicate_succ, Array.replicate_zero, List.push_toArray, List.append_toArray, List.nil_append, List.cons_append]
  gi_wp2
  gi_loopw [10] (fun i wr => RA p bc W J i wr) (fun i _ => 4 - (intOf i).toNat)
  case atStart => exact ⟨0, by omega, rfl, hB.out, Nat.le_refl _, H0.out⟩
  case round =>
    obtain ⟨k, hk, rfl, hX, hsz, hJs⟩ := hrel
    by_cases hlt : k < 4
    · rcases (by omega : k = 0 ∨ k = 1 ∨ k = 2 ∨ k = 3) with rfl | rfl | rfl | rfl
      · have hix : ∀ W : World, (Instr.index 124 (.agg #[.int .i64 (-1), .int .i64 0, .int .i64 1, .int .i64 0, .int .i64 0, .int .i64 (-1), .int .i64 0, .int .i64 1]) (.int .i64 0)).run Try.prog W = .ok (.agg #[.int .i64 (-1), .int .i64 (0)]) W := fun W => by kernel_rfl
        have hj := HJ.out _ _ _ none hJs (World.grownBy_alloc wr (Obj.cells #[Value.int .i64 (-1), Value.int .i64 (0)] 90) none) (fun r e => by cases e)
        obtain ⟨fn, tmps, assign, body, hy, hR⟩ := HY.out (four.take 0) (0 : Fin 4) _ hj (by decide)
        dsimp only [encA, nb] at hy
        have HR := Lib.hid hR
        have c0 := (hX.next (nxA wr (Obj.cells #[Value.int .i64 (-1), Value.int .i64 (0)] 90))).c 0 _ rfl
        have c1 := (hX.next (nxA wr (Obj.cells #[Value.int .i64 (-1), Value.int .i64 (0)] 90))).c 1 _ rfl
        have x1 : IntKind.i64.wrap (p.1 + -1) = p.1 + -1 := IntWalk.i64_in _ (by omega)
        have x2 : IntKind.i64.wrap (p.1 + 1) = p.1 + 1 := IntWalk.i64_in _ (by omega)
        have x3 : IntKind.i64.wrap (p.2 + -1) = p.2 + -1 := IntWalk.i64_in _ (by omega)
        have x4 : IntKind.i64.wrap (p.2 + 1) = p.2 + 1 := IntWalk.i64_in _ (by omega)
        have x5 : IntKind.i64.wrap p.1 = p.1 := IntWalk.i64_in _ (by omega)
        have x6 : IntKind.i64.wrap p.2 = p.2 := IntWalk.i64_in _ (by omega)
        have HX := Lib.hid (fun W' (h : KpC bc (wr.alloc (Obj.cells #[Value.int .i64 (-1), Value.int .i64 (0)] 90)) W') => (hX.next (nxA wr (Obj.cells #[Value.int .i64 (-1), Value.int .i64 (0)] 90))).of h.1 h.2)
        have HS := Lib.hid hsz
        clear hR hX hJs hj hsz
        gi_wp2_with fail
        refine HR.out.mono ?_
        rintro e W3 (⟨rfl, hJ3, hk3⟩ | ⟨rfl, hJx3⟩)
        · have hX3 := Lib.hid (HX.out _ hk3)
          have hsz3 := Lib.hid (show W.heap.size ≤ W3.heap.size from by have := hk3.1; have := HS.out; simp at *; omega)
          have hJ3' := Lib.hid hJ3
          clear hJ3 hk3
          gi_wp2
          all_goals (first
            | (refine ⟨?_, ?_⟩; (exact ⟨1, by omega, rfl, hX3.out, hsz3.out, hJ3'.out⟩); (simp [intOf]))
            | (go_roundw; (case rel => exact ⟨1, by omega, rfl, hX3.out, hsz3.out, hJ3'.out⟩); (case measure => simp [intOf])))
        · gi_wp2
          refine bodyPost_ret (results_none rfl _ _ _) rfl ?_
          exact ⟨⟨_, rfl⟩, .inr ⟨_, ⟨four.drop 1, rfl⟩, hJx3⟩⟩
      · have hix : ∀ W : World, (Instr.index 124 (.agg #[.int .i64 (-1), .int .i64 0, .int .i64 1, .int .i64 0, .int .i64 0, .int .i64 (-1), .int .i64 0, .int .i64 1]) (.int .i64 1)).run Try.prog W = .ok (.agg #[.int .i64 (1), .int .i64 (0)]) W := fun W => by kernel_rfl
        have hj := HJ.out _ _ _ none hJs (World.grownBy_alloc wr (Obj.cells #[Value.int .i64 (1), Value.int .i64 (0)] 90) none) (fun r e => by cases e)
        obtain ⟨fn, tmps, assign, body, hy, hR⟩ := HY.out (four.take 1) (1 : Fin 4) _ hj (by decide)
        dsimp only [encA, nb] at hy
        have HR := Lib.hid hR
        have c0 := (hX.next (nxA wr (Obj.cells #[Value.int .i64 (1), Value.int .i64 (0)] 90))).c 0 _ rfl
        have c1 := (hX.next (nxA wr (Obj.cells #[Value.int .i64 (1), Value.int .i64 (0)] 90))).c 1 _ rfl
        have x1 : IntKind.i64.wrap (p.1 + -1) = p.1 + -1 := IntWalk.i64_in _ (by omega)
        have x2 : IntKind.i64.wrap (p.1 + 1) = p.1 + 1 := IntWalk.i64_in _ (by omega)
        have x3 : IntKind.i64.wrap (p.2 + -1) = p.2 + -1 := IntWalk.i64_in _ (by omega)
        have x4 : IntKind.i64.wrap (p.2 + 1) = p.2 + 1 := IntWalk.i64_in _ (by omega)
        have x5 : IntKind.i64.wrap p.1 = p.1 := IntWalk.i64_in _ (by omega)
        have x6 : IntKind.i64.wrap p.2 = p.2 := IntWalk.i64_in _ (by omega)
        have HX := Lib.hid (fun W' (h : KpC bc (wr.alloc (Obj.cells #[Value.int .i64 (1), Value.int .i64 (0)] 90)) W') => (hX.next (nxA wr (Obj.cells #[Value.int .i64 (1), Value.int .i64 (0)] 90))).of h.1 h.2)
        have HS := Lib.hid hsz
        clear hR hX hJs hj hsz
        gi_wp2_with fail
        refine HR.out.mono ?_
        rintro e W3 (⟨rfl, hJ3, hk3⟩ | ⟨rfl, hJx3⟩)
        · have hX3 := Lib.hid (HX.out _ hk3)
          have hsz3 := Lib.hid (show W.heap.size ≤ W3.heap.size from by have := hk3.1; have := HS.out; simp at *; omega)
          have hJ3' := Lib.hid hJ3
          clear hJ3 hk3
          gi_wp2
          all_goals (first
            | (refine ⟨?_, ?_⟩; (exact ⟨2, by omega, rfl, hX3.out, hsz3.out, hJ3'.out⟩); (simp [intOf]))
            | (go_roundw; (case rel => exact ⟨2, by omega, rfl, hX3.out, hsz3.out, hJ3'.out⟩); (case measure => simp [intOf])))
        · gi_wp2
          refine bodyPost_ret (results_none rfl _ _ _) rfl ?_
          exact ⟨⟨_, rfl⟩, .inr ⟨_, ⟨four.drop 2, rfl⟩, hJx3⟩⟩
      · have hix : ∀ W : World, (Instr.index 124 (.agg #[.int .i64 (-1), .int .i64 0, .int .i64 1, .int .i64 0, .int .i64 0, .int .i64 (-1), .int .i64 0, .int .i64 1]) (.int .i64 2)).run Try.prog W = .ok (.agg #[.int .i64 (0), .int .i64 (-1)]) W := fun W => by kernel_rfl
        have hj := HJ.out _ _ _ none hJs (World.grownBy_alloc wr (Obj.cells #[Value.int .i64 (0), Value.int .i64 (-1)] 90) none) (fun r e => by cases e)
        obtain ⟨fn, tmps, assign, body, hy, hR⟩ := HY.out (four.take 2) (2 : Fin 4) _ hj (by decide)
        dsimp only [encA, nb] at hy
        have HR := Lib.hid hR
        have c0 := (hX.next (nxA wr (Obj.cells #[Value.int .i64 (0), Value.int .i64 (-1)] 90))).c 0 _ rfl
        have c1 := (hX.next (nxA wr (Obj.cells #[Value.int .i64 (0), Value.int .i64 (-1)] 90))).c 1 _ rfl
        have x1 : IntKind.i64.wrap (p.1 + -1) = p.1 + -1 := IntWalk.i64_in _ (by omega)
        have x2 : IntKind.i64.wrap (p.1 + 1) = p.1 + 1 := IntWalk.i64_in _ (by omega)
        have x3 : IntKind.i64.wrap (p.2 + -1) = p.2 + -1 := IntWalk.i64_in _ (by omega)
        have x4 : IntKind.i64.wrap (p.2 + 1) = p.2 + 1 := IntWalk.i64_in _ (by omega)
        have x5 : IntKind.i64.wrap p.1 = p.1 := IntWalk.i64_in _ (by omega)
        have x6 : IntKind.i64.wrap p.2 = p.2 := IntWalk.i64_in _ (by omega)
        have HX := Lib.hid (fun W' (h : KpC bc (wr.alloc (Obj.cells #[Value.int .i64 (0), Value.int .i64 (-1)] 90)) W') => (hX.next (nxA wr (Obj.cells #[Value.int .i64 (0), Value.int .i64 (-1)] 90))).of h.1 h.2)
        have HS := Lib.hid hsz
        clear hR hX hJs hj hsz
        gi_wp2_with fail
        refine HR.out.mono ?_
        rintro e W3 (⟨rfl, hJ3, hk3⟩ | ⟨rfl, hJx3⟩)
        · have hX3 := Lib.hid (HX.out _ hk3)
          have hsz3 := Lib.hid (show W.heap.size ≤ W3.heap.size from by have := hk3.1; have := HS.out; simp at *; omega)
          have hJ3' := Lib.hid hJ3
          clear hJ3 hk3
          gi_wp2
          all_goals (first
            | (refine ⟨?_, ?_⟩; (exact ⟨3, by omega, rfl, hX3.out, hsz3.out, hJ3'.out⟩); (simp [intOf]))
            | (go_roundw; (case rel => exact ⟨3, by omega, rfl, hX3.out, hsz3.out, hJ3'.out⟩); (case measure => simp [intOf])))
        · gi_wp2
          refine bodyPost_ret (results_none rfl _ _ _) rfl ?_
          exact ⟨⟨_, rfl⟩, .inr ⟨_, ⟨four.drop 3, rfl⟩, hJx3⟩⟩
      · have hix : ∀ W : World, (Instr.index 124 (.agg #[.int .i64 (-1), .int .i64 0, .int .i64 1, .int .i64 0, .int .i64 0, .int .i64 (-1), .int .i64 0, .int .i64 1]) (.int .i64 3)).run Try.prog W = .ok (.agg #[.int .i64 (0), .int .i64 (1)]) W := fun W => by kernel_rfl
        have hj := HJ.out _ _ _ none hJs (World.grownBy_alloc wr (Obj.cells #[Value.int .i64 (0), Value.int .i64 (1)] 90) none) (fun r e => by cases e)
        obtain ⟨fn, tmps, assign, body, hy, hR⟩ := HY.out (four.take 3) (3 : Fin 4) _ hj (by decide)
        dsimp only [encA, nb] at hy
        have HR := Lib.hid hR
        have c0 := (hX.next (nxA wr (Obj.cells #[Value.int .i64 (0), Value.int .i64 (1)] 90))).c 0 _ rfl
        have c1 := (hX.next (nxA wr (Obj.cells #[Value.int .i64 (0), Value.int .i64 (1)] 90))).c 1 _ rfl
        have x1 : IntKind.i64.wrap (p.1 + -1) = p.1 + -1 := IntWalk.i64_in _ (by omega)
        have x2 : IntKind.i64.wrap (p.1 + 1) = p.1 + 1 := IntWalk.i64_in _ (by omega)
        have x3 : IntKind.i64.wrap (p.2 + -1) = p.2 + -1 := IntWalk.i64_in _ (by omega)
        have x4 : IntKind.i64.wrap (p.2 + 1) = p.2 + 1 := IntWalk.i64_in _ (by omega)
        have x5 : IntKind.i64.wrap p.1 = p.1 := IntWalk.i64_in _ (by omega)
        have x6 : IntKind.i64.wrap p.2 = p.2 := IntWalk.i64_in _ (by omega)
        have HX := Lib.hid (fun W' (h : KpC bc (wr.alloc (Obj.cells #[Value.int .i64 (0), Value.int .i64 (1)] 90)) W') => (hX.next (nxA wr (Obj.cells #[Value.int .i64 (0), Value.int .i64 (1)] 90))).of h.1 h.2)
        have HS := Lib.hid hsz
        clear hR hX hJs hj hsz
        gi_wp2_with fail
        refine HR.out.mono ?_
        rintro e W3 (⟨rfl, hJ3, hk3⟩ | ⟨rfl, hJx3⟩)
        · have hX3 := Lib.hid (HX.out _ hk3)
          have hsz3 := Lib.hid (show W.heap.size ≤ W3.heap.size from by have := hk3.1; have := HS.out; simp at *; omega)
          have hJ3' := Lib.hid hJ3
          clear hJ3 hk3
          gi_wp2
          all_goals (first
            | (refine ⟨?_, ?_⟩; (exact ⟨4, by omega, rfl, hX3.out, hsz3.out, hJ3'.out⟩); (simp [intOf]))
            | (go_roundw; (case rel => exact ⟨4, by omega, rfl, hX3.out, hsz3.out, hJ3'.out⟩); (case measure => simp [intOf])))
        · gi_wp2
          refine bodyPost_ret (results_none rfl _ _ _) rfl ?_
          exact ⟨⟨_, rfl⟩, .inr ⟨_, ⟨four.drop 4, rfl⟩, hJx3⟩⟩
    · obtain rfl : k = 4 := by omega
      gi_wp2
      go_end0
      exact ⟨⟨_, rfl⟩, .inl ⟨four, rfl, hJs⟩⟩
end Go.Proofs.Ytjlicbdnppodgaa
