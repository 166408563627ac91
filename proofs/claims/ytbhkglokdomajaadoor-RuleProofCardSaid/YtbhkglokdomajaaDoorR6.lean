import Derived.Test.YtbhkglokdomajaaDoorR3
namespace Go.Proofs.YtbhkglokdomajaaDoor
open Go.RowKit
/-! The reference: the first blade that cannot run through some stints. -/
def stuckN (bl : List Blade) (bound : Int) (l : List Stint) (a n k : Nat) : Bool := (List.range n).any fun j => decide (bound + (l.getD (a + j) ⟨0, 0⟩).more < worstS (bl.getD k ⟨0, 0, 0, 0⟩) (runSum l a (a + j + 1)))
theorem stuckN_succ (bl : List Blade) (bound : Int) (l : List Stint) (a n k : Nat) : stuckN bl bound l a (n + 1) k = (stuckN bl bound l a n k || decide (bound + (l.getD (a + n) ⟨0, 0⟩).more < worstS (bl.getD k ⟨0, 0, 0, 0⟩) (runSum l a (a + n + 1)))) := by
  unfold stuckN
  rw [List.range_succ, List.any_append]
  simp only [List.any_cons, List.any_nil, Bool.or_false]
theorem stuckN_mono {bl : List Blade} {bound : Int} {l : List Stint} {a n m k : Nat} (h : n ≤ m) (hs : stuckN bl bound l a n k = true) : stuckN bl bound l a m k = true := by
  unfold stuckN at *
  rw [List.any_eq_true] at *
  obtain ⟨j, hj, h2⟩ := hs
  exact ⟨j, List.mem_range.2 (by have := List.mem_range.1 hj; omega), h2⟩
theorem stuckS_hit {bl : List Blade} {bound : Int} {l : List Stint} {a b k : Nat} (hk : k < bl.length) (h1 : ∀ j, j < k → stuckN bl bound l a (b + 1 - a) j = false) (h2 : stuckN bl bound l a (b + 1 - a) k = true) : stuckS bl bound l a b = some k := by
  unfold stuckS
  rw [List.find?_range_eq_some]
  exact ⟨h2, List.mem_range.2 hk, fun j hj => by show (!stuckN bl bound l a (b + 1 - a) j) = true; rw [h1 j hj]; rfl⟩
theorem stuckS_miss {bl : List Blade} {bound : Int} {l : List Stint} {a b : Nat} (h1 : ∀ j, j < bl.length → stuckN bl bound l a (b + 1 - a) j = false) : stuckS bl bound l a b = none := stuckS_none.2 h1
theorem runSum_bd {l : List Stint} (okl : OkL l) {a : Nat} : ∀ i, a ≤ i → i ≤ l.length → 0 ≤ runSum l a i ∧ runSum l a i ≤ 1000 * ((i - a : Nat) : Int) := by
  intro i
  induction i with
  | zero => intro h1 _; rw [show a = 0 by omega, runSum_self]; exact ⟨Int.le_refl _, by omega⟩
  | succ i ih =>
    intro h1 h2
    by_cases e : a = i + 1
    · rw [← e, runSum_self]; exact ⟨Int.le_refl _, by omega⟩
    · have := ih (by omega) (by omega)
      rw [runSum_succ (by omega) (by omega)]
      have ht := okl.st (l.getD i ⟨0, 0⟩) (by rw [List.getD_eq_getElem?_getD, List.getElem?_eq_getElem (by omega)]; exact List.getElem_mem (by omega))
      omega
def RSo (d : Die) (l : List Stint) (a b : Nat) (V : World) (i : Value) (w : World) : Prop := ∃ k : Nat, k ≤ d.blades.length ∧ i = .int .i64 k ∧ (∀ j, j < k → stuckN d.blades d.bound l a (b + 1 - a) j = false) ∧ Below V.heap.size V w
def RSi (d : Die) (l : List Stint) (a b k : Nat) (V : World) (i r : Value) (w : World) : Prop := ∃ n : Nat, n ≤ b + 1 - a ∧ i = .int .i64 ((a + n : Nat) : Int) ∧ r = .int .i64 (runSum l a (a + n)) ∧ stuckN d.blades d.bound l a n k = false ∧ Below V.heap.size V w
/-- What Stuck hands back. -/
def stuckV (o : Option Nat) : Value := match o with
  | some k => .tuple #[.int .i64 (k : Int), .bool true]
  | none => .tuple #[.int .i64 0, .bool false]
set_option maxRecDepth 100000 in
set_option maxHeartbeats 1000000 in
theorem Stuck_any (d : Die) (A2 : Option Addr) (c2 : Nat) (l : List Stint) (a b : Nat) (w : World) (ok : OkD d) (okl : OkL l) (hab : a ≤ b + 1) (hb : b < l.length) (hd : DieAt w w.heap.size d) (hs : At w w.heap.size 2 Stint.cells A2 l) :
    Calls Tryd.prog 36 #[.agg #[.slice d.A d.blades.length d.c, .int .i64 d.bound, .int .i64 d.stop, .int .i64 d.bend], .slice A2 l.length c2, .int .i64 a, .int .i64 b] w (Ret (stuckV (stuckS d.blades d.bound l a b)) w) := by
  obtain ⟨bs, os, eS, -, -⟩ := stint_at hs hb
  have hnl := okl.nl
  have hnb := ok.nb
  have hbo := ok.bound
  have B0 := Lib.hid (nxA w (.cells #[.slice d.A d.blades.length d.c, .int .i64 d.bound, .int .i64 d.stop, .int .i64 d.bend] 24))
  have X0 := Lib.hid (Bx.new w #[.slice d.A d.blades.length d.c, .int .i64 d.bound, .int .i64 d.stop, .int .i64 d.bend] 24)
  have D0 := Lib.hid (hd.next B0.out)
  have S0 := Lib.hid (hs.next B0.out)
  have OK := Lib.hid ok
  have OL := Lib.hid okl
  rw [eS]
  have ES := Lib.hid eS
  have HB := Lib.hid hb
  clear ok okl hd hs eS
  go_enter Tryd.func36, Tryd.ntmps36
  go_wp2
  generalize w.alloc (.cells #[.slice d.A d.blades.length d.c, .int .i64 d.bound, .int .i64 d.stop, .int .i64 d.bend] 24) = V at *
  go_loopw [10] (fun i wr => RSo d l a b V i wr) (fun i _ => d.blades.length - (intOf i).toNat)
  case atStart => exact ⟨0, by omega, rfl, fun j hj => absurd hj (by omega), Below.refl _ _⟩
  case round =>
    obtain ⟨k, hk, rfl, hall, hbl⟩ := hrel
    have hx := X0.out.next hbl
    have c0 := hx.c 0 _ rfl
    have hz := hx.lt
    by_cases hlt : k < d.blades.length
    · have HA := Lib.hid hall
      have HBl := Lib.hid hbl
      clear hall hx hbl
      go_wp2_with fail
      go_loopw [12, 11] (fun i r wr' => RSi d l a b k V i r wr') (fun i _ _ => b + 1 - (intOf i).toNat)
      case atStart => exact ⟨0, by omega, rfl, by rw [Nat.add_zero, runSum_self], rfl, HBl.out⟩
      case round =>
        clear c0 hz
        obtain ⟨n, hn, rfl, rfl, hst, hbl⟩ := hrel
        have hx := X0.out.next hbl
        have hz := hx.lt
        by_cases hin : n < b + 1 - a
        · obtain ⟨b2, o2, e3, hbs, g0, g1⟩ := stint_at (S0.out.next hbl) (k := a + n) (by have := HB.out; omega)
          rw [ES.out] at e3
          injection e3 with e3
          injection e3 with e3 e4
          subst e3 e4
          have hrb := runSum_bd OL.out (a := a) (a + n) (by omega) (by have := HB.out; omega)
          have hrb2 := runSum_bd OL.out (a := a) (a + n + 1) (by omega) (by have := HB.out; omega)
          have hsu := runSum_succ (l := l) (a := a) (b := a + n) (by omega) (by have := HB.out; omega)
          have htl := OL.out.st (l.getD (a + n) ⟨0, 0⟩) (by rw [List.getD_eq_getElem?_getD, List.getElem?_eq_getElem (by have := HB.out; omega)]; exact List.getElem_mem _)
          have HSu := Lib.hid hsu
          have HN := Lib.hid (stuckN_succ d.blades d.bound l a n k)
          clear hsu
          have hx7 : 0 ≤ runSum l a (a + n) + (l.getD (a + n) ⟨0, 0⟩).n ∧ runSum l a (a + n) + (l.getD (a + n) ⟨0, 0⟩).n ≤ 7000 := by
            have := HSu.out
            rw [← this]; have := HB.out; omega
          have HW := Lib.hid (fun W h => Worst_any d k (runSum l a (a + n) + (l.getD (a + n) ⟨0, 0⟩).n) W OK.out hlt hx7 h)
          have DN := Lib.hid (D0.out.next hbl)
          have BN := Lib.hid hbl
          have XN := Lib.hid hx
          rw [HSu.out] at HN
          rw [hst, Bool.false_or, show d.blades.getD k ⟨0, 0, 0, 0⟩ = bladeAt d k from rfl] at HN
          have HSR := Lib.hid (show runSum l a (a + (n + 1)) = runSum l a (a + n) + (l.getD (a + n) ⟨0, 0⟩).n from HSu.out)
          clear HSu hst hx hbl hrb2
          generalize (l.getD (a + n) ⟨0, 0⟩).more = tm at *
          generalize (l.getD (a + n) ⟨0, 0⟩).n = tn at *
          generalize runSum l a (a + n) = x0 at *
          generalize worstS (bladeAt d k) (x0 + tn) = X at *
          have w2 : IntKind.i64.wrap (d.bound + tm) = d.bound + tm := IntWalk.i64_in _ (by omega)
          have hI1 : a + n < l.length := by have := HB.out; omega
          have hI2 : (0 ≤ (a : Int) + (n : Int) ∧ (a : Int) + (n : Int) < (l.length : Int)) = True := by simp; omega
          have hI3 : ((a : Int) + (n : Int)).toNat = a + n := by omega
          by_cases hX : d.bound + tm < X
          · have dX : decide (d.bound + tm < X) = true := decide_eq_true hX
            rw [dX] at HN
            have HIT := Lib.hid (stuckS_hit (b := b) hlt (fun j hj => HA.out j hj) (stuckN_mono (by omega) HN.out))
            clear hX
            go_wp2_with fail
            have hc : Below wr.heap.size wr wr.drew := (Below.refl _ _).drew
            have H9 := Lib.hid (show ∀ W : World, Below wr.heap.size wr W → (W.cell? ⟨w.heap.size, 0, none⟩ = some (.slice d.A d.blades.length d.c) ∧ W.cell? ⟨w.heap.size, 1, none⟩ = some (.int .i64 d.bound) ∧ W.cell? ⟨w.heap.size, 2, none⟩ = some (.int .i64 d.stop) ∧ W.cell? ⟨w.heap.size, 3, none⟩ = some (.int .i64 d.bend) ∧ W.cell? ⟨bs, os + (a + n) * 2 + 1, none⟩ = some (.int .i64 tm)) from fun W h => ⟨(XN.out.next h).c 0 _ rfl, (XN.out.next h).c 1 _ rfl, (XN.out.next h).c 2 _ rfl, (XN.out.next h).c 3 _ rfl, ((bcell h).1 _ _ hbs).trans g1⟩)
            refine wp_region_noPanic ?_
            refine wp_region_held_drew (S := (fun W => W.cell? ⟨w.heap.size, 0, none⟩ = some (.slice d.A d.blades.length d.c) ∧ W.cell? ⟨w.heap.size, 1, none⟩ = some (.int .i64 d.bound) ∧ W.cell? ⟨w.heap.size, 2, none⟩ = some (.int .i64 d.stop) ∧ W.cell? ⟨w.heap.size, 3, none⟩ = some (.int .i64 d.bend) ∧ W.cell? ⟨bs, os + (a + n) * 2 + 1, none⟩ = some (.int .i64 tm))) (by kernel_rfl) ?_ (fun hHeld => ?_)
            · (try dsimp only); exact H9.out _ hc
            refine htake (i := 0) (v := ?v1) rfl (by kernel_rfl) (by kernel_rfl) (by kernel_rfl) (fun _ _ _ h => h) (Or.inl ⟨by rfl, ?hy1⟩) (by assumption) ?_
            case hy1 => (intro w hSw; (try dsimp only at hSw); go_simp; try (with_reducible rfl))
            try simp only [Act.put, List.setIfInBounds_toArray, List.set_cons_zero, List.set_cons_succ]
            refine htake (i := 1) (v := ?v2) rfl (by kernel_rfl) (by kernel_rfl) (by kernel_rfl) (fun _ _ _ h => h) (Or.inl ⟨by rfl, ?hy2⟩) (by assumption) ?_
            case hy2 => (intro w hSw; (try dsimp only at hSw); go_simp; try (with_reducible rfl))
            try simp only [Act.put, List.setIfInBounds_toArray, List.set_cons_zero, List.set_cons_succ]
            refine htake (i := 2) (v := ?v3) rfl (by kernel_rfl) (by kernel_rfl) (by kernel_rfl) (fun _ _ _ h => h) (Or.inl ⟨by rfl, ?hy3⟩) (by assumption) ?_
            case hy3 => (intro w hSw; (try dsimp only at hSw); go_simp; try (with_reducible rfl))
            try simp only [Act.put, List.setIfInBounds_toArray, List.set_cons_zero, List.set_cons_succ]
            refine htake (i := 4) (v := ?v4) rfl (by kernel_rfl) (by kernel_rfl) (by kernel_rfl) (fun _ _ _ h => h) (Or.inl ⟨by rfl, ?hy4⟩) (by assumption) ?_
            case hy4 => (intro w hSw; (try dsimp only at hSw); go_simp; try (with_reducible rfl))
            try simp only [Act.put, List.setIfInBounds_toArray, List.set_cons_zero, List.set_cons_succ]
            refine htake (i := 5) (v := ?v5) rfl (by kernel_rfl) (by kernel_rfl) (by kernel_rfl) (fun _ _ _ h => h) (Or.inl ⟨by rfl, ?hy5⟩) (by assumption) ?_
            case hy5 => (intro w hSw; (try dsimp only at hSw); go_simp; try (with_reducible rfl))
            try simp only [Act.put, List.setIfInBounds_toArray, List.set_cons_zero, List.set_cons_succ]
            refine htake (i := 6) (v := ?v6) rfl (by kernel_rfl) (by kernel_rfl) (by kernel_rfl) (fun _ _ _ h => h) (Or.inl ⟨by rfl, ?hy6⟩) (by assumption) ?_
            case hy6 => (intro w hSw; (try dsimp only at hSw); go_simp; try (with_reducible rfl))
            try simp only [Act.put, List.setIfInBounds_toArray, List.set_cons_zero, List.set_cons_succ]
            refine htake (i := 7) (v := ?v7) rfl (by kernel_rfl) (by kernel_rfl) (by kernel_rfl) (fun _ _ _ h => h) (Or.inl ⟨by rfl, ?hy7⟩) (by assumption) ?_
            case hy7 => (intro w hSw; (try dsimp only at hSw); go_simp; try (with_reducible rfl))
            try simp only [Act.put, List.setIfInBounds_toArray, List.set_cons_zero, List.set_cons_succ]
            refine htake (i := 8) (v := ?v8) rfl (by kernel_rfl) (by kernel_rfl) (by kernel_rfl) (fun _ _ _ h => h) (Or.inl ⟨by rfl, ?hy8⟩) (by assumption) ?_
            case hy8 => (intro w hSw; (try dsimp only at hSw); go_simp; try (with_reducible rfl))
            try simp only [Act.put, List.setIfInBounds_toArray, List.set_cons_zero, List.set_cons_succ]
            refine htake (i := 9) (v := ?v9) rfl (by kernel_rfl) (by kernel_rfl) (by kernel_rfl) (fun _ _ _ h => h) (Or.inl ⟨by rfl, ?hy9⟩) (by assumption) ?_
            case hy9 => (intro w hSw; (try dsimp only at hSw); go_simp; try (with_reducible rfl))
            try simp only [Act.put, List.setIfInBounds_toArray, List.set_cons_zero, List.set_cons_succ]
            refine htake (i := 10) (v := ?v10) rfl (by kernel_rfl) (by kernel_rfl) (by kernel_rfl) (fun _ _ _ h => h) (Or.inl ⟨by rfl, ?hy10⟩) (by assumption) ?_
            case hy10 => (intro w hSw; (try dsimp only at hSw); go_simp; try (with_reducible rfl))
            try simp only [Act.put, List.setIfInBounds_toArray, List.set_cons_zero, List.set_cons_succ]
            refine htake (i := 11) (v := ?v11) rfl (by kernel_rfl) (by kernel_rfl) (by kernel_rfl) (fun _ _ _ h => h) (Or.inl ⟨by rfl, ?hy11⟩) (by assumption) ?_
            case hy11 => (intro w hSw; (try dsimp only at hSw); go_simp; try (with_reducible rfl))
            try simp only [Act.put, List.setIfInBounds_toArray, List.set_cons_zero, List.set_cons_succ]
            refine wpAnyH_ready (rs := [3]) (by kernel_rfl) (by simp) ?_
            refine hcons rfl (fun K hK => ?_) (AllReadyH.nil)
            go_simp
            (with_reducible refine (HW.out _ (DN.out.next hc)).mono ?_); rintro e w4 ⟨rfl, hb4⟩; replace hc := hc.trans (hb4.mono hc.size); clear hb4
            refine hK.out _ _ ?_ (fun hHeld => ?_)
            · (try dsimp only); exact H9.out _ hc
            clear hK K
            try simp only [Act.put, List.setIfInBounds_toArray, List.set_cons_zero, List.set_cons_succ]
            refine htake (i := 12) (v := ?v12) rfl (by kernel_rfl) (by kernel_rfl) (by kernel_rfl) (fun _ _ _ h => h) (Or.inl ⟨by rfl, ?hy12⟩) (by assumption) ?_
            case hy12 => (intro w hSw; (try dsimp only at hSw); go_simp; try (with_reducible rfl))
            try simp only [Act.put, List.setIfInBounds_toArray, List.set_cons_zero, List.set_cons_succ]
            refine wpAnyH_done (by kernel_rfl) ?_ _
            refine NoPanic.normal ?_
            iterate 14 (try clear hHeld)
            go_wp2
            go_ret2
            exact ⟨by rw [HIT.out]; rfl, B0.out.trans ((BN.out.trans (hc.mono BN.out.size)).mono B0.out.size)⟩
          · have dX : decide (d.bound + tm < X) = false := decide_eq_false hX
            rw [dX] at HN
            clear hX
            go_wp2_with fail
            have hc : Below wr.heap.size wr wr.drew := (Below.refl _ _).drew
            have H9 := Lib.hid (show ∀ W : World, Below wr.heap.size wr W → (W.cell? ⟨w.heap.size, 0, none⟩ = some (.slice d.A d.blades.length d.c) ∧ W.cell? ⟨w.heap.size, 1, none⟩ = some (.int .i64 d.bound) ∧ W.cell? ⟨w.heap.size, 2, none⟩ = some (.int .i64 d.stop) ∧ W.cell? ⟨w.heap.size, 3, none⟩ = some (.int .i64 d.bend) ∧ W.cell? ⟨bs, os + (a + n) * 2 + 1, none⟩ = some (.int .i64 tm)) from fun W h => ⟨(XN.out.next h).c 0 _ rfl, (XN.out.next h).c 1 _ rfl, (XN.out.next h).c 2 _ rfl, (XN.out.next h).c 3 _ rfl, ((bcell h).1 _ _ hbs).trans g1⟩)
            refine wp_region_noPanic ?_
            refine wp_region_held_drew (S := (fun W => W.cell? ⟨w.heap.size, 0, none⟩ = some (.slice d.A d.blades.length d.c) ∧ W.cell? ⟨w.heap.size, 1, none⟩ = some (.int .i64 d.bound) ∧ W.cell? ⟨w.heap.size, 2, none⟩ = some (.int .i64 d.stop) ∧ W.cell? ⟨w.heap.size, 3, none⟩ = some (.int .i64 d.bend) ∧ W.cell? ⟨bs, os + (a + n) * 2 + 1, none⟩ = some (.int .i64 tm))) (by kernel_rfl) ?_ (fun hHeld => ?_)
            · (try dsimp only); exact H9.out _ hc
            refine htake (i := 0) (v := ?v13) rfl (by kernel_rfl) (by kernel_rfl) (by kernel_rfl) (fun _ _ _ h => h) (Or.inl ⟨by rfl, ?hy13⟩) (by assumption) ?_
            case hy13 => (intro w hSw; (try dsimp only at hSw); go_simp; try (with_reducible rfl))
            try simp only [Act.put, List.setIfInBounds_toArray, List.set_cons_zero, List.set_cons_succ]
            refine htake (i := 1) (v := ?v14) rfl (by kernel_rfl) (by kernel_rfl) (by kernel_rfl) (fun _ _ _ h => h) (Or.inl ⟨by rfl, ?hy14⟩) (by assumption) ?_
            case hy14 => (intro w hSw; (try dsimp only at hSw); go_simp; try (with_reducible rfl))
            try simp only [Act.put, List.setIfInBounds_toArray, List.set_cons_zero, List.set_cons_succ]
            refine htake (i := 2) (v := ?v15) rfl (by kernel_rfl) (by kernel_rfl) (by kernel_rfl) (fun _ _ _ h => h) (Or.inl ⟨by rfl, ?hy15⟩) (by assumption) ?_
            case hy15 => (intro w hSw; (try dsimp only at hSw); go_simp; try (with_reducible rfl))
            try simp only [Act.put, List.setIfInBounds_toArray, List.set_cons_zero, List.set_cons_succ]
            refine htake (i := 4) (v := ?v16) rfl (by kernel_rfl) (by kernel_rfl) (by kernel_rfl) (fun _ _ _ h => h) (Or.inl ⟨by rfl, ?hy16⟩) (by assumption) ?_
            case hy16 => (intro w hSw; (try dsimp only at hSw); go_simp; try (with_reducible rfl))
            try simp only [Act.put, List.setIfInBounds_toArray, List.set_cons_zero, List.set_cons_succ]
            refine htake (i := 5) (v := ?v17) rfl (by kernel_rfl) (by kernel_rfl) (by kernel_rfl) (fun _ _ _ h => h) (Or.inl ⟨by rfl, ?hy17⟩) (by assumption) ?_
            case hy17 => (intro w hSw; (try dsimp only at hSw); go_simp; try (with_reducible rfl))
            try simp only [Act.put, List.setIfInBounds_toArray, List.set_cons_zero, List.set_cons_succ]
            refine htake (i := 6) (v := ?v18) rfl (by kernel_rfl) (by kernel_rfl) (by kernel_rfl) (fun _ _ _ h => h) (Or.inl ⟨by rfl, ?hy18⟩) (by assumption) ?_
            case hy18 => (intro w hSw; (try dsimp only at hSw); go_simp; try (with_reducible rfl))
            try simp only [Act.put, List.setIfInBounds_toArray, List.set_cons_zero, List.set_cons_succ]
            refine htake (i := 7) (v := ?v19) rfl (by kernel_rfl) (by kernel_rfl) (by kernel_rfl) (fun _ _ _ h => h) (Or.inl ⟨by rfl, ?hy19⟩) (by assumption) ?_
            case hy19 => (intro w hSw; (try dsimp only at hSw); go_simp; try (with_reducible rfl))
            try simp only [Act.put, List.setIfInBounds_toArray, List.set_cons_zero, List.set_cons_succ]
            refine htake (i := 8) (v := ?v20) rfl (by kernel_rfl) (by kernel_rfl) (by kernel_rfl) (fun _ _ _ h => h) (Or.inl ⟨by rfl, ?hy20⟩) (by assumption) ?_
            case hy20 => (intro w hSw; (try dsimp only at hSw); go_simp; try (with_reducible rfl))
            try simp only [Act.put, List.setIfInBounds_toArray, List.set_cons_zero, List.set_cons_succ]
            refine htake (i := 9) (v := ?v21) rfl (by kernel_rfl) (by kernel_rfl) (by kernel_rfl) (fun _ _ _ h => h) (Or.inl ⟨by rfl, ?hy21⟩) (by assumption) ?_
            case hy21 => (intro w hSw; (try dsimp only at hSw); go_simp; try (with_reducible rfl))
            try simp only [Act.put, List.setIfInBounds_toArray, List.set_cons_zero, List.set_cons_succ]
            refine htake (i := 10) (v := ?v22) rfl (by kernel_rfl) (by kernel_rfl) (by kernel_rfl) (fun _ _ _ h => h) (Or.inl ⟨by rfl, ?hy22⟩) (by assumption) ?_
            case hy22 => (intro w hSw; (try dsimp only at hSw); go_simp; try (with_reducible rfl))
            try simp only [Act.put, List.setIfInBounds_toArray, List.set_cons_zero, List.set_cons_succ]
            refine htake (i := 11) (v := ?v23) rfl (by kernel_rfl) (by kernel_rfl) (by kernel_rfl) (fun _ _ _ h => h) (Or.inl ⟨by rfl, ?hy23⟩) (by assumption) ?_
            case hy23 => (intro w hSw; (try dsimp only at hSw); go_simp; try (with_reducible rfl))
            try simp only [Act.put, List.setIfInBounds_toArray, List.set_cons_zero, List.set_cons_succ]
            refine wpAnyH_ready (rs := [3]) (by kernel_rfl) (by simp) ?_
            refine hcons rfl (fun K hK => ?_) (AllReadyH.nil)
            go_simp
            (with_reducible refine (HW.out _ (DN.out.next hc)).mono ?_); rintro e w4 ⟨rfl, hb4⟩; replace hc := hc.trans (hb4.mono hc.size); clear hb4
            refine hK.out _ _ ?_ (fun hHeld => ?_)
            · (try dsimp only); exact H9.out _ hc
            clear hK K
            try simp only [Act.put, List.setIfInBounds_toArray, List.set_cons_zero, List.set_cons_succ]
            refine htake (i := 12) (v := ?v24) rfl (by kernel_rfl) (by kernel_rfl) (by kernel_rfl) (fun _ _ _ h => h) (Or.inl ⟨by rfl, ?hy24⟩) (by assumption) ?_
            case hy24 => (intro w hSw; (try dsimp only at hSw); go_simp; try (with_reducible rfl))
            try simp only [Act.put, List.setIfInBounds_toArray, List.set_cons_zero, List.set_cons_succ]
            refine wpAnyH_done (by kernel_rfl) ?_ _
            refine NoPanic.normal ?_
            iterate 14 (try clear hHeld)
            have HBe := Lib.hid (BN.out.trans (hc.mono BN.out.size))
            have HI := Lib.hid (show ((a + n : Nat) : Int) + 1 = ((a + (n + 1) : Nat) : Int) by omega)
            go_wp2_with fail
            all_goals (first | (refine ⟨?_, ?_⟩; (unfold RSi; exact ⟨n + 1, by omega, by go_num, by rw [HSR.out], HN.out, HBe.out⟩); (simp [intOf]; omega)) | (go_roundw; (case rel => (unfold RSi; exact ⟨n + 1, by omega, by go_num, by rw [HSR.out], HN.out, HBe.out⟩)); (case measure => (simp [intOf]; omega))) | (go_round; (case rel => (unfold RSi; exact ⟨n + 1, by omega, by go_num, by rw [HSR.out], HN.out, HBe.out⟩)); (case measure => (simp [intOf]; omega))))
        · have HS := Lib.hid hst
          have HBe := Lib.hid hbl
          have HR := Lib.hid (show ∀ j, j < k + 1 → stuckN d.blades d.bound l a (b + 1 - a) j = false from fun j hj => by
            by_cases h : j < k
            · exact HA.out j h
            · rw [show j = k by omega, show b + 1 - a = n by omega]; exact HS.out)
          have hai : a + n = b + 1 := by omega
          clear hst hx hbl
          go_wp2_with fail
          all_goals (first | (refine ⟨?_, ?_⟩; (unfold RSo; exact ⟨k + 1, by omega, by go_num, HR.out, HBe.out⟩); (simp [intOf]; omega)) | (go_roundw; (case rel => (unfold RSo; exact ⟨k + 1, by omega, by go_num, HR.out, HBe.out⟩)); (case measure => (simp [intOf]; omega))) | (go_round; (case rel => (unfold RSo; exact ⟨k + 1, by omega, by go_num, HR.out, HBe.out⟩)); (case measure => (simp [intOf]; omega))))
    · have HM := Lib.hid (stuckS_miss (bl := d.blades) (bound := d.bound) (l := l) (a := a) (b := b) (fun j hj => hall j (by omega)))
      have HBl := Lib.hid (B0.out.trans (hbl.mono B0.out.size))
      clear hall hx hbl
      go_wp2
      go_ret2
      exact ⟨by rw [HM.out]; rfl, HBl.out⟩
end Go.Proofs.YtbhkglokdomajaaDoor
