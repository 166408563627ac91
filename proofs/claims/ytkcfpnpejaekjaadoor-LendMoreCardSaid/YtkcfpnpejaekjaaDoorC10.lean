import Derived.Test.YtkcfpnpejaekjaaDoorM1
namespace Go.Proofs.YtkcfpnpejaekjaaDoor
open Go.RowKit
/-! The law LendMore. -/
set_option maxRecDepth 100000 in
set_option maxHeartbeats 4000000 in
theorem LendMore_walk (m : Mt) (s : Look) (k p : Int) (w : World) (hd : TaleAt w w.heap.size m) (he : Env w) : Calls Tryd.prog 10 #[.agg #[.int .i64 m.t.n, .slice m.A1 m.t.loans.length m.c1, .slice m.A2 m.t.looks.length m.c2, .slice m.A3 m.t.admits.length m.c3], .agg #[.int .i64 s.h, .int .i64 s.there, .int .i64 s.gone], .int .i64 k, .int .i64 p] w (Ret (.bool true) w) := by
  have K := Lib.hid (show LwT m w.heap.size (w.alloc (.cells #[.int .i64 m.t.n, .slice m.A1 m.t.loans.length m.c1, .slice m.A2 m.t.looks.length m.c2, .slice m.A3 m.t.admits.length m.c3] 26)) from ⟨hd.next (nxA _ _), he.next (nxA _ _), Bx.new w #[.int .i64 m.t.n, .slice m.A1 m.t.loans.length m.c1, .slice m.A2 m.t.looks.length m.c2, .slice m.A3 m.t.admits.length m.c3] 26⟩)
  have HB := Lib.hid (nxA w (.cells #[.int .i64 m.t.n, .slice m.A1 m.t.loans.length m.c1, .slice m.A2 m.t.looks.length m.c2, .slice m.A3 m.t.admits.length m.c3] 26))
  clear hd he
  have h1 : (w.alloc (.cells #[.int .i64 m.t.n, .slice m.A1 m.t.loans.length m.c1, .slice m.A2 m.t.looks.length m.c2, .slice m.A3 m.t.admits.length m.c3] 26)).heap.size = w.heap.size + 1 := by simp
  go_enter Tryd.func10, Tryd.ntmps10
  go_upto_region 1 with fail
  generalize (w.alloc (.cells #[.int .i64 m.t.n, .slice m.A1 m.t.loans.length m.c1, .slice m.A2 m.t.looks.length m.c2, .slice m.A3 m.t.admits.length m.c3] 26)) = V0 at *
  have hA := nxA V0 (.cells #[.int .i64 s.h, .int .i64 s.there, .int .i64 s.gone] 50)
  replace K := Lib.hid (K.out.next hA)
  replace HB := Lib.hid (HB.out.trans (hA.mono HB.out.size))
  have SB := Lib.hid (Bx.new V0 #[.int .i64 s.h, .int .i64 s.there, .int .i64 s.gone] 50)
  clear hA
  rw [h1] at SB
  generalize (V0.alloc (.cells #[.int .i64 s.h, .int .i64 s.there, .int .i64 s.gone] 50)) = V2 at *
  clear h1
  have p0 := K.out.bx.c 0 _ rfl
  have p1 := K.out.bx.c 1 _ rfl
  have p2 := K.out.bx.c 2 _ rfl
  have p3 := K.out.bx.c 3 _ rfl
  go_wp2_with fail
  refine (far_any m V2).mono ?_
  rintro e V3 ⟨rfl, hb⟩
  replace SB := Lib.hid (SB.out.next hb)
  replace K := Lib.hid (K.out.next hb)
  replace HB := Lib.hid (HB.out.trans (hb.mono HB.out.size))
  clear hb p0 p1 p2 p3
  have p0 := K.out.bx.c 0 _ rfl
  have p1 := K.out.bx.c 1 _ rfl
  have p2 := K.out.bx.c 2 _ rfl
  have p3 := K.out.bx.c 3 _ rfl
  cases hfar : farS m.t
  rotate_left
  ·
    go_wp2_with fail
    refine (awake_any V3 K.out.en).mono ?_
    rintro e V99 ⟨rfl, hb⟩
    go_wp2_with fail
    go_ret
    exact ⟨rfl, HB.out.trans (hb.mono HB.out.size)⟩
  · have hfl : m.t.looks.length ≤ 25 := by
      unfold farS at hfar
      simp only [Bool.or_eq_false_iff, decide_eq_false_iff_not] at hfar
      omega
    clear hfar
    by_cases g1 : (20 : Int) ≤ (m.t.looks.length : Int)
    · have d1 : decide ((20 : Int) ≤ (m.t.looks.length : Int)) = true := decide_eq_true g1
      go_wp2_with fail
      refine (awake_any V3 K.out.en).mono ?_
      rintro e V99 ⟨rfl, hb⟩
      go_wp2_with fail
      go_ret
      exact ⟨rfl, HB.out.trans (hb.mono HB.out.size)⟩
    · have d1 : decide ((20 : Int) ≤ (m.t.looks.length : Int)) = false := decide_eq_false g1
      go_upto_region 4 with fail
      have NA := Lib.hid (nxA V3 (.cells #[.int .i64 m.t.n, .slice m.A1 m.t.loans.length m.c1, .slice m.A2 m.t.looks.length m.c2, .slice m.A3 m.t.admits.length m.c3] 26))
      have X9 := Lib.hid (Bx.new V3 #[.int .i64 m.t.n, .slice m.A1 m.t.loans.length m.c1, .slice m.A2 m.t.looks.length m.c2, .slice m.A3 m.t.admits.length m.c3] 26)
      have N9 := Lib.hid (show V3.heap.size < (V3.alloc (.cells #[.int .i64 m.t.n, .slice m.A1 m.t.loans.length m.c1, .slice m.A2 m.t.looks.length m.c2, .slice m.A3 m.t.admits.length m.c3] 26)).heap.size from X9.out.lt)
      generalize (V3.alloc (.cells #[.int .i64 m.t.n, .slice m.A1 m.t.loans.length m.c1, .slice m.A2 m.t.looks.length m.c2, .slice m.A3 m.t.admits.length m.c3] 26)) = U at *
      obtain ⟨b9, hb9⟩ : ∃ b, b = V3.heap.size := ⟨_, rfl⟩
      have L9 := Lib.hid (show V3.heap.size ≤ b9 by omega)
      have M9 := Lib.hid (show b9 < U.heap.size by have := N9.out; omega)
      rw [← hb9] at X9 ⊢
      clear hb9 N9
      clear p0 p1 p2 p3
      have hK1 := K.out.bx.lt
      have SBU := Lib.hid (SB.out.next NA.out)
      have hS1 := SB.out.lt
      have HS := Lib.hid (show ∀ W : World, Below U.heap.size U W → (W.cell? ⟨w.heap.size, 2, none⟩ = some (.slice m.A2 m.t.looks.length m.c2) ∧ W.cell? ⟨w.heap.size + 1, 0, none⟩ = some (.int .i64 s.h) ∧ W.cell? ⟨w.heap.size + 1, 1, none⟩ = some (.int .i64 s.there) ∧ W.cell? ⟨w.heap.size + 1, 2, none⟩ = some (.int .i64 s.gone)) from fun W h => ⟨(K.out.next (NA.out.trans (h.mono NA.out.size))).bx.c 2 _ rfl, (SBU.out.next h).c 0 _ rfl, (SBU.out.next h).c 1 _ rfl, (SBU.out.next h).c 2 _ rfl⟩)
      have HL := Lib.hid (show ∀ W : World, Below U.heap.size U W → At W U.heap.size 3 Look.cells m.A2 m.t.looks from fun W h => ((K.out.next NA.out).ta.lk.below h))
      have hc : Below U.heap.size U U.drew := (Below.refl _ _).drew
      obtain ⟨ib, gi, gz0, gz1, gz2⟩ := info_parts sight_info
      go_cut [] (fun wx => MoreAt V3 b9 m (m.t.looks ++ [s]) wx)
      case first =>
        refine wp_region_noPanic ?_
        refine wp_region_held_drew (S := (fun W => W.cell? ⟨w.heap.size, 2, none⟩ = some (.slice m.A2 m.t.looks.length m.c2) ∧ W.cell? ⟨w.heap.size + 1, 0, none⟩ = some (.int .i64 s.h) ∧ W.cell? ⟨w.heap.size + 1, 1, none⟩ = some (.int .i64 s.there) ∧ W.cell? ⟨w.heap.size + 1, 2, none⟩ = some (.int .i64 s.gone))) (by kernel_rfl) ?_ (fun hHeld => ?_)
        · (try dsimp only); exact HS.out _ hc
        refine htake (i := 1) (v := ?v1) rfl (by kernel_rfl) (by kernel_rfl) (by kernel_rfl) (fun _ _ _ h => h) (Or.inl ⟨by rfl, ?hy1⟩) (by assumption) ?_
        case hy1 => (intro w hSw; (try dsimp only at hSw); go_simp; try (with_reducible rfl))
        try simp only [Act.put, List.setIfInBounds_toArray, List.set_cons_zero, List.set_cons_succ]
        refine htake (i := 2) (v := ?v2) rfl (by kernel_rfl) (by kernel_rfl) (by kernel_rfl) (fun _ _ _ h => h) (Or.inl ⟨by rfl, ?hy2⟩) (by assumption) ?_
        case hy2 => (intro w hSw; (try dsimp only at hSw); go_simp; try (with_reducible rfl))
        try simp only [Act.put, List.setIfInBounds_toArray, List.set_cons_zero, List.set_cons_succ]
        refine htake (i := 4) (v := ?v3) rfl (by kernel_rfl) (by kernel_rfl) (by kernel_rfl) (fun _ _ _ h => h) (Or.inl ⟨by rfl, ?hy3⟩) (by assumption) ?_
        case hy3 => (intro w hSw; (try dsimp only at hSw); go_simp; try (with_reducible rfl))
        try simp only [Act.put, List.setIfInBounds_toArray, List.set_cons_zero, List.set_cons_succ]
        refine wpAnyH_ready (rs := [0, 5]) (by kernel_rfl) (by simp) ?_
        refine hcons rfl (fun K hK => ?_) (hcons rfl (fun K hK => ?_) (AllReadyH.nil))
        go_simp
        (first | refine hold_alloc (fun wa hq1 hq2 hq3 => ?_) | refine hold_alloc_drew (fun wa hq1 hq2 hq3 => ?_)); have hg0 := hq2.lt; have ho := own_empty (size := 3) (base := U.heap.size) hq3 hc.size; (first | replace hc := hc.trans (hq1.mono hc.size) | replace hc := hq1); (try replace hn := hn.next hq1); clear hq1 hq2 hq3
        refine hK.out _ _ ?_ (fun hHeld => ?_)
        · (try dsimp only); exact HS.out _ hc
        clear hK K
        try simp only [Act.put, List.setIfInBounds_toArray, List.set_cons_zero, List.set_cons_succ]
        refine wpAnyH_ready (rs := [3, 5]) (by kernel_rfl) (by simp) ?_
        refine hcons rfl (fun K hK => ?_) (hcons rfl (fun K hK => ?_) (AllReadyH.nil))
        refine step_append_list rfl (.tmp 38) (.tmp 40) 23 rfl U.heap.size 50 ib (.agg #[.int .i64 0, .int .i64 0, .int .i64 0]) 3 24 Tryd.underlying23 gi gz0 gz1 gz2 rfl (by decide) (fun _ => rfl) sight_one _ 0 [] rfl ho m.A2 m.t.looks m.c2 U.heap.size rfl (HL.out _ hc) (by unfold maxLen; omega) (by omega) hc.size ?_; intro v3 w3 ho3 hg3; (try replace hn := hn.grown hg3 (fun e => by injection e with e; (try simp only at e); omega)); replace hc := grown_from hc hg3 hc.size (fun g e => (ho.lt g e).1); clear hg3
        refine hK.out _ _ ?_ (fun hHeld => ?_)
        · (try dsimp only); exact HS.out _ hc
        clear hK K
        try simp only [Act.put, List.setIfInBounds_toArray, List.set_cons_zero, List.set_cons_succ]
        refine wpAnyH_ready (rs := [5]) (by kernel_rfl) (by simp) ?_
        refine hcons rfl (fun K hK => ?_) (AllReadyH.nil)
        go_simp
        (first | refine hold_alloc (fun wb hq1 hq2 hq3 => ?_) | refine hold_alloc_drew (fun wb hq1 hq2 hq3 => ?_)); have hg5 := hq2.lt; (try replace ho := own_below ho hq1); (try replace ho3 := own_below ho3 hq1); (first | replace hc := hc.trans (hq1.mono hc.size) | replace hc := hq1); have hn := hq2; clear hq1 hq2 hq3
        refine hK.out _ _ ?_ (fun hHeld => ?_)
        · (try dsimp only); exact HS.out _ hc
        clear hK K
        try simp only [Act.put, List.setIfInBounds_toArray, List.set_cons_zero, List.set_cons_succ]
        refine wpAnyH_ready (rs := [6]) (by kernel_rfl) (by simp) ?_
        refine hcons rfl (fun K hK => ?_) (AllReadyH.nil)
        refine step_append_any rfl (.tmp 41) (.tmp 43) 23 rfl U.heap.size 50 ib (.agg #[.int .i64 0, .int .i64 0, .int .i64 0]) 3 24 Tryd.underlying23 gi gz0 gz1 gz2 rfl (by decide) v3 (0 + m.t.looks.length) ([] ++ m.t.looks.flatMap Look.cells) rfl ho3 ⟨_, 0, none⟩ 1 1 (([s] : List Look).flatMap Look.cells) rfl rfl hn.news (fun u hu => by obtain ⟨y, -, hy⟩ := List.mem_flatMap.1 hu; exact sight_one y u hy) (by unfold maxLen; omega) (by omega) hc.size ?_; intro v6 w6 ho6 hg6; replace hc := grown_from hc hg6 hc.size (fun g e => (ho3.lt g e).1); clear hg6; rw [Nat.zero_add, List.nil_append] at ho6; obtain ⟨A6, c6, rfl, -⟩ := own_form ho6
        refine hK.out _ _ ?_ (fun hHeld => ?_)
        · (try dsimp only); exact HS.out _ hc
        clear hK K
        try simp only [Act.put, List.setIfInBounds_toArray, List.set_cons_zero, List.set_cons_succ]
        refine htake (i := 7) (v := ?v4) rfl (by kernel_rfl) (by kernel_rfl) (by kernel_rfl) (fun _ _ _ h => h) (Or.inl ⟨by rfl, ?hy4⟩) (by assumption) ?_
        case hy4 => (intro w hSw; (try dsimp only at hSw); go_simp; try (with_reducible rfl))
        try simp only [Act.put, List.setIfInBounds_toArray, List.set_cons_zero, List.set_cons_succ]
        refine wpAnyH_ready (rs := [8]) (by kernel_rfl) (by simp) ?_
        refine hcons rfl (fun K hK => ?_) (AllReadyH.nil)
        have z0 := (X9.out.next hc).c 2 _ rfl; have z1 := (X9.out.next hc).fr 2; go_simp
        refine hK.out _ _ ?_ (fun hHeld => ?_)
        · (try dsimp only); exact ⟨(World.cell?_setCell_other _ _ _ _ (by intro e; injection e with e; have := L9.out; have := M9.out; omega)).trans (HS.out _ hc).1, (World.cell?_setCell_other _ _ _ _ (by intro e; injection e with e; have := L9.out; have := M9.out; omega)).trans (HS.out _ hc).2.1, (World.cell?_setCell_other _ _ _ _ (by intro e; injection e with e; have := L9.out; have := M9.out; omega)).trans (HS.out _ hc).2.2.1, (World.cell?_setCell_other _ _ _ _ (by intro e; injection e with e; have := L9.out; have := M9.out; omega)).trans (HS.out _ hc).2.2.2⟩
        clear hK K
        try simp only [Act.put]
        refine wpAnyH_done (by kernel_rfl) ?_ _
        refine NoPanic.normal ?_
        rotate_left
        go_simp
        (first | refine hold_alloc (fun wb hq1 hq2 hq3 => ?_) | refine hold_alloc_drew (fun wb hq1 hq2 hq3 => ?_)); have hg5 := hq2.lt; (try replace ho := own_below ho hq1); (try replace ho3 := own_below ho3 hq1); (first | replace hc := hc.trans (hq1.mono hc.size) | replace hc := hq1); have hn := hq2; clear hq1 hq2 hq3
        refine hK.out _ _ ?_ (fun hHeld => ?_)
        · (try dsimp only); exact HS.out _ hc
        clear hK K
        try simp only [Act.put, List.setIfInBounds_toArray, List.set_cons_zero, List.set_cons_succ]
        refine wpAnyH_ready (rs := [3]) (by kernel_rfl) (by simp) ?_
        refine hcons rfl (fun K hK => ?_) (AllReadyH.nil)
        refine step_append_list rfl (.tmp 38) (.tmp 40) 23 rfl U.heap.size 50 ib (.agg #[.int .i64 0, .int .i64 0, .int .i64 0]) 3 24 Tryd.underlying23 gi gz0 gz1 gz2 rfl (by decide) (fun _ => rfl) sight_one _ 0 [] rfl ho m.A2 m.t.looks m.c2 U.heap.size rfl (HL.out _ hc) (by unfold maxLen; omega) (by omega) hc.size ?_; intro v3 w3 ho3 hg3; (try replace hn := hn.grown hg3 (fun e => by injection e with e; (try simp only at e); omega)); replace hc := grown_from hc hg3 hc.size (fun g e => (ho.lt g e).1); clear hg3
        refine hK.out _ _ ?_ (fun hHeld => ?_)
        · (try dsimp only); exact HS.out _ hc
        clear hK K
        try simp only [Act.put, List.setIfInBounds_toArray, List.set_cons_zero, List.set_cons_succ]
        refine wpAnyH_ready (rs := [6]) (by kernel_rfl) (by simp) ?_
        refine hcons rfl (fun K hK => ?_) (AllReadyH.nil)
        refine step_append_any rfl (.tmp 41) (.tmp 43) 23 rfl U.heap.size 50 ib (.agg #[.int .i64 0, .int .i64 0, .int .i64 0]) 3 24 Tryd.underlying23 gi gz0 gz1 gz2 rfl (by decide) v3 (0 + m.t.looks.length) ([] ++ m.t.looks.flatMap Look.cells) rfl ho3 ⟨_, 0, none⟩ 1 1 (([s] : List Look).flatMap Look.cells) rfl rfl hn.news (fun u hu => by obtain ⟨y, -, hy⟩ := List.mem_flatMap.1 hu; exact sight_one y u hy) (by unfold maxLen; omega) (by omega) hc.size ?_; intro v6 w6 ho6 hg6; replace hc := grown_from hc hg6 hc.size (fun g e => (ho3.lt g e).1); clear hg6; rw [Nat.zero_add, List.nil_append] at ho6; obtain ⟨A6, c6, rfl, -⟩ := own_form ho6
        refine hK.out _ _ ?_ (fun hHeld => ?_)
        · (try dsimp only); exact HS.out _ hc
        clear hK K
        try simp only [Act.put, List.setIfInBounds_toArray, List.set_cons_zero, List.set_cons_succ]
        refine htake (i := 7) (v := ?v5) rfl (by kernel_rfl) (by kernel_rfl) (by kernel_rfl) (fun _ _ _ h => h) (Or.inl ⟨by rfl, ?hy5⟩) (by assumption) ?_
        case hy5 => (intro w hSw; (try dsimp only at hSw); go_simp; try (with_reducible rfl))
        try simp only [Act.put, List.setIfInBounds_toArray, List.set_cons_zero, List.set_cons_succ]
        refine wpAnyH_ready (rs := [8]) (by kernel_rfl) (by simp) ?_
        refine hcons rfl (fun K hK => ?_) (AllReadyH.nil)
        have z0 := (X9.out.next hc).c 2 _ rfl; have z1 := (X9.out.next hc).fr 2; go_simp
        refine hK.out _ _ ?_ (fun hHeld => ?_)
        · (try dsimp only); exact ⟨(World.cell?_setCell_other _ _ _ _ (by intro e; injection e with e; have := L9.out; have := M9.out; omega)).trans (HS.out _ hc).1, (World.cell?_setCell_other _ _ _ _ (by intro e; injection e with e; have := L9.out; have := M9.out; omega)).trans (HS.out _ hc).2.1, (World.cell?_setCell_other _ _ _ _ (by intro e; injection e with e; have := L9.out; have := M9.out; omega)).trans (HS.out _ hc).2.2.1, (World.cell?_setCell_other _ _ _ _ (by intro e; injection e with e; have := L9.out; have := M9.out; omega)).trans (HS.out _ hc).2.2.2⟩
        clear hK K
        try simp only [Act.put]
        refine wpAnyH_done (by kernel_rfl) ?_ _
        refine NoPanic.normal ?_
        rotate_left
        go_simp
        (first | refine hold_alloc (fun wb hq1 hq2 hq3 => ?_) | refine hold_alloc_drew (fun wb hq1 hq2 hq3 => ?_)); have hg5 := hq2.lt; (try replace ho := own_below ho hq1); (try replace ho3 := own_below ho3 hq1); (first | replace hc := hc.trans (hq1.mono hc.size) | replace hc := hq1); have hn := hq2; clear hq1 hq2 hq3
        refine hK.out _ _ ?_ (fun hHeld => ?_)
        · (try dsimp only); exact HS.out _ hc
        clear hK K
        try simp only [Act.put, List.setIfInBounds_toArray, List.set_cons_zero, List.set_cons_succ]
        refine wpAnyH_ready (rs := [0]) (by kernel_rfl) (by simp) ?_
        refine hcons rfl (fun K hK => ?_) (AllReadyH.nil)
        go_simp
        (first | refine hold_alloc (fun wa hq1 hq2 hq3 => ?_) | refine hold_alloc_drew (fun wa hq1 hq2 hq3 => ?_)); have hg0 := hq2.lt; have ho := own_empty (size := 3) (base := U.heap.size) hq3 hc.size; (first | replace hc := hc.trans (hq1.mono hc.size) | replace hc := hq1); (try replace hn := hn.next hq1); clear hq1 hq2 hq3
        refine hK.out _ _ ?_ (fun hHeld => ?_)
        · (try dsimp only); exact HS.out _ hc
        clear hK K
        try simp only [Act.put, List.setIfInBounds_toArray, List.set_cons_zero, List.set_cons_succ]
        refine wpAnyH_ready (rs := [3]) (by kernel_rfl) (by simp) ?_
        refine hcons rfl (fun K hK => ?_) (AllReadyH.nil)
        refine step_append_list rfl (.tmp 38) (.tmp 40) 23 rfl U.heap.size 50 ib (.agg #[.int .i64 0, .int .i64 0, .int .i64 0]) 3 24 Tryd.underlying23 gi gz0 gz1 gz2 rfl (by decide) (fun _ => rfl) sight_one _ 0 [] rfl ho m.A2 m.t.looks m.c2 U.heap.size rfl (HL.out _ hc) (by unfold maxLen; omega) (by omega) hc.size ?_; intro v3 w3 ho3 hg3; (try replace hn := hn.grown hg3 (fun e => by injection e with e; (try simp only at e); omega)); replace hc := grown_from hc hg3 hc.size (fun g e => (ho.lt g e).1); clear hg3
        refine hK.out _ _ ?_ (fun hHeld => ?_)
        · (try dsimp only); exact HS.out _ hc
        clear hK K
        try simp only [Act.put, List.setIfInBounds_toArray, List.set_cons_zero, List.set_cons_succ]
        refine wpAnyH_ready (rs := [6]) (by kernel_rfl) (by simp) ?_
        refine hcons rfl (fun K hK => ?_) (AllReadyH.nil)
        refine step_append_any rfl (.tmp 41) (.tmp 43) 23 rfl U.heap.size 50 ib (.agg #[.int .i64 0, .int .i64 0, .int .i64 0]) 3 24 Tryd.underlying23 gi gz0 gz1 gz2 rfl (by decide) v3 (0 + m.t.looks.length) ([] ++ m.t.looks.flatMap Look.cells) rfl ho3 ⟨_, 0, none⟩ 1 1 (([s] : List Look).flatMap Look.cells) rfl rfl hn.news (fun u hu => by obtain ⟨y, -, hy⟩ := List.mem_flatMap.1 hu; exact sight_one y u hy) (by unfold maxLen; omega) (by omega) hc.size ?_; intro v6 w6 ho6 hg6; replace hc := grown_from hc hg6 hc.size (fun g e => (ho3.lt g e).1); clear hg6; rw [Nat.zero_add, List.nil_append] at ho6; obtain ⟨A6, c6, rfl, -⟩ := own_form ho6
        refine hK.out _ _ ?_ (fun hHeld => ?_)
        · (try dsimp only); exact HS.out _ hc
        clear hK K
        try simp only [Act.put, List.setIfInBounds_toArray, List.set_cons_zero, List.set_cons_succ]
        refine htake (i := 7) (v := ?v6) rfl (by kernel_rfl) (by kernel_rfl) (by kernel_rfl) (fun _ _ _ h => h) (Or.inl ⟨by rfl, ?hy6⟩) (by assumption) ?_
        case hy6 => (intro w hSw; (try dsimp only at hSw); go_simp; try (with_reducible rfl))
        try simp only [Act.put, List.setIfInBounds_toArray, List.set_cons_zero, List.set_cons_succ]
        refine wpAnyH_ready (rs := [8]) (by kernel_rfl) (by simp) ?_
        refine hcons rfl (fun K hK => ?_) (AllReadyH.nil)
        have z0 := (X9.out.next hc).c 2 _ rfl; have z1 := (X9.out.next hc).fr 2; go_simp
        refine hK.out _ _ ?_ (fun hHeld => ?_)
        · (try dsimp only); exact ⟨(World.cell?_setCell_other _ _ _ _ (by intro e; injection e with e; have := L9.out; have := M9.out; omega)).trans (HS.out _ hc).1, (World.cell?_setCell_other _ _ _ _ (by intro e; injection e with e; have := L9.out; have := M9.out; omega)).trans (HS.out _ hc).2.1, (World.cell?_setCell_other _ _ _ _ (by intro e; injection e with e; have := L9.out; have := M9.out; omega)).trans (HS.out _ hc).2.2.1, (World.cell?_setCell_other _ _ _ _ (by intro e; injection e with e; have := L9.out; have := M9.out; omega)).trans (HS.out _ hc).2.2.2⟩
        clear hK K
        try simp only [Act.put]
        refine wpAnyH_done (by kernel_rfl) ?_ _
        refine NoPanic.normal ?_
        iterate 10 (try clear hHeld)
        all_goals (go_wp2_with fail; go_meet)
        all_goals (exact more_at (X9.out.next hc) L9.out (NA.out.trans (hc.mono NA.out.size)) (by simp) M9.out (by simp) (own_more ho6))
      case rest =>
        have MA := Lib.hid hcut
        clear hcut hc gi gz0 gz1 gz2 HS HL NA X9 L9 M9
        generalize wc = V4 at *
        obtain ⟨A9, c9, hc9, hX9, hA9⟩ := MA.out.at_
        have X9 := Lib.hid hX9
        have HA9 := Lib.hid hA9
        have HC9 := Lib.hid hc9
        have hb := MA.out.bw
        replace SB := Lib.hid (SB.out.next hb)
        replace K := Lib.hid (K.out.next hb)
        replace HB := Lib.hid (HB.out.trans (hb.mono HB.out.size))
        clear hb hX9 hA9 hc9 MA
        obtain ⟨mx, hmx⟩ : ∃ q, lookM m (m.t.looks ++ [s]) A9 c9 = q := ⟨_, rfl⟩
        have HMT := Lib.hid (show mx.t = addL m.t s by rw [← hmx]; rfl)
        have HML := Lib.hid (show mx.t.looks.length = m.t.looks.length + 1 by rw [← hmx]; show (m.t.looks ++ [s]).length = _; simp)
        have KX := Lib.hid (show LwT mx b9 V4 from ⟨by rw [← hmx]; exact lookM_tale K.out.ta (by simp; omega) HC9.out HA9.out, K.out.en, by rw [← hmx]; exact X9.out⟩)
        clear hmx X9 HA9 HC9
        obtain ⟨a, e, hH1⟩ : ∃ a e, whoS m.t k = (a, e) := ⟨_, _, rfl⟩
        obtain ⟨b, f, hH2⟩ : ∃ a e, whoS mx.t k = (a, e) := ⟨_, _, rfl⟩
        obtain ⟨slo, shi, g, hH3⟩ : ∃ lo hi el, lostS m.t p = ((lo, hi), el) := ⟨_, _, _, rfl⟩
        obtain ⟨olo, ohi, h, hH4⟩ : ∃ lo hi el, lostS mx.t p = ((lo, hi), el) := ⟨_, _, _, rfl⟩
        obtain ⟨wlo, whi, gone, i, hH5⟩ : ∃ lo hi gone ew, winS m.t k = ⟨lo, hi, gone, ew⟩ := ⟨_, _, _, _, rfl⟩
        obtain ⟨vlo, vhi, now, j, hH6⟩ : ∃ lo hi gone ew, winS mx.t k = ⟨lo, hi, gone, ew⟩ := ⟨_, _, _, _, rfl⟩
        obtain ⟨c, kk, hH7⟩ : ∃ c e, clashS m.t = (c, e) := ⟨_, _, rfl⟩
        obtain ⟨d, ll, hH8⟩ : ∃ c e, clashS mx.t = (c, e) := ⟨_, _, rfl⟩
        have F1 := Lib.hid (show f = 0 → e = 0 ∧ bits .andNot .i64 (b : Int) (a : Int) = 0 from fun h0 => by
          rw [h0, HMT.out] at hH2
          obtain ⟨a', h1, h2⟩ := who_more hH2
          rw [hH1] at h1
          injection h1 with h1 h3
          subst h1
          have ha := who_lt m.t k
          have hb := who_lt (addL m.t s) k
          rw [hH1] at ha
          rw [hH2] at hb
          exact ⟨h3, andNot_sub ha hb h2⟩)
        have F2 := Lib.hid (show h = 0 → g = 0 ∧ slo ≤ olo ∧ ohi ≤ shi from fun h0 => by
          rw [h0, HMT.out] at hH4
          obtain ⟨lo, hi, h1, h2, h3⟩ := lost_more hH4
          rw [hH3] at h1
          injection h1 with h1 h4
          injection h1 with h1 h5
          subst h1 h5
          exact ⟨h4, h2, h3⟩)
        have F3 := Lib.hid (show j = 0 → i = 0 ∧ (gone = true → now = true) ∧ (¬ (vlo = 0 ∧ vhi = 0) → wlo ≤ vlo ∧ vhi ≤ whi) from fun h0 => by
          rw [HMT.out] at hH6
          have := win_more (t := m.t) (s := s) (k := k) (by rw [hH6]; exact h0)
          rw [hH5, hH6] at this
          exact this)
        have F4 := Lib.hid (show kk = 0 → okTale mx.t = true → ll = 0 ∧ (c = d ∨ (c = m.t.looks.length ∧ d = ((m.t.looks.length + 1 : Nat) : Int))) from fun h0 h1 => by
          rw [h0] at hH7
          rw [HMT.out] at hH8 h1
          obtain ⟨d', h2, h3⟩ := clash_more hH7 h1
          rw [hH8] at h2
          injection h2 with h2 h4
          subst h2
          exact ⟨h4, h3⟩)
        have H1 := Lib.hid hH1
        have H2 := Lib.hid hH2
        have H3 := Lib.hid hH3
        have H4 := Lib.hid hH4
        have H5 := Lib.hid hH5
        have H6 := Lib.hid hH6
        have H7 := Lib.hid hH7
        have H8 := Lib.hid hH8
        clear hH1 hH2 hH3 hH4 hH5 hH6 hH7 hH8
        have p0 := K.out.bx.c 0 _ rfl
        have p1 := K.out.bx.c 1 _ rfl
        have p2 := K.out.bx.c 2 _ rfl
        have p3 := K.out.bx.c 3 _ rfl
        go_wp2_with fail
        have hcon := (Who_any m k V4 K.out.ta K.out.en)
        rw [H1.out] at hcon
        refine (hcon).mono ?_
        rintro e V5 ⟨rfl, hb⟩
        replace SB := Lib.hid (SB.out.next hb)
        replace KX := Lib.hid (KX.out.next hb)
        replace K := Lib.hid (K.out.next hb)
        replace HB := Lib.hid (HB.out.trans (hb.mono HB.out.size))
        clear hb p0 p1 p2 p3 hcon
        dsimp only [RetWho]
        go_upto_region 6 with fail
        have p0 := KX.out.bx.c 0 _ rfl
        have p1 := KX.out.bx.c 1 _ rfl
        have p2 := KX.out.bx.c 2 _ rfl
        have p3 := KX.out.bx.c 3 _ rfl
        go_wp2_with fail
        have hcon := (Who_any mx k V5 KX.out.ta K.out.en)
        rw [H2.out] at hcon
        refine (hcon).mono ?_
        rintro e V6 ⟨rfl, hb⟩
        replace SB := Lib.hid (SB.out.next hb)
        replace KX := Lib.hid (KX.out.next hb)
        replace K := Lib.hid (K.out.next hb)
        replace HB := Lib.hid (HB.out.trans (hb.mono HB.out.size))
        clear hb p0 p1 p2 p3 hcon
        dsimp only [RetWho]
        go_upto_region 7 with fail
        have p0 := K.out.bx.c 0 _ rfl
        have p1 := K.out.bx.c 1 _ rfl
        have p2 := K.out.bx.c 2 _ rfl
        have p3 := K.out.bx.c 3 _ rfl
        go_wp2_with fail
        have hcon := (Lost_any m p V6 K.out.ta)
        rw [H3.out] at hcon
        refine (hcon).mono ?_
        rintro e V7 ⟨rfl, hb⟩
        replace SB := Lib.hid (SB.out.next hb)
        replace KX := Lib.hid (KX.out.next hb)
        replace K := Lib.hid (K.out.next hb)
        replace HB := Lib.hid (HB.out.trans (hb.mono HB.out.size))
        clear hb p0 p1 p2 p3 hcon
        dsimp only [retLost]
        have hA := nxA V7 (.cells #[.int .i64 slo, .int .i64 shi] 33)
        replace SB := Lib.hid (SB.out.next hA)
        replace KX := Lib.hid (KX.out.next hA)
        replace K := Lib.hid (K.out.next hA)
        replace HB := Lib.hid (HB.out.trans (hA.mono HB.out.size))
        have S1 := Lib.hid (Bx.new V7 #[.int .i64 slo, .int .i64 shi] 33)
        clear hA
        go_upto_region 8 with fail
        generalize (V7.alloc (.cells #[.int .i64 slo, .int .i64 shi] 33)) = V8 at *
        generalize V7.heap.size = g1 at *
        have p0 := KX.out.bx.c 0 _ rfl
        have p1 := KX.out.bx.c 1 _ rfl
        have p2 := KX.out.bx.c 2 _ rfl
        have p3 := KX.out.bx.c 3 _ rfl
        go_wp2_with fail
        have hcon := (Lost_any mx p V8 KX.out.ta)
        rw [H4.out] at hcon
        refine (hcon).mono ?_
        rintro e V9 ⟨rfl, hb⟩
        replace SB := Lib.hid (SB.out.next hb)
        replace KX := Lib.hid (KX.out.next hb)
        replace S1 := Lib.hid (S1.out.next hb)
        replace K := Lib.hid (K.out.next hb)
        replace HB := Lib.hid (HB.out.trans (hb.mono HB.out.size))
        clear hb p0 p1 p2 p3 hcon
        dsimp only [retLost]
        have hA := nxA V9 (.cells #[.int .i64 olo, .int .i64 ohi] 33)
        replace SB := Lib.hid (SB.out.next hA)
        replace KX := Lib.hid (KX.out.next hA)
        replace S1 := Lib.hid (S1.out.next hA)
        replace K := Lib.hid (K.out.next hA)
        replace HB := Lib.hid (HB.out.trans (hA.mono HB.out.size))
        have S2 := Lib.hid (Bx.new V9 #[.int .i64 olo, .int .i64 ohi] 33)
        clear hA
        go_upto_region 9 with fail
        generalize (V9.alloc (.cells #[.int .i64 olo, .int .i64 ohi] 33)) = V10 at *
        generalize V9.heap.size = g2 at *
        have p0 := K.out.bx.c 0 _ rfl
        have p1 := K.out.bx.c 1 _ rfl
        have p2 := K.out.bx.c 2 _ rfl
        have p3 := K.out.bx.c 3 _ rfl
        go_wp2_with fail
        have hcon := (Window_any m k V10 K.out.ta)
        rw [H5.out] at hcon
        refine (hcon).mono ?_
        rintro e V11 ⟨rfl, hb⟩
        replace SB := Lib.hid (SB.out.next hb)
        replace KX := Lib.hid (KX.out.next hb)
        replace S1 := Lib.hid (S1.out.next hb)
        replace S2 := Lib.hid (S2.out.next hb)
        replace K := Lib.hid (K.out.next hb)
        replace HB := Lib.hid (HB.out.trans (hb.mono HB.out.size))
        clear hb p0 p1 p2 p3 hcon
        dsimp only [retWin]
        have hA := nxA V11 (.cells #[.int .i64 wlo, .int .i64 whi] 33)
        replace SB := Lib.hid (SB.out.next hA)
        replace KX := Lib.hid (KX.out.next hA)
        replace S1 := Lib.hid (S1.out.next hA)
        replace S2 := Lib.hid (S2.out.next hA)
        replace K := Lib.hid (K.out.next hA)
        replace HB := Lib.hid (HB.out.trans (hA.mono HB.out.size))
        have S3 := Lib.hid (Bx.new V11 #[.int .i64 wlo, .int .i64 whi] 33)
        clear hA
        go_upto_region 10 with fail
        generalize (V11.alloc (.cells #[.int .i64 wlo, .int .i64 whi] 33)) = V12 at *
        generalize V11.heap.size = g3 at *
        have p0 := KX.out.bx.c 0 _ rfl
        have p1 := KX.out.bx.c 1 _ rfl
        have p2 := KX.out.bx.c 2 _ rfl
        have p3 := KX.out.bx.c 3 _ rfl
        go_wp2_with fail
        have hcon := (Window_any mx k V12 KX.out.ta)
        rw [H6.out] at hcon
        refine (hcon).mono ?_
        rintro e V13 ⟨rfl, hb⟩
        replace SB := Lib.hid (SB.out.next hb)
        replace KX := Lib.hid (KX.out.next hb)
        replace S1 := Lib.hid (S1.out.next hb)
        replace S2 := Lib.hid (S2.out.next hb)
        replace S3 := Lib.hid (S3.out.next hb)
        replace K := Lib.hid (K.out.next hb)
        replace HB := Lib.hid (HB.out.trans (hb.mono HB.out.size))
        clear hb p0 p1 p2 p3 hcon
        dsimp only [retWin]
        have hA := nxA V13 (.cells #[.int .i64 vlo, .int .i64 vhi] 33)
        replace SB := Lib.hid (SB.out.next hA)
        replace KX := Lib.hid (KX.out.next hA)
        replace S1 := Lib.hid (S1.out.next hA)
        replace S2 := Lib.hid (S2.out.next hA)
        replace S3 := Lib.hid (S3.out.next hA)
        replace K := Lib.hid (K.out.next hA)
        replace HB := Lib.hid (HB.out.trans (hA.mono HB.out.size))
        have S4 := Lib.hid (Bx.new V13 #[.int .i64 vlo, .int .i64 vhi] 33)
        clear hA
        go_upto_region 11 with fail
        generalize (V13.alloc (.cells #[.int .i64 vlo, .int .i64 vhi] 33)) = V14 at *
        generalize V13.heap.size = g4 at *
        have p0 := K.out.bx.c 0 _ rfl
        have p1 := K.out.bx.c 1 _ rfl
        have p2 := K.out.bx.c 2 _ rfl
        have p3 := K.out.bx.c 3 _ rfl
        go_wp2_with fail
        have hcon := (Clash_any m V14 K.out.ta)
        rw [H7.out] at hcon
        refine (hcon).mono ?_
        rintro e V15 ⟨rfl, hb⟩
        replace SB := Lib.hid (SB.out.next hb)
        replace KX := Lib.hid (KX.out.next hb)
        replace S1 := Lib.hid (S1.out.next hb)
        replace S2 := Lib.hid (S2.out.next hb)
        replace S3 := Lib.hid (S3.out.next hb)
        replace S4 := Lib.hid (S4.out.next hb)
        replace K := Lib.hid (K.out.next hb)
        replace HB := Lib.hid (HB.out.trans (hb.mono HB.out.size))
        clear hb p0 p1 p2 p3 hcon
        dsimp only [retCl]
        go_upto_region 12 with fail
        have p0 := KX.out.bx.c 0 _ rfl
        have p1 := KX.out.bx.c 1 _ rfl
        have p2 := KX.out.bx.c 2 _ rfl
        have p3 := KX.out.bx.c 3 _ rfl
        go_wp2_with fail
        have hcon := (Clash_any mx V15 KX.out.ta)
        rw [H8.out] at hcon
        refine (hcon).mono ?_
        rintro e V16 ⟨rfl, hb⟩
        replace SB := Lib.hid (SB.out.next hb)
        replace KX := Lib.hid (KX.out.next hb)
        replace S1 := Lib.hid (S1.out.next hb)
        replace S2 := Lib.hid (S2.out.next hb)
        replace S3 := Lib.hid (S3.out.next hb)
        replace S4 := Lib.hid (S4.out.next hb)
        replace K := Lib.hid (K.out.next hb)
        replace HB := Lib.hid (HB.out.trans (hb.mono HB.out.size))
        clear hb p0 p1 p2 p3 hcon
        dsimp only [retCl]
        go_upto_region 13 with fail
        have s10 := S1.out.c 0 _ rfl
        have s11 := S1.out.c 1 _ rfl
        have s20 := S2.out.c 0 _ rfl
        have s21 := S2.out.c 1 _ rfl
        have s30 := S3.out.c 0 _ rfl
        have s31 := S3.out.c 1 _ rfl
        have s40 := S4.out.c 0 _ rfl
        have s41 := S4.out.c 1 _ rfl
        go_cut [127] (fun s127 wx => s127 = .bool false ∧ wx = V16)
        case first =>
          by_cases hf : f = 0
          · obtain ⟨he, hbit⟩ := F1.out hf
            subst hf he
            by_cases hh : h = 0
            · obtain ⟨hg, hlo, hhi⟩ := F2.out hh
              subst hh hg
              have d2 : decide (olo < slo) = false := decide_eq_false (by omega)
              have d3 : decide (shi < ohi) = false := decide_eq_false (by omega)
              clear hlo hhi
              go_wp2_with fail
              go_meet
              exact ⟨rfl, rfl⟩
            · have d2 : decide (h = 0) = false := decide_eq_false hh
              have d3 : (h == 0) = false := by simp [hh]
              go_wp2_with fail
              go_meet
              exact ⟨rfl, rfl⟩
          · have d4 : decide (f = 0) = false := decide_eq_false hf
            have d5 : (f == 0) = false := by simp [hf]
            by_cases hh : h = 0
            · obtain ⟨hg, hlo, hhi⟩ := F2.out hh
              subst hh hg
              have d2 : decide (olo < slo) = false := decide_eq_false (by omega)
              have d3 : decide (shi < ohi) = false := decide_eq_false (by omega)
              clear hlo hhi
              go_wp2_with fail
              go_meet
              exact ⟨rfl, rfl⟩
            · have d2 : decide (h = 0) = false := decide_eq_false hh
              have d3 : (h == 0) = false := by simp [hh]
              go_wp2_with fail
              go_meet
              exact ⟨rfl, rfl⟩
        case rest =>
          obtain ⟨rfl, hw⟩ := hcut
          have hw2 := hw.symm
          clear hw
          subst hw2
          go_upto_region 15 with fail
          go_cut [159] (fun s159 wx => s159 = .bool false ∧ wx = V16)
          case first =>
            have hq2 := span_eq3
            by_cases hj : j = 0
            · obtain ⟨hi, hgn, hwv⟩ := F3.out hj
              subst hj hi
              by_cases hz : vlo = 0 ∧ vhi = 0
              · obtain ⟨hz1, hz2⟩ := hz
                subst hz1 hz2
                have hq1 := fun W => span_neq 0 0 0 0 W
                simp only [beq_self_eq_true, Bool.and_self, Bool.not_true] at hq1
                cases gone
                · clear hgn hwv
                  go_wp2_with fail
                  go_meet
                  exact ⟨rfl, rfl⟩
                · have hn := hgn rfl
                  subst hn
                  clear hgn hwv
                  go_wp2_with fail
                  go_meet
                  exact ⟨rfl, rfl⟩
              · obtain ⟨hlo, hhi⟩ := hwv hz
                have hq1 := fun W => span_neq vlo vhi 0 0 W
                have hzb : (vlo == 0 && vhi == 0) = false := by simpa using hz
                simp only [hzb, Bool.not_false] at hq1
                have d2 : decide (vlo < wlo) = false := decide_eq_false (by omega)
                have d3 : decide (whi < vhi) = false := decide_eq_false (by omega)
                clear hzb hz
                cases gone
                · clear hgn hwv hlo hhi
                  go_wp2_with fail
                  go_meet
                  exact ⟨rfl, rfl⟩
                · have hn := hgn rfl
                  subst hn
                  clear hgn hwv hlo hhi
                  go_wp2_with fail
                  go_meet
                  exact ⟨rfl, rfl⟩
            · have d2 : decide (j = 0) = false := decide_eq_false hj
              have d3 : (j == 0) = false := by simp [hj]
              go_wp2_with fail
              go_meet
              exact ⟨rfl, rfl⟩
          case rest =>
            obtain ⟨rfl, hw⟩ := hcut
            have hw2 := hw.symm
            clear hw
            subst hw2
            clear s10 s11 s20 s21 s30 s31 s40 s41
            have p0 := KX.out.bx.c 0 _ rfl
            have p1 := KX.out.bx.c 1 _ rfl
            have p2 := KX.out.bx.c 2 _ rfl
            have p3 := KX.out.bx.c 3 _ rfl
            by_cases hk : kk = 0
            rotate_left
            · have d2 : decide (kk = 0) = false := decide_eq_false hk
              have d3 : (kk == 0) = false := by simp [hk]
              go_wp2_with fail
              refine (awake_any V16 K.out.en).mono ?_
              rintro e V99 ⟨rfl, hb⟩
              go_wp2_with fail
              go_ret
              exact ⟨rfl, HB.out.trans (hb.mono HB.out.size)⟩
            · have F5 := Lib.hid (F4.out hk)
              subst hk
              go_wp2_with fail
              refine (Tale_any mx V16 KX.out.ta).mono ?_
              rintro e V17 ⟨rfl, hb⟩
              replace SB := Lib.hid (SB.out.next hb)
              replace KX := Lib.hid (KX.out.next hb)
              replace S1 := Lib.hid (S1.out.next hb)
              replace S2 := Lib.hid (S2.out.next hb)
              replace S3 := Lib.hid (S3.out.next hb)
              replace S4 := Lib.hid (S4.out.next hb)
              replace K := Lib.hid (K.out.next hb)
              replace HB := Lib.hid (HB.out.trans (hb.mono HB.out.size))
              clear hb p0 p1 p2 p3
              cases htx : okTale mx.t
              · go_wp2_with fail
                refine (awake_any V17 K.out.en).mono ?_
                rintro e V99 ⟨rfl, hb⟩
                go_wp2_with fail
                go_ret
                exact ⟨rfl, HB.out.trans (hb.mono HB.out.size)⟩
              · obtain ⟨hl, hcd⟩ := F5.out htx
                subst hl
                have r2 := K.out.bx.c 2 _ rfl
                have x2 := KX.out.bx.c 2 _ rfl
                have HML' := HML.out
                rw [HML.out] at x2
                clear HML' htx
                rcases hcd with hcd | ⟨hc, hdd⟩
                · subst hcd
                  go_wp2_with fail
                  refine (awake_any V17 K.out.en).mono ?_
                  rintro e V99 ⟨rfl, hb⟩
                  go_wp2_with fail
                  go_ret
                  exact ⟨rfl, HB.out.trans (hb.mono HB.out.size)⟩
                · subst hc hdd
                  have d2 : decide ((m.t.looks.length : Int) = ((m.t.looks.length + 1 : Nat) : Int)) = false := decide_eq_false (by omega)
                  have d3 : ((m.t.looks.length : Int) == ((m.t.looks.length + 1 : Nat) : Int)) = false := by simp; omega
                  go_wp2_with fail
                  refine (awake_any V17 K.out.en).mono ?_
                  rintro e V99 ⟨rfl, hb⟩
                  go_wp2_with fail
                  go_ret
                  exact ⟨rfl, HB.out.trans (hb.mono HB.out.size)⟩
end Go.Proofs.YtkcfpnpejaekjaaDoor
