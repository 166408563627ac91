import Derived.Test.YtkcfpnpejaekjaaDoorB0
namespace Go.Proofs.YtkcfpnpejaekjaaDoor
open Go.RowKit
/-! The law LendSure. -/
set_option maxRecDepth 100000 in
set_option maxHeartbeats 4000000 in
theorem LendSure_walk (m : Mt) (p : Int) (w : World) (hd : TaleAt w w.heap.size m) (he : Env w) : Calls Tryd.prog 7 #[.agg #[.int .i64 m.t.n, .slice m.A1 m.t.loans.length m.c1, .slice m.A2 m.t.looks.length m.c2, .slice m.A3 m.t.admits.length m.c3], .int .i64 p] w (Ret (.bool true) w) := by
  have K := Lib.hid (show LwT m w.heap.size (w.alloc (.cells #[.int .i64 m.t.n, .slice m.A1 m.t.loans.length m.c1, .slice m.A2 m.t.looks.length m.c2, .slice m.A3 m.t.admits.length m.c3] 26)) from ⟨hd.next (nxA _ _), he.next (nxA _ _), Bx.new w #[.int .i64 m.t.n, .slice m.A1 m.t.loans.length m.c1, .slice m.A2 m.t.looks.length m.c2, .slice m.A3 m.t.admits.length m.c3] 26⟩)
  have HB := Lib.hid (nxA w (.cells #[.int .i64 m.t.n, .slice m.A1 m.t.loans.length m.c1, .slice m.A2 m.t.looks.length m.c2, .slice m.A3 m.t.admits.length m.c3] 26))
  clear hd he
  obtain ⟨set, e, hH1⟩ : ∃ a e, whoS m.t p = (a, e) := ⟨_, _, rfl⟩
  obtain ⟨lo, hi, gone, f, hH2⟩ : ∃ lo hi gone ew, winS m.t p = ⟨lo, hi, gone, ew⟩ := ⟨_, _, _, _, rfl⟩
  have H1 := Lib.hid hH1
  have H2 := Lib.hid hH2
  clear hH1 hH2
  go_enter Tryd.func7, Tryd.ntmps7
  go_upto_region 1 with fail
  generalize (w.alloc (.cells #[.int .i64 m.t.n, .slice m.A1 m.t.loans.length m.c1, .slice m.A2 m.t.looks.length m.c2, .slice m.A3 m.t.admits.length m.c3] 26)) = V1 at *
  have p0 := K.out.bx.c 0 _ rfl
  have p1 := K.out.bx.c 1 _ rfl
  have p2 := K.out.bx.c 2 _ rfl
  have p3 := K.out.bx.c 3 _ rfl
  go_wp2_with fail
  refine (far_any m V1).mono ?_
  rintro e V2 ⟨rfl, hb⟩
  replace K := Lib.hid (K.out.next hb)
  replace HB := Lib.hid (HB.out.trans (hb.mono HB.out.size))
  clear hb p0 p1 p2 p3
  have p0 := K.out.bx.c 0 _ rfl
  have p1 := K.out.bx.c 1 _ rfl
  have p2 := K.out.bx.c 2 _ rfl
  have p3 := K.out.bx.c 3 _ rfl
  cases farS m.t
  rotate_left
  ·
    go_wp2_with fail
    refine (awake_any V2 K.out.en).mono ?_
    rintro e V99 ⟨rfl, hb⟩
    go_wp2_with fail
    go_ret
    exact ⟨rfl, HB.out.trans (hb.mono HB.out.size)⟩
  · by_cases g1 : (18 : Int) < (m.t.looks.length : Int)
    · have d1 : decide ((18 : Int) < (m.t.looks.length : Int)) = true := decide_eq_true g1
      go_wp2_with fail
      refine (awake_any V2 K.out.en).mono ?_
      rintro e V99 ⟨rfl, hb⟩
      go_wp2_with fail
      go_ret
      exact ⟨rfl, HB.out.trans (hb.mono HB.out.size)⟩
    · have d1 : decide ((18 : Int) < (m.t.looks.length : Int)) = false := decide_eq_false g1
      have hlk : m.t.looks.length ≤ 18 := by omega
      clear g1
      go_wp2_with fail
      have hcon := (Who_any m p V2 K.out.ta K.out.en)
      rw [H1.out] at hcon
      refine (hcon).mono ?_
      rintro e V3 ⟨rfl, hb⟩
      replace K := Lib.hid (K.out.next hb)
      replace HB := Lib.hid (HB.out.trans (hb.mono HB.out.size))
      clear hb p0 p1 p2 p3 hcon
      dsimp only [RetWho]
      go_upto_region 4 with fail
      have p0 := K.out.bx.c 0 _ rfl
      have p1 := K.out.bx.c 1 _ rfl
      have p2 := K.out.bx.c 2 _ rfl
      have p3 := K.out.bx.c 3 _ rfl
      go_wp2_with fail
      have hcon := (Window_any m p V3 K.out.ta)
      rw [H2.out] at hcon
      refine (hcon).mono ?_
      rintro e V4 ⟨rfl, hb⟩
      replace K := Lib.hid (K.out.next hb)
      replace HB := Lib.hid (HB.out.trans (hb.mono HB.out.size))
      clear hb p0 p1 p2 p3 hcon
      dsimp only [retWin]
      have hA := nxA V4 (.cells #[.int .i64 lo, .int .i64 hi] 33)
      replace K := Lib.hid (K.out.next hA)
      replace HB := Lib.hid (HB.out.trans (hA.mono HB.out.size))
      have S1 := Lib.hid (Bx.new V4 #[.int .i64 lo, .int .i64 hi] 33)
      clear hA
      go_upto_region 5 with fail
      generalize (V4.alloc (.cells #[.int .i64 lo, .int .i64 hi] 33)) = V5 at *
      generalize V4.heap.size = g1 at *
      rcases sure_cases m.t p with ⟨ht, hl⟩ | ⟨ht, hl⟩ | ⟨ht, hl⟩ | ⟨ht, hf, k, rfl, hk, hl⟩
      · have h1 := H1.out
        rw [hl] at h1
        injection h1 with h1 h2
        subst h1 h2
        have HT := Lib.hid ht
        clear ht hl H1 H2
        have p0 := K.out.bx.c 0 _ rfl
        have p1 := K.out.bx.c 1 _ rfl
        have p2 := K.out.bx.c 2 _ rfl
        have p3 := K.out.bx.c 3 _ rfl
        go_wp2_with fail
        have hcon := (Tale_any m V5 K.out.ta)
        rw [HT.out] at hcon
        refine (hcon).mono ?_
        rintro e V6 ⟨rfl, hb⟩
        replace S1 := Lib.hid (S1.out.next hb)
        replace K := Lib.hid (K.out.next hb)
        replace HB := Lib.hid (HB.out.trans (hb.mono HB.out.size))
        clear hb p0 p1 p2 p3 hcon
        go_wp2_with fail
        refine (awake_any V6 K.out.en).mono ?_
        rintro e V99 ⟨rfl, hb⟩
        go_wp2_with fail
        go_ret
        exact ⟨rfl, HB.out.trans (hb.mono HB.out.size)⟩
      · have h1 := H1.out
        rw [hl] at h1
        injection h1 with h1 h2
        subst h1 h2
        have HT := Lib.hid ht
        clear ht hl H1 H2
        have p0 := K.out.bx.c 0 _ rfl
        have p1 := K.out.bx.c 1 _ rfl
        have p2 := K.out.bx.c 2 _ rfl
        have p3 := K.out.bx.c 3 _ rfl
        go_wp2_with fail
        have hcon := (Tale_any m V5 K.out.ta)
        rw [HT.out] at hcon
        refine (hcon).mono ?_
        rintro e V6 ⟨rfl, hb⟩
        replace S1 := Lib.hid (S1.out.next hb)
        replace K := Lib.hid (K.out.next hb)
        replace HB := Lib.hid (HB.out.trans (hb.mono HB.out.size))
        clear hb p0 p1 p2 p3 hcon
        go_wp2_with fail
        refine (awake_any V6 K.out.en).mono ?_
        rintro e V99 ⟨rfl, hb⟩
        go_wp2_with fail
        go_ret
        exact ⟨rfl, HB.out.trans (hb.mono HB.out.size)⟩
      · have h1 := H1.out
        rw [hl] at h1
        injection h1 with h1 h2
        subst h1 h2
        have HT := Lib.hid ht
        clear ht hl H1 H2
        have p0 := K.out.bx.c 0 _ rfl
        have p1 := K.out.bx.c 1 _ rfl
        have p2 := K.out.bx.c 2 _ rfl
        have p3 := K.out.bx.c 3 _ rfl
        go_wp2_with fail
        have hcon := (Tale_any m V5 K.out.ta)
        rw [HT.out] at hcon
        refine (hcon).mono ?_
        rintro e V6 ⟨rfl, hb⟩
        replace S1 := Lib.hid (S1.out.next hb)
        replace K := Lib.hid (K.out.next hb)
        replace HB := Lib.hid (HB.out.trans (hb.mono HB.out.size))
        clear hb p0 p1 p2 p3 hcon
        go_wp2_with fail
        refine (awake_any V6 K.out.en).mono ?_
        rintro e V99 ⟨rfl, hb⟩
        go_wp2_with fail
        go_ret
        exact ⟨rfl, HB.out.trans (hb.mono HB.out.size)⟩
      · have h1 := H1.out
        rw [hl] at h1
        injection h1 with h1 h2
        subst h2
        have HSET := Lib.hid h1
        have OK := Lib.hid (okT_of ht)
        have HT := Lib.hid ht
        have HF := Lib.hid hf
        have h2 := H2.out
        have hsw := fit_window OK.out hf hk
        rw [winS_of ht (inS_iff.2 ⟨by omega, by have := OK.out.n1; omega⟩), Int.toNat_natCast, if_neg (by omega)] at h2
        have hset : 1 ≤ set ∧ set < 256 := by
          rw [← h1]
          refine ⟨?_, setB_lt _ 8⟩
          obtain ⟨q, hq, hq2⟩ := whoB_some OK.out hf hk
          refine Nat.pos_of_ne_zero fun e0 => ?_
          have := setB_bit (whoB m.t k) q 8
          rw [e0, Nat.zero_testBit, hq2, decide_eq_true hq] at this
          cases this
        have HS7 := Lib.hid (show has set 7 = whoB m.t k 7 by rw [← h1]; unfold has; rw [setB_bit]; rfl)
        have HSW := Lib.hid hsw
        clear hf ht hl h1 H1 H2 hsw
        have hf0 : f = 0 := by
          split at h2 <;> (injection h2 with _ _ _ h2; exact h2.symm)
        subst hf0
        have HW := Lib.hid h2
        clear h2
        have hn1 := OK.out.n1
        have hn16 := OK.out.n2
        have e1 := decide_eq_false (show ¬ (k : Int) < 0 by omega)
        have e2 := decide_eq_false (show ¬ m.t.n ≤ (k : Int) by omega)
        obtain ⟨si, hsi⟩ : ∃ si : Int, (set : Int) = si := ⟨_, rfl⟩
        have hs1 : 1 ≤ si ∧ si < 256 := by omega
        have HSI := Lib.hid hsi
        rw [hsi]
        clear hsi hset
        have e3 := decide_eq_false (show ¬ si < 1 by omega)
        have e4 := decide_eq_false (show ¬ 256 ≤ si by omega)
        have p0 := K.out.bx.c 0 _ rfl
        have p1 := K.out.bx.c 1 _ rfl
        have p2 := K.out.bx.c 2 _ rfl
        have p3 := K.out.bx.c 3 _ rfl
        go_wp2_with fail
        have hcon := (Tale_any m V5 K.out.ta)
        rw [HT.out] at hcon
        refine (hcon).mono ?_
        rintro e V6 ⟨rfl, hb⟩
        replace S1 := Lib.hid (S1.out.next hb)
        replace K := Lib.hid (K.out.next hb)
        replace HB := Lib.hid (HB.out.trans (hb.mono HB.out.size))
        clear hb p0 p1 p2 p3 hcon
        have p0 := K.out.bx.c 0 _ rfl
        have p1 := K.out.bx.c 1 _ rfl
        have p2 := K.out.bx.c 2 _ rfl
        have p3 := K.out.bx.c 3 _ rfl
        have hshl := shl_pow (k := k) (by omega)
        have hsh2 : IntKind.i64.wrap (2 ^ k) = powI k := wrap_pow (by omega)
        clear e1 e2 e3 e4
        go_upto_region 10 with fail
        have NA := Lib.hid (nxA V6 (.cells #[.int .i64 m.t.n, .slice m.A1 m.t.loans.length m.c1, .slice m.A2 m.t.looks.length m.c2, .slice m.A3 m.t.admits.length m.c3] 26))
        have X9 := Lib.hid (Bx.new V6 #[.int .i64 m.t.n, .slice m.A1 m.t.loans.length m.c1, .slice m.A2 m.t.looks.length m.c2, .slice m.A3 m.t.admits.length m.c3] 26)
        have N9 := Lib.hid (show V6.heap.size < (V6.alloc (.cells #[.int .i64 m.t.n, .slice m.A1 m.t.loans.length m.c1, .slice m.A2 m.t.looks.length m.c2, .slice m.A3 m.t.admits.length m.c3] 26)).heap.size from X9.out.lt)
        generalize (V6.alloc (.cells #[.int .i64 m.t.n, .slice m.A1 m.t.loans.length m.c1, .slice m.A2 m.t.looks.length m.c2, .slice m.A3 m.t.admits.length m.c3] 26)) = U at *
        obtain ⟨b9, hb9⟩ : ∃ b, b = V6.heap.size := ⟨_, rfl⟩
        have L9 := Lib.hid (show V6.heap.size ≤ b9 by omega)
        have M9 := Lib.hid (show b9 < U.heap.size by have := N9.out; omega)
        rw [← hb9] at X9 ⊢
        clear hb9 N9
        clear p0 p1 p2 p3
        have hK1 := K.out.bx.lt
        have HS := Lib.hid (show ∀ W : World, Below U.heap.size U W → (W.cell? ⟨w.heap.size, 2, none⟩ = some (.slice m.A2 m.t.looks.length m.c2)) from fun W h => (K.out.next (NA.out.trans (h.mono NA.out.size))).bx.c 2 _ rfl)
        have HL := Lib.hid (show ∀ W : World, Below U.heap.size U W → At W U.heap.size 3 Look.cells m.A2 m.t.looks from fun W h => ((K.out.next NA.out).ta.lk.below h))
        have hc : Below U.heap.size U U.drew := (Below.refl _ _).drew
        obtain ⟨ib, gi, gz0, gz1, gz2⟩ := info_parts sight_info
        go_cut [] (fun wx => MoreAt V6 b9 m (m.t.looks ++ [⟨1048576, powI k, 0⟩]) wx)
        case first =>
          as_aux_lemma =>
            refine wp_region_noPanic ?_
            refine wp_region_held_drew (S := (fun W => W.cell? ⟨w.heap.size, 2, none⟩ = some (.slice m.A2 m.t.looks.length m.c2))) (by kernel_rfl) ?_ (fun hHeld => ?_)
            · (try dsimp only); exact HS.out _ hc
            refine htake (i := 1) (v := ?v1) rfl (by kernel_rfl) (by kernel_rfl) (by kernel_rfl) (fun _ _ _ h => h) (Or.inl ⟨by rfl, ?hy1⟩) (by assumption) ?_
            case hy1 => (intro w hSw; (try dsimp only at hSw); go_simp; try (with_reducible rfl))
            try simp only [Act.put, List.setIfInBounds_toArray, List.set_cons_zero, List.set_cons_succ]
            refine htake (i := 2) (v := ?v2) rfl (by kernel_rfl) (by kernel_rfl) (by kernel_rfl) (fun _ _ _ h => h) (Or.inl ⟨by rfl, ?hy2⟩) (by assumption) ?_
            case hy2 => (intro w hSw; (try dsimp only at hSw); go_simp; try (with_reducible rfl))
            try simp only [Act.put, List.setIfInBounds_toArray, List.set_cons_zero, List.set_cons_succ]
            refine htake (i := 4) (v := ?v3) rfl (by kernel_rfl) (by kernel_rfl) (by kernel_rfl) (fun _ _ _ h => h) (Or.inl ⟨by rfl, ?hy3⟩) (by assumption) ?_
            case hy3 => (intro w hSw; (try dsimp only at hSw); go_simp; try (with_reducible rfl))
            try simp only [Act.put, List.setIfInBounds_toArray, List.set_cons_zero, List.set_cons_succ]
            refine htake (i := 5) (v := ?v4) rfl (by kernel_rfl) (by kernel_rfl) (by kernel_rfl) (fun _ _ _ h => h) (Or.inl ⟨by rfl, ?hy4⟩) (by assumption) ?_
            case hy4 => (intro w hSw; (try dsimp only at hSw); go_simp; try (with_reducible rfl))
            try simp only [Act.put, List.setIfInBounds_toArray, List.set_cons_zero, List.set_cons_succ]
            refine htake (i := 6) (v := ?v5) rfl (by kernel_rfl) (by kernel_rfl) (by kernel_rfl) (fun _ _ _ h => h) (Or.inl ⟨by rfl, ?hy5⟩) (by assumption) ?_
            case hy5 => (intro w hSw; (try dsimp only at hSw); go_simp; try (with_reducible rfl))
            try simp only [Act.put, List.setIfInBounds_toArray, List.set_cons_zero, List.set_cons_succ]
            refine wpAnyH_ready (rs := [0, 7]) (by kernel_rfl) (by simp) ?_
            refine hcons rfl (fun K hK => ?_) (hcons rfl (fun K hK => ?_) (AllReadyH.nil))
            go_simp
            (first | refine hold_alloc (fun wa hq1 hq2 hq3 => ?_) | refine hold_alloc_drew (fun wa hq1 hq2 hq3 => ?_)); have hg0 := hq2.lt; have ho := own_empty (size := 3) (base := U.heap.size) hq3 hc.size; (first | replace hc := hc.trans (hq1.mono hc.size) | replace hc := hq1); (try replace hn := hn.next hq1); clear hq1 hq2 hq3
            refine hK.out _ _ ?_ (fun hHeld => ?_)
            · (try dsimp only); exact HS.out _ hc
            clear hK K
            try simp only [Act.put, List.setIfInBounds_toArray, List.set_cons_zero, List.set_cons_succ]
            refine wpAnyH_ready (rs := [3, 7]) (by kernel_rfl) (by simp) ?_
            refine hcons rfl (fun K hK => ?_) (hcons rfl (fun K hK => ?_) (AllReadyH.nil))
            refine step_append_list rfl (.tmp 89) (.tmp 91) 23 rfl U.heap.size 50 ib (.agg #[.int .i64 0, .int .i64 0, .int .i64 0]) 3 24 Tryd.underlying23 gi gz0 gz1 gz2 rfl (by decide) (fun _ => rfl) sight_one _ 0 [] rfl ho m.A2 m.t.looks m.c2 U.heap.size rfl (HL.out _ hc) (by unfold maxLen; omega) (by omega) hc.size ?_; intro v3 w3 ho3 hg3; (try replace hn := hn.grown hg3 (fun e => by injection e with e; (try simp only at e); omega)); replace hc := grown_from hc hg3 hc.size (fun g e => (ho.lt g e).1); clear hg3
            refine hK.out _ _ ?_ (fun hHeld => ?_)
            · (try dsimp only); exact HS.out _ hc
            clear hK K
            try simp only [Act.put, List.setIfInBounds_toArray, List.set_cons_zero, List.set_cons_succ]
            refine wpAnyH_ready (rs := [7]) (by kernel_rfl) (by simp) ?_
            refine hcons rfl (fun K hK => ?_) (AllReadyH.nil)
            go_simp
            (first | refine hold_alloc (fun wb hq1 hq2 hq3 => ?_) | refine hold_alloc_drew (fun wb hq1 hq2 hq3 => ?_)); have hg5 := hq2.lt; (try replace ho := own_below ho hq1); (try replace ho3 := own_below ho3 hq1); (first | replace hc := hc.trans (hq1.mono hc.size) | replace hc := hq1); have hn := hq2; clear hq1 hq2 hq3
            refine hK.out _ _ ?_ (fun hHeld => ?_)
            · (try dsimp only); exact HS.out _ hc
            clear hK K
            try simp only [Act.put, List.setIfInBounds_toArray, List.set_cons_zero, List.set_cons_succ]
            refine wpAnyH_ready (rs := [8]) (by kernel_rfl) (by simp) ?_
            refine hcons rfl (fun K hK => ?_) (AllReadyH.nil)
            refine step_append_any rfl (.tmp 92) (.tmp 96) 23 rfl U.heap.size 50 ib (.agg #[.int .i64 0, .int .i64 0, .int .i64 0]) 3 24 Tryd.underlying23 gi gz0 gz1 gz2 rfl (by decide) v3 (0 + m.t.looks.length) ([] ++ m.t.looks.flatMap Look.cells) rfl ho3 ⟨_, 0, none⟩ 1 1 (([⟨1048576, powI k, 0⟩] : List Look).flatMap Look.cells) rfl rfl hn.news (fun u hu => by obtain ⟨y, -, hy⟩ := List.mem_flatMap.1 hu; exact sight_one y u hy) (by unfold maxLen; omega) (by omega) hc.size ?_; intro v6 w6 ho6 hg6; replace hc := grown_from hc hg6 hc.size (fun g e => (ho3.lt g e).1); clear hg6; rw [Nat.zero_add, List.nil_append] at ho6; obtain ⟨A6, c6, rfl, -⟩ := own_form ho6
            refine hK.out _ _ ?_ (fun hHeld => ?_)
            · (try dsimp only); exact HS.out _ hc
            clear hK K
            try simp only [Act.put, List.setIfInBounds_toArray, List.set_cons_zero, List.set_cons_succ]
            refine htake (i := 9) (v := ?v6) rfl (by kernel_rfl) (by kernel_rfl) (by kernel_rfl) (fun _ _ _ h => h) (Or.inl ⟨by rfl, ?hy6⟩) (by assumption) ?_
            case hy6 => (intro w hSw; (try dsimp only at hSw); go_simp; try (with_reducible rfl))
            try simp only [Act.put, List.setIfInBounds_toArray, List.set_cons_zero, List.set_cons_succ]
            refine wpAnyH_ready (rs := [10]) (by kernel_rfl) (by simp) ?_
            refine hcons rfl (fun K hK => ?_) (AllReadyH.nil)
            have z0 := (X9.out.next hc).c 2 _ rfl; have z1 := (X9.out.next hc).fr 2; go_simp
            refine hK.out _ _ ?_ (fun hHeld => ?_)
            · (try dsimp only); exact (World.cell?_setCell_other _ _ _ _ (by intro e; injection e with e; have := L9.out; have := M9.out; omega)).trans (HS.out _ hc)
            clear hK K
            try simp only [Act.put]
            refine wpAnyH_done (by kernel_rfl) ?_ _
            refine NoPanic.normal ?_
            rotate_left
            go_simp
            (first | refine hold_alloc (fun wb hq1 hq2 hq3 => ?_) | refine hold_alloc_drew (fun wb hq1 hq2 hq3 => ?_)); have hg5 := hq2.lt; (try replace ho := own_below ho hq1); (try replace ho3 := own_below ho3 hq1); (first | replace hc := hc.trans (hq1.mono hc.size) | replace hc := hq1); have hn := hq2; clear hq1 hq2 hq3
            refine hK.out _ _ ?_ (fun hHeld => ?_)
            · (try dsimp only); exact HS.out _ hc
            clear hK K
            try simp only [Act.put, List.setIfInBounds_toArray, List.set_cons_zero, List.set_cons_succ]
            refine wpAnyH_ready (rs := [3]) (by kernel_rfl) (by simp) ?_
            refine hcons rfl (fun K hK => ?_) (AllReadyH.nil)
            refine step_append_list rfl (.tmp 89) (.tmp 91) 23 rfl U.heap.size 50 ib (.agg #[.int .i64 0, .int .i64 0, .int .i64 0]) 3 24 Tryd.underlying23 gi gz0 gz1 gz2 rfl (by decide) (fun _ => rfl) sight_one _ 0 [] rfl ho m.A2 m.t.looks m.c2 U.heap.size rfl (HL.out _ hc) (by unfold maxLen; omega) (by omega) hc.size ?_; intro v3 w3 ho3 hg3; (try replace hn := hn.grown hg3 (fun e => by injection e with e; (try simp only at e); omega)); replace hc := grown_from hc hg3 hc.size (fun g e => (ho.lt g e).1); clear hg3
            refine hK.out _ _ ?_ (fun hHeld => ?_)
            · (try dsimp only); exact HS.out _ hc
            clear hK K
            try simp only [Act.put, List.setIfInBounds_toArray, List.set_cons_zero, List.set_cons_succ]
            refine wpAnyH_ready (rs := [8]) (by kernel_rfl) (by simp) ?_
            refine hcons rfl (fun K hK => ?_) (AllReadyH.nil)
            refine step_append_any rfl (.tmp 92) (.tmp 96) 23 rfl U.heap.size 50 ib (.agg #[.int .i64 0, .int .i64 0, .int .i64 0]) 3 24 Tryd.underlying23 gi gz0 gz1 gz2 rfl (by decide) v3 (0 + m.t.looks.length) ([] ++ m.t.looks.flatMap Look.cells) rfl ho3 ⟨_, 0, none⟩ 1 1 (([⟨1048576, powI k, 0⟩] : List Look).flatMap Look.cells) rfl rfl hn.news (fun u hu => by obtain ⟨y, -, hy⟩ := List.mem_flatMap.1 hu; exact sight_one y u hy) (by unfold maxLen; omega) (by omega) hc.size ?_; intro v6 w6 ho6 hg6; replace hc := grown_from hc hg6 hc.size (fun g e => (ho3.lt g e).1); clear hg6; rw [Nat.zero_add, List.nil_append] at ho6; obtain ⟨A6, c6, rfl, -⟩ := own_form ho6
            refine hK.out _ _ ?_ (fun hHeld => ?_)
            · (try dsimp only); exact HS.out _ hc
            clear hK K
            try simp only [Act.put, List.setIfInBounds_toArray, List.set_cons_zero, List.set_cons_succ]
            refine htake (i := 9) (v := ?v7) rfl (by kernel_rfl) (by kernel_rfl) (by kernel_rfl) (fun _ _ _ h => h) (Or.inl ⟨by rfl, ?hy7⟩) (by assumption) ?_
            case hy7 => (intro w hSw; (try dsimp only at hSw); go_simp; try (with_reducible rfl))
            try simp only [Act.put, List.setIfInBounds_toArray, List.set_cons_zero, List.set_cons_succ]
            refine wpAnyH_ready (rs := [10]) (by kernel_rfl) (by simp) ?_
            refine hcons rfl (fun K hK => ?_) (AllReadyH.nil)
            have z0 := (X9.out.next hc).c 2 _ rfl; have z1 := (X9.out.next hc).fr 2; go_simp
            refine hK.out _ _ ?_ (fun hHeld => ?_)
            · (try dsimp only); exact (World.cell?_setCell_other _ _ _ _ (by intro e; injection e with e; have := L9.out; have := M9.out; omega)).trans (HS.out _ hc)
            clear hK K
            try simp only [Act.put]
            refine wpAnyH_done (by kernel_rfl) ?_ _
            refine NoPanic.normal ?_
            rotate_left
            go_simp
            (first | refine hold_alloc (fun wb hq1 hq2 hq3 => ?_) | refine hold_alloc_drew (fun wb hq1 hq2 hq3 => ?_)); have hg5 := hq2.lt; (try replace ho := own_below ho hq1); (try replace ho3 := own_below ho3 hq1); (first | replace hc := hc.trans (hq1.mono hc.size) | replace hc := hq1); have hn := hq2; clear hq1 hq2 hq3
            refine hK.out _ _ ?_ (fun hHeld => ?_)
            · (try dsimp only); exact HS.out _ hc
            clear hK K
            try simp only [Act.put, List.setIfInBounds_toArray, List.set_cons_zero, List.set_cons_succ]
            refine wpAnyH_ready (rs := [0]) (by kernel_rfl) (by simp) ?_
            refine hcons rfl (fun K hK => ?_) (AllReadyH.nil)
            go_simp
            (first | refine hold_alloc (fun wa hq1 hq2 hq3 => ?_) | refine hold_alloc_drew (fun wa hq1 hq2 hq3 => ?_)); have hg0 := hq2.lt; have ho := own_empty (size := 3) (base := U.heap.size) hq3 hc.size; (first | replace hc := hc.trans (hq1.mono hc.size) | replace hc := hq1); (try replace hn := hn.next hq1); clear hq1 hq2 hq3
            refine hK.out _ _ ?_ (fun hHeld => ?_)
            · (try dsimp only); exact HS.out _ hc
            clear hK K
            try simp only [Act.put, List.setIfInBounds_toArray, List.set_cons_zero, List.set_cons_succ]
            refine wpAnyH_ready (rs := [3]) (by kernel_rfl) (by simp) ?_
            refine hcons rfl (fun K hK => ?_) (AllReadyH.nil)
            refine step_append_list rfl (.tmp 89) (.tmp 91) 23 rfl U.heap.size 50 ib (.agg #[.int .i64 0, .int .i64 0, .int .i64 0]) 3 24 Tryd.underlying23 gi gz0 gz1 gz2 rfl (by decide) (fun _ => rfl) sight_one _ 0 [] rfl ho m.A2 m.t.looks m.c2 U.heap.size rfl (HL.out _ hc) (by unfold maxLen; omega) (by omega) hc.size ?_; intro v3 w3 ho3 hg3; (try replace hn := hn.grown hg3 (fun e => by injection e with e; (try simp only at e); omega)); replace hc := grown_from hc hg3 hc.size (fun g e => (ho.lt g e).1); clear hg3
            refine hK.out _ _ ?_ (fun hHeld => ?_)
            · (try dsimp only); exact HS.out _ hc
            clear hK K
            try simp only [Act.put, List.setIfInBounds_toArray, List.set_cons_zero, List.set_cons_succ]
            refine wpAnyH_ready (rs := [8]) (by kernel_rfl) (by simp) ?_
            refine hcons rfl (fun K hK => ?_) (AllReadyH.nil)
            refine step_append_any rfl (.tmp 92) (.tmp 96) 23 rfl U.heap.size 50 ib (.agg #[.int .i64 0, .int .i64 0, .int .i64 0]) 3 24 Tryd.underlying23 gi gz0 gz1 gz2 rfl (by decide) v3 (0 + m.t.looks.length) ([] ++ m.t.looks.flatMap Look.cells) rfl ho3 ⟨_, 0, none⟩ 1 1 (([⟨1048576, powI k, 0⟩] : List Look).flatMap Look.cells) rfl rfl hn.news (fun u hu => by obtain ⟨y, -, hy⟩ := List.mem_flatMap.1 hu; exact sight_one y u hy) (by unfold maxLen; omega) (by omega) hc.size ?_; intro v6 w6 ho6 hg6; replace hc := grown_from hc hg6 hc.size (fun g e => (ho3.lt g e).1); clear hg6; rw [Nat.zero_add, List.nil_append] at ho6; obtain ⟨A6, c6, rfl, -⟩ := own_form ho6
            refine hK.out _ _ ?_ (fun hHeld => ?_)
            · (try dsimp only); exact HS.out _ hc
            clear hK K
            try simp only [Act.put, List.setIfInBounds_toArray, List.set_cons_zero, List.set_cons_succ]
            refine htake (i := 9) (v := ?v8) rfl (by kernel_rfl) (by kernel_rfl) (by kernel_rfl) (fun _ _ _ h => h) (Or.inl ⟨by rfl, ?hy8⟩) (by assumption) ?_
            case hy8 => (intro w hSw; (try dsimp only at hSw); go_simp; try (with_reducible rfl))
            try simp only [Act.put, List.setIfInBounds_toArray, List.set_cons_zero, List.set_cons_succ]
            refine wpAnyH_ready (rs := [10]) (by kernel_rfl) (by simp) ?_
            refine hcons rfl (fun K hK => ?_) (AllReadyH.nil)
            have z0 := (X9.out.next hc).c 2 _ rfl; have z1 := (X9.out.next hc).fr 2; go_simp
            refine hK.out _ _ ?_ (fun hHeld => ?_)
            · (try dsimp only); exact (World.cell?_setCell_other _ _ _ _ (by intro e; injection e with e; have := L9.out; have := M9.out; omega)).trans (HS.out _ hc)
            clear hK K
            try simp only [Act.put]
            refine wpAnyH_done (by kernel_rfl) ?_ _
            refine NoPanic.normal ?_
            iterate 12 (try clear hHeld)
            all_goals (go_wp2_with fail; go_meet)
            all_goals (exact more_at (X9.out.next hc) L9.out (NA.out.trans (hc.mono NA.out.size)) (by simp) M9.out (by simp) (own_more ho6))
        case rest =>
          have MA := Lib.hid hcut
          clear hcut hc gi gz0 gz1 gz2 HS HL NA X9 L9 M9
          generalize wc = V7 at *
          obtain ⟨A9, c9, hc9, hX9, hA9, hL9⟩ := MA.out.at_
          have X9 := Lib.hid hX9
          have HA9 := Lib.hid hA9
          have HC9 := Lib.hid hc9
          have HL9 := Lib.hid hL9
          have hb := MA.out.bw
          replace S1 := Lib.hid (S1.out.next hb)
          replace K := Lib.hid (K.out.next hb)
          replace HB := Lib.hid (HB.out.trans (hb.mono HB.out.size))
          clear hb hX9 hA9 hc9 hL9 MA
          obtain ⟨mx, hmx⟩ : ∃ q, lookM m (m.t.looks ++ [⟨1048576, powI k, 0⟩]) A9 c9 = q := ⟨_, rfl⟩
          have HMT := Lib.hid (show mx.t = lastT m.t k by rw [← hmx]; rfl)
          have KX := Lib.hid (show LwT mx b9 V7 from ⟨by rw [← hmx]; exact lookM_tale K.out.ta (by simp; omega) HC9.out HA9.out, K.out.en, by rw [← hmx]; exact X9.out⟩)
          clear hmx X9 HA9 HC9 HL9
          obtain ⟨d, g, hcl⟩ : ∃ d g, clashS mx.t = (d, g) := ⟨_, _, rfl⟩
          have HCL := Lib.hid hcl
          have hg : g = if whoB m.t k 7 then 4 else 0 := by
            have h1 := code_ok (last_ok HT.out hlk hk)
            unfold codeC at h1
            rw [← HMT.out, hcl] at h1
            have h1 : g = _ := h1
            rw [h1]
            have h2 := fit_last HT.out hlk hk
            rw [HMT.out]
            rw [show fitB (lastT m.t k) = whoB m.t k 7 from Bool.eq_iff_iff.2 h2]
          have HG := Lib.hid hg
          clear hcl hg
          have p0 := KX.out.bx.c 0 _ rfl
          have p1 := KX.out.bx.c 1 _ rfl
          have p2 := KX.out.bx.c 2 _ rfl
          have p3 := KX.out.bx.c 3 _ rfl
          go_wp2_with fail
          have hcon := (Clash_any mx V7 KX.out.ta)
          rw [HCL.out] at hcon
          refine (hcon).mono ?_
          rintro e V8 ⟨rfl, hb⟩
          replace S1 := Lib.hid (S1.out.next hb)
          replace K := Lib.hid (K.out.next hb)
          replace HB := Lib.hid (HB.out.trans (hb.mono HB.out.size))
          clear hb p0 p1 p2 p3 hcon KX
          dsimp only [retCl]
          go_upto_region 12 with fail
          have HGN := Lib.hid (show gone = true → whoB m.t k 7 = false from fun e => by
            have h2 := HW.out
            split at h2
            · injection h2 with _ _ h2 _
              rw [← h2] at e; cases e
            · injection h2 with _ _ h2 _
              rw [← h2] at e
              exact whoB_gone OK.out hk (of_decide_eq_true e))
          have HB7 := Lib.hid (show bits .and .i64 (si / 128) 1 = if whoB m.t k 7 then 1 else 0 by rw [← HSI.out, bit7, HS7.out])
          go_cut [119] (fun s119 wx => s119 = .bool false ∧ wx = V8)
          case first =>
            cases h7 : whoB m.t k 7
            · rw [h7] at HG HB7
              have hg0 : g = 0 := HG.out
              subst hg0
              have hb7 : bits .and .i64 (si / 128) 1 = 0 := HB7.out
              cases gone
              · go_wp2_with fail
                go_meet
                exact ⟨rfl, rfl⟩
              · go_wp2_with fail
                go_meet
                exact ⟨rfl, rfl⟩
            · rw [h7] at HG HB7 HGN
              have hg0 : g = 4 := HG.out
              subst hg0
              have hb7 : bits .and .i64 (si / 128) 1 = 1 := HB7.out
              have hgn : gone = false := by
                cases hg : gone
                · rfl
                · have := HGN.out hg; cases this
              subst hgn
              go_wp2_with fail
              go_meet
              exact ⟨rfl, rfl⟩
          case rest =>
            obtain ⟨rfl, hw⟩ := hcut
            have hw2 := hw.symm
            clear hw
            subst hw2
            clear HGN HB7 HG HCL hshl hsh2 hK1
            go_upto_region 14 with fail
            have hspan := span_eq3
            have hs0 := seenS_nonneg m.t.looks k
            have hsm : seenS m.t.looks k ≤ 1048576 := seenS_le (l := m.t.looks) (k := k) fun x hx => (OK.out.hours x hx).2
            by_cases hse : seenS m.t.looks k = mxH
            · skip
              as_aux_lemma =>
                have h2 := HW.out
                rw [if_pos hse] at h2
                injection h2 with h2 h3 h4 _
                subst h2 h3 h4
                have HNF := Lib.hid (sure_empty HT.out hlk hk hse)
                clear HW hse hs0 hsm
                have s0 := S1.out.c 0 _ rfl
                have s1 := S1.out.c 1 _ rfl
                have hq1 := fun W => span_eql 0 0 0 0 W
                simp only [beq_self_eq_true, Bool.and_self] at hq1
                have p0 := K.out.bx.c 0 _ rfl
                have p1 := K.out.bx.c 1 _ rfl
                have p2 := K.out.bx.c 2 _ rfl
                have p3 := K.out.bx.c 3 _ rfl
                go_wp2_with fail
                refine (between_any m k 0 _ K.out.ta K.out.en (by omega) (by omega) (by omega)).mono ?_
                rintro e V20 ⟨mx2, rfl, hmt, hT, hb⟩
                replace S1 := Lib.hid (S1.out.next hb)
                replace K := Lib.hid (K.out.next hb)
                replace HB := Lib.hid (HB.out.trans (hb.mono HB.out.size))
                have HT2 := Lib.hid hT
                obtain ⟨d2, g2, hcl⟩ : ∃ d g, clashS mx2.t = (d, g) := ⟨_, _, rfl⟩
                have hg2 : g2 ≠ 4 := fun e0 => by
                  have h1 : codeC mx2.t = 4 := by unfold codeC; rw [hcl]; exact e0
                  rw [hmt] at h1
                  have := (code_four.1 h1).2
                  rw [HNF.out] at this; cases this
                have e5 := decide_eq_false hg2
                have e6 : (g2 == 4) = false := by simp [hg2]
                have e7 : (g2 != 4) = true := by simp [hg2]
                have HCL := Lib.hid hcl
                clear hb hT hmt hcl p0 p1 p2 p3 s0 s1
                go_wp2_with fail
                have hcon := Clash_any mx2 _ HT2.out
                rw [HCL.out] at hcon
                refine (hcon).mono ?_
                rintro e V9 ⟨rfl, hb⟩
                replace S1 := Lib.hid (S1.out.next hb)
                replace K := Lib.hid (K.out.next hb)
                replace HB := Lib.hid (HB.out.trans (hb.mono HB.out.size))
                clear hb hcon HT2
                dsimp only [retCl]
                go_wp2_with fail
                refine (awake_any V9 K.out.en).mono ?_
                rintro e V99 ⟨rfl, hb⟩
                go_wp2_with fail
                go_ret
                exact ⟨rfl, HB.out.trans (hb.mono HB.out.size)⟩
            · have h2 := HW.out
              rw [if_neg hse] at h2
              injection h2 with h2 h3 h4 _
              have HLO := Lib.hid h2
              have HHI := Lib.hid h3
              have hg0 := HSW.out
              have hgm : goneS m.t.looks k ≤ 1048577 := goneS_le m.t.looks k
              have hse' : ¬ seenS m.t.looks k = 1048576 := hse
              have h3' : min (goneS m.t.looks k) 1048576 - 1 = hi := h3
              have hlo0 : 0 ≤ lo := by omega
              have hlh : lo ≤ hi := by omega
              have hhm : hi ≤ 1048575 := by omega
              have hgz : lo = 0 ∧ hi = 0 → gone = true := fun e => by rw [← h4]; exact decide_eq_true (show goneS m.t.looks k ≤ mxH from by show _ ≤ (1048576 : Int); omega)
              have HGZ := Lib.hid hgz
              clear HW h2 h3 h3' h4 hg0 hgm hgz hse hse' hs0 hsm
              go_cut [126] (fun s126 wx => s126 = .bool false ∧ wx = V8)
              case first =>
                have s0 := S1.out.c 0 _ rfl
                have s1 := S1.out.c 1 _ rfl
                by_cases hz : lo = 0 ∧ hi = 0
                · have hgt := HGZ.out hz
                  subst hgt
                  obtain ⟨hz1, hz2⟩ := hz
                  subst hz1 hz2
                  have hq1 := fun W => span_eql 0 0 0 0 W
                  simp only [beq_self_eq_true, Bool.and_self] at hq1
                  go_wp2_with fail
                  go_meet
                  exact ⟨rfl, rfl⟩
                · have hq1 := fun W => span_eql lo hi 0 0 W
                  have hzb : (lo == 0 && hi == 0) = false := by simpa using hz
                  simp only [hzb] at hq1
                  clear hzb hz
                  go_wp2_with fail
                  go_meet
                  exact ⟨rfl, rfl⟩
              case rest =>
                obtain ⟨rfl, hw⟩ := hcut
                have hw2 := hw.symm
                clear hw
                subst hw2
                clear HGZ hspan
                go_wp2_with fail
                have hl12 := OK.out.lo
                go_loopw [15, 16] (fun cv iv wr => ∃ i : Nat, iv = .int .i64 i ∧ cv = .int .i64 ((canL m.t k lo hi i : Nat) : Int) ∧ i ≤ m.t.loans.length ∧ Below V8.heap.size V8 wr) (fun _ iv _ => m.t.loans.length - (intOf iv).toNat)
                case atStart => exact ⟨0, rfl, rfl, by omega, Below.refl _ _⟩
                case round =>
                  obtain ⟨i, rfl, rfl, hi2, hbr⟩ := hrel
                  have HBR := Lib.hid hbr
                  have K2 := Lib.hid (K.out.next hbr)
                  have T1 := Lib.hid (S1.out.next hbr)
                  clear hbr
                  by_cases hlt : i < m.t.loans.length
                  · skip
                    as_aux_lemma =>
                      obtain ⟨bl, ol, eA, hbl, l0, l1, l2⟩ := loan_at K2.out.ta.lo hlt
                      have hgx := OK.out.lent.good _ (List.mem_of_getElem? (loan_get hlt))
                      have hstep : canL m.t k lo hi (i + 1) = if max (m.t.loans.getD i ⟨0, 0, 0⟩).a lo < (m.t.loans.getD i ⟨0, 0, 0⟩).b ∧ max (m.t.loans.getD i ⟨0, 0, 0⟩).a lo ≤ hi ∧ fitB (btw m.t k (max (m.t.loans.getD i ⟨0, 0, 0⟩).a lo)) = true then canL m.t k lo hi i ||| 2 ^ (m.t.loans.getD i ⟨0, 0, 0⟩).p.toNat else canL m.t k lo hi i := rfl
                      have hcl64 := canL_lt OK.out.lent k lo hi i (by omega)
                      have HST := Lib.hid hstep
                      have EA := Lib.hid eA
                      clear hstep
                      obtain ⟨x, hx⟩ : ∃ x, m.t.loans.getD i ⟨0, 0, 0⟩ = x := ⟨_, rfl⟩
                      rw [hx] at l0 l1 l2 hgx HST
                      clear hx
                      have hw : IntKind.i64.wrap ((i : Int) + 1) = (i : Int) + 1 := IntWalk.i64_in _ (by omega)
                      obtain ⟨c0, hc0⟩ : ∃ c : Nat, canL m.t k lo hi i = c := ⟨_, rfl⟩
                      rw [hc0] at HST hcl64 ⊢
                      clear hc0
                      have p0 := K2.out.bx.c 0 _ rfl
                      have p1 := K2.out.bx.c 1 _ rfl
                      have p2 := K2.out.bx.c 2 _ rfl
                      have p3 := K2.out.bx.c 3 _ rfl
                      rw [eA] at p1
                      clear eA
                      go_upto_region 23 with fail
                      have hA := nxA wr (.cells #[.int .i64 x.p, .int .i64 x.a, .int .i64 x.b] 44)
                      replace T1 := Lib.hid (T1.out.next hA)
                      replace K2 := Lib.hid (K2.out.next hA)
                      replace HBR := Lib.hid (HBR.out.trans (hA.mono HBR.out.size))
                      have XL := Lib.hid (Bx.new wr #[.int .i64 x.p, .int .i64 x.a, .int .i64 x.b] 44)
                      generalize (wr.alloc (.cells #[.int .i64 x.p, .int .i64 x.a, .int .i64 x.b] 44)) = V30 at *
                      generalize wr.heap.size = g17 at *
                      clear hA l0 l1 l2 p0 p1 p2 p3 hbl
                      go_cut [18] (fun s18 wx => s18 = .int .i64 (max x.a lo) ∧ wx = V30)
                      case first =>
                        have q1 := XL.out.c 1 _ rfl
                        have q0 := T1.out.c 0 _ rfl
                        by_cases hxl : x.a < lo
                        · have e8 := decide_eq_true hxl
                          have hm : max x.a lo = lo := by omega
                          go_wp2_with fail
                          go_meet
                          exact ⟨by rw [hm], rfl⟩
                        · have e8 := decide_eq_false hxl
                          have hm : max x.a lo = x.a := by omega
                          go_wp2_with fail
                          go_meet
                          exact ⟨by rw [hm], rfl⟩
                      case rest =>
                        obtain ⟨rfl, hw3⟩ := hcut
                        have hw2 := hw3.symm
                        clear hw3
                        subst hw2
                        have hxb : x.b ≤ 1048576 := hgx.2.2.2.2
                        have hr0 : 0 ≤ max x.a lo ∧ max x.a lo ≤ 1048576 := by omega
                        generalize max x.a lo = hr at *
                        have q2 := XL.out.c 2 _ rfl
                        have q1 := T1.out.c 1 _ rfl
                        by_cases c1 : x.b ≤ hr
                        · have e9 := decide_eq_true c1
                          go_wp2_with fail
                          first | (exact ⟨⟨_, .int .i64 (c0 : Int), .int .i64 ((i : Int) + 1), ⟨i + 1, by push_cast; rfl, by rw [HST.out, if_neg (by omega)], by omega, HBR.out⟩, rfl, rfl, rfl⟩, by simp [intOf]; omega⟩) | (go_roundw; (case rel => exact ⟨i + 1, by push_cast; rfl, by rw [HST.out, if_neg (by omega)], by omega, HBR.out⟩); (case measure => (simp [intOf]; omega))) | (go_round; (case rel => exact ⟨i + 1, by push_cast; rfl, by rw [HST.out, if_neg (by omega)], by omega, HBR.out⟩); (case measure => (simp [intOf]; omega)))
                        · have e9 := decide_eq_false c1
                          by_cases c2 : hi < hr
                          · have e10 := decide_eq_true c2
                            go_wp2_with fail
                            first | (exact ⟨⟨_, .int .i64 (c0 : Int), .int .i64 ((i : Int) + 1), ⟨i + 1, by push_cast; rfl, by rw [HST.out, if_neg (by omega)], by omega, HBR.out⟩, rfl, rfl, rfl⟩, by simp [intOf]; omega⟩) | (go_roundw; (case rel => exact ⟨i + 1, by push_cast; rfl, by rw [HST.out, if_neg (by omega)], by omega, HBR.out⟩); (case measure => (simp [intOf]; omega))) | (go_round; (case rel => exact ⟨i + 1, by push_cast; rfl, by rw [HST.out, if_neg (by omega)], by omega, HBR.out⟩); (case measure => (simp [intOf]; omega)))
                          · have e10 := decide_eq_false c2
                            have p0 := K2.out.bx.c 0 _ rfl
                            have p1 := K2.out.bx.c 1 _ rfl
                            have p2 := K2.out.bx.c 2 _ rfl
                            have p3 := K2.out.bx.c 3 _ rfl
                            go_wp2_with fail
                            refine (between_any m k hr _ K2.out.ta K2.out.en (by omega) hr0 (by omega)).mono ?_
                            rintro e V31 ⟨mx2, rfl, hmt, hT, hb⟩
                            replace T1 := Lib.hid (T1.out.next hb)
                            replace XL := Lib.hid (XL.out.next hb)
                            replace K2 := Lib.hid (K2.out.next hb)
                            replace HBR := Lib.hid (HBR.out.trans (hb.mono HBR.out.size))
                            have HT2 := Lib.hid hT
                            obtain ⟨d2, g2, hcl⟩ : ∃ d g, clashS mx2.t = (d, g) := ⟨_, _, rfl⟩
                            have hg2 : g2 = if fitB (btw m.t k hr) then 4 else 0 := by
                              have h1 := code_ok (btw_ok HT.out hlk hk (x := hr) (by omega) (by show hr + 1 ≤ 1048576; omega))
                              unfold codeC at h1
                              rw [← hmt, hcl] at h1
                              rw [← hmt]
                              exact h1
                            have HG2 := Lib.hid hg2
                            have HCL := Lib.hid hcl
                            clear hb hT hmt hcl hg2 p0 p1 p2 p3
                            clear q1 q2
                            go_wp2_with fail
                            have hcon := Clash_any mx2 _ HT2.out
                            rw [HCL.out] at hcon
                            refine (hcon).mono ?_
                            rintro e V9 ⟨rfl, hb⟩
                            replace T1 := Lib.hid (T1.out.next hb)
                            replace XL := Lib.hid (XL.out.next hb)
                            replace K2 := Lib.hid (K2.out.next hb)
                            replace HBR := Lib.hid (HBR.out.trans (hb.mono HBR.out.size))
                            clear hb hcon HT2
                            dsimp only [retCl]
                            cases hff : fitB (btw m.t k hr)
                            · rw [hff] at HG2 HST
                              have hg2 : g2 = 0 := HG2.out
                              subst hg2
                              go_wp2_with fail
                              first | (exact ⟨⟨_, .int .i64 (c0 : Int), .int .i64 ((i : Int) + 1), ⟨i + 1, by push_cast; rfl, by rw [HST.out, if_neg (by rintro ⟨-, -, h⟩; cases h)], by omega, HBR.out⟩, rfl, rfl, rfl⟩, by simp [intOf]; omega⟩) | (go_roundw; (case rel => exact ⟨i + 1, by push_cast; rfl, by rw [HST.out, if_neg (by rintro ⟨-, -, h⟩; cases h)], by omega, HBR.out⟩); (case measure => (simp [intOf]; omega))) | (go_round; (case rel => exact ⟨i + 1, by push_cast; rfl, by rw [HST.out, if_neg (by rintro ⟨-, -, h⟩; cases h)], by omega, HBR.out⟩); (case measure => (simp [intOf]; omega)))
                            · rw [hff] at HG2 HST
                              have hg2 : g2 = 4 := HG2.out
                              subst hg2
                              have q0 := XL.out.c 0 _ rfl
                              have hp0 := hgx.1
                              have hp1 := hgx.2.1
                              have hsx : IntKind.i64.wrap (2 ^ x.p.toNat) = powI x.p.toNat := wrap_pow (by omega)
                              have hpw : (2 : Nat) ^ x.p.toNat < 9223372036854775808 := Nat.lt_of_lt_of_le (Nat.pow_lt_pow_right (a := 2) (by decide) (show x.p.toNat < 62 by omega)) (by decide)
                              have hor : bits .or .i64 (c0 : Int) (powI x.p.toNat) = ((c0 ||| 2 ^ x.p.toNat : Nat) : Int) := i64_or_nat c0 (2 ^ x.p.toNat) (by omega) hpw
                              clear hpw
                              go_wp2_with fail
                              first | (exact ⟨⟨_, .int .i64 ((c0 ||| 2 ^ x.p.toNat : Nat) : Int), .int .i64 ((i : Int) + 1), ⟨i + 1, by push_cast; rfl, by rw [HST.out, if_pos ⟨by omega, by omega, rfl⟩], by omega, HBR.out⟩, rfl, rfl, rfl⟩, by simp [intOf]; omega⟩) | (go_roundw; (case rel => exact ⟨i + 1, by push_cast; rfl, by rw [HST.out, if_pos ⟨by omega, by omega, rfl⟩], by omega, HBR.out⟩); (case measure => (simp [intOf]; omega))) | (go_round; (case rel => exact ⟨i + 1, by push_cast; rfl, by rw [HST.out, if_pos ⟨by omega, by omega, rfl⟩], by omega, HBR.out⟩); (case measure => (simp [intOf]; omega)))
                  · obtain rfl : i = m.t.loans.length := by omega
                    have p0 := K2.out.bx.c 0 _ rfl
                    have p1 := K2.out.bx.c 1 _ rfl
                    have p2 := K2.out.bx.c 2 _ rfl
                    have p3 := K2.out.bx.c 3 _ rfl
                    have q0 := T1.out.c 0 _ rfl
                    have hcl64 := canL_lt OK.out.lent k lo hi m.t.loans.length (Nat.le_refl _)
                    obtain ⟨c0, hc0⟩ : ∃ c : Nat, canL m.t k lo hi m.t.loans.length = c := ⟨_, rfl⟩
                    rw [hc0] at hcl64 ⊢
                    have HC0 := Lib.hid hc0
                    clear hc0
                    go_wp2_with fail
                    clear p0 p1 p2 p3 q0
                    go_loopw [21, 22] (fun hv iv wx => ∃ i : Nat, iv = .int .i64 i ∧ hv = .int .i64 (hourU m.t.loans lo i) ∧ i ≤ m.t.loans.length + 1 ∧ Below wr.heap.size wr wx) (fun _ iv _ => m.t.loans.length + 1 - (intOf iv).toNat)
                    case atStart => exact ⟨0, rfl, rfl, by omega, Below.refl _ _⟩
                    case round =>
                      obtain ⟨j, rfl, rfl, hj, hbr⟩ := hrel
                      have HBX := Lib.hid hbr
                      have K3 := Lib.hid (K2.out.next hbr)
                      have T2 := Lib.hid (T1.out.next hbr)
                      clear hbr
                      by_cases hlt2 : j ≤ m.t.loans.length
                      · skip
                        as_aux_lemma =>
                          have hw : IntKind.i64.wrap ((j : Int) + 1) = (j : Int) + 1 := IntWalk.i64_in _ (by omega)
                          have HU := Lib.hid (show hourU m.t.loans lo (j + 1) = stepU m.t.loans (hourU m.t.loans lo j) m.t.loans.length from rfl)
                          generalize hourU m.t.loans lo j = H at *
                          have p0 := K3.out.bx.c 0 _ rfl
                          have p1 := K3.out.bx.c 1 _ rfl
                          have p2 := K3.out.bx.c 2 _ rfl
                          have p3 := K3.out.bx.c 3 _ rfl
                          go_wp2_with fail
                          clear p0 p1 p2 p3
                          go_loopw [21, 23] (fun hv qv wy => ∃ q : Nat, qv = .int .i64 q ∧ hv = .int .i64 (stepU m.t.loans H q) ∧ q ≤ m.t.loans.length ∧ Below wr.heap.size wr wy) (fun _ qv _ => m.t.loans.length - (intOf qv).toNat)
                          case atStart => exact ⟨0, rfl, rfl, by omega, Below.refl _ _⟩
                          case round =>
                            obtain ⟨q, rfl, rfl, hq, hbr⟩ := hrel
                            have HBY := Lib.hid hbr
                            have K4 := Lib.hid (K3.out.next hbr)
                            clear hbr
                            by_cases hlt3 : q < m.t.loans.length
                            · obtain ⟨bl, ol, eA, hbl, l0, l1, l2⟩ := loan_at K4.out.ta.lo hlt3
                              have hstep : stepU m.t.loans H (q + 1) = if inLoan (stepU m.t.loans H q) (m.t.loans.getD q ⟨0, 0, 0⟩) then (m.t.loans.getD q ⟨0, 0, 0⟩).b else stepU m.t.loans H q := rfl
                              have HST := Lib.hid hstep
                              clear hstep
                              obtain ⟨x, hx⟩ : ∃ x, m.t.loans.getD q ⟨0, 0, 0⟩ = x := ⟨_, rfl⟩
                              rw [hx] at l0 l1 l2 HST
                              clear hx
                              have hw3 : IntKind.i64.wrap ((q : Int) + 1) = (q : Int) + 1 := IntWalk.i64_in _ (by omega)
                              generalize stepU m.t.loans H q = G at *
                              have p0 := K4.out.bx.c 0 _ rfl
                              have p1 := K4.out.bx.c 1 _ rfl
                              have p2 := K4.out.bx.c 2 _ rfl
                              have p3 := K4.out.bx.c 3 _ rfl
                              rw [eA] at p1
                              have EA := Lib.hid eA
                              clear eA
                              by_cases c1 : x.a ≤ G
                              · have e9 := decide_eq_true c1
                                by_cases c2 : G < x.b
                                · have e10 := decide_eq_true c2
                                  go_wp2_with fail
                                  first | (exact ⟨⟨_, .int .i64 x.b, .int .i64 ((q : Int) + 1), ⟨q + 1, by push_cast; rfl, by rw [HST.out, if_pos (inLoan_iff.2 ⟨c1, c2⟩)], by omega, HBY.out⟩, rfl, rfl, rfl⟩, by simp [intOf]; omega⟩) | (go_roundw; (case rel => exact ⟨q + 1, by push_cast; rfl, by rw [HST.out, if_pos (inLoan_iff.2 ⟨c1, c2⟩)], by omega, HBY.out⟩); (case measure => (simp [intOf]; omega))) | (go_round; (case rel => exact ⟨q + 1, by push_cast; rfl, by rw [HST.out, if_pos (inLoan_iff.2 ⟨c1, c2⟩)], by omega, HBY.out⟩); (case measure => (simp [intOf]; omega)))
                                · have e10 := decide_eq_false c2
                                  go_wp2_with fail
                                  first | (exact ⟨⟨_, .int .i64 G, .int .i64 ((q : Int) + 1), ⟨q + 1, by push_cast; rfl, by rw [HST.out, if_neg (fun h => c2 (inLoan_iff.1 h).2)], by omega, HBY.out⟩, rfl, rfl, rfl⟩, by simp [intOf]; omega⟩) | (go_roundw; (case rel => exact ⟨q + 1, by push_cast; rfl, by rw [HST.out, if_neg (fun h => c2 (inLoan_iff.1 h).2)], by omega, HBY.out⟩); (case measure => (simp [intOf]; omega))) | (go_round; (case rel => exact ⟨q + 1, by push_cast; rfl, by rw [HST.out, if_neg (fun h => c2 (inLoan_iff.1 h).2)], by omega, HBY.out⟩); (case measure => (simp [intOf]; omega)))
                              · have e9 := decide_eq_false c1
                                go_wp2_with fail
                                first | (exact ⟨⟨_, .int .i64 G, .int .i64 ((q : Int) + 1), ⟨q + 1, by push_cast; rfl, by rw [HST.out, if_neg (fun h => c1 (inLoan_iff.1 h).1)], by omega, HBY.out⟩, rfl, rfl, rfl⟩, by simp [intOf]; omega⟩) | (go_roundw; (case rel => exact ⟨q + 1, by push_cast; rfl, by rw [HST.out, if_neg (fun h => c1 (inLoan_iff.1 h).1)], by omega, HBY.out⟩); (case measure => (simp [intOf]; omega))) | (go_round; (case rel => exact ⟨q + 1, by push_cast; rfl, by rw [HST.out, if_neg (fun h => c1 (inLoan_iff.1 h).1)], by omega, HBY.out⟩); (case measure => (simp [intOf]; omega)))
                            · obtain rfl : q = m.t.loans.length := by omega
                              rw [← HU.out]
                              have p0 := K4.out.bx.c 0 _ rfl
                              have p1 := K4.out.bx.c 1 _ rfl
                              have p2 := K4.out.bx.c 2 _ rfl
                              have p3 := K4.out.bx.c 3 _ rfl
                              go_wp2_with fail
                              first | (exact ⟨⟨_, .int .i64 (hourU m.t.loans lo (j + 1)), .int .i64 ((j : Int) + 1), ⟨j + 1, by push_cast; rfl, rfl, by omega, HBX.out.trans (HBY.out.mono HBX.out.size)⟩, rfl, rfl, rfl⟩, by simp [intOf]; omega⟩) | (go_roundw; (case rel => exact ⟨j + 1, by push_cast; rfl, rfl, by omega, HBX.out.trans (HBY.out.mono HBX.out.size)⟩); (case measure => (simp [intOf]; omega))) | (go_round; (case rel => exact ⟨j + 1, by push_cast; rfl, rfl, by omega, HBX.out.trans (HBY.out.mono HBX.out.size)⟩); (case measure => (simp [intOf]; omega)))
                      · obtain rfl : j = m.t.loans.length + 1 := by omega
                        have e11 := decide_eq_false (show ¬ m.t.loans.length + 1 ≤ m.t.loans.length by omega)
                        have e12 := decide_eq_false (show ¬ ((m.t.loans.length : Int) + 1) ≤ (m.t.loans.length : Int) by omega)
                        have HLAW := Lib.hid (sure_law HT.out hlk hk HSW.out)
                        rw [HLO.out, HHI.out, HC0.out, HSET.out] at HLAW
                        have hH0 := (hourU_inv m.t.loans lo (m.t.loans.length + 1)).1
                        generalize hourU m.t.loans lo (m.t.loans.length + 1) = H at *
                        have hand : bits .andNot .i64 si 128 = ((set &&& (2 ^ 64 - (128 + 1)) : Nat) : Int) := by rw [← HSI.out]; exact i64_andNot_nat set 128 (by have := HSI.out; omega) (by decide)
                        have q1 := T2.out.c 1 _ rfl
                        have p0 := K3.out.bx.c 0 _ rfl
                        have p1 := K3.out.bx.c 1 _ rfl
                        have p2 := K3.out.bx.c 2 _ rfl
                        have p3 := K3.out.bx.c 3 _ rfl
                        by_cases c1 : H ≤ hi
                        rotate_left
                        · have e13 := decide_eq_false c1
                          rw [if_neg (fun h => c1 h.1), Nat.or_zero] at HLAW
                          rw [← HLAW.out] at hand
                          go_wp2_with fail
                          refine (awake_any _ K3.out.en).mono ?_
                          rintro e V99 ⟨rfl, hb⟩
                          go_wp2_with fail
                          go_ret
                          exact ⟨rfl, HB.out.trans ((HBR.out.trans ((HBX.out.trans (hb.mono HBX.out.size)).mono HBR.out.size)).mono HB.out.size)⟩
                        · have e13 := decide_eq_true c1
                          go_wp2_with fail
                          refine (between_any m k H _ K3.out.ta K3.out.en (by omega) (by omega) (by omega)).mono ?_
                          rintro e V41 ⟨mx2, rfl, hmt, hT, hb⟩
                          replace T2 := Lib.hid (T2.out.next hb)
                          replace K3 := Lib.hid (K3.out.next hb)
                          replace HBX := Lib.hid (HBX.out.trans (hb.mono HBX.out.size))
                          have HT2 := Lib.hid hT
                          obtain ⟨d2, g2, hcl⟩ : ∃ d g, clashS mx2.t = (d, g) := ⟨_, _, rfl⟩
                          have hg2 : g2 = if fitB (btw m.t k H) then 4 else 0 := by
                            have h1 := code_ok (btw_ok HT.out hlk hk (x := H) (by omega) (by show H + 1 ≤ 1048576; omega))
                            unfold codeC at h1
                            rw [← hmt, hcl] at h1
                            rw [← hmt]
                            exact h1
                          have HG2 := Lib.hid hg2
                          have HCL := Lib.hid hcl
                          clear hb hT hmt hcl hg2 p0 p1 p2 p3
                          clear q1
                          go_wp2_with fail
                          have hcon := Clash_any mx2 _ HT2.out
                          rw [HCL.out] at hcon
                          refine (hcon).mono ?_
                          rintro e V9 ⟨rfl, hb⟩
                          replace T2 := Lib.hid (T2.out.next hb)
                          replace K3 := Lib.hid (K3.out.next hb)
                          replace HBX := Lib.hid (HBX.out.trans (hb.mono HBX.out.size))
                          clear hb hcon HT2
                          dsimp only [retCl]
                          cases hff : fitB (btw m.t k H)
                          · rw [hff] at HG2
                            have hg2 : g2 = 0 := HG2.out
                            subst hg2
                            rw [if_neg (fun h => by rw [hff] at h; cases h.2), Nat.or_zero] at HLAW
                            rw [← HLAW.out] at hand
                            go_wp2_with fail
                            refine (awake_any _ K3.out.en).mono ?_
                            rintro e V99 ⟨rfl, hb⟩
                            go_wp2_with fail
                            go_ret
                            exact ⟨rfl, HB.out.trans ((HBR.out.trans ((HBX.out.trans (hb.mono HBX.out.size)).mono HBR.out.size)).mono HB.out.size)⟩
                          · rw [hff] at HG2
                            have hg2 : g2 = 4 := HG2.out
                            subst hg2
                            rw [if_pos ⟨c1, hff⟩] at HLAW
                            have hor : bits .or .i64 (c0 : Int) 64 = ((c0 ||| 64 : Nat) : Int) := i64_or_nat c0 64 (by omega) (by decide)
                            rw [← HLAW.out] at hand
                            go_wp2_with fail
                            refine (awake_any _ K3.out.en).mono ?_
                            rintro e V99 ⟨rfl, hb⟩
                            go_wp2_with fail
                            go_ret
                            exact ⟨rfl, HB.out.trans ((HBR.out.trans ((HBX.out.trans (hb.mono HBX.out.size)).mono HBR.out.size)).mono HB.out.size)⟩
end Go.Proofs.YtkcfpnpejaekjaaDoor
