import Derived.Test.YtkcfpnpejaekjaaDoorD5
import Derived.Deep.CutBlock
namespace Go.Proofs.YtkcfpnpejaekjaaDoor
open Go.RowKit
/-! The law LendOrder. -/
set_option maxRecDepth 100000 in
set_option maxHeartbeats 4000000 in
theorem LendOrder_walk (m : Mt) (h k p tn : Int) (w : World) (hd : TaleAt w w.heap.size m) (hby : (Lit.int .u8 tn).wf = true) (he : Env w) : Calls Tryd.prog 11 #[.agg #[.int .i64 m.t.n, .slice m.A1 m.t.loans.length m.c1, .slice m.A2 m.t.looks.length m.c2, .slice m.A3 m.t.admits.length m.c3], .int .i64 h, .int .i64 k, .int .i64 p, .int .u8 tn] w (Ret (.bool true) w) := by
  have htn : 0 ≤ tn ∧ tn < 256 := by simp [Lit.wf, IntKind.min, IntKind.max, IntKind.bits, IntKind.signed] at hby; omega
  clear hby
  obtain ⟨c, rfl⟩ : ∃ c : Nat, tn = (c : Int) := ⟨tn.toNat, by omega⟩
  have hc256 : c < 256 := by omega
  clear htn
  have hwc : IntKind.i64.wrap (c : Int) = (c : Int) := IntWalk.i64_in _ (by omega)
  have K := Lib.hid (show LwT m w.heap.size (w.alloc (.cells #[.int .i64 m.t.n, .slice m.A1 m.t.loans.length m.c1, .slice m.A2 m.t.looks.length m.c2, .slice m.A3 m.t.admits.length m.c3] 26)) from ⟨hd.next (nxA _ _), he.next (nxA _ _), Bx.new w #[.int .i64 m.t.n, .slice m.A1 m.t.loans.length m.c1, .slice m.A2 m.t.looks.length m.c2, .slice m.A3 m.t.admits.length m.c3] 26⟩)
  have HB := Lib.hid (nxA w (.cells #[.int .i64 m.t.n, .slice m.A1 m.t.loans.length m.c1, .slice m.A2 m.t.looks.length m.c2, .slice m.A3 m.t.admits.length m.c3] 26))
  clear hd he
  go_enter Tryd.func11, Tryd.ntmps11
  go_upto_region 1 with fail
  generalize (w.alloc (.cells #[.int .i64 m.t.n, .slice m.A1 m.t.loans.length m.c1, .slice m.A2 m.t.looks.length m.c2, .slice m.A3 m.t.admits.length m.c3] 26)) = V1 at *
  have p0 := K.out.bx.c 0 _ rfl
  have p1 := K.out.bx.c 1 _ rfl
  have p2 := K.out.bx.c 2 _ rfl
  have p3 := K.out.bx.c 3 _ rfl
  go_wp2_with fail
  refine (far_any m V1).mono ?_
  rintro e V2 ⟨rfl, hb⟩
  replace K := Lib.hid (K.out.next hb)
  replace HB := Lib.hid (HB.out.trans (hb.mono HB.out.size))
  clear hb p0 p1 p2 p3
  have p0 := K.out.bx.c 0 _ rfl
  have p1 := K.out.bx.c 1 _ rfl
  have p2 := K.out.bx.c 2 _ rfl
  have p3 := K.out.bx.c 3 _ rfl
  cases farS m.t
  rotate_left
  ·
    go_wp2_with fail
    refine (awake_any _ K.out.en).mono ?_
    rintro e V99 ⟨rfl, hb⟩
    go_wp2_with fail
    go_ret
    exact ⟨rfl, HB.out.trans (hb.mono HB.out.size)⟩
  · skip
    by_cases g1 : (12 : Int) ≤ (m.t.loans.length : Int)
    · have d1 : decide ((12 : Int) ≤ (m.t.loans.length : Int)) = true := decide_eq_true g1
      go_wp2_with fail
      refine (awake_any _ K.out.en).mono ?_
      rintro e V99 ⟨rfl, hb⟩
      go_wp2_with fail
      go_ret
      exact ⟨rfl, HB.out.trans (hb.mono HB.out.size)⟩
    · have d1 : decide ((12 : Int) ≤ (m.t.loans.length : Int)) = false := decide_eq_false g1
      by_cases g2 : (20 : Int) ≤ (m.t.looks.length : Int)
      · have d2 : decide ((20 : Int) ≤ (m.t.looks.length : Int)) = true := decide_eq_true g2
        go_wp2_with fail
        refine (awake_any _ K.out.en).mono ?_
        rintro e V99 ⟨rfl, hb⟩
        go_wp2_with fail
        go_ret
        exact ⟨rfl, HB.out.trans (hb.mono HB.out.size)⟩
      · have d2 : decide ((20 : Int) ≤ (m.t.looks.length : Int)) = false := decide_eq_false g2
        have hln : m.t.loans.length < 12 := by omega
        have hkn : m.t.looks.length < 20 := by omega
        clear g1 g2
        go_upto_region 4 with fail
        clear d1 d2 p0 p1 p2 p3
        have X9 := Bx.new V2 #[.int .i64 m.t.n, .slice m.A1 m.t.loans.length m.c1, .slice m.A2 m.t.looks.length m.c2, .slice m.A3 m.t.admits.length m.c3] 26
        have A9 := nxA V2 (.cells #[.int .i64 m.t.n, .slice m.A1 m.t.loans.length m.c1, .slice m.A2 m.t.looks.length m.c2, .slice m.A3 m.t.admits.length m.c3] 26)
        generalize (V2.alloc (.cells #[.int .i64 m.t.n, .slice m.A1 m.t.loans.length m.c1, .slice m.A2 m.t.looks.length m.c2, .slice m.A3 m.t.admits.length m.c3] 26)) = U at *
        have z1 := X9.c 1 _ rfl
        have z2 := X9.c 2 _ rfl
        have y1 := X9.fr 1
        have y2 := X9.fr 2
        obtain ⟨b, hb9⟩ : ∃ b, b = V2.heap.size := ⟨_, rfl⟩
        rw [← hb9] at X9 z1 z2 y1 y2 ⊢
        have hV0 := K.out.bx.lt
        have hVb : V2.heap.size ≤ b := by omega
        have hbU : b < U.heap.size := X9.lt
        clear hb9
        go_upto_region 5 with fail
        have HX0 : XAt V2 b m (.slice none 0 0) (.slice none 0 0) [] [] ((U.setCell ⟨b, 1, none⟩ (.slice none 0 0)).setCell ⟨b, 2, none⟩ (.slice none 0 0)) := by
          refine ⟨by omega, (A9.setCell (p := ⟨b, 1, none⟩) (by show _ ≤ b; omega) _).setCell (p := ⟨b, 2, none⟩) (by show _ ≤ b; omega) _, ((X9.set (k := 1) (by simp) (.slice none 0 0)).set (k := 2) (by simp) (.slice none 0 0)), World.ownsRow_nil _ _ _ _, World.ownsRow_nil _ _ _ _⟩
        have X := Lib.hid HX0
        generalize ((U.setCell ⟨b, 1, none⟩ (.slice none 0 0)).setCell ⟨b, 2, none⟩ (.slice none 0 0)) = U1 at *
        clear HX0 hbU z1 z2 y1 y2 X9 A9
        go_wp2_with fail
        go_loopw [12] (fun iv wr => ∃ i : Nat, iv = .int .i64 i ∧ i ≤ m.t.loans.length ∧ ∃ v, XAt V2 b m v (.slice none 0 0) (rotN ⟨0, 0, 0⟩ m.t.loans c i) [] wr) (fun iv _ => m.t.loans.length - (intOf iv).toNat)
        case atStart => exact ⟨0, rfl, by omega, _, X.out⟩
        case round =>
          obtain ⟨i, rfl, hi, v, hX⟩ := hrel
          clear X
          have X := Lib.hid hX
          clear hX
          have K2 := Lib.hid (K.out.next X.out.bw)
          have q1 := K2.out.bx.c 1 _ rfl
          by_cases hlt : i < m.t.loans.length
          · have e0 := decide_eq_true (show (i : Int) < (m.t.loans.length : Int) by omega)
            go_upto_block 1 with fail
            clear e0
            obtain ⟨L, hL⟩ : ∃ L, rotN ⟨0, 0, 0⟩ m.t.loans c i = L := ⟨_, rfl⟩
            have HLn := Lib.hid (show L.length = i by rw [← hL]; exact rotN_length _ _ _ _)
            obtain ⟨ix, hix0, hix, hI2, hI1⟩ := rem_idx (show 0 < m.t.loans.length by omega) (i + c)
            have hJ0 : (i : Int) + (c : Int) = (((i + c : Nat)) : Int) := by omega
            have hJ2 : Int.tmod ((i : Int) + (c : Int)) (m.t.loans.length : Int) = (ix : Int) := (congrArg (Int.tmod · _) hJ0).trans hI2
            have hJ1 : ((i : Int) + (c : Int)) % (m.t.loans.length : Int) = (ix : Int) := (congrArg (· % (m.t.loans.length : Int)) hJ0).trans hI1
            have hR := rotN_succ (⟨0, 0, 0⟩ : Loan) m.t.loans c i
            rw [hL, ← hix0] at hR
            clear hJ0 hI1 hI2 hix0
            have hwi : IntKind.i64.wrap ((i : Int) + (c : Int)) = (i : Int) + (c : Int) := IntWalk.i64_in _ (by omega)
            have hwk : IntKind.i64.wrap ((i : Int) + 1) = (i : Int) + 1 := IntWalk.i64_in _ (by omega)
            rw [hL] at X
            obtain ⟨be, oe, eA, hbe, -, -, -⟩ := loan_at K.out.ta.lo hix
            have HS0 := Lib.hid (show ∀ W : World, Below V2.heap.size V2 W → (W.cell? ⟨w.heap.size, 1, none⟩ = some (.slice m.A1 m.t.loans.length m.c1) ∧ W.cell? ⟨be, oe + ix * 3, none⟩ = some ((m.t.loans.getD ix ⟨0, 0, 0⟩).cells.getD 0 undef) ∧ W.cell? ⟨be, oe + ix * 3 + 1, none⟩ = some ((m.t.loans.getD ix ⟨0, 0, 0⟩).cells.getD 1 undef) ∧ W.cell? ⟨be, oe + ix * 3 + 2, none⟩ = some ((m.t.loans.getD ix ⟨0, 0, 0⟩).cells.getD 2 undef)) from fun W hW => by
              obtain ⟨be', oe', eA', -, l0, l1, l2⟩ := loan_at (K.out.next hW).ta.lo hix
              rw [eA] at eA'
              injection eA' with eA'
              injection eA' with e4 e5
              subst e4 e5
              exact ⟨(K.out.next hW).bx.c 1 _ rfl, l0, l1, l2⟩)
            generalize m.t.loans.getD ix ⟨0, 0, 0⟩ = x at *
            have HRR := Lib.hid hR
            clear hR
            have HLL := Lib.hid hL
            clear hL
            have hixI : (ix : Int) < (m.t.loans.length : Int) := by omega
            have hb0I : ¬ (m.t.loans.length : Int) = 0 := by omega
            have hb0N : ¬ m.t.loans.length = 0 := by omega
            have hbne : ¬ m.t.loans = [] := by rintro e; rw [e] at hix; simp at hix
            have HS := Lib.hid (show ∀ W : World, Below V2.heap.size V2 W → (W.cell? ⟨w.heap.size, 1, none⟩ = some (.slice (some ⟨be, oe, none⟩) m.t.loans.length m.c1) ∧ W.cell? ⟨be, oe + ix * 3, none⟩ = some (.int .i64 x.p) ∧ W.cell? ⟨be, oe + ix * 3 + 1, none⟩ = some (.int .i64 x.a) ∧ W.cell? ⟨be, oe + ix * 3 + 2, none⟩ = some (.int .i64 x.b)) from fun W hW => by have hh := HS0.out W hW; rw [eA] at hh; exact hh)
            clear HS0 eA q1 K2
            obtain ⟨Aq, cq, Aq2, cq2, e1, e2, hcq, hcq2, -, -⟩ := X.out.form
            subst e1
            clear e2
            have X0 := X
            replace X := Lib.hid X.out.drew
            have hc := X.out.bw
            obtain ⟨ib, gi, gz0, gz1, gz2⟩ := info_parts loan_info
            go_cut [] (fun wx => ∃ v', XAt V2 b m v' (.slice none 0 0) (L ++ [x]) [] wx)
            case first =>
              as_aux_lemma =>
                go_upto_region 8 with fail
                refine wp_region_noPanic ?_
                refine wp_region_held_drew (S := (fun W => W.cell? ⟨w.heap.size, 1, none⟩ = some (.slice (some ⟨be, oe, none⟩) m.t.loans.length m.c1) ∧ W.cell? ⟨be, oe + ix * 3, none⟩ = some (.int .i64 x.p) ∧ W.cell? ⟨be, oe + ix * 3 + 1, none⟩ = some (.int .i64 x.a) ∧ W.cell? ⟨be, oe + ix * 3 + 2, none⟩ = some (.int .i64 x.b))) (by kernel_rfl) ?_ (fun hHeld => ?_)
                · (try dsimp only); exact HS.out _ hc
                refine htake (i := 0) (v := ?v1) rfl (by kernel_rfl) (by kernel_rfl) (by kernel_rfl) (fun _ _ _ h => h) (Or.inl ⟨by rfl, ?hy1⟩) (by assumption) ?_
                case hy1 => (intro w hSw; (try dsimp only at hSw); go_simp; try (with_reducible rfl))
                try simp only [Act.put, List.setIfInBounds_toArray, List.set_cons_zero, List.set_cons_succ]
                refine htake (i := 2) (v := ?v2) rfl (by kernel_rfl) (by kernel_rfl) (by kernel_rfl) (fun _ _ _ h => h) (Or.inl ⟨by rfl, ?hy2⟩) (by assumption) ?_
                case hy2 => (intro w hSw; (try dsimp only at hSw); go_simp; try (with_reducible rfl))
                try simp only [Act.put, List.setIfInBounds_toArray, List.set_cons_zero, List.set_cons_succ]
                refine htake (i := 3) (v := ?v3) rfl (by kernel_rfl) (by kernel_rfl) (by kernel_rfl) (fun _ _ _ h => h) (Or.inl ⟨by rfl, ?hy3⟩) (by assumption) ?_
                case hy3 => (intro w hSw; (try dsimp only at hSw); go_simp; try (with_reducible rfl))
                try simp only [Act.put, List.setIfInBounds_toArray, List.set_cons_zero, List.set_cons_succ]
                refine htake (i := 4) (v := ?v4) rfl (by kernel_rfl) (by kernel_rfl) (by kernel_rfl) (fun _ _ _ h => h) (Or.inl ⟨by rfl, ?hy4⟩) (by assumption) ?_
                case hy4 => (intro w hSw; (try dsimp only at hSw); go_simp; try (with_reducible rfl))
                try simp only [Act.put, List.setIfInBounds_toArray, List.set_cons_zero, List.set_cons_succ]
                refine htake (i := 5) (v := ?v5) rfl (by kernel_rfl) (by kernel_rfl) (by kernel_rfl) (fun _ _ _ h => h) (Or.inl ⟨by rfl, ?hy5⟩) (by assumption) ?_
                case hy5 => (intro w hSw; (try dsimp only at hSw); go_simp; try (with_reducible rfl))
                try simp only [Act.put, List.setIfInBounds_toArray, List.set_cons_zero, List.set_cons_succ]
                refine htake (i := 6) (v := ?v6) rfl (by kernel_rfl) (by kernel_rfl) (by kernel_rfl) (fun _ _ _ h => h) (Or.inl ⟨by rfl, ?hy6⟩) (by assumption) ?_
                case hy6 => (intro w hSw; (try dsimp only at hSw); go_simp; try (with_reducible rfl))
                try simp only [Act.put, List.setIfInBounds_toArray, List.set_cons_zero, List.set_cons_succ]
                refine htake (i := 7) (v := ?v7) rfl (by kernel_rfl) (by kernel_rfl) (by kernel_rfl) (fun _ _ _ h => h) (Or.inl ⟨by rfl, ?hy7⟩) (by assumption) ?_
                case hy7 => (intro w hSw; (try dsimp only at hSw); go_simp; try (with_reducible rfl))
                try simp only [Act.put, List.setIfInBounds_toArray, List.set_cons_zero, List.set_cons_succ]
                refine htake (i := 8) (v := ?v8) rfl (by kernel_rfl) (by kernel_rfl) (by kernel_rfl) (fun _ _ _ h => h) (Or.inl ⟨by rfl, ?hy8⟩) (by assumption) ?_
                case hy8 => (intro w hSw; (try dsimp only at hSw); go_simp; try (with_reducible rfl))
                try simp only [Act.put, List.setIfInBounds_toArray, List.set_cons_zero, List.set_cons_succ]
                refine htake (i := 9) (v := ?v9) rfl (by kernel_rfl) (by kernel_rfl) (by kernel_rfl) (fun _ _ _ h => h) (Or.inl ⟨by rfl, ?hy9⟩) (by assumption) ?_
                case hy9 => (intro w hSw; (try dsimp only at hSw); go_simp; try (with_reducible rfl))
                try simp only [Act.put, List.setIfInBounds_toArray, List.set_cons_zero, List.set_cons_succ]
                refine htake (i := 10) (v := ?v10) rfl (by kernel_rfl) (by kernel_rfl) (by kernel_rfl) (fun _ _ _ h => h) (Or.inl ⟨by rfl, ?hy10⟩) (by assumption) ?_
                case hy10 => (intro w hSw; (try dsimp only at hSw); go_simp; try (with_reducible rfl))
                try simp only [Act.put, List.setIfInBounds_toArray, List.set_cons_zero, List.set_cons_succ]
                refine htake (i := 11) (v := ?v11) rfl (by kernel_rfl) (by kernel_rfl) (by kernel_rfl) (fun _ _ _ h => h) (Or.inl ⟨by rfl, ?hy11⟩) (by assumption) ?_
                case hy11 => (intro w hSw; (try dsimp only at hSw); go_simp; try (with_reducible rfl))
                try simp only [Act.put, List.setIfInBounds_toArray, List.set_cons_zero, List.set_cons_succ]
                refine htake (i := 12) (v := ?v12) rfl (by kernel_rfl) (by kernel_rfl) (by kernel_rfl) (fun _ _ _ h => h) (Or.inl ⟨by rfl, ?hy12⟩) (by assumption) ?_
                case hy12 => (intro w hSw; (try dsimp only at hSw); go_simp; try (with_reducible rfl))
                try simp only [Act.put, List.setIfInBounds_toArray, List.set_cons_zero, List.set_cons_succ]
                refine htake (i := 13) (v := ?v13) rfl (by kernel_rfl) (by kernel_rfl) (by kernel_rfl) (fun _ _ _ h => h) (Or.inl ⟨by rfl, ?hy13⟩) (by assumption) ?_
                case hy13 => (intro w hSw; (try dsimp only at hSw); go_simp; try (with_reducible rfl))
                try simp only [Act.put, List.setIfInBounds_toArray, List.set_cons_zero, List.set_cons_succ]
                refine wpAnyH_ready (rs := [1, 14]) (by kernel_rfl) (by simp) ?_
                refine hcons rfl (fun K hK => ?_) (hcons rfl (fun K hK => ?_) (AllReadyH.nil))
                have z0 := X.out.x.c 1 _ rfl; go_simp; clear z0
                refine hK.out _ _ ?_ (fun hHeld => ?_)
                · (try dsimp only); exact HS.out _ hc
                clear hK K
                try simp only [Act.put, List.setIfInBounds_toArray, List.set_cons_zero, List.set_cons_succ]
                refine wpAnyH_ready (rs := [14]) (by kernel_rfl) (by simp) ?_
                refine hcons rfl (fun K hK => ?_) (AllReadyH.nil)
                go_simp
                (first | refine hold_alloc (fun wb hq1 hq2 hq3 => ?_) | refine hold_alloc_drew (fun wb hq1 hq2 hq3 => ?_)); (first | replace X := Lib.hid (X.out.next hq1) | replace X := Lib.hid (X0.out.next hq1)); replace hc := X.out.bw; have hn := hq2; clear hq1 hq2 hq3
                refine hK.out _ _ ?_ (fun hHeld => ?_)
                · (try dsimp only); exact HS.out _ hc
                clear hK K
                try simp only [Act.put, List.setIfInBounds_toArray, List.set_cons_zero, List.set_cons_succ]
                refine wpAnyH_ready (rs := [15]) (by kernel_rfl) (by simp) ?_
                refine hcons rfl (fun K hK => ?_) (AllReadyH.nil)
                refine step_append_any rfl (.tmp 64) (.tmp 77) 22 rfl (b + 1) 44 ib (.agg #[.int .i64 0, .int .i64 0, .int .i64 0]) 3 24 Tryd.underlying22 gi gz0 gz1 gz2 rfl (by decide) (.slice Aq L.length cq) L.length _ rfl X.out.o1 ⟨_, 0, none⟩ 1 1 x.cells rfl rfl hn.news (loan_one x) (by have := HLn.out; unfold maxLen; omega) (by have := HLn.out; omega) (by have := X.out.x.lt; omega) ?_; intro v6 w6 ho6 hg6; obtain ⟨hb6, hx6, hX6⟩ := X.out.loan hg6 ho6 rfl rfl; clear hg6; obtain ⟨A6, c6, e6, -⟩ := own_form ho6; subst e6; replace hc := hb6
                refine hK.out _ _ ?_ (fun hHeld => ?_)
                · (try dsimp only); exact HS.out _ hc
                clear hK K
                try simp only [Act.put, List.setIfInBounds_toArray, List.set_cons_zero, List.set_cons_succ]
                refine htake (i := 16) (v := ?v14) rfl (by kernel_rfl) (by kernel_rfl) (by kernel_rfl) (fun _ _ _ h => h) (Or.inl ⟨by rfl, ?hy14⟩) (by assumption) ?_
                case hy14 => (intro w hSw; (try dsimp only at hSw); go_simp; try (with_reducible rfl))
                try simp only [Act.put, List.setIfInBounds_toArray, List.set_cons_zero, List.set_cons_succ]
                refine wpAnyH_ready (rs := [17]) (by kernel_rfl) (by simp) ?_
                refine hcons rfl (fun K hK => ?_) (AllReadyH.nil)
                have z0 := hx6.c 1 _ rfl; have z1 := hx6.fr 1; go_simp; clear z0 z1
                refine hK.out _ _ ?_ (fun hHeld => ?_)
                · (try dsimp only); exact HS.out _ hX6.bw
                clear hK K
                try simp only [Act.put]
                refine wpAnyH_done (by kernel_rfl) ?_ _
                refine NoPanic.normal ?_
                rotate_left
                go_simp
                (first | refine hold_alloc (fun wb hq1 hq2 hq3 => ?_) | refine hold_alloc_drew (fun wb hq1 hq2 hq3 => ?_)); (first | replace X := Lib.hid (X.out.next hq1) | replace X := Lib.hid (X0.out.next hq1)); replace hc := X.out.bw; have hn := hq2; clear hq1 hq2 hq3
                refine hK.out _ _ ?_ (fun hHeld => ?_)
                · (try dsimp only); exact HS.out _ hc
                clear hK K
                try simp only [Act.put, List.setIfInBounds_toArray, List.set_cons_zero, List.set_cons_succ]
                refine wpAnyH_ready (rs := [1]) (by kernel_rfl) (by simp) ?_
                refine hcons rfl (fun K hK => ?_) (AllReadyH.nil)
                have z0 := X.out.x.c 1 _ rfl; go_simp; clear z0
                refine hK.out _ _ ?_ (fun hHeld => ?_)
                · (try dsimp only); exact HS.out _ hc
                clear hK K
                try simp only [Act.put, List.setIfInBounds_toArray, List.set_cons_zero, List.set_cons_succ]
                refine wpAnyH_ready (rs := [15]) (by kernel_rfl) (by simp) ?_
                refine hcons rfl (fun K hK => ?_) (AllReadyH.nil)
                refine step_append_any rfl (.tmp 64) (.tmp 77) 22 rfl (b + 1) 44 ib (.agg #[.int .i64 0, .int .i64 0, .int .i64 0]) 3 24 Tryd.underlying22 gi gz0 gz1 gz2 rfl (by decide) (.slice Aq L.length cq) L.length _ rfl X.out.o1 ⟨_, 0, none⟩ 1 1 x.cells rfl rfl hn.news (loan_one x) (by have := HLn.out; unfold maxLen; omega) (by have := HLn.out; omega) (by have := X.out.x.lt; omega) ?_; intro v6 w6 ho6 hg6; obtain ⟨hb6, hx6, hX6⟩ := X.out.loan hg6 ho6 rfl rfl; clear hg6; obtain ⟨A6, c6, e6, -⟩ := own_form ho6; subst e6; replace hc := hb6
                refine hK.out _ _ ?_ (fun hHeld => ?_)
                · (try dsimp only); exact HS.out _ hc
                clear hK K
                try simp only [Act.put, List.setIfInBounds_toArray, List.set_cons_zero, List.set_cons_succ]
                refine htake (i := 16) (v := ?v15) rfl (by kernel_rfl) (by kernel_rfl) (by kernel_rfl) (fun _ _ _ h => h) (Or.inl ⟨by rfl, ?hy15⟩) (by assumption) ?_
                case hy15 => (intro w hSw; (try dsimp only at hSw); go_simp; try (with_reducible rfl))
                try simp only [Act.put, List.setIfInBounds_toArray, List.set_cons_zero, List.set_cons_succ]
                refine wpAnyH_ready (rs := [17]) (by kernel_rfl) (by simp) ?_
                refine hcons rfl (fun K hK => ?_) (AllReadyH.nil)
                have z0 := hx6.c 1 _ rfl; have z1 := hx6.fr 1; go_simp; clear z0 z1
                refine hK.out _ _ ?_ (fun hHeld => ?_)
                · (try dsimp only); exact HS.out _ hX6.bw
                clear hK K
                try simp only [Act.put]
                refine wpAnyH_done (by kernel_rfl) ?_ _
                refine NoPanic.normal ?_
                iterate 19 (try clear hHeld)
                all_goals (go_wp2_with fail; go_meet)
                all_goals (exact ⟨_, hX6⟩)
            case rest =>
              obtain ⟨v', hX'⟩ := hcut
              clear hc gi gz0 gz1 gz2 HS X
              go_wp2_with fail
              first | (exact ⟨⟨_, .int .i64 ((i : Int) + 1), ⟨i + 1, by push_cast; rfl, by omega, v', by rw [HRR.out]; exact hX'⟩, rfl, rfl⟩, by simp [intOf]; omega⟩) | (go_roundw; (case rel => exact ⟨i + 1, by push_cast; rfl, by omega, v', by rw [HRR.out]; exact hX'⟩); (case measure => (simp [intOf]; omega))) | (go_round; (case rel => exact ⟨i + 1, by push_cast; rfl, by omega, v', by rw [HRR.out]; exact hX'⟩); (case measure => (simp [intOf]; omega))) | (refine ⟨?_, ?_⟩; (exact ⟨i + 1, by push_cast; rfl, by omega, v', by rw [HRR.out]; exact hX'⟩); (simp [intOf]; omega))
          · have e0 := decide_eq_false (show ¬ (i : Int) < (m.t.loans.length : Int) by omega)
            have hi2 : i = m.t.loans.length := by omega
            subst hi2
            clear hlt hi
            obtain ⟨LL, hLL⟩ : ∃ L, rotN ⟨0, 0, 0⟩ m.t.loans c m.t.loans.length = L := ⟨_, rfl⟩
            have HLLn := Lib.hid (show LL.length = m.t.loans.length by rw [← hLL]; exact rotN_length _ _ _ _)
            rw [hLL] at X
            have HLL0 := Lib.hid hLL
            clear hLL
            obtain ⟨v1, hv1⟩ : ∃ u, u = v := ⟨_, rfl⟩
            rw [← hv1] at X
            clear hv1
            go_upto_region 9 with fail
            clear e0 q1 K2
            go_wp2_with fail
            go_loopw [13] (fun iv wr => ∃ i : Nat, iv = .int .i64 i ∧ i ≤ m.t.looks.length ∧ ∃ v, XAt V2 b m v1 v LL (rotN ⟨0, 0, 0⟩ m.t.looks c i) wr) (fun iv _ => m.t.looks.length - (intOf iv).toNat)
            case atStart => exact ⟨0, rfl, by omega, _, X.out⟩
            case round =>
              obtain ⟨i, rfl, hi, v, hX⟩ := hrel
              clear X
              have X := Lib.hid hX
              clear hX
              have K2 := Lib.hid (K.out.next X.out.bw)
              have q2 := K2.out.bx.c 2 _ rfl
              by_cases hlt : i < m.t.looks.length
              · have e0 := decide_eq_true (show (i : Int) < (m.t.looks.length : Int) by omega)
                go_upto_block 3 with fail
                clear e0
                obtain ⟨L, hL⟩ : ∃ L, rotN ⟨0, 0, 0⟩ m.t.looks c i = L := ⟨_, rfl⟩
                have HLn := Lib.hid (show L.length = i by rw [← hL]; exact rotN_length _ _ _ _)
                obtain ⟨ix, hix0, hix, hI2, hI1⟩ := rem_idx (show 0 < m.t.looks.length by omega) (i + c)
                have hJ0 : (i : Int) + (c : Int) = (((i + c : Nat)) : Int) := by omega
                have hJ2 : Int.tmod ((i : Int) + (c : Int)) (m.t.looks.length : Int) = (ix : Int) := (congrArg (Int.tmod · _) hJ0).trans hI2
                have hJ1 : ((i : Int) + (c : Int)) % (m.t.looks.length : Int) = (ix : Int) := (congrArg (· % (m.t.looks.length : Int)) hJ0).trans hI1
                have hR := rotN_succ (⟨0, 0, 0⟩ : Look) m.t.looks c i
                rw [hL, ← hix0] at hR
                clear hJ0 hI1 hI2 hix0
                have hwi : IntKind.i64.wrap ((i : Int) + (c : Int)) = (i : Int) + (c : Int) := IntWalk.i64_in _ (by omega)
                have hwk : IntKind.i64.wrap ((i : Int) + 1) = (i : Int) + 1 := IntWalk.i64_in _ (by omega)
                rw [hL] at X
                obtain ⟨be, oe, eA, hbe, -, -, -⟩ := look_at K.out.ta.lk hix
                have HS0 := Lib.hid (show ∀ W : World, Below V2.heap.size V2 W → (W.cell? ⟨w.heap.size, 2, none⟩ = some (.slice m.A2 m.t.looks.length m.c2) ∧ W.cell? ⟨be, oe + ix * 3, none⟩ = some ((m.t.looks.getD ix ⟨0, 0, 0⟩).cells.getD 0 undef) ∧ W.cell? ⟨be, oe + ix * 3 + 1, none⟩ = some ((m.t.looks.getD ix ⟨0, 0, 0⟩).cells.getD 1 undef) ∧ W.cell? ⟨be, oe + ix * 3 + 2, none⟩ = some ((m.t.looks.getD ix ⟨0, 0, 0⟩).cells.getD 2 undef)) from fun W hW => by
                  obtain ⟨be', oe', eA', -, l0, l1, l2⟩ := look_at (K.out.next hW).ta.lk hix
                  rw [eA] at eA'
                  injection eA' with eA'
                  injection eA' with e4 e5
                  subst e4 e5
                  exact ⟨(K.out.next hW).bx.c 2 _ rfl, l0, l1, l2⟩)
                generalize m.t.looks.getD ix ⟨0, 0, 0⟩ = x at *
                have HRR := Lib.hid hR
                clear hR
                have HLL := Lib.hid hL
                clear hL
                have hixI : (ix : Int) < (m.t.looks.length : Int) := by omega
                have hb0I : ¬ (m.t.looks.length : Int) = 0 := by omega
                have hb0N : ¬ m.t.looks.length = 0 := by omega
                have hbne : ¬ m.t.looks = [] := by rintro e; rw [e] at hix; simp at hix
                have HS := Lib.hid (show ∀ W : World, Below V2.heap.size V2 W → (W.cell? ⟨w.heap.size, 2, none⟩ = some (.slice (some ⟨be, oe, none⟩) m.t.looks.length m.c2) ∧ W.cell? ⟨be, oe + ix * 3, none⟩ = some (.int .i64 x.h) ∧ W.cell? ⟨be, oe + ix * 3 + 1, none⟩ = some (.int .i64 x.there) ∧ W.cell? ⟨be, oe + ix * 3 + 2, none⟩ = some (.int .i64 x.gone)) from fun W hW => by have hh := HS0.out W hW; rw [eA] at hh; exact hh)
                clear HS0 eA q2 K2
                obtain ⟨Aq, cq, Aq2, cq2, e1, e2, hcq, hcq2, -, -⟩ := X.out.form
                subst e2
                clear e1
                have X0 := X
                replace X := Lib.hid X.out.drew
                have hc := X.out.bw
                obtain ⟨ib, gi, gz0, gz1, gz2⟩ := info_parts sight_info
                go_cut [] (fun wx => ∃ v', XAt V2 b m v1 v' LL (L ++ [x]) wx)
                case first =>
                  as_aux_lemma =>
                    go_upto_region 12 with fail
                    refine wp_region_noPanic ?_
                    refine wp_region_held_drew (S := (fun W => W.cell? ⟨w.heap.size, 2, none⟩ = some (.slice (some ⟨be, oe, none⟩) m.t.looks.length m.c2) ∧ W.cell? ⟨be, oe + ix * 3, none⟩ = some (.int .i64 x.h) ∧ W.cell? ⟨be, oe + ix * 3 + 1, none⟩ = some (.int .i64 x.there) ∧ W.cell? ⟨be, oe + ix * 3 + 2, none⟩ = some (.int .i64 x.gone))) (by kernel_rfl) ?_ (fun hHeld => ?_)
                    · (try dsimp only); exact HS.out _ hc
                    refine htake (i := 0) (v := ?v16) rfl (by kernel_rfl) (by kernel_rfl) (by kernel_rfl) (fun _ _ _ h => h) (Or.inl ⟨by rfl, ?hy16⟩) (by assumption) ?_
                    case hy16 => (intro w hSw; (try dsimp only at hSw); go_simp; try (with_reducible rfl))
                    try simp only [Act.put, List.setIfInBounds_toArray, List.set_cons_zero, List.set_cons_succ]
                    refine htake (i := 2) (v := ?v17) rfl (by kernel_rfl) (by kernel_rfl) (by kernel_rfl) (fun _ _ _ h => h) (Or.inl ⟨by rfl, ?hy17⟩) (by assumption) ?_
                    case hy17 => (intro w hSw; (try dsimp only at hSw); go_simp; try (with_reducible rfl))
                    try simp only [Act.put, List.setIfInBounds_toArray, List.set_cons_zero, List.set_cons_succ]
                    refine htake (i := 3) (v := ?v18) rfl (by kernel_rfl) (by kernel_rfl) (by kernel_rfl) (fun _ _ _ h => h) (Or.inl ⟨by rfl, ?hy18⟩) (by assumption) ?_
                    case hy18 => (intro w hSw; (try dsimp only at hSw); go_simp; try (with_reducible rfl))
                    try simp only [Act.put, List.setIfInBounds_toArray, List.set_cons_zero, List.set_cons_succ]
                    refine htake (i := 4) (v := ?v19) rfl (by kernel_rfl) (by kernel_rfl) (by kernel_rfl) (fun _ _ _ h => h) (Or.inl ⟨by rfl, ?hy19⟩) (by assumption) ?_
                    case hy19 => (intro w hSw; (try dsimp only at hSw); go_simp; try (with_reducible rfl))
                    try simp only [Act.put, List.setIfInBounds_toArray, List.set_cons_zero, List.set_cons_succ]
                    refine htake (i := 5) (v := ?v20) rfl (by kernel_rfl) (by kernel_rfl) (by kernel_rfl) (fun _ _ _ h => h) (Or.inl ⟨by rfl, ?hy20⟩) (by assumption) ?_
                    case hy20 => (intro w hSw; (try dsimp only at hSw); go_simp; try (with_reducible rfl))
                    try simp only [Act.put, List.setIfInBounds_toArray, List.set_cons_zero, List.set_cons_succ]
                    refine htake (i := 6) (v := ?v21) rfl (by kernel_rfl) (by kernel_rfl) (by kernel_rfl) (fun _ _ _ h => h) (Or.inl ⟨by rfl, ?hy21⟩) (by assumption) ?_
                    case hy21 => (intro w hSw; (try dsimp only at hSw); go_simp; try (with_reducible rfl))
                    try simp only [Act.put, List.setIfInBounds_toArray, List.set_cons_zero, List.set_cons_succ]
                    refine htake (i := 7) (v := ?v22) rfl (by kernel_rfl) (by kernel_rfl) (by kernel_rfl) (fun _ _ _ h => h) (Or.inl ⟨by rfl, ?hy22⟩) (by assumption) ?_
                    case hy22 => (intro w hSw; (try dsimp only at hSw); go_simp; try (with_reducible rfl))
                    try simp only [Act.put, List.setIfInBounds_toArray, List.set_cons_zero, List.set_cons_succ]
                    refine htake (i := 8) (v := ?v23) rfl (by kernel_rfl) (by kernel_rfl) (by kernel_rfl) (fun _ _ _ h => h) (Or.inl ⟨by rfl, ?hy23⟩) (by assumption) ?_
                    case hy23 => (intro w hSw; (try dsimp only at hSw); go_simp; try (with_reducible rfl))
                    try simp only [Act.put, List.setIfInBounds_toArray, List.set_cons_zero, List.set_cons_succ]
                    refine htake (i := 9) (v := ?v24) rfl (by kernel_rfl) (by kernel_rfl) (by kernel_rfl) (fun _ _ _ h => h) (Or.inl ⟨by rfl, ?hy24⟩) (by assumption) ?_
                    case hy24 => (intro w hSw; (try dsimp only at hSw); go_simp; try (with_reducible rfl))
                    try simp only [Act.put, List.setIfInBounds_toArray, List.set_cons_zero, List.set_cons_succ]
                    refine htake (i := 10) (v := ?v25) rfl (by kernel_rfl) (by kernel_rfl) (by kernel_rfl) (fun _ _ _ h => h) (Or.inl ⟨by rfl, ?hy25⟩) (by assumption) ?_
                    case hy25 => (intro w hSw; (try dsimp only at hSw); go_simp; try (with_reducible rfl))
                    try simp only [Act.put, List.setIfInBounds_toArray, List.set_cons_zero, List.set_cons_succ]
                    refine htake (i := 11) (v := ?v26) rfl (by kernel_rfl) (by kernel_rfl) (by kernel_rfl) (fun _ _ _ h => h) (Or.inl ⟨by rfl, ?hy26⟩) (by assumption) ?_
                    case hy26 => (intro w hSw; (try dsimp only at hSw); go_simp; try (with_reducible rfl))
                    try simp only [Act.put, List.setIfInBounds_toArray, List.set_cons_zero, List.set_cons_succ]
                    refine htake (i := 12) (v := ?v27) rfl (by kernel_rfl) (by kernel_rfl) (by kernel_rfl) (fun _ _ _ h => h) (Or.inl ⟨by rfl, ?hy27⟩) (by assumption) ?_
                    case hy27 => (intro w hSw; (try dsimp only at hSw); go_simp; try (with_reducible rfl))
                    try simp only [Act.put, List.setIfInBounds_toArray, List.set_cons_zero, List.set_cons_succ]
                    refine htake (i := 13) (v := ?v28) rfl (by kernel_rfl) (by kernel_rfl) (by kernel_rfl) (fun _ _ _ h => h) (Or.inl ⟨by rfl, ?hy28⟩) (by assumption) ?_
                    case hy28 => (intro w hSw; (try dsimp only at hSw); go_simp; try (with_reducible rfl))
                    try simp only [Act.put, List.setIfInBounds_toArray, List.set_cons_zero, List.set_cons_succ]
                    refine wpAnyH_ready (rs := [1, 14]) (by kernel_rfl) (by simp) ?_
                    refine hcons rfl (fun K hK => ?_) (hcons rfl (fun K hK => ?_) (AllReadyH.nil))
                    have z0 := X.out.x.c 2 _ rfl; go_simp; clear z0
                    refine hK.out _ _ ?_ (fun hHeld => ?_)
                    · (try dsimp only); exact HS.out _ hc
                    clear hK K
                    try simp only [Act.put, List.setIfInBounds_toArray, List.set_cons_zero, List.set_cons_succ]
                    refine wpAnyH_ready (rs := [14]) (by kernel_rfl) (by simp) ?_
                    refine hcons rfl (fun K hK => ?_) (AllReadyH.nil)
                    go_simp
                    (first | refine hold_alloc (fun wb hq1 hq2 hq3 => ?_) | refine hold_alloc_drew (fun wb hq1 hq2 hq3 => ?_)); (first | replace X := Lib.hid (X.out.next hq1) | replace X := Lib.hid (X0.out.next hq1)); replace hc := X.out.bw; have hn := hq2; clear hq1 hq2 hq3
                    refine hK.out _ _ ?_ (fun hHeld => ?_)
                    · (try dsimp only); exact HS.out _ hc
                    clear hK K
                    try simp only [Act.put, List.setIfInBounds_toArray, List.set_cons_zero, List.set_cons_succ]
                    refine wpAnyH_ready (rs := [15]) (by kernel_rfl) (by simp) ?_
                    refine hcons rfl (fun K hK => ?_) (AllReadyH.nil)
                    refine step_append_any rfl (.tmp 88) (.tmp 101) 23 rfl (b + 1) 50 ib (.agg #[.int .i64 0, .int .i64 0, .int .i64 0]) 3 24 Tryd.underlying23 gi gz0 gz1 gz2 rfl (by decide) (.slice Aq2 L.length cq2) L.length _ rfl X.out.o2 ⟨_, 0, none⟩ 1 1 x.cells rfl rfl hn.news (sight_one x) (by have := HLn.out; unfold maxLen; omega) (by have := HLn.out; omega) (by have := X.out.x.lt; omega) ?_; intro v6 w6 ho6 hg6; obtain ⟨hb6, hx6, hX6⟩ := X.out.look hg6 ho6 rfl rfl; clear hg6; obtain ⟨A6, c6, e6, -⟩ := own_form ho6; subst e6; replace hc := hb6
                    refine hK.out _ _ ?_ (fun hHeld => ?_)
                    · (try dsimp only); exact HS.out _ hc
                    clear hK K
                    try simp only [Act.put, List.setIfInBounds_toArray, List.set_cons_zero, List.set_cons_succ]
                    refine htake (i := 16) (v := ?v29) rfl (by kernel_rfl) (by kernel_rfl) (by kernel_rfl) (fun _ _ _ h => h) (Or.inl ⟨by rfl, ?hy29⟩) (by assumption) ?_
                    case hy29 => (intro w hSw; (try dsimp only at hSw); go_simp; try (with_reducible rfl))
                    try simp only [Act.put, List.setIfInBounds_toArray, List.set_cons_zero, List.set_cons_succ]
                    refine wpAnyH_ready (rs := [17]) (by kernel_rfl) (by simp) ?_
                    refine hcons rfl (fun K hK => ?_) (AllReadyH.nil)
                    have z0 := hx6.c 2 _ rfl; have z1 := hx6.fr 2; go_simp; clear z0 z1
                    refine hK.out _ _ ?_ (fun hHeld => ?_)
                    · (try dsimp only); exact HS.out _ hX6.bw
                    clear hK K
                    try simp only [Act.put]
                    refine wpAnyH_done (by kernel_rfl) ?_ _
                    refine NoPanic.normal ?_
                    rotate_left
                    go_simp
                    (first | refine hold_alloc (fun wb hq1 hq2 hq3 => ?_) | refine hold_alloc_drew (fun wb hq1 hq2 hq3 => ?_)); (first | replace X := Lib.hid (X.out.next hq1) | replace X := Lib.hid (X0.out.next hq1)); replace hc := X.out.bw; have hn := hq2; clear hq1 hq2 hq3
                    refine hK.out _ _ ?_ (fun hHeld => ?_)
                    · (try dsimp only); exact HS.out _ hc
                    clear hK K
                    try simp only [Act.put, List.setIfInBounds_toArray, List.set_cons_zero, List.set_cons_succ]
                    refine wpAnyH_ready (rs := [1]) (by kernel_rfl) (by simp) ?_
                    refine hcons rfl (fun K hK => ?_) (AllReadyH.nil)
                    have z0 := X.out.x.c 2 _ rfl; go_simp; clear z0
                    refine hK.out _ _ ?_ (fun hHeld => ?_)
                    · (try dsimp only); exact HS.out _ hc
                    clear hK K
                    try simp only [Act.put, List.setIfInBounds_toArray, List.set_cons_zero, List.set_cons_succ]
                    refine wpAnyH_ready (rs := [15]) (by kernel_rfl) (by simp) ?_
                    refine hcons rfl (fun K hK => ?_) (AllReadyH.nil)
                    refine step_append_any rfl (.tmp 88) (.tmp 101) 23 rfl (b + 1) 50 ib (.agg #[.int .i64 0, .int .i64 0, .int .i64 0]) 3 24 Tryd.underlying23 gi gz0 gz1 gz2 rfl (by decide) (.slice Aq2 L.length cq2) L.length _ rfl X.out.o2 ⟨_, 0, none⟩ 1 1 x.cells rfl rfl hn.news (sight_one x) (by have := HLn.out; unfold maxLen; omega) (by have := HLn.out; omega) (by have := X.out.x.lt; omega) ?_; intro v6 w6 ho6 hg6; obtain ⟨hb6, hx6, hX6⟩ := X.out.look hg6 ho6 rfl rfl; clear hg6; obtain ⟨A6, c6, e6, -⟩ := own_form ho6; subst e6; replace hc := hb6
                    refine hK.out _ _ ?_ (fun hHeld => ?_)
                    · (try dsimp only); exact HS.out _ hc
                    clear hK K
                    try simp only [Act.put, List.setIfInBounds_toArray, List.set_cons_zero, List.set_cons_succ]
                    refine htake (i := 16) (v := ?v30) rfl (by kernel_rfl) (by kernel_rfl) (by kernel_rfl) (fun _ _ _ h => h) (Or.inl ⟨by rfl, ?hy30⟩) (by assumption) ?_
                    case hy30 => (intro w hSw; (try dsimp only at hSw); go_simp; try (with_reducible rfl))
                    try simp only [Act.put, List.setIfInBounds_toArray, List.set_cons_zero, List.set_cons_succ]
                    refine wpAnyH_ready (rs := [17]) (by kernel_rfl) (by simp) ?_
                    refine hcons rfl (fun K hK => ?_) (AllReadyH.nil)
                    have z0 := hx6.c 2 _ rfl; have z1 := hx6.fr 2; go_simp; clear z0 z1
                    refine hK.out _ _ ?_ (fun hHeld => ?_)
                    · (try dsimp only); exact HS.out _ hX6.bw
                    clear hK K
                    try simp only [Act.put]
                    refine wpAnyH_done (by kernel_rfl) ?_ _
                    refine NoPanic.normal ?_
                    iterate 19 (try clear hHeld)
                    all_goals (go_wp2_with fail; go_meet)
                    all_goals (exact ⟨_, hX6⟩)
                case rest =>
                  obtain ⟨v', hX'⟩ := hcut
                  clear hc gi gz0 gz1 gz2 HS X
                  go_wp2_with fail
                  first | (exact ⟨⟨_, .int .i64 ((i : Int) + 1), ⟨i + 1, by push_cast; rfl, by omega, v', by rw [HRR.out]; exact hX'⟩, rfl, rfl⟩, by simp [intOf]; omega⟩) | (go_roundw; (case rel => exact ⟨i + 1, by push_cast; rfl, by omega, v', by rw [HRR.out]; exact hX'⟩); (case measure => (simp [intOf]; omega))) | (go_round; (case rel => exact ⟨i + 1, by push_cast; rfl, by omega, v', by rw [HRR.out]; exact hX'⟩); (case measure => (simp [intOf]; omega))) | (refine ⟨?_, ?_⟩; (exact ⟨i + 1, by push_cast; rfl, by omega, v', by rw [HRR.out]; exact hX'⟩); (simp [intOf]; omega))
              · have e0 := decide_eq_false (show ¬ (i : Int) < (m.t.looks.length : Int) by omega)
                have hi2 : i = m.t.looks.length := by omega
                subst hi2
                clear hlt hi
                obtain ⟨KK, hKK⟩ : ∃ L, rotN ⟨0, 0, 0⟩ m.t.looks c m.t.looks.length = L := ⟨_, rfl⟩
                have HKKn := Lib.hid (show KK.length = m.t.looks.length by rw [← hKK]; exact rotN_length _ _ _ _)
                rw [hKK] at X
                have HKK0 := Lib.hid hKK
                clear hKK
                obtain ⟨v2, hv2⟩ : ∃ u, u = v := ⟨_, rfl⟩
                rw [← hv2] at X
                clear hv2
                have HML := Lib.hid (show ∀ x ∈ LL, x ∈ m.t.loans from fun x hx => by rw [← HLL0.out] at hx; exact (rotN_perm _ _ _).mem_iff.1 hx)
                go_upto_region 13 with fail
                clear e0 q2 K2
                go_cut [125] (fun s wx => s = .bool (okTale m.t && bigL LL) ∧ XAt V2 b m v1 v2 LL KK wx)
                case first =>
                  as_aux_lemma =>
                    cases ht : okTale m.t
                    · skip
                      have HS := Lib.hid (show ∀ W : World, XAt V2 b m (v1) (v2) (LL) (KK) W → (W.cell? ⟨w.heap.size, 0, none⟩ = some (.int .i64 m.t.n) ∧ W.cell? ⟨w.heap.size, 1, none⟩ = some (.slice m.A1 m.t.loans.length m.c1) ∧ W.cell? ⟨w.heap.size, 2, none⟩ = some (.slice m.A2 m.t.looks.length m.c2) ∧ W.cell? ⟨w.heap.size, 3, none⟩ = some (.slice m.A3 m.t.admits.length m.c3)) from fun W h => ⟨(K.out.next h.bw).bx.c 0 _ rfl, (K.out.next h.bw).bx.c 1 _ rfl, (K.out.next h.bw).bx.c 2 _ rfl, (K.out.next h.bw).bx.c 3 _ rfl⟩)
                      have X0 := X
                      have HLK := K
                      replace X := Lib.hid X.out.drew
                      refine wp_region_noPanic ?_
                      refine wp_region_held_drew (S := (fun W => W.cell? ⟨w.heap.size, 0, none⟩ = some (.int .i64 m.t.n) ∧ W.cell? ⟨w.heap.size, 1, none⟩ = some (.slice m.A1 m.t.loans.length m.c1) ∧ W.cell? ⟨w.heap.size, 2, none⟩ = some (.slice m.A2 m.t.looks.length m.c2) ∧ W.cell? ⟨w.heap.size, 3, none⟩ = some (.slice m.A3 m.t.admits.length m.c3))) (by kernel_rfl) ?_ (fun hHeld => ?_)
                      · (try dsimp only); exact HS.out _ X.out
                      refine htake (i := 0) (v := ?v31) rfl (by kernel_rfl) (by kernel_rfl) (by kernel_rfl) (fun _ _ _ h => h) (Or.inl ⟨by rfl, ?hy31⟩) (by assumption) ?_
                      case hy31 => (intro w hSw; (try dsimp only at hSw); go_simp; try (with_reducible rfl))
                      try simp only [Act.put, List.setIfInBounds_toArray, List.set_cons_zero, List.set_cons_succ]
                      refine wpAnyH_ready (rs := [1]) (by kernel_rfl) (by simp) ?_
                      refine hcons rfl (fun K hK => ?_) (AllReadyH.nil)
                      go_simp
                      refine (Tale_any m _ (HLK.out.next X.out.bw).ta).mono ?_; rintro e w4 ⟨rfl, hb4⟩; rw [ht]; replace X := Lib.hid (X.out.next hb4); clear hb4
                      refine hK.out _ _ ?_ (fun hHeld => ?_)
                      · (try dsimp only); exact HS.out _ X.out
                      clear hK K
                      try simp only [Act.put, List.setIfInBounds_toArray, List.set_cons_zero, List.set_cons_succ]
                      refine htake (i := 2) (v := ?v32) rfl (by kernel_rfl) (by kernel_rfl) (by kernel_rfl) (fun _ _ _ h => h) (Or.inl ⟨by rfl, ?hy32⟩) (by assumption) ?_
                      case hy32 => (intro w hSw; (try dsimp only at hSw); go_simp; try (with_reducible rfl))
                      try simp only [Act.put, List.setIfInBounds_toArray, List.set_cons_zero, List.set_cons_succ]
                      refine htake (i := 3) rfl (by kernel_rfl) (by kernel_rfl) (by kernel_rfl) (fun _ _ _ h => h) (Or.inr ⟨by rfl, rfl⟩) (by assumption) ?_
                      try simp only [Act.put, List.setIfInBounds_toArray, List.set_cons_zero, List.set_cons_succ]
                      refine htake (i := 4) rfl (by kernel_rfl) (by kernel_rfl) (by kernel_rfl) (fun _ _ _ h => h) (Or.inr ⟨by rfl, rfl⟩) (by assumption) ?_
                      try simp only [Act.put, List.setIfInBounds_toArray, List.set_cons_zero, List.set_cons_succ]
                      refine htake (i := 5) rfl (by kernel_rfl) (by kernel_rfl) (by kernel_rfl) (fun _ _ _ h => h) (Or.inr ⟨by rfl, rfl⟩) (by assumption) ?_
                      try simp only [Act.put, List.setIfInBounds_toArray, List.set_cons_zero, List.set_cons_succ]
                      refine htake (i := 6) rfl (by kernel_rfl) (by kernel_rfl) (by kernel_rfl) (fun _ _ _ h => h) (Or.inr ⟨by rfl, rfl⟩) (by assumption) ?_
                      try simp only [Act.put, List.setIfInBounds_toArray, List.set_cons_zero, List.set_cons_succ]
                      refine htake (i := 7) (v := ?v33) rfl (by kernel_rfl) (by kernel_rfl) (by kernel_rfl) (fun _ _ _ h => h) (Or.inl ⟨by rfl, ?hy33⟩) (by assumption) ?_
                      case hy33 => (intro w hSw; (try dsimp only at hSw); go_simp; try (with_reducible rfl))
                      try simp only [Act.put, List.setIfInBounds_toArray, List.set_cons_zero, List.set_cons_succ]
                      refine htake (i := 8) (v := ?v34) rfl (by kernel_rfl) (by kernel_rfl) (by kernel_rfl) (fun _ _ _ h => h) (Or.inl ⟨by rfl, ?hy34⟩) (by assumption) ?_
                      case hy34 => (intro w hSw; (try dsimp only at hSw); go_simp; try (with_reducible rfl))
                      try simp only [Act.put, List.setIfInBounds_toArray, List.set_cons_zero, List.set_cons_succ]
                      refine htake (i := 9) rfl (by kernel_rfl) (by kernel_rfl) (by kernel_rfl) (fun _ _ _ h => h) (Or.inr ⟨by rfl, rfl⟩) (by assumption) ?_
                      try simp only [Act.put, List.setIfInBounds_toArray, List.set_cons_zero, List.set_cons_succ]
                      refine htake (i := 10) rfl (by kernel_rfl) (by kernel_rfl) (by kernel_rfl) (fun _ _ _ h => h) (Or.inr ⟨by rfl, rfl⟩) (by assumption) ?_
                      try simp only [Act.put, List.setIfInBounds_toArray, List.set_cons_zero, List.set_cons_succ]
                      refine htake (i := 11) rfl (by kernel_rfl) (by kernel_rfl) (by kernel_rfl) (fun _ _ _ h => h) (Or.inr ⟨by rfl, rfl⟩) (by assumption) ?_
                      try simp only [Act.put, List.setIfInBounds_toArray, List.set_cons_zero, List.set_cons_succ]
                      refine htake (i := 12) rfl (by kernel_rfl) (by kernel_rfl) (by kernel_rfl) (fun _ _ _ h => h) (Or.inr ⟨by rfl, rfl⟩) (by assumption) ?_
                      try simp only [Act.put, List.setIfInBounds_toArray, List.set_cons_zero, List.set_cons_succ]
                      refine htake (i := 13) rfl (by kernel_rfl) (by kernel_rfl) (by kernel_rfl) (fun _ _ _ h => h) (Or.inr ⟨by rfl, rfl⟩) (by assumption) ?_
                      try simp only [Act.put, List.setIfInBounds_toArray, List.set_cons_zero, List.set_cons_succ]
                      refine htake (i := 14) rfl (by kernel_rfl) (by kernel_rfl) (by kernel_rfl) (fun _ _ _ h => h) (Or.inr ⟨by rfl, rfl⟩) (by assumption) ?_
                      try simp only [Act.put, List.setIfInBounds_toArray, List.set_cons_zero, List.set_cons_succ]
                      refine htake (i := 15) rfl (by kernel_rfl) (by kernel_rfl) (by kernel_rfl) (fun _ _ _ h => h) (Or.inr ⟨by rfl, rfl⟩) (by assumption) ?_
                      try simp only [Act.put, List.setIfInBounds_toArray, List.set_cons_zero, List.set_cons_succ]
                      refine htake (i := 16) rfl (by kernel_rfl) (by kernel_rfl) (by kernel_rfl) (fun _ _ _ h => h) (Or.inr ⟨by rfl, rfl⟩) (by assumption) ?_
                      try simp only [Act.put, List.setIfInBounds_toArray, List.set_cons_zero, List.set_cons_succ]
                      refine htake (i := 17) rfl (by kernel_rfl) (by kernel_rfl) (by kernel_rfl) (fun _ _ _ h => h) (Or.inr ⟨by rfl, rfl⟩) (by assumption) ?_
                      try simp only [Act.put, List.setIfInBounds_toArray, List.set_cons_zero, List.set_cons_succ]
                      refine htake (i := 18) rfl (by kernel_rfl) (by kernel_rfl) (by kernel_rfl) (fun _ _ _ h => h) (Or.inr ⟨by rfl, rfl⟩) (by assumption) ?_
                      try simp only [Act.put, List.setIfInBounds_toArray, List.set_cons_zero, List.set_cons_succ]
                      refine htake (i := 19) rfl (by kernel_rfl) (by kernel_rfl) (by kernel_rfl) (fun _ _ _ h => h) (Or.inr ⟨by rfl, rfl⟩) (by assumption) ?_
                      try simp only [Act.put, List.setIfInBounds_toArray, List.set_cons_zero, List.set_cons_succ]
                      refine htake (i := 20) rfl (by kernel_rfl) (by kernel_rfl) (by kernel_rfl) (fun _ _ _ h => h) (Or.inr ⟨by rfl, rfl⟩) (by assumption) ?_
                      try simp only [Act.put, List.setIfInBounds_toArray, List.set_cons_zero, List.set_cons_succ]
                      refine htake (i := 21) (v := ?v35) rfl (by kernel_rfl) (by kernel_rfl) (by kernel_rfl) (fun _ _ _ h => h) (Or.inl ⟨by rfl, ?hy35⟩) (by assumption) ?_
                      case hy35 => (intro w hSw; (try dsimp only at hSw); go_simp; try (with_reducible rfl))
                      try simp only [Act.put, List.setIfInBounds_toArray, List.set_cons_zero, List.set_cons_succ]
                      refine wpAnyH_done (by kernel_rfl) ?_ _
                      refine NoPanic.normal ?_
                      iterate 23 (try clear hHeld)
                      all_goals (go_wp2_with fail; go_meet)
                      all_goals (exact ⟨by rw [ht]; rfl, X.out⟩)
                    · skip
                      obtain ⟨A1, c1, A2, c2, e1, -, -, -, -, -⟩ := X.out.form
                      subst e1
                      cases LL with
                      | nil =>
                        have HS := Lib.hid (show ∀ W : World, XAt V2 b m (.slice A1 0 c1) (v2) ([]) (KK) W → (W.cell? ⟨w.heap.size, 0, none⟩ = some (.int .i64 m.t.n) ∧ W.cell? ⟨w.heap.size, 1, none⟩ = some (.slice m.A1 m.t.loans.length m.c1) ∧ W.cell? ⟨w.heap.size, 2, none⟩ = some (.slice m.A2 m.t.looks.length m.c2) ∧ W.cell? ⟨w.heap.size, 3, none⟩ = some (.slice m.A3 m.t.admits.length m.c3) ∧ W.cell? ⟨b, 1, none⟩ = some (.slice A1 0 c1)) from fun W h => ⟨(K.out.next h.bw).bx.c 0 _ rfl, (K.out.next h.bw).bx.c 1 _ rfl, (K.out.next h.bw).bx.c 2 _ rfl, (K.out.next h.bw).bx.c 3 _ rfl, h.x.c 1 _ rfl⟩)
                        have X0 := X
                        have HLK := K
                        replace X := Lib.hid X.out.drew
                        refine wp_region_noPanic ?_
                        refine wp_region_held_drew (S := (fun W => W.cell? ⟨w.heap.size, 0, none⟩ = some (.int .i64 m.t.n) ∧ W.cell? ⟨w.heap.size, 1, none⟩ = some (.slice m.A1 m.t.loans.length m.c1) ∧ W.cell? ⟨w.heap.size, 2, none⟩ = some (.slice m.A2 m.t.looks.length m.c2) ∧ W.cell? ⟨w.heap.size, 3, none⟩ = some (.slice m.A3 m.t.admits.length m.c3) ∧ W.cell? ⟨b, 1, none⟩ = some (.slice A1 0 c1))) (by kernel_rfl) ?_ (fun hHeld => ?_)
                        · (try dsimp only); exact HS.out _ X.out
                        refine htake (i := 0) (v := ?v36) rfl (by kernel_rfl) (by kernel_rfl) (by kernel_rfl) (fun _ _ _ h => h) (Or.inl ⟨by rfl, ?hy36⟩) (by assumption) ?_
                        case hy36 => (intro w hSw; (try dsimp only at hSw); go_simp; try (with_reducible rfl))
                        try simp only [Act.put, List.setIfInBounds_toArray, List.set_cons_zero, List.set_cons_succ]
                        refine wpAnyH_ready (rs := [1]) (by kernel_rfl) (by simp) ?_
                        refine hcons rfl (fun K hK => ?_) (AllReadyH.nil)
                        go_simp
                        refine (Tale_any m _ (HLK.out.next X.out.bw).ta).mono ?_; rintro e w4 ⟨rfl, hb4⟩; rw [ht]; replace X := Lib.hid (X.out.next hb4); clear hb4
                        refine hK.out _ _ ?_ (fun hHeld => ?_)
                        · (try dsimp only); exact HS.out _ X.out
                        clear hK K
                        try simp only [Act.put, List.setIfInBounds_toArray, List.set_cons_zero, List.set_cons_succ]
                        refine htake (i := 2) (v := ?v37) rfl (by kernel_rfl) (by kernel_rfl) (by kernel_rfl) (fun _ _ _ h => h) (Or.inl ⟨by rfl, ?hy37⟩) (by assumption) ?_
                        case hy37 => (intro w hSw; (try dsimp only at hSw); go_simp; try (with_reducible rfl))
                        try simp only [Act.put, List.setIfInBounds_toArray, List.set_cons_zero, List.set_cons_succ]
                        refine htake (i := 3) (v := ?v38) rfl (by kernel_rfl) (by kernel_rfl) (by kernel_rfl) (fun _ _ _ h => h) (Or.inl ⟨by rfl, ?hy38⟩) (by assumption) ?_
                        case hy38 => (intro w hSw; (try dsimp only at hSw); go_simp; try (with_reducible rfl))
                        try simp only [Act.put, List.setIfInBounds_toArray, List.set_cons_zero, List.set_cons_succ]
                        refine htake (i := 4) (v := ?v39) rfl (by kernel_rfl) (by kernel_rfl) (by kernel_rfl) (fun _ _ _ h => h) (Or.inl ⟨by rfl, ?hy39⟩) (by assumption) ?_
                        case hy39 => (intro w hSw; (try dsimp only at hSw); go_simp; try (with_reducible rfl))
                        try simp only [Act.put, List.setIfInBounds_toArray, List.set_cons_zero, List.set_cons_succ]
                        refine htake (i := 5) (v := ?v40) rfl (by kernel_rfl) (by kernel_rfl) (by kernel_rfl) (fun _ _ _ h => h) (Or.inl ⟨by rfl, ?hy40⟩) (by assumption) ?_
                        case hy40 => (intro w hSw; (try dsimp only at hSw); go_simp; try (with_reducible rfl))
                        try simp only [Act.put, List.setIfInBounds_toArray, List.set_cons_zero, List.set_cons_succ]
                        refine htake (i := 6) (v := ?v41) rfl (by kernel_rfl) (by kernel_rfl) (by kernel_rfl) (fun _ _ _ h => h) (Or.inl ⟨by rfl, ?hy41⟩) (by assumption) ?_
                        case hy41 => (intro w hSw; (try dsimp only at hSw); go_simp; try (with_reducible rfl))
                        try simp only [Act.put, List.setIfInBounds_toArray, List.set_cons_zero, List.set_cons_succ]
                        refine htake (i := 7) (v := ?v42) rfl (by kernel_rfl) (by kernel_rfl) (by kernel_rfl) (fun _ _ _ h => h) (Or.inl ⟨by rfl, ?hy42⟩) (by assumption) ?_
                        case hy42 => (intro w hSw; (try dsimp only at hSw); go_simp; try (with_reducible rfl))
                        try simp only [Act.put, List.setIfInBounds_toArray, List.set_cons_zero, List.set_cons_succ]
                        refine htake (i := 8) (v := ?v43) rfl (by kernel_rfl) (by kernel_rfl) (by kernel_rfl) (fun _ _ _ h => h) (Or.inl ⟨by rfl, ?hy43⟩) (by assumption) ?_
                        case hy43 => (intro w hSw; (try dsimp only at hSw); go_simp; try (with_reducible rfl))
                        try simp only [Act.put, List.setIfInBounds_toArray, List.set_cons_zero, List.set_cons_succ]
                        refine htake (i := 9) rfl (by kernel_rfl) (by kernel_rfl) (by kernel_rfl) (fun _ _ _ h => h) (Or.inr ⟨by rfl, rfl⟩) (by assumption) ?_
                        try simp only [Act.put, List.setIfInBounds_toArray, List.set_cons_zero, List.set_cons_succ]
                        refine htake (i := 10) rfl (by kernel_rfl) (by kernel_rfl) (by kernel_rfl) (fun _ _ _ h => h) (Or.inr ⟨by rfl, rfl⟩) (by assumption) ?_
                        try simp only [Act.put, List.setIfInBounds_toArray, List.set_cons_zero, List.set_cons_succ]
                        refine htake (i := 11) rfl (by kernel_rfl) (by kernel_rfl) (by kernel_rfl) (fun _ _ _ h => h) (Or.inr ⟨by rfl, rfl⟩) (by assumption) ?_
                        try simp only [Act.put, List.setIfInBounds_toArray, List.set_cons_zero, List.set_cons_succ]
                        refine htake (i := 12) rfl (by kernel_rfl) (by kernel_rfl) (by kernel_rfl) (fun _ _ _ h => h) (Or.inr ⟨by rfl, rfl⟩) (by assumption) ?_
                        try simp only [Act.put, List.setIfInBounds_toArray, List.set_cons_zero, List.set_cons_succ]
                        refine htake (i := 13) rfl (by kernel_rfl) (by kernel_rfl) (by kernel_rfl) (fun _ _ _ h => h) (Or.inr ⟨by rfl, rfl⟩) (by assumption) ?_
                        try simp only [Act.put, List.setIfInBounds_toArray, List.set_cons_zero, List.set_cons_succ]
                        refine htake (i := 14) rfl (by kernel_rfl) (by kernel_rfl) (by kernel_rfl) (fun _ _ _ h => h) (Or.inr ⟨by rfl, rfl⟩) (by assumption) ?_
                        try simp only [Act.put, List.setIfInBounds_toArray, List.set_cons_zero, List.set_cons_succ]
                        refine htake (i := 15) rfl (by kernel_rfl) (by kernel_rfl) (by kernel_rfl) (fun _ _ _ h => h) (Or.inr ⟨by rfl, rfl⟩) (by assumption) ?_
                        try simp only [Act.put, List.setIfInBounds_toArray, List.set_cons_zero, List.set_cons_succ]
                        refine htake (i := 16) rfl (by kernel_rfl) (by kernel_rfl) (by kernel_rfl) (fun _ _ _ h => h) (Or.inr ⟨by rfl, rfl⟩) (by assumption) ?_
                        try simp only [Act.put, List.setIfInBounds_toArray, List.set_cons_zero, List.set_cons_succ]
                        refine htake (i := 17) rfl (by kernel_rfl) (by kernel_rfl) (by kernel_rfl) (fun _ _ _ h => h) (Or.inr ⟨by rfl, rfl⟩) (by assumption) ?_
                        try simp only [Act.put, List.setIfInBounds_toArray, List.set_cons_zero, List.set_cons_succ]
                        refine htake (i := 18) rfl (by kernel_rfl) (by kernel_rfl) (by kernel_rfl) (fun _ _ _ h => h) (Or.inr ⟨by rfl, rfl⟩) (by assumption) ?_
                        try simp only [Act.put, List.setIfInBounds_toArray, List.set_cons_zero, List.set_cons_succ]
                        refine htake (i := 19) rfl (by kernel_rfl) (by kernel_rfl) (by kernel_rfl) (fun _ _ _ h => h) (Or.inr ⟨by rfl, rfl⟩) (by assumption) ?_
                        try simp only [Act.put, List.setIfInBounds_toArray, List.set_cons_zero, List.set_cons_succ]
                        refine htake (i := 20) rfl (by kernel_rfl) (by kernel_rfl) (by kernel_rfl) (fun _ _ _ h => h) (Or.inr ⟨by rfl, rfl⟩) (by assumption) ?_
                        try simp only [Act.put, List.setIfInBounds_toArray, List.set_cons_zero, List.set_cons_succ]
                        refine htake (i := 21) (v := ?v44) rfl (by kernel_rfl) (by kernel_rfl) (by kernel_rfl) (fun _ _ _ h => h) (Or.inl ⟨by rfl, ?hy44⟩) (by assumption) ?_
                        case hy44 => (intro w hSw; (try dsimp only at hSw); go_simp; try (with_reducible rfl))
                        try simp only [Act.put, List.setIfInBounds_toArray, List.set_cons_zero, List.set_cons_succ]
                        refine wpAnyH_done (by kernel_rfl) ?_ _
                        refine NoPanic.normal ?_
                        iterate 23 (try clear hHeld)
                        all_goals (go_wp2_with fail; go_meet)
                        all_goals (exact ⟨by rw [ht]; rfl, X.out⟩)
                      | cons f l =>
                        obtain ⟨g, gc, ev1, hbg, hgl, -, -, -, -⟩ := X.out.loan0
                        injection ev1 with ev1 ev2 ev3
                        subst ev1 ev3
                        have hgf := (okT_of ht).lent.good f (HML.out f (List.mem_cons_self ..))
                        obtain ⟨-, -, hga, hgb, hgm⟩ := hgf
                        have hgm2 : f.b ≤ 1048576 := hgm
                        clear hgm ev2
                        have hwb : IntKind.i64.wrap (f.b - f.a) = f.b - f.a := IntWalk.i64_in _ (by omega)
                        have hwb2 : wrap64 (f.b - f.a) = f.b - f.a := IntWalk.wrap64_in _ ⟨by omega, by omega⟩
                        have HS := Lib.hid (show ∀ W : World, XAt V2 b m (.slice (some ⟨g, 0, none⟩) (l.length + 1) c1) (v2) (f :: l) (KK) W → (W.cell? ⟨w.heap.size, 0, none⟩ = some (.int .i64 m.t.n) ∧ W.cell? ⟨w.heap.size, 1, none⟩ = some (.slice m.A1 m.t.loans.length m.c1) ∧ W.cell? ⟨w.heap.size, 2, none⟩ = some (.slice m.A2 m.t.looks.length m.c2) ∧ W.cell? ⟨w.heap.size, 3, none⟩ = some (.slice m.A3 m.t.admits.length m.c3) ∧ W.cell? ⟨b, 1, none⟩ = some (.slice (some ⟨g, 0, none⟩) (l.length + 1) c1) ∧ W.cell? ⟨g, 1, none⟩ = some (.int .i64 f.a) ∧ W.cell? ⟨g, 2, none⟩ = some (.int .i64 f.b)) from fun W h => ⟨(K.out.next h.bw).bx.c 0 _ rfl, (K.out.next h.bw).bx.c 1 _ rfl, (K.out.next h.bw).bx.c 2 _ rfl, (K.out.next h.bw).bx.c 3 _ rfl, h.x.c 1 _ rfl, (by obtain ⟨g', gc', ev1, -, -, -, l1, -, -⟩ := h.loan0; injection ev1 with ev1 _ _; injection ev1 with ev1; injection ev1 with ev1; subst ev1; exact l1), (by obtain ⟨g', gc', ev1, -, -, -, -, l2, -⟩ := h.loan0; injection ev1 with ev1 _ _; injection ev1 with ev1; injection ev1 with ev1; subst ev1; exact l2)⟩)
                        have X0 := X
                        have HLK := K
                        replace X := Lib.hid X.out.drew
                        refine wp_region_noPanic ?_
                        refine wp_region_held_drew (S := (fun W => W.cell? ⟨w.heap.size, 0, none⟩ = some (.int .i64 m.t.n) ∧ W.cell? ⟨w.heap.size, 1, none⟩ = some (.slice m.A1 m.t.loans.length m.c1) ∧ W.cell? ⟨w.heap.size, 2, none⟩ = some (.slice m.A2 m.t.looks.length m.c2) ∧ W.cell? ⟨w.heap.size, 3, none⟩ = some (.slice m.A3 m.t.admits.length m.c3) ∧ W.cell? ⟨b, 1, none⟩ = some (.slice (some ⟨g, 0, none⟩) (l.length + 1) c1) ∧ W.cell? ⟨g, 1, none⟩ = some (.int .i64 f.a) ∧ W.cell? ⟨g, 2, none⟩ = some (.int .i64 f.b))) (by kernel_rfl) ?_ (fun hHeld => ?_)
                        · (try dsimp only); exact HS.out _ X.out
                        refine htake (i := 0) (v := ?v45) rfl (by kernel_rfl) (by kernel_rfl) (by kernel_rfl) (fun _ _ _ h => h) (Or.inl ⟨by rfl, ?hy45⟩) (by assumption) ?_
                        case hy45 => (intro w hSw; (try dsimp only at hSw); go_simp; try (with_reducible rfl))
                        try simp only [Act.put, List.setIfInBounds_toArray, List.set_cons_zero, List.set_cons_succ]
                        refine wpAnyH_ready (rs := [1]) (by kernel_rfl) (by simp) ?_
                        refine hcons rfl (fun K hK => ?_) (AllReadyH.nil)
                        go_simp
                        refine (Tale_any m _ (HLK.out.next X.out.bw).ta).mono ?_; rintro e w4 ⟨rfl, hb4⟩; rw [ht]; replace X := Lib.hid (X.out.next hb4); clear hb4
                        refine hK.out _ _ ?_ (fun hHeld => ?_)
                        · (try dsimp only); exact HS.out _ X.out
                        clear hK K
                        try simp only [Act.put, List.setIfInBounds_toArray, List.set_cons_zero, List.set_cons_succ]
                        refine htake (i := 2) (v := ?v46) rfl (by kernel_rfl) (by kernel_rfl) (by kernel_rfl) (fun _ _ _ h => h) (Or.inl ⟨by rfl, ?hy46⟩) (by assumption) ?_
                        case hy46 => (intro w hSw; (try dsimp only at hSw); go_simp; try (with_reducible rfl))
                        try simp only [Act.put, List.setIfInBounds_toArray, List.set_cons_zero, List.set_cons_succ]
                        refine htake (i := 3) (v := ?v47) rfl (by kernel_rfl) (by kernel_rfl) (by kernel_rfl) (fun _ _ _ h => h) (Or.inl ⟨by rfl, ?hy47⟩) (by assumption) ?_
                        case hy47 => (intro w hSw; (try dsimp only at hSw); go_simp; try (with_reducible rfl))
                        try simp only [Act.put, List.setIfInBounds_toArray, List.set_cons_zero, List.set_cons_succ]
                        refine htake (i := 4) (v := ?v48) rfl (by kernel_rfl) (by kernel_rfl) (by kernel_rfl) (fun _ _ _ h => h) (Or.inl ⟨by rfl, ?hy48⟩) (by assumption) ?_
                        case hy48 => (intro w hSw; (try dsimp only at hSw); go_simp; try (with_reducible rfl))
                        try simp only [Act.put, List.setIfInBounds_toArray, List.set_cons_zero, List.set_cons_succ]
                        refine htake (i := 5) (v := ?v49) rfl (by kernel_rfl) (by kernel_rfl) (by kernel_rfl) (fun _ _ _ h => h) (Or.inl ⟨by rfl, ?hy49⟩) (by assumption) ?_
                        case hy49 => (intro w hSw; (try dsimp only at hSw); go_simp; try (with_reducible rfl))
                        try simp only [Act.put, List.setIfInBounds_toArray, List.set_cons_zero, List.set_cons_succ]
                        refine htake (i := 6) (v := ?v50) rfl (by kernel_rfl) (by kernel_rfl) (by kernel_rfl) (fun _ _ _ h => h) (Or.inl ⟨by rfl, ?hy50⟩) (by assumption) ?_
                        case hy50 => (intro w hSw; (try dsimp only at hSw); go_simp; try (with_reducible rfl))
                        try simp only [Act.put, List.setIfInBounds_toArray, List.set_cons_zero, List.set_cons_succ]
                        refine htake (i := 7) (v := ?v51) rfl (by kernel_rfl) (by kernel_rfl) (by kernel_rfl) (fun _ _ _ h => h) (Or.inl ⟨by rfl, ?hy51⟩) (by assumption) ?_
                        case hy51 => (intro w hSw; (try dsimp only at hSw); go_simp; try (with_reducible rfl))
                        try simp only [Act.put, List.setIfInBounds_toArray, List.set_cons_zero, List.set_cons_succ]
                        refine htake (i := 8) (v := ?v52) rfl (by kernel_rfl) (by kernel_rfl) (by kernel_rfl) (fun _ _ _ h => h) (Or.inl ⟨by rfl, ?hy52⟩) (by assumption) ?_
                        case hy52 => (intro w hSw; (try dsimp only at hSw); go_simp; try (with_reducible rfl))
                        try simp only [Act.put, List.setIfInBounds_toArray, List.set_cons_zero, List.set_cons_succ]
                        refine htake (i := 9) (v := ?v53) rfl (by kernel_rfl) (by kernel_rfl) (by kernel_rfl) (fun _ _ _ h => h) (Or.inl ⟨by rfl, ?hy53⟩) (by assumption) ?_
                        case hy53 => (intro w hSw; (try dsimp only at hSw); go_simp; try (with_reducible rfl))
                        try simp only [Act.put, List.setIfInBounds_toArray, List.set_cons_zero, List.set_cons_succ]
                        refine htake (i := 10) (v := ?v54) rfl (by kernel_rfl) (by kernel_rfl) (by kernel_rfl) (fun _ _ _ h => h) (Or.inl ⟨by rfl, ?hy54⟩) (by assumption) ?_
                        case hy54 => (intro w hSw; (try dsimp only at hSw); go_simp; try (with_reducible rfl))
                        try simp only [Act.put, List.setIfInBounds_toArray, List.set_cons_zero, List.set_cons_succ]
                        refine htake (i := 11) (v := ?v55) rfl (by kernel_rfl) (by kernel_rfl) (by kernel_rfl) (fun _ _ _ h => h) (Or.inl ⟨by rfl, ?hy55⟩) (by assumption) ?_
                        case hy55 => (intro w hSw; (try dsimp only at hSw); go_simp; try (with_reducible rfl))
                        try simp only [Act.put, List.setIfInBounds_toArray, List.set_cons_zero, List.set_cons_succ]
                        refine htake (i := 12) (v := ?v56) rfl (by kernel_rfl) (by kernel_rfl) (by kernel_rfl) (fun _ _ _ h => h) (Or.inl ⟨by rfl, ?hy56⟩) (by assumption) ?_
                        case hy56 => (intro w hSw; (try dsimp only at hSw); go_simp; try (with_reducible rfl))
                        try simp only [Act.put, List.setIfInBounds_toArray, List.set_cons_zero, List.set_cons_succ]
                        refine htake (i := 13) (v := ?v57) rfl (by kernel_rfl) (by kernel_rfl) (by kernel_rfl) (fun _ _ _ h => h) (Or.inl ⟨by rfl, ?hy57⟩) (by assumption) ?_
                        case hy57 => (intro w hSw; (try dsimp only at hSw); go_simp; try (with_reducible rfl))
                        try simp only [Act.put, List.setIfInBounds_toArray, List.set_cons_zero, List.set_cons_succ]
                        refine htake (i := 14) (v := ?v58) rfl (by kernel_rfl) (by kernel_rfl) (by kernel_rfl) (fun _ _ _ h => h) (Or.inl ⟨by rfl, ?hy58⟩) (by assumption) ?_
                        case hy58 => (intro w hSw; (try dsimp only at hSw); go_simp; try (with_reducible rfl))
                        try simp only [Act.put, List.setIfInBounds_toArray, List.set_cons_zero, List.set_cons_succ]
                        refine htake (i := 15) (v := ?v59) rfl (by kernel_rfl) (by kernel_rfl) (by kernel_rfl) (fun _ _ _ h => h) (Or.inl ⟨by rfl, ?hy59⟩) (by assumption) ?_
                        case hy59 => (intro w hSw; (try dsimp only at hSw); go_simp; try (with_reducible rfl))
                        try simp only [Act.put, List.setIfInBounds_toArray, List.set_cons_zero, List.set_cons_succ]
                        refine htake (i := 16) (v := ?v60) rfl (by kernel_rfl) (by kernel_rfl) (by kernel_rfl) (fun _ _ _ h => h) (Or.inl ⟨by rfl, ?hy60⟩) (by assumption) ?_
                        case hy60 => (intro w hSw; (try dsimp only at hSw); go_simp; try (with_reducible rfl))
                        try simp only [Act.put, List.setIfInBounds_toArray, List.set_cons_zero, List.set_cons_succ]
                        refine htake (i := 17) (v := ?v61) rfl (by kernel_rfl) (by kernel_rfl) (by kernel_rfl) (fun _ _ _ h => h) (Or.inl ⟨by rfl, ?hy61⟩) (by assumption) ?_
                        case hy61 => (intro w hSw; (try dsimp only at hSw); go_simp; try (with_reducible rfl))
                        try simp only [Act.put, List.setIfInBounds_toArray, List.set_cons_zero, List.set_cons_succ]
                        refine htake (i := 18) (v := ?v62) rfl (by kernel_rfl) (by kernel_rfl) (by kernel_rfl) (fun _ _ _ h => h) (Or.inl ⟨by rfl, ?hy62⟩) (by assumption) ?_
                        case hy62 => (intro w hSw; (try dsimp only at hSw); go_simp; try (with_reducible rfl))
                        try simp only [Act.put, List.setIfInBounds_toArray, List.set_cons_zero, List.set_cons_succ]
                        refine htake (i := 19) (v := ?v63) rfl (by kernel_rfl) (by kernel_rfl) (by kernel_rfl) (fun _ _ _ h => h) (Or.inl ⟨by rfl, ?hy63⟩) (by assumption) ?_
                        case hy63 => (intro w hSw; (try dsimp only at hSw); go_simp; try (with_reducible rfl))
                        try simp only [Act.put, List.setIfInBounds_toArray, List.set_cons_zero, List.set_cons_succ]
                        refine htake (i := 20) (v := ?v64) rfl (by kernel_rfl) (by kernel_rfl) (by kernel_rfl) (fun _ _ _ h => h) (Or.inl ⟨by rfl, ?hy64⟩) (by assumption) ?_
                        case hy64 => (intro w hSw; (try dsimp only at hSw); go_simp; try (with_reducible rfl))
                        try simp only [Act.put, List.setIfInBounds_toArray, List.set_cons_zero, List.set_cons_succ]
                        refine htake (i := 21) (v := ?v65) rfl (by kernel_rfl) (by kernel_rfl) (by kernel_rfl) (fun _ _ _ h => h) (Or.inl ⟨by rfl, ?hy65⟩) (by assumption) ?_
                        case hy65 => (intro w hSw; (try dsimp only at hSw); go_simp; try (with_reducible rfl))
                        try simp only [Act.put, List.setIfInBounds_toArray, List.set_cons_zero, List.set_cons_succ]
                        refine wpAnyH_done (by kernel_rfl) ?_ _
                        refine NoPanic.normal ?_
                        iterate 23 (try clear hHeld)
                        all_goals (go_wp2_with fail; go_meet)
                        all_goals (exact ⟨by rw [ht]; rfl, X.out⟩)
                case rest =>
                  obtain ⟨rfl, hX⟩ := hcut
                  clear X
                  have X := Lib.hid hX
                  clear hX
                  go_upto_if 125 with fail
                  go_cut [] (fun wx => ∃ v, XAt V2 b m v v2 (if okTale m.t = true then cutLoan LL else LL) KK wx)
                  case first =>
                    as_aux_lemma =>
                      cases hcd : (okTale m.t && bigL LL)
                      · have hsm : (if okTale m.t = true then cutLoan LL else LL) = LL := by
                          by_cases ht : okTale m.t = true
                          · rw [if_pos ht]; rw [ht, Bool.true_and] at hcd; exact cut_small hcd
                          · rw [if_neg ht]
                        go_wp2_with fail
                        go_meet
                        exact ⟨_, by rw [hsm]; exact X.out⟩
                      · skip
                        rw [Bool.and_eq_true] at hcd
                        obtain ⟨ht, hbig⟩ := hcd
                        cases hLe : LL with
                        | nil => rw [hLe] at hbig; cases hbig
                        | cons f l =>
                          rw [hLe] at X
                          rw [hLe] at hbig
                          have hcut : cutLoan (f :: l) = ({ f with b := f.a + 1 } :: l) ++ [{ f with a := f.a + 1 }] := by rw [cutLoan_cons, if_pos (of_decide_eq_true hbig)]
                          have hgf := (okT_of ht).lent.good f (HML.out f (by rw [hLe]; exact List.mem_cons_self ..))
                          obtain ⟨-, -, hga, hgb, hgm⟩ := hgf
                          have hgm2 : f.b ≤ 1048576 := hgm
                          clear hgm hbig
                          have hwa : IntKind.i64.wrap (f.a + 1) = f.a + 1 := IntWalk.i64_in _ (by omega)
                          have HCUT := Lib.hid (show (if okTale m.t = true then cutLoan LL else LL) = ({ f with b := f.a + 1 } :: l) ++ [{ f with a := f.a + 1 }] by rw [if_pos ht, hLe]; exact hcut)
                          clear hcut ht
                          have HLL2 := Lib.hid (show l.length ≤ 20 by have h1 := HLLn.out; rw [hLe] at h1; simp at h1; omega)
                          clear hLe
                          obtain ⟨g, gc, ev1, hbg, hgl, l0, l1, l2, hfr⟩ := X.out.loan0
                          subst ev1
                          have x0 := X.out.x.c 1 _ rfl
                          have hother := fun k (e : v2.ownBlock = some k) => (X.out.o2.lt k e).2
                          have HOB := Lib.hid hother
                          clear hother
                          have hA := nxA wc (.cells #[.int .i64 f.p, .int .i64 f.a, .int .i64 f.b] 44)
                          have SL := Lib.hid (Bx.new wc #[.int .i64 f.p, .int .i64 f.a, .int .i64 f.b] 44)
                          go_upto_region 15 with fail
                          replace X := Lib.hid (X.out.next hA)
                          clear hA x0 l0 l1 l2 hfr
                          generalize (wc.alloc (.cells #[.int .i64 f.p, .int .i64 f.a, .int .i64 f.b] 44)) = Y1 at *
                          obtain ⟨bl, hbl⟩ : ∃ q, q = wc.heap.size := ⟨_, rfl⟩
                          rw [← hbl] at SL ⊢ hgl
                          have HBL := Lib.hid (show V2.heap.size ≤ bl ∧ b < bl from ⟨by have := X.out.lo; omega, by omega⟩)
                          have HOB2 := Lib.hid (show v2.ownBlock ≠ some bl from fun e => by have := HOB.out _ e; omega)
                          clear HOB hbl
                          obtain ⟨g', gc', ev1, -, -, l0, l1, l2, hfr⟩ := X.out.loan0
                          injection ev1 with ev1 e8 e9
                          clear e8 e9
                          injection ev1 with ev1
                          injection ev1 with ev1
                          subst ev1
                          have x0 := X.out.x.c 1 _ rfl
                          have s0 := SL.out.c 0 _ rfl
                          have s1 := SL.out.c 1 _ rfl
                          have s2 := SL.out.c 2 _ rfl
                          have f0 := SL.out.fr 1
                          have f1 := hfr 2
                          have hne : ¬ g = bl := by omega
                          have hne2 : ¬ bl = g := by omega
                          go_upto_region 16 with fail
                          have hX := X.out.setLoan (f' := { f with b := f.a + 1 }) (j := 2) (u := .int .i64 (f.a + 1)) (by omega) rfl
                          have hS := SL.out.other (show bl ≠ g by omega) 2 (.int .i64 (f.a + 1))
                          replace X := Lib.hid hX
                          replace SL := Lib.hid hS
                          generalize (Y1.setCell ⟨g, 2, none⟩ (.int .i64 (f.a + 1))) = Y2 at *
                          clear x0 s0 s1 s2 f0 f1 l0 l1 l2 hfr hX hS
                          have s1 := SL.out.c 1 _ rfl
                          have f0 := SL.out.fr 1
                          go_upto_region 17 with fail
                          have hX := X.out.other ⟨bl, 1, none⟩ (.int .i64 (f.a + 1)) HBL.out.1 (by have := HBL.out.2; show bl ≠ b; omega) (fun e => by injection e with e; exact hne e) HOB2.out
                          have hS := SL.out.set (k := 1) (by simp) (.int .i64 (f.a + 1))
                          replace X := Lib.hid hX
                          replace SL := Lib.hid hS
                          generalize (Y2.setCell ⟨bl, 1, none⟩ (.int .i64 (f.a + 1))) = Y3 at *
                          clear s1 f0 hX hS
                          have s0 := SL.out.c 0 _ rfl
                          have s1 := SL.out.c 1 _ rfl
                          have s2 := SL.out.c 2 _ rfl
                          have x0 := X.out.x.c 1 _ rfl
                          have hn := Bx.new Y3 #[.int .i64 f.p, .int .i64 (f.a + 1), .int .i64 f.b] 44
                          have hA := nxA Y3 (.cells #[.int .i64 f.p, .int .i64 (f.a + 1), .int .i64 f.b] 44)
                          obtain ⟨ib, gi, gz0, gz1, gz2⟩ := info_parts loan_info
                          have XA := Lib.hid (X.out.next hA)
                          have hBs : b < Y3.heap.size := X.out.x.lt
                          go_wp2_with (at_builtin; refine wpList_append_own _ rfl (.tmp 142) (.tmp 144) 22 rfl (b + 1) 44 ib (.agg #[.int .i64 0, .int .i64 0, .int .i64 0]) 3 24 Tryd.underlying22 gi gz0 gz1 gz2 rfl (by decide) _ _ _ rfl XA.out.o1 ⟨Y3.heap.size, 0, none⟩ 1 1 [.int .i64 f.p, .int .i64 (f.a + 1), .int .i64 f.b] rfl rfl hn.news (by simp [Value.oneCell']) (by have := HLL2.out; simp only [List.length_cons]; unfold maxLen; omega) (by have := HLL2.out; simp only [List.length_cons]; omega) (by simp; omega) ?_; intro v6 w6 ho6 hg6 _; obtain ⟨hb6, hx6, hX6⟩ := XA.out.loan (x := { f with a := f.a + 1 }) hg6 ho6 rfl rfl; obtain ⟨A6, c6, e6, -⟩ := own_form ho6; subst e6; have z0 := hx6.c 1 _ rfl; have z1 := hx6.fr 1; have HX6 := Lib.hid hX6; clear hX6 hb6 ho6 hg6)
                          go_meet
                          exact ⟨_, by rw [HCUT.out]; exact HX6.out⟩
                  case rest =>
                    obtain ⟨v', hX⟩ := hcut
                    clear X
                    have X := Lib.hid hX
                    clear hX
                    obtain ⟨LL1, hLL1⟩ : ∃ q, q = (if okTale m.t = true then cutLoan LL else LL) := ⟨_, rfl⟩
                    rw [← hLL1] at X
                    have HL1 := Lib.hid hLL1
                    clear hLL1
                    obtain ⟨v1', hv1⟩ : ∃ q, q = v' := ⟨_, rfl⟩
                    rw [← hv1] at X
                    clear hv1
                    have HFORM := X.out.form
                    obtain ⟨A1, c1, A2, c2, e1, e2, hc1, hc2, -, -⟩ := HFORM
                    subst e1
                    go_upto_region 18 with fail
                    go_cut [154] (fun s wx => s = .bool (okTale m.t && someL KK) ∧ XAt V2 b m (.slice A1 LL1.length c1) v2 LL1 KK wx)
                    case first =>
                      as_aux_lemma =>
                        cases ht : okTale m.t
                        · skip
                          have K8 := Lib.hid (K.out.next X.out.bw)
                          have p0 := K8.out.bx.c 0 _ rfl
                          have p1 := K8.out.bx.c 1 _ rfl
                          have p2 := K8.out.bx.c 2 _ rfl
                          have p3 := K8.out.bx.c 3 _ rfl
                          go_wp2_with fail
                          refine (Tale_any m _ K8.out.ta).mono ?_
                          rintro e w4 ⟨rfl, hb4⟩
                          rw [ht]
                          clear p0 p1 p2 p3 K8
                          have hX4 := X.out.next hb4
                          clear X hb4
                          go_wp2_with fail
                          go_meet
                          exact ⟨by rw [ht]; rfl, hX4⟩
                        · skip
                          subst e2
                          cases KK with
                          | nil =>
                            have K8 := Lib.hid (K.out.next X.out.bw)
                            have p0 := K8.out.bx.c 0 _ rfl
                            have p1 := K8.out.bx.c 1 _ rfl
                            have p2 := K8.out.bx.c 2 _ rfl
                            have p3 := K8.out.bx.c 3 _ rfl
                            go_wp2_with fail
                            refine (Tale_any m _ K8.out.ta).mono ?_
                            rintro e w4 ⟨rfl, hb4⟩
                            rw [ht]
                            clear p0 p1 p2 p3 K8
                            have hX4 := X.out.next hb4
                            clear X hb4
                            have x2 := hX4.x.c 2 _ rfl
                            go_wp2_with fail
                            go_meet
                            exact ⟨by rw [ht]; rfl, hX4⟩
                          | cons f l =>
                            have K8 := Lib.hid (K.out.next X.out.bw)
                            have p0 := K8.out.bx.c 0 _ rfl
                            have p1 := K8.out.bx.c 1 _ rfl
                            have p2 := K8.out.bx.c 2 _ rfl
                            have p3 := K8.out.bx.c 3 _ rfl
                            go_wp2_with fail
                            refine (Tale_any m _ K8.out.ta).mono ?_
                            rintro e w4 ⟨rfl, hb4⟩
                            rw [ht]
                            clear p0 p1 p2 p3 K8
                            have hX4 := X.out.next hb4
                            clear X hb4
                            have x2 := hX4.x.c 2 _ rfl
                            go_wp2_with fail
                            go_meet
                            exact ⟨by rw [ht]; rfl, hX4⟩
                    case rest =>
                      obtain ⟨rfl, hX⟩ := hcut
                      clear X e2 hc2 hc1
                      have X := Lib.hid hX
                      clear hX
                      obtain ⟨v1, hv1⟩ : ∃ q, q = Value.slice A1 LL1.length c1 := ⟨_, rfl⟩
                      rw [← hv1] at X
                      have HV1 := Lib.hid hv1
                      clear hv1
                      go_upto_if 154 with fail
                      go_cut [] (fun wx => ∃ v, XAt V2 b m v1 v LL1 (if okTale m.t = true then cutLook KK else KK) wx)
                      case first =>
                        as_aux_lemma =>
                          cases hcd : (okTale m.t && someL KK)
                          · have hsm : (if okTale m.t = true then cutLook KK else KK) = KK := by
                              by_cases ht : okTale m.t = true
                              · rw [if_pos ht]; rw [ht, Bool.true_and] at hcd
                                cases KK with
                                | nil => rfl
                                | cons f l => cases hcd
                              · rw [if_neg ht]
                            go_wp2_with fail
                            go_meet
                            exact ⟨_, by rw [hsm]; exact X.out⟩
                          · skip
                            rw [Bool.and_eq_true] at hcd
                            obtain ⟨ht, hbig⟩ := hcd
                            cases hLe : KK with
                            | nil => rw [hLe] at hbig; cases hbig
                            | cons f l =>
                              rw [hLe] at X
                              have HCUT := Lib.hid (show (if okTale m.t = true then cutLook KK else KK) = ({ f with there := 0 } :: l) ++ [{ f with gone := 0 }] by rw [if_pos ht, hLe]; rfl)
                              clear hbig ht
                              have HLL2 := Lib.hid (show l.length ≤ 20 by have h1 := HKKn.out; rw [hLe] at h1; simp at h1; omega)
                              clear hLe
                              obtain ⟨g, gc, ev1, hbg, hgl, l0, l1, l2, hfr⟩ := X.out.look0
                              subst ev1
                              have x0 := X.out.x.c 2 _ rfl
                              have hother := fun k (e : v1.ownBlock = some k) => (X.out.o1.lt k e).2
                              have HOB := Lib.hid hother
                              clear hother
                              have hA := nxA wc (.cells #[.int .i64 f.h, .int .i64 f.there, .int .i64 f.gone] 50)
                              have SL := Lib.hid (Bx.new wc #[.int .i64 f.h, .int .i64 f.there, .int .i64 f.gone] 50)
                              go_upto_region 20 with fail
                              replace X := Lib.hid (X.out.next hA)
                              clear hA x0 l0 l1 l2 hfr
                              generalize (wc.alloc (.cells #[.int .i64 f.h, .int .i64 f.there, .int .i64 f.gone] 50)) = Y1 at *
                              obtain ⟨bl, hbl⟩ : ∃ q, q = wc.heap.size := ⟨_, rfl⟩
                              rw [← hbl] at SL ⊢ hgl
                              have HBL := Lib.hid (show V2.heap.size ≤ bl ∧ b < bl from ⟨by have := X.out.lo; omega, by omega⟩)
                              have HOB2 := Lib.hid (show v1.ownBlock ≠ some bl from fun e => by have := HOB.out _ e; omega)
                              clear HOB hbl
                              obtain ⟨g', gc', ev1, -, -, l0, l1, l2, hfr⟩ := X.out.look0
                              injection ev1 with ev1 e8 e9
                              clear e8 e9
                              injection ev1 with ev1
                              injection ev1 with ev1
                              subst ev1
                              have x0 := X.out.x.c 2 _ rfl
                              have s0 := SL.out.c 0 _ rfl
                              have s1 := SL.out.c 1 _ rfl
                              have s2 := SL.out.c 2 _ rfl
                              have f0 := SL.out.fr 2
                              have f1 := hfr 1
                              have hne : ¬ g = bl := by omega
                              have hne2 : ¬ bl = g := by omega
                              go_upto_region 21 with fail
                              have hX := (X.out.setLook (f' := { f with there := 0 }) (j := 1) (u := .int .i64 0) (by omega) rfl).other ⟨bl, 2, none⟩ (.int .i64 0) HBL.out.1 (by have := HBL.out.2; show bl ≠ b; omega) HOB2.out (fun e => by injection e with e; exact hne e)
                              have hS := (SL.out.other (show bl ≠ g by omega) 1 (.int .i64 0)).set (k := 2) (by simp) (.int .i64 0)
                              replace X := Lib.hid hX
                              replace SL := Lib.hid hS
                              generalize ((Y1.setCell ⟨g, 1, none⟩ (.int .i64 0)).setCell ⟨bl, 2, none⟩ (.int .i64 0)) = Y3 at *
                              clear x0 s0 s1 s2 f0 f1 l0 l1 l2 hfr hX hS
                              have s0 := SL.out.c 0 _ rfl
                              have s1 := SL.out.c 1 _ rfl
                              have s2 := SL.out.c 2 _ rfl
                              have x0 := X.out.x.c 2 _ rfl
                              have hn := Bx.new Y3 #[.int .i64 f.h, .int .i64 f.there, .int .i64 0] 50
                              have hA := nxA Y3 (.cells #[.int .i64 f.h, .int .i64 f.there, .int .i64 0] 50)
                              obtain ⟨ib, gi, gz0, gz1, gz2⟩ := info_parts sight_info
                              have XA := Lib.hid (X.out.next hA)
                              have hBs : b < Y3.heap.size := X.out.x.lt
                              go_wp2_with (at_builtin; refine wpList_append_own _ rfl (.tmp 165) (.tmp 167) 23 rfl (b + 1) 50 ib (.agg #[.int .i64 0, .int .i64 0, .int .i64 0]) 3 24 Tryd.underlying23 gi gz0 gz1 gz2 rfl (by decide) _ _ _ rfl XA.out.o2 ⟨Y3.heap.size, 0, none⟩ 1 1 [.int .i64 f.h, .int .i64 f.there, .int .i64 0] rfl rfl hn.news (by simp [Value.oneCell']) (by have := HLL2.out; simp only [List.length_cons]; unfold maxLen; omega) (by have := HLL2.out; simp only [List.length_cons]; omega) (by simp; omega) ?_; intro v6 w6 ho6 hg6 _; obtain ⟨hb6, hx6, hX6⟩ := XA.out.look (x := { f with gone := 0 }) hg6 ho6 rfl rfl; obtain ⟨A6, c6, e6, -⟩ := own_form ho6; subst e6; have z0 := hx6.c 2 _ rfl; have z1 := hx6.fr 2; have HX6 := Lib.hid hX6; clear hX6 hb6 ho6 hg6)
                              go_meet
                              exact ⟨_, by rw [HCUT.out]; exact HX6.out⟩
                      case rest =>
                        obtain ⟨v', hX⟩ := hcut
                        clear X
                        have X := Lib.hid hX
                        clear hX
                        obtain ⟨KK1, hKK1⟩ : ∃ q, q = (if okTale m.t = true then cutLook KK else KK) := ⟨_, rfl⟩
                        rw [← hKK1] at X
                        have HSAME : ordT m.t c = { m.t with loans := LL1, looks := KK1 } := by
                          unfold ordT
                          rw [HL1.out, hKK1, ← HLL0.out, ← HKK0.out]
                          cases ht : okTale m.t <;> rfl
                        obtain ⟨A1, c1, A2, c2, e1, e2, hc1, hc2, hat1, hat2⟩ := X.out.form
                        have hl1 : LL1.length ≤ 12 := by
                          have h1 := cutLoan_len LL
                          have h2 := HLLn.out
                          rw [HL1.out]
                          split <;> omega
                        have hl2 : KK1.length ≤ 20 := by
                          have h1 := cutLook_len KK
                          have h2 := HKKn.out
                          rw [hKK1]
                          split <;> omega
                        subst e1 e2
                        obtain ⟨mx, hmx⟩ : ∃ q, bothM m LL1 KK1 A1 c1 A2 c2 = q := ⟨_, rfl⟩
                        have hKX := X.out.tale (K.out.next X.out.bw) hc1 hc2 hat1 hat2 hl1 hl2
                        rw [hmx] at hKX
                        have HMT := Lib.hid (show mx.t = ordT m.t c by rw [HSAME, ← hmx]; rfl)
                        have KX := Lib.hid hKX
                        have K7 := Lib.hid (K.out.next X.out.bw)
                        have HB7 := Lib.hid (HB.out.trans (X.out.bw.mono HB.out.size))
                        have OL := Lib.hid (order_law (same_ord m.t c) (ord_ok c hln hkn) h k p)
                        clear hmx hKX HSAME hc1 hc2 hat1 hat2 hl1 hl2 X HL1 HLL0 HKK0 HKKn HLLn HML hKK1 hln hkn
                        obtain ⟨W7, hW7⟩ : ∃ W, W = wc := ⟨_, rfl⟩
                        subst hW7
                        have H1 := Lib.hid (show holderS m.t h = ((holderS m.t h).1, (holderS m.t h).2) from rfl)
                        have H2 := Lib.hid (show holderS mx.t h = ((holderS m.t h).1, (holderS m.t h).2) by rw [HMT.out, OL.out.1])
                        have H3 := Lib.hid (show winS m.t k = ⟨(winS m.t k).lo, (winS m.t k).hi, (winS m.t k).gone, (winS m.t k).e⟩ from rfl)
                        have H4 := Lib.hid (show winS mx.t k = ⟨(winS m.t k).lo, (winS m.t k).hi, (winS m.t k).gone, (winS m.t k).e⟩ by rw [HMT.out, OL.out.2.1])
                        have H5 := Lib.hid (show whoS m.t k = ((whoS m.t k).1, (whoS m.t k).2) from rfl)
                        have H6 := Lib.hid (show whoS mx.t k = ((whoS m.t k).1, (whoS m.t k).2) by rw [HMT.out, OL.out.2.2.1])
                        have H7 := Lib.hid (show lostS m.t p = (((lostS m.t p).1.1, (lostS m.t p).1.2), (lostS m.t p).2) from rfl)
                        have H8 := Lib.hid (show lostS mx.t p = (((lostS m.t p).1.1, (lostS m.t p).1.2), (lostS m.t p).2) by rw [HMT.out, OL.out.2.2.2.1])
                        have H9 := Lib.hid (show clashS m.t = ((clashS m.t).1, (clashS m.t).2) from rfl)
                        have H10 := Lib.hid (show clashS mx.t = ((clashS mx.t).1, (clashS m.t).2) by
                          have := OL.out.2.2.2.2
                          unfold codeC at this
                          rw [HMT.out]; rw [← this])
                        clear OL
                        generalize (holderS m.t h).1 = ha at *
                        generalize (holderS m.t h).2 = he at *
                        generalize (winS m.t k).lo = wlo at *
                        generalize (winS m.t k).hi = whi at *
                        generalize (winS m.t k).gone = wg at *
                        generalize (winS m.t k).e = we at *
                        generalize (whoS m.t k).1 = set at *
                        generalize (whoS m.t k).2 = se at *
                        generalize (lostS m.t p).1.1 = llo at *
                        generalize (lostS m.t p).1.2 = lhi at *
                        generalize (lostS m.t p).2 = le at *
                        generalize (clashS m.t).1 = cl at *
                        generalize (clashS m.t).2 = ce at *
                        generalize (clashS mx.t).1 = cl2 at *
                        go_upto_region 22 with fail
                        have p0 := K7.out.bx.c 0 _ rfl
                        have p1 := K7.out.bx.c 1 _ rfl
                        have p2 := K7.out.bx.c 2 _ rfl
                        have p3 := K7.out.bx.c 3 _ rfl
                        go_wp2_with fail
                        have hcon := (Holder_any m h W7 K7.out.ta)
                        rw [H1.out] at hcon
                        refine (hcon).mono ?_
                        rintro e V21 ⟨rfl, hb⟩
                        replace KX := Lib.hid (KX.out.next hb)
                        replace K7 := Lib.hid (K7.out.next hb)
                        replace HB7 := Lib.hid (HB7.out.trans (hb.mono HB7.out.size))
                        clear hb p0 p1 p2 p3 hcon
                        dsimp only [ret2]
                        go_upto_region 23 with fail
                        have p0 := KX.out.bx.c 0 _ rfl
                        have p1 := KX.out.bx.c 1 _ rfl
                        have p2 := KX.out.bx.c 2 _ rfl
                        have p3 := KX.out.bx.c 3 _ rfl
                        go_wp2_with fail
                        have hcon := (Holder_any mx h V21 KX.out.ta)
                        rw [H2.out] at hcon
                        refine (hcon).mono ?_
                        rintro e V22 ⟨rfl, hb⟩
                        replace KX := Lib.hid (KX.out.next hb)
                        replace K7 := Lib.hid (K7.out.next hb)
                        replace HB7 := Lib.hid (HB7.out.trans (hb.mono HB7.out.size))
                        clear hb p0 p1 p2 p3 hcon
                        dsimp only [ret2]
                        go_upto_region 24 with fail
                        have p0 := K7.out.bx.c 0 _ rfl
                        have p1 := K7.out.bx.c 1 _ rfl
                        have p2 := K7.out.bx.c 2 _ rfl
                        have p3 := K7.out.bx.c 3 _ rfl
                        go_wp2_with fail
                        have hcon := (Window_any m k V22 K7.out.ta)
                        rw [H3.out] at hcon
                        refine (hcon).mono ?_
                        rintro e V23 ⟨rfl, hb⟩
                        replace KX := Lib.hid (KX.out.next hb)
                        replace K7 := Lib.hid (K7.out.next hb)
                        replace HB7 := Lib.hid (HB7.out.trans (hb.mono HB7.out.size))
                        clear hb p0 p1 p2 p3 hcon
                        dsimp only [retWin]
                        have hA := nxA V23 (.cells #[.int .i64 wlo, .int .i64 whi] 33)
                        replace KX := Lib.hid (KX.out.next hA)
                        replace K7 := Lib.hid (K7.out.next hA)
                        replace HB7 := Lib.hid (HB7.out.trans (hA.mono HB7.out.size))
                        have S1 := Lib.hid (Bx.new V23 #[.int .i64 wlo, .int .i64 whi] 33)
                        clear hA
                        go_upto_region 25 with fail
                        generalize (V23.alloc (.cells #[.int .i64 wlo, .int .i64 whi] 33)) = V24 at *
                        generalize V23.heap.size = g1 at *
                        have p0 := KX.out.bx.c 0 _ rfl
                        have p1 := KX.out.bx.c 1 _ rfl
                        have p2 := KX.out.bx.c 2 _ rfl
                        have p3 := KX.out.bx.c 3 _ rfl
                        go_wp2_with fail
                        have hcon := (Window_any mx k V24 KX.out.ta)
                        rw [H4.out] at hcon
                        refine (hcon).mono ?_
                        rintro e V25 ⟨rfl, hb⟩
                        replace KX := Lib.hid (KX.out.next hb)
                        replace S1 := Lib.hid (S1.out.next hb)
                        replace K7 := Lib.hid (K7.out.next hb)
                        replace HB7 := Lib.hid (HB7.out.trans (hb.mono HB7.out.size))
                        clear hb p0 p1 p2 p3 hcon
                        dsimp only [retWin]
                        have hA := nxA V25 (.cells #[.int .i64 wlo, .int .i64 whi] 33)
                        replace KX := Lib.hid (KX.out.next hA)
                        replace S1 := Lib.hid (S1.out.next hA)
                        replace K7 := Lib.hid (K7.out.next hA)
                        replace HB7 := Lib.hid (HB7.out.trans (hA.mono HB7.out.size))
                        have S2 := Lib.hid (Bx.new V25 #[.int .i64 wlo, .int .i64 whi] 33)
                        clear hA
                        go_upto_region 26 with fail
                        generalize (V25.alloc (.cells #[.int .i64 wlo, .int .i64 whi] 33)) = V26 at *
                        generalize V25.heap.size = g2 at *
                        have p0 := K7.out.bx.c 0 _ rfl
                        have p1 := K7.out.bx.c 1 _ rfl
                        have p2 := K7.out.bx.c 2 _ rfl
                        have p3 := K7.out.bx.c 3 _ rfl
                        go_wp2_with fail
                        have hcon := (Who_any m k V26 K7.out.ta K7.out.en)
                        rw [H5.out] at hcon
                        refine (hcon).mono ?_
                        rintro e V27 ⟨rfl, hb⟩
                        replace KX := Lib.hid (KX.out.next hb)
                        replace S1 := Lib.hid (S1.out.next hb)
                        replace S2 := Lib.hid (S2.out.next hb)
                        replace K7 := Lib.hid (K7.out.next hb)
                        replace HB7 := Lib.hid (HB7.out.trans (hb.mono HB7.out.size))
                        clear hb p0 p1 p2 p3 hcon
                        dsimp only [RetWho]
                        go_upto_region 27 with fail
                        have p0 := KX.out.bx.c 0 _ rfl
                        have p1 := KX.out.bx.c 1 _ rfl
                        have p2 := KX.out.bx.c 2 _ rfl
                        have p3 := KX.out.bx.c 3 _ rfl
                        go_wp2_with fail
                        have hcon := (Who_any mx k V27 KX.out.ta K7.out.en)
                        rw [H6.out] at hcon
                        refine (hcon).mono ?_
                        rintro e V28 ⟨rfl, hb⟩
                        replace KX := Lib.hid (KX.out.next hb)
                        replace S1 := Lib.hid (S1.out.next hb)
                        replace S2 := Lib.hid (S2.out.next hb)
                        replace K7 := Lib.hid (K7.out.next hb)
                        replace HB7 := Lib.hid (HB7.out.trans (hb.mono HB7.out.size))
                        clear hb p0 p1 p2 p3 hcon
                        dsimp only [RetWho]
                        go_upto_region 28 with fail
                        have p0 := K7.out.bx.c 0 _ rfl
                        have p1 := K7.out.bx.c 1 _ rfl
                        have p2 := K7.out.bx.c 2 _ rfl
                        have p3 := K7.out.bx.c 3 _ rfl
                        go_wp2_with fail
                        have hcon := (Lost_any m p V28 K7.out.ta)
                        rw [H7.out] at hcon
                        refine (hcon).mono ?_
                        rintro e V29 ⟨rfl, hb⟩
                        replace KX := Lib.hid (KX.out.next hb)
                        replace S1 := Lib.hid (S1.out.next hb)
                        replace S2 := Lib.hid (S2.out.next hb)
                        replace K7 := Lib.hid (K7.out.next hb)
                        replace HB7 := Lib.hid (HB7.out.trans (hb.mono HB7.out.size))
                        clear hb p0 p1 p2 p3 hcon
                        dsimp only [retLost]
                        have hA := nxA V29 (.cells #[.int .i64 llo, .int .i64 lhi] 33)
                        replace KX := Lib.hid (KX.out.next hA)
                        replace S1 := Lib.hid (S1.out.next hA)
                        replace S2 := Lib.hid (S2.out.next hA)
                        replace K7 := Lib.hid (K7.out.next hA)
                        replace HB7 := Lib.hid (HB7.out.trans (hA.mono HB7.out.size))
                        have S3 := Lib.hid (Bx.new V29 #[.int .i64 llo, .int .i64 lhi] 33)
                        clear hA
                        go_upto_region 29 with fail
                        generalize (V29.alloc (.cells #[.int .i64 llo, .int .i64 lhi] 33)) = V30 at *
                        generalize V29.heap.size = g3 at *
                        have p0 := KX.out.bx.c 0 _ rfl
                        have p1 := KX.out.bx.c 1 _ rfl
                        have p2 := KX.out.bx.c 2 _ rfl
                        have p3 := KX.out.bx.c 3 _ rfl
                        go_wp2_with fail
                        have hcon := (Lost_any mx p V30 KX.out.ta)
                        rw [H8.out] at hcon
                        refine (hcon).mono ?_
                        rintro e V31 ⟨rfl, hb⟩
                        replace KX := Lib.hid (KX.out.next hb)
                        replace S1 := Lib.hid (S1.out.next hb)
                        replace S2 := Lib.hid (S2.out.next hb)
                        replace S3 := Lib.hid (S3.out.next hb)
                        replace K7 := Lib.hid (K7.out.next hb)
                        replace HB7 := Lib.hid (HB7.out.trans (hb.mono HB7.out.size))
                        clear hb p0 p1 p2 p3 hcon
                        dsimp only [retLost]
                        have hA := nxA V31 (.cells #[.int .i64 llo, .int .i64 lhi] 33)
                        replace KX := Lib.hid (KX.out.next hA)
                        replace S1 := Lib.hid (S1.out.next hA)
                        replace S2 := Lib.hid (S2.out.next hA)
                        replace S3 := Lib.hid (S3.out.next hA)
                        replace K7 := Lib.hid (K7.out.next hA)
                        replace HB7 := Lib.hid (HB7.out.trans (hA.mono HB7.out.size))
                        have S4 := Lib.hid (Bx.new V31 #[.int .i64 llo, .int .i64 lhi] 33)
                        clear hA
                        go_upto_region 30 with fail
                        generalize (V31.alloc (.cells #[.int .i64 llo, .int .i64 lhi] 33)) = V32 at *
                        generalize V31.heap.size = g4 at *
                        have p0 := K7.out.bx.c 0 _ rfl
                        have p1 := K7.out.bx.c 1 _ rfl
                        have p2 := K7.out.bx.c 2 _ rfl
                        have p3 := K7.out.bx.c 3 _ rfl
                        go_wp2_with fail
                        have hcon := (Clash_any m V32 K7.out.ta)
                        rw [H9.out] at hcon
                        refine (hcon).mono ?_
                        rintro e V33 ⟨rfl, hb⟩
                        replace KX := Lib.hid (KX.out.next hb)
                        replace S1 := Lib.hid (S1.out.next hb)
                        replace S2 := Lib.hid (S2.out.next hb)
                        replace S3 := Lib.hid (S3.out.next hb)
                        replace S4 := Lib.hid (S4.out.next hb)
                        replace K7 := Lib.hid (K7.out.next hb)
                        replace HB7 := Lib.hid (HB7.out.trans (hb.mono HB7.out.size))
                        clear hb p0 p1 p2 p3 hcon
                        dsimp only [retCl]
                        go_upto_region 31 with fail
                        have p0 := KX.out.bx.c 0 _ rfl
                        have p1 := KX.out.bx.c 1 _ rfl
                        have p2 := KX.out.bx.c 2 _ rfl
                        have p3 := KX.out.bx.c 3 _ rfl
                        go_wp2_with fail
                        have hcon := (Clash_any mx V33 KX.out.ta)
                        rw [H10.out] at hcon
                        refine (hcon).mono ?_
                        rintro e V34 ⟨rfl, hb⟩
                        replace KX := Lib.hid (KX.out.next hb)
                        replace S1 := Lib.hid (S1.out.next hb)
                        replace S2 := Lib.hid (S2.out.next hb)
                        replace S3 := Lib.hid (S3.out.next hb)
                        replace S4 := Lib.hid (S4.out.next hb)
                        replace K7 := Lib.hid (K7.out.next hb)
                        replace HB7 := Lib.hid (HB7.out.trans (hb.mono HB7.out.size))
                        clear hb p0 p1 p2 p3 hcon
                        dsimp only [retCl]
                        go_upto_region 32 with fail
                        have s10 := S1.out.c 0 _ rfl
                        have s11 := S1.out.c 1 _ rfl
                        have s20 := S2.out.c 0 _ rfl
                        have s21 := S2.out.c 1 _ rfl
                        have s30 := S3.out.c 0 _ rfl
                        have s31 := S3.out.c 1 _ rfl
                        have s40 := S4.out.c 0 _ rfl
                        have s41 := S4.out.c 1 _ rfl
                        have hq1 := fun W => span_eql wlo whi wlo whi W
                        have hq2 := fun W => span_eql llo lhi llo lhi W
                        have hq3 := span_eq3
                        simp only [beq_self_eq_true, Bool.and_self] at hq1 hq2
                        cases wg
                        all_goals (
                          go_wp2_with fail
                          refine (awake_any _ K7.out.en).mono ?_
                          rintro e V99 ⟨rfl, hb⟩
                          go_wp2_with fail
                          go_ret
                          exact ⟨rfl, HB7.out.trans (hb.mono HB7.out.size)⟩)
end Go.Proofs.YtkcfpnpejaekjaaDoor
