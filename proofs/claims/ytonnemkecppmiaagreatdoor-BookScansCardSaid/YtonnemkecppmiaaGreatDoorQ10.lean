import Derived.Test.YtonnemkecppmiaaGreatDoorQ9
import Derived.Test.YtonnemkecppmiaaGreatDoorQ4
namespace Go.Proofs.YtonnemkecppmiaaGreatDoor
open Go.RowKit
/-! The program: what ReadScans reads. -/
def RetPs (o : Option (List Pc)) (w : World) (e : Ending) (w' : World) : Prop := match o with
  | none => Miss w e w'
  | some l => ∃ v, e = .returned v ∧ w'.ownsRow w.heap.size 51 28 v l.length (l.flatMap Pc.cells) ∧ Below w.heap.size w w'
def RL1 (s : Tx) (N : Nat) (w0 : World) (br : Nat) (v i : Value) (W : World) : Prop := ∃ (j : Nat) (l : List Pc) (r : Tx), i = .int .i64 j ∧ j ≤ N ∧ l.length = j ∧ SI w0 br r v l W ∧ parseS s = restP (N - j) l r
def RL2 (s : Tx) (n : Nat) (w0 : World) (br bp : Nat) (v : Value) (l : List Pc) (i : Value) (W : World) : Prop := ∃ (k : Nat) (p : Pc) (r : Tx), i = .int .i64 k ∧ k ≤ 4 ∧ SI w0 br r v l W ∧ Bx W bp p.cells ∧ (∀ j, k ≤ j → j < 4 → pe p j = ed0) ∧ parseS s = restE n k l p r
def RL3 (s : Tx) (n : Nat) (w0 : World) (br bp bq k : Nat) (v : Value) (l : List Pc) (p : Pc) (i : Value) (W : World) : Prop := ∃ (m : Nat) (e : Ed) (r : Tx), i = .int .i64 m ∧ m ≤ 3 ∧ SI w0 br r v l W ∧ Bx W bp (setE p k e).cells ∧ Bx W bq [.pointer (some ⟨bp, k * 7 + 1, none⟩), .pointer (some ⟨bp, k * 7 + 3, none⟩), .pointer (some ⟨bp, k * 7 + 5, none⟩)] ∧ (∀ j, m ≤ j → j < 3 → spI e j = sp0) ∧ parseS s = restS n k m l p e r
set_option maxRecDepth 100000 in
set_option maxHeartbeats 8000000 in
theorem ReadScans1_any (s : Tx) (w : World) : Calls Tryz.prog 54 #[tx s] w (RetPs (parseS s) w) := by
  obtain ⟨i0, hi, hz0, hz1, hz2⟩ := info_parts pc_info
  obtain ⟨R, hR⟩ : ∃ R, RetPs (parseS s) w = R := ⟨_, rfl⟩
  rw [hR]
  have HRR := Lib.hid hR
  clear hR
  have hmf : ∀ (fn : Fn) (first cap : Array Value) (w : World), (Instr.makeFunc fn first cap).run Tryz.prog w = .ok (.func fn first cap) w := fun _ _ _ _ => rfl
  have HX0 := Lib.hid (Bx.new w #[tx s] 92)
  have HB0 := Lib.hid (nxA w (.cells #[tx s] 92))
  -- where the form is missed
  have HPN := Lib.hid (show parseS s = none → ∀ (W : World), Below w.heap.size w W → R (.panicked [{ v := .iface 129 (.agg #[]), recovered := false }]) W from fun h W hb => by rw [← HRR.out, h]; exact ⟨rfl, hb⟩)
  go_enter Tryz.func54, Tryz.ntmps54
  go_upto_region 2 with fail
  generalize (w.alloc (.cells #[tx s] 92)) = V at *
  obtain ⟨br, hbr⟩ : ∃ br, br = w.heap.size := ⟨_, rfl⟩
  rw [← hbr] at HX0 ⊢
  have HWB := Lib.hid (show w.heap.size ≤ br by rw [hbr]; omega)
  clear hbr
  have HN := Lib.hid (fun (r : Tx) (W : World) (h : Bx W br [tx r]) => next_any r br W h)
  have HPS := Lib.hid (show parseS s = match next3 s with | none => none | some (n, r) => if n ≤ 12 then pcsN n r else none from rfl)
  go_wp2_with fail
  refine (HN.out s V HX0.out).mono ?_
  intro e W hnx
  cases hn : next3 s with
  | none =>
    rw [hn] at hnx HPS
    obtain ⟨rfl, hg⟩ := hnx
    exact ⟨rfl, HPN.out HPS.out _ ((SI.mk HX0.out (World.ownsRow_nil _ _ _ _) HB0.out : SI w br s _ [] V).pan HWB.out hg)⟩
  | some y =>
    obtain ⟨N, r⟩ := y
    rw [hn] at hnx HPS
    have hN2 := next3_lt hn
    obtain ⟨rfl, hbx, hg⟩ := hnx
    have HSI := Lib.hid ((SI.mk HX0.out (World.ownsRow_nil _ _ _ _) HB0.out : SI w br s _ [] V).turn HWB.out hbx hg)
    clear hn hbx hg
    by_cases hN : N ≤ 12
    · have HP1 := Lib.hid (show parseS s = pcsN N r by rw [HPS.out]; exact if_pos hN)
      have hNi : (N : Int) ≤ 12 := by omega
      go_wp2_with fail
      refine (need_true W).mono ?_
      rintro e W' ⟨rfl, rfl⟩
      go_wp2_with fail
      go_loopw [2, 22] (fun v i wr => RL1 s N w br v i wr) (fun _ i _ => N - (intOf i).toNat)
      case atStart => exact ⟨0, [], r, rfl, Nat.zero_le _, rfl, HSI.out, by rw [HP1.out]; unfold restP; simp⟩
      case round =>
        obtain ⟨j, l, r1, rfl, hj, hlj, hsi, hps⟩ := hrel
        have HSI1 := Lib.hid hsi
        have HP2 := Lib.hid hps
        have hwj : IntKind.i64.wrap ((j : Int) + 1) = (j : Int) + 1 := IntWalk.i64_in _ (by omega)
        clear hsi hps
        by_cases hlt : j < N
        · have HZ := Lib.hid (show Bx (wr.alloc (.cells #[.int .i64 0, .int .i64 0, .int .i64 0, .int .i64 0, .int .i64 0, .int .i64 0, .int .i64 0, .int .i64 0, .int .i64 0, .int .i64 0, .int .i64 0, .int .i64 0, .int .i64 0, .int .i64 0, .int .i64 0, .int .i64 0, .int .i64 0, .int .i64 0, .int .i64 0, .int .i64 0, .int .i64 0, .int .i64 0, .int .i64 0, .int .i64 0, .int .i64 0, .int .i64 0, .int .i64 0, .int .i64 0] 51)) wr.heap.size pc0.cells from Bx.new wr #[.int .i64 0, .int .i64 0, .int .i64 0, .int .i64 0, .int .i64 0, .int .i64 0, .int .i64 0, .int .i64 0, .int .i64 0, .int .i64 0, .int .i64 0, .int .i64 0, .int .i64 0, .int .i64 0, .int .i64 0, .int .i64 0, .int .i64 0, .int .i64 0, .int .i64 0, .int .i64 0, .int .i64 0, .int .i64 0, .int .i64 0, .int .i64 0, .int .i64 0, .int .i64 0, .int .i64 0, .int .i64 0] 51)
          have HNA := nxA wr (.cells #[.int .i64 0, .int .i64 0, .int .i64 0, .int .i64 0, .int .i64 0, .int .i64 0, .int .i64 0, .int .i64 0, .int .i64 0, .int .i64 0, .int .i64 0, .int .i64 0, .int .i64 0, .int .i64 0, .int .i64 0, .int .i64 0, .int .i64 0, .int .i64 0, .int .i64 0, .int .i64 0, .int .i64 0, .int .i64 0, .int .i64 0, .int .i64 0, .int .i64 0, .int .i64 0, .int .i64 0, .int .i64 0] 51)
          have HSI2 := Lib.hid (HSI1.out.next HNA)
          have HP3 := Lib.hid (show parseS s = restE (N - (j + 1)) 0 l pc0 r1 by rw [HP2.out, show N - j = (N - (j + 1)) + 1 by omega, restP_succ])
          go_upto_region 8 with fail
          generalize hV2 : (wr.alloc (.cells #[.int .i64 0, .int .i64 0, .int .i64 0, .int .i64 0, .int .i64 0, .int .i64 0, .int .i64 0, .int .i64 0, .int .i64 0, .int .i64 0, .int .i64 0, .int .i64 0, .int .i64 0, .int .i64 0, .int .i64 0, .int .i64 0, .int .i64 0, .int .i64 0, .int .i64 0, .int .i64 0, .int .i64 0, .int .i64 0, .int .i64 0, .int .i64 0, .int .i64 0, .int .i64 0, .int .i64 0, .int .i64 0] 51)) = V2 at *
          obtain ⟨bp, hbp⟩ : ∃ bp, bp = wr.heap.size := ⟨_, rfl⟩
          rw [← hbp] at HZ ⊢
          have HBP := Lib.hid (show br < bp by rw [hbp]; exact HSI1.out.rd.lt)
          have HWP := Lib.hid (show w.heap.size ≤ bp by rw [hbp]; exact HSI1.out.b.size)
          have HOP := Lib.hid (show Value.ownBlock _ ≠ some bp from fun e => by have := (HSI1.out.own.lt bp e).2; omega)
          have hne1 : br ≠ bp := by have := HBP.out; omega
          have HN2 := Lib.hid (show N - (j + 1) < N - j by omega)
          obtain ⟨n, hnn⟩ : ∃ n, N - (j + 1) = n := ⟨_, rfl⟩
          rw [hnn] at HP3
          have HNN := Lib.hid hnn
          clear hV2 hbp HNA HSI1 HP2 hnn
          go_wp2_with fail
          go_loopw [24] (fun kv wx => RL2 s n w br bp _ l kv wx) (fun kv _ => 4 - (intOf kv).toNat)
          case atStart => exact ⟨0, pc0, r1, rfl, by omega, HSI2.out, HZ.out, fun j hj hj4 => by (rcases (show j = 0 ∨ j = 1 ∨ j = 2 ∨ j = 3 by omega) with rfl | rfl | rfl | rfl) <;> rfl, HP3.out⟩
          case round =>
            obtain ⟨k, p, r2, rfl, hk, hsi, hbx, hpz, hps⟩ := hrel
            have HSI3 := Lib.hid hsi
            have HX3 := Lib.hid hbx
            have HPZ := Lib.hid hpz
            have HP4 := Lib.hid hps
            have hwk : IntKind.i64.wrap ((k : Int) + 1) = (k : Int) + 1 := IntWalk.i64_in _ (by omega)
            clear hsi hbx hpz hps
            by_cases hk4 : k < 4
            · have HEZ := Lib.hid (show pe p k = ed0 from HPZ.out k (Nat.le_refl _) hk4)
              have hcl : (k * 7) < p.cells.length := by rw [pc_len]; omega
              obtain ⟨z0, hz0'⟩ : ∃ z, p.cells[k * 7]? = some z := ⟨_, List.getElem?_eq_getElem hcl⟩
              have x0 := HX3.out.c _ _ hz0'
              have y0 := HX3.out.fr (k * 7)
              have HNX := Lib.hid (HN.out r2 wr HSI3.out.rd)
              clear hz0'
              go_wp2_with fail
              refine HNX.out.mono ?_
              intro e W2 hnx
              cases hn : next3 r2 with
              | none =>
                rw [hn] at hnx
                obtain ⟨rfl, hg⟩ := hnx
                exact ⟨rfl, HPN.out (by rw [HP4.out]; exact restE_none hk4 hn) _ (HSI3.out.pan HWB.out hg)⟩
              | some y =>
                obtain ⟨K, r3⟩ := y
                rw [hn] at hnx
                have hK2 := next3_lt hn
                have HNE := Lib.hid hn
                obtain ⟨rfl, hbx, hg⟩ := hnx
                have HSI4 := Lib.hid (HSI3.out.turn HWB.out hbx hg)
                have HX4 := Lib.hid (HX3.out.grown hg (fun e => hne1 (by injection e)))
                clear hbx hg hn x0 y0
                obtain ⟨z0, hz0'⟩ : ∃ z, p.cells[k * 7]? = some z := ⟨_, List.getElem?_eq_getElem hcl⟩
                have x0 := HX4.out.c _ _ hz0'
                have y0 := HX4.out.fr (k * 7)
                have HSI5 := Lib.hid (HSI4.out.set HOP.out hne1 HWP.out (k * 7) (.int .i64 (K : Int)))
                have HX5 := Lib.hid (show Bx (W2.setCell ⟨bp, k * 7, none⟩ (.int .i64 (K : Int))) bp (setE p k ⟨(K : Int), sp0, sp0, sp0⟩).cells by
                  have := HX4.out.set hcl (.int .i64 (K : Int))
                  rw [cells_kind p k hk4, HEZ.out] at this
                  exact this)
                clear hz0' hcl
                go_upto_region 13 with fail
                generalize W2.setCell ⟨bp, k * 7, none⟩ (.int .i64 (K : Int)) = W3 at *
                have HPO := Lib.hid (show ∀ e j, k + 1 ≤ j → j < 4 → pe (setE p k e) j = ed0 from fun e j h1 h2 => by rw [pe_other p k j (by omega) h2]; exact HPZ.out j (by omega) h2)
                have x0 := HX5.out.c _ _ (cells_kind_get p k hk4 ⟨(K : Int), sp0, sp0, sp0⟩)
                dsimp only at x0
                clear HSI3 HX3 HSI4 HX4 y0
                by_cases hK0 : K = 0
                · subst hK0
                  have HP5 := Lib.hid (show parseS s = restE n (k + 1) l (setE p k ed0) r3 by rw [HP4.out]; exact restE_flat hk4 HNE.out)
                  have HX6 := Lib.hid (show Bx W3 bp (setE p k ed0).cells from HX5.out)
                  go_wp2_with fail
                  exact ⟨⟨k + 1, setE p k ed0, r3, by go_num, by omega, HSI5.out, HX6.out, HPO.out _, HP5.out⟩, by simp [intOf]; omega⟩
                · have HP5 := Lib.hid (show parseS s = restS n k 0 l p ⟨(K : Int), sp0, sp0, sp0⟩ r3 by rw [HP4.out]; exact restE_bowed hk4 HNE.out hK0)
                  have hk0 : ((K : Int) == 0) = false := by simp; omega
                  go_upto_region 14 with fail
                  have HQA := Lib.hid (Bx.new W3 #[.pointer (some ⟨bp, k * 7 + 1, none⟩), .pointer (some ⟨bp, k * 7 + 3, none⟩), .pointer (some ⟨bp, k * 7 + 5, none⟩)] 95)
                  have HNA := nxA W3 (.cells #[.pointer (some ⟨bp, k * 7 + 1, none⟩), .pointer (some ⟨bp, k * 7 + 3, none⟩), .pointer (some ⟨bp, k * 7 + 5, none⟩)] 95)
                  have HSI6 := Lib.hid ((HSI5.out.next HNA).next (Below.refl _ _).drew)
                  have HX6 := Lib.hid ((HX5.out.next HNA).drew)
                  replace HQA := Lib.hid (HQA.out.drew)
                  clear x0
                  go_region
                  generalize hV4 : (W3.alloc (.cells #[.pointer (some ⟨bp, k * 7 + 1, none⟩), .pointer (some ⟨bp, k * 7 + 3, none⟩), .pointer (some ⟨bp, k * 7 + 5, none⟩)] 95)).drew = V4 at *
                  obtain ⟨bq, hbq⟩ : ∃ bq, bq = W3.heap.size := ⟨_, rfl⟩
                  rw [← hbq] at HQA ⊢
                  have hne2 : bq ≠ bp := by have := HX5.out.lt; omega
                  have hne3 : bq ≠ br := by have := HSI5.out.rd.lt; omega
                  clear hV4 hbq HNA HSI5 HX5 hk0
                  go_wp2_with fail
                  go_loopw [51] (fun mv wx => RL3 s n w br bp bq k _ l p mv wx) (fun mv _ => 3 - (intOf mv).toNat)
                  case atStart => exact ⟨0, _, r3, rfl, by omega, HSI6.out, HX6.out, HQA.out, fun j _ h => by (rcases (show j = 0 ∨ j = 1 ∨ j = 2 by omega) with rfl | rfl | rfl) <;> rfl, HP5.out⟩
                  case round =>
                    obtain ⟨m, e, r4, rfl, hm, hsi, hbx, hbq, hez, hps⟩ := hrel
                    have HSI7 := Lib.hid hsi
                    have HX7 := Lib.hid hbx
                    have HQ7 := Lib.hid hbq
                    have HEZ7 := Lib.hid hez
                    have HP7 := Lib.hid hps
                    have hwm : IntKind.i64.wrap ((m : Int) + 1) = (m : Int) + 1 := IntWalk.i64_in _ (by omega)
                    clear hsi hbx hbq hez hps
                    by_cases hm3 : m < 3
                    · have q0 := HQ7.out.c m _ (ptr_get bp k m hm3)
                      have HE0 := Lib.hid (show spI e m = sp0 from HEZ7.out m (Nat.le_refl _) hm3)
                      have x0 := HX7.out.c _ _ (cells_zero_get p k m hk4 hm3 e HE0.out)
                      have y0 := HX7.out.fr (k * 7 + (1 + 2 * m))
                      have HNX := Lib.hid (HN.out r4 wr HSI7.out.rd)
                      go_wp2_with fail
                      refine HNX.out.mono ?_
                      intro e9 W8 hnx
                      cases hn : next3 r4 with
                      | none =>
                        rw [hn] at hnx
                        obtain ⟨rfl, hg⟩ := hnx
                        exact ⟨rfl, HPN.out (by rw [HP7.out]; exact restS_none1 hm3 hn) _ (HSI7.out.pan HWB.out hg)⟩
                      | some y =>
                        obtain ⟨A, r5⟩ := y
                        rw [hn] at hnx
                        have hA2 := next3_lt hn
                        have HNE1 := Lib.hid hn
                        obtain ⟨rfl, hbx, hg⟩ := hnx
                        have HSI8 := Lib.hid (HSI7.out.turn HWB.out hbx hg)
                        have HX8 := Lib.hid (HX7.out.grown hg (fun e => hne1 (by injection e)))
                        have HQ8 := Lib.hid (HQ7.out.grown hg (fun e => hne3 (by injection e with e; exact e.symm)))
                        clear hbx hg hn x0 y0 q0 HNX HSI7 HX7 HQ7
                        have x0 := HX8.out.c _ _ (cells_zero_get p k m hk4 hm3 e HE0.out)
                        have y0 := HX8.out.fr (k * 7 + (1 + 2 * m))
                        have hcl : k * 7 + (1 + 2 * m) < (setE p k e).cells.length := by rw [pc_len]; omega
                        have HSI9 := Lib.hid (HSI8.out.set HOP.out hne1 HWP.out (k * 7 + (1 + 2 * m)) (.int .i64 (A : Int)))
                        have HX9 := Lib.hid (show Bx (W8.setCell ⟨bp, k * 7 + (1 + 2 * m), none⟩ (.int .i64 (A : Int))) bp (setE p k (setS e m ⟨(A : Int), 0⟩)).cells by
                          have := HX8.out.set hcl (.int .i64 (A : Int))
                          rw [cells_lo p k m hk4 hm3 e _ HE0.out] at this
                          exact this)
                        have HQ9 := Lib.hid (HQ8.out.other hne2 (k * 7 + (1 + 2 * m)) (.int .i64 (A : Int)))
                        clear HSI8 HX8 HQ8 hcl
                        go_upto_region 18 with fail
                        generalize W8.setCell ⟨bp, k * 7 + (1 + 2 * m), none⟩ (.int .i64 (A : Int)) = W9 at *
                        clear x0 y0
                        replace HSI9 := Lib.hid (HSI9.out.next (Below.refl _ _).drew)
                        replace HX9 := Lib.hid (HX9.out.drew)
                        replace HQ9 := Lib.hid (HQ9.out.drew)
                        have HOF := Lib.hid (show k * 7 + (1 + 2 * m) + 1 = k * 7 + (2 + 2 * m) by omega)
                        cases hn2 : next3 r5 with
                        | none =>
                          have HNZ := Lib.hid (show parseS s = none by rw [HP7.out]; exact restS_none2 hm3 HNE1.out hn2)
                          refine wp_region_pan (fun ch W => ch = [{ v := .iface 129 (.agg #[]), recovered := false }] ∧ Below w.heap.size w W) (fun ch a' w' hd h => by obtain ⟨rfl, h3⟩ := h; exact ⟨hd, HPN.out HNZ.out w' h3⟩) ?_
                          refine wp_region_held_drew (S := (fun W => W.cell? ⟨bp, k * 7 + (1 + 2 * m), none⟩ = some (.int .i64 (A : Int)))) (by kernel_rfl) ?_ (fun hHeld => ?_)
                          · (try dsimp only); exact HX9.out.c _ _ (cells_lo_get p k m hk4 hm3 e _ _)
                          refine htake (i := 0) (v := ?v1) rfl (by kernel_rfl) (by kernel_rfl) (by kernel_rfl) (fun _ _ _ h => pan_put h) (Or.inl ⟨by rfl, ?hy1⟩) (by assumption) ?_
                          case hy1 => (intro w hSw; (try dsimp only at hSw); go_simp; try (with_reducible rfl))
                          try simp only [Act.put, List.setIfInBounds_toArray, List.set_cons_zero, List.set_cons_succ]
                          refine htake (i := 1) (v := ?v2) rfl (by kernel_rfl) (by kernel_rfl) (by kernel_rfl) (fun _ _ _ h => pan_put h) (Or.inl ⟨by rfl, ?hy2⟩) (by assumption) ?_
                          case hy2 => (intro w hSw; (try dsimp only at hSw); go_simp; try (with_reducible rfl))
                          try simp only [Act.put, List.setIfInBounds_toArray, List.set_cons_zero, List.set_cons_succ]
                          refine htake (i := 2) (v := ?v3) rfl (by kernel_rfl) (by kernel_rfl) (by kernel_rfl) (fun _ _ _ h => pan_put h) (Or.inl ⟨by rfl, ?hy3⟩) (by assumption) ?_
                          case hy3 => (intro w hSw; (try dsimp only at hSw); go_simp; try (with_reducible rfl))
                          try simp only [Act.put, List.setIfInBounds_toArray, List.set_cons_zero, List.set_cons_succ]
                          refine htake (i := 3) (v := ?v4) rfl (by kernel_rfl) (by kernel_rfl) (by kernel_rfl) (fun _ _ _ h => pan_put h) (Or.inl ⟨by rfl, ?hy4⟩) (by assumption) ?_
                          case hy4 => (intro w hSw; (try dsimp only at hSw); go_simp; try (with_reducible rfl))
                          try simp only [Act.put, List.setIfInBounds_toArray, List.set_cons_zero, List.set_cons_succ]
                          refine htake (i := 4) (v := ?v5) rfl (by kernel_rfl) (by kernel_rfl) (by kernel_rfl) (fun _ _ _ h => pan_put h) (Or.inl ⟨by rfl, ?hy5⟩) (by assumption) ?_
                          case hy5 => (intro w hSw; (try dsimp only at hSw); go_simp; try (with_reducible rfl))
                          try simp only [Act.put, List.setIfInBounds_toArray, List.set_cons_zero, List.set_cons_succ]
                          refine htake (i := 5) (v := ?v6) rfl (by kernel_rfl) (by kernel_rfl) (by kernel_rfl) (fun _ _ _ h => pan_put h) (Or.inl ⟨by rfl, ?hy6⟩) (by assumption) ?_
                          case hy6 => (intro w hSw; (try dsimp only at hSw); go_simp; try (with_reducible rfl))
                          try simp only [Act.put, List.setIfInBounds_toArray, List.set_cons_zero, List.set_cons_succ]
                          refine wpAnyH_ready (rs := [6]) (by kernel_rfl) (by simp) ?_
                          refine hcons rfl (fun K hK => ?_) (AllReadyH.nil)
                          go_simp
                          refine (HN.out r5 _ HSI9.out.rd).mono ?_; intro e10 W10 hnx; rw [hn2] at hnx; obtain ⟨rfl, hg⟩ := hnx; exact ⟨rfl, rfl, HSI9.out.pan HWB.out hg⟩
                        | some y =>
                          obtain ⟨B, r6⟩ := y
                          have hB2 := next3_lt hn2
                          have HP8 := Lib.hid (show parseS s = restS n k (m + 1) l p (setS e m ⟨(A : Int), (A : Int) + B⟩) r6 by rw [HP7.out]; exact restS_next hm3 HNE1.out hn2)
                          have hwab : IntKind.i64.wrap ((A : Int) + (B : Int)) = (A : Int) + (B : Int) := IntWalk.i64_in _ (by omega)
                          have hcl2 : k * 7 + (2 + 2 * m) < (setE p k (setS e m ⟨(A : Int), 0⟩)).cells.length := by rw [pc_len]; omega
                          refine wp_region_pan (fun ch W => ch = [{ v := .iface 129 (.agg #[]), recovered := false }] ∧ parseS s = none ∧ Below w.heap.size w W) (fun ch a' w' hd h => by obtain ⟨rfl, h3⟩ := h; exact ⟨hd, HPN.out h3.1 w' h3.2⟩) ?_
                          refine wp_region_held_drew (S := (fun W => W.cell? ⟨bp, k * 7 + (1 + 2 * m), none⟩ = some (.int .i64 (A : Int)))) (by kernel_rfl) ?_ (fun hHeld => ?_)
                          · (try dsimp only); exact HX9.out.c _ _ (cells_lo_get p k m hk4 hm3 e _ _)
                          refine htake (i := 0) (v := ?v7) rfl (by kernel_rfl) (by kernel_rfl) (by kernel_rfl) (fun _ _ _ h => pan_put h) (Or.inl ⟨by rfl, ?hy7⟩) (by assumption) ?_
                          case hy7 => (intro w hSw; (try dsimp only at hSw); go_simp; try (with_reducible rfl))
                          try simp only [Act.put, List.setIfInBounds_toArray, List.set_cons_zero, List.set_cons_succ]
                          refine htake (i := 1) (v := ?v8) rfl (by kernel_rfl) (by kernel_rfl) (by kernel_rfl) (fun _ _ _ h => pan_put h) (Or.inl ⟨by rfl, ?hy8⟩) (by assumption) ?_
                          case hy8 => (intro w hSw; (try dsimp only at hSw); go_simp; try (with_reducible rfl))
                          try simp only [Act.put, List.setIfInBounds_toArray, List.set_cons_zero, List.set_cons_succ]
                          refine htake (i := 2) (v := ?v9) rfl (by kernel_rfl) (by kernel_rfl) (by kernel_rfl) (fun _ _ _ h => pan_put h) (Or.inl ⟨by rfl, ?hy9⟩) (by assumption) ?_
                          case hy9 => (intro w hSw; (try dsimp only at hSw); go_simp; try (with_reducible rfl))
                          try simp only [Act.put, List.setIfInBounds_toArray, List.set_cons_zero, List.set_cons_succ]
                          refine htake (i := 3) (v := ?v10) rfl (by kernel_rfl) (by kernel_rfl) (by kernel_rfl) (fun _ _ _ h => pan_put h) (Or.inl ⟨by rfl, ?hy10⟩) (by assumption) ?_
                          case hy10 => (intro w hSw; (try dsimp only at hSw); go_simp; try (with_reducible rfl))
                          try simp only [Act.put, List.setIfInBounds_toArray, List.set_cons_zero, List.set_cons_succ]
                          refine htake (i := 4) (v := ?v11) rfl (by kernel_rfl) (by kernel_rfl) (by kernel_rfl) (fun _ _ _ h => pan_put h) (Or.inl ⟨by rfl, ?hy11⟩) (by assumption) ?_
                          case hy11 => (intro w hSw; (try dsimp only at hSw); go_simp; try (with_reducible rfl))
                          try simp only [Act.put, List.setIfInBounds_toArray, List.set_cons_zero, List.set_cons_succ]
                          refine htake (i := 5) (v := ?v12) rfl (by kernel_rfl) (by kernel_rfl) (by kernel_rfl) (fun _ _ _ h => pan_put h) (Or.inl ⟨by rfl, ?hy12⟩) (by assumption) ?_
                          case hy12 => (intro w hSw; (try dsimp only at hSw); go_simp; try (with_reducible rfl))
                          try simp only [Act.put, List.setIfInBounds_toArray, List.set_cons_zero, List.set_cons_succ]
                          refine wpAnyH_ready (rs := [6]) (by kernel_rfl) (by simp) ?_
                          refine hcons rfl (fun K hK => ?_) (AllReadyH.nil)
                          go_simp
                          refine (HN.out r5 _ HSI9.out.rd).mono ?_; intro e10 W10 hnx; rw [hn2] at hnx; obtain ⟨rfl, hbx, hg⟩ := hnx; replace HSI9 := Lib.hid (HSI9.out.turn HWB.out hbx hg); replace HX9 := Lib.hid (HX9.out.grown hg (fun e => hne1 (by injection e))); replace HQ9 := Lib.hid (HQ9.out.grown hg (fun e => hne3 (by injection e with e; exact e.symm))); clear hbx hg
                          refine hK.out _ _ ?_ (fun hHeld => ?_)
                          · (try dsimp only); exact HX9.out.c _ _ (cells_lo_get p k m hk4 hm3 e _ _)
                          clear hK K
                          try simp only [Act.put, List.setIfInBounds_toArray, List.set_cons_zero, List.set_cons_succ]
                          refine htake (i := 7) (v := ?v13) rfl (by kernel_rfl) (by kernel_rfl) (by kernel_rfl) (fun _ _ _ h => pan_put h) (Or.inl ⟨by rfl, ?hy13⟩) (by assumption) ?_
                          case hy13 => (intro w hSw; (try dsimp only at hSw); go_simp; try (with_reducible rfl))
                          try simp only [Act.put, List.setIfInBounds_toArray, List.set_cons_zero, List.set_cons_succ]
                          refine htake (i := 8) (v := ?v14) rfl (by kernel_rfl) (by kernel_rfl) (by kernel_rfl) (fun _ _ _ h => pan_put h) (Or.inl ⟨by rfl, ?hy14⟩) (by assumption) ?_
                          case hy14 => (intro w hSw; (try dsimp only at hSw); go_simp; try (with_reducible rfl))
                          try simp only [Act.put, List.setIfInBounds_toArray, List.set_cons_zero, List.set_cons_succ]
                          refine htake (i := 9) (v := ?v15) rfl (by kernel_rfl) (by kernel_rfl) (by kernel_rfl) (fun _ _ _ h => pan_put h) (Or.inl ⟨by rfl, ?hy15⟩) (by assumption) ?_
                          case hy15 => (intro w hSw; (try dsimp only at hSw); go_simp; try (with_reducible rfl))
                          try simp only [Act.put, List.setIfInBounds_toArray, List.set_cons_zero, List.set_cons_succ]
                          refine wpAnyH_ready (rs := [10]) (by kernel_rfl) (by simp) ?_
                          refine hcons rfl (fun K hK => ?_) (AllReadyH.nil)
                          have z1 : W10.cell? ⟨bp, k * 7 + (1 + 2 * m) + 1, none⟩ = some (.int .i64 0) := (by rw [HOF.out]; exact HX9.out.c _ _ (cells_hi_get p k m hk4 hm3 e _ _)); have y1 := HX9.out.fr (k * 7 + (1 + 2 * m) + 1); go_simp; clear z1 y1; replace HX9 := Lib.hid (show Bx (W10.setCell ⟨bp, k * 7 + (1 + 2 * m) + 1, none⟩ (.int .i64 ((A : Int) + B))) bp (setE p k (setS e m ⟨(A : Int), (A : Int) + B⟩)).cells by (rw [HOF.out, ← cells_hi p k m hk4 hm3 e (A : Int) ((A : Int) + B) 0]; exact HX9.out.set hcl2 _)); replace HSI9 := Lib.hid (HSI9.out.set HOP.out hne1 HWP.out (k * 7 + (1 + 2 * m) + 1) (.int .i64 ((A : Int) + B))); replace HQ9 := Lib.hid (HQ9.out.other hne2 (k * 7 + (1 + 2 * m) + 1) (.int .i64 ((A : Int) + B)))
                          refine hK.out _ _ ?_ (fun hHeld => ?_)
                          · (try dsimp only); exact HX9.out.c _ _ (cells_lo_get p k m hk4 hm3 e _ _)
                          clear hK K
                          try simp only [Act.put]
                          refine wpAnyH_done (by kernel_rfl) ?_ _
                          dsimp only [PanTo]
                          iterate 12 (try clear hHeld)
                          go_wp2_with fail
                          have HEZ8 := Lib.hid (show ∀ j, m + 1 ≤ j → j < 3 → spI (setS e m ⟨(A : Int), (A : Int) + B⟩) j = sp0 from fun j h1 h2 => spI_setS e m j _ h2 (by omega) (HEZ7.out j (by omega) h2))
                          exact ⟨⟨m + 1, _, r6, by go_num, by omega, HSI9.out, HX9.out, HQ9.out, HEZ8.out, HP8.out⟩, by simp [intOf]; omega⟩
                    · obtain rfl : m = 3 := by omega
                      have HP8 := Lib.hid (show parseS s = restE n (k + 1) l (setE p k e) r4 by rw [HP7.out, restS_three])
                      go_wp2_with fail
                      exact ⟨⟨k + 1, setE p k e, r4, by go_num, by omega, HSI7.out, HX7.out, HPO.out _, HP8.out⟩, by simp [intOf]; omega⟩
            · obtain rfl : k = 4 := by omega
              have HP5 := Lib.hid (show parseS s = restP n (l ++ [p]) r2 by rw [HP4.out, restE_four])
              have HFC := Lib.hid (show (l ++ [p]).flatMap Pc.cells = l.flatMap Pc.cells ++ p.cells by rw [List.flatMap_append]; simp)
              have hLN := pc_len p
              have HPO := Lib.hid (pc_one p)
              obtain ⟨q0, q1, q2, q3, q4, q5, q6, q7, q8, q9, q10, q11, q12, q13, q14, q15, q16, q17, q18, q19, q20, q21, q22, q23, q24, q25, q26, q27, hL⟩ : ∃ q0 q1 q2 q3 q4 q5 q6 q7 q8 q9 q10 q11 q12 q13 q14 q15 q16 q17 q18 q19 q20 q21 q22 q23 q24 q25 q26 q27 : Value, p.cells = [q0, q1, q2, q3, q4, q5, q6, q7, q8, q9, q10, q11, q12, q13, q14, q15, q16, q17, q18, q19, q20, q21, q22, q23, q24, q25, q26, q27] := ⟨_, _, _, _, _, _, _, _, _, _, _, _, _, _, _, _, _, _, _, _, _, _, _, _, _, _, _, _, rfl⟩
              rw [hL] at HX3 hLN HPO HFC
              have HRG := Lib.hid HX3.out.range
              have HS1 := Lib.hid (show (Tryz.prog.info? 51).map (·.size) = some [q0, q1, q2, q3, q4, q5, q6, q7, q8, q9, q10, q11, q12, q13, q14, q15, q16, q17, q18, q19, q20, q21, q22, q23, q24, q25, q26, q27].length by rw [hLN]; exact pc_size)
              have HXA := Lib.hid (Bx.new wr #[q0, q1, q2, q3, q4, q5, q6, q7, q8, q9, q10, q11, q12, q13, q14, q15, q16, q17, q18, q19, q20, q21, q22, q23, q24, q25, q26, q27] 51)
              have HNA := Lib.hid (nxA wr (.cells #[q0, q1, q2, q3, q4, q5, q6, q7, q8, q9, q10, q11, q12, q13, q14, q15, q16, q17, q18, q19, q20, q21, q22, q23, q24, q25, q26, q27] 51))
              have HSI4 := Lib.hid (HSI3.out.next HNA.out)
              clear hL hLN
              go_wp2_with (first | (refine wpList_load_mid rfl 51 (.tmp 6) rfl bp 0 rfl [q0, q1, q2, q3, q4, q5, q6, q7, q8, q9, q10, q11, q12, q13, q14, q15, q16, q17, q18, q19, q20, q21, q22, q23, q24, q25, q26, q27] _ HRG.out pc_und rfl HS1.out ?_) | (at_builtin; refine wpList_append_own _ rfl (.tmp 72) (.tmp 74) 26 rfl (br + 1) 51 i0 _ 28 224 Tryz.underlying26 hi hz0 hz1 hz2 rfl (by decide) _ l.length _ rfl HSI4.out.own ⟨wr.heap.size, 0, none⟩ 1 1 [q0, q1, q2, q3, q4, q5, q6, q7, q8, q9, q10, q11, q12, q13, q14, q15, q16, q17, q18, q19, q20, q21, q22, q23, q24, q25, q26, q27] rfl rfl HXA.out.news HPO.out (by unfold maxLen; omega) (by omega) (by have := HSI4.out.rd.lt; omega) ?_; intro v' w' hown' hgrow _))
              have HF := Lib.hid (show RL1 s N w br v' (.int .i64 ((j : Int) + 1)) w' from ⟨j + 1, l ++ [p], r2, by go_num, by have := HN2.out; omega, by simp [hlj], ⟨HSI4.out.rd.grown hgrow (own_far HSI4.out.own (by omega)), by rw [HFC.out, List.length_append]; exact hown', grown_from HSI4.out.b hgrow HSI4.out.b.size (fun g e => by have h1 := (HSI4.out.own.lt g e).1; have h2 := HWB.out; omega)⟩, by rw [HP5.out, HNN.out]⟩)
              exact ⟨HF.out, by have := HN2.out; simp [intOf]; omega⟩
        · obtain rfl : j = N := by omega
          go_wp2_with fail
          rw [← HRR.out, HP2.out, Nat.sub_self, restP_zero]
          exact ⟨_, rfl, own_base HSI1.out.own (by have := HWB.out; omega), HSI1.out.b⟩
    · have HP1 := Lib.hid (show parseS s = none by rw [HPS.out]; exact if_neg hN)
      have hNi : ¬ (N : Int) ≤ 12 := by omega
      go_wp2_with fail
      rw [show decide ((N : Int) ≤ 12) = false from decide_eq_false (by omega)]
      refine (need_false W).mono ?_
      rintro e W' ⟨rfl, hb⟩
      exact ⟨rfl, HPN.out HP1.out _ (HSI.out.next hb).b⟩
end Go.Proofs.YtonnemkecppmiaaGreatDoor
