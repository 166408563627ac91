import Derived.Test.YtkcfpnpejaekjaaDoorP1
namespace Go.Proofs.YtkcfpnpejaekjaaDoor
open Go.RowKit
/-! The reference: what is valid. -/
theorem land_zero {a b n : Nat} (ha : a < 2 ^ n) : a &&& b = 0 ↔ ∀ k, k < n → ¬ (has a k = true ∧ has b k = true) := by
  unfold has
  constructor
  · intro h k _ hk
    have : (a &&& b).testBit k = true := by rw [Nat.testBit_and, hk.1, hk.2]; rfl
    rw [h, Nat.zero_testBit] at this; cases this
  · intro h
    refine Nat.eq_of_testBit_eq fun k => ?_
    rw [Nat.zero_testBit, Nat.testBit_and]
    by_cases hk : k < n
    · have := h k hk
      cases h1 : a.testBit k
      · rfl
      · cases h2 : b.testBit k
        · rfl
        · exact absurd ⟨h1, h2⟩ this
    · rw [Nat.testBit_lt_two_pow (Nat.lt_of_lt_of_le ha (Nat.pow_le_pow_right (by decide) (by omega)))]; rfl
def RLk (m : Mt) (w0 : World) (b : Nat) (i : Value) (w : World) : Prop := ∃ k : Nat, k ≤ m.t.looks.length ∧ i = .int .i64 k ∧ Below w0.heap.size w0 w ∧ Bx w b m.cells ∧ (m.t.looks.take k).all (okLook m.t.n.toNat) = true
def RLb (n : Nat) (x : Look) (b g : Nat) (m : Mt) (w0 : World) (i : Value) (w : World) : Prop := ∃ k : Nat, k ≤ n ∧ i = .int .i64 k ∧ Below w0.heap.size w0 w ∧ Bx w b m.cells ∧ Bx w g x.cells ∧ ∀ j, j < k → ¬ (has x.there.toNat j = true ∧ has x.gone.toNat j = true)
set_option maxHeartbeats 2000000 in
theorem looks_any (m : Mt) (w : World) (hr : TaleAt w w.heap.size m) (hn : 1 ≤ m.t.n ∧ m.t.n ≤ 16) : Calls Tryd.prog 52 #[.agg #[.int .i64 m.t.n, .slice m.A1 m.t.loans.length m.c1, .slice m.A2 m.t.looks.length m.c2, .slice m.A3 m.t.admits.length m.c3]] w (Ret (.bool (m.t.looks.all (okLook m.t.n.toNat) && decide ((m.t.looks.length : Int) ≤ 20))) w) := by
  have HLk := Lib.hid hr.lk
  have l2 := hr.l2
  clear hr
  obtain ⟨n, hnn⟩ : ∃ n : Nat, m.t.n = n := ⟨m.t.n.toNat, by omega⟩
  have hn1 : n ≤ 16 := by omega
  have hN : m.t.n.toNat = n := by omega
  have HPW := Lib.hid (fun W => show Calls Tryd.prog 45 #[.int .i64 m.t.n] W (RetQ (.int .i64 (powI n)) W) from by rw [hnn]; exact power_any n (by omega) W)
  have HNN := Lib.hid hnn
  clear hnn hn
  have hpb := powI_bd (n := n) (by omega)
  go_enter Tryd.func52, Tryd.ntmps52
  go_wp2
  go_loopw [3] (fun i wr => RLk m w w.heap.size i wr) (fun i _ => m.t.looks.length - (intOf i).toNat)
  case atStart => exact ⟨0, by omega, rfl, nxA _ _, Bx.new _ _ _, rfl⟩
  case round =>
    obtain ⟨k, hk, rfl, hb, hx, hall⟩ := hrel
    have hz := hx.lt
    have c0 := hx.c 0 _ rfl
    have c1 := hx.c 1 _ rfl
    have c2 := hx.c 2 _ rfl
    have c3 := hx.c 3 _ rfl
    have HX := Lib.hid hx
    clear hx
    by_cases hlt : k < m.t.looks.length
    · obtain ⟨b, off, e, hbk, h0, h1, h2⟩ := look_at (HLk.out.below hb) hlt
      rw [e] at c2
      have hbs : b < wr.heap.size := Nat.lt_of_lt_of_le hbk hb.size
      have Ha := Lib.hid (all_step (p := okLook m.t.n.toNat) hlt hall)
      have Hf := Lib.hid (all_fail (p := okLook m.t.n.toNat) hlt)
      have hg : m.t.looks[k] = m.t.looks.getD k ⟨0, 0, 0⟩ := by have := look_get hlt; rw [List.getElem?_eq_getElem hlt] at this; exact Option.some.inj this
      rw [hg] at Ha Hf
      generalize m.t.looks.getD k ⟨0, 0, 0⟩ = s at *
      rw [hN] at Ha Hf
      have Hk := Lib.hid (show okLook n s = (inS s.h 0 mxH && (inS s.there 0 (powI n - 1) && (inS s.gone 0 (powI n - 1) && decide (s.there.toNat &&& s.gone.toNat = 0)))) from rfl)
      have HN := Lib.hid hN
      have HB := Lib.hid hb
      have HZ := Lib.hid (show ∀ k, k < n → k ≤ 62 from fun k hk => by omega)
      have HT := Lib.hid (show inS s.there 0 (powI n - 1) = true → s.there = (s.there.toNat : Int) ∧ s.there.toNat < 2 ^ n ∧ s.there.toNat ≤ 9223372036854775807 from fun h => by rw [inS_iff] at h; unfold powI at h hpb; omega)
      have HG := Lib.hid (show inS s.gone 0 (powI n - 1) = true → s.gone = (s.gone.toNat : Int) ∧ s.gone.toNat ≤ 9223372036854775807 from fun h => by rw [inS_iff] at h; unfold powI at h hpb; omega)
      clear hall hg hN hb e
      generalize powI n = Pn at *
      rcases chain3 (inS s.h 0 mxH) (inS s.there 0 (Pn - 1)) (inS s.gone 0 (Pn - 1)) with a1 | ⟨a1, a2⟩ | ⟨a1, a2, a3⟩ | ⟨a1, a2, a3⟩
      rotate_right
      · go_wp2_with (go_quiet (first | (go_at_call 45; first | exact qq (HPW.out _) | exact qqa (HPW.out _)) | (go_at_call 34; first | exact qq (in_any _ _ _ _) | exact qqa (in_any _ _ _ _))))
        obtain ⟨wo, hwo⟩ : ∃ wo : World, wo = (wr.alloc (.cells #[.int .i64 s.h, .int .i64 s.there, .int .i64 s.gone] 50)).drewN nq := ⟨_, rfl⟩
        have HBo := Lib.hid (show Below wr.heap.size wr wo by rw [hwo]; exact below_drewN (nxA _ _) _)
        have HXo := Lib.hid (show Bx wo wr.heap.size s.cells by rw [hwo]; exact (Bx.new wr #[.int .i64 s.h, .int .i64 s.there, .int .i64 s.gone] 50).drewN)
        have HXm := Lib.hid (HX.out.next HBo.out)
        have HBm := Lib.hid (HB.out.trans (HBo.out.mono HB.out.size))
        rw [← hwo]
        obtain ⟨gs, hgs⟩ : ∃ gs, gs = wr.heap.size := ⟨_, rfl⟩
        rw [← hgs] at HXo ⊢
        have Hgs := Lib.hid hgs
        have A1 := Lib.hid (And.intro a1 (And.intro a2 a3))
        have HT1 := Lib.hid (HT.out a2)
        have HG1 := Lib.hid (HG.out a3)
        clear a1 a2 a3 hwo hgs c0 c1 c2 c3 h0 h1 h2 hz hbk hbs HX HPW hpb HT HG HBo
        go_loopw [5] (fun i wi => RLb n s w.heap.size gs m wo i wi) (fun i _ => n - (intOf i).toNat)
        case atStart => exact ⟨0, by omega, rfl, Below.refl _ _, HXm.out, HXo.out, fun j hj => absurd hj (by omega)⟩
        case round =>
          obtain ⟨j, hj, rfl, hb, hx, hg, hnone⟩ := hrel
          have hz := hx.lt
          have hzg := hg.lt
          have hnn := HNN.out
          have c0 := hx.c 0 (.int .i64 n) (by unfold Mt.cells; rw [hnn]; rfl)
          have g1 := hg.c 1 (.int .i64 ((s.there.toNat : Nat) : Int)) (by rw [← HT1.out.1]; rfl)
          have g2 := hg.c 2 (.int .i64 ((s.gone.toNat : Nat) : Int)) (by rw [← HG1.out.1]; rfl)
          have HXi := Lib.hid hx
          have HGi := Lib.hid hg
          have HN0 := Lib.hid hnone
          have HBi := Lib.hid hb
          have HBw := Lib.hid (HBm.out.trans (hb.mono HBm.out.size))
          clear hx hg hnn hnone hb
          by_cases hjl : j < n
          · have HH1 := Lib.hid (fun W => has_any s.there.toNat j (HZ.out j hjl) HT1.out.2.2 W)
            have HH2 := Lib.hid (fun W => has_any s.gone.toNat j (HZ.out j hjl) HG1.out.2 W)
            have HL := Lib.hid (land_zero (b := s.gone.toNat) HT1.out.2.1)
            have HRL := Lib.hid (fun (W : World) (v : Value) (hv : v = .int .i64 ((j + 1 : Nat) : Int)) (hb : Below wo.heap.size wo W) (hx : Bx W w.heap.size m.cells) (hg : Bx W gs s.cells) (hn : ∀ i, i < j + 1 → ¬ (has s.there.toNat i = true ∧ has s.gone.toNat i = true)) => (show RLb n s w.heap.size gs m wo v W from ⟨j + 1, by omega, hv, hb, hx, hg, hn⟩))
            generalize s.there.toNat = T at *
            generalize s.gone.toNat = G at *
            rcases chain2 (has T j) (has G j) with b1 | ⟨b1, b2⟩ | ⟨b1, b2⟩
            rotate_right
            · go_wp2_with (first | (go_at_call 60; (with_reducible refine (HH1.out _).mono ?_); rintro e w' ⟨rfl, rfl⟩) | (go_at_call 60; (with_reducible refine (HH2.out _).mono ?_); rintro e w' ⟨rfl, rfl⟩))
              go_ret
              refine ret_bool ?_ HBw.out
              rw [HN.out, Hf.out (by rw [Hk.out, A1.out.1, A1.out.2.1, A1.out.2.2, decide_eq_false (fun e => HL.out.1 e j hjl ⟨b1, b2⟩)]; rfl)]; rfl
            all_goals
              have HN1 := Lib.hid (fun i (hi : i < j + 1) => show ¬ (has T i = true ∧ has G i = true) from by
                by_cases e : i = j
                · rw [e, b1]; simp [*]
                · exact HN0.out i (by omega))
              go_wp2_with (first | (go_at_call 60; (with_reducible refine (HH1.out _).mono ?_); rintro e w' ⟨rfl, rfl⟩) | (go_at_call 60; (with_reducible refine (HH2.out _).mono ?_); rintro e w' ⟨rfl, rfl⟩))
              all_goals (first | (refine ⟨?_, ?_⟩; (unfold RLb; exact HRL.out _ _ (by go_num) HBi.out HXi.out HGi.out HN1.out); (simp [intOf]; omega)) | (go_roundw; (case rel => (unfold RLb; exact HRL.out _ _ (by go_num) HBi.out HXi.out HGi.out HN1.out)); (case measure => (simp [intOf]; omega))) | (go_round; (case rel => (unfold RLb; exact HRL.out _ _ (by go_num) HBi.out HXi.out HGi.out HN1.out)); (case measure => (simp [intOf]; omega))))
          · obtain rfl : j = n := by omega
            have HL := Lib.hid ((land_zero (b := s.gone.toNat) HT1.out.2.1).2 HN0.out)
            go_wp2
            all_goals (first | (refine ⟨?_, ?_⟩; (unfold RLk; exact ⟨k + 1, by omega, by go_num, HBw.out, HXi.out, by rw [HN.out]; exact Ha.out (by rw [Hk.out, A1.out.1, A1.out.2.1, A1.out.2.2, HL.out]; rfl)⟩); (simp [intOf]; omega)) | (go_roundw; (case rel => (unfold RLk; exact ⟨k + 1, by omega, by go_num, HBw.out, HXi.out, by rw [HN.out]; exact Ha.out (by rw [Hk.out, A1.out.1, A1.out.2.1, A1.out.2.2, HL.out]; rfl)⟩)); (case measure => (simp [intOf]; omega))) | (go_round; (case rel => (unfold RLk; exact ⟨k + 1, by omega, by go_num, HBw.out, HXi.out, by rw [HN.out]; exact Ha.out (by rw [Hk.out, A1.out.1, A1.out.2.1, A1.out.2.2, HL.out]; rfl)⟩)); (case measure => (simp [intOf]; omega))))
      all_goals
        go_wp2_with (go_quiet (first | (go_at_call 45; first | exact qq (HPW.out _) | exact qqa (HPW.out _)) | (go_at_call 34; first | exact qq (in_any _ _ _ _) | exact qqa (in_any _ _ _ _))))
        go_ret
        refine ret_bool ?_ (below_drewN (HB.out.trans ((nxA _ _).mono HB.out.size)) _)
        rw [HN.out, Hf.out (by rw [Hk.out]; simp [*])]; rfl
    · have hall := all_full hlt hall
      go_wp2
      go_ret
      refine ret_bool ?_ hb
      rw [hall]; rfl
end Go.Proofs.YtkcfpnpejaekjaaDoor
