import Derived.Test.YtkcfpnpejaekjaaDoorR2
namespace Go.Proofs.YtkcfpnpejaekjaaDoor
open Go.RowKit
theorem okLoans_step {m k : Nat} {l : List Loan} (hk : k < l.length) : okLoans m (l.take k) (l.drop k) = (okLoan m (l.getD k ⟨0, 0, 0⟩) && !((l.take k).any (crossL (l.getD k ⟨0, 0, 0⟩))) && okLoans m (l.take (k + 1)) (l.drop (k + 1))) := by
  have hg : l.getD k ⟨0, 0, 0⟩ = l[k] := by rw [List.getD_eq_getElem?_getD, List.getElem?_eq_getElem hk]; rfl
  rw [hg, List.drop_eq_getElem_cons hk, List.take_succ_eq_append_getElem hk]; rfl
theorem okLoans_end {m k : Nat} {l : List Loan} (hk : ¬ k < l.length) : okLoans m (l.take k) (l.drop k) = true := by
  rw [List.drop_eq_nil_of_le (by omega)]; rfl
theorem any_step {α : Type} {l : List α} {p : α → Bool} {j : Nat} (hj : j < l.length) : (l.take (j + 1)).any p = ((l.take j).any p || p l[j]) := by
  rw [List.take_succ_eq_append_getElem hj, List.any_append]; simp
def RLn (m : Mt) (w0 : World) (b : Nat) (i : Value) (w : World) : Prop := ∃ k : Nat, k ≤ m.t.loans.length ∧ i = .int .i64 k ∧ Below w0.heap.size w0 w ∧ Bx w b m.cells ∧ okLoans m.t.admits.length [] m.t.loans = okLoans m.t.admits.length (m.t.loans.take k) (m.t.loans.drop k)
def RLc (k : Nat) (x : Loan) (b g : Nat) (m : Mt) (w0 : World) (i : Value) (w : World) : Prop := ∃ j : Nat, j ≤ k ∧ i = .int .i64 j ∧ Below w0.heap.size w0 w ∧ Bx w b m.cells ∧ Bx w g x.cells ∧ (m.t.loans.take j).any (crossL x) = false
set_option maxHeartbeats 2000000 in
theorem lent_any (m : Mt) (w : World) (hr : TaleAt w w.heap.size m) : Calls Tryd.prog 51 #[.agg #[.int .i64 m.t.n, .slice m.A1 m.t.loans.length m.c1, .slice m.A2 m.t.looks.length m.c2, .slice m.A3 m.t.admits.length m.c3]] w (Ret (.bool (okLoans m.t.admits.length [] m.t.loans && decide ((m.t.loans.length : Int) ≤ 12))) w) := by
  have HLo := Lib.hid hr.lo
  have l1 := hr.l1
  have l3 := hr.l3
  clear hr
  go_enter Tryd.func51, Tryd.ntmps51
  go_wp2
  go_loopw [3] (fun i wr => RLn m w w.heap.size i wr) (fun i _ => m.t.loans.length - (intOf i).toNat)
  case atStart => exact ⟨0, by omega, rfl, nxA _ _, Bx.new _ _ _, rfl⟩
  case round =>
    obtain ⟨k, hk, rfl, hb, hx, hall⟩ := hrel
    have hz := hx.lt
    have c0 := hx.c 0 _ rfl
    have c1 := hx.c 1 _ rfl
    have c2 := hx.c 2 _ rfl
    have c3 := hx.c 3 _ rfl
    have HX := Lib.hid hx
    have HA := Lib.hid hall
    clear hx hall
    by_cases hlt : k < m.t.loans.length
    · obtain ⟨b, off, e, hbk, h0, h1, h2⟩ := loan_at (HLo.out.below hb) hlt
      rw [e] at c1
      have hbs : b < wr.heap.size := Nat.lt_of_lt_of_le hbk hb.size
      have HS := Lib.hid (okLoans_step (m := m.t.admits.length) hlt)
      have HE := Lib.hid e
      clear e
      generalize m.t.loans.getD k ⟨0, 0, 0⟩ = s at *
      have Hk := Lib.hid (show okLoan m.t.admits.length s = (inS s.p 0 (m.t.admits.length - 1) && (inS s.a 0 1048575 && inS s.b (s.a + 1) mxH)) from rfl)
      have HB := Lib.hid hb
      have HW := Lib.hid (show inS s.a 0 1048575 = true → IntKind.i64.wrap (s.a + 1) = s.a + 1 from fun h => by rw [inS_iff] at h; exact IntWalk.i64_in _ (by omega))
      clear hb
      rcases chain3 (inS s.p 0 (m.t.admits.length - 1)) (inS s.a 0 1048575) (inS s.b (s.a + 1) mxH) with a1 | ⟨a1, a2⟩ | ⟨a1, a2, a3⟩ | ⟨a1, a2, a3⟩
      rotate_right
      · have hw1 := HW.out a2
        go_wp2_with (go_at_call 34; (with_reducible refine (in_any _ _ _ _).mono ?_); rintro e w' ⟨rfl, rfl⟩)
        obtain ⟨wo, hwo⟩ : ∃ wo : World, wo = wr.alloc (.cells #[.int .i64 s.p, .int .i64 s.a, .int .i64 s.b] 44) := ⟨_, rfl⟩
        have HBo := Lib.hid (show Below wr.heap.size wr wo by rw [hwo]; exact nxA _ _)
        have HXo := Lib.hid (show Bx wo wr.heap.size s.cells by rw [hwo]; exact Bx.new wr #[.int .i64 s.p, .int .i64 s.a, .int .i64 s.b] 44)
        have HXm := Lib.hid (HX.out.next HBo.out)
        have HBm := Lib.hid (HB.out.trans (HBo.out.mono HB.out.size))
        rw [← hwo]
        obtain ⟨gs, hgs⟩ : ∃ gs, gs = wr.heap.size := ⟨_, rfl⟩
        rw [← hgs] at HXo ⊢
        have HOK := Lib.hid (show okLoan m.t.admits.length s = true by rw [Hk.out, a1, a2, a3]; rfl)
        clear a1 a2 a3 hwo hgs c0 c1 c2 c3 h0 h1 h2 hz hbk hbs HX HBo HB Hk HW hw1
        go_loopw [5] (fun i wi => RLc k s w.heap.size gs m wo i wi) (fun i _ => k - (intOf i).toNat)
        case atStart => exact ⟨0, by omega, rfl, Below.refl _ _, HXm.out, HXo.out, rfl⟩
        case round =>
          obtain ⟨j, hj, rfl, hb, hx, hg, hnone⟩ := hrel
          have hz := hx.lt
          have hzg := hg.lt
          have HBw := Lib.hid (HBm.out.trans (hb.mono HBm.out.size))
          have c1 := hx.c 1 _ rfl
          have g1 := hg.c 1 _ rfl
          have g2 := hg.c 2 _ rfl
          have HXi := Lib.hid hx
          have HGi := Lib.hid hg
          have HN0 := Lib.hid hnone
          have HBi := Lib.hid hb
          clear hx hg hnone hb
          by_cases hjl : j < k
          · obtain ⟨b', off', e', hbk', h0', h1', h2'⟩ := loan_at (HLo.out.below HBw.out) (Nat.lt_trans hjl hlt)
            have hbs' : b' < wr.heap.size := Nat.lt_of_lt_of_le hbk' HBw.out.size
            rw [e'] at c1
            have HST := Lib.hid (show (m.t.loans.take (j + 1)).any (crossL s) = ((m.t.loans.take j).any (crossL s) || crossL s (m.t.loans.getD j ⟨0, 0, 0⟩)) from by
              have hjt : j < m.t.loans.length := Nat.lt_trans hjl hlt
              rw [any_step hjt]
              rw [List.getD_eq_getElem?_getD, List.getElem?_eq_getElem hjt]; rfl)
            have HJK := Lib.hid (show (m.t.loans.take (j + 1)).any (crossL s) = true → (m.t.loans.take k).any (crossL s) = true from fun h => by
              obtain ⟨x, hx, hp⟩ := List.any_eq_true.1 h
              exact List.any_eq_true.2 ⟨x, (List.take_subset_take_left _ hjl) hx, hp⟩)
            generalize m.t.loans.getD j ⟨0, 0, 0⟩ = y at *
            have Hc := Lib.hid (show crossL s y = (decide (s.a < y.b) && decide (y.a < s.b)) from rfl)
            clear e'
            rcases chain2 (decide (s.a < y.b)) (decide (y.a < s.b)) with b1 | ⟨b1, b2⟩ | ⟨b1, b2⟩
            rotate_right
            · go_wp2_with (go_quiet (fail))
              go_ret
              refine ret_bool ?_ (below_drewN HBw.out _)
              rw [HA.out, HS.out, HJK.out (by rw [HST.out, Hc.out, b1, b2, HN0.out]; rfl)]
              simp
            all_goals
              go_wp2_with (go_quiet (fail))
              all_goals (first | (refine ⟨?_, ?_⟩; (unfold RLc; exact ⟨j + 1, by omega, by go_num, below_drewN HBi.out _, HXi.out.drewN, HGi.out.drewN, by rw [HST.out, Hc.out, HN0.out]; simp [*]⟩); (simp [intOf]; omega)) | (go_roundw; (case rel => (unfold RLc; exact ⟨j + 1, by omega, by go_num, below_drewN HBi.out _, HXi.out.drewN, HGi.out.drewN, by rw [HST.out, Hc.out, HN0.out]; simp [*]⟩)); (case measure => (simp [intOf]; omega))) | (go_round; (case rel => (unfold RLc; exact ⟨j + 1, by omega, by go_num, below_drewN HBi.out _, HXi.out.drewN, HGi.out.drewN, by rw [HST.out, Hc.out, HN0.out]; simp [*]⟩)); (case measure => (simp [intOf]; omega))))
          · obtain rfl : j = k := by omega
            go_wp2
            all_goals (first | (refine ⟨?_, ?_⟩; (unfold RLn; exact ⟨j + 1, by omega, by go_num, HBw.out, HXi.out, by rw [HA.out, HS.out, HOK.out, HN0.out]; rfl⟩); (simp [intOf]; omega)) | (go_roundw; (case rel => (unfold RLn; exact ⟨j + 1, by omega, by go_num, HBw.out, HXi.out, by rw [HA.out, HS.out, HOK.out, HN0.out]; rfl⟩)); (case measure => (simp [intOf]; omega))) | (go_round; (case rel => (unfold RLn; exact ⟨j + 1, by omega, by go_num, HBw.out, HXi.out, by rw [HA.out, HS.out, HOK.out, HN0.out]; rfl⟩)); (case measure => (simp [intOf]; omega))))
      all_goals
        try (have hw1 := HW.out a2)
        go_wp2_with (go_at_call 34; (with_reducible refine (in_any _ _ _ _).mono ?_); rintro e w' ⟨rfl, rfl⟩)
        go_ret
        refine ret_bool ?_ (HB.out.trans ((nxA _ _).mono HB.out.size))
        rw [HA.out, HS.out, Hk.out]; simp [*]
    · have he := okLoans_end (m := m.t.admits.length) hlt
      go_wp2
      go_ret
      refine ret_bool ?_ hb
      rw [HA.out, he]; rfl
def RTa (m : Mt) (w0 : World) (b : Nat) (i : Value) (w : World) : Prop := ∃ k : Nat, k ≤ m.t.admits.length ∧ i = .int .i64 k ∧ Below w0.heap.size w0 w ∧ Bx w b m.cells ∧ (m.t.admits.take k).all okAdm = true
set_option maxHeartbeats 1000000 in
theorem Tale_any (m : Mt) (w : World) (hr : TaleAt w w.heap.size m) : Calls Tryd.prog 24 #[.agg #[.int .i64 m.t.n, .slice m.A1 m.t.loans.length m.c1, .slice m.A2 m.t.looks.length m.c2, .slice m.A3 m.t.admits.length m.c3]] w (Ret (.bool (okTale m.t)) w) := by
  have HR := Lib.hid hr
  have l3 := hr.l3
  clear hr
  have HD := Lib.hid (show okTale m.t = (inS m.t.n 1 16 && (inS m.t.admits.length 1 6 && (decide ((m.t.loans.length : Int) ≤ 12) && (decide ((m.t.looks.length : Int) ≤ 20) && (okLoans m.t.admits.length [] m.t.loans && (m.t.looks.all (okLook m.t.n.toNat) && m.t.admits.all okAdm)))))) from rfl)
  go_enter Tryd.func24, Tryd.ntmps24
  go_wp2
  go_loopw [3] (fun i wr => RTa m w w.heap.size i wr) (fun i _ => m.t.admits.length - (intOf i).toNat)
  case atStart => exact ⟨0, by omega, rfl, nxA _ _, Bx.new _ _ _, rfl⟩
  case round =>
    obtain ⟨k, hk, rfl, hb, hx, hall⟩ := hrel
    have hz := hx.lt
    have c0 := hx.c 0 _ rfl
    have c1 := hx.c 1 _ rfl
    have c2 := hx.c 2 _ rfl
    have c3 := hx.c 3 _ rfl
    have HX := Lib.hid hx
    clear hx
    by_cases hlt : k < m.t.admits.length
    · obtain ⟨b, off, e, hbk, h0⟩ := int_at (HR.out.ad.below hb) hlt
      rw [e] at c3
      have hbs : b < wr.heap.size := Nat.lt_of_lt_of_le hbk hb.size
      have Ha := Lib.hid (all_step (p := okAdm) hlt hall)
      have Hf := Lib.hid (all_fail (p := okAdm) hlt)
      have hg : m.t.admits[k] = m.t.admits.getD k 0 := by rw [List.getD_eq_getElem?_getD, List.getElem?_eq_getElem hlt]; rfl
      rw [hg] at Ha Hf
      have HB := Lib.hid hb
      generalize m.t.admits.getD k 0 = x at *
      have Hk := Lib.hid (show okAdm x = inS x (-1) 16 from rfl)
      clear hall hg hb e
      cases a1 : inS x (-1) 16
      · go_wp2_with (go_at_call 34; (with_reducible refine (in_any _ _ _ _).mono ?_); rintro e w' ⟨rfl, rfl⟩)
        go_ret
        refine ret_bool ?_ HB.out
        rw [HD.out, Hf.out (by rw [Hk.out]; exact a1)]; simp
      · go_wp2_with (go_at_call 34; (with_reducible refine (in_any _ _ _ _).mono ?_); rintro e w' ⟨rfl, rfl⟩)
        all_goals (first | (refine ⟨?_, ?_⟩; (unfold RTa; exact ⟨k + 1, by omega, by go_num, HB.out, HX.out, Ha.out (by rw [Hk.out]; exact a1)⟩); (simp [intOf]; omega)) | (go_roundw; (case rel => (unfold RTa; exact ⟨k + 1, by omega, by go_num, HB.out, HX.out, Ha.out (by rw [Hk.out]; exact a1)⟩)); (case measure => (simp [intOf]; omega))) | (go_round; (case rel => (unfold RTa; exact ⟨k + 1, by omega, by go_num, HB.out, HX.out, Ha.out (by rw [Hk.out]; exact a1)⟩)); (case measure => (simp [intOf]; omega))))
    · have Hall := Lib.hid (all_full hlt hall)
      have HB := Lib.hid hb
      clear hall
      have HTr := Lib.hid (HR.out.below hb)
      have HTn := Lib.hid (HTr.out.more hb.size)
      rcases chain2 (inS m.t.n 1 16) (inS m.t.admits.length 1 6) with a1 | ⟨a1, a2⟩ | ⟨a1, a2⟩
      rotate_right
      · go_wp2_with (first | (go_at_call 34; (with_reducible refine (in_any _ _ _ _).mono ?_); rintro e w' ⟨rfl, rfl⟩) | fail)
        refine (lent_any m _ HTn.out).mono ?_
        rintro e w1 ⟨rfl, hb1⟩
        have HB1 := Lib.hid (HB.out.trans (hb1.mono HB.out.size))
        have c0 := (HX.out.next hb1).c 0 _ rfl
        have c1 := (HX.out.next hb1).c 1 _ rfl
        have c2 := (HX.out.next hb1).c 2 _ rfl
        have c3 := (HX.out.next hb1).c 3 _ rfl
        have HT1 := Lib.hid (HTn.out.next hb1)
        have hpn := inS_iff.1 a1
        clear hb1
        obtain ⟨q, hq⟩ : ∃ q, q = (okLoans m.t.admits.length [] m.t.loans && decide ((m.t.loans.length : Int) ≤ 12)) := ⟨_, rfl⟩
        rw [← hq]
        have HQ := Lib.hid hq
        clear hq
        cases q
        · go_wp2
          go_ret
          refine ret_bool ?_ HB1.out
          rw [HD.out, Hall.out, a1, a2]
          have := HQ.out
          revert this
          cases okLoans m.t.admits.length [] m.t.loans <;> cases decide ((m.t.loans.length : Int) ≤ 12) <;> simp
        · go_wp2_with fail
          refine (looks_any m _ HT1.out hpn).mono ?_
          rintro e w2 ⟨rfl, hb2⟩
          have HB2 := Lib.hid (HB1.out.trans (hb2.mono HB1.out.size))
          clear hb2
          go_wp2
          go_ret
          refine ret_bool ?_ HB2.out
          rw [HD.out, Hall.out, a1, a2]
          have := HQ.out
          revert this
          cases okLoans m.t.admits.length [] m.t.loans <;> cases decide ((m.t.loans.length : Int) ≤ 12) <;> simp [Bool.and_comm]
      all_goals
        go_wp2_with (go_at_call 34; (with_reducible refine (in_any _ _ _ _).mono ?_); rintro e w' ⟨rfl, rfl⟩)
        go_ret
        refine ret_bool ?_ HB.out
        rw [HD.out]; simp [*]
end Go.Proofs.YtkcfpnpejaekjaaDoor
