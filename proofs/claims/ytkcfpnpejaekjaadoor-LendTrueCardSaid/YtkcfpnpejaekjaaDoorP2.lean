import Derived.Test.YtkcfpnpejaekjaaDoorR3
namespace Go.Proofs.YtkcfpnpejaekjaaDoor
open Go.RowKit
/-! The program: what is valid. -/
theorem any_not {α : Type} (l : List α) (p q : α → Bool) (h : ∀ x, q x = !p x) : l.any q = !l.all p := by
  rw [List.all_eq_not_any_not, Bool.not_not]
  congr 1; funext x; exact h x
theorem At.take {α : Type} {w : World} {B size : Nat} {cells : α → List Value} {A : Option Addr} {l : List α} (h : At w B size cells A l) (k : Nat) : At w B size cells A (l.take k) := fun j x hx => by
  by_cases hj : j < k
  · rw [List.getElem?_take_of_lt hj] at hx; exact h j x hx
  · rw [List.getElem?_eq_none (by rw [List.length_take]; omega)] at hx; cases hx
def RIs (m : Mt) (n : Nat) (w0 : World) (b bm : Nat) (i : Value) (w : World) : Prop := ∃ k : Nat, k ≤ m.t.loans.length ∧ i = .int .i64 k ∧ Below w0.heap.size w0 w ∧ Bx w b m.cells ∧ Bx w bm [.int .i64 (powI n - 1)] ∧ okLoans m.t.admits.length [] m.t.loans = okLoans m.t.admits.length (m.t.loans.take k) (m.t.loans.drop k)
set_option maxRecDepth 100000 in
set_option maxHeartbeats 2000000 in
theorem isTale_any (m : Mt) (w : World) (hr : TaleAt w w.heap.size m) : Calls Tryd.prog 30 #[.agg #[.int .i64 m.t.n, .slice m.A1 m.t.loans.length m.c1, .slice m.A2 m.t.looks.length m.c2, .slice m.A3 m.t.admits.length m.c3]] w (Ret (.bool (okTale m.t)) w) := by
  have HR := Lib.hid hr
  have l1 := hr.l1
  have l3 := hr.l3
  have k1 := hr.k1
  clear hr
  have HD := Lib.hid (show okTale m.t = (inS m.t.n 1 16 && (inS m.t.admits.length 1 6 && (decide ((m.t.loans.length : Int) ≤ 12) && (decide ((m.t.looks.length : Int) ≤ 20) && (okLoans m.t.admits.length [] m.t.loans && (m.t.looks.all (okLook m.t.n.toNat) && m.t.admits.all okAdm)))))) from rfl)
  rcases chain4 (inS m.t.n 1 16) (inS m.t.admits.length 1 6) (decide ((m.t.loans.length : Int) ≤ 12)) (decide ((m.t.looks.length : Int) ≤ 20)) with a1 | ⟨a1, a2⟩ | ⟨a1, a2, a3⟩ | ⟨a1, a2, a3, a4⟩ | ⟨a1, a2, a3, a4⟩
  rotate_right
  · have HA := Lib.hid (And.intro a1 (And.intro a2 (And.intro a3 a4)))
    have hpn := inS_iff.1 a1
    obtain ⟨n, hnn⟩ : ∃ n : Nat, m.t.n = n := ⟨m.t.n.toNat, by omega⟩
    have hn1 : n ≤ 16 := by omega
    have HN := Lib.hid (show m.t.n.toNat = n by omega)
    have HNN := Lib.hid hnn
    have hpb := powI_bd (n := n) (by omega)
    have b3 : decide ((12 : Int) < (m.t.loans.length : Int)) = false := by simp at a3 ⊢; omega
    have b4 : decide ((20 : Int) < (m.t.looks.length : Int)) = false := by simp at a4 ⊢; omega
    have hshl : Op.shift BinOp.shl IntKind.i64 1 IntKind.i64 m.t.n = pure (.int .i64 (powI n)) := by
      rw [shift_shl _ _ _ _ (by omega) (by show m.t.n ≤ 64; omega), HN.out, Int.one_mul]
      have : ((2 : Int) ^ n) = powI n := by unfold powI; push_cast; rfl
      rw [this, show IntKind.i64.wrap (powI n) = powI n from by rw [IntKind.wrap_i64]; omega]
    clear hpn hnn
    go_enter Tryd.func30, Tryd.ntmps30
    go_wp2_with (go_at_call 31; (with_reducible refine (within_any _ _ _ _).mono ?_); rintro e w' ⟨rfl, rfl⟩)
    clear hshl b3 b4 a1 a2 a3 a4
    have B0 := nxA w (.cells #[.int .i64 m.t.n, .slice m.A1 m.t.loans.length m.c1, .slice m.A2 m.t.looks.length m.c2, .slice m.A3 m.t.admits.length m.c3] 26)
    have X0 := Bx.new w #[.int .i64 m.t.n, .slice m.A1 m.t.loans.length m.c1, .slice m.A2 m.t.looks.length m.c2, .slice m.A3 m.t.admits.length m.c3] 26
    have B1 := nxA (w.alloc (.cells #[.int .i64 m.t.n, .slice m.A1 m.t.loans.length m.c1, .slice m.A2 m.t.looks.length m.c2, .slice m.A3 m.t.admits.length m.c3] 26)) (.cells #[.int .i64 (powI n - 1)] 3)
    have X1 := Bx.new (w.alloc (.cells #[.int .i64 m.t.n, .slice m.A1 m.t.loans.length m.c1, .slice m.A2 m.t.looks.length m.c2, .slice m.A3 m.t.admits.length m.c3] 26)) #[.int .i64 (powI n - 1)] 3
    rw [World.size_alloc] at X1
    have HB := Lib.hid (B0.trans (B1.mono B0.size))
    have HX0 := Lib.hid (X0.next B1)
    have HX1 := Lib.hid X1
    clear B0 X0 B1 X1
    generalize (w.alloc (.cells #[.int .i64 m.t.n, .slice m.A1 m.t.loans.length m.c1, .slice m.A2 m.t.looks.length m.c2, .slice m.A3 m.t.admits.length m.c3] 26)).alloc (.cells #[.int .i64 (powI n - 1)] 3) = V at *
    go_loopw [39] (fun i wr => RIs m n w w.heap.size (w.heap.size + 1) i wr) (fun i _ => m.t.loans.length - (intOf i).toNat)
    case atStart => exact ⟨0, by omega, rfl, HB.out, HX0.out, HX1.out, rfl⟩
    case round =>
      obtain ⟨k, hk, rfl, hb, hx, hx1, hall⟩ := hrel
      have hz := hx.lt
      have hz1 := hx1.lt
      have c0 := hx.c 0 _ rfl
      have c1 := hx.c 1 _ rfl
      have c2 := hx.c 2 _ rfl
      have c3 := hx.c 3 _ rfl
      have HX := Lib.hid hx
      have HY := Lib.hid hx1
      have HAL := Lib.hid hall
      have HBk := Lib.hid hb
      have HTr := Lib.hid (HR.out.below hb)
      have HTn := Lib.hid (HTr.out.more hb.size)
      clear hx hx1 hall
      by_cases hlt : k < m.t.loans.length
      · obtain ⟨b, off, e, hbk, h0, h1, h2⟩ := loan_at HTr.out.lo hlt
        have HTT := Lib.hid (HTn.out.lo.take k)
        have hbs : b < wr.heap.size := Nat.lt_of_lt_of_le hbk hb.size
        have HS := Lib.hid (okLoans_step (m := m.t.admits.length) hlt)
        clear hb
        generalize m.A1 = A1 at *
        subst e
        generalize m.t.loans.getD k ⟨0, 0, 0⟩ = s at *
        have Hk := Lib.hid (show okLoan m.t.admits.length s = (inS s.p 0 (m.t.admits.length - 1) && (inS s.a 0 1048575 && inS s.b (s.a + 1) mxH)) from rfl)
        have HW := Lib.hid (show inS s.a 0 1048575 = true → IntKind.i64.wrap (s.a + 1) = s.a + 1 from fun h => by rw [inS_iff] at h; exact IntWalk.i64_in _ (by omega))
        rcases chain3 (inS s.p 0 (m.t.admits.length - 1)) (inS s.a 0 1048575) (inS s.b (s.a + 1) mxH) with a1 | ⟨a1, a2⟩ | ⟨a1, a2, a3⟩ | ⟨a1, a2, a3⟩
        rotate_right
        · have hw1 := HW.out a2
          have HBn := Lib.hid (nxA wr (.cells #[.int .i64 s.p, .int .i64 s.a, .int .i64 s.b] 44))
          have HXs := Lib.hid (Bx.new wr #[.int .i64 s.p, .int .i64 s.a, .int .i64 s.b] 44)
          have HOK := Lib.hid (show okLoan m.t.admits.length s = true by rw [Hk.out, a1, a2, a3]; rfl)
          have hlen : (m.t.loans.take k).length = k := by rw [List.length_take]; omega
          have HCC := Lib.hid (fun (W : World) (h1 : Below wr.heap.size wr W) (h2 : Bx W wr.heap.size s.cells) => by
            have := containsCross_any s wr.heap.size (some ⟨b, off, none⟩) m.c1 (m.t.loans.take k) W (HTT.out.next h1) (by rw [hlen]; omega) h2
            rw [hlen] at this
            exact this)
          clear hlen
          go_wp2_with (first | (go_at_call 31; (with_reducible refine (within_any _ _ _ _).mono ?_); rintro e w' ⟨rfl, rfl⟩) | fail)
          refine (HCC.out _ HBn.out HXs.out).mono ?_
          rintro e w1 ⟨rfl, hb1⟩
          have HB1 := Lib.hid (HBk.out.trans ((HBn.out.trans (hb1.mono HBn.out.size)).mono HBk.out.size))
          have HX1 := Lib.hid ((HX.out.next HBn.out).next hb1)
          have HY1 := Lib.hid ((HY.out.next HBn.out).next hb1)
          obtain ⟨q, hq⟩ : ∃ q, q = (m.t.loans.take k).any (crossL s) := ⟨_, rfl⟩
          rw [← hq]
          have HQ := Lib.hid hq
          clear hb1 hq a1 a2 a3 c0 c1 c2 c3 h0 h1 h2 hw1
          cases q
          · go_wp2
            all_goals (first | (refine ⟨?_, ?_⟩; (unfold RIs; exact ⟨k + 1, by omega, by go_num, HB1.out, HX1.out, HY1.out, by rw [HAL.out, HS.out, HOK.out, ← HQ.out]; rfl⟩); (simp [intOf]; omega)) | (go_roundw; (case rel => (unfold RIs; exact ⟨k + 1, by omega, by go_num, HB1.out, HX1.out, HY1.out, by rw [HAL.out, HS.out, HOK.out, ← HQ.out]; rfl⟩)); (case measure => (simp [intOf]; omega))) | (go_round; (case rel => (unfold RIs; exact ⟨k + 1, by omega, by go_num, HB1.out, HX1.out, HY1.out, by rw [HAL.out, HS.out, HOK.out, ← HQ.out]; rfl⟩)); (case measure => (simp [intOf]; omega))))
          · go_wp2
            go_ret
            refine ret_bool ?_ HB1.out
            rw [HD.out, HAL.out, HS.out, ← HQ.out]; simp
        all_goals
          try (have hw1 := HW.out a2)
          go_wp2_with (go_at_call 31; (with_reducible refine (within_any _ _ _ _).mono ?_); rintro e w' ⟨rfl, rfl⟩)
          go_ret
          refine ret_bool ?_ (HBk.out.trans ((nxA _ _).mono HBk.out.size))
          rw [HD.out, HAL.out, HS.out, Hk.out]; simp [*]
      · have HE := Lib.hid (okLoans_end (m := m.t.admits.length) hlt)
        have HL := Lib.hid (any_not m.t.looks (okLook n) (badLook n) fun _ => rfl)
        have HAd := Lib.hid (any_not m.t.admits okAdm badAdm fun _ => rfl)
        go_wp2_with fail
        refine (containsLook_any n (w.heap.size + 1) _ _ _ _ HTn.out.lk HTn.out.l2 HY.out hn1).mono ?_
        rintro e w1 ⟨rfl, hb1⟩
        have HB1 := Lib.hid (HBk.out.trans (hb1.mono HBk.out.size))
        have HX1 := Lib.hid (HX.out.next hb1)
        have c3 := HX1.out.c 3 _ rfl
        have hz' := HX1.out.lt
        have HT1 := Lib.hid (HTn.out.next hb1)
        have HQ := Lib.hid HL.out
        rw [HL.out]
        have HA2 := Lib.hid (show okTale m.t = (m.t.looks.all (okLook n) && m.t.admits.all okAdm) from by rw [HD.out, HA.out.1, HA.out.2.1, HA.out.2.2.1, HA.out.2.2.2, HAL.out, HE.out, HN.out]; simp)
        clear hb1
        obtain ⟨q, hq⟩ : ∃ q, q = m.t.looks.all (okLook n) := ⟨_, rfl⟩
        rw [← hq] at HA2 ⊢
        clear HQ HL hq
        cases q
        · go_wp2
          go_ret
          exact ret_bool (by rw [HA2.out]; rfl) HB1.out
        · go_wp2_with fail
          refine (containsAdm_any _ _ _ _ HT1.out.ad HT1.out.l3).mono ?_
          rintro e w2 ⟨rfl, hb2⟩
          have HB2 := Lib.hid (HB1.out.trans (hb2.mono HB1.out.size))
          rw [HAd.out]
          clear hb2
          go_wp2
          go_ret
          exact ret_bool (by rw [HA2.out]; simp) HB2.out
  all_goals
    have HBk := Lib.hid (nxA w (.cells #[.int .i64 m.t.n, .slice m.A1 m.t.loans.length m.c1, .slice m.A2 m.t.looks.length m.c2, .slice m.A3 m.t.admits.length m.c3] 26))
    have HF := Lib.hid (show okTale m.t = false by rw [HD.out]; simp [*])
    try (have b3 : decide ((12 : Int) < (m.t.loans.length : Int)) = false := by simp at a3 ⊢; omega)
    try (have b3 : decide ((12 : Int) < (m.t.loans.length : Int)) = true := by simp at a3 ⊢; omega)
    try (have b4 : decide ((20 : Int) < (m.t.looks.length : Int)) = true := by simp at a4 ⊢; omega)
    go_enter Tryd.func30, Tryd.ntmps30
    go_wp2_with (go_at_call 31; (with_reducible refine (within_any _ _ _ _).mono ?_); rintro e w' ⟨rfl, rfl⟩)
    go_ret
    exact ret_bool HF.out.symm HBk.out
end Go.Proofs.YtkcfpnpejaekjaaDoor
