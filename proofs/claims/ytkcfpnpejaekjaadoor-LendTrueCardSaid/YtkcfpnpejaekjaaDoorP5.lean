import Derived.Test.YtkcfpnpejaekjaaDoorP4
import Derived.Test.YtkcfpnpejaekjaaDoorR6
import Derived.Deep.Cut
namespace Go.Proofs.YtkcfpnpejaekjaaDoor
open Go.RowKit
/-! The program: suspects. -/
def RSp (m : Mt) (p : Nat) (w0 : World) (b g : Nat) (sv lv i : Value) (w : World) : Prop := ∃ (k S : Nat) (L : Int), k ≤ m.t.loans.length ∧ i = .int .i64 k ∧ sv = .int .i64 S ∧ lv = .int .i64 (min (goneS m.t.looks p) mxH - seenS m.t.looks p - L) ∧ Below w0.heap.size w0 w ∧ Bx w b m.cells ∧ Bx w g [.int .i64 (seenS m.t.looks p), .int .i64 (goneS m.t.looks p)] ∧ SuI (seenS m.t.looks p) (min (goneS m.t.looks p) mxH) m.t.loans k S L
def RetSu (m : Mt) (p : Nat) (w : World) (e : Ending) (w' : World) : Prop :=
  if goneS m.t.looks p ≤ seenS m.t.looks p then e = .panicked [{ v := .iface 95 (.agg #[]), recovered := false }] ∧ Below w.heap.size w w' else Ret (.int .i64 (susp m.t.loans m.t.looks p)) w e w'
set_option maxRecDepth 100000 in
set_option maxHeartbeats 4000000 in
theorem suspects_any (m : Mt) (p : Nat) (w : World) (hr : TaleAt w w.heap.size m) (ok : OkT m.t) (hp : p ≤ 62) : Calls Tryd.prog 67 #[.agg #[.int .i64 m.t.n, .slice m.A1 m.t.loans.length m.c1, .slice m.A2 m.t.looks.length m.c2, .slice m.A3 m.t.admits.length m.c3], .int .i64 p] w (RetSu m p w) := by
  have B0 := Lib.hid (nxA w (.cells #[.int .i64 m.t.n, .slice m.A1 m.t.loans.length m.c1, .slice m.A2 m.t.looks.length m.c2, .slice m.A3 m.t.admits.length m.c3] 26))
  have HX := Lib.hid (Bx.new w #[.int .i64 m.t.n, .slice m.A1 m.t.loans.length m.c1, .slice m.A2 m.t.looks.length m.c2, .slice m.A3 m.t.admits.length m.c3] 26)
  have HR := Lib.hid (hr.next B0.out)
  have OK := Lib.hid ok
  have HR0 := Lib.hid hr
  have l1 := ok.lo
  have hn2 := ok.n2
  have hn1 := ok.n1
  have c0 := HX.out.c 0 _ rfl
  have c1 := HX.out.c 1 _ rfl
  have c2 := HX.out.c 2 _ rfl
  have c3 := HX.out.c 3 _ rfl
  clear hr ok
  have hs1 := seenS_nonneg m.t.looks p
  have hs2 := seenS_le (l := m.t.looks) (k := p) fun x hx => (OK.out.look x hx).1.2
  have hg1 := goneS_le m.t.looks p
  have hg2 := goneS_nonneg (l := m.t.looks) (k := p) fun x hx => (OK.out.look x hx).1.1
  go_enter Tryd.func67, Tryd.ntmps67
  go_wp2_with fail
  generalize w.alloc (.cells #[.int .i64 m.t.n, .slice m.A1 m.t.loans.length m.c1, .slice m.A2 m.t.looks.length m.c2, .slice m.A3 m.t.admits.length m.c3] 26) = V at *
  refine (windowOf_any m.A2 m.c2 m.t.looks m.t.n.toNat p _ HR.out.lk HR.out.l2 (fun x hx => ⟨(OK.out.look x hx).2.1, (OK.out.look x hx).2.2.1⟩) (by omega) hp).mono ?_
  rintro e w1 ⟨rfl, hb1⟩
  have B1 := B0.out.trans (hb1.mono B0.out.size)
  have X1 := HX.out.next hb1
  have hzz := X1.lt
  have n3 := nxA w1 (.cells #[.int .i64 (seenS m.t.looks p), .int .i64 (goneS m.t.looks p)] 63)
  have y3 := Bx.new w1 #[.int .i64 (seenS m.t.looks p), .int .i64 (goneS m.t.looks p)] 63
  have B3 := Lib.hid (B1.trans (n3.mono B1.size))
  have X3 := Lib.hid (X1.next n3)
  have Y3 := Lib.hid y3
  clear hb1 B1 X1 n3 y3 c0 c1 c2 c3
  go_wp2_with fail
  generalize w1.alloc (.cells #[.int .i64 (seenS m.t.looks p), .int .i64 (goneS m.t.looks p)] 63) = V3 at *
  refine (isEmpty_any _ _ _).mono ?_
  rintro e w4 ⟨rfl, hb4⟩
  have B4 := Lib.hid (B3.out.trans (hb4.mono B3.out.size))
  have X4 := Lib.hid (X3.out.next hb4)
  have Y4 := Lib.hid (Y3.out.next hb4)
  obtain ⟨gw, hgw⟩ : ∃ gw, gw = w1.heap.size := ⟨_, rfl⟩
  rw [← hgw] at Y4 ⊢
  clear hb4 hgw HX B0 B3 X3 Y3
  by_cases h1 : goneS m.t.looks p ≤ seenS m.t.looks p
  · rw [decide_eq_true h1]
    go_wp2
    exact ⟨rfl, by unfold RetSu; rw [if_pos (by omega)]; exact ⟨rfl, B4.out⟩⟩
  · rw [decide_eq_false h1]
    have HE := Lib.hid (show RetSu m p w = Ret (.int .i64 (susp m.t.loans m.t.looks p)) w from by funext e w'; unfold RetSu; rw [if_neg h1])
    have HD := Lib.hid (show susp m.t.loans m.t.looks p = (lentS (seenS m.t.looks p) (min (goneS m.t.looks p) mxH) m.t.loans).1 ||| (if (lentS (seenS m.t.looks p) (min (goneS m.t.looks p) mxH) m.t.loans).2 < min (goneS m.t.looks p) mxH - seenS m.t.looks p then 64 else 0) ||| (if goneS m.t.looks p = mxH + 1 then 128 else 0) from by unfold susp; rw [if_neg h1])
    have HRS := Lib.hid (show ∀ (sv lv i : Value) (W : World), RSp m p w w.heap.size gw sv lv i W → ∃ (k S : Nat) (L : Int), k ≤ m.t.loans.length ∧ i = .int .i64 k ∧ sv = .int .i64 S ∧ lv = .int .i64 (min (goneS m.t.looks p) mxH - seenS m.t.looks p - L) ∧ Below w.heap.size w W ∧ Bx W w.heap.size m.cells ∧ Bx W gw [.int .i64 (seenS m.t.looks p), .int .i64 (goneS m.t.looks p)] ∧ SuI (seenS m.t.looks p) (min (goneS m.t.looks p) mxH) m.t.loans k S L from fun _ _ _ _ h => h)
    have HRT := Lib.hid (show ∀ (k S : Nat) (L : Int) (sv lv i : Value) (W : World), k ≤ m.t.loans.length → i = .int .i64 k → sv = .int .i64 S → lv = .int .i64 (min (goneS m.t.looks p) mxH - seenS m.t.looks p - L) → Below w.heap.size w W → Bx W w.heap.size m.cells → Bx W gw [.int .i64 (seenS m.t.looks p), .int .i64 (goneS m.t.looks p)] → SuI (seenS m.t.looks p) (min (goneS m.t.looks p) mxH) m.t.loans k S L → RSp m p w w.heap.size gw sv lv i W from fun k S L _ _ _ _ h1 h2 h3 h4 h5 h6 h7 h8 => ⟨k, S, L, h1, h2, h3, h4, h5, h6, h7, h8⟩)
    have y0 := Y4.out.c 0 _ rfl
    have y1 := Y4.out.c 1 _ rfl
    have c1 := X4.out.c 1 _ rfl
    have hz := X4.out.lt
    have hgz := Y4.out.lt
    generalize seenS m.t.looks p = lo at *
    generalize goneS m.t.looks p = gv at *
    have hm : mxH = 1048576 := rfl
    obtain ⟨E, hE⟩ : ∃ E, E = min gv mxH := ⟨_, rfl⟩
    have w4 : wrap64 (E - lo) = E - lo := IntWalk.wrap64_in _ (by omega)
    have hE2 : E = (if 1048576 < gv then 1048576 else gv) := by rw [hE, hm]; split <;> omega
    rw [← hE] at HD HRS HRT
    have hE0 : lo ≤ E ∧ E ≤ 1048576 := by omega
    have HEq := Lib.hid hE
    clear hE
    go_upto_region 5 with fail
    rw [← hE2]
    clear hE2 w4
    go_wp2
    go_loopw [4, 6, 27] (fun sv lv i wr => RSp m p w w.heap.size gw sv lv i wr) (fun _ _ i _ => m.t.loans.length - (intOf i).toNat)
    case atStart => exact HRT.out 0 0 0 _ _ _ _ (by omega) rfl rfl (by rw [Int.sub_zero]) B4.out X4.out Y4.out ⟨rfl, by omega, by omega, by omega⟩
    case round =>
      obtain ⟨k, S, L, hk, rfl, rfl, rfl, hb, hx, hy, hI⟩ := HRS.out _ _ _ _ hrel
      clear hrel y0 y1 c1 hz hgz
      have hz := hx.lt
      have hgz := hy.lt
      have y0 := hy.c 0 _ rfl
      have y1 := hy.c 1 _ rfl
      have HB := Lib.hid hb
      have HX := Lib.hid hx
      have HY := Lib.hid hy
      have HI := Lib.hid hI
      have hS := hI.s
      have hL0 := hI.l0
      have hL1 := hI.l1
      clear hx hy hI
      by_cases hlt : k < m.t.loans.length
      · obtain ⟨b, off, e, hbk, g0, g1, g2⟩ := loan_at (HR0.out.lo.below hb) hlt
        have hbs : b < wr.heap.size := Nat.lt_of_lt_of_le hbk hb.size
        have HG := OK.out.lent.good _ (getD_mem (d := ⟨0, 0, 0⟩) hlt)
        have HST := Lib.hid (lentS_step (lo := lo) (hi := E) hlt)
        generalize m.t.loans.getD k ⟨0, 0, 0⟩ = x at *
        clear hb
        generalize m.A1 = A1 at *
        subst e
        go_upto_region 9 with (go_quiet (fail))
        have n5 := nxA wr (.cells #[.int .i64 x.p, .int .i64 x.a, .int .i64 x.b] 44)
        have HB2 := Lib.hid (HB.out.trans (n5.mono HB.out.size))
        have HX2 := Lib.hid (HX.out.next n5)
        have HY2 := Lib.hid (HY.out.next n5)
        have x5 := Bx.new wr #[.int .i64 x.p, .int .i64 x.a, .int .i64 x.b] 44
        generalize wr.alloc (.cells #[.int .i64 x.p, .int .i64 x.a, .int .i64 x.b] 44) = W2 at *
        have hgx := x5.lt
        have q0 := x5.c 0 _ rfl
        have hm : mxH = 1048576 := rfl
        obtain ⟨mn, hmn⟩ : ∃ mn, mn = (if gv < x.b then gv else x.b) := ⟨_, rfl⟩
        obtain ⟨mx, hmx⟩ : ∃ mx, mx = (if x.a < lo then lo else x.a) := ⟨_, rfl⟩
        rw [← hmn, ← hmx]
        have e1 : mn = min x.b E := by have := HEq.out; have hm : mxH = 1048576 := rfl; rw [hmn]; split <;> omega
        have e2 : mx = max x.a lo := by rw [hmx]; split <;> omega
        have hov : ovl x lo E = mn - mx := by unfold ovl; rw [e1, e2]
        have hwr : wrap64 (mn - mx) = mn - mx := IntWalk.wrap64_in _ (by omega)
        rw [hwr]
        obtain ⟨P, hP⟩ : ∃ P : Nat, x.p = P := ⟨x.p.toNat, by omega⟩
        have hP6 : P < 6 := by omega
        have hPt : x.p.toNat = P := by omega
        rw [hov, hPt, HI.out.e] at HST
        rw [hP] at q0 ⊢
        have hbd : -1048576 ≤ mn - mx ∧ mn - mx ≤ 1048576 := by omega
        obtain ⟨o1, o2, o3⟩ := or_small ⟨S, hS⟩ ⟨P, hP6⟩
        dsimp only at o1 o2 o3
        have h64 : 2 ^ P ≤ 32 := Nat.pow_le_pow_right (by decide) (show P ≤ 5 by omega)
        have HOR := Lib.hid (show bits BinOp.or IntKind.i64 (S : Int) (wrap64 (2 ^ P)) = ((S ||| 2 ^ P : Nat) : Int) from by
          obtain ⟨T, hT⟩ : ∃ T : Nat, T = 2 ^ P := ⟨_, rfl⟩
          have hT32 : T ≤ 32 := by rw [hT]; exact h64
          rw [show ((2 : Int) ^ P) = (T : Int) by rw [hT]; push_cast; rfl, ← hT, IntWalk.wrap64_in _ (by omega)]
          exact i64_or_nat _ _ (by omega) (by omega))
        have HO := Lib.hid o1
        clear hmn hmx e1 e2 hov hwr HG hP hPt o1 o2 o3 g0 g1 g2 hbs x5 n5 h64
        generalize mn - mx = nn at *
        by_cases hn : 0 < nn
        · have HSTp := Lib.hid (HST.out.trans (if_pos hn))
          go_wp2
          refine ⟨HRT.out (k + 1) (S ||| 2 ^ P) (L + nn) _ _ _ _ (by omega) (by go_num) (by rw [HOR.out]) (by rw [show E - lo - L - nn = E - lo - (L + nn) by omega]) HB2.out HX2.out HY2.out ⟨HSTp.out, HO.out, by omega, by push_cast; omega⟩, by simp [intOf]; omega⟩
        · have HSTn := Lib.hid (HST.out.trans (if_neg hn))
          go_wp2
          refine ⟨HRT.out (k + 1) S L _ _ _ _ (by omega) (by go_num) rfl rfl HB2.out HX2.out HY2.out ⟨HSTn.out, hS, by omega, by push_cast; omega⟩, by simp [intOf]; omega⟩
      · have e1 : m.t.loans.take k = m.t.loans := List.take_of_length_le (by omega)
        have hle := HI.out.e
        rw [e1] at hle
        rw [hle] at HD
        dsimp only at HD
        obtain ⟨o1, o2, o3, o4, o5, o6⟩ := or_top ⟨S, hS⟩
        dsimp only at o1 o2 o3 o4 o5 o6
        have HO := Lib.hid (And.intro o1 (And.intro o2 (And.intro o3 (And.intro o4 (And.intro o5 o6)))))
        have b1 := Lib.hid (show bits BinOp.or IntKind.i64 (S : Int) 64 = ((S ||| 64 : Nat) : Int) from i64_or_nat S 64 (by omega) (by omega))
        have b2 := Lib.hid (show bits BinOp.or IntKind.i64 (S : Int) 128 = ((S ||| 128 : Nat) : Int) from i64_or_nat S 128 (by omega) (by omega))
        have b3 := Lib.hid (show bits BinOp.or IntKind.i64 ((S ||| 64 : Nat) : Int) 128 = ((S ||| 64 ||| 128 : Nat) : Int) from i64_or_nat (S ||| 64) 128 (by omega) (by omega))
        have hm : mxH = 1048576 := rfl
        rw [hm] at HD
        clear hle e1 o1 o2 o3 o4 o5 o6
        by_cases hA : 0 < E - lo - L <;> by_cases hB : gv = 1048577
        · have HF := Lib.hid (show susp m.t.loans m.t.looks p = S ||| 64 ||| 128 from by rw [HD.out, if_pos (by omega), if_pos (by omega)])
          go_wp2
          go_ret
          rw [HE.out]
          exact ret_int (by rw [b1.out, b3.out, HF.out]) HB.out
        · have HF := Lib.hid (show susp m.t.loans m.t.looks p = S ||| 64 from by rw [HD.out, if_pos (by omega), if_neg (by omega)]; exact Nat.or_zero _)
          go_wp2
          go_ret
          rw [HE.out]
          exact ret_int (by rw [b1.out, HF.out]) HB.out
        · have HF := Lib.hid (show susp m.t.loans m.t.looks p = S ||| 128 from by rw [HD.out, if_neg (by omega), if_pos (by omega), Nat.or_zero])
          go_wp2
          go_ret
          rw [HE.out]
          exact ret_int (by rw [b2.out, HF.out]) HB.out
        · have HF := Lib.hid (show susp m.t.loans m.t.looks p = S from by rw [HD.out, if_neg (by omega), if_neg (by omega), Nat.or_zero]; exact Nat.or_zero _)
          go_wp2
          go_ret
          rw [HE.out]
          exact ret_int (by rw [HF.out]) HB.out
end Go.Proofs.YtkcfpnpejaekjaaDoor
