import Derived.Test.YtkcfpnpejaekjaaDoorR5
import Derived.Deep.Cut
namespace Go.Proofs.YtkcfpnpejaekjaaDoor
open Go.RowKit
/-! The reference: Suspects. -/
theorem lentS_step {lo hi : Int} {l : List Loan} {k : Nat} (hk : k < l.length) : lentS lo hi (l.take (k + 1)) = if 0 < ovl (l.getD k ⟨0, 0, 0⟩) lo hi then ((lentS lo hi (l.take k)).1 ||| 2 ^ (l.getD k ⟨0, 0, 0⟩).p.toNat, (lentS lo hi (l.take k)).2 + ovl (l.getD k ⟨0, 0, 0⟩) lo hi) else lentS lo hi (l.take k) := by
  have hg : l.getD k ⟨0, 0, 0⟩ = l[k] := by rw [List.getD_eq_getElem?_getD, List.getElem?_eq_getElem hk]; rfl
  unfold lentS
  rw [hg, List.take_succ_eq_append_getElem hk, List.foldl_append]; rfl
theorem or_small : ∀ s : Fin 64, ∀ p : Fin 6, (s.val ||| 2 ^ p.val) < 64 ∧ (has s.val p.val = true → s.val ||| 2 ^ p.val = s.val) ∧ (has s.val p.val = false → s.val ||| 2 ^ p.val = s.val + 2 ^ p.val) := by decide +kernel
theorem or_top : ∀ s : Fin 64, s.val ||| 64 = s.val + 64 ∧ s.val ||| 128 = s.val + 128 ∧ s.val ||| 64 ||| 128 = s.val + 64 + 128 ∧ s.val ||| 0 = s.val ∧ s.val ||| 64 ||| 0 = s.val + 64 ∧ s.val ||| 0 ||| 128 = s.val + 128 := by decide +kernel
structure SuI (lo hi : Int) (l : List Loan) (k S : Nat) (L : Int) : Prop where
  e : lentS lo hi (l.take k) = (S, L)
  s : S < 64
  l0 : 0 ≤ L
  l1 : L ≤ 1048576 * k
def RSu (m : Mt) (p : Nat) (w0 : World) (b : Nat) (sv lv i : Value) (w : World) : Prop := ∃ (k S : Nat) (L : Int), k ≤ m.t.loans.length ∧ i = .int .i64 k ∧ sv = .int .i64 S ∧ lv = .int .i64 L ∧ Below w0.heap.size w0 w ∧ Bx w b m.cells ∧ SuI (seenS m.t.looks p) (min (goneS m.t.looks p) mxH) m.t.loans k S L
set_option maxRecDepth 100000 in
set_option maxHeartbeats 4000000 in
theorem Suspects_any (m : Mt) (p : Nat) (w : World) (hr : TaleAt w w.heap.size m) (ok : OkT m.t) (hp : p ≤ 62) : Calls Tryd.prog 50 #[.agg #[.int .i64 m.t.n, .slice m.A1 m.t.loans.length m.c1, .slice m.A2 m.t.looks.length m.c2, .slice m.A3 m.t.admits.length m.c3], .int .i64 p] w (Ret (.int .i64 (susp m.t.loans m.t.looks p)) w) := by
  have B0 := Lib.hid (nxA w (.cells #[.int .i64 m.t.n, .slice m.A1 m.t.loans.length m.c1, .slice m.A2 m.t.looks.length m.c2, .slice m.A3 m.t.admits.length m.c3] 26))
  have HX := Lib.hid (Bx.new w #[.int .i64 m.t.n, .slice m.A1 m.t.loans.length m.c1, .slice m.A2 m.t.looks.length m.c2, .slice m.A3 m.t.admits.length m.c3] 26)
  have HR := Lib.hid (hr.next B0.out)
  have OK := Lib.hid ok
  have HR0 := Lib.hid hr
  have l1 := ok.lo
  clear hr ok
  have HD := Lib.hid (show susp m.t.loans m.t.looks p = if goneS m.t.looks p ≤ seenS m.t.looks p then 0 else
    (lentS (seenS m.t.looks p) (min (goneS m.t.looks p) mxH) m.t.loans).1 ||| (if (lentS (seenS m.t.looks p) (min (goneS m.t.looks p) mxH) m.t.loans).2 < min (goneS m.t.looks p) mxH - seenS m.t.looks p then 64 else 0) ||| (if goneS m.t.looks p = mxH + 1 then 128 else 0) from rfl)
  have hs1 := seenS_nonneg m.t.looks p
  have hs2 := seenS_le (l := m.t.looks) (k := p) fun x hx => (OK.out.look x hx).1.2
  have hg1 := goneS_le m.t.looks p
  have hg2 := goneS_nonneg (l := m.t.looks) (k := p) fun x hx => (OK.out.look x hx).1.1
  go_enter Tryd.func50, Tryd.ntmps50
  go_wp2_with fail
  generalize w.alloc (.cells #[.int .i64 m.t.n, .slice m.A1 m.t.loans.length m.c1, .slice m.A2 m.t.looks.length m.c2, .slice m.A3 m.t.admits.length m.c3] 26) = V at *
  refine (bounds_any m p _ HR.out OK.out hp).mono ?_
  rintro e w1 ⟨rfl, hb1⟩
  have B1 := Lib.hid (B0.out.trans (hb1.mono B0.out.size))
  have X1 := Lib.hid (HX.out.next hb1)
  have R1 := Lib.hid (HR.out.next hb1)
  have hz := X1.out.lt
  have HRS := Lib.hid (show ∀ (sv lv i : Value) (W : World), RSu m p w w.heap.size sv lv i W → ∃ (k S : Nat) (L : Int), k ≤ m.t.loans.length ∧ i = .int .i64 k ∧ sv = .int .i64 S ∧ lv = .int .i64 L ∧ Below w.heap.size w W ∧ Bx W w.heap.size m.cells ∧ SuI (seenS m.t.looks p) (min (goneS m.t.looks p) mxH) m.t.loans k S L from fun _ _ _ _ h => h)
  have HRT := Lib.hid (show ∀ (k S : Nat) (L : Int) (sv lv i : Value) (W : World), k ≤ m.t.loans.length → i = .int .i64 k → sv = .int .i64 S → lv = .int .i64 L → Below w.heap.size w W → Bx W w.heap.size m.cells → SuI (seenS m.t.looks p) (min (goneS m.t.looks p) mxH) m.t.loans k S L → RSu m p w w.heap.size sv lv i W from fun k S L _ _ _ _ h1 h2 h3 h4 h5 h6 h7 => ⟨k, S, L, h1, h2, h3, h4, h5, h6, h7⟩)
  clear hb1 HR HX B0
  generalize seenS m.t.looks p = lo at *
  generalize goneS m.t.looks p = gv at *
  by_cases h1 : gv ≤ lo
  · have HE := Lib.hid (show susp m.t.loans m.t.looks p = 0 from by rw [HD.out, if_pos h1])
    go_wp2
    go_ret
    exact ret_int (by rw [HE.out]; rfl) B1.out
  · have HE := Lib.hid (show susp m.t.loans m.t.looks p = (lentS lo (min gv mxH) m.t.loans).1 ||| (if (lentS lo (min gv mxH) m.t.loans).2 < min gv mxH - lo then 64 else 0) ||| (if gv = mxH + 1 then 128 else 0) from by rw [HD.out, if_neg h1])
    clear HD
    go_wp2
    go_loopw [7, 8, 9] (fun sv lv i wr => RSu m p w w.heap.size sv lv i wr) (fun _ _ i _ => m.t.loans.length - (intOf i).toNat)
    case atStart => exact HRT.out 0 0 0 _ _ _ _ (by omega) rfl rfl rfl B1.out X1.out ⟨rfl, by omega, by omega, by omega⟩
    case round =>
      obtain ⟨k, S, L, hk, rfl, rfl, rfl, hb, hx, hI⟩ := HRS.out _ _ _ _ hrel
      clear hrel
      have hz := hx.lt
      have c1 := hx.c 1 _ rfl
      have HB := Lib.hid hb
      have HX := Lib.hid hx
      have HI := Lib.hid hI
      have hS := hI.s
      have hL0 := hI.l0
      have hL1 := hI.l1
      clear hx hI
      by_cases hlt : k < m.t.loans.length
      · obtain ⟨b, off, e, hbk, g0, g1, g2⟩ := loan_at (HR0.out.lo.below hb) hlt
        have hbs : b < wr.heap.size := Nat.lt_of_lt_of_le hbk hb.size
        have HG := OK.out.lent.good _ (getD_mem (d := ⟨0, 0, 0⟩) hlt)
        have HST := Lib.hid (lentS_step (lo := lo) (hi := min gv mxH) hlt)
        rw [e] at c1
        clear hb e
        generalize m.t.loans.getD k ⟨0, 0, 0⟩ = x at *
        go_upto_region 9 with (go_quiet (fail))
        have HB2 := Lib.hid (below_drewN HB.out nq)
        have HX2 := Lib.hid (HX.out.drewN (n := nq))
        have c1' : (wr.drewN nq).cell? ⟨w.heap.size, 1, none⟩ = some (.slice (some ⟨b, off, none⟩) m.t.loans.length m.c1) := c1
        have g0' : (wr.drewN nq).cell? ⟨b, off + k * 3, none⟩ = some (.int .i64 x.p) := g0
        have hz' : w.heap.size < (wr.drewN nq).heap.size := hz
        have hbs' : b < (wr.drewN nq).heap.size := hbs
        obtain ⟨mn, hmn⟩ : ∃ mn, mn = (if 1048576 < if gv < x.b then gv else x.b then 1048576 else if gv < x.b then gv else x.b) := ⟨_, rfl⟩
        obtain ⟨mx, hmx⟩ : ∃ mx, mx = (if x.a < lo then lo else x.a) := ⟨_, rfl⟩
        rw [← hmn, ← hmx]
        have hm : mxH = 1048576 := rfl
        have e1 : mn = min x.b (min gv mxH) := by rw [hmn]; split <;> split <;> omega
        have e2 : mx = max x.a lo := by rw [hmx]; split <;> omega
        have hov : ovl x lo (min gv mxH) = mn - mx := by unfold ovl; rw [e1, e2]
        have hwr : wrap64 (mn - mx) = mn - mx := IntWalk.wrap64_in _ (by omega)
        rw [hwr]
        obtain ⟨P, hP⟩ : ∃ P : Nat, x.p = P := ⟨x.p.toNat, by omega⟩
        have hP6 : P < 6 := by omega
        have hPt : x.p.toNat = P := by omega
        rw [hov, hPt, HI.out.e] at HST
        rw [hP] at g0'
        generalize wr.drewN nq = W2 at *
        have hbd : -1048576 ≤ mn - mx ∧ mn - mx ≤ 1048576 := by omega
        have hlw : IntKind.i64.wrap (L + (mn - mx)) = L + (mn - mx) := by rw [IntKind.wrap_i64]; omega
        obtain ⟨o1, o2, o3⟩ := or_small ⟨S, hS⟩ ⟨P, hP6⟩
        dsimp only at o1 o2 o3
        have HO := Lib.hid (And.intro o1 (And.intro o2 o3))
        have hSd := HI.out
        clear hmn hmx e1 e2 hov hwr HG hP hPt o1 o2 o3 g0 g1 g2 c1 hbs hz hm hSd
        generalize mn - mx = nn at *
        by_cases hn : 0 < nn
        · have HSTp := Lib.hid (HST.out.trans (if_pos hn))
          have HHP := Lib.hid (fun W => has_any S P (by omega) (by omega) W)
          have HPW := Lib.hid (fun W => power_any P (by omega) W)
          cases hh : has S P
          · have hE := HO.out.2.2 hh
            have hpw : powI P = ((2 ^ P : Nat) : Int) := rfl
            have h64 : 2 ^ P ≤ 32 := Nat.pow_le_pow_right (by decide) (show P ≤ 5 by omega)
            have hps := Lib.hid (show wrap64 ((S : Int) + powI P) = ((S ||| 2 ^ P : Nat) : Int) from by
              rw [hE, hpw, IntWalk.wrap64_in _ (by omega)]; push_cast; rfl)
            clear hE hpw h64
            go_wp2_with (first | (go_at_call 60; (with_reducible refine (HHP.out _).mono ?_); rintro e w' ⟨rfl, rfl⟩) | (go_at_call 45; (with_reducible refine (HPW.out _).mono ?_); rintro e w' ⟨rfl, rfl⟩))
            refine ⟨HRT.out (k + 1) (S ||| 2 ^ P) (L + nn) _ _ _ _ (by omega) (by go_num) (by rw [hps.out]) rfl HB2.out HX2.out ⟨HSTp.out, HO.out.1, by omega, by push_cast; omega⟩, by simp [intOf]; omega⟩
          · have hE := HO.out.2.1 hh
            have HSTq := Lib.hid (show lentS lo (min gv mxH) (m.t.loans.take (k + 1)) = (S, L + nn) from by rw [HSTp.out, hE])
            clear hE
            go_wp2_with (first | (go_at_call 60; (with_reducible refine (HHP.out _).mono ?_); rintro e w' ⟨rfl, rfl⟩) | (go_at_call 45; (with_reducible refine (HPW.out _).mono ?_); rintro e w' ⟨rfl, rfl⟩))
            refine ⟨HRT.out (k + 1) S (L + nn) _ _ _ _ (by omega) (by go_num) rfl rfl HB2.out HX2.out ⟨HSTq.out, hS, by omega, by push_cast; omega⟩, by simp [intOf]; omega⟩
        · have HSTn := Lib.hid (HST.out.trans (if_neg hn))
          go_wp2
          refine ⟨HRT.out (k + 1) S L _ _ _ _ (by omega) (by go_num) rfl rfl HB2.out HX2.out ⟨HSTn.out, hS, by omega, by push_cast; omega⟩, by simp [intOf]; omega⟩
      · have e1 : m.t.loans.take k = m.t.loans := List.take_of_length_le (by omega)
        have hle := HI.out.e
        rw [e1] at hle
        rw [hle] at HE
        dsimp only at HE
        obtain ⟨o1, o2, o3, o4, o5, o6⟩ := or_top ⟨S, hS⟩
        dsimp only at o1 o2 o3 o4 o5 o6
        have HO := Lib.hid (And.intro o1 (And.intro o2 (And.intro o3 (And.intro o4 (And.intro o5 o6)))))
        have HP6 := Lib.hid (fun W => show Calls Tryd.prog 45 #[.int .i64 6] W (RetQ (.int .i64 64) W) from power_any 6 (by omega) W)
        have HP7 := Lib.hid (fun W => show Calls Tryd.prog 45 #[.int .i64 7] W (RetQ (.int .i64 128) W) from power_any 7 (by omega) W)
        have w1' : IntKind.i64.wrap ((S : Int) + 64) = S + 64 := IntWalk.i64_in _ (by omega)
        have w2' : IntKind.i64.wrap ((S : Int) + 128) = S + 128 := IntWalk.i64_in _ (by omega)
        have w3' : IntKind.i64.wrap ((S : Int) + 64 + 128) = S + 64 + 128 := IntWalk.i64_in _ (by omega)
        have hm : mxH = 1048576 := rfl
        rw [hm] at HE hs2 hg1
        clear hle e1 o1 o2 o3 o4 o5 o6 hm
        by_cases hB : gv = 1048577
        · subst hB
          have w4 : IntKind.i64.wrap (1048576 - lo) = 1048576 - lo := IntWalk.i64_in _ (by omega)
          by_cases hA : L < 1048576 - lo
          · have HF := Lib.hid (show susp m.t.loans m.t.looks p = S + 64 + 128 from by rw [HE.out, if_pos (by omega), if_pos (show (1048577 : Int) = 1048576 + 1 from rfl)]; exact HO.out.2.2.1)
            go_wp2_with (first | (go_at_call 45; (with_reducible refine (HP6.out _).mono ?_); rintro e w' ⟨rfl, rfl⟩) | (go_at_call 45; (with_reducible refine (HP7.out _).mono ?_); rintro e w' ⟨rfl, rfl⟩))
            go_ret
            exact ret_int (by rw [HF.out]; push_cast; rfl) HB.out
          · have HF := Lib.hid (show susp m.t.loans m.t.looks p = S + 128 from by rw [HE.out, if_neg (by omega), if_pos (show (1048577 : Int) = 1048576 + 1 from rfl)]; exact HO.out.2.2.2.2.2)
            go_wp2_with (first | (go_at_call 45; (with_reducible refine (HP6.out _).mono ?_); rintro e w' ⟨rfl, rfl⟩) | (go_at_call 45; (with_reducible refine (HP7.out _).mono ?_); rintro e w' ⟨rfl, rfl⟩))
            go_ret
            exact ret_int (by rw [HF.out]; push_cast; rfl) HB.out
        · have hB2 : gv ≤ 1048576 := by omega
          have w4 : IntKind.i64.wrap (gv - lo) = gv - lo := IntWalk.i64_in _ (by omega)
          by_cases hA : L < gv - lo
          · have HF := Lib.hid (show susp m.t.loans m.t.looks p = S + 64 from by rw [HE.out, if_pos (by omega), if_neg (by omega)]; exact HO.out.2.2.2.2.1)
            go_wp2_with (first | (go_at_call 45; (with_reducible refine (HP6.out _).mono ?_); rintro e w' ⟨rfl, rfl⟩) | (go_at_call 45; (with_reducible refine (HP7.out _).mono ?_); rintro e w' ⟨rfl, rfl⟩))
            go_ret
            exact ret_int (by rw [HF.out]; push_cast; rfl) HB.out
          · have HF := Lib.hid (show susp m.t.loans m.t.looks p = S from by rw [HE.out, if_neg (by omega), if_neg (by omega)]; simp)
            go_wp2_with (first | (go_at_call 45; (with_reducible refine (HP6.out _).mono ?_); rintro e w' ⟨rfl, rfl⟩) | (go_at_call 45; (with_reducible refine (HP7.out _).mono ?_); rintro e w' ⟨rfl, rfl⟩))
            go_ret
            exact ret_int (by rw [HF.out]) HB.out
end Go.Proofs.YtkcfpnpejaekjaaDoor
