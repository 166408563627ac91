import Derived.Test.YtonnemkecppmiaaGreatDoorC1
import Derived.Test.YtonnemkecppmiaaGreatDoorLx
namespace Go.Proofs.YtonnemkecppmiaaGreatDoor
open Go.RowKit
/-! The law BookGrows. -/
theorem rem_u8 {n : Nat} (h : 0 < n) {x : Int} (h0 : 0 ≤ x) : ∃ k : Nat, k < n ∧ Int.tmod x (n : Int) = (k : Int) ∧ x % (n : Int) = (k : Int) := by
  obtain ⟨m, rfl⟩ := Int.eq_ofNat_of_zero_le h0
  exact ⟨m % n, Nat.mod_lt _ h, by rw [Int.tmod_eq_emod_of_nonneg (by omega)]; rfl, rfl⟩
theorem wrL_e (l : List Wo) : (wrL l).2 = checkW l := by
  unfold wrL
  split
  · rename_i h; exact h.symm
  · rfl
def RTu (l : List Wo) (w0 : World) (v i : Value) (w : World) : Prop := ∃ j : Nat, j ≤ l.length ∧ i = .int .i64 j ∧ w.ownsRow w0.heap.size 66 4 v (l.reverse.take j).length ((l.reverse.take j).flatMap Wo.cells) ∧ Below w0.heap.size w0 w
set_option maxRecDepth 100000 in
set_option maxHeartbeats 4000000 in
theorem BookGrows_walk (A : Option Addr) (c : Nat) (l : List Wo) (x : Int) (w : World) (hE : Env w) (h0 : At w w.heap.size 4 Wo.cells A l) (n0 : l.length ≤ 9223372036854775807) (hc : l.length ≤ c) (hx : (Lit.int .u8 x).wf = true) : Calls Tryz.prog 11 #[.slice A l.length c, .int .u8 x] w (Ret (.bool true) w) := by
  simp [Lit.wf, IntKind.min, IntKind.max, IntKind.bits, IntKind.signed] at hx
  have HE := Lib.hid hE
  have HB := Lib.hid (Below.refl w.heap.size w)
  have HL := Lib.hid h0
  have HW := Lib.hid (fun (W : World) (h1 : Env W) (h2 : At W W.heap.size 4 Wo.cells A l) => WriteLog_any A c l W h1 h2 n0)
  clear hE h0
  by_cases h50 : 50 < l.length
  · have hq : (50 : Int) < (l.length : Int) := by omega
    go_enter Tryz.func11, Tryz.ntmps11
    go_wp2_with fail
    refine (alive_any w HE.out).mono ?_
    rintro e W99 ⟨rfl, hb⟩
    go_wp2_with fail
    go_ret
    exact ret_bool rfl (HB.out.trans (hb.mono HB.out.size))
  have hq : ¬ (50 : Int) < (l.length : Int) := by omega
  obtain ⟨k, hk, hk1, hk2⟩ := rem_u8 (n := l.length + 1) (by omega) hx.1
  push_cast at hk1 hk2
  have hwk : IntKind.i64.wrap ((l.length : Int) + 1) = (l.length : Int) + 1 := IntWalk.i64_in _ (by omega)
  by_cases h1 : checkW l = 0
  · have hw : wrL l = (logT l, 0) := by unfold wrL; rw [if_pos h1]
    have hwt : wrL (l.take k) = (logT (l.take k), 0) := by unfold wrL; rw [if_pos (check_take h1 k)]
    rw [hw] at HW
    have HKL := Lib.hid (show (l.take k).length = k by rw [List.length_take]; omega)
    have HWT := Lib.hid (fun (W : World) (h1 : Env W) (h2 : At W W.heap.size 4 Wo.cells A (l.take k)) => (by have := WriteLog_any A c (l.take k) W h1 h2 (by rw [HKL.out]; omega); rw [hwt, HKL.out] at this; exact this : Calls Tryz.prog 27 #[.slice A k c] W (RetS (logT (l.take k)) 0 W)))
    have HRL := Lib.hid (rl_log (check_take h1 k))
    have HHP := Lib.hid (show Lib.hasPrefix (logT l) (logT (l.take k)) = true by
      obtain ⟨r, hr⟩ := log_take l k
      unfold Lib.hasPrefix
      rw [List.isPrefixOf_iff_prefix]
      exact ⟨r, hr.symm⟩)
    have HSW := Lib.hid (fun (A9 : Option Addr) (c9 : Nat) (W : World) (h1 : At W W.heap.size 4 Wo.cells A9 (l.take k)) (h2 : At W W.heap.size 4 Wo.cells A (l.take k)) => (by have := SameWords_any A9 A c9 c (l.take k) (l.take k) W h1 h2 (by rw [HKL.out]; omega); rw [HKL.out, show decide (l.take k = l.take k) = true from decide_eq_true rfl] at this; exact this : Calls Tryz.prog 28 #[.slice A9 k c9, .slice A k c] W (Ret (.bool true) W)))
    have HLT := Lib.hid (HL.out.take k)
    have HT := Lib.hid (check_turned h1)
    have HH := Lib.hid h1
    clear hw hwt h1
    go_enter Tryz.func11, Tryz.ntmps11
    go_wp2_with fail
    refine (HW.out w HE.out HL.out).mono ?_
    rintro e W0 ⟨rfl, hb⟩
    replace HLT := Lib.hid (HLT.out.next hb)
    replace HE := Lib.hid (HE.out.next hb)
    replace HB := Lib.hid (HB.out.trans (hb.mono HB.out.size))
    replace HL := Lib.hid (HL.out.next hb)
    clear hb
    go_wp2_with fail
    refine (HWT.out W0 HE.out HLT.out).mono ?_
    rintro e W1 ⟨rfl, hb⟩
    replace HE := Lib.hid (HE.out.next hb)
    replace HB := Lib.hid (HB.out.trans (hb.mono HB.out.size))
    replace HL := Lib.hid (HL.out.next hb)
    replace HLT := Lib.hid (HLT.out.next hb)
    clear hb
    go_wp2_with fail
    refine (ReadLog_any (logT (l.take k)) W1 HE.out).mono ?_
    rintro e W2 ⟨v9, rfl, ho, hb⟩
    rw [HRL.out.2]
    rw [HRL.out.1] at ho
    replace HE := Lib.hid (HE.out.next hb)
    replace HB := Lib.hid (HB.out.trans (hb.mono HB.out.size))
    replace HL := Lib.hid (HL.out.next hb)
    replace HLT := Lib.hid (HLT.out.next hb)
    obtain ⟨A9, c9, e9, ha9⟩ := own_at wo_len (by decide) ho
    rw [HKL.out] at e9
    subst e9
    have HA9 := Lib.hid ha9
    clear ha9 ho hb
    go_wp2_with fail
    refine (Tryz.strings_HasPrefix ⟨(logT l).toArray⟩ ⟨(logT (l.take k)).toArray⟩ W2).mono ?_
    rintro e W3 ⟨rfl, hw3⟩
    have hw3' := hw3.symm
    clear hw3
    subst hw3'
    rw [HHP.out]
    go_wp2_with fail
    refine (HSW.out A9 c9 _ HA9.out HLT.out).mono ?_
    rintro e W4 ⟨rfl, hb⟩
    replace HE := Lib.hid (HE.out.next hb)
    replace HB := Lib.hid (HB.out.trans (hb.mono HB.out.size))
    replace HL := Lib.hid (HL.out.next hb)
    clear hb HA9 HLT
    go_wp2_with fail
    go_loopw [12, 73] (fun v i wr => RTu l W4 v i wr) (fun _ i _ => l.length - (intOf i).toNat)
    case atStart => exact ⟨0, by omega, rfl, World.ownsRow_nil _ _ _ _, Below.refl _ _⟩
    case round =>
      obtain ⟨j, hj, rfl, hown, hb⟩ := hrel
      have HOWN := Lib.hid hown
      have HBL := Lib.hid hb
      clear hown hb
      have hwj : IntKind.i64.wrap ((j : Int) + 1) = (j : Int) + 1 := IntWalk.i64_in _ (by omega)
      by_cases hlt : j < l.length
      · have d1 : decide ((j : Int) < (l.length : Int)) = true := decide_eq_true (by omega)
        obtain ⟨q, hq0⟩ : ∃ q : Nat, q = l.length - 1 - j := ⟨_, rfl⟩
        have hqe : (q : Int) = (l.length : Int) - 1 - (j : Int) := by omega
        have hql : q < l.length := by omega
        have hy0 : j < l.reverse.length := by rw [List.length_reverse]; omega
        have hget : l[q]? = some (l.reverse[j]) := by rw [List.getElem_reverse, List.getElem?_eq_getElem hql]; congr 2
        have HTK := Lib.hid (List.take_succ_eq_append_getElem hy0)
        have hlen : (l.reverse.take j).length = j := by rw [List.length_take, List.length_reverse]; omega
        rw [hlen] at HOWN
        have HLN := Lib.hid hlen
        generalize l.reverse[j] = y at *
        obtain ⟨b, off, hA, hbk, hcs⟩ := HL.out q y hget
        have HLW := Lib.hid (fun (W : World) (h : Below W4.heap.size W4 W) (m : Nat) (u : Value) (hu : (Wo.cells y)[m]? = some u) => (h.cell (p := ⟨b, off + q * 4 + m, none⟩) hbk).trans (hcs m u hu))
        have y0 := HLW.out wr HBL.out 0 _ rfl
        have y1 := HLW.out wr HBL.out 1 _ rfl
        have y2 := HLW.out wr HBL.out 2 _ rfl
        have y3 := HLW.out wr HBL.out 3 _ rfl
        rw [Nat.add_zero] at y0
        clear HLW hcs hget hlen
        have hw1 : IntKind.i64.wrap ((l.length : Int) - 1) = (l.length : Int) - 1 := IntWalk.i64_in _ (by omega)
        have hw2 : IntKind.i64.wrap ((l.length : Int) - 1 - (j : Int)) = (q : Int) := by rw [← hqe]; exact IntWalk.i64_in _ (by omega)
        have HQE := Lib.hid hqe
        clear hqe hq0
        subst hA
        obtain ⟨i0, hi, hz0, hz1, hz2⟩ := info_parts wo_info
        have HN := Lib.hid (Bx.new wr (Wo.cells y).toArray 66)
        have HNB := Lib.hid (nxA wr (.cells (Wo.cells y).toArray 66))
        have HO2 := Lib.hid (own_below HOWN.out HNB.out)
        have HB2 := Lib.hid (HBL.out.trans (HNB.out.mono HBL.out.size))
        go_wp2_with (at_builtin; refine wpList_append_own _ rfl (.tmp 76) (.tmp 85) 44 rfl W4.heap.size 66 i0 _ 4 32 Tryz.underlying44 hi hz0 hz1 hz2 rfl (by decide) _ j _ rfl HO2.out ⟨wr.heap.size, 0, none⟩ 1 1 (Wo.cells y) rfl rfl HN.out.news (wo_one _) (by unfold maxLen; omega) (by omega) (Nat.le_trans HBL.out.size HNB.out.size) ?_; intro v' w' hown' hgrow _)
        have HB3 := Lib.hid (Below.grown HB2.out hgrow (Nat.le_trans HBL.out.size HNB.out.size) (fun j hj => (HO2.out.lt j hj).1))
        have HOW3 := Lib.hid (show w'.ownsRow W4.heap.size 66 4 v' (l.reverse.take (j + 1)).length ((l.reverse.take (j + 1)).flatMap Wo.cells) by
          rw [HTK.out, List.length_append, List.flatMap_append, HLN.out, show [y].flatMap Wo.cells = Wo.cells y from List.append_nil _]
          exact hown')
        clear hown' hgrow HN HNB HO2 HB2 HTK
        go_wp2_with fail
        (first | (refine ⟨?_, ?_⟩; (unfold RTu; exact ⟨j + 1, by omega, by go_num, HOW3.out, HB3.out⟩); (simp [intOf]; omega)) | (go_roundw; (case rel => (unfold RTu; exact ⟨j + 1, by omega, by go_num, HOW3.out, HB3.out⟩)); (case measure => (simp [intOf]; omega))) | (go_round; (case rel => (unfold RTu; exact ⟨j + 1, by omega, by go_num, HOW3.out, HB3.out⟩)); (case measure => (simp [intOf]; omega))))
      · have d1 : decide ((j : Int) < (l.length : Int)) = false := decide_eq_false (by omega)
        obtain rfl : j = l.length := by omega
        have hfull : l.reverse.take l.length = l.reverse := List.take_of_length_le (by rw [List.length_reverse]; exact Nat.le_refl _)
        rw [hfull] at HOWN
        obtain ⟨A5, c5, e5, ha5⟩ := own_at wo_len (by decide) HOWN.out
        rw [List.length_reverse] at e5
        subst e5
        have HE5 := Lib.hid (HE.out.next HBL.out)
        have HB5 := Lib.hid (HB.out.trans (HBL.out.mono HB.out.size))
        have HL5 := Lib.hid (HL.out.next HBL.out)
        have HW5 := Lib.hid (by have := WriteLog_any A5 c5 l.reverse wr HE5.out ha5 (by rw [List.length_reverse]; omega); rw [List.length_reverse, wrL_e, HT.out] at this; exact this : Calls Tryz.prog 27 #[.slice A5 l.length c5] wr (RetS (wrL l.reverse).1 (if flatB l = true then 0 else 7) wr))
        generalize (wrL l.reverse).1 = t5 at HW5
        obtain ⟨e5, he5⟩ : ∃ e5 : Int, e5 = if flatB l = true then 0 else 7 := ⟨_, rfl⟩
        rw [← he5] at HW5
        have HE7 := Lib.hid he5
        clear ha5 HOWN he5 HE HB HL hfull HW HWT HSW
        go_wp2_with fail
        refine HW5.out.mono ?_
        rintro e W5 ⟨rfl, hb⟩
        have HE := Lib.hid (HE5.out.next hb)
        have HB := Lib.hid (HB5.out.trans (hb.mono HB5.out.size))
        have HL := Lib.hid (HL5.out.next hb)
        clear hb HE5 HB5 HL5 HW5
        go_upto_region 18 with fail
        go_cut [16] (fun s wx => s = .bool (flatB l) ∧ Below W5.heap.size W5 wx)
        case first =>
          by_cases hl0 : l.length = 0
          · have z : ((l.length : Int) == 0) = true := by simp [hl0]
            have hfl : flatB l = true := by
              obtain rfl := List.eq_nil_of_length_eq_zero hl0
              rfl
            have HFL := Lib.hid hfl
            clear hl0 hfl
            go_wp2_with (go_quiet (fail))
            all_goals
              go_meet
              exact ⟨by rw [HFL.out], below_drewN (Below.refl _ _) _⟩
          · have z : ((l.length : Int) == 0) = false := by simpa using hl0
            obtain ⟨q, hq0⟩ : ∃ q : Nat, q = l.length - 1 := ⟨_, rfl⟩
            have hw1 : IntKind.i64.wrap ((l.length : Int) - 1) = (q : Int) := by rw [show (q : Int) = (l.length : Int) - 1 by omega]; exact IntWalk.i64_in _ (by omega)
            have hql : q < l.length := by omega
            have hp : 0 < l.length := by omega
            have hfl : flatB l = ((l[0]).minute == (l[q]).minute) := by
              unfold flatB
              rw [← hq0, List.getD_eq_getElem?_getD, List.getD_eq_getElem?_getD, List.getElem?_eq_getElem hp, List.getElem?_eq_getElem hql, Option.getD_some, Option.getD_some, show l.isEmpty = false from List.isEmpty_eq_false_iff.2 (fun e => hl0 (by rw [e]; rfl)), Bool.false_or]
              rfl
            obtain ⟨b, off, hA, -, hcs⟩ := HL.out 0 _ (List.getElem?_eq_getElem hp)
            obtain ⟨b', off', hA', -, hcs'⟩ := HL.out q _ (List.getElem?_eq_getElem hql)
            generalize l[0] = y0 at *
            generalize l[q] = y1 at *
            rw [hA] at hA'
            injection hA' with hA'
            injection hA' with e1 e2 _
            subst e1 e2
            have f0 := hcs 1 _ rfl
            have f1 := hcs' 1 _ rfl
            rw [Nat.zero_mul, Nat.add_zero] at f0
            have hp' : (0 : Int) < (l.length : Int) := by omega
            have HFL := Lib.hid hfl
            clear hcs hcs' hl0 hfl hq0 HL
            subst hA
            go_wp2_with (go_quiet (fail))
            all_goals
              go_meet
              exact ⟨by rw [HFL.out], below_drewN (Below.refl _ _) _⟩
        case rest =>
          obtain ⟨rfl, hb⟩ := hcut
          replace HE := Lib.hid (HE.out.next hb)
          replace HB := Lib.hid (HB.out.trans (hb.mono HB.out.size))
          clear hb
          cases hfl : flatB l
          · have he : e5 = 7 := by rw [HE7.out, hfl, if_neg (by decide)]
            subst he
            clear HE7 HT
            go_wp2_with fail
            refine (alive_any wc HE.out).mono ?_
            rintro e W99 ⟨rfl, hb⟩
            go_wp2_with fail
            go_ret
            exact ret_bool rfl (HB.out.trans (hb.mono HB.out.size))
          · have he : e5 = 0 := by rw [HE7.out, hfl, if_pos rfl]
            subst he
            clear HE7 HT
            go_wp2_with fail
            refine (alive_any wc HE.out).mono ?_
            rintro e W99 ⟨rfl, hb⟩
            go_wp2_with fail
            go_ret
            exact ret_bool rfl (HB.out.trans (hb.mono HB.out.size))
  · have hw : wrL l = ([], checkW l) := by unfold wrL; rw [if_neg h1]
    have he : (checkW l != 0) = true := by simpa using h1
    have hs : (([] : Tx) == []) = true := rfl
    rw [hw] at HW
    generalize checkW l = e0 at *
    go_enter Tryz.func11, Tryz.ntmps11
    go_wp2_with fail
    refine (HW.out w HE.out HL.out).mono ?_
    rintro e W0 ⟨rfl, hb⟩
    replace HE := Lib.hid (HE.out.next hb)
    replace HB := Lib.hid (HB.out.trans (hb.mono HB.out.size))
    clear hb
    go_wp2_with fail
    refine (alive_any W0 HE.out).mono ?_
    rintro e W99 ⟨rfl, hb⟩
    go_wp2_with fail
    go_ret
    exact ret_bool rfl (HB.out.trans (hb.mono HB.out.size))

end Go.Proofs.YtonnemkecppmiaaGreatDoor
