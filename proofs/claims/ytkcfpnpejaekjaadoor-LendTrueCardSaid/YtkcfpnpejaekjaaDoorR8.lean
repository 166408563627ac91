import Derived.Test.YtkcfpnpejaekjaaDoorR7
import Derived.Test.YtkcfpnpejaekjaaDoorA1
namespace Go.Proofs.YtkcfpnpejaekjaaDoor
open Go.RowKit
/-! The reference: Fits, Who, Says. -/
theorem canR_fit (t : Tl) : canR t (-1) 0 0 t.admits = fitB t := by
  unfold canR fitB
  rw [want_none, Nat.sub_zero]
  congr 1
  funext k; rw [Nat.zero_add]
theorem canR_who (t : Tl) (k p : Nat) : canR t (k : Int) (p : Int) 0 t.admits = whoB t k p := by
  unfold canR whoB
  rw [want_only, Nat.sub_zero]
  congr 1
  funext k; rw [Nat.zero_add]
theorem Fits_any (m : Mt) (w : World) (hr : TaleAt w w.heap.size m) (ok : OkT m.t) : Calls Tryd.prog 43 #[.agg #[.int .i64 m.t.n, .slice m.A1 m.t.loans.length m.c1, .slice m.A2 m.t.looks.length m.c2, .slice m.A3 m.t.admits.length m.c3]] w (Ret (.bool (fitB m.t)) w) := by
  have HB := Lib.hid (nxA w (.cells #[.int .i64 m.t.n, .slice m.A1 m.t.loans.length m.c1, .slice m.A2 m.t.looks.length m.c2, .slice m.A3 m.t.admits.length m.c3] 26))
  have HX := Lib.hid (Bx.new w #[.int .i64 m.t.n, .slice m.A1 m.t.loans.length m.c1, .slice m.A2 m.t.looks.length m.c2, .slice m.A3 m.t.admits.length m.c3] 26)
  have HR := Lib.hid (hr.next HB.out)
  have OK := Lib.hid ok
  clear hr ok
  go_enter Tryd.func43, Tryd.ntmps43
  go_upto_region 1 with fail
  generalize w.alloc (.cells #[.int .i64 m.t.n, .slice m.A1 m.t.loans.length m.c1, .slice m.A2 m.t.looks.length m.c2, .slice m.A3 m.t.admits.length m.c3] 26) = V at *
  have c0 := HX.out.c 0 _ rfl
  have c1 := HX.out.c 1 _ rfl
  have c2 := HX.out.c 2 _ rfl
  have c3 := HX.out.c 3 _ rfl
  have hl := HX.out.lt
  have HC := Lib.hid (Can_any m OK.out (-1) 0 _ 0 m.t.admits m.A3 m.c3 V rfl (Nat.zero_le _) HR.out HR.out.ad ⟨OK.out.a1, OK.out.a2⟩ OK.out.adm)
  rw [canR_fit] at HC
  go_wp2_with fail
  refine HC.out.mono ?_
  rintro e W1 ⟨rfl, hb1⟩
  have HB1 := Lib.hid (HB.out.trans (hb1.mono HB.out.size))
  clear hb1 HC
  go_wp2_with fail
  go_ret
  exact ret_bool rfl HB1.out
def RWr (m : Mt) (k : Nat) (w : World) (sv pv : Value) (W : World) : Prop := ∃ p : Nat, p ≤ 8 ∧ pv = .int .i64 p ∧ sv = .int .i64 ((setB (whoB m.t k) p : Nat) : Int) ∧ Below w.heap.size w W ∧ Bx W w.heap.size m.cells
set_option maxRecDepth 100000 in
set_option maxHeartbeats 2000000 in
theorem WhoR_any (m : Mt) (p : Int) (w : World) (hr : TaleAt w w.heap.size m) : Calls Tryd.prog 19 #[.agg #[.int .i64 m.t.n, .slice m.A1 m.t.loans.length m.c1, .slice m.A2 m.t.looks.length m.c2, .slice m.A3 m.t.admits.length m.c3], .int .i64 p] w (Ret (RetWho (whoS m.t p)) w) := by
  have HB := Lib.hid (nxA w (.cells #[.int .i64 m.t.n, .slice m.A1 m.t.loans.length m.c1, .slice m.A2 m.t.looks.length m.c2, .slice m.A3 m.t.admits.length m.c3] 26))
  have HX := Lib.hid (Bx.new w #[.int .i64 m.t.n, .slice m.A1 m.t.loans.length m.c1, .slice m.A2 m.t.looks.length m.c2, .slice m.A3 m.t.admits.length m.c3] 26)
  have HR0 := Lib.hid hr
  have HR := Lib.hid (hr.next HB.out)
  have HD := Lib.hid (show whoS m.t p = if okTale m.t = false then ((0 : Nat), (1 : Int)) else if inS p 0 (m.t.n - 1) = false then (0, 2) else if fitB m.t = false then (0, 6) else (setB (whoB m.t p.toNat) 8, 0) from rfl)
  clear hr
  go_enter Tryd.func19, Tryd.ntmps19
  go_upto_region 1 with fail
  generalize w.alloc (.cells #[.int .i64 m.t.n, .slice m.A1 m.t.loans.length m.c1, .slice m.A2 m.t.looks.length m.c2, .slice m.A3 m.t.admits.length m.c3] 26) = V at *
  have c0 := HX.out.c 0 _ rfl
  have c1 := HX.out.c 1 _ rfl
  have c2 := HX.out.c 2 _ rfl
  have c3 := HX.out.c 3 _ rfl
  have hl := HX.out.lt
  go_wp2_with fail
  refine (Tale_any m _ HR.out).mono ?_
  rintro e W1 ⟨rfl, hb1⟩
  have HB1 := Lib.hid (HB.out.trans (hb1.mono HB.out.size))
  have X1 := Lib.hid (HX.out.next hb1)
  have R1 := Lib.hid (HR.out.next hb1)
  clear hb1 c0 c1 c2 c3 hl
  have c0 := X1.out.c 0 _ rfl
  have c1 := X1.out.c 1 _ rfl
  have c2 := X1.out.c 2 _ rfl
  have c3 := X1.out.c 3 _ rfl
  have hl := X1.out.lt
  cases ht : okTale m.t
  · rw [ht] at HD
    clear ht
    go_wp2_with fail
    (try simp only [Exit.inBlock, Exit.then])
    refine bodyPost_ret (results_tmp2 rfl _ _ _) rfl ?_
    exact ⟨by rw [HD.out]; rfl, HB1.out⟩
  · rw [ht, if_neg (by decide)] at HD
    have OK := Lib.hid (okT_of ht)
    have hn1 := OK.out.n1
    have hn2 := OK.out.n2
    have hw : IntKind.i64.wrap (m.t.n - 1) = m.t.n - 1 := IntWalk.i64_in _ (by omega)
    clear ht
    cases hi : inS p 0 (m.t.n - 1)
    · rw [hi] at HD
      go_wp2_with (go_at_call 34; (with_reducible refine (in_any _ _ _ _).mono ?_); rintro e w' ⟨rfl, rfl⟩)
      (try simp only [Exit.inBlock, Exit.then])
      refine bodyPost_ret (results_tmp2 rfl _ _ _) rfl ?_
      exact ⟨by rw [HD.out]; rfl, HB1.out⟩
    · rw [hi, if_neg (by decide)] at HD
      have hip := inS_iff.1 hi
      obtain ⟨k, hk⟩ : ∃ k : Nat, p = k := ⟨p.toNat, by omega⟩
      subst hk
      rw [show ((k : Int)).toNat = k by omega] at HD
      go_wp2_with (first | (go_at_call 34; (with_reducible refine (in_any _ _ _ _).mono ?_); rintro e w' ⟨rfl, rfl⟩) | fail)
      refine (Fits_any m W1 R1.out OK.out).mono ?_
      rintro e W2 ⟨rfl, hb2⟩
      have HB2 := Lib.hid (HB1.out.trans (hb2.mono HB1.out.size))
      have X2 := Lib.hid (X1.out.next hb2)
      clear hb2 c0 c1 c2 c3 hl hip hw hi hn1 hn2
      cases hf : fitB m.t
      · rw [hf] at HD
        clear hf
        go_wp2_with fail
        (try simp only [Exit.inBlock, Exit.then])
        refine bodyPost_ret (results_tmp2 rfl _ _ _) rfl ?_
        exact ⟨by rw [HD.out]; rfl, HB2.out⟩
      · rw [hf, if_neg (by decide)] at HD
        clear hf
        go_wp2_with fail
        go_loopw [6, 7] (fun sv pv wr => RWr m k w sv pv wr) (fun _ pv _ => 8 - (intOf pv).toNat)
        case atStart => exact ⟨0, by omega, rfl, rfl, HB2.out, X2.out⟩
        case round =>
          obtain ⟨q, hq, rfl, rfl, hb, hx⟩ := hrel
          have HBi := Lib.hid hb
          have HXi := Lib.hid hx
          have HST := Lib.hid (show setB (whoB m.t k) (q + 1) = setB (whoB m.t k) q + if whoB m.t k q then 2 ^ q else 0 from rfl)
          have hlt8 := setB_lt (whoB m.t k) q
          by_cases hlt : q < 8
          · have c0 := hx.c 0 _ rfl
            have c1 := hx.c 1 _ rfl
            have c2 := hx.c 2 _ rfl
            have c3 := hx.c 3 _ rfl
            have hl := hx.lt
            have hq7 : (q : Int) ≤ 7 := by omega
            have hpw : 2 ^ q ≤ 128 := Nat.pow_le_pow_right (by decide) (show q ≤ 7 by omega)
            have HRi := Lib.hid ((HR0.out.below hb).more hb.size)
            have HC := Lib.hid (Can_any m OK.out (k : Int) (q : Int) _ 0 m.t.admits m.A3 m.c3 wr rfl (Nat.zero_le _) HRi.out HRi.out.ad ⟨OK.out.a1, OK.out.a2⟩ OK.out.adm)
            rw [canR_who] at HC
            have HPW := Lib.hid (fun W => show Calls Tryd.prog 45 #[.int .i64 q] W (RetQ (.int .i64 ((2 ^ q : Nat) : Int)) W) from power_any q (by omega) W)
            clear hx hb
            generalize setB (whoB m.t k) q = S at *
            obtain ⟨T, hT⟩ : ∃ T : Nat, T = 2 ^ q := ⟨_, rfl⟩
            rw [← hT] at HST hlt8 hpw HPW
            clear hT
            go_wp2_with fail
            refine HC.out.mono ?_
            rintro e W5 ⟨rfl, hb5⟩
            have X5 := Lib.hid (HXi.out.next hb5)
            have B5 := Lib.hid (HBi.out.trans (hb5.mono HBi.out.size))
            clear hb5 HC c0 c1 c2 c3 hl
            cases hw : whoB m.t k q
            · rw [hw] at HST
              have HF := Lib.hid (show RWr m k w (.int .i64 S) (.int .i64 ((q + 1 : Nat) : Int)) W5 from ⟨q + 1, by omega, rfl, by rw [HST.out]; rfl, B5.out, X5.out⟩)
              clear hw
              go_wp2_with fail
              refine ⟨?_, by simp [intOf]; omega⟩
              have := HF.out
              rwa [show (((q + 1 : Nat) : Int)) = (q : Int) + 1 by push_cast; rfl] at this
            · rw [hw, if_pos rfl] at HST
              have HF := Lib.hid (show RWr m k w (.int .i64 ((S + T : Nat) : Int)) (.int .i64 ((q + 1 : Nat) : Int)) W5 from ⟨q + 1, by omega, rfl, by rw [HST.out], B5.out, X5.out⟩)
              have hw2 : IntKind.i64.wrap ((S : Int) + (T : Int)) = ((S + T : Nat) : Int) := by rw [IntKind.wrap_i64]; omega
              clear hw
              go_wp2_with (go_at_call 45; (with_reducible refine (HPW.out _).mono ?_); rintro e w' ⟨rfl, rfl⟩)
              refine ⟨?_, by simp [intOf]; omega⟩
              have := HF.out
              rw [show (((q + 1 : Nat) : Int)) = (q : Int) + 1 by push_cast; rfl, show (((S + T : Nat)) : Int) = (S : Int) + (T : Int) by push_cast; rfl] at this
              exact this
          · obtain rfl : q = 8 := by omega
            clear hx hb
            go_wp2_with fail
            (try simp only [Exit.inBlock, Exit.then])
            refine bodyPost_ret (results_tmp2 rfl _ _ _) rfl ?_
            exact ⟨by rw [HD.out]; rfl, HBi.out⟩
/-- What Says hands back. -/
def RetSy (m : Mt) (p : Nat) (v : Int) (w : World) (e : Ending) (w' : World) : Prop := ∃ g c, m.t.admits.length ≤ c ∧ w.heap.size ≤ g ∧ e = .returned (.agg #[.int .i64 m.t.n, .slice m.A1 m.t.loans.length m.c1, .slice m.A2 m.t.looks.length m.c2, .slice (some ⟨g, 0, none⟩) m.t.admits.length c]) ∧ At w' w'.heap.size 1 icell (some ⟨g, 0, none⟩) (m.t.admits.set p v) ∧ Below w.heap.size w w'
theorem RetSy.tale {m : Mt} {p g c : Nat} {v : Int} {w w' : World} (hr : TaleAt w w.heap.size m) (hb : Below w.heap.size w w') (hc : m.t.admits.length ≤ c) (ha : At w' w'.heap.size 1 icell (some ⟨g, 0, none⟩) (m.t.admits.set p v)) : TaleAt w' w'.heap.size ⟨saysT m.t p v, m.A1, m.c1, m.A2, m.c2, some ⟨g, 0, none⟩, c⟩ := by
  have hT := hr.next hb
  exact ⟨hT.lo, hT.lk, ha, hT.l1, hT.l2, by show (m.t.admits.set p v).length ≤ _; rw [List.length_set]; exact hT.l3, hT.k1, hT.k2, by show (m.t.admits.set p v).length ≤ c; rw [List.length_set]; exact hc⟩
set_option maxRecDepth 100000 in
set_option maxHeartbeats 2000000 in
theorem Says_any (m : Mt) (p : Nat) (v : Int) (w : World) (hr : TaleAt w w.heap.size m) (hp : p < m.t.admits.length) (h1000 : m.t.admits.length ≤ 1000) : Calls Tryd.prog 28 #[.agg #[.int .i64 m.t.n, .slice m.A1 m.t.loans.length m.c1, .slice m.A2 m.t.looks.length m.c2, .slice m.A3 m.t.admits.length m.c3], .int .i64 p, .int .i64 v] w (RetSy m p v w) := by
  obtain ⟨i0, hi0, hz0, hz1, hz2⟩ := info_parts int_info
  have n1 := nxA w (.cells #[.int .i64 m.t.n, .slice m.A1 m.t.loans.length m.c1, .slice m.A2 m.t.looks.length m.c2, .slice m.A3 m.t.admits.length m.c3] 26)
  have y1 := Bx.new w #[.int .i64 m.t.n, .slice m.A1 m.t.loans.length m.c1, .slice m.A2 m.t.looks.length m.c2, .slice m.A3 m.t.admits.length m.c3] 26
  have s1 : (w.alloc (.cells #[.int .i64 m.t.n, .slice m.A1 m.t.loans.length m.c1, .slice m.A2 m.t.looks.length m.c2, .slice m.A3 m.t.admits.length m.c3] 26)).heap.size = w.heap.size + 1 := by simp
  have HR := Lib.hid hr
  clear hr
  go_enter Tryd.func28, Tryd.ntmps28
  go_upto_region 1 with fail
  generalize w.alloc (.cells #[.int .i64 m.t.n, .slice m.A1 m.t.loans.length m.c1, .slice m.A2 m.t.looks.length m.c2, .slice m.A3 m.t.admits.length m.c3] 26) = V1 at *
  have n2 := nxA V1 (.cells #[.int .i64 0, .slice none 0 0, .slice none 0 0, .slice none 0 0] 26)
  have y2 := Bx.new V1 #[.int .i64 0, .slice none 0 0, .slice none 0 0, .slice none 0 0] 26
  generalize V1.alloc (.cells #[.int .i64 0, .slice none 0 0, .slice none 0 0, .slice none 0 0] 26) = V at *
  rw [s1] at y2
  have HB := Lib.hid (n1.trans (n2.mono n1.size))
  have HX := Lib.hid (y1.next n2)
  have HY := Lib.hid y2
  have HRV := Lib.hid (HR.out.next HB.out)
  clear n1 n2 y1 y2 s1
  obtain ⟨b, off, eA, hb, -⟩ := int_at HRV.out.ad hp
  have hadm := HRV.out.ad
  rw [eA] at hadm
  have c3 := HX.out.c 3 _ rfl
  rw [eA] at c3
  have f3 := HX.out.fr 3
  have hl := HX.out.lt
  have hown := World.ownsRow_lit (base := V.heap.size) (e := 3) (size := 1) V #[] 0 (Nat.le_refl _) (by decide) rfl
  have hnews : ∀ j u, (m.t.admits.flatMap icell)[j]? = some u → (V.alloc (.cells #[] 3)).cell? ((⟨b, off, none⟩ : Addr).add j) = some u := (hadm.below (nxA V (.cells #[] 3))).news icell_len
  have hlen : (m.t.admits.flatMap icell).length = m.t.admits.length * 1 := by rw [flat_icell]; simp
  have hone : ∀ u ∈ m.t.admits.flatMap icell, u.oneCell' = true := by rw [flat_icell]; simp [Value.oneCell']
  have HOWN := Lib.hid hown
  clear eA hadm
  go_upto_region 2 with (at_builtin; refine wpList_append_own _ rfl (.tmp 7) (.tmp 9) 24 rfl V.heap.size 3 i0 (.int .i64 0) 1 8 Tryd.underlying24 hi0 hz0 hz1 hz2 rfl (by decide) _ 0 [] rfl hown ⟨b, off, none⟩ m.t.admits.length m.c3 (m.t.admits.flatMap icell) rfl hlen hnews hone (by unfold maxLen; omega) (by omega) (by simp) ?_; intro v' w' hown' hgrow _; have hown2 : w'.ownsRow V.heap.size 3 1 v' m.t.admits.length (m.t.admits.flatMap icell) := (by simpa using hown'); have hbb : Below V.heap.size V w' := ((Below.refl _ _).alloc (Nat.le_refl _) _).grown hgrow (by simp) (fun k hk => by have := HOWN.out.lt k hk; omega); obtain ⟨ga, ca, rfl, hca, hga, hva⟩ := own_vblk (by omega) hown2; have c3' := (HX.out.next hbb).c 3 _ rfl; have f3' := (HX.out.next hbb).fr 3; have hl' := (HX.out.next hbb).lt; have HBB := Lib.hid hbb; have HVA := Lib.hid hva; clear hown' hgrow hown2 hbb hva)
  have hgw : w.heap.size < ga := by omega
  have hgw1 : w.heap.size + 1 < ga := by have := HY.out.lt; omega
  have X2 := Lib.hid (show Bx (w'.setCell ⟨w.heap.size, 3, none⟩ (.slice (some ⟨ga, 0, none⟩) m.t.admits.length ca)) w.heap.size [.int .i64 m.t.n, .slice m.A1 m.t.loans.length m.c1, .slice m.A2 m.t.looks.length m.c2, .slice (some ⟨ga, 0, none⟩) m.t.admits.length ca] from (HX.out.next HBB.out).set (k := 3) (by simp) _)
  have Y2 := Lib.hid ((HY.out.next HBB.out).other (g := w.heap.size) (by omega) 3 (.slice (some ⟨ga, 0, none⟩) m.t.admits.length ca))
  have V2 := Lib.hid (HVA.out.other (b := w.heap.size) (by omega) 3 (.slice (some ⟨ga, 0, none⟩) m.t.admits.length ca))
  have B2 := Lib.hid ((HB.out.trans (HBB.out.mono HB.out.size)).setCell (p := ⟨w.heap.size, 3, none⟩) (Nat.le_refl _) (.slice (some ⟨ga, 0, none⟩) m.t.admits.length ca))
  clear c3 f3 hl hown hnews hlen hone c3' f3' hl' HOWN
  generalize w'.setCell ⟨w.heap.size, 3, none⟩ (.slice (some ⟨ga, 0, none⟩) m.t.admits.length ca) = W2 at *
  have c3 := X2.out.c 3 _ rfl
  have a0 := V2.out.cell p hp
  have fa := V2.out.free p
  have hl := X2.out.lt
  have hl2 := V2.out.lt
  go_upto_region 3 with fail
  have X3 := Lib.hid (X2.out.other (g := ga) (by omega) p (.int .i64 v))
  have Y3 := Lib.hid (Y2.out.other (g := ga) (by omega) p (.int .i64 v))
  have V3 := Lib.hid (show VBlk (W2.setCell ⟨ga, p, none⟩ (.int .i64 v)) ga m.t.admits.length (fun j => .int .i64 ((m.t.admits.set p v).getD j 0)) from V2.out.set_ hp (by rw [List.getD_eq_getElem?_getD, List.getElem?_set_self hp]; rfl) (fun i hi => by
    rw [List.getD_eq_getElem?_getD, List.getElem?_set_ne (Ne.symm hi), List.getD_eq_getElem?_getD]))
  have B3 := Lib.hid (B2.out.setCell (p := ⟨ga, p, none⟩) (by show w.heap.size ≤ ga; omega) (.int .i64 v))
  clear c3 a0 fa hl hl2
  generalize W2.setCell ⟨ga, p, none⟩ (.int .i64 v) = W3 at *
  have c0 := X3.out.c 0 _ rfl
  have c1 := X3.out.c 1 _ rfl
  have c2 := X3.out.c 2 _ rfl
  have c3 := X3.out.c 3 _ rfl
  have d0 := Y3.out.c 0 _ rfl
  have d1 := Y3.out.c 1 _ rfl
  have d2 := Y3.out.c 2 _ rfl
  have d3 := Y3.out.c 3 _ rfl
  have f0 := Y3.out.fr 0
  have f1 := Y3.out.fr 1
  have f2 := Y3.out.fr 2
  have f3 := Y3.out.fr 3
  have hl := X3.out.lt
  have hl2 := Y3.out.lt
  have YN := Lib.hid (Y3.out.setAll [.int .i64 m.t.n, .slice m.A1 m.t.loans.length m.c1, .slice m.A2 m.t.looks.length m.c2, .slice (some ⟨ga, 0, none⟩) m.t.admits.length ca] rfl)
  have VN := Lib.hid (show VBlk (setCells W3 (w.heap.size + 1) 0 [.int .i64 m.t.n, .slice m.A1 m.t.loans.length m.c1, .slice m.A2 m.t.looks.length m.c2, .slice (some ⟨ga, 0, none⟩) m.t.admits.length ca]) ga m.t.admits.length (fun j => .int .i64 ((m.t.admits.set p v).getD j 0)) from by rw [← wset_eq]; exact V3.out.wset (b := w.heap.size + 1) (by omega) 0 _)
  have BN := Lib.hid (below_setCells (b := w.heap.size + 1) (by omega) [.int .i64 m.t.n, .slice m.A1 m.t.loans.length m.c1, .slice m.A2 m.t.looks.length m.c2, .slice (some ⟨ga, 0, none⟩) m.t.admits.length ca] 0 B3.out)
  go_wp2_with fail
  (try simp only [Exit.inBlock, Exit.then])
  refine bodyPost_ret (results_cell1 rfl rfl (run_loadVar_mid _ _ _ _ _ _ YN.out.range tale_und rfl tale_size)) rfl ?_
  exact ⟨ga, ca, hca, by have := HB.out.size; omega, rfl, At.vblk (by rw [List.length_set]; exact VN.out), BN.out⟩
end Go.Proofs.YtkcfpnpejaekjaaDoor
