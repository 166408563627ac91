import Derived.Test.YtkcfpnpejaekjaaDoorP12
import Derived.Test.YtkcfpnpejaekjaaDoorC0
namespace Go.Proofs.YtkcfpnpejaekjaaDoor
open Go.RowKit
/-! The program: check. -/
def zeroT : Mt := ⟨⟨0, [], [], []⟩, none, 0, none, 0, none, 0⟩
theorem bk_one (m : Mt) (g : Nat → Nat) : (bkA m g).toList.toArray.all (·.oneCell') = true := by
  rw [Array.toArray_toList]; unfold bkA; simp [Value.oneCell']
theorem bk_there {W : World} {b : Nat} {L : List Value} (h : Bx W b L) (h20 : L.length = 20) : W.there b 0 20 := fun j hj => by
  rw [← h20] at hj
  exact ⟨by rw [Nat.zero_add, h.c j _ (List.getElem?_eq_getElem hj)]; rfl, by rw [Nat.zero_add]; exact h.fr j⟩
theorem susp_zero {t : Tl} {k : Nat} (h : emptyW t k) : susp t.loans t.looks k = 0 := by unfold susp; exact if_pos h
theorem op_ok {t : Tl} (ok : OkT t) (k : Nat) : OkB t.admits.length (susp t.loans t.looks k) := fun p hp => by
  obtain ⟨h, _, rfl⟩ := (susp_iff ok.lent (fun x hx => (ok.look x hx).1)).1 hp
  unfold whoH
  split
  · exact .inr (.inr rfl)
  · cases e : holdS t.loans h with
    | none => exact .inr (.inl rfl)
    | some q =>
      obtain ⟨x, hx, _, rfl⟩ := holdS_of e
      have h1 := ok.per x hx
      have h2 := (ok.lent.good x hx).1
      exact .inl (by show x.p.toNat < _; omega)
theorem susp_lt {t : Tl} (ok : OkT t) (k : Nat) : susp t.loans t.looks k < 256 := by
  refine Nat.lt_pow_two_of_testBit (n := 8) _ fun i hi => ?_
  cases e : (susp t.loans t.looks k).testBit i with
  | false => rfl
  | true =>
    have := op_ok ok k i e
    have := ok.a2
    omega
theorem op_bk {m : Mt} (ok : OkT m.t) : OkBk m (opG m.t m.t.n.toNat) := by
  refine ⟨by have := ok.n1; omega, ok.n2, ok.a2, ok.adm, fun k => ?_, fun k hk => ?_⟩
  · unfold opG; split
    · exact susp_lt ok k
    · decide
  · unfold opG; rw [if_pos hk]; exact op_ok ok k
theorem fit_op {t : Tl} (ok : OkT t) : Fit t.n.toNat (fun k p => has (opG t t.n.toNat k) p) (admA t.admits) ↔ fitB t = true := by
  rw [fitB_iff ok.lent (fun x hx => (ok.look x hx).1)]
  exact Fit.congr fun k hk => by unfold opG suspB; rw [if_pos hk]
theorem fit_empty {t : Tl} (ok : OkT t) {k : Nat} (hk : k < t.n.toNat) (h : emptyW t k) : fitB t = false := by
  cases e : fitB t with
  | false => rfl
  | true =>
    obtain ⟨f, hf⟩ := (fitB_iff ok.lent (fun x hx => (ok.look x hx).1)).1 e
    have := hf.can k hk
    unfold suspB at this
    rw [susp_zero h] at this
    unfold has at this
    rw [Nat.zero_testBit] at this; cases this
theorem fits_bk (m : Mt) (g : Nat → Nat) (w : World) (hr : TaleAt w w.heap.size m) (ok : OkBk m g) : Calls Tryd.prog 48 #[.agg (bkA m g)] w (fun e w' => ∃ b : Bool, e = .returned (.bool b) ∧ Below w.heap.size w w' ∧ (b = true ↔ Fit m.t.n.toNat (fun k p => has (g k) p) (admA m.t.admits))) := fits_any m g w hr ok
theorem wpList_load_midG {P : Program} {ops : Array Oper} {rest : List Oper} {op : Oper} {a : Act} {w : World} {Q : Exit → Act → World → Prop} (hw : Region.wanted op (yielded ops a.tmps) = true) (ty : TypeId) (x : Operand) (ho : op.op = .load ty x)
    (b o : Nat) (hx : a.eval x = .pointer (some ⟨b, o, none⟩)) (cs : List Value) (d : TypeDesc) (hc : w.rangeAt b o cs)
    (hu : P.underlying ty = some d) (hd : d.isRow = true) (hi : (P.info? ty).map (·.size) = some cs.length)
    (h : wpList P ops Q rest (a.put op.dst (.agg cs.toArray)) w) : wpList P ops Q (op :: rest) a w :=
  wpList_step fun _ hK => by rw [if_pos hw]; exact wp_load_mid ty x ho b o hx cs d hc hu hd hi (hK _ _ h)
def ckE (t : Tl) (v : Bool) : Int := if okTale t = false then 1 else if v = false then 2 else if fitB t = false then 6 else 0
def RetCk (m : Mt) (v : Bool) (w : World) (e : Ending) (w' : World) : Prop := Below w.heap.size w w' ∧ ∃ (m' : Mt) (g : Nat → Nat), e = .returned (.tuple #[.agg (bkA m' g), .int .i64 (ckE m.t v)]) ∧ (ckE m.t v = 0 → m' = m ∧ g = opG m.t m.t.n.toNat)
set_option maxRecDepth 100000 in
set_option maxHeartbeats 4000000 in
theorem checkW_any (m : Mt) (v : Bool) (bp bt : Nat) (w : World) (hr : TaleAt w w.heap.size m) (hv : OkT m.t → ∀ W, Below w.heap.size w W → Calls Tryd.prog 40 #[.pointer (some ⟨bp, 0, none⟩), .pointer (some ⟨bt, 0, none⟩)] W (RetQ (.bool v) W)) : Calls Tryd.prog 39 #[.agg #[.int .i64 m.t.n, .slice m.A1 m.t.loans.length m.c1, .slice m.A2 m.t.looks.length m.c2, .slice m.A3 m.t.admits.length m.c3], .func (.func 40) #[] #[.pointer (some ⟨bp, 0, none⟩), .pointer (some ⟨bt, 0, none⟩)]] w (RetCk m v w) := by
  have n1 := nxA w (.cells #[.int .i64 m.t.n, .slice m.A1 m.t.loans.length m.c1, .slice m.A2 m.t.looks.length m.c2, .slice m.A3 m.t.admits.length m.c3] 26)
  have y1 := Bx.new w #[.int .i64 m.t.n, .slice m.A1 m.t.loans.length m.c1, .slice m.A2 m.t.looks.length m.c2, .slice m.A3 m.t.admits.length m.c3] 26
  have s1 : (w.alloc (.cells #[.int .i64 m.t.n, .slice m.A1 m.t.loans.length m.c1, .slice m.A2 m.t.looks.length m.c2, .slice m.A3 m.t.admits.length m.c3] 26)).heap.size = w.heap.size + 1 := by simp
  have HR := Lib.hid hr
  have HV := Lib.hid hv
  have HD := Lib.hid (show ckE m.t v = if okTale m.t = false then 1 else if v = false then 2 else if fitB m.t = false then 6 else 0 from rfl)
  clear hr hv
  go_enter Tryd.func39, Tryd.ntmps39
  go_upto_region 1 with fail
  generalize w.alloc (.cells #[.int .i64 m.t.n, .slice m.A1 m.t.loans.length m.c1, .slice m.A2 m.t.looks.length m.c2, .slice m.A3 m.t.admits.length m.c3] 26) = V1 at *
  have n2 := nxA V1 (.cells (bkA zeroT (fun _ => 0)) 69)
  have y2 : Bx (V1.alloc (.cells (bkA zeroT (fun _ => 0)) 69)) V1.heap.size (bkA zeroT (fun _ => 0)).toList := Bx.new V1 (bkA zeroT (fun _ => 0)) 69
  rw [s1] at y2
  have HB := Lib.hid (n1.trans (n2.mono n1.size))
  have HX1 := Lib.hid (y1.next n2)
  have HX2 := Lib.hid y2
  have HR2 := Lib.hid (HR.out.next HB.out)
  change Code.wp _ _ _ _ (V1.alloc (.cells (bkA zeroT (fun _ => 0)) 69))
  generalize V1.alloc (.cells (bkA zeroT (fun _ => 0)) 69) = V at *
  clear n1 n2 y1 y2 s1
  obtain ⟨L0, hL0⟩ : ∃ L0, L0 = (bkA zeroT (fun _ => 0)).toList := ⟨_, rfl⟩
  have HL0 := Lib.hid hL0
  have H20 := Lib.hid (show L0.length = 20 from by rw [hL0]; rfl)
  have H1C := Lib.hid (show L0.toArray.all (·.oneCell') = true from by rw [hL0]; exact bk_one _ _)
  rw [← hL0] at HX2
  clear hL0
  have c0 := HX1.out.c 0 _ rfl
  have c1 := HX1.out.c 1 _ rfl
  have c2 := HX1.out.c 2 _ rfl
  have c3 := HX1.out.c 3 _ rfl
  have hl := HX1.out.lt
  go_wp2_with fail
  refine (isTale_any m _ HR2.out).mono ?_
  rintro e w1 ⟨rfl, hb1⟩
  have HB1 := Lib.hid (HB.out.trans (hb1.mono HB.out.size))
  have X1 := Lib.hid (HX1.out.next hb1)
  have X2 := Lib.hid (HX2.out.next hb1)
  have R1 := Lib.hid (HR2.out.next hb1)
  have HRNG := Lib.hid X2.out.range
  have HTH := Lib.hid (show w1.there (w.heap.size + 1) 0 L0.toArray.size from by rw [show L0.toArray.size = 20 from by simpa using H20.out]; exact bk_there X2.out H20.out)
  have HSI := Lib.hid (show (Tryd.prog.info? 69).map (·.size) = some L0.length from by rw [H20.out]; exact bk_size)
  have HSA := Lib.hid (show (Tryd.prog.info? 69).map (·.size) = some L0.toArray.size from by rw [List.size_toArray, H20.out]; exact bk_size)
  have HF := Lib.hid (X2.out.setAll L0 rfl)
  have HB9 := Lib.hid (below_setCells (b := w.heap.size + 1) (by omega) L0 0 HB1.out)
  rw [← wset_eq] at HF HB9
  clear c0 c1 c2 c3 hl hb1
  cases ht : okTale m.t
  · have HT := Lib.hid ht
    clear ht
    go_wp2_with (first | (refine wpList_load_mid rfl 69 (.tmp 4) rfl (w.heap.size + 1) 0 rfl L0 _ HRNG.out bk_und rfl HSI.out ?_) | (refine wpList_store_mid rfl 69 (.tmp 4) (.tmp 11) rfl (w.heap.size + 1) 0 L0.toArray rfl rfl HTH.out HSA.out H1C.out ?_))
    (try simp only [Exit.inBlock, Exit.then])
    refine bodyPost_ret (results_cellA rfl rfl (run_loadVar_mid _ _ _ _ _ _ HF.out.range bk_und rfl HSI.out)) rfl ?_
    exact ⟨HB9.out, zeroT, fun _ => 0, by rw [HD.out, HT.out, HL0.out]; rfl, fun h => absurd h (by rw [HD.out, HT.out]; simp)⟩
  · have OK := Lib.hid (okT_of ht)
    have HT := Lib.hid ht
    clear ht
    have HCALL := Lib.hid (HV.out OK.out w1 HB1.out)
    go_wp2_with fail
    refine HCALL.out.mono ?_
    rintro e w2 ⟨rfl, rfl⟩
    cases v
    · go_wp2_with (first | (refine wpList_load_mid rfl 69 (.tmp 4) rfl (w.heap.size + 1) 0 rfl L0 _ HRNG.out bk_und rfl HSI.out ?_) | (refine wpList_store_mid rfl 69 (.tmp 4) (.tmp 16) rfl (w.heap.size + 1) 0 L0.toArray rfl rfl HTH.out HSA.out H1C.out ?_))
      (try simp only [Exit.inBlock, Exit.then])
      refine bodyPost_ret (results_cellA rfl rfl (run_loadVar_mid _ _ _ _ _ _ HF.out.range bk_und rfl HSI.out)) rfl ?_
      exact ⟨HB9.out, zeroT, fun _ => 0, by rw [HD.out, HT.out, HL0.out]; rfl, fun h => absurd h (by rw [HD.out, HT.out]; simp)⟩
    · have c0 := X1.out.c 0 _ rfl
      have c1 := X1.out.c 1 _ rfl
      have c2 := X1.out.c 2 _ rfl
      have c3 := X1.out.c 3 _ rfl
      have hl := X1.out.lt
      clear HCALL HF HB9 HSI HSA HTH HRNG H1C HL0
      go_wp2_with fail
      refine (open_any m _ R1.out OK.out).mono ?_
      rintro e w3 ⟨hb3, hop⟩
      have HB3 := Lib.hid (HB1.out.trans (hb3.mono HB1.out.size))
      have X3 := Lib.hid (X2.out.next hb3)
      have R3 := Lib.hid (R1.out.next hb3)
      have HTH3 := Lib.hid (bk_there X3.out H20.out)
      have hopx : ∃ (g : Nat → Nat) (b : Bool), e = .returned (.tuple #[.agg (bkA m g).toList.toArray, .bool b]) ∧ (b = true → g = opG m.t m.t.n.toNat ∧ ∀ k, k < m.t.n.toNat → ¬ emptyW m.t k) ∧ (b = false → fitB m.t = false) := by
        rcases hop with ⟨h1, rfl⟩ | ⟨⟨k, hk, h1⟩, g, rfl⟩
        · exact ⟨_, true, by rw [Array.toArray_toList], fun _ => ⟨rfl, h1⟩, (fun h => by cases h)⟩
        · exact ⟨g, false, by rw [Array.toArray_toList], (fun h => by cases h), fun _ => fit_empty OK.out hk h1⟩
      obtain ⟨g, b, rfl, hbt, hbf⟩ := hopx
      have HBT := Lib.hid hbt
      have HBF := Lib.hid hbf
      obtain ⟨L, hL⟩ : ∃ L, L = (bkA m g).toList := ⟨_, rfl⟩
      have HL := Lib.hid hL
      have HL20 := Lib.hid (show L.length = 20 from by rw [hL]; rfl)
      have HLC := Lib.hid (show L.toArray.all (·.oneCell') = true from by rw [hL]; exact bk_one _ _)
      have HLA := Lib.hid (show L.toArray = bkA m g from by rw [hL, Array.toArray_toList])
      have HSI := Lib.hid (show (Tryd.prog.info? 69).map (·.size) = some L.length from by rw [HL20.out]; exact bk_size)
      have HSA := Lib.hid (show (Tryd.prog.info? 69).map (·.size) = some L.toArray.size from by rw [List.size_toArray, HL20.out]; exact bk_size)
      have HTH := Lib.hid (show w3.there (w.heap.size + 1) 0 L.toArray.size from by rw [show L.toArray.size = 20 from by simpa using HL20.out]; exact HTH3.out)
      rw [← hL]
      have X4 := Lib.hid (X3.out.setAll L (by rw [HL20.out, H20.out]))
      have HB4 := Lib.hid (below_setCells (b := w.heap.size + 1) (by omega) L 0 HB3.out)
      rw [← wset_eq] at X4 HB4
      clear hL hop hbt hbf hb3 c0 c1 c2 c3 hl
      go_upto_region 6 with (refine wpList_store_mid rfl 69 (.tmp 4) (.tmp 20) rfl (w.heap.size + 1) 0 L.toArray rfl rfl HTH.out HSA.out HLC.out ?_)
      generalize w3.setCells (w.heap.size + 1) 0 L = W4 at *
      clear HTH X3 HB3
      cases b
      · have HBFf := Lib.hid (HBF.out rfl)
        clear HBF HBT
        have HRNG := Lib.hid X4.out.range
        have HTH2 := Lib.hid (show W4.there (w.heap.size + 1) 0 L.toArray.size from by rw [show L.toArray.size = 20 from by simpa using HL20.out]; exact bk_there X4.out HL20.out)
        have HFN := Lib.hid (X4.out.setAll L rfl)
        have HBN := Lib.hid (below_setCells (b := w.heap.size + 1) (by omega) L 0 HB4.out)
        rw [← wset_eq] at HFN HBN
        go_wp2_with (first | (refine wpList_load_mid rfl 69 (.tmp 4) rfl (w.heap.size + 1) 0 rfl L _ HRNG.out bk_und rfl HSI.out ?_) | (refine wpList_store_mid rfl 69 (.tmp 4) (.tmp 29) rfl (w.heap.size + 1) 0 L.toArray rfl rfl HTH2.out HSA.out HLC.out ?_))
        (try simp only [Exit.inBlock, Exit.then])
        refine bodyPost_ret (results_cellA rfl rfl (run_loadVar_mid _ _ _ _ _ _ HFN.out.range bk_und rfl HSI.out)) rfl ?_
        exact ⟨HBN.out, m, g, by rw [HD.out, HT.out, HBFf.out, HLA.out]; rfl, fun h => absurd h (by rw [HD.out, HT.out, HBFf.out]; simp)⟩
      · have HBTt := Lib.hid (HBT.out rfl)
        clear HBF HBT
        have HRN4 := Lib.hid X4.out.range
        go_wp2_with (refine wpList_load_midG rfl 69 (.tmp 4) rfl (w.heap.size + 1) 0 rfl L _ HRN4.out bk_und rfl HSI.out ?_)
        rw [HLA.out, HBTt.out.1]
        refine (fits_bk m _ W4 ((HR.out.below HB4.out).more HB4.out.size) (op_bk OK.out)).mono ?_
        rintro e W5 ⟨rb, rfl, hb5, hiff⟩
        have HIFF := Lib.hid (hiff.trans (fit_op OK.out))
        have X5 := Lib.hid (X4.out.next hb5)
        have HB5 := Lib.hid (HB4.out.trans (hb5.mono HB4.out.size))
        rw [← HBTt.out.1, ← HLA.out]
        clear hb5 hiff
        have HRNG := Lib.hid X5.out.range
        have HTH2 := Lib.hid (show W5.there (w.heap.size + 1) 0 L.toArray.size from by rw [show L.toArray.size = 20 from by simpa using HL20.out]; exact bk_there X5.out HL20.out)
        have HFN := Lib.hid (X5.out.setAll L rfl)
        have HBN := Lib.hid (below_setCells (b := w.heap.size + 1) (by omega) L 0 HB5.out)
        rw [← wset_eq] at HFN HBN
        cases rb
        · have hf : fitB m.t = false := by cases e : fitB m.t with | false => rfl | true => exact absurd (HIFF.out.2 e) (by decide)
          have HFF := Lib.hid hf
          clear hf
          go_wp2_with (first | (refine wpList_load_mid rfl 69 (.tmp 4) rfl (w.heap.size + 1) 0 rfl L _ HRNG.out bk_und rfl HSI.out ?_) | (refine wpList_store_mid rfl 69 (.tmp 4) (.tmp 29) rfl (w.heap.size + 1) 0 L.toArray rfl rfl HTH2.out HSA.out HLC.out ?_))
          (try simp only [Exit.inBlock, Exit.then])
          refine bodyPost_ret (results_cellA rfl rfl (run_loadVar_mid _ _ _ _ _ _ HFN.out.range bk_und rfl HSI.out)) rfl ?_
          exact ⟨HBN.out, m, g, by rw [HD.out, HT.out, HFF.out, HLA.out]; rfl, fun h => absurd h (by rw [HD.out, HT.out, HFF.out]; simp)⟩
        · have HFF := Lib.hid (HIFF.out.1 rfl)
          go_wp2_with (first | (refine wpList_load_mid rfl 69 (.tmp 4) rfl (w.heap.size + 1) 0 rfl L _ HRNG.out bk_und rfl HSI.out ?_) | (refine wpList_store_mid rfl 69 (.tmp 4) (.tmp 30) rfl (w.heap.size + 1) 0 L.toArray rfl rfl HTH2.out HSA.out HLC.out ?_))
          (try simp only [Exit.inBlock, Exit.then])
          refine bodyPost_ret (results_cellA rfl rfl (run_loadVar_mid _ _ _ _ _ _ HFN.out.range bk_und rfl HSI.out)) rfl ?_
          exact ⟨HBN.out, m, g, by rw [HD.out, HT.out, HFF.out, HLA.out]; rfl, fun h => ⟨rfl, HBTt.out.1⟩⟩
set_option maxRecDepth 100000 in
set_option maxHeartbeats 4000000 in
theorem checkL_any (m : Mt) (v : Bool) (bp bt : Nat) (w : World) (hr : TaleAt w w.heap.size m) (hv : OkT m.t → ∀ W, Below w.heap.size w W → Calls Tryd.prog 46 #[.pointer (some ⟨bp, 0, none⟩), .pointer (some ⟨bt, 0, none⟩)] W (RetQ (.bool v) W)) : Calls Tryd.prog 39 #[.agg #[.int .i64 m.t.n, .slice m.A1 m.t.loans.length m.c1, .slice m.A2 m.t.looks.length m.c2, .slice m.A3 m.t.admits.length m.c3], .func (.func 46) #[] #[.pointer (some ⟨bp, 0, none⟩), .pointer (some ⟨bt, 0, none⟩)]] w (RetCk m v w) := by
  have n1 := nxA w (.cells #[.int .i64 m.t.n, .slice m.A1 m.t.loans.length m.c1, .slice m.A2 m.t.looks.length m.c2, .slice m.A3 m.t.admits.length m.c3] 26)
  have y1 := Bx.new w #[.int .i64 m.t.n, .slice m.A1 m.t.loans.length m.c1, .slice m.A2 m.t.looks.length m.c2, .slice m.A3 m.t.admits.length m.c3] 26
  have s1 : (w.alloc (.cells #[.int .i64 m.t.n, .slice m.A1 m.t.loans.length m.c1, .slice m.A2 m.t.looks.length m.c2, .slice m.A3 m.t.admits.length m.c3] 26)).heap.size = w.heap.size + 1 := by simp
  have HR := Lib.hid hr
  have HV := Lib.hid hv
  have HD := Lib.hid (show ckE m.t v = if okTale m.t = false then 1 else if v = false then 2 else if fitB m.t = false then 6 else 0 from rfl)
  clear hr hv
  go_enter Tryd.func39, Tryd.ntmps39
  go_upto_region 1 with fail
  generalize w.alloc (.cells #[.int .i64 m.t.n, .slice m.A1 m.t.loans.length m.c1, .slice m.A2 m.t.looks.length m.c2, .slice m.A3 m.t.admits.length m.c3] 26) = V1 at *
  have n2 := nxA V1 (.cells (bkA zeroT (fun _ => 0)) 69)
  have y2 : Bx (V1.alloc (.cells (bkA zeroT (fun _ => 0)) 69)) V1.heap.size (bkA zeroT (fun _ => 0)).toList := Bx.new V1 (bkA zeroT (fun _ => 0)) 69
  rw [s1] at y2
  have HB := Lib.hid (n1.trans (n2.mono n1.size))
  have HX1 := Lib.hid (y1.next n2)
  have HX2 := Lib.hid y2
  have HR2 := Lib.hid (HR.out.next HB.out)
  change Code.wp _ _ _ _ (V1.alloc (.cells (bkA zeroT (fun _ => 0)) 69))
  generalize V1.alloc (.cells (bkA zeroT (fun _ => 0)) 69) = V at *
  clear n1 n2 y1 y2 s1
  obtain ⟨L0, hL0⟩ : ∃ L0, L0 = (bkA zeroT (fun _ => 0)).toList := ⟨_, rfl⟩
  have HL0 := Lib.hid hL0
  have H20 := Lib.hid (show L0.length = 20 from by rw [hL0]; rfl)
  have H1C := Lib.hid (show L0.toArray.all (·.oneCell') = true from by rw [hL0]; exact bk_one _ _)
  rw [← hL0] at HX2
  clear hL0
  have c0 := HX1.out.c 0 _ rfl
  have c1 := HX1.out.c 1 _ rfl
  have c2 := HX1.out.c 2 _ rfl
  have c3 := HX1.out.c 3 _ rfl
  have hl := HX1.out.lt
  go_wp2_with fail
  refine (isTale_any m _ HR2.out).mono ?_
  rintro e w1 ⟨rfl, hb1⟩
  have HB1 := Lib.hid (HB.out.trans (hb1.mono HB.out.size))
  have X1 := Lib.hid (HX1.out.next hb1)
  have X2 := Lib.hid (HX2.out.next hb1)
  have R1 := Lib.hid (HR2.out.next hb1)
  have HRNG := Lib.hid X2.out.range
  have HTH := Lib.hid (show w1.there (w.heap.size + 1) 0 L0.toArray.size from by rw [show L0.toArray.size = 20 from by simpa using H20.out]; exact bk_there X2.out H20.out)
  have HSI := Lib.hid (show (Tryd.prog.info? 69).map (·.size) = some L0.length from by rw [H20.out]; exact bk_size)
  have HSA := Lib.hid (show (Tryd.prog.info? 69).map (·.size) = some L0.toArray.size from by rw [List.size_toArray, H20.out]; exact bk_size)
  have HF := Lib.hid (X2.out.setAll L0 rfl)
  have HB9 := Lib.hid (below_setCells (b := w.heap.size + 1) (by omega) L0 0 HB1.out)
  rw [← wset_eq] at HF HB9
  clear c0 c1 c2 c3 hl hb1
  cases ht : okTale m.t
  · have HT := Lib.hid ht
    clear ht
    go_wp2_with (first | (refine wpList_load_mid rfl 69 (.tmp 4) rfl (w.heap.size + 1) 0 rfl L0 _ HRNG.out bk_und rfl HSI.out ?_) | (refine wpList_store_mid rfl 69 (.tmp 4) (.tmp 11) rfl (w.heap.size + 1) 0 L0.toArray rfl rfl HTH.out HSA.out H1C.out ?_))
    (try simp only [Exit.inBlock, Exit.then])
    refine bodyPost_ret (results_cellA rfl rfl (run_loadVar_mid _ _ _ _ _ _ HF.out.range bk_und rfl HSI.out)) rfl ?_
    exact ⟨HB9.out, zeroT, fun _ => 0, by rw [HD.out, HT.out, HL0.out]; rfl, fun h => absurd h (by rw [HD.out, HT.out]; simp)⟩
  · have OK := Lib.hid (okT_of ht)
    have HT := Lib.hid ht
    clear ht
    have HCALL := Lib.hid (HV.out OK.out w1 HB1.out)
    go_wp2_with fail
    refine HCALL.out.mono ?_
    rintro e w2 ⟨rfl, rfl⟩
    cases v
    · go_wp2_with (first | (refine wpList_load_mid rfl 69 (.tmp 4) rfl (w.heap.size + 1) 0 rfl L0 _ HRNG.out bk_und rfl HSI.out ?_) | (refine wpList_store_mid rfl 69 (.tmp 4) (.tmp 16) rfl (w.heap.size + 1) 0 L0.toArray rfl rfl HTH.out HSA.out H1C.out ?_))
      (try simp only [Exit.inBlock, Exit.then])
      refine bodyPost_ret (results_cellA rfl rfl (run_loadVar_mid _ _ _ _ _ _ HF.out.range bk_und rfl HSI.out)) rfl ?_
      exact ⟨HB9.out, zeroT, fun _ => 0, by rw [HD.out, HT.out, HL0.out]; rfl, fun h => absurd h (by rw [HD.out, HT.out]; simp)⟩
    · have c0 := X1.out.c 0 _ rfl
      have c1 := X1.out.c 1 _ rfl
      have c2 := X1.out.c 2 _ rfl
      have c3 := X1.out.c 3 _ rfl
      have hl := X1.out.lt
      clear HCALL HF HB9 HSI HSA HTH HRNG H1C HL0
      go_wp2_with fail
      refine (open_any m _ R1.out OK.out).mono ?_
      rintro e w3 ⟨hb3, hop⟩
      have HB3 := Lib.hid (HB1.out.trans (hb3.mono HB1.out.size))
      have X3 := Lib.hid (X2.out.next hb3)
      have R3 := Lib.hid (R1.out.next hb3)
      have HTH3 := Lib.hid (bk_there X3.out H20.out)
      have hopx : ∃ (g : Nat → Nat) (b : Bool), e = .returned (.tuple #[.agg (bkA m g).toList.toArray, .bool b]) ∧ (b = true → g = opG m.t m.t.n.toNat ∧ ∀ k, k < m.t.n.toNat → ¬ emptyW m.t k) ∧ (b = false → fitB m.t = false) := by
        rcases hop with ⟨h1, rfl⟩ | ⟨⟨k, hk, h1⟩, g, rfl⟩
        · exact ⟨_, true, by rw [Array.toArray_toList], fun _ => ⟨rfl, h1⟩, (fun h => by cases h)⟩
        · exact ⟨g, false, by rw [Array.toArray_toList], (fun h => by cases h), fun _ => fit_empty OK.out hk h1⟩
      obtain ⟨g, b, rfl, hbt, hbf⟩ := hopx
      have HBT := Lib.hid hbt
      have HBF := Lib.hid hbf
      obtain ⟨L, hL⟩ : ∃ L, L = (bkA m g).toList := ⟨_, rfl⟩
      have HL := Lib.hid hL
      have HL20 := Lib.hid (show L.length = 20 from by rw [hL]; rfl)
      have HLC := Lib.hid (show L.toArray.all (·.oneCell') = true from by rw [hL]; exact bk_one _ _)
      have HLA := Lib.hid (show L.toArray = bkA m g from by rw [hL, Array.toArray_toList])
      have HSI := Lib.hid (show (Tryd.prog.info? 69).map (·.size) = some L.length from by rw [HL20.out]; exact bk_size)
      have HSA := Lib.hid (show (Tryd.prog.info? 69).map (·.size) = some L.toArray.size from by rw [List.size_toArray, HL20.out]; exact bk_size)
      have HTH := Lib.hid (show w3.there (w.heap.size + 1) 0 L.toArray.size from by rw [show L.toArray.size = 20 from by simpa using HL20.out]; exact HTH3.out)
      rw [← hL]
      have X4 := Lib.hid (X3.out.setAll L (by rw [HL20.out, H20.out]))
      have HB4 := Lib.hid (below_setCells (b := w.heap.size + 1) (by omega) L 0 HB3.out)
      rw [← wset_eq] at X4 HB4
      clear hL hop hbt hbf hb3 c0 c1 c2 c3 hl
      go_upto_region 6 with (refine wpList_store_mid rfl 69 (.tmp 4) (.tmp 20) rfl (w.heap.size + 1) 0 L.toArray rfl rfl HTH.out HSA.out HLC.out ?_)
      generalize w3.setCells (w.heap.size + 1) 0 L = W4 at *
      clear HTH X3 HB3
      cases b
      · have HBFf := Lib.hid (HBF.out rfl)
        clear HBF HBT
        have HRNG := Lib.hid X4.out.range
        have HTH2 := Lib.hid (show W4.there (w.heap.size + 1) 0 L.toArray.size from by rw [show L.toArray.size = 20 from by simpa using HL20.out]; exact bk_there X4.out HL20.out)
        have HFN := Lib.hid (X4.out.setAll L rfl)
        have HBN := Lib.hid (below_setCells (b := w.heap.size + 1) (by omega) L 0 HB4.out)
        rw [← wset_eq] at HFN HBN
        go_wp2_with (first | (refine wpList_load_mid rfl 69 (.tmp 4) rfl (w.heap.size + 1) 0 rfl L _ HRNG.out bk_und rfl HSI.out ?_) | (refine wpList_store_mid rfl 69 (.tmp 4) (.tmp 29) rfl (w.heap.size + 1) 0 L.toArray rfl rfl HTH2.out HSA.out HLC.out ?_))
        (try simp only [Exit.inBlock, Exit.then])
        refine bodyPost_ret (results_cellA rfl rfl (run_loadVar_mid _ _ _ _ _ _ HFN.out.range bk_und rfl HSI.out)) rfl ?_
        exact ⟨HBN.out, m, g, by rw [HD.out, HT.out, HBFf.out, HLA.out]; rfl, fun h => absurd h (by rw [HD.out, HT.out, HBFf.out]; simp)⟩
      · have HBTt := Lib.hid (HBT.out rfl)
        clear HBF HBT
        have HRN4 := Lib.hid X4.out.range
        go_wp2_with (refine wpList_load_midG rfl 69 (.tmp 4) rfl (w.heap.size + 1) 0 rfl L _ HRN4.out bk_und rfl HSI.out ?_)
        rw [HLA.out, HBTt.out.1]
        refine (fits_bk m _ W4 ((HR.out.below HB4.out).more HB4.out.size) (op_bk OK.out)).mono ?_
        rintro e W5 ⟨rb, rfl, hb5, hiff⟩
        have HIFF := Lib.hid (hiff.trans (fit_op OK.out))
        have X5 := Lib.hid (X4.out.next hb5)
        have HB5 := Lib.hid (HB4.out.trans (hb5.mono HB4.out.size))
        rw [← HBTt.out.1, ← HLA.out]
        clear hb5 hiff
        have HRNG := Lib.hid X5.out.range
        have HTH2 := Lib.hid (show W5.there (w.heap.size + 1) 0 L.toArray.size from by rw [show L.toArray.size = 20 from by simpa using HL20.out]; exact bk_there X5.out HL20.out)
        have HFN := Lib.hid (X5.out.setAll L rfl)
        have HBN := Lib.hid (below_setCells (b := w.heap.size + 1) (by omega) L 0 HB5.out)
        rw [← wset_eq] at HFN HBN
        cases rb
        · have hf : fitB m.t = false := by cases e : fitB m.t with | false => rfl | true => exact absurd (HIFF.out.2 e) (by decide)
          have HFF := Lib.hid hf
          clear hf
          go_wp2_with (first | (refine wpList_load_mid rfl 69 (.tmp 4) rfl (w.heap.size + 1) 0 rfl L _ HRNG.out bk_und rfl HSI.out ?_) | (refine wpList_store_mid rfl 69 (.tmp 4) (.tmp 29) rfl (w.heap.size + 1) 0 L.toArray rfl rfl HTH2.out HSA.out HLC.out ?_))
          (try simp only [Exit.inBlock, Exit.then])
          refine bodyPost_ret (results_cellA rfl rfl (run_loadVar_mid _ _ _ _ _ _ HFN.out.range bk_und rfl HSI.out)) rfl ?_
          exact ⟨HBN.out, m, g, by rw [HD.out, HT.out, HFF.out, HLA.out]; rfl, fun h => absurd h (by rw [HD.out, HT.out, HFF.out]; simp)⟩
        · have HFF := Lib.hid (HIFF.out.1 rfl)
          go_wp2_with (first | (refine wpList_load_mid rfl 69 (.tmp 4) rfl (w.heap.size + 1) 0 rfl L _ HRNG.out bk_und rfl HSI.out ?_) | (refine wpList_store_mid rfl 69 (.tmp 4) (.tmp 30) rfl (w.heap.size + 1) 0 L.toArray rfl rfl HTH2.out HSA.out HLC.out ?_))
          (try simp only [Exit.inBlock, Exit.then])
          refine bodyPost_ret (results_cellA rfl rfl (run_loadVar_mid _ _ _ _ _ _ HFN.out.range bk_und rfl HSI.out)) rfl ?_
          exact ⟨HBN.out, m, g, by rw [HD.out, HT.out, HFF.out, HLA.out]; rfl, fun h => ⟨rfl, HBTt.out.1⟩⟩
end Go.Proofs.YtkcfpnpejaekjaaDoor
