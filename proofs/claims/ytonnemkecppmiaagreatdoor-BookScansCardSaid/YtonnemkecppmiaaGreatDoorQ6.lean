import Derived.Test.YtonnemkecppmiaaGreatDoorQ5
namespace Go.Proofs.YtonnemkecppmiaaGreatDoor
open Go.RowKit
theorem pu_und : Tryz.prog.underlying 28 = some (.struct (Tryz.prog.fieldsOf 28)) := by kernel_rfl
theorem pu_size : (Tryz.prog.info? 28).map (fun i => i.size) = some 9 := by kernel_rfl
theorem ret_nil {P : Program} {fn : Func} {R : Ending → World → Prop} {a : Act} {w : World} (hd : a.defers = []) (h : ∃ v, (results fn a.tmps).run P w = .ok v w ∧ R (.returned v) w) : bodyPostD P fn R .ret a w := by
  show Leaves P fn a.tmps R a.defers .returning w
  rw [hd]
  exact h
theorem wpList_load_midG {P : Program} {ops : Array Oper} {rest : List Oper} {op : Oper} {a : Act} {w : World} {Q : Exit → Act → World → Prop} (hw : Region.wanted op (yielded ops a.tmps) = true) (ty : TypeId) (x : Operand) (ho : op.op = .load ty x)
    (b o : Nat) (hx : a.eval x = .pointer (some ⟨b, o, none⟩)) (cs : List Value) (d : TypeDesc) (hc : w.rangeAt b o cs)
    (hu : P.underlying ty = some d) (hd : d.isRow = true) (hi : (P.info? ty).map (·.size) = some cs.length)
    (h : wpList P ops Q rest (a.put op.dst (.agg cs.toArray)) w) : wpList P ops Q (op :: rest) a w :=
  wpList_step fun _ hK => by rw [if_pos hw]; exact wp_load_mid ty x ho b o hx cs d hc hu hd hi (hK _ _ h)
theorem puat_sets {W : World} {b : Nat} {m : Mp} (L : List Value) (h : PuAt W W.heap.size m) (hA : ∀ a, m.A = some a → a.block ≠ b) : PuAt (W.setCells b 0 L) (W.setCells b 0 L).heap.size m := by
  rw [wset_eq]
  refine ⟨fun k x hx => ?_, h.l1, h.k1⟩
  obtain ⟨g, off, e, hb, hc⟩ := h.pc k x hx
  exact ⟨g, off, e, by rw [setCells_size]; exact hb, fun j u hu => (setCells_other b L 0 W g _ (hA _ e)).trans (hc j u hu)⟩
theorem puat_setc {W : World} {c : Nat} {v : Value} {m : Mp} (h : PuAt W W.heap.size m) (hA : ∀ a, m.A = some a → a.block ≠ c) : PuAt (W.setCell ⟨c, 0, none⟩ v) (W.setCell ⟨c, 0, none⟩ v).heap.size m := by
  refine ⟨fun k x hx => ?_, h.l1, h.k1⟩
  obtain ⟨g, off, e, hb, hc⟩ := h.pc k x hx
  exact ⟨g, off, e, by rw [World.size_setCell]; exact hb, fun j u hu => (World.cell?_setCell_other _ _ _ _ (by intro e'; injection e' with e'; exact hA _ e e'.symm)).trans (hc j u hu)⟩
set_option maxRecDepth 100000 in
set_option maxHeartbeats 4000000 in
theorem readPu_any (s : Tx) (w : World) (hE : Env w) : Calls Tryz.prog 37 #[tx s, .func (.func 38) #[] #[], .func (.func 34) #[] #[], .func (.func 35) #[] #[]] w (RetRd s w) := by
  have HE := Lib.hid hE
  clear hE
  obtain ⟨R, hR⟩ : ∃ R, RetRd s w = R := ⟨_, rfl⟩
  rw [hR]
  have HRR := Lib.hid hR
  clear hR
  have hmf : ∀ (fn : Fn) (first cap : Array Value) (w : World), (Instr.makeFunc fn first cap).run Tryz.prog w = .ok (.func fn first cap) w := fun _ _ _ _ => rfl
  have HX0 := Lib.hid (Bx.new w puZ.toArray 28)
  have n1 := nxA w (.cells puZ.toArray 28)
  have n2 := nxA (w.alloc (.cells puZ.toArray 28)) (.cells #[.int .i64 0] 30)
  have HY1 := Lib.hid (Bx.new (w.alloc (.cells puZ.toArray 28)) #[.int .i64 0] 30)
  have HX1 := Lib.hid (HX0.out.next n2)
  have HB1 := Lib.hid (show Below w.heap.size w ((w.alloc (.cells puZ.toArray 28)).alloc (.cells #[.int .i64 0] 30)) from n1.trans (n2.mono n1.size))
  clear n1 n2 HX0
  go_enter_defers Tryz.func37, Tryz.ntmps37
  go_upto_region 1 with fail
  change Code.wp _ _ _ _ ((w.alloc (.cells puZ.toArray 28)).alloc (.cells #[.int .i64 0] 30))
  rw [show (w.alloc (.cells puZ.toArray 28)).heap.size = w.heap.size + 1 by simp] at HY1
  generalize (w.alloc (.cells puZ.toArray 28)).alloc (.cells #[.int .i64 0] 30) = V1 at *
  obtain ⟨b, hb⟩ : ∃ b, b = w.heap.size := ⟨_, rfl⟩
  obtain ⟨c, hc⟩ : ∃ c, c = w.heap.size + 1 := ⟨_, rfl⟩
  rw [← hc] at HY1 ⊢
  rw [← hb] at HX1 ⊢
  have HHB := Lib.hid (show w.heap.size ≤ b by omega)
  have HHC := Lib.hid (show w.heap.size ≤ c by omega)
  have HBC := Lib.hid (show b ≠ c by omega)
  clear hb hc
  obtain ⟨L0, hL0⟩ : ∃ L0, puZ = L0 := ⟨_, rfl⟩
  have HX1' := Lib.hid (show Bx V1 b L0 by rw [← hL0]; exact HX1.out)
  have H0L := Lib.hid (show L0.length = 9 by rw [← hL0]; rfl)
  have H0N := Lib.hid (show L0.toArray.all (·.oneCell') = true by rw [← hL0]; simp [Value.oneCell'])
  have HL0 := Lib.hid hL0
  have H0S := Lib.hid (show (Tryz.prog.info? 28).map (·.size) = some L0.length by rw [H0L.out]; exact pu_size)
  have H0A := Lib.hid (show (Tryz.prog.info? 28).map (·.size) = some L0.toArray.size by rw [List.size_toArray, H0L.out]; exact pu_size)
  have H0T := Lib.hid (show V1.there b 0 L0.toArray.size by rw [List.size_toArray]; exact HX1'.out.there)
  have H0R := Lib.hid HX1'.out.range
  clear hL0 HX1
  by_cases hl : 65536 < s.length
  · have hli : (65536 : Int) < (s.length : Int) := by omega
    have HV := Lib.hid (show rdV s = pu0 by unfold rdV; rw [if_pos hl])
    have HEE := Lib.hid (show rdE s = 3 by unfold rdE; rw [if_pos hl])
    clear hl hmf
    have HX2 := Lib.hid (show Bx ((V1.setCells b 0 L0).setCell ⟨c, 0, none⟩ (.int .i64 3)) b L0 ∧ Bx ((V1.setCells b 0 L0).setCell ⟨c, 0, none⟩ (.int .i64 3)) c [.int .i64 3] ∧ Below w.heap.size w ((V1.setCells b 0 L0).setCell ⟨c, 0, none⟩ (.int .i64 3)) by
      rw [wset_eq]
      exact ⟨(HX1'.out.setAll L0 rfl).other HBC.out 0 _, (HY1.out.setOther (fun e => HBC.out e.symm) L0 0).set (k := 0) (by simp) _, (below_setCells (b := b) HHB.out L0 0 HB1.out).setCell (p := ⟨c, 0, none⟩) HHC.out _⟩)
    have HYW := Lib.hid (show Bx (V1.setCells b 0 L0) c [.int .i64 0] by rw [wset_eq]; exact HY1.out.setOther (fun e => HBC.out e.symm) L0 0)
    have ye := HYW.out.c 0 _ rfl
    have yf := HYW.out.fr 0
    go_upto_region 2 with fail
    generalize hQ : (Exit.then _ (Exit.then _ _) : Exit → Act → World → Prop) = QQ
    go_wp2_with (first | (refine wpList_load_mid rfl 28 (.tmp 8) rfl b 0 rfl L0 _ H0R.out pu_und rfl H0S.out ?_) | (refine wpList_store_mid rfl 28 (.tmp 8) (.tmp 13) rfl b 0 L0.toArray rfl rfl H0T.out H0A.out H0N.out ?_))
    subst hQ
    obtain ⟨Wf, hWf⟩ : ∃ Wf, (V1.setCells b 0 L0).setCell ⟨c, 0, none⟩ (.int .i64 3) = Wf := ⟨_, rfl⟩
    rw [hWf] at HX2 ⊢
    obtain ⟨r1, r2, r3⟩ := HX2.out
    rw [← HL0.out] at r1
    clear hWf HX2 HYW ye yf
    rename_i hK
    refine hK _ _ (wp_ret ?_)
    simp only [Exit.then]
    refine ret_nil rfl ⟨_, results_cells2 rfl rfl rfl (loadPu r1) (loadI r2), ?_⟩
    rw [← HRR.out]
    exact ⟨⟨pu0, none, 0⟩, HV.out.symm, by rw [HEE.out]; rfl, ⟨At.nil, by simp [pu0], by simp [pu0]⟩, (fun a ha => by cases ha), r3⟩
  · have hli : ¬ (65536 : Int) < (s.length : Int) := by omega
    have HLE := Lib.hid hl
    have HRD := Lib.hid (ReadDrawing1_any s (by omega) V1 (HE.out.next HB1.out))
    have hhb := HHB.out
    have hhc := HHC.out
    have hbc := HBC.out
    have HPN := Lib.hid (show readD s = none → ∀ (e : Ending) (W W2 : World) (L : List Value) (x : Value), L.length = 9 → Bx W b L → Bx W c [x] → Below w.heap.size w W → Miss W e W2 → e = .panicked [{ v := .iface 129 (.agg #[]), recovered := false }] ∧ ∃ L', L'.length = 9 ∧ Bx W2 b L' ∧ Bx W2 c [x] ∧ Below w.heap.size w W2 from fun h0 e W W2 L x hL h1 h2 h3 hm => by
      obtain ⟨rfl, hb⟩ := hm
      exact ⟨rfl, L, hL, h1.next hb, h2.next hb, h3.trans (hb.mono h3.size)⟩)
    have HCL := Lib.hid (show readD s = none → ∀ (W : World) (L : List Value) (x : Value), L.length = 9 → Bx W b L → Bx W c [x] → Below w.heap.size w W → CallsD Tryz.prog 80 #[.pointer (some ⟨b, 0, none⟩), .pointer (some ⟨c, 0, none⟩)] (.panicking [{ v := .iface 129 (.agg #[]), recovered := false }]) W fun e u' w' => e = .returned (.tuple #[]) ∧ u' = .panicking [{ v := .iface 129 (.agg #[]), recovered := true }] ∧ Bx w' b puZ ∧ Bx w' c [.int .i64 8] ∧ Below w.heap.size W w' from fun h0 W L x hL h1 h2 h3 => readPu1_panicking w.heap.size b c L x [] W hL h1 h2 hhb hhc hbc)
    have HRES := Lib.hid (show readD s = none → ∀ W : World, Below w.heap.size w W → R (.returned (.tuple #[.agg #[.int .i64 0, .int .i64 0, .int .i64 0, .int .i64 0, .int .i64 0, .int .i64 0, .int .i64 0, .bool false, .slice none 0 0], .int .i64 8])) W from fun h0 W h1 => by
      rw [← HRR.out]
      exact ⟨⟨pu0, none, 0⟩, by unfold rdV; rw [if_neg HLE.out, h0]; rfl, by unfold rdE; rw [if_neg HLE.out, h0]; rfl, ⟨At.nil, by simp [pu0], by simp [pu0]⟩, (fun a ha => by cases ha), h1⟩)
    clear hl
    go_upto_region 4 with fail
    clear hmf
    cases hp : parseP s with
    | none =>
      rw [hp] at HRD
      have HNO := Lib.hid (show readD s = none by unfold readD; rw [hp])
      clear hp
      go_wp2_with fail
      refine HRD.out.mono ?_
      intro e V2 hm
      obtain ⟨rfl, L', hL', r1, r2, r3⟩ := HPN.out HNO.out e V1 V2 L0 _ H0L.out HX1'.out HY1.out HB1.out hm
      dsimp only
      refine leaves_cons (f := 80) (args := #[.pointer (some ⟨b, 0, none⟩), .pointer (some ⟨c, 0, none⟩)]) (by simp) (by simp [go_sem]) ?_
      refine (HCL.out HNO.out _ _ _ hL' r1 r2 r3).mono ?_
      rintro e9 u9 w9 ⟨rfl, rfl, q1, q2, q3⟩
      exact ⟨_, results_cells2 rfl rfl rfl (loadPu q1) (loadI q2), HRES.out HNO.out _ (r3.trans q3)⟩
    | some d =>
      rw [hp] at HRD
      have HRO := Lib.hid (show readD s = if okPu d = true ∧ dText d = s then some d else none by unfold readD; rw [hp])
      clear hp
      go_wp2_with fail
      refine HRD.out.mono ?_
      rintro e V2 ⟨m, hm, rfl, hpu, hfr, hb⟩
      subst hm
      have HXq := Lib.hid (HX1'.out.next hb)
      have HYq := Lib.hid (HY1.out.next hb)
      have HBq := Lib.hid (HB1.out.trans (hb.mono HB1.out.size))
      have HPQ := Lib.hid hpu
      have HEQ := Lib.hid (HE.out.next HBq.out)
      have HFR := Lib.hid (show ∀ a, m.A = some a → a.block ≠ b ∧ a.block ≠ c from fun a ha => by have h1 := hfr a ha; have h2 := HX1'.out.lt; have h3 := HY1.out.lt; omega)
      have HFW := Lib.hid (show ∀ a, m.A = some a → w.heap.size ≤ a.block from fun a ha => by have h1 := hfr a ha; have h2 := HB1.out.size; omega)
      clear hb hpu hfr
      obtain ⟨L, hL⟩ : ∃ L, m.cells = L := ⟨_, rfl⟩
      have HLL := Lib.hid hL
      have H1L := Lib.hid (show L.length = 9 by rw [← hL]; rfl)
      have H1N := Lib.hid (show L.toArray.all (·.oneCell') = true by rw [← hL]; simp [Mp.cells, Value.oneCell'])
      have H1S := Lib.hid (show (Tryz.prog.info? 28).map (·.size) = some L.length by rw [H1L.out]; exact pu_size)
      have H1A := Lib.hid (show (Tryz.prog.info? 28).map (·.size) = some L.toArray.size by rw [List.size_toArray, H1L.out]; exact pu_size)
      have H1T := Lib.hid (show V2.there b 0 L.toArray.size by rw [List.size_toArray, H1L.out, ← H0L.out]; exact HXq.out.there)
      have HIS := Lib.hid (show ∀ V : World, PuAt V V.heap.size m → Calls Tryz.prog 34 #[.agg L.toArray] V (Ret (.bool (okPu m.d)) V) from fun V h => by rw [← hL]; exact isDrawing_any m V h)
      have HDR := Lib.hid (show ∀ V : World, Env V → PuAt V V.heap.size m → okPu m.d = true → Calls Tryz.prog 35 #[.agg L.toArray] V (Ret (tx (dText m.d)) V) from fun V h1 h2 h3 => by rw [← hL]; exact drawing_any m V h1 h2 h3)
      have HX3 := Lib.hid (HXq.out.wset L (by rw [H1L.out, H0L.out]))
      have HY3 := Lib.hid (show Bx (V2.setCells b 0 L) c [.int .i64 0] by rw [wset_eq]; exact HYq.out.setOther (fun e => hbc e.symm) L 0)
      have HB3 := Lib.hid (show Below w.heap.size w (V2.setCells b 0 L) by rw [wset_eq]; exact below_setCells (b := b) hhb L 0 HBq.out)
      have HP3 := Lib.hid (show PuAt (V2.setCells b 0 L) (V2.setCells b 0 L).heap.size m from puat_sets L HPQ.out (fun a ha => (HFR.out a ha).1))
      rw [show (.agg #[.int .i64 m.d.play.len, .int .i64 m.d.play.slack, .int .i64 m.d.play.loose, .int .i64 m.d.play.damp.lo, .int .i64 m.d.play.damp.hi, .int .i64 m.d.wide, .int .i64 m.d.high, .bool m.d.turn, .slice m.A m.d.pieces.length m.c] : Value) = .agg L.toArray by rw [← hL]; rfl]
      clear hL
      cases hok : okPu m.d
      · have HNO := Lib.hid (show readD s = none by rw [HRO.out]; exact if_neg (fun h => by rw [hok] at h; cases h.1))
        have HI2 := Lib.hid (HIS.out _ HP3.out)
        rw [hok] at HI2
        clear hok
        have HR3 := Lib.hid HX3.out.range
        go_wp2_with (first | (refine wpList_load_mid rfl 28 (.tmp 8) rfl b 0 rfl L _ HR3.out pu_und rfl H1S.out ?_) | (refine wpList_store_mid rfl 28 (.tmp 8) (.tmp 17) rfl b 0 L.toArray rfl rfl H1T.out H1A.out H1N.out ?_))
        refine HI2.out.mono ?_
        rintro e3 V4 ⟨rfl, hb⟩
        have HX4 := Lib.hid (HX3.out.next hb)
        have HY4 := Lib.hid (HY3.out.next hb)
        have HB4 := Lib.hid (HB3.out.trans (hb.mono HB3.out.size))
        clear hb
        go_wp2_with fail
        refine (need_false V4).mono ?_
        intro e V5 hm
        obtain ⟨rfl, L', hL', r1, r2, r3⟩ := HPN.out HNO.out e V4 V5 L _ H1L.out HX4.out HY4.out HB4.out hm
        dsimp only
        refine leaves_cons (f := 80) (args := #[.pointer (some ⟨b, 0, none⟩), .pointer (some ⟨c, 0, none⟩)]) (by simp) (by simp [go_sem]) ?_
        refine (HCL.out HNO.out _ _ _ hL' r1 r2 r3).mono ?_
        rintro e9 u9 w9 ⟨rfl, rfl, q1, q2, q3⟩
        exact ⟨_, results_cells2 rfl rfl rfl (loadPu q1) (loadI q2), HRES.out HNO.out _ (r3.trans q3)⟩
      · have HI2 := Lib.hid (HIS.out _ HP3.out)
        rw [hok] at HI2
        have HOK := Lib.hid hok
        clear hok
        have HR3 := Lib.hid HX3.out.range
        go_wp2_with (first | (refine wpList_load_mid rfl 28 (.tmp 8) rfl b 0 rfl L _ HR3.out pu_und rfl H1S.out ?_) | (refine wpList_store_mid rfl 28 (.tmp 8) (.tmp 17) rfl b 0 L.toArray rfl rfl H1T.out H1A.out H1N.out ?_))
        refine HI2.out.mono ?_
        rintro e3 V4 ⟨rfl, hb⟩
        have HX4 := Lib.hid (HX3.out.next hb)
        have HY4 := Lib.hid (HY3.out.next hb)
        have HP4 := Lib.hid (HP3.out.next hb)
        have HB4 := Lib.hid (HB3.out.trans (hb.mono HB3.out.size))
        have HE4 := Lib.hid (HE.out.next HB4.out)
        have HR4 := Lib.hid HX4.out.range
        have HD4 := Lib.hid (HDR.out V4 HE4.out HP4.out HOK.out)
        clear hb HX3 HY3 HP3 HB3 HR3 HI2 HIS HDR H1T
        go_wp2_with (refine wpList_load_midG rfl 28 (.tmp 8) rfl b 0 rfl L _ HR4.out pu_und rfl H1S.out ?_)
        refine HD4.out.mono ?_
        rintro e3 V5 ⟨rfl, hb⟩
        have HX5 := Lib.hid (HX4.out.next hb)
        have HY5 := Lib.hid (HY4.out.next hb)
        have HP5 := Lib.hid (HP4.out.next hb)
        have HB5 := Lib.hid (HB4.out.trans (hb.mono HB4.out.size))
        clear hb HX4 HY4 HP4 HB4 HR4 HD4 HE4
        obtain ⟨T, hT⟩ : ∃ T, dText m.d = T := ⟨_, rfl⟩
        rw [hT] at HRO ⊢
        clear hT
        by_cases hTs : T = s
        · have hts : (T == s) = true := by rw [hTs]; exact beq_self_eq_true s
          have HYS := Lib.hid (show readD s = some m.d by rw [HRO.out]; exact if_pos ⟨HOK.out, hTs⟩)
          clear hTs HRO
          go_wp2_with fail
          refine (need_true V5).mono ?_
          rintro e3 V6 ⟨rfl, rfl⟩
          have HR5 := Lib.hid HX5.out.range
          have H5T := Lib.hid (show V5.there b 0 L.toArray.size by rw [List.size_toArray]; exact HX5.out.there)
          have HX6 := Lib.hid (HX5.out.wset L rfl)
          have HY6 := Lib.hid (show Bx (V5.setCells b 0 L) c [.int .i64 0] by rw [wset_eq]; exact HY5.out.setOther (fun e => hbc e.symm) L 0)
          have HB6 := Lib.hid (show Below w.heap.size w (V5.setCells b 0 L) by rw [wset_eq]; exact below_setCells (b := b) hhb L 0 HB5.out)
          have HP6 := Lib.hid (show PuAt (V5.setCells b 0 L) (V5.setCells b 0 L).heap.size m from puat_sets L HP5.out (fun a ha => (HFR.out a ha).1))
          have y6 := HY6.out.c 0 _ rfl
          have z6 := HY6.out.fr 0
          go_upto_region 6 with fail
          go_wp2_with (first | (refine wpList_load_mid rfl 28 (.tmp 8) rfl b 0 rfl L _ HR5.out pu_und rfl H1S.out ?_) | (refine wpList_store_mid rfl 28 (.tmp 8) (.tmp 29) rfl b 0 L.toArray rfl rfl H5T.out H1A.out H1N.out ?_))

          have hx7 : Bx ((V5.setCells b 0 L).setCell ⟨c, 0, none⟩ (.int .i64 0)) b m.cells := by rw [HLL.out]; exact HX6.out.other hbc 0 _
          have hy7 := HY6.out.set (k := 0) (by simp) (.int .i64 0)
          have hp7 : PuAt ((V5.setCells b 0 L).setCell ⟨c, 0, none⟩ (.int .i64 0)) ((V5.setCells b 0 L).setCell ⟨c, 0, none⟩ (.int .i64 0)).heap.size m := puat_setc HP6.out (fun a ha => (HFR.out a ha).2)
          have hb7 := HB6.out.setCell (p := ⟨c, 0, none⟩) hhc (.int .i64 0)
          refine leaves_cons (f := 80) (args := #[.pointer (some ⟨b, 0, none⟩), .pointer (some ⟨c, 0, none⟩)]) (by simp) (by simp [go_sem]) ?_
          refine (readPu1_idle _ _ _).mono ?_
          rintro e9 u9 w9 ⟨rfl, rfl, rfl⟩
          refine ⟨_, results_cells2 rfl rfl rfl (loadPu hx7) (loadI hy7), ?_⟩
          rw [← HRR.out]
          exact ⟨m, by unfold rdV; rw [if_neg HLE.out, HYS.out]; rfl, by unfold rdE; rw [if_neg HLE.out, HYS.out]; rfl, hp7, HFW.out, hb7⟩
        · have hts : (T == s) = false := beq_eq_false_iff_ne.2 hTs
          have HNO := Lib.hid (show readD s = none by rw [HRO.out]; exact if_neg (fun h => hTs h.2))
          clear hTs
          go_wp2_with fail
          refine (need_false V5).mono ?_
          intro e V6 hm
          obtain ⟨rfl, L', hL', r1, r2, r3⟩ := HPN.out HNO.out e V5 V6 L _ H1L.out HX5.out HY5.out HB5.out hm
          dsimp only
          refine leaves_cons (f := 80) (args := #[.pointer (some ⟨b, 0, none⟩), .pointer (some ⟨c, 0, none⟩)]) (by simp) (by simp [go_sem]) ?_
          refine (HCL.out HNO.out _ _ _ hL' r1 r2 r3).mono ?_
          rintro e9 u9 w9 ⟨rfl, rfl, q1, q2, q3⟩
          exact ⟨_, results_cells2 rfl rfl rfl (loadPu q1) (loadI q2), HRES.out HNO.out _ (r3.trans q3)⟩
end Go.Proofs.YtonnemkecppmiaaGreatDoor

