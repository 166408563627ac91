import Derived.Test.YtonnemkecppmiaaGreatDoorQ10
import Derived.Test.YtonnemkecppmiaaGreatDoorQ6
namespace Go.Proofs.YtonnemkecppmiaaGreatDoor
open Go.RowKit
/-! The program: read, of scans; ReadScans. -/
theorem at_of_own {α : Type} {cells : α → List Value} {size : Nat} (hs : ∀ x, (cells x).length = size) (h0 : 0 < size) {w : World} {base : Nat} {e : TypeId} {A : Option Addr} {c : Nat} {l : List α} (h : w.ownsRow base e size (.slice A l.length c) l.length (l.flatMap cells)) : At w w.heap.size size cells A l := by
  obtain ⟨A', c', e, hat⟩ := own_at hs h0 h
  injection e with e1
  rw [e1]
  exact hat
theorem parseS_len {s : Tx} {l : List Pc} (h : parseS s = some l) : l.length ≤ 12 := by
  unfold parseS at h
  split at h
  · cases h
  · split at h
    · rename_i hn
      rw [pcsN_len _ _ _ h]
      exact hn
    · cases h
theorem cv_own {w : World} {base g cap n : Nat} {t : Tx} (hn : t.length = n) (h : w.ownsRow base 5 1 (.slice (some ⟨g, 0, none⟩) n cap) n (Lib.byteCells t)) : (convert 37 9 (.slice (some ⟨g, 0, none⟩) n cap)).run Tryz.prog w = .ok (tx t) w := by
  subst hn
  exact run_convert_bytes_back w _ _ _ ⟨g, 0, none⟩ cap t Tryz.underlying37 Tryz.underlying5 Tryz.underlying9 (fun j hj => h.cells (g := g) rfl j _ (by unfold Lib.byteCells; rw [List.getElem?_map, List.getElem?_eq_getElem hj]; rfl))
set_option maxRecDepth 100000 in
set_option maxHeartbeats 1000000 in
theorem ReadScans2_any (A : Option Addr) (c : Nat) (l : List Pc) (w : World) (h : At w w.heap.size 28 Pc.cells A l) (hok : okPcs l = true) (hn : l.length ≤ 12) : Calls Tryz.prog 56 #[.slice A l.length c] w (Ret (tx (scanB l)) w) := by
  have HC := Lib.hid (bytes_any A c l w h hok hn)
  have hpos := (scanB_len hok hn).2
  clear h hok hn
  go_enter Tryz.func56, Tryz.ntmps56
  go_wp2_with fail
  refine HC.out.mono ?_
  rintro e V ⟨v, rfl, hown, hb⟩
  obtain ⟨g, cap, e0, -⟩ := hown.form (by omega)
  subst e0
  have hcv := cv_own rfl hown
  have HB := Lib.hid hb
  clear hb hown
  go_wp2_with fail
  go_ret
  exact ⟨rfl, HB.out⟩

set_option maxRecDepth 100000 in
set_option maxHeartbeats 1000000 in
theorem readPs1_panicking (B b c : Nat) (x y : Value) (older : List PanicEntry) (w : World) (hX : Bx w b [x]) (hY : Bx w c [y]) (hB : B ≤ b) (hC : B ≤ c) (hbc : b ≠ c) :
    CallsD Tryz.prog 92 #[.pointer (some ⟨b, 0, none⟩), .pointer (some ⟨c, 0, none⟩)] (.panicking ({ v := .iface 129 (.agg #[]), recovered := false } :: older)) w fun e u' w' =>
      e = .returned (.tuple #[]) ∧ u' = .panicking ({ v := .iface 129 (.agg #[]), recovered := true } :: older) ∧ Bx w' b [.slice none 0 0] ∧ Bx w' c [.int .i64 8] ∧ Below B w w' := by
  refine callsD_of_wpS Tryz.func92 rfl fun c₀ cs hu => ?_
  apply wpS_seq
  apply wpS_region
  simp [wpOpsS, go_sem, recoverD, hu, Tryz.ntmps92, Exit.thenS]
  refine wpS_of_wp ?_
  change Code.wp _ _ _ { tmps := #[.pointer (some ⟨b, 0, none⟩), .pointer (some ⟨c, 0, none⟩), .iface 129 (.agg #[]), undef, undef, undef, .iface 129 (.agg #[]), undef, undef, undef, undef, undef, undef, undef, undef, undef, undef, undef], defers := [] } w
  have hne : ∀ W : World, (binOp .neq 20 (.iface 129 (.agg #[])) .nilIface).run Tryz.prog W = .ok (.bool true) W := fun W => by kernel_rfl
  have hta : ∀ W : World, (Instr.typeAssert (.iface 129 (.agg #[])) 20 129 true).run Tryz.prog W = .ok (.tuple #[.agg #[], .bool true]) W := fun W => by kernel_rfl
  have n1 := nxA w (.cells #[] 129)
  have HX2 := Lib.hid (hX.next n1)
  have HY2 := Lib.hid (hY.next n1)
  have HBB := Lib.hid n1
  have hb : b < w.heap.size := hX.lt
  have hc : c < w.heap.size := hY.lt
  clear n1 hX hY
  go_upto_region 6 with fail
  generalize (w.alloc (.cells #[] 129)) = V at *
  have z0 := HX2.out.c 0 _ rfl
  have y0 := HX2.out.fr 0
  have x0 := HY2.out.c 0 _ rfl
  have f0 := HY2.out.fr 0
  have HR := Lib.hid (show Bx ((V.setCell ⟨b, 0, none⟩ (.slice none 0 0)).setCell ⟨c, 0, none⟩ (.int .i64 8)) b [.slice none 0 0] ∧ Bx ((V.setCell ⟨b, 0, none⟩ (.slice none 0 0)).setCell ⟨c, 0, none⟩ (.int .i64 8)) c [.int .i64 8] ∧ Below B w ((V.setCell ⟨b, 0, none⟩ (.slice none 0 0)).setCell ⟨c, 0, none⟩ (.int .i64 8)) from
    ⟨(HX2.out.set (k := 0) (by simp) _).other hbc 0 _, (HY2.out.other (fun e => hbc e.symm) 0 _).set (k := 0) (by simp) _, ((HBB.out.mono (by omega)).setCell (p := ⟨b, 0, none⟩) hB _).setCell (p := ⟨c, 0, none⟩) hC _⟩)
  go_wp2_with fail
  generalize (V.setCell ⟨b, 0, none⟩ (.slice none 0 0)).setCell ⟨c, 0, none⟩ (.int .i64 8) = Wf at HR ⊢
  obtain ⟨r1, r2, r3⟩ := HR.out
  clear HX2 HY2 HBB HR z0 y0 x0 f0
  cases c₀
  simp_all [bodyPostS, results, Tryz.results92]
set_option maxRecDepth 100000 in
set_option maxHeartbeats 2000000 in
theorem readPs1_idle (p q : Addr) (w : World) :
    CallsD Tryz.prog 92 #[.pointer (some p), .pointer (some q)] .returning w fun e u' w' => e = .returned (.tuple #[]) ∧ u' = .returning ∧ w' = w := by
  refine callsD_of_wpS Tryz.func92 rfl fun c₀ cs hu => ?_
  apply wpS_seq
  apply wpS_region
  simp [wpOpsS, go_sem, recoverD, hu, Tryz.ntmps92, Exit.thenS]
  refine wpS_of_wp ?_
  go_wp2
  cases c₀
  simp_all [bodyPostS, results, Tryz.results92]
theorem loadPs {w : World} {b : Nat} {A : Option Addr} {n c : Nat} (h : Bx w b [.slice A n c]) : (loadVar 26 ⟨b, 0, none⟩).run Tryz.prog w = .ok (.slice A n c) w := by
  have c0 := h.c 0 _ rfl
  clear h
  go_simp
/-- What is handed back: what was read, and the error's number. -/
def RdPs (o : Option (List Pc)) (w : World) (e : Ending) (w' : World) : Prop := ∃ v, e = .returned (.tuple #[v, .int .i64 (if o.isSome then 0 else 8)]) ∧ w'.ownsRow w.heap.size 51 28 v (o.getD []).length ((o.getD []).flatMap Pc.cells) ∧ Below w.heap.size w w'
set_option maxRecDepth 100000 in
set_option maxHeartbeats 4000000 in
theorem readPs_any (s : Tx) (hl : ¬ 65536 < s.length) (w : World) (hE : Env w) : Calls Tryz.prog 53 #[tx s, .func (.func 54) #[] #[], .func (.func 49) #[] #[], .func (.func 56) #[] #[]] w (RdPs (readS s) w) := by
  have HE := Lib.hid hE
  clear hE
  obtain ⟨R, hR⟩ : ∃ R, RdPs (readS s) w = R := ⟨_, rfl⟩
  rw [hR]
  have HRR := Lib.hid hR
  clear hR
  have hmf : ∀ (fn : Fn) (first cap : Array Value) (w : World), (Instr.makeFunc fn first cap).run Tryz.prog w = .ok (.func fn first cap) w := fun _ _ _ _ => rfl
  have HX0 := Lib.hid (Bx.new w #[.slice none 0 0] 26)
  have n1 := nxA w (.cells #[.slice none 0 0] 26)
  have n2 := nxA (w.alloc (.cells #[.slice none 0 0] 26)) (.cells #[.int .i64 0] 30)
  have HY1 := Lib.hid (Bx.new (w.alloc (.cells #[.slice none 0 0] 26)) #[.int .i64 0] 30)
  have HX1 := Lib.hid (HX0.out.next n2)
  have HB1 := Lib.hid (show Below w.heap.size w ((w.alloc (.cells #[.slice none 0 0] 26)).alloc (.cells #[.int .i64 0] 30)) from n1.trans (n2.mono n1.size))
  have hli : ¬ (65536 : Int) < (s.length : Int) := by omega
  clear n1 n2 HX0
  go_enter_defers Tryz.func53, Tryz.ntmps53
  go_upto_region 1 with fail
  rw [show (w.alloc (.cells #[.slice none 0 0] 26)).heap.size = w.heap.size + 1 by simp] at HY1
  generalize (w.alloc (.cells #[.slice none 0 0] 26)).alloc (.cells #[.int .i64 0] 30) = V1 at *
  obtain ⟨b, hb⟩ : ∃ b, b = w.heap.size := ⟨_, rfl⟩
  obtain ⟨c, hc⟩ : ∃ c, c = w.heap.size + 1 := ⟨_, rfl⟩
  rw [← hc] at HY1 ⊢
  rw [← hb] at HX1 ⊢
  have hhb : w.heap.size ≤ b := by omega
  have hhc : w.heap.size ≤ c := by omega
  have hbc : b ≠ c := by omega
  clear hb hc
  have HRD := Lib.hid (ReadScans1_any s V1)
  have HCL := Lib.hid (show ∀ (W : World) (x y : Value), Bx W b [x] → Bx W c [y] → Below w.heap.size w W → CallsD Tryz.prog 92 #[.pointer (some ⟨b, 0, none⟩), .pointer (some ⟨c, 0, none⟩)] (.panicking [{ v := .iface 129 (.agg #[]), recovered := false }]) W fun e u' w' => e = .returned (.tuple #[]) ∧ u' = .panicking [{ v := .iface 129 (.agg #[]), recovered := true }] ∧ Bx w' b [.slice none 0 0] ∧ Bx w' c [.int .i64 8] ∧ Below w.heap.size W w' from fun W x y h1 h2 h3 => readPs1_panicking w.heap.size b c x y [] W h1 h2 hhb hhc hbc)
  have HRES := Lib.hid (show readS s = none → ∀ W : World, Below w.heap.size w W → R (.returned (.tuple #[.slice none 0 0, .int .i64 8])) W from fun h0 W h1 => by
    rw [← HRR.out, h0]
    exact ⟨_, rfl, World.ownsRow_nil _ _ _ _, h1⟩)
  go_upto_region 4 with fail
  clear hmf hl hli
  have x0 := HX1.out.c 0 _ rfl
  have y0 := HX1.out.fr 0
  cases hp : parseS s with
  | none =>
    rw [hp] at HRD
    have HNO := Lib.hid (show readS s = none by unfold readS; rw [hp])
    clear hp
    go_wp2_with fail
    refine HRD.out.mono ?_
    rintro e V2 ⟨rfl, hb⟩
    dsimp only
    refine leaves_cons (f := 92) (args := #[.pointer (some ⟨b, 0, none⟩), .pointer (some ⟨c, 0, none⟩)]) (by simp) (by simp [go_sem]) ?_
    refine (HCL.out _ _ _ (HX1.out.next hb) (HY1.out.next hb) (HB1.out.trans (hb.mono HB1.out.size))).mono ?_
    rintro e9 u9 w9 ⟨rfl, rfl, q1, q2, q3⟩
    exact ⟨_, results_cells2 rfl rfl rfl (loadPs q1) (loadI q2), HRES.out HNO.out _ ((HB1.out.trans (hb.mono HB1.out.size)).trans q3)⟩
  | some l =>
    rw [hp] at HRD
    have HRO := Lib.hid (show readS s = if okPcs l = true ∧ scanB l = s then some l else none by unfold readS; rw [hp])
    have HPL := Lib.hid (parseS_len hp)
    clear hp
    go_wp2_with fail
    refine HRD.out.mono ?_
    rintro e V2 ⟨v, rfl, hown, hb⟩
    obtain ⟨A, cp, rfl, hat⟩ := own_at pc_len (by decide) hown
    have HXq := Lib.hid (HX1.out.next hb)
    have HYq := Lib.hid (HY1.out.next hb)
    have HBq := Lib.hid (HB1.out.trans (hb.mono HB1.out.size))
    have HSB := Lib.hid (HB1.out.size)
    have HNB := Lib.hid (show b < V1.heap.size from HX1.out.lt)
    have HNC := Lib.hid (show c < V1.heap.size from HY1.out.lt)
    have HOW := Lib.hid hown
    clear hb hat x0 y0 HX1 HY1 HB1 hown
    have x0 := HXq.out.c 0 _ rfl
    have y0 := HXq.out.fr 0
    have HX3 := Lib.hid (HXq.out.set (k := 0) (by simp) (.slice A l.length cp))
    have HY3 := Lib.hid (HYq.out.other (fun e => hbc e.symm) 0 (.slice A l.length cp))
    have HB3 := Lib.hid (HBq.out.setCell (p := ⟨b, 0, none⟩) hhb (.slice A l.length cp))
    have HO3 := Lib.hid (HOW.out.kept (sets_grown b [.slice A l.length cp] 0 V2) (.inr (own_far HOW.out HNB.out)))
    have HE3 := Lib.hid (HE.out.next HB3.out)
    go_upto_region 5 with fail
    clear x0 y0
    change Code.wp _ _ _ _ (V2.setCell ⟨b, 0, none⟩ (.slice A l.length cp))
    change Hid ((V2.setCell ⟨b, 0, none⟩ (.slice A l.length cp)).ownsRow _ _ _ _ _ _) at HO3
    generalize V2.setCell ⟨b, 0, none⟩ (.slice A l.length cp) = V3 at *
    clear HOW HXq HYq HBq
    have x0 := HX3.out.c 0 _ rfl
    have HAT := Lib.hid (show At V3 V3.heap.size 28 Pc.cells A l from at_of_own pc_len (by decide) HO3.out)
    have HIS := Lib.hid (arePieces_any A cp l V3 HAT.out (by have := HPL.out; omega))
    cases hok : okPcs l
    · have HNO := Lib.hid (show readS s = none by rw [HRO.out]; exact if_neg (fun h => by rw [hok] at h; cases h.1))
      rw [hok] at HIS
      clear hok
      go_wp2_with fail
      refine HIS.out.mono ?_
      rintro e3 V4 ⟨rfl, hb⟩
      have HX4 := Lib.hid (HX3.out.next hb)
      have HY4 := Lib.hid (HY3.out.next hb)
      have HB4 := Lib.hid (HB3.out.trans (hb.mono HB3.out.size))
      clear hb
      go_wp2_with fail
      refine (need_false V4).mono ?_
      rintro e V5 ⟨rfl, hb⟩
      dsimp only
      refine leaves_cons (f := 92) (args := #[.pointer (some ⟨b, 0, none⟩), .pointer (some ⟨c, 0, none⟩)]) (by simp) (by simp [go_sem]) ?_
      refine (HCL.out _ _ _ (HX4.out.next hb) (HY4.out.next hb) (HB4.out.trans (hb.mono HB4.out.size))).mono ?_
      rintro e9 u9 w9 ⟨rfl, rfl, q1, q2, q3⟩
      exact ⟨_, results_cells2 rfl rfl rfl (loadPs q1) (loadI q2), HRES.out HNO.out _ ((HB4.out.trans (hb.mono HB4.out.size)).trans q3)⟩
    · have HOK := Lib.hid hok
      rw [hok] at HIS
      clear hok
      go_wp2_with fail
      refine HIS.out.mono ?_
      rintro e3 V4 ⟨rfl, hb⟩
      have HX4 := Lib.hid (HX3.out.next hb)
      have HY4 := Lib.hid (HY3.out.next hb)
      have HB4 := Lib.hid (HB3.out.trans (hb.mono HB3.out.size))
      have HO4 := Lib.hid (own_below HO3.out hb)
      have HAT4 := Lib.hid (HAT.out.next hb)
      have HE4 := Lib.hid (HE3.out.next hb)
      have HD4 := Lib.hid (ReadScans2_any A cp l V4 HAT4.out HOK.out HPL.out)
      clear hb HX3 HY3 HB3 HO3 HE3 HIS x0
      have x0 := HX4.out.c 0 _ rfl
      go_wp2_with fail
      refine HD4.out.mono ?_
      rintro e3 V5 ⟨rfl, hb⟩
      have HX5 := Lib.hid (HX4.out.next hb)
      have HY5 := Lib.hid (HY4.out.next hb)
      have HO5 := Lib.hid (own_below HO4.out hb)
      have HB5 := Lib.hid (HB4.out.trans (hb.mono HB4.out.size))
      clear hb HX4 HY4 HB4 HD4 HE4 HO4 x0
      obtain ⟨T, hT⟩ : ∃ T, scanB l = T := ⟨_, rfl⟩
      rw [hT] at HRO ⊢
      clear hT
      by_cases hTs : T = s
      · have hts : (T == s) = true := by rw [hTs]; exact beq_self_eq_true s
        have HYS := Lib.hid (show readS s = some l by rw [HRO.out]; exact if_pos ⟨HOK.out, hTs⟩)
        clear hTs HRO
        go_wp2_with fail
        refine (need_true V5).mono ?_
        rintro e3 V6 ⟨rfl, rfl⟩
        have x0 := HX5.out.c 0 _ rfl
        have f0 := HX5.out.fr 0
        have y0 := HY5.out.c 0 _ rfl
        have z0 := HY5.out.fr 0
        have HX6 := Lib.hid ((HX5.out.set (k := 0) (by simp) (.slice A l.length cp)).other hbc 0 (.int .i64 0))
        have HY6 := Lib.hid ((HY5.out.other (fun e => hbc e.symm) 0 (.slice A l.length cp)).set (k := 0) (by simp) (.int .i64 0))
        have HB6 := Lib.hid ((HB5.out.setCell (p := ⟨b, 0, none⟩) hhb (.slice A l.length cp)).setCell (p := ⟨c, 0, none⟩) hhc (.int .i64 0))
        have HO6 := Lib.hid ((HO5.out.kept (sets_grown b [.slice A l.length cp] 0 V5) (.inr (own_far HO5.out HNB.out))).kept (sets_grown c [.int .i64 0] 0 _) (.inr (own_far HO5.out HNC.out)))
        go_wp2_with fail
        refine leaves_cons (f := 92) (args := #[.pointer (some ⟨b, 0, none⟩), .pointer (some ⟨c, 0, none⟩)]) (by simp) (by simp [go_sem]) ?_
        refine (readPs1_idle _ _ _).mono ?_
        rintro e9 u9 w9 ⟨rfl, rfl, rfl⟩
        refine ⟨_, results_cells2 rfl rfl rfl (loadPs HX6.out) (loadI HY6.out), ?_⟩
        rw [← HRR.out, HYS.out]
        exact ⟨_, rfl, own_base HO6.out HSB.out, HB6.out⟩
      · have hts : (T == s) = false := beq_eq_false_iff_ne.2 hTs
        have HNO := Lib.hid (show readS s = none by rw [HRO.out]; exact if_neg (fun h => hTs h.2))
        clear hTs
        go_wp2_with fail
        refine (need_false V5).mono ?_
        rintro e V6 ⟨rfl, hb⟩
        dsimp only
        refine leaves_cons (f := 92) (args := #[.pointer (some ⟨b, 0, none⟩), .pointer (some ⟨c, 0, none⟩)]) (by simp) (by simp [go_sem]) ?_
        refine (HCL.out _ _ _ (HX5.out.next hb) (HY5.out.next hb) (HB5.out.trans (hb.mono HB5.out.size))).mono ?_
        rintro e9 u9 w9 ⟨rfl, rfl, q1, q2, q3⟩
        exact ⟨_, results_cells2 rfl rfl rfl (loadPs q1) (loadI q2), HRES.out HNO.out _ ((HB5.out.trans (hb.mono HB5.out.size)).trans q3)⟩

end Go.Proofs.YtonnemkecppmiaaGreatDoor
