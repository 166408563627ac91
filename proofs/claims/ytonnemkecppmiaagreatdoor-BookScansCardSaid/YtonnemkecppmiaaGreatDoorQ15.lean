import Derived.Test.YtonnemkecppmiaaGreatDoorQ14
import Derived.Test.YtonnemkecppmiaaGreatDoorQ11
import Derived.Test.YtonnemkecppmiaaGreatDoorQ6
namespace Go.Proofs.YtonnemkecppmiaaGreatDoor
open Go.RowKit
/-! The program: read, of a log; ReadLog. -/
theorem own_max {W : World} {base : Nat} {e : TypeId} {size n : Nat} {v : Value} {xs : List Value} (h : W.ownsRow base e size v n xs) : n ≤ 9223372036854775807 := by
  rcases h.2 with ⟨-, h⟩ | ⟨g, cap, cur, -, -, -, h5, h6, -⟩
  · omega
  · unfold maxLen at h6; omega
set_option maxRecDepth 100000 in
set_option maxHeartbeats 1000000 in
theorem ReadLog2_any (A : Option Addr) (c : Nat) (l : List Wo) (w : World) (h : At w w.heap.size 4 Wo.cells A l) (hl : l.length ≤ 9223372036854775807) : Calls Tryz.prog 61 #[.slice A l.length c] w (Ret (.bool (decide (checkW l = 0))) w) := by
  have HC := Lib.hid (check_any A c l w h hl)
  clear h
  go_enter Tryz.func61, Tryz.ntmps61
  go_wp2_with fail
  refine HC.out.mono ?_
  rintro e V ⟨rfl, hb⟩
  have HB := Lib.hid hb
  clear hb
  go_wp2_with fail
  go_ret
  exact ret_bool (by rw [Bool.eq_iff_iff]; simp) HB.out

set_option maxRecDepth 100000 in
set_option maxHeartbeats 1000000 in
theorem readLo1_panicking (B b c : Nat) (x y : Value) (older : List PanicEntry) (w : World) (hX : Bx w b [x]) (hY : Bx w c [y]) (hB : B ≤ b) (hC : B ≤ c) (hbc : b ≠ c) :
    CallsD Tryz.prog 93 #[.pointer (some ⟨b, 0, none⟩), .pointer (some ⟨c, 0, none⟩)] (.panicking ({ v := .iface 129 (.agg #[]), recovered := false } :: older)) w fun e u' w' =>
      e = .returned (.tuple #[]) ∧ u' = .panicking ({ v := .iface 129 (.agg #[]), recovered := true } :: older) ∧ Bx w' b [.slice none 0 0] ∧ Bx w' c [.int .i64 8] ∧ Below B w w' := by
  refine callsD_of_wpS Tryz.func93 rfl fun c₀ cs hu => ?_
  apply wpS_seq
  apply wpS_region
  simp [wpOpsS, go_sem, recoverD, hu, Tryz.ntmps93, Exit.thenS]
  refine wpS_of_wp ?_
  change Code.wp _ _ _ { tmps := #[.pointer (some ⟨b, 0, none⟩), .pointer (some ⟨c, 0, none⟩), .iface 129 (.agg #[]), undef, undef, undef, .iface 129 (.agg #[]), undef, undef, undef, undef, undef, undef, undef, undef, undef, undef, undef], defers := [] } w
  have hne : ∀ W : World, (binOp .neq 20 (.iface 129 (.agg #[])) .nilIface).run Tryz.prog W = .ok (.bool true) W := fun W => by kernel_rfl
  have hta : ∀ W : World, (Instr.typeAssert (.iface 129 (.agg #[])) 20 129 true).run Tryz.prog W = .ok (.tuple #[.agg #[], .bool true]) W := fun W => by kernel_rfl
  have n1 := nxA w (.cells #[] 129)
  have HX2 := Lib.hid (hX.next n1)
  have HY2 := Lib.hid (hY.next n1)
  have HBB := Lib.hid n1
  have hb : b < w.heap.size := hX.lt
  have hc : c < w.heap.size := hY.lt
  clear n1 hX hY
  go_upto_region 6 with fail
  generalize (w.alloc (.cells #[] 129)) = V at *
  have z0 := HX2.out.c 0 _ rfl
  have y0 := HX2.out.fr 0
  have x0 := HY2.out.c 0 _ rfl
  have f0 := HY2.out.fr 0
  have HR := Lib.hid (show Bx ((V.setCell ⟨b, 0, none⟩ (.slice none 0 0)).setCell ⟨c, 0, none⟩ (.int .i64 8)) b [.slice none 0 0] ∧ Bx ((V.setCell ⟨b, 0, none⟩ (.slice none 0 0)).setCell ⟨c, 0, none⟩ (.int .i64 8)) c [.int .i64 8] ∧ Below B w ((V.setCell ⟨b, 0, none⟩ (.slice none 0 0)).setCell ⟨c, 0, none⟩ (.int .i64 8)) from
    ⟨(HX2.out.set (k := 0) (by simp) _).other hbc 0 _, (HY2.out.other (fun e => hbc e.symm) 0 _).set (k := 0) (by simp) _, ((HBB.out.mono (by omega)).setCell (p := ⟨b, 0, none⟩) hB _).setCell (p := ⟨c, 0, none⟩) hC _⟩)
  go_wp2_with fail
  generalize (V.setCell ⟨b, 0, none⟩ (.slice none 0 0)).setCell ⟨c, 0, none⟩ (.int .i64 8) = Wf at HR ⊢
  obtain ⟨r1, r2, r3⟩ := HR.out
  clear HX2 HY2 HBB HR z0 y0 x0 f0
  cases c₀
  simp_all [bodyPostS, results, Tryz.results93]
set_option maxRecDepth 100000 in
set_option maxHeartbeats 2000000 in
theorem readLo1_idle (p q : Addr) (w : World) :
    CallsD Tryz.prog 93 #[.pointer (some p), .pointer (some q)] .returning w fun e u' w' => e = .returned (.tuple #[]) ∧ u' = .returning ∧ w' = w := by
  refine callsD_of_wpS Tryz.func93 rfl fun c₀ cs hu => ?_
  apply wpS_seq
  apply wpS_region
  simp [wpOpsS, go_sem, recoverD, hu, Tryz.ntmps93, Exit.thenS]
  refine wpS_of_wp ?_
  go_wp2
  cases c₀
  simp_all [bodyPostS, results, Tryz.results93]
theorem loadLo {w : World} {b : Nat} {A : Option Addr} {n c : Nat} (h : Bx w b [.slice A n c]) : (loadVar 44 ⟨b, 0, none⟩).run Tryz.prog w = .ok (.slice A n c) w := by
  have c0 := h.c 0 _ rfl
  clear h
  go_simp
/-- What is handed back: what was read, and the error's number. -/
def RdLo (o : Option (List Wo)) (w : World) (e : Ending) (w' : World) : Prop := ∃ v, e = .returned (.tuple #[v, .int .i64 (if o.isSome then 0 else 8)]) ∧ w'.ownsRow w.heap.size 66 4 v (o.getD []).length ((o.getD []).flatMap Wo.cells) ∧ Below w.heap.size w w'
set_option maxRecDepth 100000 in
set_option maxHeartbeats 4000000 in
theorem readLo_any (s : Tx) (hl : ¬ 65536 < s.length) (w : World) (hE : Env w) : Calls Tryz.prog 58 #[tx s, .func (.func 59) #[] #[], .func (.func 61) #[] #[], .func (.func 63) #[] #[]] w (RdLo (readLg s) w) := by
  have HE := Lib.hid hE
  clear hE
  obtain ⟨R, hR⟩ : ∃ R, RdLo (readLg s) w = R := ⟨_, rfl⟩
  rw [hR]
  have HRR := Lib.hid hR
  clear hR
  have hmf : ∀ (fn : Fn) (first cap : Array Value) (w : World), (Instr.makeFunc fn first cap).run Tryz.prog w = .ok (.func fn first cap) w := fun _ _ _ _ => rfl
  have HX0 := Lib.hid (Bx.new w #[.slice none 0 0] 44)
  have n1 := nxA w (.cells #[.slice none 0 0] 44)
  have n2 := nxA (w.alloc (.cells #[.slice none 0 0] 44)) (.cells #[.int .i64 0] 30)
  have HY1 := Lib.hid (Bx.new (w.alloc (.cells #[.slice none 0 0] 44)) #[.int .i64 0] 30)
  have HX1 := Lib.hid (HX0.out.next n2)
  have HB1 := Lib.hid (show Below w.heap.size w ((w.alloc (.cells #[.slice none 0 0] 44)).alloc (.cells #[.int .i64 0] 30)) from n1.trans (n2.mono n1.size))
  have hli : ¬ (65536 : Int) < (s.length : Int) := by omega
  clear n1 n2 HX0
  go_enter_defers Tryz.func58, Tryz.ntmps58
  go_upto_region 1 with fail
  rw [show (w.alloc (.cells #[.slice none 0 0] 44)).heap.size = w.heap.size + 1 by simp] at HY1
  generalize (w.alloc (.cells #[.slice none 0 0] 44)).alloc (.cells #[.int .i64 0] 30) = V1 at *
  obtain ⟨b, hb⟩ : ∃ b, b = w.heap.size := ⟨_, rfl⟩
  obtain ⟨c, hc⟩ : ∃ c, c = w.heap.size + 1 := ⟨_, rfl⟩
  rw [← hc] at HY1 ⊢
  rw [← hb] at HX1 ⊢
  have hhb : w.heap.size ≤ b := by omega
  have hhc : w.heap.size ≤ c := by omega
  have hbc : b ≠ c := by omega
  clear hb hc
  have HRD := Lib.hid (ReadLog1_any s (by omega) V1 (HE.out.next HB1.out))
  have HCL := Lib.hid (show ∀ (W : World) (x y : Value), Bx W b [x] → Bx W c [y] → Below w.heap.size w W → CallsD Tryz.prog 93 #[.pointer (some ⟨b, 0, none⟩), .pointer (some ⟨c, 0, none⟩)] (.panicking [{ v := .iface 129 (.agg #[]), recovered := false }]) W fun e u' w' => e = .returned (.tuple #[]) ∧ u' = .panicking [{ v := .iface 129 (.agg #[]), recovered := true }] ∧ Bx w' b [.slice none 0 0] ∧ Bx w' c [.int .i64 8] ∧ Below w.heap.size W w' from fun W x y h1 h2 h3 => readLo1_panicking w.heap.size b c x y [] W h1 h2 hhb hhc hbc)
  have HRES := Lib.hid (show readLg s = none → ∀ W : World, Below w.heap.size w W → R (.returned (.tuple #[.slice none 0 0, .int .i64 8])) W from fun h0 W h1 => by
    rw [← HRR.out, h0]
    exact ⟨_, rfl, World.ownsRow_nil _ _ _ _, h1⟩)
  go_upto_region 4 with fail
  clear hmf hl hli
  have x0 := HX1.out.c 0 _ rfl
  have y0 := HX1.out.fr 0
  cases hp : parseL s with
  | none =>
    rw [hp] at HRD
    have HNO := Lib.hid (show readLg s = none by unfold readLg; rw [hp])
    clear hp
    go_wp2_with fail
    refine HRD.out.mono ?_
    rintro e V2 ⟨rfl, hb⟩
    dsimp only
    refine leaves_cons (f := 93) (args := #[.pointer (some ⟨b, 0, none⟩), .pointer (some ⟨c, 0, none⟩)]) (by simp) (by simp [go_sem]) ?_
    refine (HCL.out _ _ _ (HX1.out.next hb) (HY1.out.next hb) (HB1.out.trans (hb.mono HB1.out.size))).mono ?_
    rintro e9 u9 w9 ⟨rfl, rfl, q1, q2, q3⟩
    exact ⟨_, results_cells2 rfl rfl rfl (loadLo q1) (loadI q2), HRES.out HNO.out _ ((HB1.out.trans (hb.mono HB1.out.size)).trans q3)⟩
  | some l =>
    rw [hp] at HRD
    have HRO := Lib.hid (show readLg s = if checkW l = 0 ∧ logT l = s then some l else none by unfold readLg; rw [hp])
    have HPL := Lib.hid True.intro
    clear hp
    go_wp2_with fail
    refine HRD.out.mono ?_
    rintro e V2 ⟨v, rfl, hown, hb⟩
    obtain ⟨A, cp, rfl, hat⟩ := own_at wo_len (by decide) hown
    have HXq := Lib.hid (HX1.out.next hb)
    have HYq := Lib.hid (HY1.out.next hb)
    have HBq := Lib.hid (HB1.out.trans (hb.mono HB1.out.size))
    have HSB := Lib.hid (HB1.out.size)
    have HNB := Lib.hid (show b < V1.heap.size from HX1.out.lt)
    have HNC := Lib.hid (show c < V1.heap.size from HY1.out.lt)
    have HOW := Lib.hid hown
    clear hb hat x0 y0 HX1 HY1 HB1 hown
    have x0 := HXq.out.c 0 _ rfl
    have y0 := HXq.out.fr 0
    have HX3 := Lib.hid (HXq.out.set (k := 0) (by simp) (.slice A l.length cp))
    have HY3 := Lib.hid (HYq.out.other (fun e => hbc e.symm) 0 (.slice A l.length cp))
    have HB3 := Lib.hid (HBq.out.setCell (p := ⟨b, 0, none⟩) hhb (.slice A l.length cp))
    have HO3 := Lib.hid (HOW.out.kept (sets_grown b [.slice A l.length cp] 0 V2) (.inr (own_far HOW.out HNB.out)))
    have HE3 := Lib.hid (HE.out.next HB3.out)
    go_upto_region 5 with fail
    clear x0 y0
    change Code.wp _ _ _ _ (V2.setCell ⟨b, 0, none⟩ (.slice A l.length cp))
    change Hid ((V2.setCell ⟨b, 0, none⟩ (.slice A l.length cp)).ownsRow _ _ _ _ _ _) at HO3
    generalize V2.setCell ⟨b, 0, none⟩ (.slice A l.length cp) = V3 at *
    clear HOW HXq HYq HBq
    have x0 := HX3.out.c 0 _ rfl
    have HAT := Lib.hid (show At V3 V3.heap.size 4 Wo.cells A l from at_of_own wo_len (by decide) HO3.out)
    have HIS := Lib.hid (ReadLog2_any A cp l V3 HAT.out (own_max HO3.out))
    cases hok : decide (checkW l = 0)
    · have HNO := Lib.hid (show readLg s = none by rw [HRO.out]; exact if_neg (fun h => by have h1 := of_decide_eq_false hok; exact h1 h.1))
      rw [hok] at HIS
      clear hok
      go_wp2_with fail
      refine HIS.out.mono ?_
      rintro e3 V4 ⟨rfl, hb⟩
      have HX4 := Lib.hid (HX3.out.next hb)
      have HY4 := Lib.hid (HY3.out.next hb)
      have HB4 := Lib.hid (HB3.out.trans (hb.mono HB3.out.size))
      clear hb
      go_wp2_with fail
      refine (need_false V4).mono ?_
      rintro e V5 ⟨rfl, hb⟩
      dsimp only
      refine leaves_cons (f := 93) (args := #[.pointer (some ⟨b, 0, none⟩), .pointer (some ⟨c, 0, none⟩)]) (by simp) (by simp [go_sem]) ?_
      refine (HCL.out _ _ _ (HX4.out.next hb) (HY4.out.next hb) (HB4.out.trans (hb.mono HB4.out.size))).mono ?_
      rintro e9 u9 w9 ⟨rfl, rfl, q1, q2, q3⟩
      exact ⟨_, results_cells2 rfl rfl rfl (loadLo q1) (loadI q2), HRES.out HNO.out _ ((HB4.out.trans (hb.mono HB4.out.size)).trans q3)⟩
    · have HOK := Lib.hid hok
      rw [hok] at HIS
      clear hok
      go_wp2_with fail
      refine HIS.out.mono ?_
      rintro e3 V4 ⟨rfl, hb⟩
      have HX4 := Lib.hid (HX3.out.next hb)
      have HY4 := Lib.hid (HY3.out.next hb)
      have HB4 := Lib.hid (HB3.out.trans (hb.mono HB3.out.size))
      have HO4 := Lib.hid (own_below HO3.out hb)
      have HAT4 := Lib.hid (HAT.out.next hb)
      have HE4 := Lib.hid (HE3.out.next hb)
      have HD4 := Lib.hid (log_any A cp l V4 HE4.out HAT4.out (of_decide_eq_true HOK.out))
      clear hb HX3 HY3 HB3 HO3 HE3 HIS x0
      have x0 := HX4.out.c 0 _ rfl
      go_wp2_with fail
      refine HD4.out.mono ?_
      rintro e3 V5 ⟨rfl, hb⟩
      have HX5 := Lib.hid (HX4.out.next hb)
      have HY5 := Lib.hid (HY4.out.next hb)
      have HO5 := Lib.hid (own_below HO4.out hb)
      have HB5 := Lib.hid (HB4.out.trans (hb.mono HB4.out.size))
      clear hb HX4 HY4 HB4 HD4 HE4 HO4 x0
      obtain ⟨T, hT⟩ : ∃ T, logT l = T := ⟨_, rfl⟩
      rw [hT] at HRO ⊢
      clear hT
      by_cases hTs : T = s
      · have hts : (T == s) = true := by rw [hTs]; exact beq_self_eq_true s
        have HYS := Lib.hid (show readLg s = some l by rw [HRO.out]; exact if_pos ⟨of_decide_eq_true HOK.out, hTs⟩)
        clear hTs HRO
        go_wp2_with fail
        refine (need_true V5).mono ?_
        rintro e3 V6 ⟨rfl, rfl⟩
        have x0 := HX5.out.c 0 _ rfl
        have f0 := HX5.out.fr 0
        have y0 := HY5.out.c 0 _ rfl
        have z0 := HY5.out.fr 0
        have HX6 := Lib.hid ((HX5.out.set (k := 0) (by simp) (.slice A l.length cp)).other hbc 0 (.int .i64 0))
        have HY6 := Lib.hid ((HY5.out.other (fun e => hbc e.symm) 0 (.slice A l.length cp)).set (k := 0) (by simp) (.int .i64 0))
        have HB6 := Lib.hid ((HB5.out.setCell (p := ⟨b, 0, none⟩) hhb (.slice A l.length cp)).setCell (p := ⟨c, 0, none⟩) hhc (.int .i64 0))
        have HO6 := Lib.hid ((HO5.out.kept (sets_grown b [.slice A l.length cp] 0 V5) (.inr (own_far HO5.out HNB.out))).kept (sets_grown c [.int .i64 0] 0 _) (.inr (own_far HO5.out HNC.out)))
        go_wp2_with fail
        refine leaves_cons (f := 93) (args := #[.pointer (some ⟨b, 0, none⟩), .pointer (some ⟨c, 0, none⟩)]) (by simp) (by simp [go_sem]) ?_
        refine (readLo1_idle _ _ _).mono ?_
        rintro e9 u9 w9 ⟨rfl, rfl, rfl⟩
        refine ⟨_, results_cells2 rfl rfl rfl (loadLo HX6.out) (loadI HY6.out), ?_⟩
        rw [← HRR.out, HYS.out]
        exact ⟨_, rfl, own_base HO6.out HSB.out, HB6.out⟩
      · have hts : (T == s) = false := beq_eq_false_iff_ne.2 hTs
        have HNO := Lib.hid (show readLg s = none by rw [HRO.out]; exact if_neg (fun h => hTs h.2))
        clear hTs
        go_wp2_with fail
        refine (need_false V5).mono ?_
        rintro e V6 ⟨rfl, hb⟩
        dsimp only
        refine leaves_cons (f := 93) (args := #[.pointer (some ⟨b, 0, none⟩), .pointer (some ⟨c, 0, none⟩)]) (by simp) (by simp [go_sem]) ?_
        refine (HCL.out _ _ _ (HX5.out.next hb) (HY5.out.next hb) (HB5.out.trans (hb.mono HB5.out.size))).mono ?_
        rintro e9 u9 w9 ⟨rfl, rfl, q1, q2, q3⟩
        exact ⟨_, results_cells2 rfl rfl rfl (loadLo q1) (loadI q2), HRES.out HNO.out _ ((HB5.out.trans (hb.mono HB5.out.size)).trans q3)⟩

set_option maxRecDepth 100000 in
set_option maxHeartbeats 4000000 in
theorem readLo_long (s : Tx) (hl : 65536 < s.length) (w : World) : Calls Tryz.prog 58 #[tx s, .func (.func 59) #[] #[], .func (.func 61) #[] #[], .func (.func 63) #[] #[]] w (fun e w' => e = .returned (.tuple #[.slice none 0 0, .int .i64 3]) ∧ Below w.heap.size w w') := by
  obtain ⟨R, hR⟩ : ∃ R : Ending → World → Prop, (fun e w' => e = .returned (.tuple #[.slice none 0 0, .int .i64 3]) ∧ Below w.heap.size w w') = R := ⟨_, rfl⟩
  rw [hR]
  have HRR := Lib.hid (show ∀ W, Below w.heap.size w W → R (.returned (.tuple #[.slice none 0 0, .int .i64 3])) W from fun W h => by rw [← hR]; exact ⟨rfl, h⟩)
  clear hR
  have HX0 := Lib.hid (Bx.new w #[.slice none 0 0] 44)
  have n1 := nxA w (.cells #[.slice none 0 0] 44)
  have n2 := nxA (w.alloc (.cells #[.slice none 0 0] 44)) (.cells #[.int .i64 0] 30)
  have HY1 := Lib.hid (Bx.new (w.alloc (.cells #[.slice none 0 0] 44)) #[.int .i64 0] 30)
  have HX1 := Lib.hid (HX0.out.next n2)
  have HB1 := Lib.hid (show Below w.heap.size w ((w.alloc (.cells #[.slice none 0 0] 44)).alloc (.cells #[.int .i64 0] 30)) from n1.trans (n2.mono n1.size))
  have hli : (65536 : Int) < (s.length : Int) := by omega
  clear n1 n2 HX0 hl
  go_enter_defers Tryz.func58, Tryz.ntmps58
  go_upto_region 1 with fail
  rw [show (w.alloc (.cells #[.slice none 0 0] 44)).heap.size = w.heap.size + 1 by simp] at HY1
  generalize (w.alloc (.cells #[.slice none 0 0] 44)).alloc (.cells #[.int .i64 0] 30) = V1 at *
  obtain ⟨b, hb⟩ : ∃ b, b = w.heap.size := ⟨_, rfl⟩
  obtain ⟨c, hc⟩ : ∃ c, c = w.heap.size + 1 := ⟨_, rfl⟩
  rw [← hc] at HY1 ⊢
  rw [← hb] at HX1 ⊢
  have hhb : w.heap.size ≤ b := by omega
  have hhc : w.heap.size ≤ c := by omega
  have hbc : b ≠ c := by omega
  clear hb hc
  have x0 := HX1.out.c 0 _ rfl
  have y0 := HX1.out.fr 0
  have x1 := HY1.out.c 0 _ rfl
  have y1 := HY1.out.fr 0
  have HX2 := Lib.hid ((HX1.out.set (k := 0) (by simp) (.slice none 0 0)).other hbc 0 (.int .i64 3))
  have HY2 := Lib.hid ((HY1.out.other (fun e => hbc e.symm) 0 (.slice none 0 0)).set (k := 0) (by simp) (.int .i64 3))
  have HB2 := Lib.hid ((HB1.out.setCell (p := ⟨b, 0, none⟩) hhb (.slice none 0 0)).setCell (p := ⟨c, 0, none⟩) hhc (.int .i64 3))
  go_wp2_with fail
  refine ret_nil rfl ⟨_, results_cells2 rfl rfl rfl (loadLo HX2.out) (loadI HY2.out), ?_⟩
  exact HRR.out _ HB2.out
def rlV (s : Tx) : List Wo := if 65536 < s.length then [] else (readLg s).getD []
def rlE (s : Tx) : Int := if 65536 < s.length then 3 else if (readLg s).isSome then 0 else 8
def RetRl (s : Tx) (w : World) (e : Ending) (w' : World) : Prop := ∃ v, e = .returned (.tuple #[v, .int .i64 (rlE s)]) ∧ w'.ownsRow w.heap.size 66 4 v (rlV s).length ((rlV s).flatMap Wo.cells) ∧ Below w.heap.size w w'
set_option maxRecDepth 100000 in
set_option maxHeartbeats 1000000 in
theorem ReadLog_any (s : Tx) (w : World) (hE : Env w) : Calls Tryz.prog 23 #[tx s] w (RetRl s w) := by
  have HE := Lib.hid hE
  clear hE
  obtain ⟨R, hR⟩ : ∃ R, RetRl s w = R := ⟨_, rfl⟩
  rw [hR]
  have HRR := Lib.hid hR
  clear hR
  by_cases hl : 65536 < s.length
  · have HV := Lib.hid (show rlV s = [] from if_pos hl)
    have HW := Lib.hid (show rlE s = 3 from if_pos hl)
    have HC := Lib.hid (readLo_long s hl w)
    clear hl
    go_enter Tryz.func23, Tryz.ntmps23
    go_wp2_with fail
    refine HC.out.mono ?_
    rintro e W ⟨rfl, hb⟩
    have HB := Lib.hid hb
    clear hb
    go_wp2_with fail
    try go_ret2
    rw [← HRR.out]
    exact ⟨_, by rw [HW.out]; rfl, by rw [HV.out]; exact World.ownsRow_nil _ _ _ _, HB.out⟩
  · have HV := Lib.hid (show rlV s = (readLg s).getD [] from if_neg hl)
    have HW := Lib.hid (show rlE s = if (readLg s).isSome then 0 else 8 from if_neg hl)
    have HC := Lib.hid (readLo_any s hl w HE.out)
    clear hl
    go_enter Tryz.func23, Tryz.ntmps23
    go_wp2_with fail
    refine HC.out.mono ?_
    rintro e W ⟨v, rfl, hown, hb⟩
    have HO := Lib.hid hown
    have HB := Lib.hid hb
    obtain ⟨k, hk⟩ : ∃ k, (if (readLg s).isSome = true then (0 : Int) else 8) = k := ⟨_, rfl⟩
    rw [hk] at HW ⊢
    clear hown hb hk
    go_wp2_with fail
    try go_ret2
    rw [← HRR.out]
    exact ⟨v, by rw [HW.out]; rfl, by rw [HV.out]; exact HO.out, HB.out⟩

end Go.Proofs.YtonnemkecppmiaaGreatDoor
