import Derived.Test.YtbhkglokdomajaaDoorP14
import Derived.WalkMore
namespace Go.Proofs.YtbhkglokdomajaaDoor
open Go.RowKit
open Go.Maps (Keyed)
/-! The program: on, the search of Plan. -/
def RetOn (d : Die) (l : List Stint) (A : Option Addr) (c B0 bl bk bkc bm bo j : Nat) (r : Nat → Int) (W : World) (e : Ending) (W' : World) : Prop := ∃ v, e = .returned v ∧ RestAt W' bk (bestAt d l j r) v ∧ OnW d l A c B0 bl bk bkc bm bo W' ∧ W.grownBy W' (some bk)
def ROnE (d : Die) (l : List Stint) (A : Option Addr) (c B0 bl bk bkc bm bo j : Nat) (r : Nat → Int) (N : Nat) (W0 : World) (i : Value) (W : World) : Prop := ∃ q, q ≤ N ∧ i = .int .i64 (q : Nat) ∧ Bx W W0.heap.size [.int .i64 j, .int .i64 (r 0), .int .i64 (r 1), .int .i64 (r 2), .int .i64 (r 3), .int .i64 (r 4)] ∧
  (∃ A' n' cc' cs is, Bx W (W0.heap.size + 1) [.slice A' n' cc', .int .i64 cs, .bool is] ∧ RestC W bk A' n' cc' cs is (fm ((List.range q).map (tryS d.blades d.bound (costS d.stop d.bend) (bestAt d l (j + 1)) (l.getD j ⟨0, 0⟩) r)))) ∧ OnW d l A c B0 bl bk bkc bm bo W ∧ W0.grownBy W (some bk)
theorem rest_zero (W : World) : (zeroValue 101).run Tryd.prog W = .ok (.agg #[.slice none 0 0, .int .i64 0, .bool false]) W := by kernel_rfl
set_option maxRecDepth 100000 in
set_option maxHeartbeats 4000000 in
theorem on_any (d : Die) (l : List Stint) (A : Option Addr) (c B0 bl bk bkc bm bo : Nat) (ok : OkD d) (okl : OkL l) (m : Nat) : ∀ (j : Nat) (r : Nat → Int) (W : World), j + m = l.length → (∀ k, 0 ≤ r k ∧ r k ≤ 1000 * j) → (∀ k, 5 ≤ k → r k = 0) → OnW d l A c B0 bl bk bkc bm bo W →
    Calls Tryd.prog 54 #[.agg #[.int .i64 j, .int .i64 (r 0), .int .i64 (r 1), .int .i64 (r 2), .int .i64 (r 3), .int .i64 (r 4)], .pointer (some ⟨bl, 0, none⟩), .pointer (some ⟨bkc, 0, none⟩), .pointer (some ⟨bm, 0, none⟩), .pointer (some ⟨bo, 0, none⟩)] W (RetOn d l A c B0 bl bk bkc bm bo j r W) := by
  obtain ⟨i1, gi, gz0, gz1, gz2⟩ := info_parts int_sinfo
  induction m with
  | zero =>
    intro j r W hjm hr hr5 h
    obtain rfl : j = l.length := by omega
    have hbb := (nxA W (.cells #[.int .i64 (l.length : Nat), .int .i64 (r 0), .int .i64 (r 1), .int .i64 (r 2), .int .i64 (r 3), .int .i64 (r 4)] 99)).trans ((nxA (W.alloc (.cells #[.int .i64 (l.length : Nat), .int .i64 (r 0), .int .i64 (r 1), .int .i64 (r 2), .int .i64 (r 3), .int .i64 (r 4)] 99)) (.cells #[.slice none 0 0, .int .i64 0, .bool false] 101)).mono (by simp))
    have B0' := Lib.hid hbb
    have H := Lib.hid (h.next hbb)
    have X0 := Lib.hid ((Bx.new W #[.int .i64 (l.length : Nat), .int .i64 (r 0), .int .i64 (r 1), .int .i64 (r 2), .int .i64 (r 3), .int .i64 (r 4)] 99).next (nxA _ (.cells #[.slice none 0 0, .int .i64 0, .bool false] 101)))
    have Y0 := Lib.hid (show Bx ((W.alloc (.cells #[.int .i64 (l.length : Nat), .int .i64 (r 0), .int .i64 (r 1), .int .i64 (r 2), .int .i64 (r 3), .int .i64 (r 4)] 99)).alloc (.cells #[.slice none 0 0, .int .i64 0, .bool false] 101)) (W.heap.size + 1) [.slice none 0 0, .int .i64 0, .bool false] from by
      have := Bx.new (W.alloc (.cells #[.int .i64 (l.length : Nat), .int .i64 (r 0), .int .i64 (r 1), .int .i64 (r 2), .int .i64 (r 3), .int .i64 (r 4)] 99)) #[.slice none 0 0, .int .i64 0, .bool false] 101
      rw [World.size_alloc] at this
      exact this)
    have hl1 := h.bl_.lt
    have hl2 := h.bk_.lt
    have hl3 := h.bm_.lt
    have hl4 := h.bo_.lt
    have hl5 := h.memo.lt
    have hl6 := h.b
    clear h hbb
    go_enter Tryd.func54, Tryd.ntmps54
    go_wp2_with fail
    refine wp_scope_straight ?_
    generalize ((W.alloc (.cells #[.int .i64 (l.length : Nat), .int .i64 (r 0), .int .i64 (r 1), .int .i64 (r 2), .int .i64 (r 3), .int .i64 (r 4)] 99)).alloc (.cells #[.slice none 0 0, .int .i64 0, .bool false] 101)) = V at *
    have c0 := X0.out.c 0 _ rfl
    have L0 := H.out.bl_.c 0 _ rfl
    have y0 := Y0.out.c 0 _ rfl
    have y1 := Y0.out.c 1 _ rfl
    have y2 := Y0.out.c 2 _ rfl
    have f0 := Y0.out.fr 0
    have f1 := Y0.out.fr 1
    have f2 := Y0.out.fr 2
    go_wp2_with fail
    refine bodyPost_ret (results_cell1 rfl rfl (loadRest (Y0.out.setAll [.slice none 0 0, .int .i64 0, .bool true] rfl))) rfl ?_
    refine ⟨_, rfl, ⟨none, 0, 0, 0, true, rfl, ?_⟩, H.out.setB Y0.out (by omega) (by omega) (by omega) (by omega) (by omega) (by omega) [.slice none 0 0, .int .i64 0, .bool true], grow_set (only_of_below B0'.out (some bk)) (by omega) [.slice none 0 0, .int .i64 0, .bool true] 0⟩
    rw [best_end]
    exact ⟨⟨rfl, .inl ⟨rfl, rfl, rfl⟩⟩, rfl, rfl⟩
  | succ m ih =>
    intro j r W hjm hr hr5 h
    have IH := Lib.hid ih
    clear ih
    have hbb := (nxA W (.cells #[.int .i64 (j : Nat), .int .i64 (r 0), .int .i64 (r 1), .int .i64 (r 2), .int .i64 (r 3), .int .i64 (r 4)] 99)).trans ((nxA (W.alloc (.cells #[.int .i64 (j : Nat), .int .i64 (r 0), .int .i64 (r 1), .int .i64 (r 2), .int .i64 (r 3), .int .i64 (r 4)] 99)) (.cells #[.slice none 0 0, .int .i64 0, .bool false] 101)).mono (by simp))
    have B0' := Lib.hid hbb
    have H := Lib.hid (h.next hbb)
    have X0 := Lib.hid ((Bx.new W #[.int .i64 (j : Nat), .int .i64 (r 0), .int .i64 (r 1), .int .i64 (r 2), .int .i64 (r 3), .int .i64 (r 4)] 99).next (nxA _ (.cells #[.slice none 0 0, .int .i64 0, .bool false] 101)))
    have Y0 := Lib.hid (show Bx ((W.alloc (.cells #[.int .i64 (j : Nat), .int .i64 (r 0), .int .i64 (r 1), .int .i64 (r 2), .int .i64 (r 3), .int .i64 (r 4)] 99)).alloc (.cells #[.slice none 0 0, .int .i64 0, .bool false] 101)) (W.heap.size + 1) [.slice none 0 0, .int .i64 0, .bool false] from by
      have := Bx.new (W.alloc (.cells #[.int .i64 (j : Nat), .int .i64 (r 0), .int .i64 (r 1), .int .i64 (r 2), .int .i64 (r 3), .int .i64 (r 4)] 99)) #[.slice none 0 0, .int .i64 0, .bool false] 101
      rw [World.size_alloc] at this
      exact this)
    have hl1 := h.bl_.lt
    have hl2 := h.bk_.lt
    have hl3 := h.bm_.lt
    have hl4 := h.bo_.lt
    have hl5 := h.memo.lt
    have hl6 := h.b
    have hll := okl.nl
    have hkey := state_key (j := j) (r := r) (by simp [Lit.wf, IntKind.min, IntKind.max, IntKind.bits, IntKind.signed]; omega) (fun k => by have := hr k; simp [Lit.wf, IntKind.min, IntKind.max, IntKind.bits, IntKind.signed]; omega)
    obtain ⟨kl, hkl⟩ := hkey
    have hjne : ((j : Int) == (l.length : Int)) = false := by rw [beq_eq_false_iff_ne]; omega
    clear h hbb
    go_enter Tryd.func54, Tryd.ntmps54
    go_wp2_with fail
    refine wp_scope_straight ?_
    generalize ((W.alloc (.cells #[.int .i64 (j : Nat), .int .i64 (r 0), .int .i64 (r 1), .int .i64 (r 2), .int .i64 (r 3), .int .i64 (r 4)] 99)).alloc (.cells #[.slice none 0 0, .int .i64 0, .bool false] 101)) = V at *
    have c0 := X0.out.c 0 _ rfl
    have c1 := X0.out.c 1 _ rfl
    have c2 := X0.out.c 2 _ rfl
    have c3 := X0.out.c 3 _ rfl
    have c4 := X0.out.c 4 _ rfl
    have c5 := X0.out.c 5 _ rfl
    have L0 := H.out.bl_.c 0 _ rfl
    have K0 := H.out.bk_.c 0 _ rfl
    have y0 := Y0.out.c 0 _ rfl
    have y1 := Y0.out.c 1 _ rfl
    have y2 := Y0.out.c 2 _ rfl
    have f0 := Y0.out.fr 0
    have f1 := Y0.out.fr 1
    have f2 := Y0.out.fr 2
    have m0 := H.out.bm_.c 0 _ rfl
    have m1 := H.out.bm_.c 1 _ rfl
    have m2 := H.out.bm_.c 2 _ rfl
    have m3 := H.out.bm_.c 3 _ rfl
    have m4 := H.out.bm_.c 4 _ rfl
    have hm0 := H.out.bm_.lt
    have hx0 := X0.out.lt
    have hy0 := Y0.out.lt
    go_wp2_with (at_lookup; refine wpList_lookup_memo _ rfl _ _ 96 rfl 99 101 state_keyed map_und _ (rest_zero _) bk _ rfl H.out.memo (stateV j r) kl rfl hkl ?_ ?_; rotate_left; (intro v hv; obtain ⟨A', n', cc', cs, is, hve, hvr⟩ := hv.at hr5; unfold restV at hve; subst hve; have Hvr := Lib.hid hvr; clear hv hvr))
    · have Y1 := Y0.out.setAll [.slice A' n' cc', .int .i64 cs, .bool is] rfl
      have hA := nxA (setCells V (W.heap.size + 1) 0 [.slice A' n' cc', .int .i64 cs, .bool is]) (.cells #[.slice A' n' cc', .int .i64 cs, .bool is] 101)
      refine bodyPost_ret (results_cell1 rfl rfl (loadRest (Y1.next hA))) rfl ?_
      refine ⟨_, rfl, ⟨A', n', cc', cs, is, rfl, ?_⟩, (H.out.setB Y0.out (by omega) (by omega) (by omega) (by omega) (by omega) (by omega) [.slice A' n' cc', .int .i64 cs, .bool is]).next hA, grow_next (grow_set (only_of_below B0'.out (some bk)) (by omega) [.slice A' n' cc', .int .i64 cs, .bool is] 0) hA⟩
      exact (Hvr.out.imp (set_plan Y0.out _)).imp (grow_plan (only_of_below hA (some bk)))
    · have hA := nxA V (.cells #[.slice none 0 0, .int .i64 0, .bool false] 101)
      have H1 := Lib.hid (H.out.next hA)
      have X1 := Lib.hid (X0.out.next hA)
      have Y1 := Lib.hid (Y0.out.next hA)
      have G1 := Lib.hid (only_of_below (B0'.out.trans (hA.mono B0'.out.size)) (some bk))
      clear hA H X0 Y0 B0' c0 c1 c2 c3 c4 c5 L0 K0 y0 y1 y2 f0 f1 f2 m0 m1 m2 m3 m4
      generalize V.alloc (.cells #[.slice none 0 0, .int .i64 0, .bool false] 101) = V1 at *
      obtain ⟨M, hM⟩ : ∃ M, M = 2 ^ d.blades.length := ⟨_, rfl⟩
      have hM32 : M ≤ 32 := by rw [hM]; exact (Nat.pow_le_pow_right (by omega) ok.nb.2 : 2 ^ d.blades.length ≤ 2 ^ 5)
      have hM1 : 1 ≤ M := by rw [hM]; exact Nat.pow_pos (by omega)
      have HM := Lib.hid hM
      have hpw : powI d.blades.length = (M : Int) := by rw [hM]; rfl
      have HAll := Lib.hid (all_any d A l.length c V1 ok)
      rw [hpw] at HAll
      clear hM hpw
      have HNd := Lib.hid (show setsN d j = if j = 0 then 1 else M from by rw [HM.out]; rfl)
      refine HAll.out.mono ?_
      rintro e V2 ⟨rfl, hb⟩
      have H2 := Lib.hid (H1.out.next hb)
      have X2 := Lib.hid (X1.out.next hb)
      have Y2 := Lib.hid (Y1.out.next hb)
      have G2 := Lib.hid (grow_next G1.out hb)
      clear hb H1 X1 Y1 G1 HAll
      have c0 := X2.out.c 0 _ rfl
      by_cases hj0 : j = 0
      · have djz : ((j : Int) == 0) = true := by simp [hj0]
        have HNs := Lib.hid (show setsN d j = 1 by rw [HNd.out]; simp [hj0])
        clear hj0 HNd
        go_wp2_with fail
        refine wp_label ?_
        go_wp2_with fail
        clear c0 djz
        go_loopw [36] (fun i wr => ROnE d l A c B0 bl bk bkc bm bo j r 1 W i wr) (fun i _ => 1 - (intOf i).toNat)
        case atStart => exact ⟨0, by omega, rfl, X2.out, ⟨none, 0, 0, 0, false, Y2.out, rfl, rfl, rfl, rfl, rfl⟩, H2.out, G2.out⟩
        case round =>
          obtain ⟨q, hq, rfl, hX, ⟨A', n', cc', cs, is, hY, hC⟩, hW, hG⟩ := hrel
          by_cases hlt : (q : Int) < 1
          · have hqM : q < M := by omega
            have hqN : q < 1 := by omega
            have hset2 : q < 2 ^ d.blades.length := by rw [← HM.out]; exact hqM
            have hjl : j < l.length := by omega
            have hBW : B0 ≤ wr.heap.size := by have := hW.memo.lt; have := hW.b; omega
            have HRU := Lib.hid (run_any d A c l r q j wr ok okl hjl hset2 (fun k => by have := hr k; omega) (hW.da.more hBW) (hW.sa.more hBW) hW.en)
            have HCO := Lib.hid (fun W' => cost_any d A l.length c q W' ok (by omega))
            have hcb := costS_bd ok q
            have hrr : runRes d (l.getD j ⟨0, 0⟩) r q = .tuple #[.agg #[.int .i64 (runR d.blades.length r q (l.getD j ⟨0, 0⟩).n 0), .int .i64 (runR d.blades.length r q (l.getD j ⟨0, 0⟩).n 1), .int .i64 (runR d.blades.length r q (l.getD j ⟨0, 0⟩).n 2), .int .i64 (runR d.blades.length r q (l.getD j ⟨0, 0⟩).n 3), .int .i64 (runR d.blades.length r q (l.getD j ⟨0, 0⟩).n 4)], .int .i64 (badI (badS d.blades (d.bound + (l.getD j ⟨0, 0⟩).more) (runR d.blades.length r q (l.getD j ⟨0, 0⟩).n)))] := rfl
            rw [hrr] at HRU
            have htm : l.getD j ⟨0, 0⟩ ∈ l := by rw [List.getD_eq_getElem?_getD, List.getElem?_eq_getElem hjl]; exact List.getElem_mem hjl
            have htn := okl.st _ htm
            have hr1 : ∀ k, 0 ≤ runR d.blades.length r q (l.getD j ⟨0, 0⟩).n k ∧ runR d.blades.length r q (l.getD j ⟨0, 0⟩).n k ≤ 1000 * ((j + 1 : Nat) : Int) := fun k => by
              have := hr k
              unfold runR
              split <;> split <;> omega
            have hr15 := run_five ok.nb.2 hr5 q (l.getD j ⟨0, 0⟩).n
            have HIH := Lib.hid (fun W' hW' => IH.out (j + 1) (runR d.blades.length r q (l.getD j ⟨0, 0⟩).n) W' (by omega) hr1 hr15 hW')
            have HBB := Lib.hid (fun x h => best_bd ok (l := l) (j := j + 1) (r := runR d.blades.length r q (l.getD j ⟨0, 0⟩).n) (x := x) h)
            have HTR := Lib.hid (show tryS d.blades d.bound (costS d.stop d.bend) (bestAt d l (j + 1)) (l.getD j ⟨0, 0⟩) r q = if (badS d.blades (d.bound + (l.getD j ⟨0, 0⟩).more) (runR d.blades.length r q (l.getD j ⟨0, 0⟩).n)).isSome then none else (bestAt d l (j + 1) (runR d.blades.length r q (l.getD j ⟨0, 0⟩).n)).map fun x => (q :: x.1, x.2 + costS d.stop d.bend q) from rfl)
            have HFM := Lib.hid (fm_range_succ (tryS d.blades d.bound (costS d.stop d.bend) (bestAt d l (j + 1)) (l.getD j ⟨0, 0⟩) r) q)
            have HREL := Lib.hid (fun (W' : World) (A' : Option Addr) (n' cc' : Nat) (cs : Int) (is : Bool) (o : Option Pl) (hX : Bx W' W.heap.size [.int .i64 j, .int .i64 (r 0), .int .i64 (r 1), .int .i64 (r 2), .int .i64 (r 3), .int .i64 (r 4)]) (hY : Bx W' (W.heap.size + 1) [.slice A' n' cc', .int .i64 cs, .bool is]) (hC : RestC W' bk A' n' cc' cs is o) (hW' : OnW d l A c B0 bl bk bkc bm bo W') (hG : W.grownBy W' (some bk)) (he : fm ((List.range (q + 1)).map (tryS d.blades d.bound (costS d.stop d.bend) (bestAt d l (j + 1)) (l.getD j ⟨0, 0⟩) r)) = o) =>
              (show ROnE d l A c B0 bl bk bkc bm bo j r 1 W (.int .i64 ((q + 1 : Nat) : Int)) W' from ⟨q + 1, hqN, rfl, hX, ⟨A', n', cc', cs, is, hY, by rw [he]; exact hC⟩, hW', hG⟩))
            unfold RetOn at HIH
            clear hrr htm hr1 hr15 hset2
            generalize badS d.blades (d.bound + (l.getD j ⟨0, 0⟩).more) (runR d.blades.length r q (l.getD j ⟨0, 0⟩).n) = b at *
            generalize runR d.blades.length r q (l.getD j ⟨0, 0⟩).n = r' at *
            generalize bestAt d l (j + 1) r' = o2 at *
            generalize tryS d.blades d.bound (costS d.stop d.bend) (bestAt d l (j + 1)) (l.getD j ⟨0, 0⟩) r q = x2 at *
            generalize fm ((List.range (q + 1)).map (tryS d.blades d.bound (costS d.stop d.bend) (bestAt d l (j + 1)) (l.getD j ⟨0, 0⟩) r)) = o3 at *
            generalize fm ((List.range q).map (tryS d.blades d.bound (costS d.stop d.bend) (bestAt d l (j + 1)) (l.getD j ⟨0, 0⟩) r)) = o1 at *
            have m0 := hW.bm_.c 0 _ rfl
            have m1 := hW.bm_.c 1 _ rfl
            have m2 := hW.bm_.c 2 _ rfl
            have m3 := hW.bm_.c 3 _ rfl
            have m4 := hW.bm_.c 4 _ rfl
            have x0 := hX.c 0 _ rfl
            have x1 := hX.c 1 _ rfl
            have x2' := hX.c 2 _ rfl
            have x3 := hX.c 3 _ rfl
            have x4 := hX.c 4 _ rfl
            have x5 := hX.c 5 _ rfl
            have HX := Lib.hid hX
            have HY := Lib.hid hY
            have HC := Lib.hid hC
            have HW := Lib.hid hW
            have HG := Lib.hid hG
            clear hX hY hC hW hG
            go_wp2_with fail
            refine HRU.out.mono ?_
            rintro e W3 ⟨rfl, hb⟩
            have hA := hb.trans ((nxA W3 (.cells #[.int .i64 (r' 0), .int .i64 (r' 1), .int .i64 (r' 2), .int .i64 (r' 3), .int .i64 (r' 4)] 91)).mono hb.size)
            have R3 := Lib.hid (Bx.new W3 #[.int .i64 (r' 0), .int .i64 (r' 1), .int .i64 (r' 2), .int .i64 (r' 3), .int .i64 (r' 4)] 91)
            have X3 := Lib.hid (HX.out.next hA)
            have Y3 := Lib.hid (HY.out.next hA)
            have C3 := Lib.hid (HC.out.imp (grow_plan (only_of_below hA (some bk))))
            have W3' := Lib.hid (HW.out.next hA)
            have G3 := Lib.hid (grow_next HG.out hA)
            clear HX HY HC HW HG hA hb HRU m0 m1 m2 m3 m4 x0 x1 x2' x3 x4 x5
            cases b with
            | some k0 =>
              have he : o3 = o1 := by rw [HFM.out, HTR.out]; exact better_none o1
              rw [show badI (some k0) = (k0 : Int) from rfl]
              have hk0 : (0 : Int) ≤ k0 := by omega
              go_wp2_with fail
              go_roundw
              case rel => exact HREL.out _ _ _ _ _ _ _ X3.out Y3.out C3.out W3'.out G3.out he
              case measure => simp [intOf]; omega
            | none =>
              rw [show badI none = (-1 : Int) from rfl]
              have o0 := W3'.out.bo_.c 0 _ rfl
              have x0 := X3.out.c 0 _ rfl
              have r0 := R3.out.c 0 _ rfl
              have r1 := R3.out.c 1 _ rfl
              have r2 := R3.out.c 2 _ rfl
              have r3 := R3.out.c 3 _ rfl
              have r4 := R3.out.c 4 _ rfl
              go_wp2_with fail
              rw [show ((j : Int) + 1) = ((j + 1 : Nat) : Int) from rfl]
              refine (HIH.out _ W3'.out).mono ?_
              rintro e W4 ⟨v, rfl, ⟨A2, n2, cc2, cs2, is2, rfl, hC2⟩, hW4, hG4⟩
              unfold restV
              have hA := nxA W4 (.cells #[.slice A2 n2 cc2, .int .i64 cs2, .bool is2] 101)
              have hn5 : (some bk : Option Nat) ≠ some W.heap.size := fun e => by injection e with e; omega
              have hn6 : (some bk : Option Nat) ≠ some (W.heap.size + 1) := fun e => by injection e with e; omega
              have D5 := Lib.hid (Bx.new W4 #[.slice A2 n2 cc2, .int .i64 cs2, .bool is2] 101)
              have X5 := Lib.hid ((X3.out.grown hG4 hn5).next hA)
              have Y5 := Lib.hid ((Y3.out.grown hG4 hn6).next hA)
              have C5 := Lib.hid ((C3.out.imp (grow_plan hG4)).imp (grow_plan (only_of_below hA (some bk))))
              have C25 := Lib.hid (hC2.imp (grow_plan (only_of_below hA (some bk))))
              have W5 := Lib.hid (hW4.next hA)
              have G5 := Lib.hid (grow_next (grown_trans G3.out hG4) hA)
              have hs4 : W.heap.size + 1 < W4.heap.size := (Y3.out.grown hG4 hn6).lt
              have hcs2 : 0 ≤ cs2 ∧ cs2 ≤ 420000 := by
                cases o2 with
                | none => obtain ⟨-, -, -, e, -⟩ := hC2; omega
                | some x => obtain ⟨-, e, -⟩ := hC2; have := HBB.out x rfl; omega
              clear hA hn5 hn6 X3 Y3 C3 W3' G3 R3 hC2 hW4 hG4 o0 x0 r0 r1 r2 r3 r4
              go_wp2_with fail
              generalize W4.alloc (.cells #[.slice A2 n2 cc2, .int .i64 cs2, .bool is2] 101) = V5 at *
              generalize W4.heap.size = b13 at *
              have H15 := Lib.hid (show ∀ W' : World, Below V5.heap.size V5 W' → (W'.cell? ⟨b13, 1, none⟩ = some (.int .i64 cs2) ∧ W'.cell? ⟨bm, 0, none⟩ = some (.slice d.A d.blades.length d.c) ∧ W'.cell? ⟨bm, 1, none⟩ = some (.int .i64 d.bound) ∧ W'.cell? ⟨bm, 2, none⟩ = some (.int .i64 d.stop) ∧ W'.cell? ⟨bm, 3, none⟩ = some (.int .i64 d.bend) ∧ W'.cell? ⟨bm, 4, none⟩ = some (.slice A l.length c)) from fun W' h =>
                ⟨(D5.out.next h).c 1 _ rfl, (W5.out.next h).bm_.c 0 _ rfl, (W5.out.next h).bm_.c 1 _ rfl, (W5.out.next h).bm_.c 2 _ rfl, (W5.out.next h).bm_.c 3 _ rfl, (W5.out.next h).bm_.c 4 _ rfl⟩)
              have hc : Below V5.heap.size V5 V5.drew := (Below.refl _ _).drew
              generalize costS d.stop d.bend q = cq at *
              have w1 : IntKind.i64.wrap (cs2 + cq) = cs2 + cq := IntWalk.i64_in _ (by omega)
              refine wp_region_noPanic ?_
              refine wp_region_held_drew (S := (fun W' => W'.cell? ⟨b13, 1, none⟩ = some (.int .i64 cs2) ∧ W'.cell? ⟨bm, 0, none⟩ = some (.slice d.A d.blades.length d.c) ∧ W'.cell? ⟨bm, 1, none⟩ = some (.int .i64 d.bound) ∧ W'.cell? ⟨bm, 2, none⟩ = some (.int .i64 d.stop) ∧ W'.cell? ⟨bm, 3, none⟩ = some (.int .i64 d.bend) ∧ W'.cell? ⟨bm, 4, none⟩ = some (.slice A l.length c))) (by kernel_rfl) ?_ (fun hHeld => ?_)
              · (try dsimp only); exact H15.out _ hc
              refine htake (i := 0) (v := ?v1) rfl (by kernel_rfl) (by kernel_rfl) (by kernel_rfl) (fun _ _ _ h => h) (Or.inl ⟨by rfl, ?hy1⟩) (by assumption) ?_
              case hy1 => (intro w hSw; (try dsimp only at hSw); go_simp; try (with_reducible rfl))
              try simp only [Act.put, List.setIfInBounds_toArray, List.set_cons_zero, List.set_cons_succ]
              refine htake (i := 1) (v := ?v2) rfl (by kernel_rfl) (by kernel_rfl) (by kernel_rfl) (fun _ _ _ h => h) (Or.inl ⟨by rfl, ?hy2⟩) (by assumption) ?_
              case hy2 => (intro w hSw; (try dsimp only at hSw); go_simp; try (with_reducible rfl))
              try simp only [Act.put, List.setIfInBounds_toArray, List.set_cons_zero, List.set_cons_succ]
              refine htake (i := 2) (v := ?v3) rfl (by kernel_rfl) (by kernel_rfl) (by kernel_rfl) (fun _ _ _ h => h) (Or.inl ⟨by rfl, ?hy3⟩) (by assumption) ?_
              case hy3 => (intro w hSw; (try dsimp only at hSw); go_simp; try (with_reducible rfl))
              try simp only [Act.put, List.setIfInBounds_toArray, List.set_cons_zero, List.set_cons_succ]
              refine htake (i := 3) (v := ?v4) rfl (by kernel_rfl) (by kernel_rfl) (by kernel_rfl) (fun _ _ _ h => h) (Or.inl ⟨by rfl, ?hy4⟩) (by assumption) ?_
              case hy4 => (intro w hSw; (try dsimp only at hSw); go_simp; try (with_reducible rfl))
              try simp only [Act.put, List.setIfInBounds_toArray, List.set_cons_zero, List.set_cons_succ]
              refine wpAnyH_ready (rs := [4]) (by kernel_rfl) (by simp) ?_
              refine hcons rfl (fun K hK => ?_) (AllReadyH.nil)
              go_simp
              (with_reducible refine (HCO.out _).mono ?_); rintro e w4 ⟨rfl, hb4⟩; replace hc := hc.trans (hb4.mono hc.size); clear hb4
              refine hK.out _ _ ?_ (fun hHeld => ?_)
              · (try dsimp only); exact H15.out _ hc
              clear hK K
              try simp only [Act.put, List.setIfInBounds_toArray, List.set_cons_zero, List.set_cons_succ]
              refine htake (i := 5) (v := ?v5) rfl (by kernel_rfl) (by kernel_rfl) (by kernel_rfl) (fun _ _ _ h => h) (Or.inl ⟨by rfl, ?hy5⟩) (by assumption) ?_
              case hy5 => (intro w hSw; (try dsimp only at hSw); go_simp; try (with_reducible rfl))
              try simp only [Act.put, List.setIfInBounds_toArray, List.set_cons_zero, List.set_cons_succ]
              refine htake (i := 6) (v := ?v6) rfl (by kernel_rfl) (by kernel_rfl) (by kernel_rfl) (fun _ _ _ h => h) (Or.inl ⟨by rfl, ?hy6⟩) (by assumption) ?_
              case hy6 => (intro w hSw; (try dsimp only at hSw); go_simp; try (with_reducible rfl))
              try simp only [Act.put, List.setIfInBounds_toArray, List.set_cons_zero, List.set_cons_succ]
              refine wpAnyH_done (by kernel_rfl) ?_ _
              refine NoPanic.normal ?_
              iterate 8 (try clear hHeld)
              have X6 := Lib.hid (X5.out.next hc)
              have Y6 := Lib.hid (Y5.out.next hc)
              have D6 := Lib.hid (D5.out.next hc)
              have C6 := Lib.hid (C5.out.imp (grow_plan (only_of_below hc (some bk))))
              have C26 := Lib.hid (C25.out.imp (grow_plan (only_of_below hc (some bk))))
              have W6' := Lib.hid (W5.out.next hc)
              have G6 := Lib.hid (grow_next G5.out hc)
              clear X5 Y5 D5 C5 C25 W5 G5 hc H15 HCO
              have z0 := D6.out.c 0 _ rfl
              have z2 := D6.out.c 2 _ rfl
              have y1 := Y6.out.c 1 _ rfl
              have y2 := Y6.out.c 2 _ rfl
              have hd6 := D6.out.lt
              have hy6 := Y6.out.lt
              cases o2 with
              | none =>
                have he : o3 = o1 := by rw [HFM.out, HTR.out]; exact better_none o1
                obtain ⟨rfl, rfl, rfl, rfl, rfl⟩ := C26.out
                go_wp2_with fail
                go_roundw
                case rel => exact HREL.out _ _ _ _ _ _ _ X6.out Y6.out C6.out W6'.out G6.out he
                case measure => simp [intOf]; omega
              | some x =>

                obtain ⟨p, cx⟩ := x
                obtain ⟨hP, hcx, hisx⟩ := C26.out
                subst hisx hcx
                dsimp only at hP
                have HX2 := Lib.hid (show x2 = some (q :: p, cs2 + cq) by rw [HTR.out]; rfl)
                have HP := Lib.hid hP
                have hn2 := hP.1
                have hpl : p.length ≤ 7 := by
                  have h := (HBB.out _ rfl).2.2
                  dsimp only at h
                  omega
                clear hP C26 HBB HTR w1 hcb hcs2
                cases o1 with
                | none =>
                  have he : o3 = some (q :: p, cs2 + cq) := by rw [HFM.out, HX2.out]; rfl
                  obtain ⟨rfl, rfl, rfl, rfl, rfl⟩ := C6.out
                  clear C6
                  by_cases hp0 : p = []
                  · subst hp0
                    obtain ⟨rfl, rfl⟩ : A2 = none ∧ cc2 = 0 := by
                      rcases HP.out.2 with ⟨-, h1, h2⟩ | ⟨h1, -⟩
                      · exact ⟨h1, h2⟩
                      · exact absurd rfl h1
                    subst hn2
                    have y0 := Y6.out.c 0 _ rfl
                    have f0 := Y6.out.fr 0
                    have f1 := Y6.out.fr 1
                    have f2 := Y6.out.fr 2
                    go_wp2_with fail
                    have hA := nxA (setCells w4 (W.heap.size + 1) 0 [.slice (some ⟨w4.heap.size, 0, none⟩) 1 1, .int .i64 (cs2 + cq), .bool true]) (.cells #[.int .i64 (q : Nat)] 3)
                    have hL := Bx.new (setCells w4 (W.heap.size + 1) 0 [.slice (some ⟨w4.heap.size, 0, none⟩) 1 1, .int .i64 (cs2 + cq), .bool true]) #[.int .i64 (q : Nat)] 3
                    rw [setCells_size] at hL
                    refine ⟨HREL.out _ _ _ _ _ _ (some ([q], cs2 + cq)) ((X6.out.setOther (by omega) [.slice (some ⟨w4.heap.size, 0, none⟩) 1 1, .int .i64 (cs2 + cq), .bool true] 0).next hA) ((Y6.out.setAll [.slice (some ⟨w4.heap.size, 0, none⟩) 1 1, .int .i64 (cs2 + cq), .bool true] rfl).next hA) ⟨⟨rfl, .inr ⟨by simp, Nat.le_refl _, w4.heap.size, rfl, by omega, fun k hk => ?_⟩⟩, rfl, rfl⟩ ((W6'.out.setB Y6.out (by omega) (by omega) (by omega) (by omega) (by omega) (by omega) [.slice (some ⟨w4.heap.size, 0, none⟩) 1 1, .int .i64 (cs2 + cq), .bool true]).next hA) (grow_next (grow_set G6.out (by omega) [.slice (some ⟨w4.heap.size, 0, none⟩) 1 1, .int .i64 (cs2 + cq), .bool true] 0) hA) he, by simp [intOf]; omega⟩
                    obtain rfl : k = 0 := by simpa using hk
                    exact hL.c 0 _ rfl
                  · obtain ⟨-, -, b2, rfl, hb2k, hcells⟩ : p ≠ [] ∧ n2 ≤ cc2 ∧ ∃ b, A2 = some ⟨b, 0, none⟩ ∧ bk < b ∧ ∀ k, k < p.length → w4.cell? ⟨b, k, none⟩ = some (.int .i64 ((p.getD k 0 : Nat) : Int)) := by
                      rcases HP.out.2 with ⟨h, -⟩ | h
                      · exact absurd h hp0
                      · exact h
                    subst hn2
                    have hp1 : 0 < p.length := List.length_pos_iff.2 hp0
                    have hb2s : b2 < w4.heap.size := cell_lt (hcells 0 hp1)
                    have hown := World.ownsRow_lit (base := w4.heap.size) (e := 3) (size := 1) w4 #[.int .i64 (q : Nat)] 1 (Nat.le_refl _) (by decide) rfl
                    have hnews : ∀ i u, (p.map fun x => Value.int .i64 ((x : Nat) : Int))[i]? = some u → (w4.alloc (.cells #[.int .i64 (q : Nat)] 3)).cell? ((⟨b2, 0, none⟩ : Addr).add i) = some u := by
                      intro i u hu
                      have hi : i < p.length := by have := (List.getElem?_eq_some_iff.1 hu).1; simpa using this
                      rw [show ((⟨b2, 0, none⟩ : Addr).add i) = ⟨b2, i, none⟩ by unfold Addr.add; split <;> simp_all, World.cell?_alloc_lt _ _ _ hb2s, hcells i hi]
                      rw [List.getElem?_map, List.getElem?_eq_getElem hi] at hu
                      rw [List.getD_eq_getElem?_getD, List.getElem?_eq_getElem hi]
                      exact hu
                    clear hcells HP
                    go_wp2_with (at_builtin; refine wpList_append_own _ rfl (.tmp 78) (.tmp 80) 34 rfl w4.heap.size 3 i1 (.int .i64 0) 1 8 Tryd.underlying34 gi gz0 gz1 gz2 rfl (by decide) _ 1 [.int .i64 (q : Nat)] rfl hown ⟨b2, 0, none⟩ p.length cc2 (p.map fun x => Value.int .i64 ((x : Nat) : Int)) rfl (by simp) hnews (by simp [Value.oneCell']) (by unfold maxLen; omega) (by omega) (by simp) ?_; intro v' w' hown' hgrow _; obtain ⟨g, cap, rfl, hg1, hg2⟩ := hown'.form (by omega); have hbb : Below w4.heap.size w4 w' := ((Below.refl w4.heap.size w4).alloc (Nat.le_refl _) _).grown hgrow (by simp) (fun k hk => by have := hown.lt k hk; omega); have Y7 := Lib.hid (Y6.out.next hbb); have y0 := Y7.out.c 0 _ rfl; have y1 := Y7.out.c 1 _ rfl; have y2 := Y7.out.c 2 _ rfl; have f0 := Y7.out.fr 0; have f1 := Y7.out.fr 1; have f2 := Y7.out.fr 2; have Hown := Lib.hid hown'; have Hbb := Lib.hid hbb; clear hown' hgrow hown hnews hbb)
                    refine ⟨HREL.out _ _ _ _ _ _ (some (q :: p, cs2 + cq)) ((X6.out.next Hbb.out).setOther (by omega) [.slice (some ⟨g, 0, none⟩) (1 + p.length) cap, .int .i64 (cs2 + cq), .bool true] 0) (Y7.out.setAll [.slice (some ⟨g, 0, none⟩) (1 + p.length) cap, .int .i64 (cs2 + cq), .bool true] rfl) ⟨⟨by simp; omega, .inr ⟨by simp, own_le Hown.out, g, rfl, by omega, fun k hk => ?_⟩⟩, rfl, rfl⟩ ((W6'.out.next Hbb.out).setB Y7.out (by omega) (by omega) (by omega) (by omega) (by omega) (by omega) [.slice (some ⟨g, 0, none⟩) (1 + p.length) cap, .int .i64 (cs2 + cq), .bool true]) (grow_set (grow_next G6.out Hbb.out) (by omega) [.slice (some ⟨g, 0, none⟩) (1 + p.length) cap, .int .i64 (cs2 + cq), .bool true] 0) he, by simp [intOf]; omega⟩
                    refine (setCells_other (W.heap.size + 1) [.slice (some ⟨g, 0, none⟩) (1 + p.length) cap, .int .i64 (cs2 + cq), .bool true] 0 w' g k (by omega)).trans ?_
                    rw [Hown.out.cellAt k (by simp at hk; omega)]
                    cases k with
                    | zero => rfl
                    | succ k =>
                      have hk' : k < p.length := by simpa using hk
                      show (p.map fun x => Value.int .i64 ((x : Nat) : Int))[k]? = _
                      rw [List.getElem?_map, List.getElem?_eq_getElem hk']
                      show _ = some (Value.int .i64 (((q :: p).getD (k + 1) 0 : Nat) : Int))
                      rw [List.getD_cons_succ, List.getD_eq_getElem?_getD, List.getElem?_eq_getElem hk']; rfl
                | some y =>
                  obtain ⟨py, cy⟩ := y
                  obtain ⟨hPy, hcy, hisy⟩ := C6.out
                  subst hisy hcy
                  by_cases hlo : cs2 + cq < cs
                  · have he : o3 = some (q :: p, cs2 + cq) := by rw [HFM.out, HX2.out]; exact if_pos hlo
                    clear C6 hPy
                    by_cases hp0 : p = []
                    · subst hp0
                      obtain ⟨rfl, rfl⟩ : A2 = none ∧ cc2 = 0 := by
                        rcases HP.out.2 with ⟨-, h1, h2⟩ | ⟨h1, -⟩
                        · exact ⟨h1, h2⟩
                        · exact absurd rfl h1
                      subst hn2
                      have y0 := Y6.out.c 0 _ rfl
                      have f0 := Y6.out.fr 0
                      have f1 := Y6.out.fr 1
                      have f2 := Y6.out.fr 2
                      go_wp2_with fail
                      have hA := nxA (setCells w4 (W.heap.size + 1) 0 [.slice (some ⟨w4.heap.size, 0, none⟩) 1 1, .int .i64 (cs2 + cq), .bool true]) (.cells #[.int .i64 (q : Nat)] 3)
                      have hL := Bx.new (setCells w4 (W.heap.size + 1) 0 [.slice (some ⟨w4.heap.size, 0, none⟩) 1 1, .int .i64 (cs2 + cq), .bool true]) #[.int .i64 (q : Nat)] 3
                      rw [setCells_size] at hL
                      refine ⟨HREL.out _ _ _ _ _ _ (some ([q], cs2 + cq)) ((X6.out.setOther (by omega) [.slice (some ⟨w4.heap.size, 0, none⟩) 1 1, .int .i64 (cs2 + cq), .bool true] 0).next hA) ((Y6.out.setAll [.slice (some ⟨w4.heap.size, 0, none⟩) 1 1, .int .i64 (cs2 + cq), .bool true] rfl).next hA) ⟨⟨rfl, .inr ⟨by simp, Nat.le_refl _, w4.heap.size, rfl, by omega, fun k hk => ?_⟩⟩, rfl, rfl⟩ ((W6'.out.setB Y6.out (by omega) (by omega) (by omega) (by omega) (by omega) (by omega) [.slice (some ⟨w4.heap.size, 0, none⟩) 1 1, .int .i64 (cs2 + cq), .bool true]).next hA) (grow_next (grow_set G6.out (by omega) [.slice (some ⟨w4.heap.size, 0, none⟩) 1 1, .int .i64 (cs2 + cq), .bool true] 0) hA) he, by simp [intOf]; omega⟩
                      obtain rfl : k = 0 := by simpa using hk
                      exact hL.c 0 _ rfl
                    · obtain ⟨-, -, b2, rfl, hb2k, hcells⟩ : p ≠ [] ∧ n2 ≤ cc2 ∧ ∃ b, A2 = some ⟨b, 0, none⟩ ∧ bk < b ∧ ∀ k, k < p.length → w4.cell? ⟨b, k, none⟩ = some (.int .i64 ((p.getD k 0 : Nat) : Int)) := by
                        rcases HP.out.2 with ⟨h, -⟩ | h
                        · exact absurd h hp0
                        · exact h
                      subst hn2
                      have hp1 : 0 < p.length := List.length_pos_iff.2 hp0
                      have hb2s : b2 < w4.heap.size := cell_lt (hcells 0 hp1)
                      have hown := World.ownsRow_lit (base := w4.heap.size) (e := 3) (size := 1) w4 #[.int .i64 (q : Nat)] 1 (Nat.le_refl _) (by decide) rfl
                      have hnews : ∀ i u, (p.map fun x => Value.int .i64 ((x : Nat) : Int))[i]? = some u → (w4.alloc (.cells #[.int .i64 (q : Nat)] 3)).cell? ((⟨b2, 0, none⟩ : Addr).add i) = some u := by
                        intro i u hu
                        have hi : i < p.length := by have := (List.getElem?_eq_some_iff.1 hu).1; simpa using this
                        rw [show ((⟨b2, 0, none⟩ : Addr).add i) = ⟨b2, i, none⟩ by unfold Addr.add; split <;> simp_all, World.cell?_alloc_lt _ _ _ hb2s, hcells i hi]
                        rw [List.getElem?_map, List.getElem?_eq_getElem hi] at hu
                        rw [List.getD_eq_getElem?_getD, List.getElem?_eq_getElem hi]
                        exact hu
                      clear hcells HP
                      go_wp2_with (at_builtin; refine wpList_append_own _ rfl (.tmp 78) (.tmp 80) 34 rfl w4.heap.size 3 i1 (.int .i64 0) 1 8 Tryd.underlying34 gi gz0 gz1 gz2 rfl (by decide) _ 1 [.int .i64 (q : Nat)] rfl hown ⟨b2, 0, none⟩ p.length cc2 (p.map fun x => Value.int .i64 ((x : Nat) : Int)) rfl (by simp) hnews (by simp [Value.oneCell']) (by unfold maxLen; omega) (by omega) (by simp) ?_; intro v' w' hown' hgrow _; obtain ⟨g, cap, rfl, hg1, hg2⟩ := hown'.form (by omega); have hbb : Below w4.heap.size w4 w' := ((Below.refl w4.heap.size w4).alloc (Nat.le_refl _) _).grown hgrow (by simp) (fun k hk => by have := hown.lt k hk; omega); have Y7 := Lib.hid (Y6.out.next hbb); have y0 := Y7.out.c 0 _ rfl; have y1 := Y7.out.c 1 _ rfl; have y2 := Y7.out.c 2 _ rfl; have f0 := Y7.out.fr 0; have f1 := Y7.out.fr 1; have f2 := Y7.out.fr 2; have Hown := Lib.hid hown'; have Hbb := Lib.hid hbb; clear hown' hgrow hown hnews hbb)
                      refine ⟨HREL.out _ _ _ _ _ _ (some (q :: p, cs2 + cq)) ((X6.out.next Hbb.out).setOther (by omega) [.slice (some ⟨g, 0, none⟩) (1 + p.length) cap, .int .i64 (cs2 + cq), .bool true] 0) (Y7.out.setAll [.slice (some ⟨g, 0, none⟩) (1 + p.length) cap, .int .i64 (cs2 + cq), .bool true] rfl) ⟨⟨by simp; omega, .inr ⟨by simp, own_le Hown.out, g, rfl, by omega, fun k hk => ?_⟩⟩, rfl, rfl⟩ ((W6'.out.next Hbb.out).setB Y7.out (by omega) (by omega) (by omega) (by omega) (by omega) (by omega) [.slice (some ⟨g, 0, none⟩) (1 + p.length) cap, .int .i64 (cs2 + cq), .bool true]) (grow_set (grow_next G6.out Hbb.out) (by omega) [.slice (some ⟨g, 0, none⟩) (1 + p.length) cap, .int .i64 (cs2 + cq), .bool true] 0) he, by simp [intOf]; omega⟩
                      refine (setCells_other (W.heap.size + 1) [.slice (some ⟨g, 0, none⟩) (1 + p.length) cap, .int .i64 (cs2 + cq), .bool true] 0 w' g k (by omega)).trans ?_
                      rw [Hown.out.cellAt k (by simp at hk; omega)]
                      cases k with
                      | zero => rfl
                      | succ k =>
                        have hk' : k < p.length := by simpa using hk
                        show (p.map fun x => Value.int .i64 ((x : Nat) : Int))[k]? = _
                        rw [List.getElem?_map, List.getElem?_eq_getElem hk']
                        show _ = some (Value.int .i64 (((q :: p).getD (k + 1) 0 : Nat) : Int))
                        rw [List.getD_cons_succ, List.getD_eq_getElem?_getD, List.getElem?_eq_getElem hk']; rfl
                  · have he : o3 = some (py, cs) := by rw [HFM.out, HX2.out]; exact if_neg hlo
                    clear hPy
                    go_wp2_with fail
                    go_roundw
                    case rel => exact HREL.out _ _ _ _ _ _ _ X6.out Y6.out C6.out W6'.out G6.out he
                    case measure => simp [intOf]; omega
          · have hqN : q = 1 := by omega
            have hjl : j < l.length := by omega
            have hBe : bestAt d l j r = fm ((List.range q).map (tryS d.blades d.bound (costS d.stop d.bend) (bestAt d l (j + 1)) (l.getD j ⟨0, 0⟩) r)) := by rw [best_at d l hjl r, HNs.out, hqN]
            rw [← hBe] at hC
            clear hBe
            have hval : okS d l wr bk (stateV j r) (restV A' n' cc' cs is) := ⟨j, r, rfl, hr5, A', n', cc', cs, is, rfl, hC⟩
            have k0 := hW.bk_.c 0 _ rfl
            have x0 := hX.c 0 _ rfl
            have x1 := hX.c 1 _ rfl
            have x2' := hX.c 2 _ rfl
            have x3 := hX.c 3 _ rfl
            have x4 := hX.c 4 _ rfl
            have x5 := hX.c 5 _ rfl
            have y0 := hY.c 0 _ rfl
            have y1 := hY.c 1 _ rfl
            have y2 := hY.c 2 _ rfl
            have HY := Lib.hid hY
            have HC := Lib.hid hC
            have HW := Lib.hid hW
            have HG := Lib.hid hG
            have Hval := Lib.hid hval
            have hy6 := hY.lt
            clear hX hY hC hW hG hval
            go_wp2_with (at_mapUpdate; refine wpList_update_memo _ rfl _ _ _ 96 rfl 99 101 state_keyed map_und bk _ rfl HW.out.memo (stateV j r) (restV A' n' cc' cs is) kl rfl rfl hkl Hval.out ?_; intro w' hm' hg'; have HG' := Lib.hid hg'; have Hm' := Lib.hid hm'; have Y7 := Lib.hid (HY.out.grown hg' (fun e => by injection e with e; omega)); have y0 := Y7.out.c 0 _ rfl; have y1 := Y7.out.c 1 _ rfl; have y2 := Y7.out.c 2 _ rfl; have f0 := Y7.out.fr 0; have f1 := Y7.out.fr 1; have f2 := Y7.out.fr 2; clear hg' hm')
            refine bodyPost_ret (results_cell1 rfl rfl (loadRest (Y7.out.setAll [.slice A' n' cc', .int .i64 cs, .bool is] rfl))) rfl ?_
            have W7 := HW.out.grow HG'.out (Hm'.out.imp rfl (okS.imp (grow_plan HG'.out)))
            exact ⟨_, rfl, ⟨A', n', cc', cs, is, rfl, (HC.out.imp (grow_plan HG'.out)).imp (set_plan Y7.out [.slice A' n' cc', .int .i64 cs, .bool is])⟩, W7.setB Y7.out (by omega) (by omega) (by omega) (by omega) (by omega) (by omega) [.slice A' n' cc', .int .i64 cs, .bool is], grow_set (grown_trans HG.out HG'.out) (by omega) [.slice A' n' cc', .int .i64 cs, .bool is] 0⟩
      · have djz : ((j : Int) == 0) = false := by simp [hj0]
        have HNs := Lib.hid (show setsN d j = M by rw [HNd.out]; simp [hj0])
        clear hj0 HNd
        go_wp2_with fail
        refine wp_label ?_
        go_wp2_with fail
        clear c0 djz
        go_loopw [36] (fun i wr => ROnE d l A c B0 bl bk bkc bm bo j r M W i wr) (fun i _ => M - (intOf i).toNat)
        case atStart => exact ⟨0, by omega, rfl, X2.out, ⟨none, 0, 0, 0, false, Y2.out, rfl, rfl, rfl, rfl, rfl⟩, H2.out, G2.out⟩
        case round =>
          obtain ⟨q, hq, rfl, hX, ⟨A', n', cc', cs, is, hY, hC⟩, hW, hG⟩ := hrel
          by_cases hlt : (q : Int) < M
          · have hqM : q < M := by omega
            have hqN : q < M := by omega
            have hset2 : q < 2 ^ d.blades.length := by rw [← HM.out]; exact hqM
            have hjl : j < l.length := by omega
            have hBW : B0 ≤ wr.heap.size := by have := hW.memo.lt; have := hW.b; omega
            have HRU := Lib.hid (run_any d A c l r q j wr ok okl hjl hset2 (fun k => by have := hr k; omega) (hW.da.more hBW) (hW.sa.more hBW) hW.en)
            have HCO := Lib.hid (fun W' => cost_any d A l.length c q W' ok (by omega))
            have hcb := costS_bd ok q
            have hrr : runRes d (l.getD j ⟨0, 0⟩) r q = .tuple #[.agg #[.int .i64 (runR d.blades.length r q (l.getD j ⟨0, 0⟩).n 0), .int .i64 (runR d.blades.length r q (l.getD j ⟨0, 0⟩).n 1), .int .i64 (runR d.blades.length r q (l.getD j ⟨0, 0⟩).n 2), .int .i64 (runR d.blades.length r q (l.getD j ⟨0, 0⟩).n 3), .int .i64 (runR d.blades.length r q (l.getD j ⟨0, 0⟩).n 4)], .int .i64 (badI (badS d.blades (d.bound + (l.getD j ⟨0, 0⟩).more) (runR d.blades.length r q (l.getD j ⟨0, 0⟩).n)))] := rfl
            rw [hrr] at HRU
            have htm : l.getD j ⟨0, 0⟩ ∈ l := by rw [List.getD_eq_getElem?_getD, List.getElem?_eq_getElem hjl]; exact List.getElem_mem hjl
            have htn := okl.st _ htm
            have hr1 : ∀ k, 0 ≤ runR d.blades.length r q (l.getD j ⟨0, 0⟩).n k ∧ runR d.blades.length r q (l.getD j ⟨0, 0⟩).n k ≤ 1000 * ((j + 1 : Nat) : Int) := fun k => by
              have := hr k
              unfold runR
              split <;> split <;> omega
            have hr15 := run_five ok.nb.2 hr5 q (l.getD j ⟨0, 0⟩).n
            have HIH := Lib.hid (fun W' hW' => IH.out (j + 1) (runR d.blades.length r q (l.getD j ⟨0, 0⟩).n) W' (by omega) hr1 hr15 hW')
            have HBB := Lib.hid (fun x h => best_bd ok (l := l) (j := j + 1) (r := runR d.blades.length r q (l.getD j ⟨0, 0⟩).n) (x := x) h)
            have HTR := Lib.hid (show tryS d.blades d.bound (costS d.stop d.bend) (bestAt d l (j + 1)) (l.getD j ⟨0, 0⟩) r q = if (badS d.blades (d.bound + (l.getD j ⟨0, 0⟩).more) (runR d.blades.length r q (l.getD j ⟨0, 0⟩).n)).isSome then none else (bestAt d l (j + 1) (runR d.blades.length r q (l.getD j ⟨0, 0⟩).n)).map fun x => (q :: x.1, x.2 + costS d.stop d.bend q) from rfl)
            have HFM := Lib.hid (fm_range_succ (tryS d.blades d.bound (costS d.stop d.bend) (bestAt d l (j + 1)) (l.getD j ⟨0, 0⟩) r) q)
            have HREL := Lib.hid (fun (W' : World) (A' : Option Addr) (n' cc' : Nat) (cs : Int) (is : Bool) (o : Option Pl) (hX : Bx W' W.heap.size [.int .i64 j, .int .i64 (r 0), .int .i64 (r 1), .int .i64 (r 2), .int .i64 (r 3), .int .i64 (r 4)]) (hY : Bx W' (W.heap.size + 1) [.slice A' n' cc', .int .i64 cs, .bool is]) (hC : RestC W' bk A' n' cc' cs is o) (hW' : OnW d l A c B0 bl bk bkc bm bo W') (hG : W.grownBy W' (some bk)) (he : fm ((List.range (q + 1)).map (tryS d.blades d.bound (costS d.stop d.bend) (bestAt d l (j + 1)) (l.getD j ⟨0, 0⟩) r)) = o) =>
              (show ROnE d l A c B0 bl bk bkc bm bo j r M W (.int .i64 ((q + 1 : Nat) : Int)) W' from ⟨q + 1, hqN, rfl, hX, ⟨A', n', cc', cs, is, hY, by rw [he]; exact hC⟩, hW', hG⟩))
            unfold RetOn at HIH
            clear hrr htm hr1 hr15 hset2
            generalize badS d.blades (d.bound + (l.getD j ⟨0, 0⟩).more) (runR d.blades.length r q (l.getD j ⟨0, 0⟩).n) = b at *
            generalize runR d.blades.length r q (l.getD j ⟨0, 0⟩).n = r' at *
            generalize bestAt d l (j + 1) r' = o2 at *
            generalize tryS d.blades d.bound (costS d.stop d.bend) (bestAt d l (j + 1)) (l.getD j ⟨0, 0⟩) r q = x2 at *
            generalize fm ((List.range (q + 1)).map (tryS d.blades d.bound (costS d.stop d.bend) (bestAt d l (j + 1)) (l.getD j ⟨0, 0⟩) r)) = o3 at *
            generalize fm ((List.range q).map (tryS d.blades d.bound (costS d.stop d.bend) (bestAt d l (j + 1)) (l.getD j ⟨0, 0⟩) r)) = o1 at *
            have m0 := hW.bm_.c 0 _ rfl
            have m1 := hW.bm_.c 1 _ rfl
            have m2 := hW.bm_.c 2 _ rfl
            have m3 := hW.bm_.c 3 _ rfl
            have m4 := hW.bm_.c 4 _ rfl
            have x0 := hX.c 0 _ rfl
            have x1 := hX.c 1 _ rfl
            have x2' := hX.c 2 _ rfl
            have x3 := hX.c 3 _ rfl
            have x4 := hX.c 4 _ rfl
            have x5 := hX.c 5 _ rfl
            have HX := Lib.hid hX
            have HY := Lib.hid hY
            have HC := Lib.hid hC
            have HW := Lib.hid hW
            have HG := Lib.hid hG
            clear hX hY hC hW hG
            go_wp2_with fail
            refine HRU.out.mono ?_
            rintro e W3 ⟨rfl, hb⟩
            have hA := hb.trans ((nxA W3 (.cells #[.int .i64 (r' 0), .int .i64 (r' 1), .int .i64 (r' 2), .int .i64 (r' 3), .int .i64 (r' 4)] 91)).mono hb.size)
            have R3 := Lib.hid (Bx.new W3 #[.int .i64 (r' 0), .int .i64 (r' 1), .int .i64 (r' 2), .int .i64 (r' 3), .int .i64 (r' 4)] 91)
            have X3 := Lib.hid (HX.out.next hA)
            have Y3 := Lib.hid (HY.out.next hA)
            have C3 := Lib.hid (HC.out.imp (grow_plan (only_of_below hA (some bk))))
            have W3' := Lib.hid (HW.out.next hA)
            have G3 := Lib.hid (grow_next HG.out hA)
            clear HX HY HC HW HG hA hb HRU m0 m1 m2 m3 m4 x0 x1 x2' x3 x4 x5
            cases b with
            | some k0 =>
              have he : o3 = o1 := by rw [HFM.out, HTR.out]; exact better_none o1
              rw [show badI (some k0) = (k0 : Int) from rfl]
              have hk0 : (0 : Int) ≤ k0 := by omega
              go_wp2_with fail
              go_roundw
              case rel => exact HREL.out _ _ _ _ _ _ _ X3.out Y3.out C3.out W3'.out G3.out he
              case measure => simp [intOf]; omega
            | none =>
              rw [show badI none = (-1 : Int) from rfl]
              have o0 := W3'.out.bo_.c 0 _ rfl
              have x0 := X3.out.c 0 _ rfl
              have r0 := R3.out.c 0 _ rfl
              have r1 := R3.out.c 1 _ rfl
              have r2 := R3.out.c 2 _ rfl
              have r3 := R3.out.c 3 _ rfl
              have r4 := R3.out.c 4 _ rfl
              go_wp2_with fail
              rw [show ((j : Int) + 1) = ((j + 1 : Nat) : Int) from rfl]
              refine (HIH.out _ W3'.out).mono ?_
              rintro e W4 ⟨v, rfl, ⟨A2, n2, cc2, cs2, is2, rfl, hC2⟩, hW4, hG4⟩
              unfold restV
              have hA := nxA W4 (.cells #[.slice A2 n2 cc2, .int .i64 cs2, .bool is2] 101)
              have hn5 : (some bk : Option Nat) ≠ some W.heap.size := fun e => by injection e with e; omega
              have hn6 : (some bk : Option Nat) ≠ some (W.heap.size + 1) := fun e => by injection e with e; omega
              have D5 := Lib.hid (Bx.new W4 #[.slice A2 n2 cc2, .int .i64 cs2, .bool is2] 101)
              have X5 := Lib.hid ((X3.out.grown hG4 hn5).next hA)
              have Y5 := Lib.hid ((Y3.out.grown hG4 hn6).next hA)
              have C5 := Lib.hid ((C3.out.imp (grow_plan hG4)).imp (grow_plan (only_of_below hA (some bk))))
              have C25 := Lib.hid (hC2.imp (grow_plan (only_of_below hA (some bk))))
              have W5 := Lib.hid (hW4.next hA)
              have G5 := Lib.hid (grow_next (grown_trans G3.out hG4) hA)
              have hs4 : W.heap.size + 1 < W4.heap.size := (Y3.out.grown hG4 hn6).lt
              have hcs2 : 0 ≤ cs2 ∧ cs2 ≤ 420000 := by
                cases o2 with
                | none => obtain ⟨-, -, -, e, -⟩ := hC2; omega
                | some x => obtain ⟨-, e, -⟩ := hC2; have := HBB.out x rfl; omega
              clear hA hn5 hn6 X3 Y3 C3 W3' G3 R3 hC2 hW4 hG4 o0 x0 r0 r1 r2 r3 r4
              go_wp2_with fail
              generalize W4.alloc (.cells #[.slice A2 n2 cc2, .int .i64 cs2, .bool is2] 101) = V5 at *
              generalize W4.heap.size = b13 at *
              have H15 := Lib.hid (show ∀ W' : World, Below V5.heap.size V5 W' → (W'.cell? ⟨b13, 1, none⟩ = some (.int .i64 cs2) ∧ W'.cell? ⟨bm, 0, none⟩ = some (.slice d.A d.blades.length d.c) ∧ W'.cell? ⟨bm, 1, none⟩ = some (.int .i64 d.bound) ∧ W'.cell? ⟨bm, 2, none⟩ = some (.int .i64 d.stop) ∧ W'.cell? ⟨bm, 3, none⟩ = some (.int .i64 d.bend) ∧ W'.cell? ⟨bm, 4, none⟩ = some (.slice A l.length c)) from fun W' h =>
                ⟨(D5.out.next h).c 1 _ rfl, (W5.out.next h).bm_.c 0 _ rfl, (W5.out.next h).bm_.c 1 _ rfl, (W5.out.next h).bm_.c 2 _ rfl, (W5.out.next h).bm_.c 3 _ rfl, (W5.out.next h).bm_.c 4 _ rfl⟩)
              have hc : Below V5.heap.size V5 V5.drew := (Below.refl _ _).drew
              generalize costS d.stop d.bend q = cq at *
              have w1 : IntKind.i64.wrap (cs2 + cq) = cs2 + cq := IntWalk.i64_in _ (by omega)
              refine wp_region_noPanic ?_
              refine wp_region_held_drew (S := (fun W' => W'.cell? ⟨b13, 1, none⟩ = some (.int .i64 cs2) ∧ W'.cell? ⟨bm, 0, none⟩ = some (.slice d.A d.blades.length d.c) ∧ W'.cell? ⟨bm, 1, none⟩ = some (.int .i64 d.bound) ∧ W'.cell? ⟨bm, 2, none⟩ = some (.int .i64 d.stop) ∧ W'.cell? ⟨bm, 3, none⟩ = some (.int .i64 d.bend) ∧ W'.cell? ⟨bm, 4, none⟩ = some (.slice A l.length c))) (by kernel_rfl) ?_ (fun hHeld => ?_)
              · (try dsimp only); exact H15.out _ hc
              refine htake (i := 0) (v := ?v7) rfl (by kernel_rfl) (by kernel_rfl) (by kernel_rfl) (fun _ _ _ h => h) (Or.inl ⟨by rfl, ?hy7⟩) (by assumption) ?_
              case hy7 => (intro w hSw; (try dsimp only at hSw); go_simp; try (with_reducible rfl))
              try simp only [Act.put, List.setIfInBounds_toArray, List.set_cons_zero, List.set_cons_succ]
              refine htake (i := 1) (v := ?v8) rfl (by kernel_rfl) (by kernel_rfl) (by kernel_rfl) (fun _ _ _ h => h) (Or.inl ⟨by rfl, ?hy8⟩) (by assumption) ?_
              case hy8 => (intro w hSw; (try dsimp only at hSw); go_simp; try (with_reducible rfl))
              try simp only [Act.put, List.setIfInBounds_toArray, List.set_cons_zero, List.set_cons_succ]
              refine htake (i := 2) (v := ?v9) rfl (by kernel_rfl) (by kernel_rfl) (by kernel_rfl) (fun _ _ _ h => h) (Or.inl ⟨by rfl, ?hy9⟩) (by assumption) ?_
              case hy9 => (intro w hSw; (try dsimp only at hSw); go_simp; try (with_reducible rfl))
              try simp only [Act.put, List.setIfInBounds_toArray, List.set_cons_zero, List.set_cons_succ]
              refine htake (i := 3) (v := ?v10) rfl (by kernel_rfl) (by kernel_rfl) (by kernel_rfl) (fun _ _ _ h => h) (Or.inl ⟨by rfl, ?hy10⟩) (by assumption) ?_
              case hy10 => (intro w hSw; (try dsimp only at hSw); go_simp; try (with_reducible rfl))
              try simp only [Act.put, List.setIfInBounds_toArray, List.set_cons_zero, List.set_cons_succ]
              refine wpAnyH_ready (rs := [4]) (by kernel_rfl) (by simp) ?_
              refine hcons rfl (fun K hK => ?_) (AllReadyH.nil)
              go_simp
              (with_reducible refine (HCO.out _).mono ?_); rintro e w4 ⟨rfl, hb4⟩; replace hc := hc.trans (hb4.mono hc.size); clear hb4
              refine hK.out _ _ ?_ (fun hHeld => ?_)
              · (try dsimp only); exact H15.out _ hc
              clear hK K
              try simp only [Act.put, List.setIfInBounds_toArray, List.set_cons_zero, List.set_cons_succ]
              refine htake (i := 5) (v := ?v11) rfl (by kernel_rfl) (by kernel_rfl) (by kernel_rfl) (fun _ _ _ h => h) (Or.inl ⟨by rfl, ?hy11⟩) (by assumption) ?_
              case hy11 => (intro w hSw; (try dsimp only at hSw); go_simp; try (with_reducible rfl))
              try simp only [Act.put, List.setIfInBounds_toArray, List.set_cons_zero, List.set_cons_succ]
              refine htake (i := 6) (v := ?v12) rfl (by kernel_rfl) (by kernel_rfl) (by kernel_rfl) (fun _ _ _ h => h) (Or.inl ⟨by rfl, ?hy12⟩) (by assumption) ?_
              case hy12 => (intro w hSw; (try dsimp only at hSw); go_simp; try (with_reducible rfl))
              try simp only [Act.put, List.setIfInBounds_toArray, List.set_cons_zero, List.set_cons_succ]
              refine wpAnyH_done (by kernel_rfl) ?_ _
              refine NoPanic.normal ?_
              iterate 8 (try clear hHeld)
              have X6 := Lib.hid (X5.out.next hc)
              have Y6 := Lib.hid (Y5.out.next hc)
              have D6 := Lib.hid (D5.out.next hc)
              have C6 := Lib.hid (C5.out.imp (grow_plan (only_of_below hc (some bk))))
              have C26 := Lib.hid (C25.out.imp (grow_plan (only_of_below hc (some bk))))
              have W6' := Lib.hid (W5.out.next hc)
              have G6 := Lib.hid (grow_next G5.out hc)
              clear X5 Y5 D5 C5 C25 W5 G5 hc H15 HCO
              have z0 := D6.out.c 0 _ rfl
              have z2 := D6.out.c 2 _ rfl
              have y1 := Y6.out.c 1 _ rfl
              have y2 := Y6.out.c 2 _ rfl
              have hd6 := D6.out.lt
              have hy6 := Y6.out.lt
              cases o2 with
              | none =>
                have he : o3 = o1 := by rw [HFM.out, HTR.out]; exact better_none o1
                obtain ⟨rfl, rfl, rfl, rfl, rfl⟩ := C26.out
                go_wp2_with fail
                go_roundw
                case rel => exact HREL.out _ _ _ _ _ _ _ X6.out Y6.out C6.out W6'.out G6.out he
                case measure => simp [intOf]; omega
              | some x =>

                obtain ⟨p, cx⟩ := x
                obtain ⟨hP, hcx, hisx⟩ := C26.out
                subst hisx hcx
                dsimp only at hP
                have HX2 := Lib.hid (show x2 = some (q :: p, cs2 + cq) by rw [HTR.out]; rfl)
                have HP := Lib.hid hP
                have hn2 := hP.1
                have hpl : p.length ≤ 7 := by
                  have h := (HBB.out _ rfl).2.2
                  dsimp only at h
                  omega
                clear hP C26 HBB HTR w1 hcb hcs2
                cases o1 with
                | none =>
                  have he : o3 = some (q :: p, cs2 + cq) := by rw [HFM.out, HX2.out]; rfl
                  obtain ⟨rfl, rfl, rfl, rfl, rfl⟩ := C6.out
                  clear C6
                  by_cases hp0 : p = []
                  · subst hp0
                    obtain ⟨rfl, rfl⟩ : A2 = none ∧ cc2 = 0 := by
                      rcases HP.out.2 with ⟨-, h1, h2⟩ | ⟨h1, -⟩
                      · exact ⟨h1, h2⟩
                      · exact absurd rfl h1
                    subst hn2
                    have y0 := Y6.out.c 0 _ rfl
                    have f0 := Y6.out.fr 0
                    have f1 := Y6.out.fr 1
                    have f2 := Y6.out.fr 2
                    go_wp2_with fail
                    have hA := nxA (setCells w4 (W.heap.size + 1) 0 [.slice (some ⟨w4.heap.size, 0, none⟩) 1 1, .int .i64 (cs2 + cq), .bool true]) (.cells #[.int .i64 (q : Nat)] 3)
                    have hL := Bx.new (setCells w4 (W.heap.size + 1) 0 [.slice (some ⟨w4.heap.size, 0, none⟩) 1 1, .int .i64 (cs2 + cq), .bool true]) #[.int .i64 (q : Nat)] 3
                    rw [setCells_size] at hL
                    refine ⟨HREL.out _ _ _ _ _ _ (some ([q], cs2 + cq)) ((X6.out.setOther (by omega) [.slice (some ⟨w4.heap.size, 0, none⟩) 1 1, .int .i64 (cs2 + cq), .bool true] 0).next hA) ((Y6.out.setAll [.slice (some ⟨w4.heap.size, 0, none⟩) 1 1, .int .i64 (cs2 + cq), .bool true] rfl).next hA) ⟨⟨rfl, .inr ⟨by simp, Nat.le_refl _, w4.heap.size, rfl, by omega, fun k hk => ?_⟩⟩, rfl, rfl⟩ ((W6'.out.setB Y6.out (by omega) (by omega) (by omega) (by omega) (by omega) (by omega) [.slice (some ⟨w4.heap.size, 0, none⟩) 1 1, .int .i64 (cs2 + cq), .bool true]).next hA) (grow_next (grow_set G6.out (by omega) [.slice (some ⟨w4.heap.size, 0, none⟩) 1 1, .int .i64 (cs2 + cq), .bool true] 0) hA) he, by simp [intOf]; omega⟩
                    obtain rfl : k = 0 := by simpa using hk
                    exact hL.c 0 _ rfl
                  · obtain ⟨-, -, b2, rfl, hb2k, hcells⟩ : p ≠ [] ∧ n2 ≤ cc2 ∧ ∃ b, A2 = some ⟨b, 0, none⟩ ∧ bk < b ∧ ∀ k, k < p.length → w4.cell? ⟨b, k, none⟩ = some (.int .i64 ((p.getD k 0 : Nat) : Int)) := by
                      rcases HP.out.2 with ⟨h, -⟩ | h
                      · exact absurd h hp0
                      · exact h
                    subst hn2
                    have hp1 : 0 < p.length := List.length_pos_iff.2 hp0
                    have hb2s : b2 < w4.heap.size := cell_lt (hcells 0 hp1)
                    have hown := World.ownsRow_lit (base := w4.heap.size) (e := 3) (size := 1) w4 #[.int .i64 (q : Nat)] 1 (Nat.le_refl _) (by decide) rfl
                    have hnews : ∀ i u, (p.map fun x => Value.int .i64 ((x : Nat) : Int))[i]? = some u → (w4.alloc (.cells #[.int .i64 (q : Nat)] 3)).cell? ((⟨b2, 0, none⟩ : Addr).add i) = some u := by
                      intro i u hu
                      have hi : i < p.length := by have := (List.getElem?_eq_some_iff.1 hu).1; simpa using this
                      rw [show ((⟨b2, 0, none⟩ : Addr).add i) = ⟨b2, i, none⟩ by unfold Addr.add; split <;> simp_all, World.cell?_alloc_lt _ _ _ hb2s, hcells i hi]
                      rw [List.getElem?_map, List.getElem?_eq_getElem hi] at hu
                      rw [List.getD_eq_getElem?_getD, List.getElem?_eq_getElem hi]
                      exact hu
                    clear hcells HP
                    go_wp2_with (at_builtin; refine wpList_append_own _ rfl (.tmp 78) (.tmp 80) 34 rfl w4.heap.size 3 i1 (.int .i64 0) 1 8 Tryd.underlying34 gi gz0 gz1 gz2 rfl (by decide) _ 1 [.int .i64 (q : Nat)] rfl hown ⟨b2, 0, none⟩ p.length cc2 (p.map fun x => Value.int .i64 ((x : Nat) : Int)) rfl (by simp) hnews (by simp [Value.oneCell']) (by unfold maxLen; omega) (by omega) (by simp) ?_; intro v' w' hown' hgrow _; obtain ⟨g, cap, rfl, hg1, hg2⟩ := hown'.form (by omega); have hbb : Below w4.heap.size w4 w' := ((Below.refl w4.heap.size w4).alloc (Nat.le_refl _) _).grown hgrow (by simp) (fun k hk => by have := hown.lt k hk; omega); have Y7 := Lib.hid (Y6.out.next hbb); have y0 := Y7.out.c 0 _ rfl; have y1 := Y7.out.c 1 _ rfl; have y2 := Y7.out.c 2 _ rfl; have f0 := Y7.out.fr 0; have f1 := Y7.out.fr 1; have f2 := Y7.out.fr 2; have Hown := Lib.hid hown'; have Hbb := Lib.hid hbb; clear hown' hgrow hown hnews hbb)
                    refine ⟨HREL.out _ _ _ _ _ _ (some (q :: p, cs2 + cq)) ((X6.out.next Hbb.out).setOther (by omega) [.slice (some ⟨g, 0, none⟩) (1 + p.length) cap, .int .i64 (cs2 + cq), .bool true] 0) (Y7.out.setAll [.slice (some ⟨g, 0, none⟩) (1 + p.length) cap, .int .i64 (cs2 + cq), .bool true] rfl) ⟨⟨by simp; omega, .inr ⟨by simp, own_le Hown.out, g, rfl, by omega, fun k hk => ?_⟩⟩, rfl, rfl⟩ ((W6'.out.next Hbb.out).setB Y7.out (by omega) (by omega) (by omega) (by omega) (by omega) (by omega) [.slice (some ⟨g, 0, none⟩) (1 + p.length) cap, .int .i64 (cs2 + cq), .bool true]) (grow_set (grow_next G6.out Hbb.out) (by omega) [.slice (some ⟨g, 0, none⟩) (1 + p.length) cap, .int .i64 (cs2 + cq), .bool true] 0) he, by simp [intOf]; omega⟩
                    refine (setCells_other (W.heap.size + 1) [.slice (some ⟨g, 0, none⟩) (1 + p.length) cap, .int .i64 (cs2 + cq), .bool true] 0 w' g k (by omega)).trans ?_
                    rw [Hown.out.cellAt k (by simp at hk; omega)]
                    cases k with
                    | zero => rfl
                    | succ k =>
                      have hk' : k < p.length := by simpa using hk
                      show (p.map fun x => Value.int .i64 ((x : Nat) : Int))[k]? = _
                      rw [List.getElem?_map, List.getElem?_eq_getElem hk']
                      show _ = some (Value.int .i64 (((q :: p).getD (k + 1) 0 : Nat) : Int))
                      rw [List.getD_cons_succ, List.getD_eq_getElem?_getD, List.getElem?_eq_getElem hk']; rfl
                | some y =>
                  obtain ⟨py, cy⟩ := y
                  obtain ⟨hPy, hcy, hisy⟩ := C6.out
                  subst hisy hcy
                  by_cases hlo : cs2 + cq < cs
                  · have he : o3 = some (q :: p, cs2 + cq) := by rw [HFM.out, HX2.out]; exact if_pos hlo
                    clear C6 hPy
                    by_cases hp0 : p = []
                    · subst hp0
                      obtain ⟨rfl, rfl⟩ : A2 = none ∧ cc2 = 0 := by
                        rcases HP.out.2 with ⟨-, h1, h2⟩ | ⟨h1, -⟩
                        · exact ⟨h1, h2⟩
                        · exact absurd rfl h1
                      subst hn2
                      have y0 := Y6.out.c 0 _ rfl
                      have f0 := Y6.out.fr 0
                      have f1 := Y6.out.fr 1
                      have f2 := Y6.out.fr 2
                      go_wp2_with fail
                      have hA := nxA (setCells w4 (W.heap.size + 1) 0 [.slice (some ⟨w4.heap.size, 0, none⟩) 1 1, .int .i64 (cs2 + cq), .bool true]) (.cells #[.int .i64 (q : Nat)] 3)
                      have hL := Bx.new (setCells w4 (W.heap.size + 1) 0 [.slice (some ⟨w4.heap.size, 0, none⟩) 1 1, .int .i64 (cs2 + cq), .bool true]) #[.int .i64 (q : Nat)] 3
                      rw [setCells_size] at hL
                      refine ⟨HREL.out _ _ _ _ _ _ (some ([q], cs2 + cq)) ((X6.out.setOther (by omega) [.slice (some ⟨w4.heap.size, 0, none⟩) 1 1, .int .i64 (cs2 + cq), .bool true] 0).next hA) ((Y6.out.setAll [.slice (some ⟨w4.heap.size, 0, none⟩) 1 1, .int .i64 (cs2 + cq), .bool true] rfl).next hA) ⟨⟨rfl, .inr ⟨by simp, Nat.le_refl _, w4.heap.size, rfl, by omega, fun k hk => ?_⟩⟩, rfl, rfl⟩ ((W6'.out.setB Y6.out (by omega) (by omega) (by omega) (by omega) (by omega) (by omega) [.slice (some ⟨w4.heap.size, 0, none⟩) 1 1, .int .i64 (cs2 + cq), .bool true]).next hA) (grow_next (grow_set G6.out (by omega) [.slice (some ⟨w4.heap.size, 0, none⟩) 1 1, .int .i64 (cs2 + cq), .bool true] 0) hA) he, by simp [intOf]; omega⟩
                      obtain rfl : k = 0 := by simpa using hk
                      exact hL.c 0 _ rfl
                    · obtain ⟨-, -, b2, rfl, hb2k, hcells⟩ : p ≠ [] ∧ n2 ≤ cc2 ∧ ∃ b, A2 = some ⟨b, 0, none⟩ ∧ bk < b ∧ ∀ k, k < p.length → w4.cell? ⟨b, k, none⟩ = some (.int .i64 ((p.getD k 0 : Nat) : Int)) := by
                        rcases HP.out.2 with ⟨h, -⟩ | h
                        · exact absurd h hp0
                        · exact h
                      subst hn2
                      have hp1 : 0 < p.length := List.length_pos_iff.2 hp0
                      have hb2s : b2 < w4.heap.size := cell_lt (hcells 0 hp1)
                      have hown := World.ownsRow_lit (base := w4.heap.size) (e := 3) (size := 1) w4 #[.int .i64 (q : Nat)] 1 (Nat.le_refl _) (by decide) rfl
                      have hnews : ∀ i u, (p.map fun x => Value.int .i64 ((x : Nat) : Int))[i]? = some u → (w4.alloc (.cells #[.int .i64 (q : Nat)] 3)).cell? ((⟨b2, 0, none⟩ : Addr).add i) = some u := by
                        intro i u hu
                        have hi : i < p.length := by have := (List.getElem?_eq_some_iff.1 hu).1; simpa using this
                        rw [show ((⟨b2, 0, none⟩ : Addr).add i) = ⟨b2, i, none⟩ by unfold Addr.add; split <;> simp_all, World.cell?_alloc_lt _ _ _ hb2s, hcells i hi]
                        rw [List.getElem?_map, List.getElem?_eq_getElem hi] at hu
                        rw [List.getD_eq_getElem?_getD, List.getElem?_eq_getElem hi]
                        exact hu
                      clear hcells HP
                      go_wp2_with (at_builtin; refine wpList_append_own _ rfl (.tmp 78) (.tmp 80) 34 rfl w4.heap.size 3 i1 (.int .i64 0) 1 8 Tryd.underlying34 gi gz0 gz1 gz2 rfl (by decide) _ 1 [.int .i64 (q : Nat)] rfl hown ⟨b2, 0, none⟩ p.length cc2 (p.map fun x => Value.int .i64 ((x : Nat) : Int)) rfl (by simp) hnews (by simp [Value.oneCell']) (by unfold maxLen; omega) (by omega) (by simp) ?_; intro v' w' hown' hgrow _; obtain ⟨g, cap, rfl, hg1, hg2⟩ := hown'.form (by omega); have hbb : Below w4.heap.size w4 w' := ((Below.refl w4.heap.size w4).alloc (Nat.le_refl _) _).grown hgrow (by simp) (fun k hk => by have := hown.lt k hk; omega); have Y7 := Lib.hid (Y6.out.next hbb); have y0 := Y7.out.c 0 _ rfl; have y1 := Y7.out.c 1 _ rfl; have y2 := Y7.out.c 2 _ rfl; have f0 := Y7.out.fr 0; have f1 := Y7.out.fr 1; have f2 := Y7.out.fr 2; have Hown := Lib.hid hown'; have Hbb := Lib.hid hbb; clear hown' hgrow hown hnews hbb)
                      refine ⟨HREL.out _ _ _ _ _ _ (some (q :: p, cs2 + cq)) ((X6.out.next Hbb.out).setOther (by omega) [.slice (some ⟨g, 0, none⟩) (1 + p.length) cap, .int .i64 (cs2 + cq), .bool true] 0) (Y7.out.setAll [.slice (some ⟨g, 0, none⟩) (1 + p.length) cap, .int .i64 (cs2 + cq), .bool true] rfl) ⟨⟨by simp; omega, .inr ⟨by simp, own_le Hown.out, g, rfl, by omega, fun k hk => ?_⟩⟩, rfl, rfl⟩ ((W6'.out.next Hbb.out).setB Y7.out (by omega) (by omega) (by omega) (by omega) (by omega) (by omega) [.slice (some ⟨g, 0, none⟩) (1 + p.length) cap, .int .i64 (cs2 + cq), .bool true]) (grow_set (grow_next G6.out Hbb.out) (by omega) [.slice (some ⟨g, 0, none⟩) (1 + p.length) cap, .int .i64 (cs2 + cq), .bool true] 0) he, by simp [intOf]; omega⟩
                      refine (setCells_other (W.heap.size + 1) [.slice (some ⟨g, 0, none⟩) (1 + p.length) cap, .int .i64 (cs2 + cq), .bool true] 0 w' g k (by omega)).trans ?_
                      rw [Hown.out.cellAt k (by simp at hk; omega)]
                      cases k with
                      | zero => rfl
                      | succ k =>
                        have hk' : k < p.length := by simpa using hk
                        show (p.map fun x => Value.int .i64 ((x : Nat) : Int))[k]? = _
                        rw [List.getElem?_map, List.getElem?_eq_getElem hk']
                        show _ = some (Value.int .i64 (((q :: p).getD (k + 1) 0 : Nat) : Int))
                        rw [List.getD_cons_succ, List.getD_eq_getElem?_getD, List.getElem?_eq_getElem hk']; rfl
                  · have he : o3 = some (py, cs) := by rw [HFM.out, HX2.out]; exact if_neg hlo
                    clear hPy
                    go_wp2_with fail
                    go_roundw
                    case rel => exact HREL.out _ _ _ _ _ _ _ X6.out Y6.out C6.out W6'.out G6.out he
                    case measure => simp [intOf]; omega
          · have hqN : q = M := by omega
            have hjl : j < l.length := by omega
            have hBe : bestAt d l j r = fm ((List.range q).map (tryS d.blades d.bound (costS d.stop d.bend) (bestAt d l (j + 1)) (l.getD j ⟨0, 0⟩) r)) := by rw [best_at d l hjl r, HNs.out, hqN]
            rw [← hBe] at hC
            clear hBe
            have hval : okS d l wr bk (stateV j r) (restV A' n' cc' cs is) := ⟨j, r, rfl, hr5, A', n', cc', cs, is, rfl, hC⟩
            have k0 := hW.bk_.c 0 _ rfl
            have x0 := hX.c 0 _ rfl
            have x1 := hX.c 1 _ rfl
            have x2' := hX.c 2 _ rfl
            have x3 := hX.c 3 _ rfl
            have x4 := hX.c 4 _ rfl
            have x5 := hX.c 5 _ rfl
            have y0 := hY.c 0 _ rfl
            have y1 := hY.c 1 _ rfl
            have y2 := hY.c 2 _ rfl
            have HY := Lib.hid hY
            have HC := Lib.hid hC
            have HW := Lib.hid hW
            have HG := Lib.hid hG
            have Hval := Lib.hid hval
            have hy6 := hY.lt
            clear hX hY hC hW hG hval
            go_wp2_with (at_mapUpdate; refine wpList_update_memo _ rfl _ _ _ 96 rfl 99 101 state_keyed map_und bk _ rfl HW.out.memo (stateV j r) (restV A' n' cc' cs is) kl rfl rfl hkl Hval.out ?_; intro w' hm' hg'; have HG' := Lib.hid hg'; have Hm' := Lib.hid hm'; have Y7 := Lib.hid (HY.out.grown hg' (fun e => by injection e with e; omega)); have y0 := Y7.out.c 0 _ rfl; have y1 := Y7.out.c 1 _ rfl; have y2 := Y7.out.c 2 _ rfl; have f0 := Y7.out.fr 0; have f1 := Y7.out.fr 1; have f2 := Y7.out.fr 2; clear hg' hm')
            refine bodyPost_ret (results_cell1 rfl rfl (loadRest (Y7.out.setAll [.slice A' n' cc', .int .i64 cs, .bool is] rfl))) rfl ?_
            have W7 := HW.out.grow HG'.out (Hm'.out.imp rfl (okS.imp (grow_plan HG'.out)))
            exact ⟨_, rfl, ⟨A', n', cc', cs, is, rfl, (HC.out.imp (grow_plan HG'.out)).imp (set_plan Y7.out [.slice A' n' cc', .int .i64 cs, .bool is])⟩, W7.setB Y7.out (by omega) (by omega) (by omega) (by omega) (by omega) (by omega) [.slice A' n' cc', .int .i64 cs, .bool is], grow_set (grown_trans HG.out HG'.out) (by omega) [.slice A' n' cc', .int .i64 cs, .bool is] 0⟩
end Go.Proofs.YtbhkglokdomajaaDoor
