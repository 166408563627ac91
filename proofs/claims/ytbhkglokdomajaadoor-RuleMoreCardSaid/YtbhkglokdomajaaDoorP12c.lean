import Derived.Test.YtbhkglokdomajaaDoorP12
namespace Go.Proofs.YtbhkglokdomajaaDoor
open Go.RowKit
/-! The program: Proof, and that what it hands back is no longer than its room. -/
theorem own_cap {w : World} {base : Nat} {e : TypeId} {size n m c : Nat} {A : Option Addr} {xs : List Value} (h : w.ownsRow base e size (.slice A n c) m xs) : n ≤ c := by
  rcases h.2 with ⟨e1, -⟩ | ⟨g', cap', cur, e1, -, -, hnc, -⟩
  · injection e1 with _ e2 e3
    omega
  · injection e1 with _ e2 e3
    omega
def RetPrC (p : List (Nat × Nat × Nat) × Int) (w : World) (e : Ending) (w' : World) : Prop := ∃ A1 c1 A2 c2, e = .returned (.tuple #[.slice A1 p.1.length c1, .slice A2 p.1.length c2, .int .i64 p.2]) ∧ At w' w'.heap.size 2 spv A1 (spansOf p.1) ∧ At w' w'.heap.size 1 icell A2 (firstsOf p.1) ∧ (p.1.length ≤ c1 ∧ p.1.length ≤ c2) ∧ Below w.heap.size w w'
theorem retPrC_nil {x : Int} {w w' : World} (hb : Below w.heap.size w w') : RetPrC ([], x) w (.returned (.tuple #[.slice none 0 0, .slice none 0 0, .int .i64 x])) w' := ⟨none, 0, none, 0, rfl, At.nil, At.nil, ⟨Nat.le_refl _, Nat.le_refl _⟩, hb⟩
theorem retPrC_own {rs : List (Nat × Nat × Nat)} {x : Int} {w w' : World} {v1 v2 : Value} {b1 b2 e1 e2 : Nat} (h1 : w'.ownsRow b1 e1 2 v1 rs.length ((spansOf rs).flatMap spv)) (h2 : w'.ownsRow b2 e2 1 v2 rs.length ((firstsOf rs).flatMap icell)) (hb : Below w.heap.size w w') :
    RetPrC (rs, x) w (.returned (.tuple #[v1, v2, .int .i64 x])) w' := by
  have l1 : (spansOf rs).length = rs.length := by unfold spansOf; simp
  have l2 : (firstsOf rs).length = rs.length := by unfold firstsOf; simp
  rw [← l1] at h1
  rw [← l2] at h2
  obtain ⟨A1, c1, rfl, a1⟩ := own_at (size := 2) (fun _ => rfl) (by omega) h1
  obtain ⟨A2, c2, rfl, a2⟩ := own_at (size := 1) (fun _ => rfl) (by omega) h2
  have k1 := own_cap h1
  have k2 := own_cap h2
  rw [l1] at k1 ⊢
  rw [l2] at k2 ⊢
  exact ⟨A1, c1, A2, c2, rfl, a1, a2, ⟨k1, k2⟩, hb⟩
set_option maxRecDepth 100000 in
set_option maxHeartbeats 1000000 in
theorem Proof_anyC (d : Die) (A : Option Addr) (c : Nat) (l : List Stint) (w : World) (hd : DieAt w w.heap.size d) (hr : At w w.heap.size 2 Stint.cells A l) (hl : l.length ≤ 9223372036854775807) (he : Env w) :
    Calls Tryd.prog 20 #[.agg #[.slice d.A d.blades.length d.c, .int .i64 d.bound, .int .i64 d.stop, .int .i64 d.bend], .slice A l.length c] w (RetPrC (proofR d l) w) := by
  obtain ⟨i0, hi, hz0, hz1, hz2⟩ := info_parts span_info
  obtain ⟨i1, gi, gz0, gz1, gz2⟩ := info_parts int_sinfo
  have HF := Lib.hid (show proofR d l = if checkS d l ≠ 0 then ([], checkS d l) else if alonesS d.blades d.bound l = false then ([], 4) else (proofS d.blades d.bound l, 0) from rfl)
  have HM := Lib.hid (show mountR d A c l = if checkS d l = 0 then mountV d A l.length c else .agg #[.slice none 0 0, .int .i64 0, .int .i64 0, .int .i64 0, .slice none 0 0] from rfl)
  have hb0 := nxA w (.cells #[.slice d.A d.blades.length d.c, .int .i64 d.bound, .int .i64 d.stop, .int .i64 d.bend] 24)
  have B0 := Lib.hid hb0
  have HR := Lib.hid (hr.next hb0)
  have HD := Lib.hid (hd.next hb0)
  have HRw := Lib.hid hr
  have HDw := Lib.hid hd
  have HEw := Lib.hid he
  have X0 := Lib.hid (Bx.new w #[.slice d.A d.blades.length d.c, .int .i64 d.bound, .int .i64 d.stop, .int .i64 d.bend] 24)
  have HL := Lib.hid hl
  clear hd hr he hb0 hl
  go_enter Tryd.func20, Tryd.ntmps20
  go_wp2_with fail
  generalize w.alloc (.cells #[.slice d.A d.blades.length d.c, .int .i64 d.bound, .int .i64 d.stop, .int .i64 d.bend] 24) = V at *
  have c0 := X0.out.c 0 _ rfl
  have c1 := X0.out.c 1 _ rfl
  have c2 := X0.out.c 2 _ rfl
  have c3' := X0.out.c 3 _ rfl
  go_wp2_with fail
  refine (mount_any d A c l V HD.out HR.out HL.out).mono ?_
  rintro e V1 ⟨rfl, hb⟩
  have B1 := Lib.hid (B0.out.trans (hb.mono B0.out.size))
  clear hb B0 HR X0 HD c0 c1 c2 c3'
  by_cases hch : checkS d l = 0
  · rw [if_pos hch] at HM
    rw [HM.out, hch]
    rw [if_neg (show ¬ checkS d l ≠ 0 from fun h => h hch)] at HF
    have hdl := check_zero.1 hch
    have OK := Lib.hid ((okd_iff d).1 hdl.1)
    have OKL := Lib.hid ((okl_iff l).1 hdl.2)
    have X1 := Lib.hid ((Bx.new V1 #[.slice d.A d.blades.length d.c, .int .i64 d.bound, .int .i64 d.stop, .int .i64 d.bend, .slice A l.length c] 84).next (nxA _ (.cells #[.int .i64 0, .int .i64 0, .int .i64 0, .int .i64 0, .int .i64 0] 91)))
    have Y1 := Lib.hid (show Bx ((V1.alloc (.cells #[.slice d.A d.blades.length d.c, .int .i64 d.bound, .int .i64 d.stop, .int .i64 d.bend, .slice A l.length c] 84)).alloc (.cells #[.int .i64 0, .int .i64 0, .int .i64 0, .int .i64 0, .int .i64 0] 91)) (V1.heap.size + 1) [.int .i64 0, .int .i64 0, .int .i64 0, .int .i64 0, .int .i64 0] from by
      have := Bx.new (V1.alloc (.cells #[.slice d.A d.blades.length d.c, .int .i64 d.bound, .int .i64 d.stop, .int .i64 d.bend, .slice A l.length c] 84)) #[.int .i64 0, .int .i64 0, .int .i64 0, .int .i64 0, .int .i64 0] 91
      rw [World.size_alloc] at this
      exact this)
    have B2 := Lib.hid ((B1.out.alloc (o := .cells #[.slice d.A d.blades.length d.c, .int .i64 d.bound, .int .i64 d.stop, .int .i64 d.bend, .slice A l.length c] 84) B1.out.size).alloc (o := .cells #[.int .i64 0, .int .i64 0, .int .i64 0, .int .i64 0, .int .i64 0] 91) (by have := B1.out.size; simp; omega))
    have hzz : ((V1.alloc (.cells #[.slice d.A d.blades.length d.c, .int .i64 d.bound, .int .i64 d.stop, .int .i64 d.bend, .slice A l.length c] 84)).alloc (.cells #[.int .i64 0, .int .i64 0, .int .i64 0, .int .i64 0, .int .i64 0] 91)).heap.size = V1.heap.size + 2 := by simp
    have hll := OKL.out.nl
    have hwV := B1.out.size
    clear hch hdl
    unfold mountV
    go_wp2_with fail
    generalize ((V1.alloc (.cells #[.slice d.A d.blades.length d.c, .int .i64 d.bound, .int .i64 d.stop, .int .i64 d.bend, .slice A l.length c] 84)).alloc (.cells #[.int .i64 0, .int .i64 0, .int .i64 0, .int .i64 0, .int .i64 0] 91)) = V2 at *
    go_loopw [4, 5, 9, 25] (fun v1 v2 fr i wr => RPrfE d l A c V1.heap.size (V1.heap.size + 1) w (V1.heap.size + 2) i v1 v2 fr wr) (fun _ _ _ i _ => l.length - (intOf i).toNat)
    case atStart => exact ⟨0, 0, 0, [], by omega, rfl, rfl, World.ownsRow_nil _ _ _ _, World.ownsRow_nil _ _ _ _, X1.out, by rw [even_zero]; exact Y1.out, B2.out, by omega, Int.le_refl _, Int.le_refl _, Nat.le_refl _, rfl, rfl⟩
    case round =>
      obtain ⟨k, a, x, rs, hR⟩ := hrel
      have hk := hR.hk
      obtain rfl := hR.i
      obtain rfl := hR.fr
      by_cases hlt : k < l.length
      · have HR := Lib.hid hR
        have ok := OK.out
        have okl := OKL.out
        have hx0 := hR.x0
        have hx1 := hR.x1
        have hrl := hR.rl
        have htm : l.getD k ⟨0, 0⟩ ∈ l := by rw [List.getD_eq_getElem?_getD, List.getElem?_eq_getElem hlt]; exact List.getElem_mem hlt
        have htk := okl.st _ htm
        have HGA := Lib.hid (proofGo_at (bl := d.blades) (bound := d.bound) hlt a x)
        have HAF := Lib.hid (fun k0 h => alone_fail (bl := d.blades) (bound := d.bound) (k := k0) hlt h)
        have HAL := Lib.hid (fun h => all_step (p := fun t : Stint => (badX d.blades d.bound t t.n).isNone) hlt hR.al h)
        have hgk : l[k] = l.getD k ⟨0, 0⟩ := by rw [List.getD_eq_getElem?_getD, List.getElem?_eq_getElem hlt]; rfl
        rw [hgk] at HAL
        have hp2 : 0 < 2 ^ d.blades.length := Nat.pow_pos (by omega)
        have HA0 := Lib.hid (show ∀ W : World, Below w.heap.size w W → Calls Tryd.prog 52 #[.agg #[.slice d.A d.blades.length d.c, .int .i64 d.bound, .int .i64 d.stop, .int .i64 d.bend, .slice A l.length c], .agg #[.int .i64 0, .int .i64 0, .int .i64 0, .int .i64 0, .int .i64 0], .int .i64 0, .int .i64 k] W (Ret (.tuple #[.agg #[.int .i64 (evenR d.blades.length (l.getD k ⟨0, 0⟩).n 0), .int .i64 (evenR d.blades.length (l.getD k ⟨0, 0⟩).n 1), .int .i64 (evenR d.blades.length (l.getD k ⟨0, 0⟩).n 2), .int .i64 (evenR d.blades.length (l.getD k ⟨0, 0⟩).n 3), .int .i64 (evenR d.blades.length (l.getD k ⟨0, 0⟩).n 4)], .int .i64 (badI (badX d.blades d.bound (l.getD k ⟨0, 0⟩) (l.getD k ⟨0, 0⟩).n))]) W) from fun W hW => by
          have := run_any d A c l (evenR d.blades.length 0) 0 k W ok okl hlt hp2 (fun j => even_bd (Int.le_refl _) (by omega) j) ((HDw.out.below hW).more hW.size) ((HRw.out.below hW).more hW.size) (HEw.out.next hW)
          rw [run_even, Int.zero_add, even_zero] at this
          exact this)
        have HA1 := Lib.hid (fun W (hW : Below w.heap.size w W) => run_any d A c l (evenR d.blades.length x) 0 k W ok okl hlt hp2 (fun j => even_bd hx0 (by omega) j) ((HDw.out.below hW).more hW.size) ((HRw.out.below hW).more hW.size) (HEw.out.next hW))
        rw [run_even d (l.getD k ⟨0, 0⟩) x] at HA1
        have hm := hR.m
        have hrr := hR.r
        have HO1 := Lib.hid hR.o1
        have HO2 := Lib.hid hR.o2
        have HB := Lib.hid hR.b
        have HZ := Lib.hid hR.z
        have HPF := Lib.hid hR.pf
        have HALo := Lib.hid hR.al
        clear hR hgk HR
        obtain ⟨n, hn⟩ : ∃ n, n = (l.getD k ⟨0, 0⟩).n := ⟨_, rfl⟩
        rw [← hn] at HA0 HA1 HGA HAF HAL htk
        have HN := Lib.hid hn
        clear hn
        have HrelA := Lib.hid (fun (W : World) (v1 v2 : Value) (o1 : W.ownsRow (V1.heap.size + 2) 28 2 v1 rs.length ((spansOf rs).flatMap spv)) (o2 : W.ownsRow (V1.heap.size + 2) 3 1 v2 rs.length ((firstsOf rs).flatMap icell)) (m : Bx W V1.heap.size (mountL d A l.length c)) (r : Bx W (V1.heap.size + 1) (ranL (evenR d.blades.length (x + n)))) (b : Below w.heap.size w W) (z : V1.heap.size + 2 ≤ W.heap.size) (e0 : badX d.blades d.bound (l.getD k ⟨0, 0⟩) n = none) (e1 : badX d.blades d.bound (l.getD k ⟨0, 0⟩) (x + n) = none) =>
          (show RPrfE d l A c V1.heap.size (V1.heap.size + 1) w (V1.heap.size + 2) (.int .i64 ((k + 1 : Nat) : Int)) v1 v2 (.int .i64 a) W from
            ⟨k + 1, a, x + n, rs, by omega, rfl, rfl, o1, o2, m, r, b, z, by omega, by omega, by omega, HAL.out (by rw [e0]; rfl), by rw [HPF.out, HGA.out, e1]⟩))
        have HrelB := Lib.hid (fun (W : World) (k1 : Nat) (v1 v2 : Value) (o1 : W.ownsRow (V1.heap.size + 2) 28 2 v1 (rs.length + 1) ((spansOf rs).flatMap spv ++ [.int .i64 (a : Int), .int .i64 (k : Int)])) (o2 : W.ownsRow (V1.heap.size + 2) 3 1 v2 (rs.length + 1) ((firstsOf rs).flatMap icell ++ [.int .i64 (k1 : Int)])) (m : Bx W V1.heap.size (mountL d A l.length c)) (r : Bx W (V1.heap.size + 1) (ranL (evenR d.blades.length n))) (b : Below w.heap.size w W) (z : V1.heap.size + 2 ≤ W.heap.size) (e0 : badX d.blades d.bound (l.getD k ⟨0, 0⟩) n = none) (e1 : badX d.blades d.bound (l.getD k ⟨0, 0⟩) (x + n) = some k1) =>
          (show RPrfE d l A c V1.heap.size (V1.heap.size + 1) w (V1.heap.size + 2) (.int .i64 ((k + 1 : Nat) : Int)) v1 v2 (.int .i64 k) W from
            ⟨k + 1, k, n, rs ++ [(a, k, k1)], by omega, rfl, rfl, by rw [spans_add, List.length_append]; exact o1, by rw [firsts_add, List.length_append]; exact o2, m, r, b, z, by omega, by omega, by rw [List.length_append]; show rs.length + 1 ≤ k + 1; omega, HAL.out (by rw [e0]; rfl), by rw [HPF.out, HGA.out, e1]; simp⟩))
        generalize evenR d.blades.length n = r0 at *
        generalize evenR d.blades.length x = rx at *
        generalize evenR d.blades.length (x + n) = rn at *
        generalize badX d.blades d.bound (l.getD k ⟨0, 0⟩) n = q0 at *
        generalize badX d.blades d.bound (l.getD k ⟨0, 0⟩) (x + n) = q1 at *
        have m0 := hm.c 0 _ rfl
        have m1 := hm.c 1 _ rfl
        have m2 := hm.c 2 _ rfl
        have m3 := hm.c 3 _ rfl
        have m4 := hm.c 4 _ rfl
        have M0 := Lib.hid hm
        have X0 := Lib.hid hrr
        clear hm hrr ok okl
        go_wp2_with fail
        refine (HA0.out wr HB.out).mono ?_
        rintro e W1 ⟨rfl, hb⟩
        have hA := hb.trans ((nxA W1 (.cells #[.int .i64 (r0 0), .int .i64 (r0 1), .int .i64 (r0 2), .int .i64 (r0 3), .int .i64 (r0 4)] 91)).mono hb.size)
        have M1 := Lib.hid (M0.out.next hA)
        have Y1 := Lib.hid (X0.out.next hA)
        have O1 := Lib.hid (own_below HO1.out hA)
        have O2 := Lib.hid (own_below HO2.out hA)
        have B3 := Lib.hid (HB.out.trans (hA.mono HB.out.size))
        have Z3 := Lib.hid (Nat.le_trans HZ.out hA.size)
        clear M0 X0 HO1 HO2 HB HZ m0 m1 m2 m3 m4 hA hb
        have m0 := M1.out.c 0 _ rfl
        have m1 := M1.out.c 1 _ rfl
        have m2 := M1.out.c 2 _ rfl
        have m3 := M1.out.c 3 _ rfl
        have m4 := M1.out.c 4 _ rfl
        have y0 := Y1.out.c 0 _ rfl
        have y1 := Y1.out.c 1 _ rfl
        have y2 := Y1.out.c 2 _ rfl
        have y3 := Y1.out.c 3 _ rfl
        have y4 := Y1.out.c 4 _ rfl
        cases q0 with
        | some k0 =>
          have E2 := Lib.hid (show proofR d l = ([], 4) by rw [HF.out, if_pos (HAF.out k0 (by trivial))])
          rw [show badI (some k0) = (k0 : Int) from rfl]
          have hk0 : (0 : Int) ≤ k0 := by omega
          go_wp2_with fail
          go_ret3
          rw [E2.out]
          exact retPrC_nil B3.out
        | none =>
          rw [show badI none = (-1 : Int) from rfl]
          go_wp2_with fail
          generalize W1.alloc (.cells #[.int .i64 (r0 0), .int .i64 (r0 1), .int .i64 (r0 2), .int .i64 (r0 3), .int .i64 (r0 4)] 91) = V3 at *
          refine (HA1.out V3 B3.out).mono ?_
          rintro e W3 ⟨rfl, hb⟩
          have RR := Y1.out.next hb
          have hm4 := M1.out.next hb
          have hne : V1.heap.size ≠ V1.heap.size + 1 := by omega
          have M4 := Lib.hid (hm4.setOther (g := V1.heap.size + 1) hne [.int .i64 (rn 0), .int .i64 (rn 1), .int .i64 (rn 2), .int .i64 (rn 3), .int .i64 (rn 4)] 0)
          have Y4 := Lib.hid (RR.setAll [.int .i64 (rn 0), .int .i64 (rn 1), .int .i64 (rn 2), .int .i64 (rn 3), .int .i64 (rn 4)] rfl)
          have B4 := Lib.hid (below_setCells (b := V1.heap.size + 1) (show w.heap.size ≤ V1.heap.size + 1 by omega) [.int .i64 (rn 0), .int .i64 (rn 1), .int .i64 (rn 2), .int .i64 (rn 3), .int .i64 (rn 4)] 0 (B3.out.trans (hb.mono B3.out.size)))
          have O4 := Lib.hid (own_setCells (b := V1.heap.size + 1) (by omega) [.int .i64 (rn 0), .int .i64 (rn 1), .int .i64 (rn 2), .int .i64 (rn 3), .int .i64 (rn 4)] 0 (own_below O1.out hb))
          have P4 := Lib.hid (own_setCells (b := V1.heap.size + 1) (by omega) [.int .i64 (rn 0), .int .i64 (rn 1), .int .i64 (rn 2), .int .i64 (rn 3), .int .i64 (rn 4)] 0 (own_below O2.out hb))
          have Z4 := Lib.hid (show V1.heap.size + 2 ≤ (setCells W3 (V1.heap.size + 1) 0 [.int .i64 (rn 0), .int .i64 (rn 1), .int .i64 (rn 2), .int .i64 (rn 3), .int .i64 (rn 4)]).heap.size by rw [setCells_size]; exact Nat.le_trans Z3.out hb.size)
          clear M1 Y1 O1 O2 B3 Z3 m0 m1 m2 m3 m4 y0 y1 y2 y3 y4 hb hm4
          have y0 := RR.c 0 _ rfl
          have y1 := RR.c 1 _ rfl
          have y2 := RR.c 2 _ rfl
          have y3 := RR.c 3 _ rfl
          have y4 := RR.c 4 _ rfl
          have f0 := RR.fr 0
          have f1 := RR.fr 1
          have f2 := RR.fr 2
          have f3 := RR.fr 3
          have f4 := RR.fr 4
          clear RR
          cases q1 with
          | none =>
            rw [show badI none = (-1 : Int) from rfl]
            go_wp2_with fail
            go_roundw
            case rel => exact HrelA.out _ _ _ O4.out P4.out M4.out Y4.out B4.out Z4.out (by trivial) (by trivial)
            case measure => simp [intOf]; omega
          | some k1 =>
            rw [show badI (some k1) = (k1 : Int) from rfl]
            have hk1 : ¬ (k1 : Int) < 0 := by omega
            go_upto_region 13 with fail
            obtain ⟨U, hU⟩ : ∃ U, U = setCells W3 (V1.heap.size + 1) 0 [.int .i64 (rn 0), .int .i64 (rn 1), .int .i64 (rn 2), .int .i64 (rn 3), .int .i64 (rn 4)] := ⟨_, rfl⟩
            have hU' : ((((W3.setCell ⟨V1.heap.size + 1, 0, none⟩ (.int .i64 (rn 0))).setCell ⟨V1.heap.size + 1, 1, none⟩ (.int .i64 (rn 1))).setCell ⟨V1.heap.size + 1, 2, none⟩ (.int .i64 (rn 2))).setCell ⟨V1.heap.size + 1, 3, none⟩ (.int .i64 (rn 3))).setCell ⟨V1.heap.size + 1, 4, none⟩ (.int .i64 (rn 4)) = U := hU.symm
            rw [← hU] at M4 Y4 B4 O4 P4 Z4
            rw [hU']
            clear hU hU' y0 y1 y2 y3 y4 f0 f1 f2 f3 f4
            have hz4 := Z4.out
            have HK2 := Lib.hid (fun (o : Obj) (wa : World) (hg : (U.alloc o).grownBy wa (Value.ownBlock _)) => (P4.out.alloc o).kept hg (own_apart (P4.out.alloc o) (O4.out.alloc o) (by decide)))
            have HX := Lib.hid (fun (o o2 : Obj) (wa wb : World) (va : Value) (howna : wa.ownsRow (V1.heap.size + 2) 28 2 va (rs.length + 1) ((spansOf rs).flatMap spv ++ [.int .i64 (a : Int), .int .i64 (k : Int)])) (hga : (U.alloc o).grownBy wa (Value.ownBlock _)) (hgb : (wa.alloc o2).grownBy wb (Value.ownBlock _)) =>
              And.intro (((M4.out.next (nxA U o)).grown hga (own_row_ne (O4.out.alloc o) (by omega))).next (nxA wa o2) |>.grown hgb (own_row_ne ((HK2.out o wa hga).alloc o2) (by omega)))
                (And.intro (((Y4.out.next (nxA U o)).grown hga (own_row_ne (O4.out.alloc o) (by omega))).next (nxA wa o2) |>.grown hgb (own_row_ne ((HK2.out o wa hga).alloc o2) (by omega)))
                  (And.intro ((howna.alloc o2).kept hgb (own_apart (howna.alloc o2) ((HK2.out o wa hga).alloc o2) (by decide)))
                    (And.intro ((((B4.out.alloc B4.out.size o).grown hga (by have := B4.out.size; simp; omega) (fun q hq => by have := (O4.out.alloc o).lt q hq; omega)).alloc (by have := B4.out.size; have := hga.size; simp at this; omega) o2).grown hgb (by have := B4.out.size; have := hga.size; simp at this ⊢; omega) (fun q hq => by have := ((HK2.out o wa hga).alloc o2).lt q hq; omega))
                      (show V1.heap.size + 2 ≤ wb.heap.size from by have := hga.size; have := hgb.size; simp at *; omega)))))
            go_wp2_with (first
              | (at_builtin; refine wpList_append_own _ rfl (.tmp 46) (.tmp 50) 37 rfl (V1.heap.size + 2) 28 i0 (.agg #[.int .i64 0, .int .i64 0]) 2 16 Tryd.underlying37 hi hz0 hz1 hz2 rfl (by decide) _ _ _ rfl (O4.out.alloc _) ⟨U.heap.size, 0, none⟩ 1 1 [.int .i64 (a : Int), .int .i64 (k : Int)] rfl rfl (cell_two_new _ _ _ _) (by simp [Value.oneCell']) (by unfold maxLen; omega) (by omega) (by simp; omega) ?_; intro va wa howna hgrowa _)
              | (at_builtin; refine wpList_append_own _ rfl (.tmp 52) (.tmp 54) 34 rfl (V1.heap.size + 2) 3 i1 (.int .i64 0) 1 8 Tryd.underlying34 gi gz0 gz1 gz2 rfl (by decide) _ _ _ rfl ((HK2.out _ _ hgrowa).alloc _) ⟨wa.heap.size, 0, none⟩ 1 1 [.int .i64 (k1 : Int)] rfl rfl (cell_one_new _ _ _) (by simp [Value.oneCell']) (by unfold maxLen; omega) (by omega) (by have := hgrowa.size; simp at this ⊢; omega) ?_; intro vb wb hownb hgrowb _; have HX5 := Lib.hid (HX.out _ _ _ _ _ howna hgrowa hgrowb); have Hownb := Lib.hid hownb; have m0 := HX5.out.1.c 0 _ rfl; have m1 := HX5.out.1.c 1 _ rfl; have m2 := HX5.out.1.c 2 _ rfl; have m3 := HX5.out.1.c 3 _ rfl; have m4 := HX5.out.1.c 4 _ rfl; clear howna hgrowa hownb hgrowb))
            refine (HA0.out wb HX5.out.2.2.2.1).mono ?_
            rintro e W5 ⟨rfl, hb⟩
            have RR := HX5.out.2.1.next hb
            have M6 := Lib.hid ((HX5.out.1.next hb).setOther (g := V1.heap.size + 1) hne [.int .i64 (r0 0), .int .i64 (r0 1), .int .i64 (r0 2), .int .i64 (r0 3), .int .i64 (r0 4)] 0)
            have Y6 := Lib.hid (RR.setAll [.int .i64 (r0 0), .int .i64 (r0 1), .int .i64 (r0 2), .int .i64 (r0 3), .int .i64 (r0 4)] rfl)
            have B6 := Lib.hid (below_setCells (b := V1.heap.size + 1) (show w.heap.size ≤ V1.heap.size + 1 by omega) [.int .i64 (r0 0), .int .i64 (r0 1), .int .i64 (r0 2), .int .i64 (r0 3), .int .i64 (r0 4)] 0 (HX5.out.2.2.2.1.trans (hb.mono HX5.out.2.2.2.1.size)))
            have O6 := Lib.hid (own_setCells (b := V1.heap.size + 1) (by omega) [.int .i64 (r0 0), .int .i64 (r0 1), .int .i64 (r0 2), .int .i64 (r0 3), .int .i64 (r0 4)] 0 (own_below HX5.out.2.2.1 hb))
            have P6 := Lib.hid (own_setCells (b := V1.heap.size + 1) (by omega) [.int .i64 (r0 0), .int .i64 (r0 1), .int .i64 (r0 2), .int .i64 (r0 3), .int .i64 (r0 4)] 0 (own_below Hownb.out hb))
            have Z6 := Lib.hid (show V1.heap.size + 2 ≤ (setCells W5 (V1.heap.size + 1) 0 [.int .i64 (r0 0), .int .i64 (r0 1), .int .i64 (r0 2), .int .i64 (r0 3), .int .i64 (r0 4)]).heap.size by rw [setCells_size]; exact Nat.le_trans HX5.out.2.2.2.2 hb.size)
            clear HX5 Hownb m0 m1 m2 m3 m4 hb
            have y0 := RR.c 0 _ rfl
            have y1 := RR.c 1 _ rfl
            have y2 := RR.c 2 _ rfl
            have y3 := RR.c 3 _ rfl
            have y4 := RR.c 4 _ rfl
            have f0 := RR.fr 0
            have f1 := RR.fr 1
            have f2 := RR.fr 2
            have f3 := RR.fr 3
            have f4 := RR.fr 4
            clear RR
            go_wp2_with fail
            go_roundw
            case rel => exact HrelB.out _ k1 _ _ O6.out P6.out M6.out Y6.out B6.out Z6.out (by trivial) (by trivial)
            case measure => simp [intOf]; omega
      · obtain rfl : k = l.length := by omega
        have hal : alonesS d.blades d.bound l = true := by have := hR.al; rw [List.take_length] at this; exact this
        have hpf := hR.pf
        rw [List.drop_of_length_le (Nat.le_refl _)] at hpf
        have E1 := Lib.hid (show proofR d l = (rs, 0) by rw [HF.out, if_neg (by rw [hal]; simp), hpf]; simp [proofGo])
        clear hal hpf
        go_wp2_with fail
        go_ret3
        rw [E1.out]
        exact retPrC_own hR.o1 hR.o2 hR.b
  · rw [if_neg hch] at HM
    rw [HM.out]
    have E1 := Lib.hid (show proofR d l = ([], checkS d l) by rw [HF.out, if_pos hch])
    have dne : (checkS d l != 0) = true := by rw [bne_iff_ne]; exact hch
    generalize checkS d l = x at *
    have B2 := Lib.hid (B1.out.alloc (o := .cells #[.slice none 0 0, .int .i64 0, .int .i64 0, .int .i64 0, .slice none 0 0] 84) B1.out.size)
    clear hch
    go_wp2_with fail
    go_ret3
    rw [E1.out]
    exact retPrC_nil B2.out
end Go.Proofs.YtbhkglokdomajaaDoor
