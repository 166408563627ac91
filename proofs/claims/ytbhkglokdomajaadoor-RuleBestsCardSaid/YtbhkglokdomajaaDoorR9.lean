import Derived.Test.YtbhkglokdomajaaDoorR8
import Derived.Test.YtbhkglokdomajaaDoorR5
namespace Go.Proofs.YtbhkglokdomajaaDoor
open Go.RowKit
/-! The reference: Follow. -/
set_option maxRecDepth 100000 in
set_option maxHeartbeats 1000000 in
theorem refFollow_any (d : Die) (A : Option Addr) (c : Nat) (l : List Stint) (A3 : Option Addr) (c3 : Nat) (plan : List Int) (w : World) (hd : DieAt w w.heap.size d) (hr : At w w.heap.size 2 Stint.cells A l) (hl : l.length ≤ 9223372036854775807)
    (hp : At w w.heap.size 1 icell A3 plan) (hpl : plan.length ≤ 9223372036854775807) :
    Calls Tryd.prog 19 #[.agg #[.slice d.A d.blades.length d.c, .int .i64 d.bound, .int .i64 d.stop, .int .i64 d.bend], .slice A l.length c, .slice A3 plan.length c3] w (Ret (foV (followS d l plan)) w) := by
  have HF := Lib.hid (show followS d l plan = ite (α := Int × Int × Int × Int) (checkS d l ≠ 0) (0, 0, 0, checkS d l) (if planOk d.blades.length l plan = false then (0, 0, 0, 2)
    else match badP d.blades d.bound l (fun _ => 0) (setsOf plan) 0 with
    | some (i, k) => (0, i, k, 11)
    | none => (sumN (costS d.stop d.bend) (setsOf plan), l.length, 0, 0)) from rfl)
  have hb0 := nxA w (.cells #[.slice d.A d.blades.length d.c, .int .i64 d.bound, .int .i64 d.stop, .int .i64 d.bend] 24)
  have B0 := Lib.hid hb0
  have D0 := Lib.hid (hd.next hb0)
  have S0 := Lib.hid (hr.next hb0)
  have P0 := Lib.hid (hp.next hb0)
  have X0 := Lib.hid (Bx.new w #[.slice d.A d.blades.length d.c, .int .i64 d.bound, .int .i64 d.stop, .int .i64 d.bend] 24)
  have HL := Lib.hid hl
  have HPL := Lib.hid hpl
  clear hd hr hp hb0 hl hpl
  go_enter Tryd.func19, Tryd.ntmps19
  go_upto_region 1 with fail
  generalize w.alloc (.cells #[.slice d.A d.blades.length d.c, .int .i64 d.bound, .int .i64 d.stop, .int .i64 d.bend] 24) = V at *
  have p0 := X0.out.c 0 _ rfl
  have p1 := X0.out.c 1 _ rfl
  have p2 := X0.out.c 2 _ rfl
  have p3 := X0.out.c 3 _ rfl
  go_wp2_with fail
  refine (check_any d A c l V D0.out S0.out HL.out).mono ?_
  rintro e V1 ⟨rfl, hb⟩
  replace B0 := Lib.hid (B0.out.trans (hb.mono B0.out.size))
  replace D0 := Lib.hid (D0.out.next hb)
  replace S0 := Lib.hid (S0.out.next hb)
  replace P0 := Lib.hid (P0.out.next hb)
  replace X0 := Lib.hid (X0.out.next hb)
  clear hb p0 p1 p2 p3
  by_cases hch : checkS d l = 0
  · rw [hch]
    rw [if_neg (show ¬ checkS d l ≠ 0 from fun h => h hch)] at HF
    have hdl := check_zero.1 hch
    have OK := Lib.hid ((okd_iff d).1 hdl.1)
    have OKL := Lib.hid ((okl_iff l).1 hdl.2)
    clear hch hdl
    have p0 := X0.out.c 0 _ rfl
    have p1 := X0.out.c 1 _ rfl
    have p2 := X0.out.c 2 _ rfl
    have p3 := X0.out.c 3 _ rfl
    go_wp2_with fail
    refine (Plans_any d l A A3 c c3 plan V1 OK.out OKL.out.nl P0.out HPL.out).mono ?_
    rintro e V2 ⟨rfl, hb⟩
    replace B0 := Lib.hid (B0.out.trans (hb.mono B0.out.size))
    replace D0 := Lib.hid (D0.out.next hb)
    replace S0 := Lib.hid (S0.out.next hb)
    replace P0 := Lib.hid (P0.out.next hb)
    replace X0 := Lib.hid (X0.out.next hb)
    clear hb p0 p1 p2 p3
    cases hpo : planOk d.blades.length l plan
    · have E1 := Lib.hid (show followS d l plan = (0, 0, 0, 2) by rw [HF.out, if_pos hpo])
      go_wp2_with fail
      ((try simp only [Exit.inBlock, Exit.then]); refine bodyPost_ret (results_tmp4 rfl _ _ _) rfl ?_)
      exact ⟨by rw [E1.out]; rfl, B0.out⟩
    · rw [if_neg (by rw [hpo]; simp)] at HF
      have HPO := Lib.hid hpo
      clear hpo
      have p0 := X0.out.c 0 _ rfl
      have p1 := X0.out.c 1 _ rfl
      have p2 := X0.out.c 2 _ rfl
      have p3 := X0.out.c 3 _ rfl
      go_wp2_with fail
      refine (Bad_any d A c l A3 c3 plan V2 OK.out OKL.out HPO.out D0.out S0.out P0.out).mono ?_
      rintro e V3 ⟨rfl, hb⟩
      replace B0 := Lib.hid (B0.out.trans (hb.mono B0.out.size))
      replace D0 := Lib.hid (D0.out.next hb)
      replace P0 := Lib.hid (P0.out.next hb)
      replace X0 := Lib.hid (X0.out.next hb)
      clear hb p0 p1 p2 p3
      have p0 := X0.out.c 0 _ rfl
      have p1 := X0.out.c 1 _ rfl
      have p2 := X0.out.c 2 _ rfl
      have p3 := X0.out.c 3 _ rfl
      cases hbad : badP d.blades d.bound l (fun _ => 0) (setsOf plan) 0 with
      | some x =>
        obtain ⟨i, k⟩ := x
        have E1 := Lib.hid (show followS d l plan = (0, (i : Int), (k : Int), 11) by rw [HF.out, hbad])
        clear hbad
        unfold badV
        go_wp2_with fail
        ((try simp only [Exit.inBlock, Exit.then]); refine bodyPost_ret (results_tmp4 rfl _ _ _) rfl ?_)
        exact ⟨by rw [E1.out]; rfl, B0.out⟩
      | none =>
        have hsum : sumN (costS d.stop d.bend) (setsOf plan) = sumN (costS d.stop d.bend) (plan.map Int.toNat) := by
          show costS d.stop d.bend 0 + sumN (costS d.stop d.bend) (plan.map Int.toNat) = _
          rw [show costS d.stop d.bend 0 = 0 from rfl]; omega
        have E1 := Lib.hid (show followS d l plan = ((sumN (costS d.stop d.bend) (plan.map Int.toNat), (l.length : Int), 0, 0) : Int × Int × Int × Int) by rw [HF.out, hbad, ← hsum])
        have hps := planOk_iff.1 HPO.out
        have hnl := OKL.out.nl
        have h32 : (2 : Nat) ^ d.blades.length ≤ 32 := Nat.pow_le_pow_right (by omega) OK.out.nb.2
        have HCo := Lib.hid (Cost_any d A3 c3 plan V3 OK.out (fun s hs => ⟨(hps.1 s hs).1, by have := (hps.1 s hs).2; omega⟩) (by omega) P0.out)
        clear hbad hsum hps
        unfold badV
        generalize sumN (costS d.stop d.bend) (plan.map Int.toNat) = cs at *
        go_wp2_with fail
        refine HCo.out.mono ?_
        rintro e V4 ⟨rfl, hb⟩
        replace B0 := Lib.hid (B0.out.trans (hb.mono B0.out.size))
        clear hb p0 p1 p2 p3
        go_wp2_with fail
        ((try simp only [Exit.inBlock, Exit.then]); refine bodyPost_ret (results_tmp4 rfl _ _ _) rfl ?_)
        exact ⟨by rw [E1.out]; rfl, B0.out⟩
  · have E1 := Lib.hid (show followS d l plan = (0, 0, 0, checkS d l) by rw [HF.out, if_pos hch])
    have dne : (checkS d l != 0) = true := by rw [bne_iff_ne]; exact hch
    generalize checkS d l = x at *
    clear hch
    go_wp2_with fail
    ((try simp only [Exit.inBlock, Exit.then]); refine bodyPost_ret (results_tmp4 rfl _ _ _) rfl ?_)
    exact ⟨by rw [E1.out]; rfl, B0.out⟩
end Go.Proofs.YtbhkglokdomajaaDoor
