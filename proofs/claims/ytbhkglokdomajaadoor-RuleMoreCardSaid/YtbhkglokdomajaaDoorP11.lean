import Derived.Test.YtbhkglokdomajaaDoorP6
import Derived.Test.YtbhkglokdomajaaDoorP7
import Derived.Test.YtbhkglokdomajaaDoorLaws4
import Derived.Deep.DeepCutAuto
namespace Go.Proofs.YtbhkglokdomajaaDoor
open Go.RowKit
/-! The program: Follow. -/
theorem results_tmp4 {fn : Func} {t u v x : Tmp} (h : fn.results = #[.tmp t, .tmp u, .tmp v, .tmp x]) (tmps : Array Value) (P : Program) (w : World) :
    (results fn tmps).run P w = .ok (.tuple #[tmps.getD t undef, tmps.getD u undef, tmps.getD v undef, tmps.getD x undef]) w := by
  simp [results, h]
def foV (f : Int × Int × Int × Int) : Value := .tuple #[.int .i64 f.1, .int .i64 f.2.1, .int .i64 f.2.2.1, .int .i64 f.2.2.2]
theorem any_badSet (nb : Nat) (plan : List Int) : plan.any (badSet nb) = !plan.all (fun s => inS s 0 (powI nb - 1)) := by
  rw [List.all_eq_not_any_not, Bool.not_not]; rfl
theorem sets_at {nb : Nat} {l : List Stint} {plan : List Int} (h : planOk nb l plan = true) (hl : 1 ≤ l.length) : (setsOf plan).length = l.length ∧ (setsOf plan).getD 0 0 = 0 ∧ (∀ k, (setsOf plan).getD k 0 < 2 ^ nb) ∧ ∀ k, k + 1 < l.length → plan.getD k 0 = (((setsOf plan).getD (k + 1) 0 : Nat) : Int) := by
  obtain ⟨h1, h2⟩ := planOk_iff.1 h
  refine ⟨by unfold setsOf; simp; omega, rfl, fun k => ?_, fun k hk => ?_⟩
  · have hp : 0 < 2 ^ nb := Nat.pow_pos (by omega)
    unfold setsOf
    rw [List.getD_eq_getElem?_getD]
    cases k with
    | zero => exact hp
    | succ k =>
      rw [List.getElem?_cons_succ, List.getElem?_map]
      by_cases hk : k < plan.length
      · rw [List.getElem?_eq_getElem hk]; exact (h1 _ (List.getElem_mem hk)).2
      · rw [List.getElem?_eq_none (by omega)]; exact hp
  · have hk' : k < plan.length := by omega
    unfold setsOf
    rw [List.getD_eq_getElem?_getD, List.getD_eq_getElem?_getD, List.getElem?_cons_succ, List.getElem?_map, List.getElem?_eq_getElem hk']
    show plan[k] = (((plan[k]).toNat : Nat) : Int)
    have := (h1 _ (List.getElem_mem hk')).1
    omega
/-- The sum, when all stints are done. -/
theorem sum_full {d : Die} {l : List Stint} {plan : List Int} (h : planOk d.blades.length l plan = true) : sumN (costS d.stop d.bend) ((setsOf plan).take l.length) = sumN (costS d.stop d.bend) (setsOf plan) := by
  obtain ⟨h1, h2⟩ := planOk_iff.1 h
  by_cases hl : 1 ≤ l.length
  · rw [List.take_of_length_le (by unfold setsOf; simp; omega)]
  · have : plan = [] := List.eq_nil_of_length_eq_zero (by omega)
    subst this
    rw [show l.length = 0 by omega]; rfl
theorem costS_bd {d : Die} (ok : OkD d) (set : Nat) : 0 ≤ costS d.stop d.bend set ∧ costS d.stop d.bend set ≤ 60000 := by
  have hp := popS_bd set
  have hm := mul_bd ok.bend.1 ok.bend.2 hp.1 hp.2
  have := ok.stop
  unfold costS
  split <;> omega
theorem sum_bd {d : Die} (ok : OkD d) : ∀ s : List Nat, 0 ≤ sumN (costS d.stop d.bend) s ∧ sumN (costS d.stop d.bend) s ≤ 60000 * s.length
  | [] => ⟨Int.le_refl _, Int.le_refl _⟩
  | x :: s => by
    have h1 := costS_bd ok x
    have h2 := sum_bd ok s
    rw [List.length_cons]
    unfold sumN
    omega
def RFol (d : Die) (l : List Stint) (sets : List Nat) (A : Option Addr) (c bm br : Nat) (w : World) (i cost : Value) (W : World) : Prop := ∃ k : Nat, k ≤ l.length ∧ i = .int .i64 k ∧ cost = .int .i64 (sumN (costS d.stop d.bend) (sets.take k)) ∧ Bx W bm (mountL d A l.length c) ∧ Bx W br (ranL (ranAt d.blades.length l sets (fun _ => 0) k)) ∧ Below w.heap.size w W ∧ badP d.blades d.bound l (fun _ => 0) sets 0 = badP d.blades d.bound (l.drop k) (ranAt d.blades.length l sets (fun _ => 0) k) (sets.drop k) k
set_option maxRecDepth 100000 in
set_option maxHeartbeats 1000000 in
theorem Follow_any (d : Die) (A : Option Addr) (c : Nat) (l : List Stint) (A3 : Option Addr) (c3 : Nat) (plan : List Int) (w : World) (hd : DieAt w w.heap.size d) (hr : At w w.heap.size 2 Stint.cells A l) (hl : l.length ≤ 9223372036854775807)
    (hp : At w w.heap.size 1 icell A3 plan) (hpl : plan.length ≤ 9223372036854775807) (he : Env w) :
    Calls Tryd.prog 18 #[.agg #[.slice d.A d.blades.length d.c, .int .i64 d.bound, .int .i64 d.stop, .int .i64 d.bend], .slice A l.length c, .slice A3 plan.length c3] w (Ret (foV (followS d l plan)) w) := by
  have HF := Lib.hid (show followS d l plan = ite (α := Int × Int × Int × Int) (checkS d l ≠ 0) (0, 0, 0, checkS d l) (if planOk d.blades.length l plan = false then (0, 0, 0, 2)
    else match badP d.blades d.bound l (fun _ => 0) (setsOf plan) 0 with
    | some (i, k) => (0, i, k, 11)
    | none => (sumN (costS d.stop d.bend) (setsOf plan), l.length, 0, 0)) from rfl)
  have HPO := Lib.hid (show planOk d.blades.length l plan = (plan.all (fun s => inS s 0 (powI d.blades.length - 1)) && decide ((plan.length : Int) = ((l.length - 1 : Nat) : Int))) from rfl)
  have HM := Lib.hid (show mountR d A c l = if checkS d l = 0 then mountV d A l.length c else .agg #[.slice none 0 0, .int .i64 0, .int .i64 0, .int .i64 0, .slice none 0 0] from rfl)
  have hb0 := nxA w (.cells #[.slice d.A d.blades.length d.c, .int .i64 d.bound, .int .i64 d.stop, .int .i64 d.bend] 24)
  have B0 := Lib.hid hb0
  have HR := Lib.hid (hr.next hb0)
  have HD := Lib.hid (hd.next hb0)
  have HRw := Lib.hid hr
  have HDw := Lib.hid hd
  have HPw := Lib.hid hp
  have HEw := Lib.hid he
  have X0 := Lib.hid (Bx.new w #[.slice d.A d.blades.length d.c, .int .i64 d.bound, .int .i64 d.stop, .int .i64 d.bend] 24)
  have HL := Lib.hid hl
  have HPL := Lib.hid hpl
  clear hd hr hp he hb0 hl hpl
  go_enter Tryd.func18, Tryd.ntmps18
  go_wp2_with fail
  generalize w.alloc (.cells #[.slice d.A d.blades.length d.c, .int .i64 d.bound, .int .i64 d.stop, .int .i64 d.bend] 24) = V at *
  have c0 := X0.out.c 0 _ rfl
  have c1 := X0.out.c 1 _ rfl
  have c2 := X0.out.c 2 _ rfl
  have c3' := X0.out.c 3 _ rfl
  go_wp2_with fail
  refine (mount_any d A c l V HD.out HR.out HL.out).mono ?_
  rintro e V1 ⟨rfl, hb⟩
  have B1 := Lib.hid (B0.out.trans (hb.mono B0.out.size))
  clear hb B0 HR X0 HD c0 c1 c2 c3'
  by_cases hch : checkS d l = 0
  · rw [if_pos hch] at HM
    rw [HM.out, hch]
    rw [if_neg (show ¬ checkS d l ≠ 0 from fun h => h hch)] at HF
    have hdl := check_zero.1 hch
    have OK := Lib.hid ((okd_iff d).1 hdl.1)
    have OKL := Lib.hid ((okl_iff l).1 hdl.2)
    have X1 := Lib.hid (Bx.new V1 #[.slice d.A d.blades.length d.c, .int .i64 d.bound, .int .i64 d.stop, .int .i64 d.bend, .slice A l.length c] 84)
    have B2 := Lib.hid (B1.out.alloc (o := .cells #[.slice d.A d.blades.length d.c, .int .i64 d.bound, .int .i64 d.stop, .int .i64 d.bend, .slice A l.length c] 84) B1.out.size)
    have hll := OKL.out.nl
    clear hch hdl
    unfold mountV
    by_cases hpl : (plan.length : Int) = ((l.length - 1 : Nat) : Int)
    rotate_left
    · have E1 := Lib.hid (show followS d l plan = (0, 0, 0, 2) by rw [HF.out, if_pos (by rw [HPO.out, decide_eq_false hpl, Bool.and_false])])
      have HFi := Lib.hid B2.out
      by_cases h1 : 1 < (l.length : Int)
      · have d1 : ¬ (plan.length : Int) = (l.length : Int) - 1 := by omega
        clear hpl
        go_wp2_with fail
        ((try simp only [Exit.inBlock, Exit.then]); refine bodyPost_ret (results_tmp4 rfl _ _ _) rfl ?_)
        exact ⟨by rw [E1.out]; rfl, HFi.out⟩
      · have d1 : ¬ plan = [] := by rintro rfl; exact hpl (by simp; omega)
        have d2 : (l.length : Int) ≤ 1 := by omega
        clear hpl h1
        go_wp2_with fail
        ((try simp only [Exit.inBlock, Exit.then]); refine bodyPost_ret (results_tmp4 rfl _ _ _) rfl ?_)
        exact ⟨by rw [E1.out]; rfl, HFi.out⟩
    · have HC := Lib.hid (fun (W : World) (hW : Below w.heap.size w W) (hx : Bx W V1.heap.size (mountL d A l.length c)) => containsInt_any d A c l.length V1.heap.size A3 c3 plan W ((HPw.out.below hW).more hW.size) HPL.out OK.out hx)
      have HPE := Lib.hid hpl
      by_cases h1 : 1 < (l.length : Int)
      · have d1 : (plan.length : Int) = (l.length : Int) - 1 := by omega
        obtain ⟨b3, off3, e3, -, -⟩ := int_at HPw.out (k := 0) (by omega)
        have HQ := Lib.hid (show ∀ (W : World) (q : Nat), q + 1 < l.length → Below w.heap.size w W → W.cell? ⟨b3, off3 + q, none⟩ = some (.int .i64 (plan.getD q 0)) from fun W q hq hW => by
          obtain ⟨b', off', e', -, hc⟩ := int_at (HPw.out.below hW) (k := q) (by omega)
          rw [e3] at e'
          injection e' with e'
          injection e' with e1 e2
          subst e1 e2
          exact hc)
        rw [e3] at HC ⊢
        clear hpl e3
        go_wp2_with fail
        refine (HC.out _ B2.out X1.out).mono ?_
        rintro e V2 ⟨rfl, hb⟩
        clear d1
        have B3 := Lib.hid (B2.out.trans (hb.mono B2.out.size))
        have X3 := Lib.hid (X1.out.next hb)
        have HEN := Lib.hid ((HEw.out.next B3.out))
        clear hb B2 X1 B1 HC
        cases hbad : plan.any (badSet d.blades.length)
        · have hok : planOk d.blades.length l plan = true := by
            rw [HPO.out, decide_eq_true HPE.out, Bool.and_true]
            rw [any_badSet, Bool.not_eq_false'] at hbad
            exact hbad
          have E1 := Lib.hid (show followS d l plan = match badP d.blades d.bound l (fun _ => 0) (setsOf plan) 0 with
            | some (i, k) => (0, i, k, 11)
            | none => (sumN (costS d.stop d.bend) ((setsOf plan).take l.length), l.length, 0, 0) by rw [HF.out, if_neg (by rw [hok]; simp), sum_full hok])
          have HSA := Lib.hid (sets_at hok)
          have HOKp := Lib.hid hok
          generalize setsOf plan = sets at *
          have X4 := Lib.hid (Bx.new V2 #[.int .i64 0, .int .i64 0, .int .i64 0, .int .i64 0, .int .i64 0] 91)
          have X5 := Lib.hid (X3.out.next (nxA V2 (.cells #[.int .i64 0, .int .i64 0, .int .i64 0, .int .i64 0, .int .i64 0] 91)))
          have B5 := Lib.hid (B3.out.alloc (o := .cells #[.int .i64 0, .int .i64 0, .int .i64 0, .int .i64 0, .int .i64 0] 91) B3.out.size)
          have hne : V1.heap.size < V2.heap.size := X3.out.lt
          have hwV : w.heap.size ≤ V2.heap.size := B3.out.size
          clear hok hbad
          go_wp2_with fail
          go_loopw [39, 6] (fun i cs wr => RFol d l sets A c V1.heap.size V2.heap.size w i cs wr) (fun i _ _ => l.length - (intOf i).toNat)
          case atStart => exact ⟨0, by omega, rfl, rfl, X5.out, X4.out, B5.out, by simp [ranAt]⟩
          case round =>
            obtain ⟨k, hk, rfl, rfl, hm, hrx, hbw, hbp⟩ := hrel
            have okl := OKL.out
            by_cases hlt : k < l.length
            · have ok := OK.out
              obtain ⟨hsl, hs0, hsp, hsq⟩ := HSA.out (by omega)
              have hBA := badP_at (bl := d.blades) (bound := d.bound) (r := fun _ => 0) hlt (show k < sets.length by omega)
              have hST := sumN_take (cost := costS d.stop d.bend) (show k < sets.length by omega)
              have hrb := ran_bd (nb := d.blades.length) (sets := sets) (l := l) (fun t ht => by have := okl.st t ht; omega) k
              have hsb := sum_bd ok (sets.take k)
              have hcb := costS_bd ok (sets.getD k 0)
              rw [List.length_take] at hsb
              have hset2 := hsp k
              have hsk : ∀ q, k = q + 1 → plan.getD q 0 = ((sets.getD k 0 : Nat) : Int) := fun q e => by subst e; exact hsq q hlt
              have hs0' : k = 0 → sets.getD k 0 = 0 := fun e => by subst e; exact hs0
              have hrr : runRes d (l.getD k ⟨0, 0⟩) (ranAt d.blades.length l sets (fun _ => 0) k) (sets.getD k 0) = .tuple #[.agg #[.int .i64 (ranAt d.blades.length l sets (fun _ => 0) (k + 1) 0), .int .i64 (ranAt d.blades.length l sets (fun _ => 0) (k + 1) 1), .int .i64 (ranAt d.blades.length l sets (fun _ => 0) (k + 1) 2), .int .i64 (ranAt d.blades.length l sets (fun _ => 0) (k + 1) 3), .int .i64 (ranAt d.blades.length l sets (fun _ => 0) (k + 1) 4)], .int .i64 (badI (badS d.blades (d.bound + (l.getD k ⟨0, 0⟩).more) (ranAt d.blades.length l sets (fun _ => 0) (k + 1))))] := rfl
              have HCO := Lib.hid (fun W => cost_any d A l.length c (sets.getD k 0) W ok (Nat.lt_of_lt_of_le hset2 (Nat.pow_le_pow_right (by omega) ok.nb.2 : 2 ^ d.blades.length ≤ 2 ^ 5)))
              have HRU := Lib.hid (fun W (hW : Below w.heap.size w W) => run_any d A c l (ranAt d.blades.length l sets (fun _ => 0) k) (sets.getD k 0) k W ok okl hlt hset2 (fun j => by have := hrb j; omega) ((HDw.out.below hW).more hW.size) ((HRw.out.below hW).more hW.size) (HEw.out.next hW))
              rw [hrr] at HRU
              have HBA := Lib.hid hBA
              have HSK := Lib.hid hsk
              have HS0 := Lib.hid hs0'
              have HST := Lib.hid hST
              have HBP := Lib.hid hbp
              have HRel := Lib.hid (fun (W : World) (h : badS d.blades (d.bound + (l.getD k ⟨0, 0⟩).more) (ranAt d.blades.length l sets (fun _ => 0) (k + 1)) = none) (h1 : Bx W V1.heap.size (mountL d A l.length c)) (h2 : Bx W V2.heap.size (ranL (ranAt d.blades.length l sets (fun _ => 0) (k + 1)))) (h3 : Below w.heap.size w W) =>
                (show RFol d l sets A c V1.heap.size V2.heap.size w (.int .i64 ((k + 1 : Nat) : Int)) (.int .i64 (sumN (costS d.stop d.bend) (sets.take k) + costS d.stop d.bend (sets.getD k 0))) W from ⟨k + 1, by omega, rfl, by rw [hST], h1, h2, h3, by rw [hbp, hBA, h]⟩))
              clear hBA hsk hs0' hST hrr hbp hrb hsp hsq hs0 ok okl hset2
              generalize sumN (costS d.stop d.bend) (sets.take k) = cs at *
              generalize costS d.stop d.bend (sets.getD k 0) = cc at *
              generalize badS d.blades (d.bound + (l.getD k ⟨0, 0⟩).more) (ranAt d.blades.length l sets (fun _ => 0) (k + 1)) = q at *
              generalize ranAt d.blades.length l sets (fun _ => 0) (k + 1) = r' at *
              generalize ranAt d.blades.length l sets (fun _ => 0) k = r at *
              generalize sets.getD k 0 = set at *
              have HM := Lib.hid hm
              have HRX := Lib.hid hrx
              have HBW := Lib.hid hbw
              clear hm hrx hbw
              rcases k with _ | k
              · have e0 := HS0.out rfl
                have m0 := HM.out.c 0 _ rfl
                have m1 := HM.out.c 1 _ rfl
                have m2 := HM.out.c 2 _ rfl
                have m3 := HM.out.c 3 _ rfl
                have m4 := HM.out.c 4 _ rfl
                subst e0
                go_wp2_with fail
                refine (HCO.out _).mono ?_
                rintro e W1 ⟨rfl, hb⟩
                have M1 := Lib.hid (HM.out.next hb)
                have RX1 := Lib.hid (HRX.out.next hb)
                have BW1 := Lib.hid (HBW.out.trans (hb.mono HBW.out.size))
                clear HM HRX HBW hb m0 m1 m2 m3 m4 HCO
                have m0 := M1.out.c 0 _ rfl
                have m1 := M1.out.c 1 _ rfl
                have m2 := M1.out.c 2 _ rfl
                have m3 := M1.out.c 3 _ rfl
                have m4 := M1.out.c 4 _ rfl
                have r0 := RX1.out.c 0 _ rfl
                have r1 := RX1.out.c 1 _ rfl
                have r2 := RX1.out.c 2 _ rfl
                have r3 := RX1.out.c 3 _ rfl
                have r4 := RX1.out.c 4 _ rfl
                go_wp2_with fail
                refine (HRU.out _ BW1.out).mono ?_
                rintro e W2 ⟨rfl, hb⟩
                have M2 := Lib.hid ((M1.out.next hb).setOther (g := V2.heap.size) (Nat.ne_of_lt hne) [.int .i64 (r' 0), .int .i64 (r' 1), .int .i64 (r' 2), .int .i64 (r' 3), .int .i64 (r' 4)] 0)
                have RX2 := Lib.hid ((RX1.out.next hb).setAll [.int .i64 (r' 0), .int .i64 (r' 1), .int .i64 (r' 2), .int .i64 (r' 3), .int .i64 (r' 4)] rfl)
                have BW2 := Lib.hid (below_setCells (b := V2.heap.size) hwV [.int .i64 (r' 0), .int .i64 (r' 1), .int .i64 (r' 2), .int .i64 (r' 3), .int .i64 (r' 4)] 0 (BW1.out.trans (hb.mono BW1.out.size)))
                have RR := RX1.out.next hb
                clear M1 RX1 BW1 HRU m0 m1 m2 m3 m4 r0 r1 r2 r3 r4 hb
                have r0 := RR.c 0 _ rfl
                have r1 := RR.c 1 _ rfl
                have r2 := RR.c 2 _ rfl
                have r3 := RR.c 3 _ rfl
                have r4 := RR.c 4 _ rfl
                have f0 := RR.fr 0
                have f1 := RR.fr 1
                have f2 := RR.fr 2
                have f3 := RR.fr 3
                have f4 := RR.fr 4
                clear RR
                cases q with
                | none =>
                  rw [show badI none = (-1 : Int) from rfl]
                  go_wp2_with fail
                  go_roundw
                  case rel => exact HRel.out _ (by trivial) M2.out RX2.out BW2.out
                  case measure => simp [intOf]; omega
                | some k0 =>
                  have E2 := Lib.hid (show followS d l plan = (0, ((0 : Nat) : Int), (k0 : Int), 11) by rw [E1.out, HBP.out, HBA.out])
                  rw [show badI (some k0) = (k0 : Int) from rfl]
                  have hk0 : (0 : Int) ≤ k0 := by omega
                  go_wp2_with fail
                  ((try simp only [Exit.inBlock, Exit.then]); refine bodyPost_ret (results_tmp4 rfl _ _ _) rfl ?_)
                  exact ⟨by rw [E2.out]; rfl, BW2.out⟩
              · have hcell := HQ.out wr k hlt HBW.out
                rw [HSK.out k rfl] at hcell
                have m0 := HM.out.c 0 _ rfl
                have m1 := HM.out.c 1 _ rfl
                have m2 := HM.out.c 2 _ rfl
                have m3 := HM.out.c 3 _ rfl
                have m4 := HM.out.c 4 _ rfl
                have hkp : k < plan.length := by have := HPE.out; omega
                go_wp2_with fail
                refine (HCO.out _).mono ?_
                rintro e W1 ⟨rfl, hb⟩
                have M1 := Lib.hid (HM.out.next hb)
                have RX1 := Lib.hid (HRX.out.next hb)
                have BW1 := Lib.hid (HBW.out.trans (hb.mono HBW.out.size))
                clear hcell HM HRX HBW hb m0 m1 m2 m3 m4 HCO
                have m0 := M1.out.c 0 _ rfl
                have m1 := M1.out.c 1 _ rfl
                have m2 := M1.out.c 2 _ rfl
                have m3 := M1.out.c 3 _ rfl
                have m4 := M1.out.c 4 _ rfl
                have r0 := RX1.out.c 0 _ rfl
                have r1 := RX1.out.c 1 _ rfl
                have r2 := RX1.out.c 2 _ rfl
                have r3 := RX1.out.c 3 _ rfl
                have r4 := RX1.out.c 4 _ rfl
                go_wp2_with fail
                refine (HRU.out _ BW1.out).mono ?_
                rintro e W2 ⟨rfl, hb⟩
                have M2 := Lib.hid ((M1.out.next hb).setOther (g := V2.heap.size) (Nat.ne_of_lt hne) [.int .i64 (r' 0), .int .i64 (r' 1), .int .i64 (r' 2), .int .i64 (r' 3), .int .i64 (r' 4)] 0)
                have RX2 := Lib.hid ((RX1.out.next hb).setAll [.int .i64 (r' 0), .int .i64 (r' 1), .int .i64 (r' 2), .int .i64 (r' 3), .int .i64 (r' 4)] rfl)
                have BW2 := Lib.hid (below_setCells (b := V2.heap.size) hwV [.int .i64 (r' 0), .int .i64 (r' 1), .int .i64 (r' 2), .int .i64 (r' 3), .int .i64 (r' 4)] 0 (BW1.out.trans (hb.mono BW1.out.size)))
                have RR := RX1.out.next hb
                clear M1 RX1 BW1 HRU m0 m1 m2 m3 m4 r0 r1 r2 r3 r4 hb
                have r0 := RR.c 0 _ rfl
                have r1 := RR.c 1 _ rfl
                have r2 := RR.c 2 _ rfl
                have r3 := RR.c 3 _ rfl
                have r4 := RR.c 4 _ rfl
                have f0 := RR.fr 0
                have f1 := RR.fr 1
                have f2 := RR.fr 2
                have f3 := RR.fr 3
                have f4 := RR.fr 4
                clear RR
                cases q with
                | none =>
                  rw [show badI none = (-1 : Int) from rfl]
                  go_wp2_with fail
                  go_roundw
                  case rel => exact HRel.out _ (by trivial) M2.out RX2.out BW2.out
                  case measure => simp [intOf]; omega
                | some k0 =>
                  have E2 := Lib.hid (show followS d l plan = (0, ((k + 1 : Nat) : Int), (k0 : Int), 11) by rw [E1.out, HBP.out, HBA.out])
                  rw [show badI (some k0) = (k0 : Int) from rfl]
                  have hk0 : (0 : Int) ≤ k0 := by omega
                  go_wp2_with fail
                  ((try simp only [Exit.inBlock, Exit.then]); refine bodyPost_ret (results_tmp4 rfl _ _ _) rfl ?_)
                  exact ⟨by rw [E2.out]; rfl, BW2.out⟩
            · obtain rfl : k = l.length := by omega
              rw [List.drop_of_length_le (Nat.le_refl _)] at hbp
              have E2 := Lib.hid (show followS d l plan = ((sumN (costS d.stop d.bend) (sets.take l.length), (l.length : Int), 0, 0) : Int × Int × Int × Int) by rw [E1.out, hbp]; rfl)
              clear hbp
              generalize sumN (costS d.stop d.bend) (sets.take l.length) = cs at *
              go_wp2_with fail
              ((try simp only [Exit.inBlock, Exit.then]); refine bodyPost_ret (results_tmp4 rfl _ _ _) rfl ?_)
              exact ⟨by rw [E2.out]; rfl, hbw⟩
        · have E1 := Lib.hid (show followS d l plan = (0, 0, 0, 2) by rw [HF.out, if_pos (by rw [HPO.out, ← Bool.not_not (plan.all _), ← any_badSet, hbad]; rfl)])
          clear hbad
          go_wp2_with fail
          ((try simp only [Exit.inBlock, Exit.then]); refine bodyPost_ret (results_tmp4 rfl _ _ _) rfl ?_)
          exact ⟨by rw [E1.out]; rfl, B3.out⟩
      · have d2 : (l.length : Int) ≤ 1 := by omega
        obtain rfl : plan = [] := List.eq_nil_of_length_eq_zero (by omega)
        obtain ⟨b3, off3, HQ⟩ : ∃ b3 off3, ∀ (W : World) (q : Nat), q + 1 < l.length → Below w.heap.size w W → W.cell? ⟨b3, off3 + q, none⟩ = some (.int .i64 (([] : List Int).getD q 0)) := ⟨0, 0, fun W q hq _ => by omega⟩
        replace HQ := Lib.hid HQ
        clear hpl
        go_wp2_with fail
        refine (HC.out _ B2.out X1.out).mono ?_
        rintro e V2 ⟨rfl, hb⟩
        have B3 := Lib.hid (B2.out.trans (hb.mono B2.out.size))
        have X3 := Lib.hid (X1.out.next hb)
        have HEN := Lib.hid ((HEw.out.next B3.out))
        clear hb B2 X1 B1 HC
        cases hbad : ([] : List Int).any (badSet d.blades.length)
        · have hok : planOk d.blades.length l ([] : List Int) = true := by
            rw [HPO.out, decide_eq_true HPE.out, Bool.and_true]
            rw [any_badSet, Bool.not_eq_false'] at hbad
            exact hbad
          have E1 := Lib.hid (show followS d l ([] : List Int) = match badP d.blades d.bound l (fun _ => 0) (setsOf ([] : List Int)) 0 with
            | some (i, k) => (0, i, k, 11)
            | none => (sumN (costS d.stop d.bend) ((setsOf ([] : List Int)).take l.length), l.length, 0, 0) by rw [HF.out, if_neg (by rw [hok]; simp), sum_full hok])
          have HSA := Lib.hid (sets_at hok)
          have HOKp := Lib.hid hok
          generalize setsOf ([] : List Int) = sets at *
          have X4 := Lib.hid (Bx.new V2 #[.int .i64 0, .int .i64 0, .int .i64 0, .int .i64 0, .int .i64 0] 91)
          have X5 := Lib.hid (X3.out.next (nxA V2 (.cells #[.int .i64 0, .int .i64 0, .int .i64 0, .int .i64 0, .int .i64 0] 91)))
          have B5 := Lib.hid (B3.out.alloc (o := .cells #[.int .i64 0, .int .i64 0, .int .i64 0, .int .i64 0, .int .i64 0] 91) B3.out.size)
          have hne : V1.heap.size < V2.heap.size := X3.out.lt
          have hwV : w.heap.size ≤ V2.heap.size := B3.out.size
          clear hok hbad
          go_wp2_with fail
          go_loopw [39, 6] (fun i cs wr => RFol d l sets A c V1.heap.size V2.heap.size w i cs wr) (fun i _ _ => l.length - (intOf i).toNat)
          case atStart => exact ⟨0, by omega, rfl, rfl, X5.out, X4.out, B5.out, by simp [ranAt]⟩
          case round =>
            obtain ⟨k, hk, rfl, rfl, hm, hrx, hbw, hbp⟩ := hrel
            have okl := OKL.out
            by_cases hlt : k < l.length
            · have ok := OK.out
              obtain ⟨hsl, hs0, hsp, hsq⟩ := HSA.out (by omega)
              have hBA := badP_at (bl := d.blades) (bound := d.bound) (r := fun _ => 0) hlt (show k < sets.length by omega)
              have hST := sumN_take (cost := costS d.stop d.bend) (show k < sets.length by omega)
              have hrb := ran_bd (nb := d.blades.length) (sets := sets) (l := l) (fun t ht => by have := okl.st t ht; omega) k
              have hsb := sum_bd ok (sets.take k)
              have hcb := costS_bd ok (sets.getD k 0)
              rw [List.length_take] at hsb
              have hset2 := hsp k
              have hsk : ∀ q, k = q + 1 → ([] : List Int).getD q 0 = ((sets.getD k 0 : Nat) : Int) := fun q e => by subst e; exact hsq q hlt
              have hs0' : k = 0 → sets.getD k 0 = 0 := fun e => by subst e; exact hs0
              have hrr : runRes d (l.getD k ⟨0, 0⟩) (ranAt d.blades.length l sets (fun _ => 0) k) (sets.getD k 0) = .tuple #[.agg #[.int .i64 (ranAt d.blades.length l sets (fun _ => 0) (k + 1) 0), .int .i64 (ranAt d.blades.length l sets (fun _ => 0) (k + 1) 1), .int .i64 (ranAt d.blades.length l sets (fun _ => 0) (k + 1) 2), .int .i64 (ranAt d.blades.length l sets (fun _ => 0) (k + 1) 3), .int .i64 (ranAt d.blades.length l sets (fun _ => 0) (k + 1) 4)], .int .i64 (badI (badS d.blades (d.bound + (l.getD k ⟨0, 0⟩).more) (ranAt d.blades.length l sets (fun _ => 0) (k + 1))))] := rfl
              have HCO := Lib.hid (fun W => cost_any d A l.length c (sets.getD k 0) W ok (Nat.lt_of_lt_of_le hset2 (Nat.pow_le_pow_right (by omega) ok.nb.2 : 2 ^ d.blades.length ≤ 2 ^ 5)))
              have HRU := Lib.hid (fun W (hW : Below w.heap.size w W) => run_any d A c l (ranAt d.blades.length l sets (fun _ => 0) k) (sets.getD k 0) k W ok okl hlt hset2 (fun j => by have := hrb j; omega) ((HDw.out.below hW).more hW.size) ((HRw.out.below hW).more hW.size) (HEw.out.next hW))
              rw [hrr] at HRU
              have HBA := Lib.hid hBA
              have HSK := Lib.hid hsk
              have HS0 := Lib.hid hs0'
              have HST := Lib.hid hST
              have HBP := Lib.hid hbp
              have HRel := Lib.hid (fun (W : World) (h : badS d.blades (d.bound + (l.getD k ⟨0, 0⟩).more) (ranAt d.blades.length l sets (fun _ => 0) (k + 1)) = none) (h1 : Bx W V1.heap.size (mountL d A l.length c)) (h2 : Bx W V2.heap.size (ranL (ranAt d.blades.length l sets (fun _ => 0) (k + 1)))) (h3 : Below w.heap.size w W) =>
                (show RFol d l sets A c V1.heap.size V2.heap.size w (.int .i64 ((k + 1 : Nat) : Int)) (.int .i64 (sumN (costS d.stop d.bend) (sets.take k) + costS d.stop d.bend (sets.getD k 0))) W from ⟨k + 1, by omega, rfl, by rw [hST], h1, h2, h3, by rw [hbp, hBA, h]⟩))
              clear hBA hsk hs0' hST hrr hbp hrb hsp hsq hs0 ok okl hset2
              generalize sumN (costS d.stop d.bend) (sets.take k) = cs at *
              generalize costS d.stop d.bend (sets.getD k 0) = cc at *
              generalize badS d.blades (d.bound + (l.getD k ⟨0, 0⟩).more) (ranAt d.blades.length l sets (fun _ => 0) (k + 1)) = q at *
              generalize ranAt d.blades.length l sets (fun _ => 0) (k + 1) = r' at *
              generalize ranAt d.blades.length l sets (fun _ => 0) k = r at *
              generalize sets.getD k 0 = set at *
              have HM := Lib.hid hm
              have HRX := Lib.hid hrx
              have HBW := Lib.hid hbw
              clear hm hrx hbw
              rcases k with _ | k
              · have e0 := HS0.out rfl
                have m0 := HM.out.c 0 _ rfl
                have m1 := HM.out.c 1 _ rfl
                have m2 := HM.out.c 2 _ rfl
                have m3 := HM.out.c 3 _ rfl
                have m4 := HM.out.c 4 _ rfl
                subst e0
                go_wp2_with fail
                refine (HCO.out _).mono ?_
                rintro e W1 ⟨rfl, hb⟩
                have M1 := Lib.hid (HM.out.next hb)
                have RX1 := Lib.hid (HRX.out.next hb)
                have BW1 := Lib.hid (HBW.out.trans (hb.mono HBW.out.size))
                clear HM HRX HBW hb m0 m1 m2 m3 m4 HCO
                have m0 := M1.out.c 0 _ rfl
                have m1 := M1.out.c 1 _ rfl
                have m2 := M1.out.c 2 _ rfl
                have m3 := M1.out.c 3 _ rfl
                have m4 := M1.out.c 4 _ rfl
                have r0 := RX1.out.c 0 _ rfl
                have r1 := RX1.out.c 1 _ rfl
                have r2 := RX1.out.c 2 _ rfl
                have r3 := RX1.out.c 3 _ rfl
                have r4 := RX1.out.c 4 _ rfl
                go_wp2_with fail
                refine (HRU.out _ BW1.out).mono ?_
                rintro e W2 ⟨rfl, hb⟩
                have M2 := Lib.hid ((M1.out.next hb).setOther (g := V2.heap.size) (Nat.ne_of_lt hne) [.int .i64 (r' 0), .int .i64 (r' 1), .int .i64 (r' 2), .int .i64 (r' 3), .int .i64 (r' 4)] 0)
                have RX2 := Lib.hid ((RX1.out.next hb).setAll [.int .i64 (r' 0), .int .i64 (r' 1), .int .i64 (r' 2), .int .i64 (r' 3), .int .i64 (r' 4)] rfl)
                have BW2 := Lib.hid (below_setCells (b := V2.heap.size) hwV [.int .i64 (r' 0), .int .i64 (r' 1), .int .i64 (r' 2), .int .i64 (r' 3), .int .i64 (r' 4)] 0 (BW1.out.trans (hb.mono BW1.out.size)))
                have RR := RX1.out.next hb
                clear M1 RX1 BW1 HRU m0 m1 m2 m3 m4 r0 r1 r2 r3 r4 hb
                have r0 := RR.c 0 _ rfl
                have r1 := RR.c 1 _ rfl
                have r2 := RR.c 2 _ rfl
                have r3 := RR.c 3 _ rfl
                have r4 := RR.c 4 _ rfl
                have f0 := RR.fr 0
                have f1 := RR.fr 1
                have f2 := RR.fr 2
                have f3 := RR.fr 3
                have f4 := RR.fr 4
                clear RR
                cases q with
                | none =>
                  rw [show badI none = (-1 : Int) from rfl]
                  go_wp2_with fail
                  go_roundw
                  case rel => exact HRel.out _ (by trivial) M2.out RX2.out BW2.out
                  case measure => simp [intOf]; omega
                | some k0 =>
                  have E2 := Lib.hid (show followS d l ([] : List Int) = (0, ((0 : Nat) : Int), (k0 : Int), 11) by rw [E1.out, HBP.out, HBA.out])
                  rw [show badI (some k0) = (k0 : Int) from rfl]
                  have hk0 : (0 : Int) ≤ k0 := by omega
                  go_wp2_with fail
                  ((try simp only [Exit.inBlock, Exit.then]); refine bodyPost_ret (results_tmp4 rfl _ _ _) rfl ?_)
                  exact ⟨by rw [E2.out]; rfl, BW2.out⟩
              · exfalso; omega
            · obtain rfl : k = l.length := by omega
              rw [List.drop_of_length_le (Nat.le_refl _)] at hbp
              have E2 := Lib.hid (show followS d l ([] : List Int) = ((sumN (costS d.stop d.bend) (sets.take l.length), (l.length : Int), 0, 0) : Int × Int × Int × Int) by rw [E1.out, hbp]; rfl)
              clear hbp
              generalize sumN (costS d.stop d.bend) (sets.take l.length) = cs at *
              go_wp2_with fail
              ((try simp only [Exit.inBlock, Exit.then]); refine bodyPost_ret (results_tmp4 rfl _ _ _) rfl ?_)
              exact ⟨by rw [E2.out]; rfl, hbw⟩
        · have E1 := Lib.hid (show followS d l ([] : List Int) = (0, 0, 0, 2) by rw [HF.out, if_pos (by rw [HPO.out, ← Bool.not_not (([] : List Int).all _), ← any_badSet, hbad]; rfl)])
          clear hbad
          go_wp2_with fail
          ((try simp only [Exit.inBlock, Exit.then]); refine bodyPost_ret (results_tmp4 rfl _ _ _) rfl ?_)
          exact ⟨by rw [E1.out]; rfl, B3.out⟩
  · rw [if_neg hch] at HM
    rw [HM.out]
    have E1 := Lib.hid (show followS d l plan = (0, 0, 0, checkS d l) by rw [HF.out, if_pos hch])
    have dne : (checkS d l != 0) = true := by rw [bne_iff_ne]; exact hch
    generalize checkS d l = x at *
    have B2 := Lib.hid (B1.out.alloc (o := .cells #[.slice none 0 0, .int .i64 0, .int .i64 0, .int .i64 0, .slice none 0 0] 84) B1.out.size)
    clear hch
    go_wp2_with fail
    ((try simp only [Exit.inBlock, Exit.then]); refine bodyPost_ret (results_tmp4 rfl _ _ _) rfl ?_)
    exact ⟨by rw [E1.out]; rfl, B2.out⟩
end Go.Proofs.YtbhkglokdomajaaDoor
