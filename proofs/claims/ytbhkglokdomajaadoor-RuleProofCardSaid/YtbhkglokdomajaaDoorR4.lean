import Derived.Test.YtbhkglokdomajaaDoorR3
namespace Go.Proofs.YtbhkglokdomajaaDoor
open Go.RowKit
/-! The reference: has a plan a set for each stint, and what it costs. -/
def inP (nb : Nat) (s : Int) : Bool := inS s 0 (powI nb - 1)
def RPl (d : Die) (plan : List Int) (w0 : World) (b : Nat) (i : Value) (w : World) : Prop := ∃ k : Nat, k ≤ plan.length ∧ i = .int .i64 k ∧ Below w0.heap.size w0 w ∧ Bx w b (dieL d) ∧ (plan.take k).all (inP d.blades.length) = true
set_option maxHeartbeats 400000 in
theorem Plans_any (d : Die) (l : List Stint) (A2 A3 : Option Addr) (c2 c3 : Nat) (plan : List Int) (w : World) (ok : OkD d) (hl : l.length ≤ 7) (hp : At w w.heap.size 1 icell A3 plan) (hpl : plan.length ≤ 9223372036854775807) :
    Calls Tryd.prog 30 #[.agg #[.slice d.A d.blades.length d.c, .int .i64 d.bound, .int .i64 d.stop, .int .i64 d.bend], .slice A2 l.length c2, .slice A3 plan.length c3] w (Ret (.bool (planOk d.blades.length l plan)) w) := by
  have hnb := ok.nb
  have hpw := powI_bd (n := d.blades.length) (by omega)
  have HP := Lib.hid (show planOk d.blades.length l plan = (plan.all (inP d.blades.length) && decide ((plan.length : Int) = ((l.length - 1 : Nat) : Int))) from rfl)
  have HPW := Lib.hid (fun W => power_any d.blades.length (by omega) W)
  clear ok
  go_enter Tryd.func30, Tryd.ntmps30
  go_wp2
  go_loopw [7] (fun i wr => RPl d plan w w.heap.size i wr) (fun i _ => plan.length - (intOf i).toNat)
  case atStart => exact ⟨0, by omega, rfl, nxA _ _, Bx.new _ _ _, rfl⟩
  case round =>
    obtain ⟨k, hk, rfl, hb, hx, hall⟩ := hrel
    have hz := hx.lt
    have c0 := hx.c 0 _ rfl
    have HX := Lib.hid hx
    clear hx
    by_cases hlt : k < plan.length
    · obtain ⟨b, off, e, hbk, h0⟩ := int_at (hp.below hb) hlt
      subst e
      have hg : plan[k] = plan.getD k 0 := by rw [List.getD_eq_getElem?_getD, List.getElem?_eq_getElem hlt]; rfl
      have Ha := Lib.hid (all_step (p := inP d.blades.length) hlt hall)
      have Hf := Lib.hid (all_fail (p := inP d.blades.length) hlt)
      rw [hg] at Ha Hf
      have Hk := Lib.hid (show inP d.blades.length (plan.getD k 0) = inS (plan.getD k 0) 0 (powI d.blades.length - 1) from rfl)
      generalize plan.getD k 0 = x at *
      clear hall hg
      generalize powI d.blades.length = P at *
      cases a1 : inS x 0 (P - 1)
      · go_wp2_with (go_quiet (first | (go_at_call 57; first | exact qq (HPW.out _) | exact qqa (HPW.out _)) | (go_at_call 43; first | exact qq (in_any _ _ _ _) | exact qqa (in_any _ _ _ _))))
        go_ret
        refine ret_bool ?_ (below_drewN hb _)
        rw [HP.out, Hf.out (by rw [Hk.out]; exact a1)]; rfl
      · go_wp2_with (go_quiet (first | (go_at_call 57; first | exact qq (HPW.out _) | exact qqa (HPW.out _)) | (go_at_call 43; first | exact qq (in_any _ _ _ _) | exact qqa (in_any _ _ _ _))))
        all_goals (first | (refine ⟨?_, ?_⟩; (unfold RPl; exact ⟨k + 1, by omega, by go_num, below_drewN hb _, HX.out.drewN, Ha.out (by rw [Hk.out]; exact a1)⟩); (simp [intOf]; omega)) | (go_roundw; (case rel => (unfold RPl; exact ⟨k + 1, by omega, by go_num, below_drewN hb _, HX.out.drewN, Ha.out (by rw [Hk.out]; exact a1)⟩)); (case measure => (simp [intOf]; omega))) | (go_round; (case rel => (unfold RPl; exact ⟨k + 1, by omega, by go_num, below_drewN hb _, HX.out.drewN, Ha.out (by rw [Hk.out]; exact a1)⟩)); (case measure => (simp [intOf]; omega))))
    · have Hall := Lib.hid (all_full hlt hall)
      clear hall
      by_cases h0 : l.length = 0
      · have d0 : decide ((0 : Int) < (l.length : Int) - 1) = false := by simp; omega
        have d1 : decide ((l.length : Int) - 1 < 0) = true := by simp; omega
        have hm : max (0 : Int) ((l.length : Int) - 1) = 0 := by omega
        go_wp2
        go_ret
        refine ret_bool ?_ hb
        rw [HP.out, Hall.out, Bool.true_and, h0]
        rw [Bool.eq_iff_iff]
        simp
      · have d0 : decide ((l.length : Int) - 1 < 0) = false := by simp; omega
        have hm : max (0 : Int) ((l.length : Int) - 1) = ((l.length - 1 : Nat) : Int) := by omega
        go_wp2
        all_goals
          go_ret
          refine ret_bool ?_ hb
          rw [HP.out, Hall.out, Bool.true_and, Bool.eq_iff_iff]
          first | (simp only [beq_iff_eq, decide_eq_true_eq]; omega) | (simp; omega)
end Go.Proofs.YtbhkglokdomajaaDoor
