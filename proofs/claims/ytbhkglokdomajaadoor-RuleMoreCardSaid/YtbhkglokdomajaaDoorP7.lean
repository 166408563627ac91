import Derived.Test.YtbhkglokdomajaaDoorP2
import Derived.Test.YtbhkglokdomajaaDoorP3
namespace Go.Proofs.YtbhkglokdomajaaDoor
open Go.RowKit
/-! The program: what it costs to bend a set of blades. -/
set_option maxRecDepth 100000 in
set_option maxHeartbeats 400000 in
theorem ones64_any (x : Nat) (hx : x < 32) (w : World) : Calls Tryd.prog 73 #[.int .u64 x] w (RetQ (.int .i64 (popS x)) w) := by
  go_enter Tryd.func73, Tryd.ntmps73
  go_wp2
  go_ret
  refine retq_int ?_
  clear w
  revert hx
  revert x
  decide +kernel
set_option maxHeartbeats 400000 in
theorem ones_any (x : Nat) (hx : x < 32) (w : World) : Calls Tryd.prog 67 #[.int .u64 x] w (RetQ (.int .i64 (popS x)) w) := by
  go_enter Tryd.func67, Tryd.ntmps67
  go_wp2_with (go_at_call 73; (with_reducible refine (ones64_any x hx _).mono ?_); rintro e w' ⟨rfl, rfl⟩)
  go_ret
  exact retq_int rfl
set_option maxHeartbeats 400000 in
theorem cost_any (d : Die) (A2 : Option Addr) (n2 c2 set : Nat) (w : World) (ok : OkD d) (hset : set < 32) : Calls Tryd.prog 51 #[.agg #[.slice d.A d.blades.length d.c, .int .i64 d.bound, .int .i64 d.stop, .int .i64 d.bend, .slice A2 n2 c2], .int .i64 set] w (Ret (.int .i64 (costS d.stop d.bend set)) w) := by
  have hs := ok.stop
  have hb := ok.bend
  have hp := popS_bd set
  have hm := mul_bd hb.1 hb.2 hp.1 hp.2
  have hu : IntKind.u64.wrap (set : Int) = (set : Int) := by rw [IntKind.wrap_u64]; omega
  have HO := Lib.hid (fun W => ones_any set hset W)
  have HC := Lib.hid (show costS d.stop d.bend set = if set = 0 then 0 else d.stop + d.bend * popS set from rfl)
  have HB := Lib.hid (nxA w (.cells #[.slice d.A d.blades.length d.c, .int .i64 d.bound, .int .i64 d.stop, .int .i64 d.bend, .slice A2 n2 c2] 84))
  have X0 := Lib.hid (Bx.new w #[.slice d.A d.blades.length d.c, .int .i64 d.bound, .int .i64 d.stop, .int .i64 d.bend, .slice A2 n2 c2] 84)
  clear ok
  by_cases h0 : set = 0
  · subst h0
    go_enter Tryd.func51, Tryd.ntmps51
    go_wp2
    go_ret
    exact ret_int (by rw [HC.out]; rfl) HB.out
  · have d0 : ((set : Int) == 0) = false := by rw [beq_eq_false_iff_ne]; omega
    generalize popS set = p at *
    go_enter Tryd.func51, Tryd.ntmps51
    go_wp2_with fail
    generalize w.alloc (.cells #[.slice d.A d.blades.length d.c, .int .i64 d.bound, .int .i64 d.stop, .int .i64 d.bend, .slice A2 n2 c2] 84) = V at *
    have c2' := X0.out.c 2 _ rfl
    have c3 := X0.out.c 3 _ rfl
    have hz := X0.out.lt
    go_wp2_with (go_quiet ((go_at_call 67; first | exact qq (HO.out _) | exact qqa (HO.out _))))
    go_ret
    exact ret_int (by rw [HC.out, if_neg h0]) (below_drewN HB.out _)
end Go.Proofs.YtbhkglokdomajaaDoor
