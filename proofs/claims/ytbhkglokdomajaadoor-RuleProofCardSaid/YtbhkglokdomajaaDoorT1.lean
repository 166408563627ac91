import Derived.Test.YtbhkglokdomajaaDoorP8
import Derived.Test.YtbhkglokdomajaaDoorR5
import Derived.Test.YtbhkglokdomajaaDoorD3
import Derived.BigQuiet
namespace Go.Proofs.YtbhkglokdomajaaDoor
open Go.RowKit
/-! Of the law RuleTrue: its helper pick, and the plain facts of a round. -/
theorem u16_at {W : World} {B : Nat} {A : Option Addr} {l : List Int} (h : At W B 1 u16cell A l) {k : Nat} (hk : k < l.length) : ∃ b off, A = some ⟨b, off, none⟩ ∧ b < B ∧ W.cell? ⟨b, off + k, none⟩ = some (.int .u16 (l.getD k 0)) := by
  obtain ⟨b, off, e, hb, hc⟩ := h k (l.getD k 0) (by rw [List.getD_eq_getElem?_getD, List.getElem?_eq_getElem hk]; rfl)
  refine ⟨b, off, e, hb, ?_⟩
  have := hc 0 _ rfl
  rw [Nat.mul_one] at this
  exact this
set_option maxHeartbeats 1000000 in
theorem pick_any (lo hi x : Int) (w : World) (h0 : 0 ≤ lo) (h1 : lo ≤ hi) (h2 : hi ≤ 10000) (x0 : 0 ≤ x) (x1 : x < 65536) : Calls Tryd.prog 32 #[.agg #[.int .i64 lo, .int .i64 hi], .int .u16 x] w (Ret (.int .i64 (lo + x % (hi - lo + 1))) w) := by
  have r0 := Int.emod_nonneg x (b := hi - lo + 1) (by omega)
  have r1 := Int.emod_lt_of_pos x (b := hi - lo + 1) (by omega)
  have et := Int.tmod_eq_emod_of_nonneg (b := hi - lo + 1) x0
  have hB := nxA w (.cells #[.int .i64 lo, .int .i64 hi] 28)
  have c0 : (w.alloc (.cells #[.int .i64 lo, .int .i64 hi] 28)).cell? ⟨w.heap.size, 0, none⟩ = some (.int .i64 lo) := by simp [go_sem]
  have c1 : (w.alloc (.cells #[.int .i64 lo, .int .i64 hi] 28)).cell? ⟨w.heap.size, 1, none⟩ = some (.int .i64 hi) := by simp [go_sem]
  have HB := Lib.hid hB
  clear hB
  go_enter Tryd.func32, Tryd.ntmps32
  go_wp2_with fail
  generalize (w.alloc (.cells #[.int .i64 lo, .int .i64 hi] 28)) = V at *
  have x2 : IntKind.i64.wrap x = x := IntWalk.i64_in _ (by omega)
  have w2 : wrap64 (hi - lo) = hi - lo := IntWalk.wrap64_in _ ⟨by omega, by omega⟩
  go_quiet (fail)
  go_wp2
  go_ret
  exact ⟨rfl, below_drewN HB.out nq⟩
theorem pick_in {lo hi x : Int} (h1 : lo ≤ hi) : lo ≤ lo + x % (hi - lo + 1) ∧ lo + x % (hi - lo + 1) ≤ hi := by
  have r0 := Int.emod_nonneg x (b := hi - lo + 1) (by omega)
  have r1 := Int.emod_lt_of_pos x (b := hi - lo + 1) (by omega)
  omega
theorem offS_in {d : Die} (ok : OkD d) {n : Nat} (hn : n < d.blades.length) {x : Int} (h0 : 0 ≤ x) (h1 : x ≤ 7000) : offS d n x = (((bladeAt d n).fl + (bladeAt d n).wl * x, (bladeAt d n).fh + (bladeAt d n).wh * x), 0) := by
  unfold offS
  rw [if_neg (by rw [(okd_iff d).2 ok]; simp), if_neg (by unfold inS; simp; omega)]; rfl
/-- How long the blade has run behind the stint, and that it is not off too far then. -/
theorem true_step {d : Die} {l : List Stint} (okl : OkL l) {sets : List Nat} (hlen : sets.length = l.length) (hbad : badP d.blades d.bound l (fun _ => 0) sets 0 = none) {s k : Nat} (hs : s < l.length) (hk : k < d.blades.length) :
    ranAt d.blades.length l sets (fun _ => 0) (s + 1) k = (if has (sets.getD s 0) k then 0 else ranAt d.blades.length l sets (fun _ => 0) s k) + (l.getD s ⟨0, 0⟩).n ∧ 0 ≤ ranAt d.blades.length l sets (fun _ => 0) s k ∧ ranAt d.blades.length l sets (fun _ => 0) s k ≤ 7000 ∧ ranAt d.blades.length l sets (fun _ => 0) (s + 1) k ≤ 7000 ∧
      (bladeAt d k).fh + (bladeAt d k).wh * ranAt d.blades.length l sets (fun _ => 0) (s + 1) k ≤ d.bound + (l.getD s ⟨0, 0⟩).more := by
  have hn : ∀ t ∈ l, 0 ≤ t.n ∧ t.n ≤ 1000 := fun t ht => by have := okl.st t ht; omega
  have b1 := ran_bd (nb := d.blades.length) (sets := sets) hn s k
  have b2 := ran_bd (nb := d.blades.length) (sets := sets) hn (s + 1) k
  have hnl := okl.nl
  have h1 := bad_ran hlen hbad s hs
  unfold badS at h1
  rw [badTo_none] at h1
  have h2 := h1 k hk
  refine ⟨?_, b1.1, by omega, by omega, by have : (bladeAt d k).fh + (bladeAt d k).wh * ranAt d.blades.length l sets (fun _ => 0) (s + 1) k = worstS (d.blades.getD k ⟨0, 0, 0, 0⟩) (ranAt d.blades.length l sets (fun _ => 0) (s + 1) k) := rfl; omega⟩
  show runR d.blades.length (ranAt d.blades.length l sets (fun _ => 0) s) (sets.getD s 0) (l.getD s ⟨0, 0⟩).n k = _
  unfold runR
  rw [if_pos hk]
theorem true_off {fl fh wl wh f x now r lim : Int} (h1 : fl ≤ f) (h2 : f ≤ fh) (h3 : 0 ≤ wl) (h4 : wl ≤ x) (h5 : x ≤ wh) (h6 : 0 ≤ now) (h7 : now ≤ r) (h8 : r ≤ 7000) (h9 : wh ≤ 10000) (h10 : fh + wh * r ≤ lim) :
    0 ≤ x * now ∧ x * now ≤ 70000000 ∧ fl + wl * now ≤ f + x * now ∧ f + x * now ≤ fh + wh * now ∧ f + x * now ≤ lim := by
  have g1 := Int.mul_le_mul_of_nonneg_right h4 h6
  have g2 := Int.mul_le_mul_of_nonneg_right h5 h6
  have g3 := Int.mul_le_mul_of_nonneg_left h7 (by omega : 0 ≤ wh)
  have g4 := mul_bd (A := 10000) (B := 7000) (by omega : 0 ≤ x) (by omega) h6 (by omega)
  omega
theorem sum_sets {d : Die} (plan : List Int) : sumN (costS d.stop d.bend) (plan.map Int.toNat) = sumN (costS d.stop d.bend) (setsOf plan) := by
  show _ = costS d.stop d.bend 0 + _
  rw [show costS d.stop d.bend 0 = 0 from rfl, Int.zero_add]
theorem sets_len {plan : List Int} {l : List Stint} (h : plan.length = l.length - 1) (h0 : 0 < l.length) : (setsOf plan).length = l.length := by
  unfold setsOf; rw [List.length_cons, List.length_map]; omega
theorem sets_get {plan : List Int} {s : Nat} (hs : s < plan.length) (hp : ∀ x ∈ plan, 0 ≤ x) : plan.getD s 0 = (((setsOf plan).getD (s + 1) 0 : Nat) : Int) := by
  have h := hp plan[s] (List.getElem_mem hs)
  show _ = (((plan.map Int.toNat).getD s 0 : Nat) : Int)
  rw [List.getD_eq_getElem?_getD, List.getD_eq_getElem?_getD, List.getElem?_map, List.getElem?_eq_getElem hs]
  show plan[s] = ((plan[s].toNat : Nat) : Int)
  omega
theorem rem_idx {n : Nat} (h : 0 < n) (x : Nat) : ∃ k : Nat, k < n ∧ Int.tmod (x : Int) (n : Int) = (k : Int) ∧ (x : Int) % (n : Int) = (k : Int) :=
  ⟨x % n, Nat.mod_lt _ h, by rw [Int.tmod_eq_emod_of_nonneg (by omega)]; rfl, rfl⟩
end Go.Proofs.YtbhkglokdomajaaDoor
