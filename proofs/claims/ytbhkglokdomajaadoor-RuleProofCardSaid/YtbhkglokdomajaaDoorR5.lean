import Derived.Test.YtbhkglokdomajaaDoorR4
namespace Go.Proofs.YtbhkglokdomajaaDoor
open Go.RowKit
/-! The reference: what a plan costs. -/
def penI (bend : Int) (s : Nat) (j : Nat) : Int := match j with
  | 0 => 0
  | j + 1 => penI bend s j + if has s j = true then bend else 0
theorem penI_five (bend : Int) (s : Nat) : penI bend s 5 = bend * popS s := by
  unfold popS b2i
  simp only [penI]
  cases has s 0 <;> cases has s 1 <;> cases has s 2 <;> cases has s 3 <;> cases has s 4 <;> simp <;> omega
theorem penI_bd {bend : Int} (hb : 0 ≤ bend ∧ bend ≤ 10000) (s : Nat) : ∀ j, 0 ≤ penI bend s j ∧ penI bend s j ≤ 10000 * j
  | 0 => ⟨Int.le_refl _, by show (0 : Int) ≤ _; omega⟩
  | j + 1 => by
    have ih := penI_bd hb s j
    show 0 ≤ penI bend s j + (if has s j = true then bend else 0) ∧ penI bend s j + (if has s j = true then bend else 0) ≤ 10000 * ((j + 1 : Nat) : Int)
    split <;> omega
def costTo (d : Die) (plan : List Int) (k : Nat) : Int := sumN (costS d.stop d.bend) ((plan.take k).map Int.toNat)
theorem sumN_append (c : Nat → Int) (p q : List Nat) : sumN c (p ++ q) = sumN c p + sumN c q := by
  induction p with
  | nil => show sumN c q = 0 + sumN c q; omega
  | cons s p ih => show c s + sumN c (p ++ q) = (c s + sumN c p) + sumN c q; rw [ih]; omega
theorem costTo_succ (d : Die) (plan : List Int) {k : Nat} (hk : k < plan.length) : costTo d plan (k + 1) = costTo d plan k + costS d.stop d.bend (plan.getD k 0).toNat := by
  unfold costTo
  rw [List.take_succ_eq_append_getElem hk, List.map_append, sumN_append]
  rw [List.getD_eq_getElem?_getD, List.getElem?_eq_getElem hk]
  show _ = _ + costS d.stop d.bend (plan[k]).toNat
  show _ + (costS d.stop d.bend (plan[k]).toNat + 0) = _
  omega
theorem costR_bd {d : Die} (ok : OkD d) (s : Nat) : 0 ≤ costS d.stop d.bend s ∧ costS d.stop d.bend s ≤ 60000 := by
  have hs := ok.stop
  have hb := ok.bend
  have hp := popS_bd s
  have hm := mul_bd hb.1 hb.2 hp.1 hp.2
  unfold costS
  split <;> omega
theorem costTo_bd {d : Die} (ok : OkD d) (plan : List Int) (k : Nat) : 0 ≤ costTo d plan k ∧ costTo d plan k ≤ 60000 * k := by
  unfold costTo
  induction k with
  | zero => exact ⟨Int.le_refl _, by show (0 : Int) ≤ _; omega⟩
  | succ k ih =>
    by_cases hk : k < plan.length
    · have := costTo_succ d plan hk
      unfold costTo at this
      rw [this]
      have hc := costR_bd ok (plan.getD k 0).toNat
      omega
    · rw [List.take_of_length_le (by omega)]
      rw [List.take_of_length_le (by omega)] at ih
      omega
def RCo (d : Die) (plan : List Int) (V : World) (i n : Value) (w : World) : Prop := ∃ k : Nat, k ≤ plan.length ∧ i = .int .i64 k ∧ n = .int .i64 (costTo d plan k) ∧ w = V
def RCi (d : Die) (s : Nat) (base : Int) (V : World) (j n : Value) (w : World) : Prop := ∃ k : Nat, k ≤ 5 ∧ j = .int .i64 k ∧ n = .int .i64 (base + penI d.bend s k) ∧ w = V
set_option maxRecDepth 100000 in
set_option maxHeartbeats 400000 in
theorem Cost_any (d : Die) (A3 : Option Addr) (c3 : Nat) (plan : List Int) (w : World) (ok : OkD d) (hs : ∀ s ∈ plan, 0 ≤ s ∧ s.toNat < 32) (hl : plan.length ≤ 7) (hp : At w w.heap.size 1 icell A3 plan) :
    Calls Tryd.prog 31 #[.agg #[.slice d.A d.blades.length d.c, .int .i64 d.bound, .int .i64 d.stop, .int .i64 d.bend], .slice A3 plan.length c3] w (Ret (.int .i64 (sumN (costS d.stop d.bend) (plan.map Int.toNat))) w) := by
  have hst := ok.stop
  have hbe := ok.bend
  have B0 := Lib.hid (nxA w (.cells #[.slice d.A d.blades.length d.c, .int .i64 d.bound, .int .i64 d.stop, .int .i64 d.bend] 24))
  have X0 := Lib.hid (Bx.new w #[.slice d.A d.blades.length d.c, .int .i64 d.bound, .int .i64 d.stop, .int .i64 d.bend] 24)
  have HP := Lib.hid (hp.next B0.out)
  have HC := Lib.hid (fun k (hk : k < plan.length) => costTo_succ d plan hk)
  have HB := Lib.hid (fun k => costTo_bd ok plan k)
  have HE := Lib.hid (show costTo d plan plan.length = sumN (costS d.stop d.bend) (plan.map Int.toNat) by unfold costTo; rw [List.take_length])
  have H0 := Lib.hid (show costTo d plan 0 = 0 from rfl)
  clear ok hp
  go_enter Tryd.func31, Tryd.ntmps31
  go_wp2
  generalize w.alloc (.cells #[.slice d.A d.blades.length d.c, .int .i64 d.bound, .int .i64 d.stop, .int .i64 d.bend] 24) = V at *
  have d2 := X0.out.c 2 _ rfl
  have d3 := X0.out.c 3 _ rfl
  go_loopw [6, 5] (fun i n wr => RCo d plan V i n wr) (fun i _ _ => plan.length - (intOf i).toNat)
  case atStart => exact ⟨0, by omega, rfl, by rw [H0.out], rfl⟩
  case round =>
    obtain ⟨k, hk, rfl, rfl, rfl⟩ := hrel
    have hbk := HB.out k
    by_cases hlt : k < plan.length
    · obtain ⟨b, off, e, hbl, h0⟩ := int_at HP.out hlt
      subst e
      have hsk := hs (plan.getD k 0) (by rw [List.getD_eq_getElem?_getD, List.getElem?_eq_getElem hlt]; exact List.getElem_mem hlt)
      have HC1 := Lib.hid (HC.out k hlt)
      obtain ⟨s, hse⟩ : ∃ s : Nat, plan.getD k 0 = (s : Int) := ⟨(plan.getD k 0).toNat, by omega⟩
      rw [hse] at h0 hsk HC1
      rw [Int.toNat_natCast] at hsk HC1
      have hs32 := hsk.2
      have HPn := Lib.hid (fun j => penI_bd hbe s j)
      have H5 := Lib.hid (penI_five d.bend s)
      have HH := Lib.hid (fun j (hj : j < 5) W => has_any s j (by omega) (by omega) W)
      clear hse hsk hs
      generalize costTo d plan k = n0 at *
      by_cases h0s : s = 0
      · have dz : decide ((0 : Int) < (s : Int)) = false := decide_eq_false (by omega)
        have dz2 : decide (0 < s) = false := decide_eq_false (by omega)
        have H0s := Lib.hid h0s
        clear h0s
        go_wp2_with fail
        go_loopw [7, 5] (fun j n wr' => RCi d s n0 wr j n wr') (fun j _ _ => 5 - (intOf j).toNat)
        case atStart => exact ⟨0, by omega, rfl, by show _ = Value.int .i64 (n0 + 0); rw [Int.add_zero], rfl⟩
        case round =>
          obtain ⟨j, hj, rfl, rfl, rfl⟩ := hrel
          have hpb := HPn.out j
          by_cases hj5 : j < 5
          · have hhas := HH.out j hj5
            cases hq : has s j
            · have HN := Lib.hid (show penI d.bend s (j + 1) = penI d.bend s j by show _ + (if has s j = true then d.bend else 0) = _; rw [hq, if_neg (by simp), Int.add_zero])
              rw [hq] at hhas
              generalize penI d.bend s j = pn at *
              clear hq
              go_wp2_with (go_at_call 33; (with_reducible refine (hhas _).mono ?_); rintro e w' ⟨rfl, rfl⟩)
              all_goals (first | (refine ⟨?_, ?_⟩; (unfold RCi; exact ⟨j + 1, by omega, by go_num, by rw [HN.out], rfl⟩); (simp [intOf]; omega)) | (go_roundw; (case rel => (unfold RCi; exact ⟨j + 1, by omega, by go_num, by rw [HN.out], rfl⟩)); (case measure => (simp [intOf]; omega))) | (go_round; (case rel => (unfold RCi; exact ⟨j + 1, by omega, by go_num, by rw [HN.out], rfl⟩)); (case measure => (simp [intOf]; omega))))
            · have HN := Lib.hid (show penI d.bend s (j + 1) = penI d.bend s j + d.bend by show _ + (if has s j = true then d.bend else 0) = _; rw [hq, if_pos rfl])
              rw [hq] at hhas
              generalize penI d.bend s j = pn at *
              clear hq
              go_wp2_with (go_at_call 33; (with_reducible refine (hhas _).mono ?_); rintro e w' ⟨rfl, rfl⟩)
              all_goals (first | (refine ⟨?_, ?_⟩; (unfold RCi; exact ⟨j + 1, by omega, by go_num, by rw [HN.out, Int.add_assoc], rfl⟩); (simp [intOf]; omega)) | (go_roundw; (case rel => (unfold RCi; exact ⟨j + 1, by omega, by go_num, by rw [HN.out, Int.add_assoc], rfl⟩)); (case measure => (simp [intOf]; omega))) | (go_round; (case rel => (unfold RCi; exact ⟨j + 1, by omega, by go_num, by rw [HN.out, Int.add_assoc], rfl⟩)); (case measure => (simp [intOf]; omega))))
          · obtain rfl : j = 5 := by omega
            have HF := Lib.hid (show costTo d plan (k + 1) = n0 + penI d.bend s 5 by rw [HC1.out, H5.out]; unfold costS; rw [if_pos H0s.out, H0s.out]; simp [popS, b2i, has])
            generalize penI d.bend s 5 = pn at *
            go_wp2
            all_goals (first | (refine ⟨?_, ?_⟩; (unfold RCo; exact ⟨k + 1, by omega, by go_num, by rw [HF.out], rfl⟩); (simp [intOf]; omega)) | (go_roundw; (case rel => (unfold RCo; exact ⟨k + 1, by omega, by go_num, by rw [HF.out], rfl⟩)); (case measure => (simp [intOf]; omega))) | (go_round; (case rel => (unfold RCo; exact ⟨k + 1, by omega, by go_num, by rw [HF.out], rfl⟩)); (case measure => (simp [intOf]; omega))))
      · have dz : decide ((0 : Int) < (s : Int)) = true := decide_eq_true (by omega)
        have dz2 : decide (0 < s) = true := decide_eq_true (by omega)
        have H0s := Lib.hid h0s
        clear h0s
        go_wp2_with fail
        go_loopw [7, 5] (fun j n wr' => RCi d s (n0 + d.stop) wr j n wr') (fun j _ _ => 5 - (intOf j).toNat)
        case atStart => exact ⟨0, by omega, rfl, by show _ = Value.int .i64 ((n0 + d.stop) + 0); rw [Int.add_zero], rfl⟩
        case round =>
          obtain ⟨j, hj, rfl, rfl, rfl⟩ := hrel
          have hpb := HPn.out j
          by_cases hj5 : j < 5
          · have hhas := HH.out j hj5
            cases hq : has s j
            · have HN := Lib.hid (show penI d.bend s (j + 1) = penI d.bend s j by show _ + (if has s j = true then d.bend else 0) = _; rw [hq, if_neg (by simp), Int.add_zero])
              rw [hq] at hhas
              generalize penI d.bend s j = pn at *
              clear hq
              go_wp2_with (go_at_call 33; (with_reducible refine (hhas _).mono ?_); rintro e w' ⟨rfl, rfl⟩)
              all_goals (first | (refine ⟨?_, ?_⟩; (unfold RCi; exact ⟨j + 1, by omega, by go_num, by rw [HN.out], rfl⟩); (simp [intOf]; omega)) | (go_roundw; (case rel => (unfold RCi; exact ⟨j + 1, by omega, by go_num, by rw [HN.out], rfl⟩)); (case measure => (simp [intOf]; omega))) | (go_round; (case rel => (unfold RCi; exact ⟨j + 1, by omega, by go_num, by rw [HN.out], rfl⟩)); (case measure => (simp [intOf]; omega))))
            · have HN := Lib.hid (show penI d.bend s (j + 1) = penI d.bend s j + d.bend by show _ + (if has s j = true then d.bend else 0) = _; rw [hq, if_pos rfl])
              rw [hq] at hhas
              generalize penI d.bend s j = pn at *
              clear hq
              go_wp2_with (go_at_call 33; (with_reducible refine (hhas _).mono ?_); rintro e w' ⟨rfl, rfl⟩)
              all_goals (first | (refine ⟨?_, ?_⟩; (unfold RCi; exact ⟨j + 1, by omega, by go_num, by rw [HN.out, Int.add_assoc], rfl⟩); (simp [intOf]; omega)) | (go_roundw; (case rel => (unfold RCi; exact ⟨j + 1, by omega, by go_num, by rw [HN.out, Int.add_assoc], rfl⟩)); (case measure => (simp [intOf]; omega))) | (go_round; (case rel => (unfold RCi; exact ⟨j + 1, by omega, by go_num, by rw [HN.out, Int.add_assoc], rfl⟩)); (case measure => (simp [intOf]; omega))))
          · obtain rfl : j = 5 := by omega
            have HF := Lib.hid (show costTo d plan (k + 1) = (n0 + d.stop) + penI d.bend s 5 by rw [HC1.out, H5.out]; unfold costS; rw [if_neg H0s.out]; omega)
            generalize penI d.bend s 5 = pn at *
            go_wp2
            all_goals (first | (refine ⟨?_, ?_⟩; (unfold RCo; exact ⟨k + 1, by omega, by go_num, by rw [HF.out], rfl⟩); (simp [intOf]; omega)) | (go_roundw; (case rel => (unfold RCo; exact ⟨k + 1, by omega, by go_num, by rw [HF.out], rfl⟩)); (case measure => (simp [intOf]; omega))) | (go_round; (case rel => (unfold RCo; exact ⟨k + 1, by omega, by go_num, by rw [HF.out], rfl⟩)); (case measure => (simp [intOf]; omega))))
    · obtain rfl : k = plan.length := by omega
      go_wp2
      go_ret
      exact ret_int HE.out B0.out
end Go.Proofs.YtbhkglokdomajaaDoor
