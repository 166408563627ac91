import Derived.Test.YtbhkglokdomajaaDoorW0
import Derived.Test.YtbhkglokdomajaaDoorS1
namespace Go.Proofs.YtbhkglokdomajaaDoor
open Go.RowKit
def spv (p : Int × Int) : List Value := [.int .i64 p.1, .int .i64 p.2]
theorem take_eq_step {α : Type} {l l' : List α} {k : Nat} (h1 : k < l.length) (h2 : k < l'.length) (h : l.take k = l'.take k) (e : l[k] = l'[k]) : l.take (k + 1) = l'.take (k + 1) := by
  rw [List.take_succ_eq_append_getElem h1, List.take_succ_eq_append_getElem h2, h, e]
theorem getD_get {α : Type} {l : List α} {k : Nat} (h : k < l.length) (d : α) : l.getD k d = l[k] := by
  rw [List.getD_eq_getElem?_getD, List.getElem?_eq_getElem h]; rfl
def R18 {α : Type} (l l' : List α) (w0 : World) (i : Value) (w : World) : Prop := ∃ k : Nat, k ≤ l.length ∧ i = .int .i64 k ∧ l.take k = l'.take k ∧ ∃ n, w = w0.drewN n
set_option maxHeartbeats 400000 in
theorem Ints_any (l l' : List Int) (A A' : Option Addr) (c c' : Nat) (w : World) (h : At w w.heap.size 1 icell A l) (h' : At w w.heap.size 1 icell A' l') (hl : l.length ≤ 1000) (hl' : l'.length ≤ 1000) :
    Calls Tryd.prog 23 #[.slice A l.length c, .slice A' l'.length c'] w (Ret (.bool (decide (l = l'))) w) := by
  by_cases hlen : l.length = l'.length
  · have hn : ((l.length : Int) != (l'.length : Int)) = false := by rw [bne_eq_false_iff_eq]; omega
    have Hl := Lib.hid hlen
    clear hlen
    go_enter Tryd.func23, Tryd.ntmps23
    go_wp2
    clear hn
    go_loopw [5] (fun i wr => R18 l l' w i wr) (fun i _ => l.length - (intOf i).toNat)
    case atStart => exact ⟨0, by omega, rfl, rfl, 0, rfl⟩
    case round =>
      obtain ⟨k, hk, rfl, heq, nd, rfl⟩ := hrel
      by_cases hlt : k < l.length
      · obtain ⟨b, off, rfl, hb, hc⟩ := int_at h hlt
        obtain ⟨b', off', rfl, hb', hc'⟩ := int_at h' (k := k) (by rw [← Hl.out]; exact hlt)
        have hlt' : k < l'.length := by rw [← Hl.out]; exact hlt
        rw [getD_get hlt] at hc
        rw [getD_get hlt'] at hc'
        have Hs := Lib.hid (take_eq_step hlt hlt' heq)
        have Hne := Lib.hid (show l[k] ≠ l'[k] → l ≠ l' from fun hne e => hne (by subst e; rfl))
        generalize l[k] = x at *
        generalize l'[k] = y at *
        clear h h' heq
        by_cases hxy : x = y
        · have h1 : (x != y) = false := by rw [bne_eq_false_iff_eq]; exact hxy
          have Hxy := Lib.hid hxy
          clear hxy
          go_wp2_with (go_quiet (fail))
          all_goals (first | (refine ⟨?_, ?_⟩; (unfold R18; exact ⟨k + 1, by omega, by go_num, Hs.out Hxy.out, _, rfl⟩); (simp [intOf]; omega)) | (go_roundw; (case rel => (unfold R18; exact ⟨k + 1, by omega, by go_num, Hs.out Hxy.out, _, rfl⟩)); (case measure => (simp [intOf]; omega))) | (go_round; (case rel => (unfold R18; exact ⟨k + 1, by omega, by go_num, Hs.out Hxy.out, _, rfl⟩)); (case measure => (simp [intOf]; omega))))
        · have h1 : (x != y) = true := by rw [bne_iff_ne]; exact hxy
          go_wp2_with (go_quiet (fail))
          go_ret
          exact ret_bool (by simp [Hne.out hxy]) (below_drewN (below_drewN (Below.refl _ _) _) _)
      · have e : l = l' := by
          have h1 : l.take k = l := List.take_of_length_le (by omega)
          have h2 : l'.take k = l' := List.take_of_length_le (by have := Hl.out; omega)
          rw [← h1, ← h2, heq]
        have He := Lib.hid e
        clear e
        go_wp2
        go_ret
        exact ret_bool (by simp [He.out]) (below_drewN (Below.refl _ _) _)
  · have hn : ((l.length : Int) != (l'.length : Int)) = true := by rw [bne_iff_ne]; omega
    have Hl := Lib.hid hlen
    clear hlen
    go_enter Tryd.func23, Tryd.ntmps23
    go_wp2
    go_ret
    exact ret_bool (by rw [eq_comm, decide_eq_false_iff_not]; intro e; exact Hl.out (by rw [e])) (Below.refl _ _)
theorem At.pair {w : World} {B : Nat} {A : Option Addr} {l : List (Int × Int)} (h : At w B 2 spv A l) {k : Nat} (hk : k < l.length) :
    ∃ b off, A = some ⟨b, off, none⟩ ∧ b < B ∧ w.cell? ⟨b, off + k * 2, none⟩ = some (.int .i64 l[k].1) ∧ w.cell? ⟨b, off + k * 2 + 1, none⟩ = some (.int .i64 l[k].2) := by
  obtain ⟨b, off, e, hb, hc⟩ := h k l[k] (List.getElem?_eq_getElem hk)
  exact ⟨b, off, e, hb, hc 0 _ rfl, hc 1 _ rfl⟩
set_option maxHeartbeats 400000 in
theorem Spans_any (l l' : List (Int × Int)) (A A' : Option Addr) (c c' : Nat) (w : World) (h : At w w.heap.size 2 spv A l) (h' : At w w.heap.size 2 spv A' l') (hl : l.length ≤ 1000) (hl' : l'.length ≤ 1000) :
    Calls Tryd.prog 22 #[.slice A l.length c, .slice A' l'.length c'] w (Ret (.bool (decide (l = l'))) w) := by
  by_cases hlen : l.length = l'.length
  · have hn : ((l.length : Int) != (l'.length : Int)) = false := by rw [bne_eq_false_iff_eq]; omega
    have Hl := Lib.hid hlen
    clear hlen
    go_enter Tryd.func22, Tryd.ntmps22
    go_wp2
    clear hn
    go_loopw [5] (fun i wr => R18 l l' w i wr) (fun i _ => l.length - (intOf i).toNat)
    case atStart => exact ⟨0, by omega, rfl, rfl, 0, rfl⟩
    case round =>
      obtain ⟨k, hk, rfl, heq, nd, rfl⟩ := hrel
      by_cases hlt : k < l.length
      · have hlt' : k < l'.length := by rw [← Hl.out]; exact hlt
        obtain ⟨b, off, rfl, hb, hc, hd⟩ := h.pair hlt
        obtain ⟨b', off', rfl, hb', hc', hd'⟩ := h'.pair hlt'
        have Hs := Lib.hid (take_eq_step hlt hlt' heq)
        have Hne := Lib.hid (show l[k] ≠ l'[k] → l ≠ l' from fun hne e => hne (by subst e; rfl))
        generalize l[k] = x at *
        generalize l'[k] = y at *
        clear h h' heq
        obtain ⟨x1, x2⟩ := x
        obtain ⟨y1, y2⟩ := y
        simp only at hc hd hc' hd'
        have hq1 := span_eq3
        have hq := fun W => span_neq x1 x2 y1 y2 W
        by_cases hxy : x1 = y1 ∧ x2 = y2
        · have h1 : (x1 == y1 && x2 == y2) = true := by simp [hxy]
          rw [h1] at hq
          have Hxy := Lib.hid (show (x1, x2) = (y1, y2) by rw [hxy.1, hxy.2])
          clear hxy h1
          go_wp2_with (go_quiet (fail))
          all_goals (first | (refine ⟨?_, ?_⟩; (unfold R18; exact ⟨k + 1, by omega, by go_num, Hs.out Hxy.out, _, rfl⟩); (simp [intOf]; omega)) | (go_roundw; (case rel => (unfold R18; exact ⟨k + 1, by omega, by go_num, Hs.out Hxy.out, _, rfl⟩)); (case measure => (simp [intOf]; omega))) | (go_round; (case rel => (unfold R18; exact ⟨k + 1, by omega, by go_num, Hs.out Hxy.out, _, rfl⟩)); (case measure => (simp [intOf]; omega))))
        · have h1 : (x1 == y1 && x2 == y2) = false := by
            rw [Bool.eq_false_iff]; intro h; simp at h; exact hxy h
          rw [h1] at hq
          have Hxy := Lib.hid (show (x1, x2) ≠ (y1, y2) from fun e => hxy (by injection e with a b; exact ⟨a, b⟩))
          clear hxy h1
          go_wp2_with (go_quiet (fail))
          go_ret
          exact ret_bool (by simp [Hne.out Hxy.out]) (below_drewN (below_drewN (Below.refl _ _) _) _)
      · have e : l = l' := by
          have h1 : l.take k = l := List.take_of_length_le (by omega)
          have h2 : l'.take k = l' := List.take_of_length_le (by have := Hl.out; omega)
          rw [← h1, ← h2, heq]
        have He := Lib.hid e
        clear e
        go_wp2
        go_ret
        exact ret_bool (by simp [He.out]) (below_drewN (Below.refl _ _) _)
  · have hn : ((l.length : Int) != (l'.length : Int)) = true := by rw [bne_iff_ne]; omega
    have Hl := Lib.hid hlen
    clear hlen
    go_enter Tryd.func22, Tryd.ntmps22
    go_wp2
    go_ret
    exact ret_bool (by rw [eq_comm, decide_eq_false_iff_not]; intro e; exact Hl.out (by rw [e])) (Below.refl _ _)
end Go.Proofs.YtbhkglokdomajaaDoor
