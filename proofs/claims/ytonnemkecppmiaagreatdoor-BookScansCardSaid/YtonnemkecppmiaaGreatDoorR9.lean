import Derived.Test.YtonnemkecppmiaaGreatDoorP14
namespace Go.Proofs.YtonnemkecppmiaaGreatDoor
open Go.RowKit
/-! The reference: Sum. -/
theorem bs_row {W : World} {base g cap n : Nat} {t : Tx} (h : W.ownsRow base 5 1 (.slice (some ⟨g, 0, none⟩) n cap) n (Lib.byteCells t)) (hg : g < W.heap.size) : BsAt W W.heap.size (some ⟨g, 0, none⟩) t := fun k x hx => by
  refine ⟨g, 0, rfl, hg, fun j u hu => ?_⟩
  rcases j with _ | j
  · have hu' : u8v x = u := Option.some.inj (show some (u8v x) = some u from hu)
    subst hu'
    have := h.cells (g := g) rfl k (u8v x) (by unfold Lib.byteCells; rw [List.getElem?_map, hx]; rfl)
    rw [show (⟨g, 0, none⟩ : Addr).add k = ⟨g, k, none⟩ by unfold Addr.add; split <;> simp_all] at this
    rw [Nat.zero_add, Nat.mul_one, Nat.add_zero]
    exact this
  · cases hu
set_option maxRecDepth 100000 in
set_option maxHeartbeats 1000000 in
theorem SumR_any (A : Option Addr) (c : Nat) (l : Tx) (w : World) (h : BsAt w w.heap.size A l) (hl : l.length ≤ 1000000) : Calls Tryz.prog 25 #[.slice A l.length c] w (RetQ (u8v (sumB l)) w) := by
  have HL := Lib.hid h
  clear h
  go_enter Tryz.func25, Tryz.ntmps25
  go_wp2
  go_loopw [3, 4] (fun v i wr => RSm l w v i wr) (fun _ i _ => l.length - (intOf i).toNat)
  case atStart => exact ⟨0, by omega, rfl, rfl, rfl⟩
  case round =>
    obtain ⟨k, hk, rfl, rfl, hw⟩ := hrel
    have hw2 := hw.symm
    clear hw
    subst hw2
    by_cases hlt : k < l.length
    · obtain ⟨q, off, hA, hbk, hcs⟩ := HL.out k l[k] (List.getElem?_eq_getElem hlt)
      have hc := hcs 0 _ rfl
      rw [Nat.mul_one, Nat.add_zero] at hc
      have HT := Lib.hid (sumB_take hlt)
      generalize l[k] = x at hc HT
      change _ = some (Value.int .u8 (x.toNat : Int)) at hc
      have hwk : IntKind.i64.wrap ((k : Int) + 1) = (k : Int) + 1 := IntWalk.i64_in _ (by omega)
      have hadd := u8_add (sumB (l.take k)) x
      rw [← HT.out] at hadd
      unfold u8v
      generalize (sumB (l.take k)).toNat = a at hadd ⊢
      have HS := Lib.hid (show (Value.int .u8 ((sumB (l.take (k + 1))).toNat : Int)) = u8v (sumB (l.take (k + 1))) from rfl)
      generalize hb : (sumB (l.take (k + 1))).toNat = b at hadd HS
      have HAD := Lib.hid hadd
      clear hcs hb hadd
      subst hA
      go_wp2_with fail
      (first | (refine ⟨?_, ?_⟩; (unfold RSm; exact ⟨k + 1, by omega, by go_num, by rw [HAD.out]; exact HS.out, rfl⟩); (simp [intOf]; omega)) | (go_roundw; (case rel => (unfold RSm; exact ⟨k + 1, by omega, by go_num, by rw [HAD.out]; exact HS.out, rfl⟩)); (case measure => (simp [intOf]; omega))) | (go_round; (case rel => (unfold RSm; exact ⟨k + 1, by omega, by go_num, by rw [HAD.out]; exact HS.out, rfl⟩)); (case measure => (simp [intOf]; omega))))
    · obtain rfl : k = l.length := by omega
      rw [List.take_length]
      unfold u8v
      go_wp2_with fail
      go_ret
      exact ⟨rfl, rfl⟩
end Go.Proofs.YtonnemkecppmiaaGreatDoor
