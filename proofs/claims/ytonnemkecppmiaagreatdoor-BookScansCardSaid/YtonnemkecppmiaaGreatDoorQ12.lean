import Derived.Test.YtonnemkecppmiaaGreatDoorQ11
import Derived.Test.YtonnemkecppmiaaGreatDoorP14
namespace Go.Proofs.YtonnemkecppmiaaGreatDoor
open Go.RowKit
/-! The program: ReadScans. -/
def rsV (t : Tx) : List Pc := if 65536 < t.length ∨ t = [] ∨ sumB t ≠ 0 then [] else (readS t).getD []
def rsE (t : Tx) : Int := if 65536 < t.length then 3 else if t = [] then 8 else if sumB t ≠ 0 then 11 else if (readS t).isSome then 0 else 8
def RetRs (t : Tx) (w : World) (e : Ending) (w' : World) : Prop := ∃ v, e = .returned (.tuple #[v, .int .i64 (rsE t)]) ∧ w'.ownsRow w.heap.size 51 28 v (rsV t).length ((rsV t).flatMap Pc.cells) ∧ Below w.heap.size w w'
set_option maxRecDepth 100000 in
set_option maxHeartbeats 2000000 in
theorem ReadScans_any (A : Option Addr) (c : Nat) (t : Tx) (w : World) (hE : Env w) (h : BsAt w w.heap.size A t) : Calls Tryz.prog 20 #[.slice A t.length c] w (RetRs t w) := by
  have HE := Lib.hid hE
  have HL := Lib.hid h
  clear hE h
  obtain ⟨R, hR⟩ : ∃ R, RetRs t w = R := ⟨_, rfl⟩
  rw [hR]
  have HRR := Lib.hid hR
  clear hR
  have HNO := Lib.hid (show ∀ k : Int, rsV t = [] → rsE t = k → R (.returned (.tuple #[.slice none 0 0, .int .i64 k])) w from fun k h1 h2 => by
    rw [← HRR.out]
    exact ⟨_, by rw [h2], by rw [h1]; exact World.ownsRow_nil _ _ _ _, Below.refl _ _⟩)
  by_cases h1 : 65536 < t.length
  · have HV := Lib.hid (show rsV t = [] from if_pos (.inl h1))
    have HW := Lib.hid (show rsE t = 3 from if_pos h1)
    have d1 : decide ((65536 : Int) < (t.length : Int)) = true := decide_eq_true (by omega)
    clear h1
    go_enter Tryz.func20, Tryz.ntmps20
    go_wp2_with fail
    try go_ret2
    exact HNO.out 3 HV.out HW.out
  · have d1 : decide ((65536 : Int) < (t.length : Int)) = false := decide_eq_false (by omega)
    by_cases h2 : t = []
    · have HV := Lib.hid (show rsV t = [] from if_pos (.inr (.inl h2)))
      have HW := Lib.hid (show rsE t = 8 by unfold rsE; rw [if_neg h1, if_pos h2])
      have d2 : ((t.length : Int) == 0) = true := by rw [h2]; rfl
      clear h1 h2
      go_enter Tryz.func20, Tryz.ntmps20
      go_wp2_with fail
      try go_ret2
      exact HNO.out 8 HV.out HW.out
    · have hpos : 0 < t.length := List.length_pos_iff.2 h2
      have d2 : ((t.length : Int) == 0) = false := by simp [h2]
      have HS := Lib.hid (sum_any A c t w HL.out (by omega))
      by_cases h3 : sumB t ≠ 0
      · have HV := Lib.hid (show rsV t = [] from if_pos (.inr (.inr h3)))
        have HW := Lib.hid (show rsE t = 11 by unfold rsE; rw [if_neg h1, if_neg h2, if_pos h3])
        have hn0 : (sumB t).toNat ≠ 0 := fun e => h3 (UInt8.toNat_inj.1 (by rw [e]; rfl))
        unfold u8v at HS
        generalize (sumB t).toNat = q at *
        have d3 : ((q : Int) != 0) = true := by simp; omega
        clear h1 h2 h3
        go_enter Tryz.func20, Tryz.ntmps20
        go_wp2_with (go_at_call 52; (with_reducible refine (HS.out).mono ?_); rintro e w' ⟨rfl, rfl⟩)
        try go_ret2
        exact HNO.out 11 HV.out HW.out
      · have h30 : sumB t = 0 := Classical.not_not.1 h3
        have HV := Lib.hid (show rsV t = (readS t).getD [] from if_neg (fun h => by rcases h with h | h | h; (exact h1 h); (exact h2 h); (exact h3 h)))
        have HW := Lib.hid (show rsE t = if (readS t).isSome then 0 else 8 by unfold rsE; rw [if_neg h1, if_neg h2, if_neg h3])
        rw [h30] at HS
        unfold u8v at HS
        change Hid (Calls _ _ _ _ (RetQ (.int .u8 ((0 : Nat) : Int)) w)) at HS
        obtain ⟨b, off, hA, hbl, -⟩ := HL.out 0 (t[0]'hpos) (List.getElem?_eq_getElem hpos)
        subst hA
        have hcv : (convert 37 9 (.slice (some ⟨b, off, none⟩) t.length c)).run Tryz.prog w = .ok (tx t) w :=
          run_convert_bytes_back w _ _ _ ⟨b, off, none⟩ c t Tryz.underlying37 Tryz.underlying5 Tryz.underlying9 (fun j hj => by
            obtain ⟨b', off', e, -, hc⟩ := HL.out j (t[j]'hj) (List.getElem?_eq_getElem hj)
            injection e with e
            injection e with e1 e2
            subst e1 e2
            have := hc 0 _ rfl
            rw [Nat.mul_one, Nat.add_zero] at this
            rw [addr_add]
            exact this)
        have HRD := Lib.hid (readPs_any t h1 w HE.out)
        clear h1 h2 h3 h30
        go_enter Tryz.func20, Tryz.ntmps20
        go_wp2_with (go_at_call 52; (with_reducible refine (HS.out).mono ?_); rintro e w' ⟨rfl, rfl⟩)
        refine HRD.out.mono ?_
        rintro e W ⟨v, rfl, hown, hb⟩
        have HO := Lib.hid hown
        have HB := Lib.hid hb
        obtain ⟨k, hk⟩ : ∃ k, (if (readS t).isSome = true then (0 : Int) else 8) = k := ⟨_, rfl⟩
        rw [hk] at HW ⊢
        clear hown hb hcv hk
        go_wp2_with fail
        try go_ret2
        rw [← HRR.out]
        exact ⟨v, by rw [HW.out]; rfl, by rw [HV.out]; exact HO.out, HB.out⟩
end Go.Proofs.YtonnemkecppmiaaGreatDoor
