import Derived.Test.YtonnemkecppmiaaGreatDoorC1
import Derived.Test.YtonnemkecppmiaaGreatDoorRs
import Derived.Test.YtonnemkecppmiaaGreatDoorLx
namespace Go.Proofs.YtonnemkecppmiaaGreatDoor
open Go.RowKit
/-! The law BookScans. -/
theorem rsV_ln (t : Tx) : (rsV t).length ≤ 12 := by
  unfold rsV
  split
  · decide
  · cases e : readS t with
    | none => decide
    | some l => exact (readS_iff.1 e).2.1
set_option maxRecDepth 100000 in
set_option maxHeartbeats 4000000 in
theorem BookScans_walk (A1 : Option Addr) (c1 : Nat) (l : List Pc) (A2 : Option Addr) (c2 : Nat) (t : Tx) (w : World) (hE : Env w) (h1 : At w w.heap.size 28 Pc.cells A1 l) (n1 : l.length ≤ 9223372036854775807) (_ : l.length ≤ c1) (h2 : BsAt w w.heap.size A2 t) (_ : t.length ≤ 9223372036854775807) (hc2 : t.length ≤ c2) : Calls Tryz.prog 4 #[.slice A1 l.length c1, .slice A2 t.length c2] w (Ret (.bool true) w) := by
  have HW := Lib.hid (fun (W : World) (h : At W W.heap.size 28 Pc.cells A1 l) => WriteScans_any A1 c1 l W h n1)
  have HWR := Lib.hid (fun (W : World) (h : At W W.heap.size 28 Pc.cells A1 l) => WriteScansR_any A1 c1 l W h n1)
  have HR := Lib.hid (fun (W : World) (h1 : Env W) (h : BsAt W W.heap.size A2 t) => ReadScans_any A2 c2 t W h1 h)
  have HRR := Lib.hid (fun (W : World) (h : BsAt W W.heap.size A2 t) => ReadScansR_any A2 c2 t W h hc2)
  have HE := Lib.hid hE
  have HB := Lib.hid (Below.refl w.heap.size w)
  have HL := Lib.hid h1
  have HT := Lib.hid h2
  clear hE h1 h2 n1 hc2
  generalize (wrS l).1 = t1 at HW HWR
  generalize (wrS l).2 = e1 at HW HWR
  have hs : (t1 == t1) = true := beq_self_eq_true _
  go_enter Tryz.func4, Tryz.ntmps4
  go_upto_region 1 with fail
  go_cut [25] (fun s wx => (∃ far : Bool, s = .bool far) ∧ wx = w)
  case first =>
    go_wp2_with fail
    all_goals
      go_meet
      exact ⟨⟨_, rfl⟩, rfl⟩
  case rest =>
    obtain ⟨⟨far, rfl⟩, hw⟩ := hcut
    have hw2 := hw.symm
    clear hw
    subst hw2
    cases far
    rotate_left
    ·
      go_wp2_with fail
      refine (alive_any w HE.out).mono ?_
      rintro e W99 ⟨rfl, hb⟩
      go_wp2_with fail
      go_ret
      exact ret_bool rfl (HB.out.trans (hb.mono HB.out.size))
    · skip
      go_wp2_with fail
      refine (HW.out w HL.out).mono ?_
      rintro e W0 ⟨v0, rfl, ho, hb⟩
      replace HE := Lib.hid (HE.out.next hb)
      replace HB := Lib.hid (HB.out.trans (hb.mono HB.out.size))
      replace HL := Lib.hid (HL.out.next hb)
      replace HT := Lib.hid (HT.out.next hb)
      have HO0 := Lib.hid ho
      clear ho
      clear hb
      go_wp2_with fail
      refine (HWR.out W0 HL.out).mono ?_
      rintro e W1 ⟨v1, rfl, ho, hb⟩
      replace HE := Lib.hid (HE.out.next hb)
      replace HB := Lib.hid (HB.out.trans (hb.mono HB.out.size))
      replace HL := Lib.hid (HL.out.next hb)
      replace HT := Lib.hid (HT.out.next hb)
      replace HO0 := Lib.hid (own_below HO0.out hb)
      have HO1 := Lib.hid ho
      clear ho
      clear hb
      go_wp2_with fail
      have hL12 := rsV_ln t
      obtain ⟨L, hL⟩ : ∃ L, rsV t = L := ⟨_, rfl⟩
      rw [hL] at hL12
      have HLV := Lib.hid hL
      clear hL
      refine (HR.out W1 HE.out HT.out).mono ?_
      rintro e W2 ⟨v2, rfl, ho, hb⟩
      replace HE := Lib.hid (HE.out.next hb)
      replace HB := Lib.hid (HB.out.trans (hb.mono HB.out.size))
      replace HL := Lib.hid (HL.out.next hb)
      replace HT := Lib.hid (HT.out.next hb)
      replace HO0 := Lib.hid (own_below HO0.out hb)
      replace HO1 := Lib.hid (own_below HO1.out hb)
      rw [HLV.out] at ho
      obtain ⟨A3, c3, e, ha⟩ := own_at pc_len (by decide) ho
      subst e
      have HA3 := Lib.hid ha
      clear ho ha
      clear hb
      go_wp2_with fail
      refine (HRR.out W2 HT.out).mono ?_
      rintro e W3 ⟨v3, rfl, ho, hb⟩
      replace HE := Lib.hid (HE.out.next hb)
      replace HB := Lib.hid (HB.out.trans (hb.mono HB.out.size))
      replace HL := Lib.hid (HL.out.next hb)
      replace HT := Lib.hid (HT.out.next hb)
      replace HO0 := Lib.hid (own_below HO0.out hb)
      replace HO1 := Lib.hid (own_below HO1.out hb)
      replace HA3 := Lib.hid (HA3.out.next hb)
      rw [HLV.out] at ho
      obtain ⟨A4, c4, e, ha⟩ := own_at pc_len (by decide) ho
      subst e
      have HA4 := Lib.hid ha
      clear ho ha
      clear hb
      have hc0 := cv_row HO0.out
      have hc1 := cv_row HO1.out
      go_wp2_with fail
      refine (SamePieces_any A3 A4 c3 c4 L L W3 HA3.out HA4.out (by omega)).mono ?_
      rintro e W4 ⟨rfl, hb⟩
      replace HE := Lib.hid (HE.out.next hb)
      replace HB := Lib.hid (HB.out.trans (hb.mono HB.out.size))
      replace HL := Lib.hid (HL.out.next hb)
      replace HT := Lib.hid (HT.out.next hb)
      replace HO0 := Lib.hid (own_below HO0.out hb)
      replace HO1 := Lib.hid (own_below HO1.out hb)
      replace HA3 := Lib.hid (HA3.out.next hb)
      replace HA4 := Lib.hid (HA4.out.next hb)
      rw [show decide (L = L) = true from decide_eq_true rfl]
      clear hb
      go_wp2_with fail
      refine (alive_any W4 HE.out).mono ?_
      rintro e W99 ⟨rfl, hb⟩
      go_wp2_with fail
      go_ret
      exact ret_bool rfl (HB.out.trans (hb.mono HB.out.size))
end Go.Proofs.YtonnemkecppmiaaGreatDoor
