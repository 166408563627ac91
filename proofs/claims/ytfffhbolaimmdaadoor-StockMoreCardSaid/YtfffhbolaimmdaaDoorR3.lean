import Derived.Test.YtfffhbolaimmdaaDoorR2

import Derived.Handy
namespace Go.Proofs.YtfffhbolaimmdaaDoor
open Go.RowKit
def R30 (s : Store) (w0 : World) (i : Value) (w : World) : Prop := ∃ k : Nat, k ≤ s.wishes.length ∧ i = .int .i64 k ∧ Below w0.heap.size w0 w ∧ SBox w w0.heap.size s ∧ (s.wishes.take k).all (Wish.ok s.makes.length) = true
set_option maxHeartbeats 400000 in
theorem Store_any (s : Store) (w : World) (hr : StoreAt w w.heap.size s) : Calls Tryd.prog 30 #[.agg #[.slice s.A1 s.sheets.length s.c1, .slice s.A2 s.lics.length s.c2, .slice s.A3 s.makes.length s.c3, .slice s.A4 s.wishes.length s.c4]] w (Ret (.bool (storeS s)) w) := by
  have l1 := hr.l1
  have l2 := hr.l2
  have l3 := hr.l3
  have l4 := hr.l4
  go_enter Tryd.func30, Tryd.ntmps30
  go_wp2
  go_loopw [3] (fun i wr => R30 s w i wr) (fun i _ => s.wishes.length - (intOf i).toNat)
  case atStart => exact ⟨0, by omega, rfl, (Below.refl _ _).alloc (Nat.le_refl _) _, SBox.new _ _ _, rfl⟩
  case round =>
    obtain ⟨k, hk, rfl, hb, hbox, hall⟩ := hrel
    obtain ⟨hz, c0, c1, c2, c3⟩ := id hbox
    have Hbox := Lib.hid hbox
    by_cases hlt : k < s.wishes.length
    · obtain ⟨b, off, e4, hbk, hcs⟩ := hr.wishes.below hb k s.wishes[k] (List.getElem?_eq_getElem hlt)
      have h0 := hcs 0 _ rfl
      have h1 := hcs 1 _ rfl
      have h2 := hcs 2 _ rfl
      have h3 := hcs 3 _ rfl
      have h4 := hcs 4 _ rfl
      rw [e4] at c3
      simp only [Nat.add_zero] at h0
      have Ha := Lib.hid (all_step hlt hall)
      have Hf := Lib.hid (all_fail (p := Wish.ok s.makes.length) hlt)
      have Hk := Lib.hid (show Wish.ok s.makes.length s.wishes[k] = (inS s.wishes[k].puz 0 (s.makes.length - 1) && (inS s.wishes[k].many 1 1000 && (inS s.wishes[k].hour 0 1048576 && (inS s.wishes[k].price 0 10000 && inS s.wishes[k].ship 0 100000)))) from rfl)
      generalize s.wishes[k] = x at *
      have hba := hb.alloc hb.size (.cells #[.int .i64 0, .int .i64 0, .int .i64 0, .int .i64 0, .int .i64 0] 57)
      clear hall hr hcs e4 hbox
      go_wp2_with (go_at_call 55; (with_reducible refine (in_any _ _ _ _).mono ?_); rintro e w' ⟨rfl, rfl⟩; generalize hq : inS _ _ _ = q; cases q)
      all_goals first
        | (go_ret; refine ret_bool ?_ (by go_grown); unfold storeS; rw [Hf.out (by rw [Hk.out]; simp [*])]; rfl)
        | (first | (refine ⟨?_, ?_⟩; (unfold R30; exact ⟨k + 1, by omega, by go_num, by go_grown, Hbox.out.next (by go_grown), Ha.out (by rw [Hk.out]; simp [*])⟩); (simp [intOf]; omega)) | (go_roundw; (case rel => (unfold R30; exact ⟨k + 1, by omega, by go_num, by go_grown, Hbox.out.next (by go_grown), Ha.out (by rw [Hk.out]; simp [*])⟩)); (case measure => (simp [intOf]; omega))) | (go_round; (case rel => (unfold R30; exact ⟨k + 1, by omega, by go_num, by go_grown, Hbox.out.next (by go_grown), Ha.out (by rw [Hk.out]; simp [*])⟩)); (case measure => (simp [intOf]; omega))))
    · have ha := all_full hlt hall
      have hbr : Below wr.heap.size wr wr := Below.refl _ _
      have hr' := Lib.hid (hr.next hb)
      clear hall
      go_wp2_with (first | (go_at_call 56; (with_reducible refine (sheets_any _ _ _ _ (hr'.out.next hbr).sheets l1).mono ?_); rintro e w1 ⟨rfl, hb1⟩; obtain ⟨hc1, hf1⟩ := bcell hb1; have hz1 := hb1.size; replace hbr := hbr.trans (hb1.mono hbr.size); obtain ⟨hcr, hfr⟩ := bcell hbr; generalize hq : sheetsS _ = q; cases q) | (go_at_call 57; (with_reducible refine (licences_any _ _ _ _ (hr'.out.next hbr).lics l2).mono ?_); rintro e w1 ⟨rfl, hb1⟩; obtain ⟨hc1, hf1⟩ := bcell hb1; have hz1 := hb1.size; replace hbr := hbr.trans (hb1.mono hbr.size); obtain ⟨hcr, hfr⟩ := bcell hbr; generalize hq : licsS _ = q; cases q) | (go_at_call 58; (with_reducible refine (made_any _ _ (hr'.out.next hbr)).mono ?_); rintro e w1 ⟨rfl, hb1⟩; obtain ⟨hc1, hf1⟩ := bcell hb1; have hz1 := hb1.size; replace hbr := hbr.trans (hb1.mono hbr.size); obtain ⟨hcr, hfr⟩ := bcell hbr; generalize hq : makesS _ = q; cases q))
      all_goals (go_ret; refine ret_bool ?_ (hb.trans (hbr.mono hb.size)); unfold storeS; rw [ha]; simp [*])
def checkS (s : Store) (st : Int) : Int := if storeS s = true then (if inS st 0 (powI s.wishes.length - 1) = true then 0 else 2) else 1
set_option maxHeartbeats 400000 in
theorem check_any (s : Store) (st : Int) (w : World) (hr : StoreAt w w.heap.size s) : Calls Tryd.prog 37 #[.agg #[.slice s.A1 s.sheets.length s.c1, .slice s.A2 s.lics.length s.c2, .slice s.A3 s.makes.length s.c3, .slice s.A4 s.wishes.length s.c4], .int .i64 st] w (Ret (.int .i64 (checkS s st)) w) := by
  have hr' := Lib.hid (hr.next ((Below.refl _ _).alloc (Nat.le_refl _) (.cells #[.slice s.A1 s.sheets.length s.c1, .slice s.A2 s.lics.length s.c2, .slice s.A3 s.makes.length s.c3, .slice s.A4 s.wishes.length s.c4] 27)))
  have hx := SBox.new w s 27
  have l4 := hr.l4
  have hok : storeS s = true → s.wishes.length ≤ 9 := fun h => ((ok_iff s).1 h).nw
  have Hok := Lib.hid hok
  clear hr hok
  go_enter Tryd.func37, Tryd.ntmps37
  go_wp2_with fail
  refine (Store_any s _ hr'.out).mono ?_
  rintro e w1 ⟨rfl, hb1⟩
  have c3 : w1.cell? ⟨w.heap.size, 3, none⟩ = _ := (hx.next hb1).c3
  have hbb : Below w.heap.size w w1 := ((Below.refl _ _).alloc (Nat.le_refl _) _).trans (hb1.mono (by simp))
  have Hbb := Lib.hid hbb
  clear hb1 hbb hx
  cases hs : storeS s
  · go_wp2_with fail
    go_ret
    exact ret_int (by simp [checkS, hs]) Hbb.out
  · have h9 := Hok.out hs
    have hp := powI_bd (n := s.wishes.length) (by omega)
    go_wp2_with (first | (go_at_call 54; (with_reducible refine (power_any _ (by omega) _).mono ?_); rintro e w' ⟨rfl, rfl⟩) | (go_at_call 55; (with_reducible refine (in_any _ _ _ _).mono ?_); rintro e w' ⟨rfl, rfl⟩; generalize hq : inS _ _ _ = q; cases q))
    all_goals (go_ret; exact ret_int (by simp [checkS, *]) Hbb.out)
end Go.Proofs.YtfffhbolaimmdaaDoor
