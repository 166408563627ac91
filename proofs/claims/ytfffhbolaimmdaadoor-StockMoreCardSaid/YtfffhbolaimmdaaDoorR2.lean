import Derived.Test.YtfffhbolaimmdaaDoorR1

namespace Go.Proofs.YtfffhbolaimmdaaDoor
open Go.RowKit
def R58i (m : Make) (w0 : World) (bl : Nat) (s : Store) (i : Value) (w : World) : Prop := ∃ k : Nat, k ≤ m.takes.length ∧ i = .int .i64 k ∧ Below w0.heap.size w0 w ∧ SBox w bl s ∧ (m.takes.take k).all tok = true
def R58 (s : Store) (w0 : World) (i : Value) (w : World) : Prop := ∃ k : Nat, k ≤ s.makes.length ∧ i = .int .i64 k ∧ Below w0.heap.size w0 w ∧ SBox w w0.heap.size s ∧ (s.makes.take k).all (Make.ok s.lics.length s.sheets.length) = true
set_option maxHeartbeats 400000 in
theorem made_any (s : Store) (w : World) (hr : StoreAt w w.heap.size s) : Calls Tryd.prog 58 #[.agg #[.slice s.A1 s.sheets.length s.c1, .slice s.A2 s.lics.length s.c2, .slice s.A3 s.makes.length s.c3, .slice s.A4 s.wishes.length s.c4]] w (Ret (.bool (makesS s)) w) := by
  have l1 := hr.l1
  have l2 := hr.l2
  have l3 := hr.l3
  go_enter Tryd.func58, Tryd.ntmps58
  go_wp2
  go_loopw [3] (fun i wr => R58 s w i wr) (fun i _ => s.makes.length - (intOf i).toNat)
  case atStart => exact ⟨0, by omega, rfl, (Below.refl _ _).alloc (Nat.le_refl _) _, SBox.new _ _ _, rfl⟩
  case round =>
    obtain ⟨k, hk, rfl, hb, hbox, hall⟩ := hrel
    obtain ⟨hz, c0, c1, c2, c3⟩ := id hbox
    have Hbox := Lib.hid hbox
    by_cases hlt : k < s.makes.length
    · obtain ⟨b, off, e3, hbk, hcs⟩ := hr.makes.below hb k s.makes[k] (List.getElem?_eq_getElem hlt)
      have h0 := hcs 0 _ rfl
      have h1 := hcs 1 _ rfl
      rw [e3] at c2
      simp only [Nat.add_zero] at h0
      have Ht := Lib.hid (hr.takes _ (List.getElem_mem hlt))
      have Hm := Lib.hid (fun (W : World) (h : Below w.heap.size w W) => hr.makes.below h k s.makes[k] (List.getElem?_eq_getElem hlt))
      have Ha := Lib.hid (all_step hlt hall)
      have Hf := Lib.hid (all_fail (p := Make.ok s.lics.length s.sheets.length) hlt)
      have Hk := Lib.hid (show Make.ok s.lics.length s.sheets.length s.makes[k] = (inS s.makes[k].pic 0 (s.lics.length - 1) && (decide ((s.makes[k].takes.length : Int) = s.sheets.length) && s.makes[k].takes.all tok)) from rfl)
      generalize s.makes[k] = m at *
      have lt := Ht.out.2
      clear hall hr hcs e3 hbox
      rcases chain2 (inS m.pic 0 (s.lics.length - 1)) (decide ((m.takes.length : Int) = s.sheets.length)) with a1 | ⟨a1, a2⟩ | ⟨a1, a2⟩
      · go_wp2_with (go_quiet ((go_at_call 55; first | exact qq (in_any _ _ _ _) | exact qqa (in_any _ _ _ _))))
        go_ret; refine ret_bool ?_ (below_drewN hb _); unfold makesS; rw [Hf.out (by rw [Hk.out]; simp [*])]; rfl
      · have a3 : ((m.takes.length : Int) != s.sheets.length) = true := by rw [bne_iff_ne]; exact of_decide_eq_false a2
        go_wp2_with (go_quiet ((go_at_call 55; first | exact qq (in_any _ _ _ _) | exact qqa (in_any _ _ _ _))))
        go_ret; refine ret_bool ?_ (below_drewN hb _); unfold makesS; rw [Hf.out (by rw [Hk.out, a1, a2]; rfl)]; rfl
      · have a3 : ((m.takes.length : Int) != s.sheets.length) = false := by rw [bne_eq_false_iff_eq]; exact of_decide_eq_true a2
        go_wp2_with (go_quiet ((go_at_call 55; first | exact qq (in_any _ _ _ _) | exact qqa (in_any _ _ _ _))))
        have A1 := Lib.hid a1
        clear a3 a1
        obtain ⟨wo, hwo⟩ : ∃ wo : World, wo = wr.drewN nq := ⟨_, rfl⟩
        have hbo : Below wr.heap.size wr wo := by rw [hwo]; exact below_drewN (Below.refl _ _) _
        rw [← hwo]
        have Hbox' := Lib.hid (Hbox.out.next hbo)
        clear hwo
        go_loopw [4] (fun i wr => R58i m wo w.heap.size s i wr) (fun i _ => m.takes.length - (intOf i).toNat)
        case atStart => exact ⟨0, by omega, rfl, Below.refl _ _, Hbox'.out, rfl⟩
        case round =>
          obtain ⟨j, hj, rfl, hb2, hbox2, hall2⟩ := hrel
          have hbw : Below w.heap.size w wr := hb.trans ((hbo.trans (hb2.mono hbo.size)).mono hb.size)
          have k2 := hbox2.c2
          obtain ⟨b', off', e3, hbk', hcs'⟩ := Hm.out wr hbw
          have g1 := hcs' 1 _ rfl
          rw [e3] at k2
          have Hbox2 := Lib.hid hbox2
          clear e3 hcs' hbox2
          by_cases hlt2 : j < m.takes.length
          · obtain ⟨b2, off2, e5, hbk2, t0⟩ := (Ht.out.1.below hbw).int hlt2
            rw [e5] at g1
            have htk : tok m.takes[j] = inS (m.takes.getD j 0) 0 20 := by rw [List.getD_eq_getElem?_getD, List.getElem?_eq_getElem hlt2]; rfl
            have Ha2 := Lib.hid (all_step hlt2 hall2)
            have Hf2 := Lib.hid (all_fail (p := tok) hlt2)
            rw [htk] at Ha2 Hf2
            generalize m.takes.getD j 0 = x at *
            clear e5 hall2 htk
            cases a4 : inS x 0 20
            · go_wp2_with (go_at_call 55; (with_reducible refine (in_any _ _ _ _).mono ?_); rintro e w' ⟨rfl, rfl⟩)
              go_ret; refine ret_bool ?_ hbw; unfold makesS; rw [Hf.out (by rw [Hk.out, A1.out, a2, Hf2.out a4]; rfl)]; rfl
            · go_wp2_with (go_at_call 55; (with_reducible refine (in_any _ _ _ _).mono ?_); rintro e w' ⟨rfl, rfl⟩)
              all_goals (first | (refine ⟨?_, ?_⟩; (unfold R58i; exact ⟨j + 1, by omega, by go_num, hb2, Hbox2.out, Ha2.out a4⟩); (simp [intOf]; omega)) | (go_roundw; (case rel => (unfold R58i; exact ⟨j + 1, by omega, by go_num, hb2, Hbox2.out, Ha2.out a4⟩)); (case measure => (simp [intOf]; omega))) | (go_round; (case rel => (unfold R58i; exact ⟨j + 1, by omega, by go_num, hb2, Hbox2.out, Ha2.out a4⟩)); (case measure => (simp [intOf]; omega))))
          · have ht := all_full hlt2 hall2
            go_wp2
            all_goals (first | (refine ⟨?_, ?_⟩; (unfold R58; exact ⟨k + 1, by omega, by go_num, hbw, Hbox2.out, Ha.out (by rw [Hk.out, A1.out, a2, ht]; rfl)⟩); (simp [intOf]; omega)) | (go_roundw; (case rel => (unfold R58; exact ⟨k + 1, by omega, by go_num, hbw, Hbox2.out, Ha.out (by rw [Hk.out, A1.out, a2, ht]; rfl)⟩)); (case measure => (simp [intOf]; omega))) | (go_round; (case rel => (unfold R58; exact ⟨k + 1, by omega, by go_num, hbw, Hbox2.out, Ha.out (by rw [Hk.out, A1.out, a2, ht]; rfl)⟩)); (case measure => (simp [intOf]; omega))))
    · go_wp2_with (go_at_call 55; (with_reducible refine (in_any _ _ _ _).mono ?_); rintro e w' ⟨rfl, rfl⟩)
      go_ret
      refine ret_bool ?_ hb
      unfold makesS
      rw [all_full hlt hall]
      simp
end Go.Proofs.YtfffhbolaimmdaaDoor
