import Derived.Test.YtonnemkecppmiaaGreatDoorLx
namespace Go.Proofs.YtonnemkecppmiaaGreatDoor
open Go
/-! Plain: files that are none (BookWrong). -/
theorem rs_wrong {l : List Pc} (h : okPcs l = true) (hn : l.length ≤ 12) {k : Nat} (hk : k < (scanB l).length) (y : UInt8) :
    (y = 0 → rsE ((scanB l).set k ((scanB l).getD k 0 + y)) = 0) ∧ (y ≠ 0 → rsE ((scanB l).set k ((scanB l).getD k 0 + y)) = 11 ∧ rsV ((scanB l).set k ((scanB l).getD k 0 + y)) = []) := by
  obtain ⟨h1, h2⟩ := scanB_len h hn
  constructor
  · rintro rfl
    have e : (scanB l).set k ((scanB l).getD k 0 + 0) = scanB l := by
      rw [UInt8.add_zero, List.getD_eq_getElem?_getD, List.getElem?_eq_getElem hk, Option.getD_some, List.set_getElem_self]
    rw [e]
    exact (rs_scan h hn).2
  · intro hy
    have hs := sum_set hk y
    rw [sum_scan, UInt8.zero_add] at hs
    generalize hT : (scanB l).set k ((scanB l).getD k 0 + y) = T at *
    have hl : T.length = (scanB l).length := by rw [← hT, List.length_set]
    have hne : T ≠ [] := fun e => by rw [e] at hl; simp at hl; omega
    unfold rsE rsV
    rw [if_neg (by omega), if_neg hne, if_pos (by rw [hs]; exact hy), if_pos (.inr (.inr (by rw [hs]; exact hy)))]
    exact ⟨rfl, rfl⟩
theorem rs_cut {l : List Pc} (h : okPcs l = true) (hn : l.length ≤ 12) {k : Nat} (hk : k < (scanB l).length) : (rsE ((scanB l).take k) == 0) = false := by
  have hc := scan_cut h hn hk
  have : rsE ((scanB l).take k) ≠ 0 := by
    unfold rsE
    rw [hc]
    repeat' split
    all_goals first | decide | (rename_i h; cases h)
  simpa using this
theorem rs_more {l : List Pc} (h : okPcs l = true) (hn : l.length ≤ 12) (y : UInt8) : rsE (scanB l ++ [y, 0 - y]) = 8 := by
  obtain ⟨h1, h2⟩ := scanB_len h hn
  have hs : sumB (scanB l ++ [y, 0 - y]) = 0 := by
    rw [show scanB l ++ [y, 0 - y] = (scanB l ++ [y]) ++ [0 - y] by simp, sumB_snoc, sumB_snoc, sum_scan]
    rw [UInt8.zero_add]
    apply UInt8.toNat_inj.1
    rw [UInt8.toNat_add, UInt8.toNat_sub]
    have := y.toNat_lt
    show (_ + (256 - _ + 0) % 256) % 256 = 0
    omega
  have hne : scanB l ++ [y, 0 - y] ≠ [] := by simp
  unfold rsE
  rw [if_neg (by rw [List.length_append]; show ¬ 65536 < _ + 2; omega), if_neg hne, if_neg (by rw [hs]; simp), scan_more h hn (by simp)]
  rfl
theorem dText_nl {d : Pu} : (10 : UInt8) ∈ dText d := by
  unfold dText
  obtain ⟨ws, ls, e⟩ : ∃ ws ls, dL d = ws :: ls := ⟨_, _, rfl⟩
  rw [e, textL_cons]
  simp
theorem rd_cut {d : Pu} (h : okPu d = true) {k : Nat} (hk : k < (dText d).length) : rdE ((dText d).take k) = 8 := by
  have := dText_len h
  unfold rdE
  rw [if_neg (by rw [List.length_take]; omega), cut_none_text h hk]
  rfl
theorem rd_nl {d : Pu} (h : okPu d = true) : rdE (dText d ++ [10]) = 8 := by
  have := dText_len h
  unfold rdE
  rw [if_neg (by rw [List.length_append]; show ¬ 65536 < _ + 1; omega), more_none_text h (by simp)]
  rfl
theorem rd_twice {d : Pu} (h : okPu d = true) : rdE (dText d ++ dText d) = 8 := by
  have := dText_len h
  unfold rdE
  rw [if_neg (by rw [List.length_append]; omega), more_none_text h dText_nl]
  rfl
theorem wrD_ok {d : Pu} (h : (wrD d).2 = 0) : okPu d = true ∧ (wrD d).1 = dText d := by
  unfold wrD at h ⊢
  by_cases k : okPu d = true
  · rw [if_pos k]; exact ⟨k, rfl⟩
  · rw [if_neg k] at h; cases h
theorem byte_of {x : Int} (h : (Lit.int .u8 x).wf = true) : ∃ y : UInt8, x = (y.toNat : Int) := by
  simp [Lit.wf, IntKind.min, IntKind.max, IntKind.bits, IntKind.signed] at h
  refine ⟨UInt8.ofNat x.toNat, ?_⟩
  rw [UInt8.toNat_ofNat']
  omega
end Go.Proofs.YtonnemkecppmiaaGreatDoor
