import Derived.Test.YtfffhbolaimmdaaDoorA3
namespace Go.Proofs.YtfffhbolaimmdaaDoor
open Go.RowKit
def longMk (m : Make) : Bool := decide (9 < m.takes.length)
def farT (s : Store) : Bool := decide (9 < s.sheets.length) || (decide (10 < s.lics.length) || (decide (11 < s.makes.length) || decide (14 < s.wishes.length)))
def farS (s : Store) : Bool := s.makes.any longMk || farT s
def R12 (s : Store) (w0 : World) (i : Value) (w : World) : Prop := ∃ k : Nat, k ≤ s.makes.length ∧ i = .int .i64 k ∧ (s.makes.take k).any longMk = false ∧ w = w0
theorem any_step {α : Type} {l : List α} {p : α → Bool} {k : Nat} (hk : k < l.length) (h : (l.take k).any p = false) (hp : p l[k] = false) : (l.take (k + 1)).any p = false := by
  rw [List.take_succ_eq_append_getElem hk]; simp only [List.any_append, h, List.any_cons, hp, List.any_nil, Bool.or_self]
theorem any_hit {α : Type} {l : List α} {p : α → Bool} {k : Nat} (hk : k < l.length) (hp : p l[k] = true) : l.any p = true := List.any_eq_true.2 ⟨_, List.getElem_mem hk, hp⟩
theorem any_full {α : Type} {l : List α} {p : α → Bool} {k : Nat} (hk : ¬ k < l.length) (h : (l.take k).any p = false) : l.any p = false := by
  rw [List.take_of_length_le (by omega)] at h; exact h
set_option maxRecDepth 100000 in
set_option maxHeartbeats 400000 in
theorem far_any (s : Store) (w : World) (hr : StoreAt w w.heap.size s) : Calls Tryd.prog 12 #[.agg #[.slice s.A1 s.sheets.length s.c1, .slice s.A2 s.lics.length s.c2, .slice s.A3 s.makes.length s.c3, .slice s.A4 s.wishes.length s.c4]] w (Ret (.bool (farS s)) w) := by
  have l1 := hr.l1
  have l2 := hr.l2
  have l3 := hr.l3
  have l4 := hr.l4
  have hb := (Below.refl w.heap.size w).alloc (Nat.le_refl _) (.cells #[.slice s.A1 s.sheets.length s.c1, .slice s.A2 s.lics.length s.c2, .slice s.A3 s.makes.length s.c3, .slice s.A4 s.wishes.length s.c4] 27)
  have hx := SBox.new w s 27
  have hr' := hr.below hb
  have Hb := Lib.hid hb
  have Hm := Lib.hid hr'.makes
  have Ht := Lib.hid hr.takes
  have HF := Lib.hid (show farS s = (s.makes.any longMk || farT s) from rfl)
  have HT := Lib.hid (show farT s = (decide (9 < s.sheets.length) || (decide (10 < s.lics.length) || (decide (11 < s.makes.length) || decide (14 < s.wishes.length)))) from rfl)
  clear hr hr' hb
  go_enter Tryd.func12, Tryd.ntmps12
  go_wp2_with fail
  generalize (w.alloc (.cells #[.slice s.A1 s.sheets.length s.c1, .slice s.A2 s.lics.length s.c2, .slice s.A3 s.makes.length s.c3, .slice s.A4 s.wishes.length s.c4] 27)) = V at *
  obtain ⟨hz, c0, c1, c2, c3⟩ := id hx
  clear hx
  go_loopw [3] (fun i wr => R12 s V i wr) (fun i _ => s.makes.length - (intOf i).toNat)
  case atStart => exact ⟨0, by omega, rfl, rfl, rfl⟩
  case round =>
    obtain ⟨k, hk, rfl, hall, rfl⟩ := hrel
    by_cases hlt : k < s.makes.length
    · obtain ⟨b, off, e, hbk, hcs⟩ := Hm.out k s.makes[k] (List.getElem?_eq_getElem hlt)
      have m1 := hcs 1 _ rfl
      rw [e] at c2
      have hl := (Ht.out _ (List.getElem_mem hlt)).2
      have Ha := Lib.hid (any_step hlt hall)
      have Hh := Lib.hid (any_hit (p := longMk) hlt)
      have Hd := Lib.hid (show longMk s.makes[k] = decide (9 < s.makes[k].takes.length) from rfl)
      generalize s.makes[k] = m at *
      clear hcs e hall
      by_cases h9 : 9 < m.takes.length
      · have hd : decide (9 < (m.takes.length : Int)) = true := by simp; omega
        go_wp2
        go_ret
        exact ⟨by rw [HF.out, Hh.out (by rw [Hd.out]; simpa using h9)]; rfl, Hb.out⟩
      · have hd : decide (9 < (m.takes.length : Int)) = false := by simp; omega
        go_wp2
        all_goals (first | (refine ⟨?_, ?_⟩; (unfold R12; exact ⟨k + 1, by omega, by go_num, Ha.out (by rw [Hd.out]; simpa using h9), rfl⟩); (simp [intOf]; omega)) | (go_roundw; (case rel => (unfold R12; exact ⟨k + 1, by omega, by go_num, Ha.out (by rw [Hd.out]; simpa using h9), rfl⟩)); (case measure => (simp [intOf]; omega))) | (go_round; (case rel => (unfold R12; exact ⟨k + 1, by omega, by go_num, Ha.out (by rw [Hd.out]; simpa using h9), rfl⟩)); (case measure => (simp [intOf]; omega))))
    · have Ha := Lib.hid (any_full hlt hall)
      clear hall
      by_cases h1 : 9 < s.sheets.length
      · have d1 : decide (9 < (s.sheets.length : Int)) = true := by simp; omega
        go_wp2
        go_ret
        exact ⟨by rw [HF.out, Ha.out, HT.out]; simp [h1], Hb.out⟩
      · have d1 : decide (9 < (s.sheets.length : Int)) = false := by simp; omega
        by_cases h2 : 10 < s.lics.length
        · have d2 : decide (10 < (s.lics.length : Int)) = true := by simp; omega
          go_wp2
          go_ret
          exact ⟨by rw [HF.out, Ha.out, HT.out]; simp [h2], Hb.out⟩
        · have d2 : decide (10 < (s.lics.length : Int)) = false := by simp; omega
          by_cases h3 : 11 < s.makes.length
          · have d3 : decide (11 < (s.makes.length : Int)) = true := by simp; omega
            go_wp2
            go_ret
            exact ⟨by rw [HF.out, Ha.out, HT.out]; simp [h3], Hb.out⟩
          · have d3 : decide (11 < (s.makes.length : Int)) = false := by simp; omega
            by_cases h4 : 14 < s.wishes.length
            · have d4 : decide (14 < (s.wishes.length : Int)) = true := by simp; omega
              go_wp2
              go_ret
              exact ⟨by rw [HF.out, Ha.out, HT.out]; simp [h4], Hb.out⟩
            · have d4 : decide (14 < (s.wishes.length : Int)) = false := by simp; omega
              go_wp2
              go_ret
              exact ⟨by rw [HF.out, Ha.out, HT.out]; simp [h1, h2, h3, h4], Hb.out⟩
end Go.Proofs.YtfffhbolaimmdaaDoor
