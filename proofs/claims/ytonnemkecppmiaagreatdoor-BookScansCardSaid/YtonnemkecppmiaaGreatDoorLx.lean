import Derived.Test.YtonnemkecppmiaaGreatDoorP15
import Derived.Test.YtonnemkecppmiaaGreatDoorP11
import Derived.Test.YtonnemkecppmiaaGreatDoorQ11
import Derived.Test.YtonnemkecppmiaaGreatDoorQ15
import Derived.Test.YtonnemkecppmiaaGreatDoorQ12
namespace Go.Proofs.YtonnemkecppmiaaGreatDoor
open Go
/-! Plain laws of what the writers hand back. -/
theorem wrS_ok {l : List Pc} (h : (wrS l).2 = 0) : l.length ≤ 12 ∧ okPcs l = true ∧ (wrS l).1 = scanB l := by
  unfold wrS at h ⊢
  by_cases a : 12 < l.length
  · rw [if_pos a] at h; cases h
  · rw [if_neg a] at h ⊢
    cases b : okPcs l
    · rw [if_pos b] at h; cases h
    · rw [if_neg (by decide)]; exact ⟨by omega, rfl, rfl⟩
theorem wrL_ok {l : List Wo} (h : (wrL l).2 = 0) : checkW l = 0 ∧ (wrL l).1 = logT l := by
  unfold wrL at h ⊢
  by_cases a : checkW l = 0
  · rw [if_pos a]; exact ⟨a, rfl⟩
  · rw [if_neg a] at h; exact (a h).elim
theorem wrS_pos {l : List Pc} (h : (wrS l).2 = 0) : 0 < (wrS l).1.length := by
  obtain ⟨a1, a2, a3⟩ := wrS_ok h
  rw [a3]
  have := (scanB_len a2 a1).2
  omega
theorem cv_wx {w : World} {base : Nat} {v : Value} {t : Tx} (h : w.ownsRow base 5 1 v t.length (Lib.byteCells t)) (h0 : 0 < t.length) : (convert 37 9 v).run Tryz.prog w = .ok (tx t) w := by
  obtain ⟨g, cap, e, -⟩ := h.form h0
  subst e
  exact cv_own rfl h
theorem lg_glen : ∀ (l : List Wo) (last : Int), 0 ≤ last → (∀ w ∈ l, okWo w = true ∧ last ≤ w.minute) → l.Pairwise (fun x y => x.minute ≤ y.minute) → ∀ ws ∈ lgL last l, (glue 32 ws).length ≤ 30
  | [], _, _, _, _ => fun ws h => by cases h
  | x :: l, last, h0, h, hp => fun ws hw => by
    obtain ⟨h1, h2⟩ := h x (List.mem_cons_self ..)
    unfold okWo at h1
    simp only [Bool.and_eq_true, inP_iff, okSp_iff] at h1
    obtain ⟨a1, a2, a3⟩ := h1
    obtain ⟨p1, p2⟩ := List.pairwise_cons.1 hp
    have hw : ws ∈ [whenT last x.minute, Lib.itoa x.team, spT x.got] :: lgL x.minute l := hw
    rcases List.mem_cons.1 hw with rfl | hw
    · have b := itoa_len (n := x.team) (by omega) (by omega)
      have c := spT_len (s := x.got) (by omega) (by omega) (by omega)
      have d : (whenT last x.minute).length ≤ 6 := by
        unfold whenT
        split
        · have := itoa_len (n := x.minute - last) (by omega) (by omega)
          rw [List.length_cons]; omega
        · decide
      show (whenT last x.minute ++ 32 :: (Lib.itoa x.team ++ 32 :: spT x.got)).length ≤ 30
      simp only [List.length_append, List.length_cons]
      omega
    · exact lg_glen l x.minute (by omega) (fun y hy => ⟨(h y (List.mem_cons_of_mem _ hy)).1, p1 y hy⟩) p2 ws hw
theorem log_len {l : List Wo} (h : checkW l = 0) : (logT l).length ≤ 1240 := by
  obtain ⟨h1, h2, h3⟩ := check_zero.1 h
  have h2' := List.all_eq_true.1 h2
  have := textL_len_le 30 (ls := lgL 0 l) (lg_glen l 0 (by omega) (fun w hw => ⟨h2' w hw, by
    have := h2' w hw
    unfold okWo at this
    simp only [Bool.and_eq_true, inP_iff] at this
    omega⟩) (sortW_iff.1 h3))
  rw [lgL_len] at this
  unfold logT
  omega
theorem count_lines : ∀ {ls : List (List Tx)}, (∀ ws ∈ ls, (10 : UInt8) ∉ glue 32 ws) → (textL ls).count 10 = ls.length
  | [], _ => rfl
  | ws :: ls, h => by
    rw [textL_cons, List.count_append, List.count_cons_self, List.count_eq_zero.2 (h ws (List.mem_cons_self ..)), count_lines (fun x hx => h x (List.mem_cons_of_mem _ hx)), List.length_cons]
    omega
theorem log_count {l : List Wo} (h : checkW l = 0) : (logT l).count 10 = l.length := by
  obtain ⟨h1, h2, h3⟩ := check_zero.1 h
  have h2' := List.all_eq_true.1 h2
  have hk := lgL_ok l 0 h2 h3 (fun y hy => by
    have := h2' y (List.mem_of_mem_head? hy)
    unfold okWo at this
    simp only [Bool.and_eq_true, inP_iff] at this
    omega)
  unfold logT
  rw [count_lines (fun ws hw => glue_no10 fun w hw' => ((hk ws hw).2 w hw').2), lgL_len]
theorem At.take {α : Type} {w : World} {B size : Nat} {cells : α → List Value} {A : Option Addr} {l : List α} (h : At w B size cells A l) (k : Nat) : At w B size cells A (l.take k) :=
  fun j x hx => h j x (by
    rw [List.getElem?_take] at hx
    split at hx
    · exact hx
    · cases hx)
/-- What is read of a log that was written. -/
theorem rl_log {l : List Wo} (h : checkW l = 0) : rlV (logT l) = l ∧ rlE (logT l) = 0 := by
  have hr : readLg (logT l) = some l := readLg_iff.2 ⟨h, rfl⟩
  have := log_len h
  unfold rlV rlE
  rw [if_neg (by omega), if_neg (by omega), hr]
  exact ⟨rfl, rfl⟩
theorem rd_text {d : Pu} (h : okPu d = true) : rdV (dText d) = d ∧ rdE (dText d) = 0 := by
  have hr : readD (dText d) = some d := readD_iff.2 ⟨h, rfl⟩
  have := dText_len h
  unfold rdV rdE
  rw [if_neg (by omega), if_neg (by omega), hr]
  exact ⟨rfl, rfl⟩
theorem rs_scan {l : List Pc} (h : okPcs l = true) (hn : l.length ≤ 12) : rsV (scanB l) = l ∧ rsE (scanB l) = 0 := by
  have hr : readS (scanB l) = some l := readS_iff.2 ⟨h, hn, rfl⟩
  obtain ⟨h1, h2⟩ := scanB_len h hn
  have hne : scanB l ≠ [] := fun e => by rw [e] at h2; simp at h2
  unfold rsV rsE
  rw [if_neg (by rw [sum_scan]; simp [hne]; omega), if_neg (by omega), if_neg hne, if_neg (by rw [sum_scan]; simp), hr]
  exact ⟨rfl, rfl⟩
end Go.Proofs.YtonnemkecppmiaaGreatDoor
