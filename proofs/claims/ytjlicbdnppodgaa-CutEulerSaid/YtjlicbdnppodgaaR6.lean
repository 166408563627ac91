import Derived.Test.YtjlicbdnppodgaaR5
namespace Go.Proofs.Ytjlicbdnppodgaa
open Go.RowKit
/-! The reference: Check, check. -/
theorem find_none {p : Nat → Bool} : ∀ {n : Nat}, (∀ t, t < n → p t = false) → (List.range n).find? p = none := fun {n} h => by
  rw [List.find?_eq_none]
  intro t ht
  rw [h t (List.mem_range.1 ht)]; simp
theorem find_hit {p : Nat → Bool} {j : Nat} (hj : p j = true) (h : ∀ t, t < j → p t = false) : ∀ {n : Nat}, j < n → (List.range n).find? p = some j
  | n + 1, hn => by
    rw [List.range_succ, List.find?_append]
    by_cases e : j = n
    · subst e
      rw [find_none h]
      simp [hj]
    · rw [find_hit hj h (by omega)]; rfl
theorem great_bd {c : Cut} (ok : OkC c) : 0 ≤ greatS c ∧ greatS c ≤ 39 := by
  unfold greatS
  have : ∀ (l : List Int) (n : Int), (∀ x ∈ l, 0 ≤ x ∧ x ≤ 39) → 0 ≤ n ∧ n ≤ 39 → 0 ≤ l.foldl max n ∧ l.foldl max n ≤ 39 := by
    intro l
    induction l with
    | nil => intro n _ h; exact h
    | cons x l ih =>
      intro n h hn
      have hx := h x (List.mem_cons_self ..)
      exact ih (max n x) (fun y hy => h y (List.mem_cons_of_mem _ hy)) (by omega)
  exact this _ _ ok.pc (by omega)
open Classical in
theorem check_bad {c : Cut} (h : cutS c = false) : checkS c = (0, 1) := by unfold checkS; rw [if_pos h]
open Classical in
theorem check_empty {c : Cut} (h : cutS c = true) {j : Nat} (hj : j < (greatS c).toNat) (h0 : cellsS c j = 0) (h1 : ∀ t, t < j → cellsS c (t : Nat) ≠ 0) : checkS c = ((j : Int), 4) := by
  unfold checkS
  rw [if_neg (by rw [h]; simp), find_hit (p := fun k : Nat => cellsS c (k : Int) == 0) (by simp [h0]) (fun t ht => by simp [h1 t ht]) hj]
open Classical in
theorem check_parts {c : Cut} (h : cutS c = true) (h1 : ∀ t, t < (greatS c).toNat → cellsS c (t : Nat) ≠ 0) {j : Nat} (hj : j < (greatS c).toNat + 1) (h2 : wholeB c j = false) (h3 : ∀ t, t < j → wholeB c (t : Nat) = true) : checkS c = ((j : Int), 6) := by
  unfold checkS
  rw [if_neg (by rw [h]; simp), find_none (p := fun k : Nat => cellsS c (k : Int) == 0) (fun t ht => by simp [h1 t ht])]
  dsimp only
  rw [find_hit (j := j) (by rw [decide_eq_true_iff, ← wholeB_iff, h2]; simp) (fun t ht => by rw [decide_eq_false_iff_not, ← wholeB_iff, h3 t ht]; simp) hj]
open Classical in
theorem check_good {c : Cut} (h : cutS c = true) (h1 : ∀ t, t < (greatS c).toNat → cellsS c (t : Nat) ≠ 0) (h3 : ∀ t, t < (greatS c).toNat + 1 → wholeB c (t : Nat) = true) : checkS c = (greatS c + 1, 0) := by
  unfold checkS
  rw [if_neg (by rw [h]; simp), find_none (p := fun k : Nat => cellsS c (k : Int) == 0) (fun t ht => by simp [h1 t ht])]
  dsimp only
  rw [find_none (fun t ht => by rw [decide_eq_false_iff_not, ← wholeB_iff, h3 t ht]; simp)]
noncomputable def checkV (c : Cut) : Value := .tuple #[.int .i64 (checkS c).1, .int .i64 (checkS c).2]
def RC1 (c : Cut) (V : World) (iv : Value) (W' : World) : Prop := ∃ j : Nat, j ≤ (greatS c).toNat ∧ iv = .int .i64 j ∧ (∀ t, t < j → cellsS c (t : Nat) ≠ 0) ∧ Below V.heap.size V W'
def RC2 (c : Cut) (V : World) (iv : Value) (W' : World) : Prop := ∃ j : Nat, j ≤ (greatS c).toNat + 1 ∧ iv = .int .i64 j ∧ (∀ t, t < j → wholeB c (t : Nat) = true) ∧ Below V.heap.size V W'
set_option maxHeartbeats 4000000 in
theorem Check_any (c : Cut) (w : World) (hr : CutAt w w.heap.size c) : Calls Try.prog 15 #[.agg #[.int .i64 c.wide, .int .i64 c.high, .slice c.A c.piece.length c.c]] w (Ret (checkV c) w) := by
  have HX := Lib.hid (Bx.new w #[.int .i64 c.wide, .int .i64 c.high, .slice c.A c.piece.length c.c] 24)
  have HB := Lib.hid (nxA w (.cells #[.int .i64 c.wide, .int .i64 c.high, .slice c.A c.piece.length c.c] 24))
  have HR := Lib.hid (hr.next HB.out)
  have HV := Lib.hid (show checkV c = .tuple #[.int .i64 (checkS c).1, .int .i64 (checkS c).2] from rfl)
  clear hr
  go_enter Try.func15, Try.ntmps15
  go_upto_region 1 with fail
  generalize (w.alloc (.cells #[.int .i64 c.wide, .int .i64 c.high, .slice c.A c.piece.length c.c] 24)) = V at *
  have c0 := HX.out.c 0 _ rfl
  have c1 := HX.out.c 1 _ rfl
  have c2 := HX.out.c 2 _ rfl
  go_wp2_with fail
  refine (Cut_any c V HR.out).mono ?_
  rintro e V2 ⟨rfl, hb⟩
  clear c0 c1 c2
  have HX2 := Lib.hid (HX.out.next hb)
  have HR2 := Lib.hid (HR.out.next hb)
  have HB2 := Lib.hid (HB.out.trans (hb.mono HB.out.size))
  clear HX HR HB hb
  cases hc : cutS c
  · have HC := Lib.hid (check_bad hc)
    clear hc
    go_wp2_with fail
    go_ret2
    exact ⟨by rw [HV.out, HC.out]; rfl, HB2.out⟩
  have ok := (okc_iff c).1 hc
  have hg := great_bd ok
  have OK := Lib.hid ok
  have HC := Lib.hid hc
  have HN := Lib.hid (show (((greatS c).toNat : Nat) : Int) = greatS c by omega)
  clear ok hc
  go_wp2_with fail
  go_loopw [4] (fun i wr => RC1 c V2 i wr) (fun i _ => (greatS c).toNat - (intOf i).toNat)
  case atStart => exact ⟨0, by omega, rfl, fun t ht => by omega, Below.refl _ _⟩
  case round =>
    obtain ⟨j, hj, rfl, hall, hb⟩ := hrel
    generalize wr = W1 at *
    have c0 := (HX2.out.next hb).c 0 _ rfl
    have c1 := (HX2.out.next hb).c 1 _ rfl
    have c2 := (HX2.out.next hb).c 2 _ rfl
    have HALL := Lib.hid hall
    have HBj := Lib.hid hb
    clear hall hb
    go_wp2_with fail
    refine (Greatest_any c W1 (HR2.out.next HBj.out)).mono ?_
    rintro e W2 ⟨rfl, hb2⟩
    have HBk := Lib.hid (HBj.out.trans (hb2.mono HBj.out.size))
    clear hb2 c0 c1 c2
    have c0 := (HX2.out.next HBk.out).c 0 _ rfl
    have c1 := (HX2.out.next HBk.out).c 1 _ rfl
    have c2 := (HX2.out.next HBk.out).c 2 _ rfl
    by_cases hlt : j < (greatS c).toNat
    · have hlI : (j : Int) < greatS c := by omega
      go_wp2_with fail
      refine (Cells_any c j W2 (HR2.out.next HBk.out)).mono ?_
      rintro e W3 ⟨rfl, hb3⟩
      have HBl := Lib.hid (HBk.out.trans (hb3.mono HBk.out.size))
      clear hb3 c0 c1 c2
      by_cases h0 : cellsS c (j : Int) = 0
      · have HC2 := Lib.hid (check_empty HC.out hlt h0 HALL.out)
        go_wp2_with fail
        go_ret2
        exact ⟨by rw [HV.out, HC2.out]; rfl, HB2.out.trans (HBl.out.mono HB2.out.size)⟩
      · have H0 := Lib.hid h0
        have e1 : (((cellsS c (j : Int) : Nat) : Int) == 0) = false := by simp; exact h0
        clear h0
        go_wp2_with fail
        go_roundw
        case rel => exact ⟨j + 1, by omega, by go_num, fun t ht => by
          by_cases e : t = j
          · subst e; exact H0.out
          · exact HALL.out t (by omega), HBl.out⟩
        case measure => simp [intOf]; omega
    · have hje : j = (greatS c).toNat := by omega
      have hlI : ¬ (j : Int) < greatS c := by omega
      have HA2 := Lib.hid (show ∀ t, t < (greatS c).toNat → cellsS c (t : Nat) ≠ 0 from fun t ht => HALL.out t (by omega))
      clear HALL hje
      clear c0 c1 c2
      go_wp2_with fail
      go_loopw [5] (fun i wr => RC2 c W2 i wr) (fun i _ => (greatS c).toNat + 1 - (intOf i).toNat)
      case atStart => exact ⟨0, by omega, rfl, fun t ht => by omega, Below.refl _ _⟩
      case round =>
        obtain ⟨q, hq, rfl, hall, hb⟩ := hrel
        generalize wr = Y1 at *
        have HALL := Lib.hid hall
        have HBj := Lib.hid (HBk.out.trans (hb.mono HBk.out.size))
        have HBY := Lib.hid hb
        clear hall hb
        have c0 := (HX2.out.next HBj.out).c 0 _ rfl
        have c1 := (HX2.out.next HBj.out).c 1 _ rfl
        have c2 := (HX2.out.next HBj.out).c 2 _ rfl
        go_wp2_with fail
        refine (Greatest_any c Y1 (HR2.out.next HBj.out)).mono ?_
        rintro e Y2 ⟨rfl, hb2⟩
        replace HBY := Lib.hid (HBY.out.trans (hb2.mono HBY.out.size))
        replace HBj := Lib.hid (HBj.out.trans (hb2.mono HBj.out.size))
        clear hb2 c0 c1 c2
        have c0 := (HX2.out.next HBj.out).c 0 _ rfl
        have c1 := (HX2.out.next HBj.out).c 1 _ rfl
        have c2 := (HX2.out.next HBj.out).c 2 _ rfl
        by_cases hlq : q < (greatS c).toNat + 1
        · have hlI2 : (q : Int) ≤ greatS c := by omega
          go_wp2_with fail
          refine (Whole_any c q Y2 OK.out (HR2.out.next HBj.out)).mono ?_
          rintro e Y3 ⟨rfl, hb3⟩
          replace HBY := Lib.hid (HBY.out.trans (hb3.mono HBY.out.size))
          replace HBj := Lib.hid (HBj.out.trans (hb3.mono HBj.out.size))
          clear hb3 c0 c1 c2
          cases hw : wholeB c (q : Int)
          · have HC2 := Lib.hid (check_parts HC.out HA2.out hlq hw HALL.out)
            clear hw
            go_wp2_with fail
            go_ret2
            exact ⟨by rw [HV.out, HC2.out]; rfl, HB2.out.trans (HBj.out.mono HB2.out.size)⟩
          · have HW := Lib.hid hw
            clear hw
            go_wp2_with fail
            go_roundw
            case rel => exact ⟨q + 1, by omega, by go_num, fun t ht => by
              by_cases e : t = q
              · subst e; exact HW.out
              · exact HALL.out t (by omega), HBY.out⟩
            case measure => simp [intOf]; omega
        · have hlI2 : ¬ (q : Int) ≤ greatS c := by omega
          have HC2 := Lib.hid (check_good HC.out HA2.out (fun t ht => HALL.out t (by omega)))
          go_wp2_with fail
          refine (Greatest_any c Y2 (HR2.out.next HBj.out)).mono ?_
          rintro e Y3 ⟨rfl, hb3⟩
          replace HBj := Lib.hid (HBj.out.trans (hb3.mono HBj.out.size))
          clear hb3 c0 c1 c2
          go_wp2_with fail
          go_ret2
          exact ⟨by rw [HV.out, HC2.out]; rfl, HB2.out.trans (HBj.out.mono HB2.out.size)⟩
end Go.Proofs.Ytjlicbdnppodgaa
