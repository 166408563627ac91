import Derived.Test.YtonnemkecppmiaaGreatDoorR3
import Derived.Test.YtonnemkecppmiaaGreatDoorP9
namespace Go.Proofs.YtonnemkecppmiaaGreatDoor
open Go.RowKit
/-! The reference: the file of a drawing. -/
theorem one_eq (d : Pu) : wordD d ++ [32] ++ Lib.itoa d.wide ++ [32] ++ Lib.itoa d.high ++ [10] = textL ((dL d).take 1) := by
  show _ = textL [[wordD d, Lib.itoa d.wide, Lib.itoa d.high]]
  rw [textL_one]; simp [glue]
theorem two_eq (d : Pu) : textL ((dL d).take 1) ++ [112, 108, 97, 121, 32] ++ Lib.itoa d.play.len ++ [32] ++ Lib.itoa d.play.slack ++ [32] ++ Lib.itoa d.play.loose ++ [32] ++ spT d.play.damp ++ [10] = textL ((dL d).take 2) := by
  rw [show (dL d).take 2 = (dL d).take 1 ++ [[wPlay, Lib.itoa d.play.len, Lib.itoa d.play.slack, Lib.itoa d.play.loose, spT d.play.damp]] from rfl, textL_app, textL_one]
  simp [glue, wPlay]
theorem piece_eq {d : Pu} {k : Nat} {p : Pc} (h : d.pieces[k]? = some p) : textL ((dL d).take (2 + 5 * k)) ++ [112, 105, 101, 99, 101, 32] ++ Lib.itoa k ++ [10] = textL ((dL d).take (2 + 5 * k + 1)) := by
  rw [take_one (dL_piece h), textL_app, textL_one]
  simp [glue, wPiece]
theorem side_eq {d : Pu} {k j : Nat} {p : Pc} (h : d.pieces[k]? = some p) (hj : j < 4) : textL ((dL d).take (2 + 5 * k + 1 + j)) ++ edLn (pe p j) = textL ((dL d).take (2 + 5 * k + 1 + (j + 1))) := by
  rw [show 2 + 5 * k + 1 + (j + 1) = 2 + 5 * k + 1 + j + 1 by omega, take_one (dL_edge h hj), textL_app, textL_one]
  rfl
theorem ok_peR {p : Pc} (h : okPc p = true) {j : Nat} (hj : j < 4) : okEd (pe p j) = true := by
  have := okPc_pe p
  rw [h] at this
  simp only [Bool.and_eq_true, Bool.true_eq] at this
  obtain ⟨t0, t1, t2, t3⟩ := this
  match j, hj with
  | 0, _ => exact t0
  | 1, _ => exact t1
  | 2, _ => exact t2
  | 3, _ => exact t3
def RDr (m : Mp) (w0 : World) (b : Nat) (s i : Value) (w : World) : Prop := ∃ (k : Nat) (t : Tx), k ≤ m.d.pieces.length ∧ i = .int .i64 k ∧ s = tx t ∧ t = textL ((dL m.d).take (2 + 5 * k)) ∧ Below w0.heap.size w0 w ∧ Bx w b m.cells
def RDs (m : Mp) (k : Nat) (w0 : World) (s i : Value) (w : World) : Prop := ∃ (j : Nat) (t : Tx), j ≤ 4 ∧ i = .int .i64 j ∧ s = tx t ∧ t = textL ((dL m.d).take (2 + 5 * k + 1 + j)) ∧ Below w0.heap.size w0 w
set_option maxRecDepth 100000 in
set_option maxHeartbeats 8000000 in
theorem drawingR_any (m : Mp) (w : World) (hr : PuAt w w.heap.size m) (hok : okPu m.d = true) : Calls Tryz.prog 36 #[.agg #[.int .i64 m.d.play.len, .int .i64 m.d.play.slack, .int .i64 m.d.play.loose, .int .i64 m.d.play.damp.lo, .int .i64 m.d.play.damp.hi, .int .i64 m.d.wide, .int .i64 m.d.high, .bool m.d.turn, .slice m.A m.d.pieces.length m.c]] w (Ret (tx (dText m.d)) w) := by
  have HX := Lib.hid (Bx.new w #[.int .i64 m.d.play.len, .int .i64 m.d.play.slack, .int .i64 m.d.play.loose, .int .i64 m.d.play.damp.lo, .int .i64 m.d.play.damp.hi, .int .i64 m.d.wide, .int .i64 m.d.high, .bool m.d.turn, .slice m.A m.d.pieces.length m.c] 28)
  have HB := Lib.hid (nxA w (.cells #[.int .i64 m.d.play.len, .int .i64 m.d.play.slack, .int .i64 m.d.play.loose, .int .i64 m.d.play.damp.lo, .int .i64 m.d.play.damp.hi, .int .i64 m.d.wide, .int .i64 m.d.high, .bool m.d.turn, .slice m.A m.d.pieces.length m.c] 28))
  have HR := Lib.hid hr
  obtain ⟨h9, w1, w2, i1, i2, p1, p2, p3, p4, p5, p6, p7, p8, p9, HOP⟩ := okPu_iff' hok
  have HLN := Lib.hid (fun n => Nat.le_trans (take_len (dL m.d) n) (dText_len hok))
  have HTA := Lib.hid (fun W => TextI_any m.d.wide W w1 w2)
  have HTB := Lib.hid (fun W => TextI_any m.d.high W i1 i2)
  have HTC := Lib.hid (fun W => TextI_any m.d.play.len W p1 p2)
  have HTD := Lib.hid (fun W => TextI_any m.d.play.slack W p3 p4)
  have HTE := Lib.hid (fun W => TextI_any m.d.play.loose W p5 p6)
  have HTF := Lib.hid (fun W => Span_any m.d.play.damp W ⟨p7, by omega, by omega, p9⟩)
  have lA := itoa_len w1 w2
  have lB := itoa_len i1 i2
  have lC := itoa_len p1 p2
  have lD := itoa_len p3 p4
  have lE := itoa_len p5 p6
  have lF := spT_len p7 p8 p9
  have HE1 := Lib.hid (one_eq m.d)
  have HE2 := Lib.hid (two_eq m.d)
  have HOK := Lib.hid HOP
  clear hr hok w1 w2 i1 i2 p1 p2 p3 p4 p5 p6 p7 p8 p9 HOP
  generalize Lib.itoa m.d.wide = TA at *
  generalize Lib.itoa m.d.high = TB at *
  generalize Lib.itoa m.d.play.len = TC at *
  generalize Lib.itoa m.d.play.slack = TD at *
  generalize Lib.itoa m.d.play.loose = TE at *
  generalize spT m.d.play.damp = TF at *
  go_enter Tryz.func36, Tryz.ntmps36
  go_upto_region 1 with fail
  generalize (w.alloc (.cells #[.int .i64 m.d.play.len, .int .i64 m.d.play.slack, .int .i64 m.d.play.loose, .int .i64 m.d.play.damp.lo, .int .i64 m.d.play.damp.hi, .int .i64 m.d.wide, .int .i64 m.d.high, .bool m.d.turn, .slice m.A m.d.pieces.length m.c] 28)) = V at *
  obtain ⟨b, hb⟩ : ∃ b, b = w.heap.size := ⟨_, rfl⟩
  rw [← hb] at HX ⊢
  clear hb
  obtain ⟨tn, htn⟩ : ∃ tn, m.d.turn = tn := ⟨_, rfl⟩
  have c3 := HX.out.c 7 _ rfl
  rw [htn] at c3
  have HTN := Lib.hid htn
  clear htn
  go_upto_if 7 with fail
  clear c3
  go_cut [3] from 6 to 7 (fun s wx => s = tx (wordD m.d) ∧ wx = V)
  case first =>
    cases tn
    · have hw := Lib.hid (show wordD m.d = wDrawing by unfold wordD; rw [HTN.out]; rfl)
      go_wp2_with fail
      go_meet
      exact ⟨by rw [hw.out]; rfl, rfl⟩
    · have hw := Lib.hid (show wordD m.d = wTurning by unfold wordD; rw [HTN.out]; rfl)
      go_wp2_with fail
      go_meet
      exact ⟨by rw [hw.out]; rfl, rfl⟩
  case rest =>
    obtain ⟨rfl, hw⟩ := hcut
    have hw2 := hw.symm
    clear hw
    subst hw2
    have hK : (wordD m.d).length = 7 := by unfold wordD; split <;> rfl
    obtain ⟨K, hKK⟩ : ∃ K, wordD m.d = K := ⟨_, rfl⟩
    rw [hKK] at hK HE1 ⊢
    clear hKK HTN
    have c5 := HX.out.c 5 _ rfl
    have c6 := HX.out.c 6 _ rfl
    have g1 : ¬ 9223372036854775807 < K.length + 1 := by omega
    have g2 : ¬ 9223372036854775807 < K.length + 1 + TA.length := by omega
    have g3 : ¬ 9223372036854775807 < K.length + 1 + TA.length + 1 := by omega
    have g4 : ¬ 9223372036854775807 < K.length + 1 + TA.length + 1 + TB.length := by omega
    have g5 : ¬ 9223372036854775807 < K.length + 1 + TA.length + 1 + TB.length + 1 := by omega
    go_upto_region 5 with (go_quiet ((go_at_call 77; first | (with_reducible exact qq (HTA.out _)) | (with_reducible exact qqa (HTA.out _)) | (with_reducible exact qq (HTB.out _)) | (with_reducible exact qqa (HTB.out _)))))
    rw [show (⟨K.toArray⟩ ++ ⟨#[32]⟩ ++ ⟨TA.toArray⟩ ++ ⟨#[32]⟩ ++ ⟨TB.toArray⟩ ++ ⟨#[10]⟩ : ByteArray) = ⟨(textL ((dL m.d).take 1)).toArray⟩ by rw [← HE1.out]; apply ByteArray.ext; simp [ByteArray.data_append]]
    have HX1 := Lib.hid (HX.out.drewN (n := nq))
    have HB1 := Lib.hid (below_drewN HB.out nq)
    generalize V.drewN nq = V1 at *
    clear HX HB HE1 c5 c6 g1 g2 g3 g4 g5 HTA HTB lA lB hK
    have hS := HLN.out 1
    obtain ⟨S1, hS1⟩ : ∃ S1, textL ((dL m.d).take 1) = S1 := ⟨_, rfl⟩
    rw [hS1] at hS HE2 ⊢
    clear hS1
    have g1 : ¬ 9223372036854775807 < S1.length + 5 := by omega
    have g2 : ¬ 9223372036854775807 < S1.length + 5 + TC.length := by omega
    have g3 : ¬ 9223372036854775807 < S1.length + 5 + TC.length + 1 := by omega
    have g4 : ¬ 9223372036854775807 < S1.length + 5 + TC.length + 1 + TD.length := by omega
    have g5 : ¬ 9223372036854775807 < S1.length + 5 + TC.length + 1 + TD.length + 1 := by omega
    have g6 : ¬ 9223372036854775807 < S1.length + 5 + TC.length + 1 + TD.length + 1 + TE.length := by omega
    have g7 : ¬ 9223372036854775807 < S1.length + 5 + TC.length + 1 + TD.length + 1 + TE.length + 1 := by omega
    have g8 : ¬ 9223372036854775807 < S1.length + 5 + TC.length + 1 + TD.length + 1 + TE.length + 1 + TF.length := by omega
    have g9 : ¬ 9223372036854775807 < S1.length + 5 + TC.length + 1 + TD.length + 1 + TE.length + 1 + TF.length + 1 := by omega
    have HS := Lib.hid (show ∀ W : World, Below V1.heap.size V1 W → (W.cell? ⟨b, 0, none⟩ = some (.int .i64 m.d.play.len) ∧ W.cell? ⟨b, 1, none⟩ = some (.int .i64 m.d.play.slack) ∧ W.cell? ⟨b, 2, none⟩ = some (.int .i64 m.d.play.loose) ∧ W.cell? ⟨b, 3, none⟩ = some (.int .i64 m.d.play.damp.lo) ∧ W.cell? ⟨b, 4, none⟩ = some (.int .i64 m.d.play.damp.hi)) from fun W h => ⟨(HX1.out.next h).c 0 _ rfl, (HX1.out.next h).c 1 _ rfl, (HX1.out.next h).c 2 _ rfl, (HX1.out.next h).c 3 _ rfl, (HX1.out.next h).c 4 _ rfl⟩)
    have HC := Lib.hid ((Below.refl V1.heap.size V1).drew)
    have HE2' := Lib.hid (show (⟨S1.toArray⟩ ++ ⟨#[112, 108, 97, 121, 32]⟩ ++ ⟨TC.toArray⟩ ++ ⟨#[32]⟩ ++ ⟨TD.toArray⟩ ++ ⟨#[32]⟩ ++ ⟨TE.toArray⟩ ++ ⟨#[32]⟩ ++ ⟨TF.toArray⟩ ++ ⟨#[10]⟩ : ByteArray) = ⟨(textL ((dL m.d).take 2)).toArray⟩ by rw [← HE2.out]; apply ByteArray.ext; simp [ByteArray.data_append])
    clear HE2
    go_cut [3] (fun s wx => s = tx (textL ((dL m.d).take 2)) ∧ Below V1.heap.size V1 wx)
    case first =>
      refine wp_region_noPanic ?_
      refine wp_region_held_drew (S := (fun W => W.cell? ⟨b, 0, none⟩ = some (.int .i64 m.d.play.len) ∧ W.cell? ⟨b, 1, none⟩ = some (.int .i64 m.d.play.slack) ∧ W.cell? ⟨b, 2, none⟩ = some (.int .i64 m.d.play.loose) ∧ W.cell? ⟨b, 3, none⟩ = some (.int .i64 m.d.play.damp.lo) ∧ W.cell? ⟨b, 4, none⟩ = some (.int .i64 m.d.play.damp.hi))) (by kernel_rfl) ?_ (fun hHeld => ?_)
      · (try dsimp only); exact HS.out _ HC.out
      refine htake (i := 0) (v := ?v1) rfl (by kernel_rfl) (by kernel_rfl) (by kernel_rfl) (fun _ _ _ h => h) (Or.inl ⟨by rfl, ?hy1⟩) (by assumption) ?_
      case hy1 => (intro w hSw; (try dsimp only at hSw); go_simp; try (with_reducible rfl))
      try simp only [Act.put, List.setIfInBounds_toArray, List.set_cons_zero, List.set_cons_succ]
      refine htake (i := 1) (v := ?v2) rfl (by kernel_rfl) (by kernel_rfl) (by kernel_rfl) (fun _ _ _ h => h) (Or.inl ⟨by rfl, ?hy2⟩) (by assumption) ?_
      case hy2 => (intro w hSw; (try dsimp only at hSw); go_simp; try (with_reducible rfl))
      try simp only [Act.put, List.setIfInBounds_toArray, List.set_cons_zero, List.set_cons_succ]
      refine htake (i := 2) (v := ?v3) rfl (by kernel_rfl) (by kernel_rfl) (by kernel_rfl) (fun _ _ _ h => h) (Or.inl ⟨by rfl, ?hy3⟩) (by assumption) ?_
      case hy3 => (intro w hSw; (try dsimp only at hSw); go_simp; try (with_reducible rfl))
      try simp only [Act.put, List.setIfInBounds_toArray, List.set_cons_zero, List.set_cons_succ]
      refine htake (i := 3) (v := ?v4) rfl (by kernel_rfl) (by kernel_rfl) (by kernel_rfl) (fun _ _ _ h => h) (Or.inl ⟨by rfl, ?hy4⟩) (by assumption) ?_
      case hy4 => (intro w hSw; (try dsimp only at hSw); go_simp; try (with_reducible rfl))
      try simp only [Act.put, List.setIfInBounds_toArray, List.set_cons_zero, List.set_cons_succ]
      refine htake (i := 4) (v := ?v5) rfl (by kernel_rfl) (by kernel_rfl) (by kernel_rfl) (fun _ _ _ h => h) (Or.inl ⟨by rfl, ?hy5⟩) (by assumption) ?_
      case hy5 => (intro w hSw; (try dsimp only at hSw); go_simp; try (with_reducible rfl))
      try simp only [Act.put, List.setIfInBounds_toArray, List.set_cons_zero, List.set_cons_succ]
      refine htake (i := 8) (v := ?v6) rfl (by kernel_rfl) (by kernel_rfl) (by kernel_rfl) (fun _ _ _ h => h) (Or.inl ⟨by rfl, ?hy6⟩) (by assumption) ?_
      case hy6 => (intro w hSw; (try dsimp only at hSw); go_simp; try (with_reducible rfl))
      try simp only [Act.put, List.setIfInBounds_toArray, List.set_cons_zero, List.set_cons_succ]
      refine htake (i := 9) (v := ?v7) rfl (by kernel_rfl) (by kernel_rfl) (by kernel_rfl) (fun _ _ _ h => h) (Or.inl ⟨by rfl, ?hy7⟩) (by assumption) ?_
      case hy7 => (intro w hSw; (try dsimp only at hSw); go_simp; try (with_reducible rfl))
      try simp only [Act.put, List.setIfInBounds_toArray, List.set_cons_zero, List.set_cons_succ]
      refine htake (i := 10) (v := ?v8) rfl (by kernel_rfl) (by kernel_rfl) (by kernel_rfl) (fun _ _ _ h => h) (Or.inl ⟨by rfl, ?hy8⟩) (by assumption) ?_
      case hy8 => (intro w hSw; (try dsimp only at hSw); go_simp; try (with_reducible rfl))
      try simp only [Act.put, List.setIfInBounds_toArray, List.set_cons_zero, List.set_cons_succ]
      refine htake (i := 14) (v := ?v9) rfl (by kernel_rfl) (by kernel_rfl) (by kernel_rfl) (fun _ _ _ h => h) (Or.inl ⟨by rfl, ?hy9⟩) (by assumption) ?_
      case hy9 => (intro w hSw; (try dsimp only at hSw); go_simp; try (with_reducible rfl))
      try simp only [Act.put, List.setIfInBounds_toArray, List.set_cons_zero, List.set_cons_succ]
      refine htake (i := 15) (v := ?v10) rfl (by kernel_rfl) (by kernel_rfl) (by kernel_rfl) (fun _ _ _ h => h) (Or.inl ⟨by rfl, ?hy10⟩) (by assumption) ?_
      case hy10 => (intro w hSw; (try dsimp only at hSw); go_simp; try (with_reducible rfl))
      try simp only [Act.put, List.setIfInBounds_toArray, List.set_cons_zero, List.set_cons_succ]
      refine htake (i := 16) (v := ?v11) rfl (by kernel_rfl) (by kernel_rfl) (by kernel_rfl) (fun _ _ _ h => h) (Or.inl ⟨by rfl, ?hy11⟩) (by assumption) ?_
      case hy11 => (intro w hSw; (try dsimp only at hSw); go_simp; try (with_reducible rfl))
      try simp only [Act.put, List.setIfInBounds_toArray, List.set_cons_zero, List.set_cons_succ]
      refine htake (i := 20) (v := ?v12) rfl (by kernel_rfl) (by kernel_rfl) (by kernel_rfl) (fun _ _ _ h => h) (Or.inl ⟨by rfl, ?hy12⟩) (by assumption) ?_
      case hy12 => (intro w hSw; (try dsimp only at hSw); go_simp; try (with_reducible rfl))
      try simp only [Act.put, List.setIfInBounds_toArray, List.set_cons_zero, List.set_cons_succ]
      refine htake (i := 21) (v := ?v13) rfl (by kernel_rfl) (by kernel_rfl) (by kernel_rfl) (fun _ _ _ h => h) (Or.inl ⟨by rfl, ?hy13⟩) (by assumption) ?_
      case hy13 => (intro w hSw; (try dsimp only at hSw); go_simp; try (with_reducible rfl))
      try simp only [Act.put, List.setIfInBounds_toArray, List.set_cons_zero, List.set_cons_succ]
      refine htake (i := 22) (v := ?v14) rfl (by kernel_rfl) (by kernel_rfl) (by kernel_rfl) (fun _ _ _ h => h) (Or.inl ⟨by rfl, ?hy14⟩) (by assumption) ?_
      case hy14 => (intro w hSw; (try dsimp only at hSw); go_simp; try (with_reducible rfl))
      try simp only [Act.put, List.setIfInBounds_toArray, List.set_cons_zero, List.set_cons_succ]
      refine wpAnyH_ready (rs := [5]) (by kernel_rfl) (by simp) ?_
      refine hcons rfl (fun K hK => ?_) (AllReadyH.nil)
      go_simp
      refine (HTC.out _).mono ?_; rintro e0 V5 ⟨rfl, rfl⟩
      refine hK.out _ _ ?_ (fun hHeld => ?_)
      · (try dsimp only); exact HS.out _ HC.out
      clear hK K
      try simp only [Act.put, List.setIfInBounds_toArray, List.set_cons_zero, List.set_cons_succ]
      refine htake (i := 6) (v := ?v15) rfl (by kernel_rfl) (by kernel_rfl) (by kernel_rfl) (fun _ _ _ h => h) (Or.inl ⟨by rfl, ?hy15⟩) (by assumption) ?_
      case hy15 => (intro w hSw; (try dsimp only at hSw); go_simp; try (with_reducible rfl))
      try simp only [Act.put, List.setIfInBounds_toArray, List.set_cons_zero, List.set_cons_succ]
      refine htake (i := 7) (v := ?v16) rfl (by kernel_rfl) (by kernel_rfl) (by kernel_rfl) (fun _ _ _ h => h) (Or.inl ⟨by rfl, ?hy16⟩) (by assumption) ?_
      case hy16 => (intro w hSw; (try dsimp only at hSw); go_simp; try (with_reducible rfl))
      try simp only [Act.put, List.setIfInBounds_toArray, List.set_cons_zero, List.set_cons_succ]
      refine wpAnyH_ready (rs := [11]) (by kernel_rfl) (by simp) ?_
      refine hcons rfl (fun K hK => ?_) (AllReadyH.nil)
      go_simp
      refine (HTD.out _).mono ?_; rintro e0 V11 ⟨rfl, rfl⟩
      refine hK.out _ _ ?_ (fun hHeld => ?_)
      · (try dsimp only); exact HS.out _ HC.out
      clear hK K
      try simp only [Act.put, List.setIfInBounds_toArray, List.set_cons_zero, List.set_cons_succ]
      refine htake (i := 12) (v := ?v17) rfl (by kernel_rfl) (by kernel_rfl) (by kernel_rfl) (fun _ _ _ h => h) (Or.inl ⟨by rfl, ?hy17⟩) (by assumption) ?_
      case hy17 => (intro w hSw; (try dsimp only at hSw); go_simp; try (with_reducible rfl))
      try simp only [Act.put, List.setIfInBounds_toArray, List.set_cons_zero, List.set_cons_succ]
      refine htake (i := 13) (v := ?v18) rfl (by kernel_rfl) (by kernel_rfl) (by kernel_rfl) (fun _ _ _ h => h) (Or.inl ⟨by rfl, ?hy18⟩) (by assumption) ?_
      case hy18 => (intro w hSw; (try dsimp only at hSw); go_simp; try (with_reducible rfl))
      try simp only [Act.put, List.setIfInBounds_toArray, List.set_cons_zero, List.set_cons_succ]
      refine wpAnyH_ready (rs := [17]) (by kernel_rfl) (by simp) ?_
      refine hcons rfl (fun K hK => ?_) (AllReadyH.nil)
      go_simp
      refine (HTE.out _).mono ?_; rintro e0 V17 ⟨rfl, rfl⟩
      refine hK.out _ _ ?_ (fun hHeld => ?_)
      · (try dsimp only); exact HS.out _ HC.out
      clear hK K
      try simp only [Act.put, List.setIfInBounds_toArray, List.set_cons_zero, List.set_cons_succ]
      refine htake (i := 18) (v := ?v19) rfl (by kernel_rfl) (by kernel_rfl) (by kernel_rfl) (fun _ _ _ h => h) (Or.inl ⟨by rfl, ?hy19⟩) (by assumption) ?_
      case hy19 => (intro w hSw; (try dsimp only at hSw); go_simp; try (with_reducible rfl))
      try simp only [Act.put, List.setIfInBounds_toArray, List.set_cons_zero, List.set_cons_succ]
      refine htake (i := 19) (v := ?v20) rfl (by kernel_rfl) (by kernel_rfl) (by kernel_rfl) (fun _ _ _ h => h) (Or.inl ⟨by rfl, ?hy20⟩) (by assumption) ?_
      case hy20 => (intro w hSw; (try dsimp only at hSw); go_simp; try (with_reducible rfl))
      try simp only [Act.put, List.setIfInBounds_toArray, List.set_cons_zero, List.set_cons_succ]
      refine wpAnyH_ready (rs := [23]) (by kernel_rfl) (by simp) ?_
      refine hcons rfl (fun K hK => ?_) (AllReadyH.nil)
      go_simp
      refine (HTF.out _).mono ?_; rintro e0 V23 ⟨rfl, hb⟩; replace HC := Lib.hid (HC.out.trans (hb.mono HC.out.size)); clear hb
      refine hK.out _ _ ?_ (fun hHeld => ?_)
      · (try dsimp only); exact HS.out _ HC.out
      clear hK K
      try simp only [Act.put, List.setIfInBounds_toArray, List.set_cons_zero, List.set_cons_succ]
      refine htake (i := 24) (v := ?v21) rfl (by kernel_rfl) (by kernel_rfl) (by kernel_rfl) (fun _ _ _ h => h) (Or.inl ⟨by rfl, ?hy21⟩) (by assumption) ?_
      case hy21 => (intro w hSw; (try dsimp only at hSw); go_simp; try (with_reducible rfl))
      try simp only [Act.put, List.setIfInBounds_toArray, List.set_cons_zero, List.set_cons_succ]
      refine htake (i := 25) (v := ?v22) rfl (by kernel_rfl) (by kernel_rfl) (by kernel_rfl) (fun _ _ _ h => h) (Or.inl ⟨by rfl, ?hy22⟩) (by assumption) ?_
      case hy22 => (intro w hSw; (try dsimp only at hSw); go_simp; try (with_reducible rfl))
      try simp only [Act.put, List.setIfInBounds_toArray, List.set_cons_zero, List.set_cons_succ]
      refine htake (i := 26) (v := ?v23) rfl (by kernel_rfl) (by kernel_rfl) (by kernel_rfl) (fun _ _ _ h => h) (Or.inl ⟨by rfl, ?hy23⟩) (by assumption) ?_
      case hy23 => (intro w hSw; (try dsimp only at hSw); go_simp; try (with_reducible rfl))
      try simp only [Act.put, List.setIfInBounds_toArray, List.set_cons_zero, List.set_cons_succ]
      refine wpAnyH_done (by kernel_rfl) ?_ _
      refine NoPanic.normal ?_
      iterate 28 (try clear hHeld)
      all_goals (go_wp2_with fail; go_meet)
      all_goals exact ⟨by rw [HE2'.out], HC.out⟩
    case rest =>
      obtain ⟨rfl, hb⟩ := hcut
      have HX2 := Lib.hid (HX1.out.next hb)
      have HB2 := Lib.hid (HB1.out.trans (hb.mono HB1.out.size))
      clear hb HX1 HB1 HS HC HE2' g1 g2 g3 g4 g5 g6 g7 g8 g9 HTC HTD HTE HTF lC lD lE lF hS
      go_wp2_with fail
      go_loopw [3, 4] (fun s i wr => RDr m w b s i wr) (fun _ i _ => m.d.pieces.length - (intOf i).toNat)
      case atStart => exact ⟨0, _, by omega, rfl, rfl, rfl, HB2.out, HX2.out⟩
      case round =>
        obtain ⟨k, t, hk, rfl, rfl, ht, hb, hx⟩ := hrel
        have HB3 := Lib.hid hb
        have HX3 := Lib.hid hx
        have HT := Lib.hid ht
        have c8 := hx.c 8 _ rfl
        clear hb hx ht
        by_cases hlt : k < m.d.pieces.length
        · obtain ⟨q, off, eA, hbk, hcs⟩ := HR.out.pc.below HB3.out k m.d.pieces[k] (List.getElem?_eq_getElem hlt)
          have HPK := Lib.hid (show okPc m.d.pieces[k] = true from List.all_eq_true.1 HOK.out _ (List.getElem_mem hlt))
          have HPI := Lib.hid (show m.d.pieces[k]? = some m.d.pieces[k] from List.getElem?_eq_getElem hlt)
          obtain ⟨p, hp⟩ : ∃ p, m.d.pieces[k] = p := ⟨_, rfl⟩
          rw [hp] at hcs HPK HPI
          clear hp
          have hwk : IntKind.i64.wrap ((k : Int) + 1) = (k : Int) + 1 := IntWalk.i64_in _ (by omega)
          have hbz : q < wr.heap.size := Nat.lt_of_lt_of_le hbk HB3.out.size
          have HCS := Lib.hid (fun (W : World) (h : Below wr.heap.size wr W) => (fun j u hu => (h.cell (p := ⟨q, off + k * 28 + j, none⟩) hbz).trans (hcs j u hu) : ∀ j u, p.cells[j]? = some u → W.cell? ⟨q, off + k * 28 + j, none⟩ = some u))
          have HPE := Lib.hid (piece_eq HPI.out)
          rw [← HT.out] at HPE
          have hlen : t.length ≤ 2068 := by rw [HT.out]; exact HLN.out _
          have HTI := Lib.hid (fun W => TextI_any (k : Int) W (by omega) (by omega))
          have lI := itoa_len (n := (k : Int)) (by omega) (by omega)
          generalize Lib.itoa (k : Int) = TI at *
          have g1 : ¬ 9223372036854775807 < t.length + 6 := by omega
          have g2 : ¬ 9223372036854775807 < t.length + 6 + TI.length := by omega
          have g3 : ¬ 9223372036854775807 < t.length + 6 + TI.length + 1 := by omega
          have HEA := Lib.hid eA
          rw [eA] at c8
          clear hcs hbk hlen lI HT eA
          go_upto_region 10 with (go_at_call 77; (with_reducible refine (HTI.out _).mono ?_); rintro e w' ⟨rfl, rfl⟩)
          rw [show (⟨t.toArray⟩ ++ ⟨#[112, 105, 101, 99, 101, 32]⟩ ++ ⟨TI.toArray⟩ ++ ⟨#[10]⟩ : ByteArray) = ⟨(textL ((dL m.d).take (2 + 5 * k + 1))).toArray⟩ by rw [← HPE.out]; apply ByteArray.ext; simp [ByteArray.data_append]]
          clear c8 g1 g2 g3 HPE HTI
          go_wp2_with fail
          go_loopw [3, 5] (fun s jv wx => RDs m k wr s jv wx) (fun _ jv _ => 4 - (intOf jv).toNat)
          case atStart => exact ⟨0, _, by omega, rfl, rfl, rfl, Below.refl _ _⟩
          case round =>
            obtain ⟨j, u, hj, rfl, rfl, hu, hb⟩ := hrel
            have HU := Lib.hid hu
            have HBX := Lib.hid hb
            have c8 := (HX3.out.next hb).c 8 _ rfl
            rw [HEA.out] at c8
            clear hu
            have hwj : IntKind.i64.wrap ((j : Int) + 1) = (j : Int) + 1 := IntWalk.i64_in _ (by omega)
            by_cases hlj : j < 4
            · obtain ⟨q0, q1, q2, q3, q4, q5, q6⟩ := edge_at (HCS.out _ hb) hlj
              have HSE := Lib.hid (side_eq HPI.out hlj)
              rw [← HU.out] at HSE
              have hu1 : u.length ≤ 2068 := by rw [HU.out]; exact HLN.out _
              have hu2 : (u ++ edLn (pe p j)).length ≤ 2068 := by rw [HSE.out]; exact HLN.out _
              rw [List.length_append] at hu2
              have HLI := Lib.hid (fun W => line_any (pe p j) (ok_peR HPK.out hlj) W)
              generalize edLn (pe p j) = TL at *
              generalize pe p j = e at *
              have g1 : ¬ 9223372036854775807 < u.length + TL.length := by omega
              have HCT := Lib.hid (cat_tx u TL)
              clear hb hu1 hu2 HU
              go_wp2_with fail
              refine (HLI.out _).mono ?_
              rintro x V2 ⟨rfl, hb⟩
              have HV2 := Lib.hid (HBX.out.trans (hb.mono HBX.out.size))
              clear hb q0 q1 q2 q3 q4 q5 q6 c8
              go_wp2_with fail
              rw [HCT.out, HSE.out]
              (first | (refine ⟨?_, ?_⟩; (unfold RDs; exact ⟨j + 1, _, by omega, by go_num, rfl, rfl, HV2.out⟩); (simp [intOf]; omega)) | (go_roundw; (case rel => (unfold RDs; exact ⟨j + 1, _, by omega, by go_num, rfl, rfl, HV2.out⟩)); (case measure => (simp [intOf]; omega))) | (go_round; (case rel => (unfold RDs; exact ⟨j + 1, _, by omega, by go_num, rfl, rfl, HV2.out⟩)); (case measure => (simp [intOf]; omega))))
            · obtain rfl : j = 4 := by omega
              have HU5 := Lib.hid (show u = textL ((dL m.d).take (2 + 5 * (k + 1))) by rw [HU.out, show 2 + 5 * k + 1 + 4 = 2 + 5 * (k + 1) by omega])
              have HR3 := Lib.hid (HB3.out.trans (hb.mono HB3.out.size))
              have HX4 := Lib.hid (HX3.out.next hb)
              clear hb c8
              go_wp2_with fail
              (first | (refine ⟨?_, ?_⟩; (unfold RDr; exact ⟨k + 1, u, by omega, by go_num, rfl, HU5.out, HR3.out, HX4.out⟩); (simp [intOf]; omega)) | (go_roundw; (case rel => (unfold RDr; exact ⟨k + 1, u, by omega, by go_num, rfl, HU5.out, HR3.out, HX4.out⟩)); (case measure => (simp [intOf]; omega))) | (go_round; (case rel => (unfold RDr; exact ⟨k + 1, u, by omega, by go_num, rfl, HU5.out, HR3.out, HX4.out⟩)); (case measure => (simp [intOf]; omega))))
        · obtain rfl : k = m.d.pieces.length := by omega
          rw [dL_all] at HT
          go_wp2_with fail
          go_ret
          rw [HT.out]
          exact ⟨rfl, HB3.out⟩
end Go.Proofs.YtonnemkecppmiaaGreatDoor
