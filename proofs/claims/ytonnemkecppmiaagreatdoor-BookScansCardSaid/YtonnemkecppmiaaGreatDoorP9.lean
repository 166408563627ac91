import Derived.Test.YtonnemkecppmiaaGreatDoorP8
namespace Go.Proofs.YtonnemkecppmiaaGreatDoor
open Go.RowKit
/-! The program: the file of a drawing. -/
theorem okPu_iff' {d : Pu} (h : okPu d = true) : d.pieces.length ≤ 9 ∧ 0 ≤ d.wide ∧ d.wide < 100000 ∧ 0 ≤ d.high ∧ d.high < 100000 ∧ 0 ≤ d.play.len ∧ d.play.len < 100000 ∧ 0 ≤ d.play.slack ∧ d.play.slack < 100000 ∧ 0 ≤ d.play.loose ∧ d.play.loose < 100000 ∧ 0 ≤ d.play.damp.lo ∧ d.play.damp.lo ≤ d.play.damp.hi ∧ d.play.damp.hi < 100000 ∧ okPcs d.pieces = true := by
  unfold okPu okPy at h
  simp only [Bool.and_eq_true, inP_iff, okSp_iff, decide_eq_true_eq] at h
  obtain ⟨h1, h2, h3, h4, ⟨h5, h6, h7, h8⟩, h9⟩ := h
  refine ⟨by omega, by omega, by omega, by omega, by omega, by omega, by omega, by omega, by omega, by omega, by omega, by omega, by omega, by omega, h9⟩
def wordD (d : Pu) : Tx := if d.turn then wTurning else wDrawing
def l1w (d : Pu) : List Wd := [.t (wordD d), .n d.wide, .n d.high]
def l2w (d : Pu) : List Wd := [.t wPlay, .n d.play.len, .n d.play.slack, .n d.play.loose, .s d.play.damp]
theorem take2_eq (d : Pu) : glue 32 ((l1w d).map Wd.tx) ++ [10] ++ (glue 32 ((l2w d).map Wd.tx) ++ [10]) = textL ((dL d).take 2) := by
  show _ = textL [_, _]
  unfold textL
  simp only [List.flatMap_cons, List.flatMap_nil, List.append_nil]
  rfl
theorem l1w_ok {d : Pu} (h : okPu d = true) : ∀ x ∈ l1w d, x.ok := by
  obtain ⟨-, a1, a2, a3, a4, -⟩ := okPu_iff' h
  intro x hx
  simp only [l1w, List.mem_cons, List.not_mem_nil, or_false] at hx
  rcases hx with rfl | rfl | rfl
  · show (wordD d).length ≤ 20
    unfold wordD
    split <;> decide
  · exact ⟨a1, a2⟩
  · exact ⟨a3, a4⟩
theorem l2w_ok {d : Pu} (h : okPu d = true) : ∀ x ∈ l2w d, x.ok := by
  obtain ⟨-, -, -, -, -, a1, a2, a3, a4, a5, a6, a7, a8, a9, -⟩ := okPu_iff' h
  intro x hx
  simp only [l2w, List.mem_cons, List.not_mem_nil, or_false] at hx
  rcases hx with rfl | rfl | rfl | rfl | rfl
  · show wPlay.length ≤ 20; decide
  · exact ⟨a1, a2⟩
  · exact ⟨a3, a4⟩
  · exact ⟨a5, a6⟩
  · exact ⟨a7, by omega, by omega, a9⟩
theorem textL_one (ws : List Tx) : textL [ws] = glue 32 ws ++ [10] := by unfold textL; simp
def RDp (m : Mp) (w0 : World) (b : Nat) (i : Value) (w : World) : Prop := ∃ k : Nat, k ≤ m.d.pieces.length ∧ i = .int .i64 k ∧ Below w0.heap.size w0 w ∧ Hld ((dL m.d).take (2 + 5 * k)) b w
def RDe (m : Mp) (k : Nat) (w0 : World) (b : Nat) (i : Value) (w : World) : Prop := ∃ j : Nat, j ≤ 4 ∧ i = .int .i64 j ∧ Below w0.heap.size w0 w ∧ Hld ((dL m.d).take (2 + 5 * k + 1 + j)) b w
set_option maxRecDepth 100000 in
set_option maxHeartbeats 8000000 in
theorem drawing_any (m : Mp) (w : World) (hE : Env w) (hr : PuAt w w.heap.size m) (hok : okPu m.d = true) : Calls Tryz.prog 35 #[.agg #[.int .i64 m.d.play.len, .int .i64 m.d.play.slack, .int .i64 m.d.play.loose, .int .i64 m.d.play.damp.lo, .int .i64 m.d.play.damp.hi, .int .i64 m.d.wide, .int .i64 m.d.high, .bool m.d.turn, .slice m.A m.d.pieces.length m.c]] w (Ret (tx (dText m.d)) w) := by
  have HE := Lib.hid hE
  have HR := Lib.hid hr
  have HOK := Lib.hid hok
  have h9 := (okPu_iff' hok).1
  have HLEN := Lib.hid (dText_len hok)
  clear hE hr hok
  go_enter Tryz.func35, Tryz.ntmps35
  have HX0 := Lib.hid (Bx.new w #[.int .i64 m.d.play.len, .int .i64 m.d.play.slack, .int .i64 m.d.play.loose, .int .i64 m.d.play.damp.lo, .int .i64 m.d.play.damp.hi, .int .i64 m.d.wide, .int .i64 m.d.high, .bool m.d.turn, .slice m.A m.d.pieces.length m.c] 28)
  have HB0 := Lib.hid (nxA w (.cells #[.int .i64 m.d.play.len, .int .i64 m.d.play.slack, .int .i64 m.d.play.loose, .int .i64 m.d.play.damp.lo, .int .i64 m.d.play.damp.hi, .int .i64 m.d.wide, .int .i64 m.d.high, .bool m.d.turn, .slice m.A m.d.pieces.length m.c] 28))
  go_upto_region 1 with fail
  generalize (w.alloc (.cells #[.int .i64 m.d.play.len, .int .i64 m.d.play.slack, .int .i64 m.d.play.loose, .int .i64 m.d.play.damp.lo, .int .i64 m.d.play.damp.hi, .int .i64 m.d.wide, .int .i64 m.d.high, .bool m.d.turn, .slice m.A m.d.pieces.length m.c] 28)) = V0 at *
  have HN := Lib.hid (nxA V0 (.cells #[.pointer none, .slice none 0 0] 115))
  have HH1 := Lib.hid (Hld.new V0)
  have HX1 := Lib.hid (HX0.out.next HN.out)
  have HB1 := Lib.hid (HB0.out.trans (HN.out.mono HB0.out.size))
  have HBZ := Lib.hid HB0.out.size
  go_upto_region 2 with fail
  generalize (V0.alloc (.cells #[.pointer none, .slice none 0 0] 115)) = V1 at *
  obtain ⟨b0, hb0⟩ : ∃ b0, b0 = w.heap.size := ⟨_, rfl⟩
  rw [← hb0] at HX0 HX1 ⊢
  obtain ⟨b, hb⟩ : ∃ b, b = V0.heap.size := ⟨_, rfl⟩
  rw [← hb] at HH1 HN ⊢
  have hbb : b0 < b := by rw [hb]; exact HX0.out.lt
  have hwb : w.heap.size ≤ b := by rw [hb]; exact HBZ.out
  clear hb hb0 HBZ HX0 HB0
  obtain ⟨tn, htn⟩ : ∃ tn, m.d.turn = tn := ⟨_, rfl⟩
  have c7 := HX1.out.c 7 _ rfl
  rw [htn] at c7
  have HTN := Lib.hid htn
  clear htn
  go_upto_if 10 with fail
  clear c7
  go_cut [4] from 9 to 10 (fun s wx => s = tx (wordD m.d) ∧ wx = V1)
  case first =>
    cases tn
    · have hw := Lib.hid (show wordD m.d = wDrawing by unfold wordD; rw [HTN.out]; rfl)
      go_wp2_with fail
      go_meet
      exact ⟨by rw [hw.out]; rfl, rfl⟩
    · have hw := Lib.hid (show wordD m.d = wTurning by unfold wordD; rw [HTN.out]; rfl)
      go_wp2_with fail
      go_meet
      exact ⟨by rw [hw.out]; rfl, rfl⟩
  case rest =>
    obtain ⟨rfl, hw⟩ := hcut
    have hw2 := hw.symm
    clear hw
    subst hw2
    go_upto_region 5 with fail
    have HS := Lib.hid (show ∀ W : World, Below b V1 W → (W.cell? ⟨b0, 0, none⟩ = some (.int .i64 m.d.play.len) ∧ W.cell? ⟨b0, 1, none⟩ = some (.int .i64 m.d.play.slack) ∧ W.cell? ⟨b0, 2, none⟩ = some (.int .i64 m.d.play.loose) ∧ W.cell? ⟨b0, 3, none⟩ = some (.int .i64 m.d.play.damp.lo) ∧ W.cell? ⟨b0, 4, none⟩ = some (.int .i64 m.d.play.damp.hi) ∧ W.cell? ⟨b0, 5, none⟩ = some (.int .i64 m.d.wide) ∧ W.cell? ⟨b0, 6, none⟩ = some (.int .i64 m.d.high)) from fun W h => ⟨(HX1.out.below h hbb).c 0 _ rfl, (HX1.out.below h hbb).c 1 _ rfl, (HX1.out.below h hbb).c 2 _ rfl, (HX1.out.below h hbb).c 3 _ rfl, (HX1.out.below h hbb).c 4 _ rfl, (HX1.out.below h hbb).c 5 _ rfl, (HX1.out.below h hbb).c 6 _ rfl⟩)
    have HWB := Lib.hid (Nat.le_of_lt HH1.out.lt)
    have HK1 := Lib.hid (l1w_ok HOK.out)
    have HK2 := Lib.hid (l2w_ok HOK.out)
    have HT2 := Lib.hid (take2_eq m.d)
    obtain ⟨s1, hs1⟩ : ∃ s1, glue 32 ((l1w m.d).map Wd.tx) ++ [10] = s1 := ⟨_, rfl⟩
    obtain ⟨s2, hs2⟩ : ∃ s2, glue 32 ((l2w m.d).map Wd.tx) ++ [10] = s2 := ⟨_, rfl⟩
    have HS1 := Lib.hid hs1
    have HS2 := Lib.hid hs2
    have HLT := Lib.hid (show s1.length + s2.length ≤ 2068 by
      have h1 := take_len (dL m.d) 2
      rw [← HT2.out, List.length_append, hs1, hs2] at h1
      exact Nat.le_trans h1 HLEN.out)
    have g1 : ¬ 9223372036854775807 < s1.length + s2.length := by have := HLT.out; omega
    have hcat : (⟨s1.toArray⟩ : ByteArray) ++ (⟨s2.toArray⟩ : ByteArray) = ⟨(s1 ++ s2).toArray⟩ := by
      apply ByteArray.ext; simp [ByteArray.data_append]
    rw [hs1, hs2] at HT2
    clear hs1 hs2
    go_cut [3] (fun s wx => s = .pointer (some ⟨b, 0, none⟩) ∧ Below b V1 wx ∧ Hld ((dL m.d).take 2) b wx)
    case first =>
      have HC := Lib.hid ((Below.refl V1.heap.size V1).drew)
      refine wp_region_noPanic ?_
      refine wp_region_held_drew (S := (fun W => W.cell? ⟨b0, 0, none⟩ = some (.int .i64 m.d.play.len) ∧ W.cell? ⟨b0, 1, none⟩ = some (.int .i64 m.d.play.slack) ∧ W.cell? ⟨b0, 2, none⟩ = some (.int .i64 m.d.play.loose) ∧ W.cell? ⟨b0, 3, none⟩ = some (.int .i64 m.d.play.damp.lo) ∧ W.cell? ⟨b0, 4, none⟩ = some (.int .i64 m.d.play.damp.hi) ∧ W.cell? ⟨b0, 5, none⟩ = some (.int .i64 m.d.wide) ∧ W.cell? ⟨b0, 6, none⟩ = some (.int .i64 m.d.high))) (by kernel_rfl) ?_ (fun hHeld => ?_)
      · (try dsimp only); first | exact HS.out _ (HC.out.mono HWB.out) | exact HS.out _ (Below.refl _ _).drew
      refine htake (i := 0) (v := ?v1) rfl (by kernel_rfl) (by kernel_rfl) (by kernel_rfl) (fun _ _ _ h => h) (Or.inl ⟨by rfl, ?hy1⟩) (by assumption) ?_
      case hy1 => (intro w hSw; (try dsimp only at hSw); go_simp; try (with_reducible rfl))
      try simp only [Act.put, List.setIfInBounds_toArray, List.set_cons_zero, List.set_cons_succ]
      refine htake (i := 1) (v := ?v2) rfl (by kernel_rfl) (by kernel_rfl) (by kernel_rfl) (fun _ _ _ h => h) (Or.inl ⟨by rfl, ?hy2⟩) (by assumption) ?_
      case hy2 => (intro w hSw; (try dsimp only at hSw); go_simp; try (with_reducible rfl))
      try simp only [Act.put, List.setIfInBounds_toArray, List.set_cons_zero, List.set_cons_succ]
      refine htake (i := 2) (v := ?v3) rfl (by kernel_rfl) (by kernel_rfl) (by kernel_rfl) (fun _ _ _ h => h) (Or.inl ⟨by rfl, ?hy3⟩) (by assumption) ?_
      case hy3 => (intro w hSw; (try dsimp only at hSw); go_simp; try (with_reducible rfl))
      try simp only [Act.put, List.setIfInBounds_toArray, List.set_cons_zero, List.set_cons_succ]
      refine htake (i := 3) (v := ?v4) rfl (by kernel_rfl) (by kernel_rfl) (by kernel_rfl) (fun _ _ _ h => h) (Or.inl ⟨by rfl, ?hy4⟩) (by assumption) ?_
      case hy4 => (intro w hSw; (try dsimp only at hSw); go_simp; try (with_reducible rfl))
      try simp only [Act.put, List.setIfInBounds_toArray, List.set_cons_zero, List.set_cons_succ]
      refine htake (i := 4) (v := ?v5) rfl (by kernel_rfl) (by kernel_rfl) (by kernel_rfl) (fun _ _ _ h => h) (Or.inl ⟨by rfl, ?hy5⟩) (by assumption) ?_
      case hy5 => (intro w hSw; (try dsimp only at hSw); go_simp; try (with_reducible rfl))
      try simp only [Act.put, List.setIfInBounds_toArray, List.set_cons_zero, List.set_cons_succ]
      refine htake (i := 5) (v := ?v6) rfl (by kernel_rfl) (by kernel_rfl) (by kernel_rfl) (fun _ _ _ h => h) (Or.inl ⟨by rfl, ?hy6⟩) (by assumption) ?_
      case hy6 => (intro w hSw; (try dsimp only at hSw); go_simp; try (with_reducible rfl))
      try simp only [Act.put, List.setIfInBounds_toArray, List.set_cons_zero, List.set_cons_succ]
      refine htake (i := 6) (v := ?v7) rfl (by kernel_rfl) (by kernel_rfl) (by kernel_rfl) (fun _ _ _ h => h) (Or.inl ⟨by rfl, ?hy7⟩) (by assumption) ?_
      case hy7 => (intro w hSw; (try dsimp only at hSw); go_simp; try (with_reducible rfl))
      try simp only [Act.put, List.setIfInBounds_toArray, List.set_cons_zero, List.set_cons_succ]
      refine htake (i := 7) (v := ?v8) rfl (by kernel_rfl) (by kernel_rfl) (by kernel_rfl) (fun _ _ _ h => h) (Or.inl ⟨by rfl, ?hy8⟩) (by assumption) ?_
      case hy8 => (intro w hSw; (try dsimp only at hSw); go_simp; try (with_reducible rfl))
      try simp only [Act.put, List.setIfInBounds_toArray, List.set_cons_zero, List.set_cons_succ]
      refine htake (i := 10) (v := ?v9) rfl (by kernel_rfl) (by kernel_rfl) (by kernel_rfl) (fun _ _ _ h => h) (Or.inl ⟨by rfl, ?hy9⟩) (by assumption) ?_
      case hy9 => (intro w hSw; (try dsimp only at hSw); go_simp; try (with_reducible rfl))
      try simp only [Act.put, List.setIfInBounds_toArray, List.set_cons_zero, List.set_cons_succ]
      refine htake (i := 11) (v := ?v10) rfl (by kernel_rfl) (by kernel_rfl) (by kernel_rfl) (fun _ _ _ h => h) (Or.inl ⟨by rfl, ?hy10⟩) (by assumption) ?_
      case hy10 => (intro w hSw; (try dsimp only at hSw); go_simp; try (with_reducible rfl))
      try simp only [Act.put, List.setIfInBounds_toArray, List.set_cons_zero, List.set_cons_succ]
      refine htake (i := 12) (v := ?v11) rfl (by kernel_rfl) (by kernel_rfl) (by kernel_rfl) (fun _ _ _ h => h) (Or.inl ⟨by rfl, ?hy11⟩) (by assumption) ?_
      case hy11 => (intro w hSw; (try dsimp only at hSw); go_simp; try (with_reducible rfl))
      try simp only [Act.put, List.setIfInBounds_toArray, List.set_cons_zero, List.set_cons_succ]
      refine htake (i := 13) (v := ?v12) rfl (by kernel_rfl) (by kernel_rfl) (by kernel_rfl) (fun _ _ _ h => h) (Or.inl ⟨by rfl, ?hy12⟩) (by assumption) ?_
      case hy12 => (intro w hSw; (try dsimp only at hSw); go_simp; try (with_reducible rfl))
      try simp only [Act.put, List.setIfInBounds_toArray, List.set_cons_zero, List.set_cons_succ]
      refine htake (i := 14) (v := ?v13) rfl (by kernel_rfl) (by kernel_rfl) (by kernel_rfl) (fun _ _ _ h => h) (Or.inl ⟨by rfl, ?hy13⟩) (by assumption) ?_
      case hy13 => (intro w hSw; (try dsimp only at hSw); go_simp; try (with_reducible rfl))
      try simp only [Act.put, List.setIfInBounds_toArray, List.set_cons_zero, List.set_cons_succ]
      refine htake (i := 15) (v := ?v14) rfl (by kernel_rfl) (by kernel_rfl) (by kernel_rfl) (fun _ _ _ h => h) (Or.inl ⟨by rfl, ?hy14⟩) (by assumption) ?_
      case hy14 => (intro w hSw; (try dsimp only at hSw); go_simp; try (with_reducible rfl))
      try simp only [Act.put, List.setIfInBounds_toArray, List.set_cons_zero, List.set_cons_succ]
      refine htake (i := 16) (v := ?v15) rfl (by kernel_rfl) (by kernel_rfl) (by kernel_rfl) (fun _ _ _ h => h) (Or.inl ⟨by rfl, ?hy15⟩) (by assumption) ?_
      case hy15 => (intro w hSw; (try dsimp only at hSw); go_simp; try (with_reducible rfl))
      try simp only [Act.put, List.setIfInBounds_toArray, List.set_cons_zero, List.set_cons_succ]
      refine htake (i := 17) (v := ?v16) rfl (by kernel_rfl) (by kernel_rfl) (by kernel_rfl) (fun _ _ _ h => h) (Or.inl ⟨by rfl, ?hy16⟩) (by assumption) ?_
      case hy16 => (intro w hSw; (try dsimp only at hSw); go_simp; try (with_reducible rfl))
      try simp only [Act.put, List.setIfInBounds_toArray, List.set_cons_zero, List.set_cons_succ]
      refine htake (i := 18) (v := ?v17) rfl (by kernel_rfl) (by kernel_rfl) (by kernel_rfl) (fun _ _ _ h => h) (Or.inl ⟨by rfl, ?hy17⟩) (by assumption) ?_
      case hy17 => (intro w hSw; (try dsimp only at hSw); go_simp; try (with_reducible rfl))
      try simp only [Act.put, List.setIfInBounds_toArray, List.set_cons_zero, List.set_cons_succ]
      refine htake (i := 19) (v := ?v18) rfl (by kernel_rfl) (by kernel_rfl) (by kernel_rfl) (fun _ _ _ h => h) (Or.inl ⟨by rfl, ?hy18⟩) (by assumption) ?_
      case hy18 => (intro w hSw; (try dsimp only at hSw); go_simp; try (with_reducible rfl))
      try simp only [Act.put, List.setIfInBounds_toArray, List.set_cons_zero, List.set_cons_succ]
      refine htake (i := 20) (v := ?v19) rfl (by kernel_rfl) (by kernel_rfl) (by kernel_rfl) (fun _ _ _ h => h) (Or.inl ⟨by rfl, ?hy19⟩) (by assumption) ?_
      case hy19 => (intro w hSw; (try dsimp only at hSw); go_simp; try (with_reducible rfl))
      try simp only [Act.put, List.setIfInBounds_toArray, List.set_cons_zero, List.set_cons_succ]
      refine htake (i := 21) (v := ?v20) rfl (by kernel_rfl) (by kernel_rfl) (by kernel_rfl) (fun _ _ _ h => h) (Or.inl ⟨by rfl, ?hy20⟩) (by assumption) ?_
      case hy20 => (intro w hSw; (try dsimp only at hSw); go_simp; try (with_reducible rfl))
      try simp only [Act.put, List.setIfInBounds_toArray, List.set_cons_zero, List.set_cons_succ]
      refine htake (i := 22) (v := ?v21) rfl (by kernel_rfl) (by kernel_rfl) (by kernel_rfl) (fun _ _ _ h => h) (Or.inl ⟨by rfl, ?hy21⟩) (by assumption) ?_
      case hy21 => (intro w hSw; (try dsimp only at hSw); go_simp; try (with_reducible rfl))
      try simp only [Act.put, List.setIfInBounds_toArray, List.set_cons_zero, List.set_cons_succ]
      refine htake (i := 23) (v := ?v22) rfl (by kernel_rfl) (by kernel_rfl) (by kernel_rfl) (fun _ _ _ h => h) (Or.inl ⟨by rfl, ?hy22⟩) (by assumption) ?_
      case hy22 => (intro w hSw; (try dsimp only at hSw); go_simp; try (with_reducible rfl))
      try simp only [Act.put, List.setIfInBounds_toArray, List.set_cons_zero, List.set_cons_succ]
      refine htake (i := 24) (v := ?v23) rfl (by kernel_rfl) (by kernel_rfl) (by kernel_rfl) (fun _ _ _ h => h) (Or.inl ⟨by rfl, ?hy23⟩) (by assumption) ?_
      case hy23 => (intro w hSw; (try dsimp only at hSw); go_simp; try (with_reducible rfl))
      try simp only [Act.put, List.setIfInBounds_toArray, List.set_cons_zero, List.set_cons_succ]
      refine htake (i := 25) (v := ?v24) rfl (by kernel_rfl) (by kernel_rfl) (by kernel_rfl) (fun _ _ _ h => h) (Or.inl ⟨by rfl, ?hy24⟩) (by assumption) ?_
      case hy24 => (intro w hSw; (try dsimp only at hSw); go_simp; try (with_reducible rfl))
      try simp only [Act.put, List.setIfInBounds_toArray, List.set_cons_zero, List.set_cons_succ]
      refine htake (i := 26) (v := ?v25) rfl (by kernel_rfl) (by kernel_rfl) (by kernel_rfl) (fun _ _ _ h => h) (Or.inl ⟨by rfl, ?hy25⟩) (by assumption) ?_
      case hy25 => (intro w hSw; (try dsimp only at hSw); go_simp; try (with_reducible rfl))
      try simp only [Act.put, List.setIfInBounds_toArray, List.set_cons_zero, List.set_cons_succ]
      refine wpAnyH_ready (rs := [8, 27]) (by kernel_rfl) (by simp) ?_
      refine hcons rfl (fun K hK => ?_) (hcons rfl (fun K hK => ?_) (AllReadyH.nil))
      go_simp
      (first | refine hold_alloc (fun Wa q1 q2 q3 => ?_) | refine hold_alloc_drew (fun Wa q1 q2 q3 => ?_)); (have HCn : Below V1.heap.size V1 Wa := by first | exact HC.out.trans (q1.mono HC.out.size) | exact q1); (try replace HBx := Lib.hid (HBx.out.next q1)); have HA := Lib.hid q2; replace HC := Lib.hid HCn; clear HCn q1 q2 q3
      refine hK.out _ _ ?_ (fun hHeld => ?_)
      · (try dsimp only); first | exact HS.out _ (HC.out.mono HWB.out) | exact HS.out _ (Below.refl _ _).drew
      clear hK K
      try simp only [Act.put, List.setIfInBounds_toArray, List.set_cons_zero, List.set_cons_succ]
      refine wpAnyH_ready (rs := [9, 27]) (by kernel_rfl) (by simp) ?_
      refine hcons rfl (fun K hK => ?_) (hcons rfl (fun K hK => ?_) (AllReadyH.nil))
      go_simp
      refine (row_any _ 3 (l1w m.d) _ (HE.out.next (HB1.out.trans (HC.out.mono HB1.out.size))) (at_row (l := l1w m.d) HA.out) (by simp [l1w]) (by simp [l1w]) HK1.out).mono ?_; rintro e0 V9 ⟨rfl, hb⟩; rw [HS1.out]; (try replace HA := Lib.hid (HA.out.next hb)); (try replace HBx := Lib.hid (HBx.out.next hb)); replace HC := Lib.hid (HC.out.trans (hb.mono HC.out.size)); clear hb
      refine hK.out _ _ ?_ (fun hHeld => ?_)
      · (try dsimp only); first | exact HS.out _ (HC.out.mono HWB.out) | exact HS.out _ (Below.refl _ _).drew
      clear hK K
      try simp only [Act.put, List.setIfInBounds_toArray, List.set_cons_zero, List.set_cons_succ]
      refine wpAnyH_ready (rs := [27]) (by kernel_rfl) (by simp) ?_
      refine hcons rfl (fun K hK => ?_) (AllReadyH.nil)
      go_simp
      (first | refine hold_alloc (fun Wb q1 q2 q3 => ?_) | refine hold_alloc_drew (fun Wb q1 q2 q3 => ?_)); (have HCn : Below V1.heap.size V1 Wb := by first | exact HC.out.trans (q1.mono HC.out.size) | exact q1); (try replace HA := Lib.hid (HA.out.next q1)); have HBx := Lib.hid q2; replace HC := Lib.hid HCn; clear HCn q1 q2 q3
      refine hK.out _ _ ?_ (fun hHeld => ?_)
      · (try dsimp only); first | exact HS.out _ (HC.out.mono HWB.out) | exact HS.out _ (Below.refl _ _).drew
      clear hK K
      try simp only [Act.put, List.setIfInBounds_toArray, List.set_cons_zero, List.set_cons_succ]
      refine wpAnyH_ready (rs := [28]) (by kernel_rfl) (by simp) ?_
      refine hcons rfl (fun K hK => ?_) (AllReadyH.nil)
      go_simp
      refine (row_any _ 5 (l2w m.d) _ (HE.out.next (HB1.out.trans (HC.out.mono HB1.out.size))) (at_row (l := l2w m.d) HBx.out) (by simp [l2w]) (by simp [l2w]) HK2.out).mono ?_; rintro e0 V28 ⟨rfl, hb⟩; rw [HS2.out]; (try replace HA := Lib.hid (HA.out.next hb)); (try replace HBx := Lib.hid (HBx.out.next hb)); replace HC := Lib.hid (HC.out.trans (hb.mono HC.out.size)); clear hb
      refine hK.out _ _ ?_ (fun hHeld => ?_)
      · (try dsimp only); first | exact HS.out _ (HC.out.mono HWB.out) | exact HS.out _ (Below.refl _ _).drew
      clear hK K
      try simp only [Act.put, List.setIfInBounds_toArray, List.set_cons_zero, List.set_cons_succ]
      refine htake (i := 29) (v := ?v26) rfl (by kernel_rfl) (by kernel_rfl) (by kernel_rfl) (fun _ _ _ h => h) (Or.inl ⟨by rfl, ?hy26⟩) (by assumption) ?_
      case hy26 => (intro w hSw; (try dsimp only at hSw); go_simp; try (with_reducible rfl))
      try simp only [Act.put, List.setIfInBounds_toArray, List.set_cons_zero, List.set_cons_succ]
      refine wpAnyH_ready (rs := [30]) (by kernel_rfl) (by simp) ?_
      refine hcons rfl (fun K hK => ?_) (AllReadyH.nil)
      go_simp
      refine (write_lines [] ((dL m.d).take 2) (s1 ++ s2) HT2.out b _ (HH1.out.next HC.out) (by have h1 := take_len (dL m.d) 2; have h2 := HLEN.out; rw [List.nil_append]; unfold dText at h2; omega)).mono ?_; rintro e0 V30 ⟨rfl, hh, hb, -⟩; have HH2 := Lib.hid hh; replace HC := Lib.hid ((HC.out.mono HWB.out).trans (hb.mono (Nat.le_refl _))); clear hb hh
      refine hK.out _ _ ?_ (fun hHeld => ?_)
      · (try dsimp only); exact HS.out _ HC.out
      clear hK K
      try simp only [Act.put, List.setIfInBounds_toArray, List.set_cons_zero, List.set_cons_succ]
      refine wpAnyH_done (by kernel_rfl) ?_ _
      refine NoPanic.normal ?_
      rotate_left
      go_simp
      (first | refine hold_alloc (fun Wb q1 q2 q3 => ?_) | refine hold_alloc_drew (fun Wb q1 q2 q3 => ?_)); (have HCn : Below V1.heap.size V1 Wb := by first | exact HC.out.trans (q1.mono HC.out.size) | exact q1); (try replace HA := Lib.hid (HA.out.next q1)); have HBx := Lib.hid q2; replace HC := Lib.hid HCn; clear HCn q1 q2 q3
      refine hK.out _ _ ?_ (fun hHeld => ?_)
      · (try dsimp only); first | exact HS.out _ (HC.out.mono HWB.out) | exact HS.out _ (Below.refl _ _).drew
      clear hK K
      try simp only [Act.put, List.setIfInBounds_toArray, List.set_cons_zero, List.set_cons_succ]
      refine wpAnyH_ready (rs := [9]) (by kernel_rfl) (by simp) ?_
      refine hcons rfl (fun K hK => ?_) (AllReadyH.nil)
      go_simp
      refine (row_any _ 3 (l1w m.d) _ (HE.out.next (HB1.out.trans (HC.out.mono HB1.out.size))) (at_row (l := l1w m.d) HA.out) (by simp [l1w]) (by simp [l1w]) HK1.out).mono ?_; rintro e0 V9 ⟨rfl, hb⟩; rw [HS1.out]; (try replace HA := Lib.hid (HA.out.next hb)); (try replace HBx := Lib.hid (HBx.out.next hb)); replace HC := Lib.hid (HC.out.trans (hb.mono HC.out.size)); clear hb
      refine hK.out _ _ ?_ (fun hHeld => ?_)
      · (try dsimp only); first | exact HS.out _ (HC.out.mono HWB.out) | exact HS.out _ (Below.refl _ _).drew
      clear hK K
      try simp only [Act.put, List.setIfInBounds_toArray, List.set_cons_zero, List.set_cons_succ]
      refine wpAnyH_ready (rs := [28]) (by kernel_rfl) (by simp) ?_
      refine hcons rfl (fun K hK => ?_) (AllReadyH.nil)
      go_simp
      refine (row_any _ 5 (l2w m.d) _ (HE.out.next (HB1.out.trans (HC.out.mono HB1.out.size))) (at_row (l := l2w m.d) HBx.out) (by simp [l2w]) (by simp [l2w]) HK2.out).mono ?_; rintro e0 V28 ⟨rfl, hb⟩; rw [HS2.out]; (try replace HA := Lib.hid (HA.out.next hb)); (try replace HBx := Lib.hid (HBx.out.next hb)); replace HC := Lib.hid (HC.out.trans (hb.mono HC.out.size)); clear hb
      refine hK.out _ _ ?_ (fun hHeld => ?_)
      · (try dsimp only); first | exact HS.out _ (HC.out.mono HWB.out) | exact HS.out _ (Below.refl _ _).drew
      clear hK K
      try simp only [Act.put, List.setIfInBounds_toArray, List.set_cons_zero, List.set_cons_succ]
      refine htake (i := 29) (v := ?v27) rfl (by kernel_rfl) (by kernel_rfl) (by kernel_rfl) (fun _ _ _ h => h) (Or.inl ⟨by rfl, ?hy27⟩) (by assumption) ?_
      case hy27 => (intro w hSw; (try dsimp only at hSw); go_simp; try (with_reducible rfl))
      try simp only [Act.put, List.setIfInBounds_toArray, List.set_cons_zero, List.set_cons_succ]
      refine wpAnyH_ready (rs := [30]) (by kernel_rfl) (by simp) ?_
      refine hcons rfl (fun K hK => ?_) (AllReadyH.nil)
      go_simp
      refine (write_lines [] ((dL m.d).take 2) (s1 ++ s2) HT2.out b _ (HH1.out.next HC.out) (by have h1 := take_len (dL m.d) 2; have h2 := HLEN.out; rw [List.nil_append]; unfold dText at h2; omega)).mono ?_; rintro e0 V30 ⟨rfl, hh, hb, -⟩; have HH2 := Lib.hid hh; replace HC := Lib.hid ((HC.out.mono HWB.out).trans (hb.mono (Nat.le_refl _))); clear hb hh
      refine hK.out _ _ ?_ (fun hHeld => ?_)
      · (try dsimp only); exact HS.out _ HC.out
      clear hK K
      try simp only [Act.put, List.setIfInBounds_toArray, List.set_cons_zero, List.set_cons_succ]
      refine wpAnyH_done (by kernel_rfl) ?_ _
      refine NoPanic.normal ?_
      rotate_left
      go_simp
      (first | refine hold_alloc (fun Wb q1 q2 q3 => ?_) | refine hold_alloc_drew (fun Wb q1 q2 q3 => ?_)); (have HCn : Below V1.heap.size V1 Wb := by first | exact HC.out.trans (q1.mono HC.out.size) | exact q1); (try replace HA := Lib.hid (HA.out.next q1)); have HBx := Lib.hid q2; replace HC := Lib.hid HCn; clear HCn q1 q2 q3
      refine hK.out _ _ ?_ (fun hHeld => ?_)
      · (try dsimp only); first | exact HS.out _ (HC.out.mono HWB.out) | exact HS.out _ (Below.refl _ _).drew
      clear hK K
      try simp only [Act.put, List.setIfInBounds_toArray, List.set_cons_zero, List.set_cons_succ]
      refine wpAnyH_ready (rs := [8]) (by kernel_rfl) (by simp) ?_
      refine hcons rfl (fun K hK => ?_) (AllReadyH.nil)
      go_simp
      (first | refine hold_alloc (fun Wa q1 q2 q3 => ?_) | refine hold_alloc_drew (fun Wa q1 q2 q3 => ?_)); (have HCn : Below V1.heap.size V1 Wa := by first | exact HC.out.trans (q1.mono HC.out.size) | exact q1); (try replace HBx := Lib.hid (HBx.out.next q1)); have HA := Lib.hid q2; replace HC := Lib.hid HCn; clear HCn q1 q2 q3
      refine hK.out _ _ ?_ (fun hHeld => ?_)
      · (try dsimp only); first | exact HS.out _ (HC.out.mono HWB.out) | exact HS.out _ (Below.refl _ _).drew
      clear hK K
      try simp only [Act.put, List.setIfInBounds_toArray, List.set_cons_zero, List.set_cons_succ]
      refine wpAnyH_ready (rs := [9]) (by kernel_rfl) (by simp) ?_
      refine hcons rfl (fun K hK => ?_) (AllReadyH.nil)
      go_simp
      refine (row_any _ 3 (l1w m.d) _ (HE.out.next (HB1.out.trans (HC.out.mono HB1.out.size))) (at_row (l := l1w m.d) HA.out) (by simp [l1w]) (by simp [l1w]) HK1.out).mono ?_; rintro e0 V9 ⟨rfl, hb⟩; rw [HS1.out]; (try replace HA := Lib.hid (HA.out.next hb)); (try replace HBx := Lib.hid (HBx.out.next hb)); replace HC := Lib.hid (HC.out.trans (hb.mono HC.out.size)); clear hb
      refine hK.out _ _ ?_ (fun hHeld => ?_)
      · (try dsimp only); first | exact HS.out _ (HC.out.mono HWB.out) | exact HS.out _ (Below.refl _ _).drew
      clear hK K
      try simp only [Act.put, List.setIfInBounds_toArray, List.set_cons_zero, List.set_cons_succ]
      refine wpAnyH_ready (rs := [28]) (by kernel_rfl) (by simp) ?_
      refine hcons rfl (fun K hK => ?_) (AllReadyH.nil)
      go_simp
      refine (row_any _ 5 (l2w m.d) _ (HE.out.next (HB1.out.trans (HC.out.mono HB1.out.size))) (at_row (l := l2w m.d) HBx.out) (by simp [l2w]) (by simp [l2w]) HK2.out).mono ?_; rintro e0 V28 ⟨rfl, hb⟩; rw [HS2.out]; (try replace HA := Lib.hid (HA.out.next hb)); (try replace HBx := Lib.hid (HBx.out.next hb)); replace HC := Lib.hid (HC.out.trans (hb.mono HC.out.size)); clear hb
      refine hK.out _ _ ?_ (fun hHeld => ?_)
      · (try dsimp only); first | exact HS.out _ (HC.out.mono HWB.out) | exact HS.out _ (Below.refl _ _).drew
      clear hK K
      try simp only [Act.put, List.setIfInBounds_toArray, List.set_cons_zero, List.set_cons_succ]
      refine htake (i := 29) (v := ?v28) rfl (by kernel_rfl) (by kernel_rfl) (by kernel_rfl) (fun _ _ _ h => h) (Or.inl ⟨by rfl, ?hy28⟩) (by assumption) ?_
      case hy28 => (intro w hSw; (try dsimp only at hSw); go_simp; try (with_reducible rfl))
      try simp only [Act.put, List.setIfInBounds_toArray, List.set_cons_zero, List.set_cons_succ]
      refine wpAnyH_ready (rs := [30]) (by kernel_rfl) (by simp) ?_
      refine hcons rfl (fun K hK => ?_) (AllReadyH.nil)
      go_simp
      refine (write_lines [] ((dL m.d).take 2) (s1 ++ s2) HT2.out b _ (HH1.out.next HC.out) (by have h1 := take_len (dL m.d) 2; have h2 := HLEN.out; rw [List.nil_append]; unfold dText at h2; omega)).mono ?_; rintro e0 V30 ⟨rfl, hh, hb, -⟩; have HH2 := Lib.hid hh; replace HC := Lib.hid ((HC.out.mono HWB.out).trans (hb.mono (Nat.le_refl _))); clear hb hh
      refine hK.out _ _ ?_ (fun hHeld => ?_)
      · (try dsimp only); exact HS.out _ HC.out
      clear hK K
      try simp only [Act.put, List.setIfInBounds_toArray, List.set_cons_zero, List.set_cons_succ]
      refine wpAnyH_done (by kernel_rfl) ?_ _
      refine NoPanic.normal ?_
      iterate 32 (try clear hHeld)
      all_goals (go_wp2_with fail; go_meet)
      all_goals exact ⟨rfl, HC.out, HH2.out⟩
    case rest =>
      obtain ⟨rfl, hbw, hh⟩ := hcut
      clear HS HK1 HK2 HT2 HS1 HS2 HLT hcat g1 HH1
      have c8 := (HX1.out.below hbw hbb).c 8 _ rfl
      have HWC := Lib.hid (HB1.out.trans (hbw.mono hwb))
      have HH := Lib.hid hh
      clear hbw hh HX1 HN HB1
      go_wp2_with fail
      clear c8
      go_loopw [45] (fun i wr => RDp m w b i wr) (fun i _ => m.d.pieces.length - (intOf i).toNat)
      case atStart => exact ⟨0, by omega, rfl, HWC.out, HH.out⟩
      case round =>
        obtain ⟨k, hk, rfl, hb, hh⟩ := hrel
        have HB := Lib.hid hb
        have HH := Lib.hid hh
        clear hb hh
        by_cases hlt : k < m.d.pieces.length
        · obtain ⟨q, off, hA, hbk, hcs⟩ := HR.out.pc.below HB.out k m.d.pieces[k] (List.getElem?_eq_getElem hlt)
          have HPK := Lib.hid (show okPc m.d.pieces[k] = true from List.all_eq_true.1 (okPu_iff' HOK.out).2.2.2.2.2.2.2.2.2.2.2.2.2.2 _ (List.getElem_mem hlt))
          have HPI := Lib.hid (show m.d.pieces[k]? = some m.d.pieces[k] from List.getElem?_eq_getElem hlt)
          obtain ⟨p, hp⟩ : ∃ p, m.d.pieces[k] = p := ⟨_, rfl⟩
          rw [hp] at hcs HPK HPI
          clear hp
          have HIX := Lib.hid (fun W k e h he => pc_idx p W k e h he)
          have HON := Lib.hid (all_oneCell_toArray (pc_one p))
          have HLN := pc_len p
          obtain ⟨L, hL⟩ : ∃ L, p.cells = L := ⟨_, rfl⟩
          rw [hL] at hcs HIX HON HLN
          clear hL
          have HRG := Lib.hid (show wr.rangeAt q (off + k * 28) L from fun j u hu => hcs j u hu)
          have HS1 := Lib.hid (show (Tryz.prog.info? 51).map (·.size) = some L.length by rw [HLN]; exact pc_size)
          have HS2 := Lib.hid (show (Tryz.prog.info? 51).map (·.size) = some L.toArray.size by rw [List.size_toArray, HLN]; exact pc_size)
          have HS3 := Lib.hid (show (Tryz.prog.info? 49).map (·.size) = some L.length by rw [HLN]; exact ar_size)
          have HLN' := Lib.hid HLN
          clear HLN hcs
          have hwk : IntKind.i64.wrap ((k : Int) + 1) = (k : Int) + 1 := IntWalk.i64_in _ (by omega)
          have HZ := Lib.hid (Bx.new wr #[.int .i64 0, .int .i64 0, .int .i64 0, .int .i64 0, .int .i64 0, .int .i64 0, .int .i64 0, .int .i64 0, .int .i64 0, .int .i64 0, .int .i64 0, .int .i64 0, .int .i64 0, .int .i64 0, .int .i64 0, .int .i64 0, .int .i64 0, .int .i64 0, .int .i64 0, .int .i64 0, .int .i64 0, .int .i64 0, .int .i64 0, .int .i64 0, .int .i64 0, .int .i64 0, .int .i64 0, .int .i64 0] 51)
          have HA := Lib.hid (nxA wr (.cells #[.int .i64 0, .int .i64 0, .int .i64 0, .int .i64 0, .int .i64 0, .int .i64 0, .int .i64 0, .int .i64 0, .int .i64 0, .int .i64 0, .int .i64 0, .int .i64 0, .int .i64 0, .int .i64 0, .int .i64 0, .int .i64 0, .int .i64 0, .int .i64 0, .int .i64 0, .int .i64 0, .int .i64 0, .int .i64 0, .int .i64 0, .int .i64 0, .int .i64 0, .int .i64 0, .int .i64 0, .int .i64 0] 51))
          have HKD := Lib.hid (Kd.setCells L 0 (b := wr.heap.size) (Kd.new wr #[.int .i64 0, .int .i64 0, .int .i64 0, .int .i64 0, .int .i64 0, .int .i64 0, .int .i64 0, .int .i64 0, .int .i64 0, .int .i64 0, .int .i64 0, .int .i64 0, .int .i64 0, .int .i64 0, .int .i64 0, .int .i64 0, .int .i64 0, .int .i64 0, .int .i64 0, .int .i64 0, .int .i64 0, .int .i64 0, .int .i64 0, .int .i64 0, .int .i64 0, .int .i64 0, .int .i64 0, .int .i64 0] 51))
          rw [← wset_eq] at HKD
          have HTH := Lib.hid (show (wr.alloc (.cells #[.int .i64 0, .int .i64 0, .int .i64 0, .int .i64 0, .int .i64 0, .int .i64 0, .int .i64 0, .int .i64 0, .int .i64 0, .int .i64 0, .int .i64 0, .int .i64 0, .int .i64 0, .int .i64 0, .int .i64 0, .int .i64 0, .int .i64 0, .int .i64 0, .int .i64 0, .int .i64 0, .int .i64 0, .int .i64 0, .int .i64 0, .int .i64 0, .int .i64 0, .int .i64 0, .int .i64 0, .int .i64 0] 51)).there wr.heap.size 0 L.toArray.size by rw [show L.toArray.size = 28 from (by simp : L.toArray.size = L.length).trans HLN'.out]; exact HZ.out.there)
          rw [hA]
          go_upto_region 8 with fail
          go_upto_region 9 with (first | (refine wpList_load_mid rfl 51 (.tmp 48) rfl q (off + k * 28) rfl L _ HRG.out pc_und rfl HS1.out ?_) | (refine wpList_store_mid rfl 51 (.tmp 6) (.tmp 49) rfl wr.heap.size 0 L.toArray rfl rfl HTH.out HS2.out HON.out ?_))
          have HZ2 := Lib.hid (HZ.out.wset L HLN'.out)
          have HB2 := Lib.hid (show Below wr.heap.size wr ((wr.alloc (.cells #[.int .i64 0, .int .i64 0, .int .i64 0, .int .i64 0, .int .i64 0, .int .i64 0, .int .i64 0, .int .i64 0, .int .i64 0, .int .i64 0, .int .i64 0, .int .i64 0, .int .i64 0, .int .i64 0, .int .i64 0, .int .i64 0, .int .i64 0, .int .i64 0, .int .i64 0, .int .i64 0, .int .i64 0, .int .i64 0, .int .i64 0, .int .i64 0, .int .i64 0, .int .i64 0, .int .i64 0, .int .i64 0] 51)).setCells wr.heap.size 0 L) by rw [wset_eq]; exact below_setCells (Nat.le_refl _) L 0 HA.out)
          generalize ((wr.alloc (.cells #[.int .i64 0, .int .i64 0, .int .i64 0, .int .i64 0, .int .i64 0, .int .i64 0, .int .i64 0, .int .i64 0, .int .i64 0, .int .i64 0, .int .i64 0, .int .i64 0, .int .i64 0, .int .i64 0, .int .i64 0, .int .i64 0, .int .i64 0, .int .i64 0, .int .i64 0, .int .i64 0, .int .i64 0, .int .i64 0, .int .i64 0, .int .i64 0, .int .i64 0, .int .i64 0, .int .i64 0, .int .i64 0] 51)).setCells wr.heap.size 0 L) = W2 at *
          clear HZ HA HTH HRG HS1 HS2 HON
          have HH2 := Lib.hid (HH.out.next HB2.out)
          have HBW := Lib.hid (HB.out.trans (HB2.out.mono HB.out.size))
          have hgb : wr.heap.size ≠ b := by have := HH.out.lt; omega
          have hgl : b ≤ wr.heap.size := Nat.le_of_lt HH.out.lt
          obtain ⟨g, hg⟩ : ∃ g, g = wr.heap.size := ⟨_, rfl⟩
          rw [← hg] at HZ2 HKD hgb hgl ⊢
          clear hg HB HH HB2
          have hx := Bx.new W2 #[(Wd.t wPiece).v, (Wd.n (k : Int)).v] 20
          have hn := nxA W2 (.cells #[(Wd.t wPiece).v, (Wd.n (k : Int)).v] 20)
          have HR3 := Lib.hid (row_any (some ⟨W2.heap.size, 0, none⟩) 2 [Wd.t wPiece, Wd.n (k : Int)] _ (HE.out.next (HBW.out.trans (hn.mono HBW.out.size))) (at_row hx) (by simp) (by simp) (by
            intro x hx
            simp only [List.mem_cons, List.not_mem_nil, or_false] at hx
            rcases hx with rfl | rfl
            · show wPiece.length ≤ 20; decide
            · exact ⟨by omega, by omega⟩))
          have HB3 := Lib.hid hn
          clear hx hn
          go_wp2_with fail
          refine HR3.out.mono ?_
          rintro e V4 ⟨rfl, hb⟩
          have HB4 := Lib.hid (HB3.out.trans (hb.mono HB3.out.size))
          clear hb HB3 HR3
          have HL1 := Lib.hid (take_one (dL_piece HPI.out))
          go_wp2_with fail
          refine (write_lines ((dL m.d).take (2 + 5 * k)) [[wPiece, Lib.itoa k]] _ (textL_one [wPiece, Lib.itoa k]).symm b V4 (HH2.out.next HB4.out) (by rw [← HL1.out]; have h1 := take_len (dL m.d) (2 + 5 * k + 1); have h2 := HLEN.out; unfold dText at h2; omega)).mono ?_
          rintro e V5 ⟨rfl, hh, hb, hot⟩
          rw [← HL1.out] at hh
          have HH5 := Lib.hid hh
          have HB5 := Lib.hid ((HBW.out.trans (HB4.out.mono HBW.out.size)).trans (hb.mono hwb))
          have HX5 := Lib.hid ((HZ2.out.next HB4.out).others (HKD.out.next HB4.out) hot hgb (by decide))
          clear hh hb hot HB4 HH2 HZ2 HKD HBW
          have HRG2 := Lib.hid HX5.out.range
          go_wp2_with (refine wpList_load_mid rfl 49 (.tmp 56) rfl g 0 rfl L _ HRG2.out ar_und rfl HS3.out ?_)
          clear HRG2 HX5 HS3
          go_loopw [58] (fun jv wx => RDe m k w b jv wx) (fun jv _ => 4 - (intOf jv).toNat)
          case atStart => exact ⟨0, by omega, rfl, HB5.out, HH5.out⟩
          case round =>
            obtain ⟨j, hj, rfl, hb, hh⟩ := hrel
            have HB6 := Lib.hid hb
            have HH6 := Lib.hid hh
            clear hb hh
            have hwj : IntKind.i64.wrap ((j : Int) + 1) = (j : Int) + 1 := IntWalk.i64_in _ (by omega)
            by_cases hlj : j < 4
            · have HPE := Lib.hid (dL_edge HPI.out hlj)
              have HOE := Lib.hid (show okEd (pe p j) = true by
                have := okPc_pe p
                rw [HPK.out] at this
                simp only [Bool.and_eq_true, Bool.true_eq] at this
                obtain ⟨t0, t1, t2, t3⟩ := this
                match j, hlj with
                | 0, _ => exact t0
                | 1, _ => exact t1
                | 2, _ => exact t2
                | 3, _ => exact t3)
              obtain ⟨e, he⟩ : ∃ e, pe p j = e := ⟨_, rfl⟩
              have hix := fun W => HIX.out W j e hlj he
              rw [he] at HPE HOE
              clear he
              have HL2 := Lib.hid (take_one HPE.out)
              have hA := nxA wr (.cells #[.int .i64 e.kind, .int .i64 e.a.lo, .int .i64 e.a.hi, .int .i64 e.w.lo, .int .i64 e.w.hi, .int .i64 e.d.lo, .int .i64 e.d.hi] 48)
              have HB7 := Lib.hid (HB6.out.trans (hA.mono HB6.out.size))
              have HH7 := Lib.hid (HH6.out.next hA)
              clear hA
              go_wp2_with fail
              refine (sideOf_any e _).mono ?_
              rintro x V8 ⟨rfl, hb⟩
              have HB8 := Lib.hid (HB7.out.trans (hb.mono HB7.out.size))
              have HH8 := Lib.hid (HH7.out.next hb)
              clear hb HB7 HH7 HB6 HH6
              have HLE := Lib.hid (show (textL ((dL m.d).take (2 + 5 * k + 1 + j + 1))).length ≤ 140737488355328 by have h1 := take_len (dL m.d) (2 + 5 * k + 1 + j + 1); have h2 := HLEN.out; unfold dText at h2; omega)
              by_cases hk0 : e.kind = 0
              · rw [show sideV e = .iface 154 (.agg #[]) by unfold sideV; rw [if_pos hk0]]
                rw [show edW e = [wFlat] by unfold edW; rw [if_pos hk0]] at HL2
                clear hk0 HOE
                have hmth := mth_flat_line
                go_wp2_with fail
                refine (flatLine_any V8 (HE.out.next HB8.out)).mono ?_
                rintro e V9 ⟨rfl, hb⟩
                have HB9 := Lib.hid (HB8.out.trans (hb.mono HB8.out.size))
                have HH9 := Lib.hid (HH8.out.next hb)
                clear hb HB8 HH8
                go_wp2_with fail
                refine (write_lines _ [[wFlat]] _ (textL_one [wFlat]).symm b V9 HH9.out (by rw [← HL2.out]; exact HLE.out)).mono ?_
                rintro e V10 ⟨rfl, hh, hb, -⟩
                rw [← HL2.out] at hh
                have HB10 := Lib.hid (HB9.out.trans (hb.mono hwb))
                have HH10 := Lib.hid hh
                clear hb hh HB9 HH9
                go_wp2_with fail
                (first | (refine ⟨?_, ?_⟩; (unfold RDe; exact ⟨j + 1, by omega, by go_num, HB10.out, HH10.out⟩); (simp [intOf]; omega)) | (go_roundw; (case rel => (unfold RDe; exact ⟨j + 1, by omega, by go_num, HB10.out, HH10.out⟩)); (case measure => (simp [intOf]; omega))) | (go_round; (case rel => (unfold RDe; exact ⟨j + 1, by omega, by go_num, HB10.out, HH10.out⟩)); (case measure => (simp [intOf]; omega))))
              · obtain ⟨hkk, h1, h2, h3⟩ := okE_wd HOE.out hk0
                rw [show sideV e = .iface 155 (.agg #[.int .i64 e.kind, .int .i64 e.a.lo, .int .i64 e.a.hi, .int .i64 e.w.lo, .int .i64 e.w.hi, .int .i64 e.d.lo, .int .i64 e.d.hi]) by unfold sideV; rw [if_neg hk0]]
                rw [show edW e = [kindW e.kind, spT e.a, spT e.w, spT e.d] by unfold edW; rw [if_neg hk0]] at HL2
                have HBL := Lib.hid (bowedLine_any e V8 (HE.out.next HB8.out) hkk h1 h2 h3)
                clear hk0 hkk h1 h2 h3 HOE
                have hmth := mth_bowed_line
                go_wp2_with fail
                refine HBL.out.mono ?_
                rintro e0 V9 ⟨rfl, hb⟩
                have HB9 := Lib.hid (HB8.out.trans (hb.mono HB8.out.size))
                have HH9 := Lib.hid (HH8.out.next hb)
                clear hb HB8 HH8 HBL
                go_wp2_with fail
                refine (write_lines _ [[kindW e.kind, spT e.a, spT e.w, spT e.d]] _ (textL_one _).symm b V9 HH9.out (by rw [← HL2.out]; exact HLE.out)).mono ?_
                rintro e0 V10 ⟨rfl, hh, hb, -⟩
                rw [← HL2.out] at hh
                have HB10 := Lib.hid (HB9.out.trans (hb.mono hwb))
                have HH10 := Lib.hid hh
                clear hb hh HB9 HH9
                go_wp2_with fail
                (first | (refine ⟨?_, ?_⟩; (unfold RDe; exact ⟨j + 1, by omega, by go_num, HB10.out, HH10.out⟩); (simp [intOf]; omega)) | (go_roundw; (case rel => (unfold RDe; exact ⟨j + 1, by omega, by go_num, HB10.out, HH10.out⟩)); (case measure => (simp [intOf]; omega))) | (go_round; (case rel => (unfold RDe; exact ⟨j + 1, by omega, by go_num, HB10.out, HH10.out⟩)); (case measure => (simp [intOf]; omega))))
            · obtain rfl : j = 4 := by omega
              have HN := Lib.hid (show Hld ((dL m.d).take (2 + 5 * (k + 1))) b wr by rw [show 2 + 5 * (k + 1) = 2 + 5 * k + 1 + 4 by omega]; exact HH6.out)
              go_wp2_with fail
              all_goals (first | (refine ⟨?_, ?_⟩; (unfold RDp; exact ⟨k + 1, by omega, by go_num, HB6.out, HN.out⟩); (simp [intOf]; omega)) | (go_roundw; (case rel => (unfold RDp; exact ⟨k + 1, by omega, by go_num, HB6.out, HN.out⟩)); (case measure => (simp [intOf]; omega))) | (go_round; (case rel => (unfold RDp; exact ⟨k + 1, by omega, by go_num, HB6.out, HN.out⟩)); (case measure => (simp [intOf]; omega))))
        · obtain rfl : k = m.d.pieces.length := by omega
          rw [dL_all] at HH
          go_wp2_with fail
          refine (String_any _ b _ HH.out).mono ?_
          rintro e V2 ⟨rfl, hb⟩
          have HB2 := Lib.hid (HB.out.trans (hb.mono hwb))
          clear hb
          go_wp2_with fail
          go_ret
          exact ⟨rfl, HB2.out⟩
end Go.Proofs.YtonnemkecppmiaaGreatDoor
