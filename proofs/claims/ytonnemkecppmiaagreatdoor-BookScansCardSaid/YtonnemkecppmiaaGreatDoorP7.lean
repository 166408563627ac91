import Derived.Test.YtonnemkecppmiaaGreatDoorP6
namespace Go.Proofs.YtonnemkecppmiaaGreatDoor
open Go.RowKit
/-! The program: the line of a side. -/
theorem flat_size : (Tryz.prog.info? 154).map (fun i => i.size) = some 0 := by kernel_rfl
theorem okE_wd {e : Ed} (h : okEd e = true) (hk : e.kind ≠ 0) : (e.kind = 1 ∨ e.kind = 2) ∧ (Wd.s e.a).ok ∧ (Wd.s e.w).ok ∧ (Wd.s e.d).ok := by
  rcases okEd_cases h with rfl | ⟨h1, h2, h3, h4⟩
  · exact absurd rfl hk
  · have a := okSp_iff.1 h2
    have b := okSp_iff.1 h3
    have c := okSp_iff.1 h4
    exact ⟨h1, ⟨by omega, by omega, by omega, by omega⟩, ⟨by omega, by omega, by omega, by omega⟩, ⟨by omega, by omega, by omega, by omega⟩⟩
theorem nm_idx0 (W : World) : (Instr.index 139 (.agg #[tx wFlat, tx wTab, tx wHole]) (.int .i64 0)).run Tryz.prog W = .ok (tx wFlat) W := by kernel_rfl
theorem nm_idx {k : Int} (h : k = 1 ∨ k = 2) (W : World) : (Instr.index 139 (.agg #[tx wFlat, tx wTab, tx wHole]) (.int .i64 k)).run Tryz.prog W = .ok (tx (kindW k)) W := by
  rcases h with rfl | rfl
  · kernel_rfl
  · kernel_rfl
theorem at_row {w : World} {g : Nat} {l : List Wd} (h : Bx w g (l.map Wd.v)) : At w w.heap.size 1 wv (some ⟨g, 0, none⟩) l := fun k x hx => by
  refine ⟨g, 0, rfl, h.lt, fun j u hu => ?_⟩
  rcases j with _ | j
  · injection hu with hu
    subst hu
    rw [Nat.zero_add, Nat.mul_one, Nat.add_zero]
    exact h.c k _ (by rw [List.getElem?_map, hx]; rfl)
  · cases hu
set_option maxRecDepth 100000 in
set_option maxHeartbeats 2000000 in
theorem flatLine_any (w : World) (hE : Env w) : Calls Tryz.prog 171 #[.agg #[]] w (Ret (tx (wFlat ++ [10])) w) := by
  have HE := Lib.hid hE
  clear hE
  go_enter Tryz.func171, Tryz.ntmps171
  have hn := nxA w (.cells #[] 154)
  have HE1 := Lib.hid (HE.out.next hn)
  have HB1 := Lib.hid hn
  clear hn
  go_wp2_with fail
  refine (names_any _).mono ?_
  rintro e V ⟨rfl, hb⟩
  have HE2 := Lib.hid (HE1.out.next hb)
  have HB2 := Lib.hid (HB1.out.trans (hb.mono HB1.out.size))
  clear hb
  have hx := Bx.new V #[(Wd.t wFlat).v] 20
  have hn := nxA V (.cells #[(Wd.t wFlat).v] 20)
  have HB3 := Lib.hid (HB2.out.trans (hn.mono HB2.out.size))
  have HR := Lib.hid (row_any (some ⟨V.heap.size, 0, none⟩) 1 [Wd.t wFlat] _ (HE2.out.next hn) (at_row hx) (by simp) (by simp) (by intro x hx; rw [List.mem_singleton.1 hx]; show wFlat.length ≤ 20; decide))
  clear hn hx
  have hix := nm_idx0
  go_wp2_with fail
  refine HR.out.mono ?_
  rintro e V4 ⟨rfl, hb⟩
  have HB4 := Lib.hid (HB3.out.trans (hb.mono HB3.out.size))
  clear hb
  go_wp2_with fail
  go_ret
  exact ⟨rfl, HB4.out⟩
set_option maxRecDepth 100000 in
set_option maxHeartbeats 4000000 in
theorem bowedLine_any (e : Ed) (w : World) (hE : Env w) (hk : e.kind = 1 ∨ e.kind = 2) (ha : (Wd.s e.a).ok) (hw : (Wd.s e.w).ok) (hd : (Wd.s e.d).ok) : Calls Tryz.prog 173 #[.agg #[.int .i64 e.kind, .int .i64 e.a.lo, .int .i64 e.a.hi, .int .i64 e.w.lo, .int .i64 e.w.hi, .int .i64 e.d.lo, .int .i64 e.d.hi]] w (Ret (tx (glue 32 [kindW e.kind, spT e.a, spT e.w, spT e.d] ++ [10])) w) := by
  have HE := Lib.hid hE
  have hix := fun W => nm_idx hk W
  have HOK := Lib.hid (show ∀ x ∈ [Wd.t (kindW e.kind), Wd.s e.a, Wd.s e.w, Wd.s e.d], x.ok from fun x hx => by
    simp only [List.mem_cons, List.not_mem_nil, or_false] at hx
    rcases hx with rfl | rfl | rfl | rfl
    · show (kindW e.kind).length ≤ 20
      rcases hk with h | h <;> rw [h] <;> decide
    · exact ha
    · exact hw
    · exact hd)
  clear hE hk ha hw hd
  go_enter Tryz.func173, Tryz.ntmps173
  have HB0 := Lib.hid (nxA w (.cells #[.int .i64 e.kind, .int .i64 e.a.lo, .int .i64 e.a.hi, .int .i64 e.w.lo, .int .i64 e.w.hi, .int .i64 e.d.lo, .int .i64 e.d.hi] 155))
  have HX0 := Lib.hid (Bx.new w #[.int .i64 e.kind, .int .i64 e.a.lo, .int .i64 e.a.hi, .int .i64 e.w.lo, .int .i64 e.w.hi, .int .i64 e.d.lo, .int .i64 e.d.hi] 155)
  go_upto_region 1 with fail
  generalize (w.alloc (.cells #[.int .i64 e.kind, .int .i64 e.a.lo, .int .i64 e.a.hi, .int .i64 e.w.lo, .int .i64 e.w.hi, .int .i64 e.d.lo, .int .i64 e.d.hi] 155)) = V at *
  obtain ⟨b, hb⟩ : ∃ b, b = w.heap.size := ⟨_, rfl⟩
  rw [← hb] at HX0 ⊢
  clear hb
  have HS := Lib.hid (show ∀ W : World, Below V.heap.size V W → (W.cell? ⟨b, 0, none⟩ = some (.int .i64 e.kind) ∧ W.cell? ⟨b, 1, none⟩ = some (.int .i64 e.a.lo) ∧ W.cell? ⟨b, 2, none⟩ = some (.int .i64 e.a.hi) ∧ W.cell? ⟨b, 3, none⟩ = some (.int .i64 e.w.lo) ∧ W.cell? ⟨b, 4, none⟩ = some (.int .i64 e.w.hi) ∧ W.cell? ⟨b, 5, none⟩ = some (.int .i64 e.d.lo) ∧ W.cell? ⟨b, 6, none⟩ = some (.int .i64 e.d.hi)) from fun W h => ⟨(HX0.out.next h).c 0 _ rfl, (HX0.out.next h).c 1 _ rfl, (HX0.out.next h).c 2 _ rfl, (HX0.out.next h).c 3 _ rfl, (HX0.out.next h).c 4 _ rfl, (HX0.out.next h).c 5 _ rfl, (HX0.out.next h).c 6 _ rfl⟩)
  refine wp_region_noPanic ?_
  refine wp_region_held_drew (S := (fun W => W.cell? ⟨b, 0, none⟩ = some (.int .i64 e.kind) ∧ W.cell? ⟨b, 1, none⟩ = some (.int .i64 e.a.lo) ∧ W.cell? ⟨b, 2, none⟩ = some (.int .i64 e.a.hi) ∧ W.cell? ⟨b, 3, none⟩ = some (.int .i64 e.w.lo) ∧ W.cell? ⟨b, 4, none⟩ = some (.int .i64 e.w.hi) ∧ W.cell? ⟨b, 5, none⟩ = some (.int .i64 e.d.lo) ∧ W.cell? ⟨b, 6, none⟩ = some (.int .i64 e.d.hi))) (by kernel_rfl) ?_ (fun hHeld => ?_)
  · (try dsimp only); exact HS.out _ (Below.refl _ _).drew
  refine htake (i := 1) (v := ?v1) rfl (by kernel_rfl) (by kernel_rfl) (by kernel_rfl) (fun _ _ _ h => h) (Or.inl ⟨by rfl, ?hy1⟩) (by assumption) ?_
  case hy1 => (intro w hSw; (try dsimp only at hSw); go_simp; try (with_reducible rfl))
  try simp only [Act.put, List.setIfInBounds_toArray, List.set_cons_zero, List.set_cons_succ]
  refine htake (i := 2) (v := ?v2) rfl (by kernel_rfl) (by kernel_rfl) (by kernel_rfl) (fun _ _ _ h => h) (Or.inl ⟨by rfl, ?hy2⟩) (by assumption) ?_
  case hy2 => (intro w hSw; (try dsimp only at hSw); go_simp; try (with_reducible rfl))
  try simp only [Act.put, List.setIfInBounds_toArray, List.set_cons_zero, List.set_cons_succ]
  refine htake (i := 5) (v := ?v3) rfl (by kernel_rfl) (by kernel_rfl) (by kernel_rfl) (fun _ _ _ h => h) (Or.inl ⟨by rfl, ?hy3⟩) (by assumption) ?_
  case hy3 => (intro w hSw; (try dsimp only at hSw); go_simp; try (with_reducible rfl))
  try simp only [Act.put, List.setIfInBounds_toArray, List.set_cons_zero, List.set_cons_succ]
  refine htake (i := 6) (v := ?v4) rfl (by kernel_rfl) (by kernel_rfl) (by kernel_rfl) (fun _ _ _ h => h) (Or.inl ⟨by rfl, ?hy4⟩) (by assumption) ?_
  case hy4 => (intro w hSw; (try dsimp only at hSw); go_simp; try (with_reducible rfl))
  try simp only [Act.put, List.setIfInBounds_toArray, List.set_cons_zero, List.set_cons_succ]
  refine htake (i := 7) (v := ?v5) rfl (by kernel_rfl) (by kernel_rfl) (by kernel_rfl) (fun _ _ _ h => h) (Or.inl ⟨by rfl, ?hy5⟩) (by assumption) ?_
  case hy5 => (intro w hSw; (try dsimp only at hSw); go_simp; try (with_reducible rfl))
  try simp only [Act.put, List.setIfInBounds_toArray, List.set_cons_zero, List.set_cons_succ]
  refine htake (i := 8) (v := ?v6) rfl (by kernel_rfl) (by kernel_rfl) (by kernel_rfl) (fun _ _ _ h => h) (Or.inl ⟨by rfl, ?hy6⟩) (by assumption) ?_
  case hy6 => (intro w hSw; (try dsimp only at hSw); go_simp; try (with_reducible rfl))
  try simp only [Act.put, List.setIfInBounds_toArray, List.set_cons_zero, List.set_cons_succ]
  refine htake (i := 9) (v := ?v7) rfl (by kernel_rfl) (by kernel_rfl) (by kernel_rfl) (fun _ _ _ h => h) (Or.inl ⟨by rfl, ?hy7⟩) (by assumption) ?_
  case hy7 => (intro w hSw; (try dsimp only at hSw); go_simp; try (with_reducible rfl))
  try simp only [Act.put, List.setIfInBounds_toArray, List.set_cons_zero, List.set_cons_succ]
  refine htake (i := 10) (v := ?v8) rfl (by kernel_rfl) (by kernel_rfl) (by kernel_rfl) (fun _ _ _ h => h) (Or.inl ⟨by rfl, ?hy8⟩) (by assumption) ?_
  case hy8 => (intro w hSw; (try dsimp only at hSw); go_simp; try (with_reducible rfl))
  try simp only [Act.put, List.setIfInBounds_toArray, List.set_cons_zero, List.set_cons_succ]
  refine htake (i := 11) (v := ?v9) rfl (by kernel_rfl) (by kernel_rfl) (by kernel_rfl) (fun _ _ _ h => h) (Or.inl ⟨by rfl, ?hy9⟩) (by assumption) ?_
  case hy9 => (intro w hSw; (try dsimp only at hSw); go_simp; try (with_reducible rfl))
  try simp only [Act.put, List.setIfInBounds_toArray, List.set_cons_zero, List.set_cons_succ]
  refine htake (i := 12) (v := ?v10) rfl (by kernel_rfl) (by kernel_rfl) (by kernel_rfl) (fun _ _ _ h => h) (Or.inl ⟨by rfl, ?hy10⟩) (by assumption) ?_
  case hy10 => (intro w hSw; (try dsimp only at hSw); go_simp; try (with_reducible rfl))
  try simp only [Act.put, List.setIfInBounds_toArray, List.set_cons_zero, List.set_cons_succ]
  refine htake (i := 13) (v := ?v11) rfl (by kernel_rfl) (by kernel_rfl) (by kernel_rfl) (fun _ _ _ h => h) (Or.inl ⟨by rfl, ?hy11⟩) (by assumption) ?_
  case hy11 => (intro w hSw; (try dsimp only at hSw); go_simp; try (with_reducible rfl))
  try simp only [Act.put, List.setIfInBounds_toArray, List.set_cons_zero, List.set_cons_succ]
  refine wpAnyH_ready (rs := [0]) (by kernel_rfl) (by simp) ?_
  refine hcons rfl (fun K hK => ?_) (AllReadyH.nil)
  go_simp
  refine (names_any _).mono ?_; rintro e0 V1 ⟨rfl, hb⟩; have HB1 := Lib.hid ((Below.refl V.heap.size V).drew.trans hb); clear hb
  refine hK.out _ _ ?_ (fun hHeld => ?_)
  · (try dsimp only); exact HS.out _ HB1.out
  clear hK K
  try simp only [Act.put, List.setIfInBounds_toArray, List.set_cons_zero, List.set_cons_succ]
  refine htake (i := 3) (v := ?v12) rfl (by kernel_rfl) (by kernel_rfl) (by kernel_rfl) (fun _ _ _ h => h) (Or.inl ⟨by rfl, ?hy12⟩) (by assumption) ?_
  case hy12 => (intro w hSw; (try dsimp only at hSw); go_simp; try (with_reducible rfl))
  try simp only [Act.put, List.setIfInBounds_toArray, List.set_cons_zero, List.set_cons_succ]
  refine htake (i := 4) (v := ?v13) rfl (by kernel_rfl) (by kernel_rfl) (by kernel_rfl) (fun _ _ _ h => h) (Or.inl ⟨by rfl, ?hy13⟩) (by assumption) ?_
  case hy13 => (intro w hSw; (try dsimp only at hSw); go_simp; try (with_reducible rfl))
  try simp only [Act.put, List.setIfInBounds_toArray, List.set_cons_zero, List.set_cons_succ]
  refine wpAnyH_ready (rs := [14]) (by kernel_rfl) (by simp) ?_
  refine hcons rfl (fun K hK => ?_) (AllReadyH.nil)
  go_simp
  have hx := Bx.new V1 #[(Wd.t (kindW e.kind)).v, (Wd.s e.a).v, (Wd.s e.w).v, (Wd.s e.d).v] 20; have hn := nxA V1 (.cells #[(Wd.t (kindW e.kind)).v, (Wd.s e.a).v, (Wd.s e.w).v, (Wd.s e.d).v] 20); have HB2 := Lib.hid (HB1.out.trans (hn.mono HB1.out.size)); have HR := Lib.hid (row_any (some ⟨V1.heap.size, 0, none⟩) 4 [Wd.t (kindW e.kind), Wd.s e.a, Wd.s e.w, Wd.s e.d] _ (HE.out.next (HB0.out.trans (HB2.out.mono HB0.out.size))) (at_row hx) (by simp) (by simp) HOK.out); clear hn hx
  refine hK.out _ _ ?_ (fun hHeld => ?_)
  · (try dsimp only); exact HS.out _ HB2.out
  clear hK K
  try simp only [Act.put, List.setIfInBounds_toArray, List.set_cons_zero, List.set_cons_succ]
  refine wpAnyH_ready (rs := [15]) (by kernel_rfl) (by simp) ?_
  refine hcons rfl (fun K hK => ?_) (AllReadyH.nil)
  go_simp
  refine HR.out.mono ?_; rintro e0 V4 ⟨rfl, hb⟩; have HB4 := Lib.hid (HB2.out.trans (hb.mono HB2.out.size)); clear hb
  refine hK.out _ _ ?_ (fun hHeld => ?_)
  · (try dsimp only); exact HS.out _ HB4.out
  clear hK K
  try simp only [Act.put, List.setIfInBounds_toArray, List.set_cons_zero, List.set_cons_succ]
  refine htake (i := 16) (v := ?v14) rfl (by kernel_rfl) (by kernel_rfl) (by kernel_rfl) (fun _ _ _ h => h) (Or.inl ⟨by rfl, ?hy14⟩) (by assumption) ?_
  case hy14 => (intro w hSw; (try dsimp only at hSw); go_simp; try (with_reducible rfl))
  try simp only [Act.put, List.setIfInBounds_toArray, List.set_cons_zero, List.set_cons_succ]
  refine wpAnyH_done (by kernel_rfl) ?_ _
  refine NoPanic.normal ?_
  iterate 18 (try clear hHeld)
  go_wp2_with fail
  go_ret
  exact ⟨rfl, HB0.out.trans (HB4.out.mono HB0.out.size)⟩
theorem mth_flat_line (v : Value) (W : World) : (method 323 154 v "jigworks/book.line").run Tryz.prog W = .ok (171, v) W := by kernel_rfl
theorem mth_bowed_line (v : Value) (W : World) : (method 323 155 v "jigworks/book.line").run Tryz.prog W = .ok (173, v) W := by kernel_rfl
theorem mth_flat_bytes (v : Value) (W : World) : (method 323 154 v "jigworks/book.bytes").run Tryz.prog W = .ok (170, v) W := by kernel_rfl
theorem mth_bowed_bytes (v : Value) (W : World) : (method 323 155 v "jigworks/book.bytes").run Tryz.prog W = .ok (172, v) W := by kernel_rfl
end Go.Proofs.YtonnemkecppmiaaGreatDoor
