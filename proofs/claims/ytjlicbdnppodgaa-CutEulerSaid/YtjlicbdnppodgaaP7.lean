import Derived.Test.YtjlicbdnppodgaaP3
namespace Go.Proofs.Ytjlicbdnppodgaa
open Go.RowKit
open Go.Maps (Keyed)
/-! The program: count. -/
/-- One more for a key. -/
def upK {α : Type} [DecidableEq α] (f : α → Option Int) (p : α) : α → Option Int := setO f p ((f p).getD 0 + 1)
def RetCount {α : Type} [DecidableEq α] (k : TypeId) (kv : α → Value) (b : Nat) (f : α → Option Int) (p : α) (w : World) (e : Ending) (w' : World) : Prop := (∃ v, e = .returned v) ∧ MapIs Try.prog k kv vvI b (upK f p) w' ∧ w.grownBy w' (some b)
set_option maxHeartbeats 1000000 in
theorem count_pair_any (b : Nat) (f : Pt → Option Int) (p : Pt) (w : World) (hm : MapIs Try.prog 84 kv2 vvI b f w) (hp : I64 p.1 ∧ I64 p.2) (hv : 0 ≤ (f p).getD 0 ∧ (f p).getD 0 ≤ 1000000000) : Calls Try.prog 68 #[.map (some b), .agg #[.int .i64 p.1, .int .i64 p.2]] w (RetCount 84 kv2 b f p w) := by
  obtain ⟨l, hl⟩ := pair_key p.1 p.2 hp.1 hp.2
  have hg0 := World.grownBy_alloc w (.cells #[.int .i64 p.1, .int .i64 p.2] 84) none
  have hX := Bx.new w #[.int .i64 p.1, .int .i64 p.2] 84
  have hlt := hm.lt
  have hM := hm.grown hg0 (by simp)
  generalize hV : w.alloc (.cells #[.int .i64 p.1, .int .i64 p.2] 84) = V at *
  obtain ⟨W1, x, st, W2, h1, h2, h3, h4, h5, h6, h7, h8⟩ := (hM.of (W' := V.drew) rfl).entry pair_keyed kv2_inj mapP_und 0 zero_int (p := p) hl ((f p).getD 0 + 1)
  have hk1 := (MapIs.look (hM.of (W' := V.drew) rfl) pair_keyed kv2_inj mapP_und zero_int (p := p) hl).1
  have hk2 := (MapIs.look h2 pair_keyed kv2_inj mapP_und zero_int (p := p) hl).1
  have e1 : (f p).elim (vvI 0) vvI = .int .i64 ((f p).getD 0) := by cases f p <;> rfl
  have e2 : (if p = p then some ((f p).getD 0) else f p).elim (vvI 0) vvI = .int .i64 ((f p).getD 0) := by rw [if_pos rfl]; rfl
  rw [e1] at hk1
  rw [e2] at hk2
  have hb : w.heap.size ≠ b := by omega
  have X1 := Lib.hid (hX.drew.gk h3 (fun r e => by injection e with e; omega))
  have X2 := Lib.hid (X1.out.gk h7 (fun r e => by injection e with e; omega))
  have X0 := Lib.hid hX
  have HM := Lib.hid (show MapIs Try.prog 84 kv2 vvI b (upK f p) W2 from h6)
  have HG := Lib.hid ((hg0.but (some b)).trans (World.grownBy.trans (b := V.drew) ⟨rfl, rfl, rfl, Nat.le_refl _, fun _ _ _ => rfl⟩ (h3.trans h7)))
  have hw1 : IntKind.i64.wrap ((f p).getD 0 + 1) = (f p).getD 0 + 1 := IntWalk.i64_in _ (by omega)
  have c0 := hX.c 0 _ rfl
  have c1 := hX.c 1 _ rfl
  unfold vvI at h5
  unfold kv2 at h1 hk1 hk2
  clear hX h2 h3 h4 h6 h7 h8 hM e1 e2 hp hv hl
  generalize (f p).getD 0 = n at *
  go_enter Try.func68, Try.ntmps68
  go_upto_region 1 with fail
  refine wp_region_noPanic ?_
  refine wp_region_held_drew (S := (fun W => W.cell? ⟨w.heap.size, 0, none⟩ = some (.int .i64 p.1) ∧ W.cell? ⟨w.heap.size, 1, none⟩ = some (.int .i64 p.2))) (by kernel_rfl) ?_ (fun hHeld => ?_)
  · (try dsimp only); first | exact ⟨X0.out.c 0 _ rfl, X0.out.c 1 _ rfl⟩ | exact ⟨X1.out.c 0 _ rfl, X1.out.c 1 _ rfl⟩ | exact ⟨X2.out.c 0 _ rfl, X2.out.c 1 _ rfl⟩
  refine htake (i := 0) (v := ?v1) rfl (by kernel_rfl) (by kernel_rfl) (by kernel_rfl) (fun _ _ _ h => h) (Or.inl ⟨by rfl, ?hy1⟩) (by assumption) ?_
  case hy1 => (intro w hSw; (try dsimp only at hSw); go_simp; try (with_reducible rfl))
  try simp only [Act.put, List.setIfInBounds_toArray, List.set_cons_zero, List.set_cons_succ]
  refine htake (i := 1) (v := ?v2) rfl (by kernel_rfl) (by kernel_rfl) (by kernel_rfl) (fun _ _ _ h => h) (Or.inl ⟨by rfl, ?hy2⟩) (by assumption) ?_
  case hy2 => (intro w hSw; (try dsimp only at hSw); go_simp; try (with_reducible rfl))
  try simp only [Act.put, List.setIfInBounds_toArray, List.set_cons_zero, List.set_cons_succ]
  refine wpAnyH_ready (rs := [2, 4]) (by kernel_rfl) (by simp) ?_
  refine hcons rfl (fun K hK => ?_) (hcons rfl (fun K hK => ?_) (AllReadyH.nil))
  go_simp
  refine hK.out _ _ ?_ (fun hHeld => ?_)
  · (try dsimp only); first | exact ⟨X0.out.c 0 _ rfl, X0.out.c 1 _ rfl⟩ | exact ⟨X1.out.c 0 _ rfl, X1.out.c 1 _ rfl⟩ | exact ⟨X2.out.c 0 _ rfl, X2.out.c 1 _ rfl⟩
  clear hK K
  try simp only [Act.put, List.setIfInBounds_toArray, List.set_cons_zero, List.set_cons_succ]
  refine htake (i := 3) (v := ?v3) rfl (by kernel_rfl) (by kernel_rfl) (by kernel_rfl) (fun _ _ _ h => h) (Or.inl ⟨by rfl, ?hy3⟩) (by assumption) ?_
  case hy3 => (intro w hSw; (try dsimp only at hSw); go_simp; try (with_reducible rfl))
  try simp only [Act.put, List.setIfInBounds_toArray, List.set_cons_zero, List.set_cons_succ]
  refine wpAnyH_ready (rs := [4]) (by kernel_rfl) (by simp) ?_
  refine hcons rfl (fun K hK => ?_) (AllReadyH.nil)
  go_simp
  refine hK.out _ _ ?_ (fun hHeld => ?_)
  · (try dsimp only); first | exact ⟨X0.out.c 0 _ rfl, X0.out.c 1 _ rfl⟩ | exact ⟨X1.out.c 0 _ rfl, X1.out.c 1 _ rfl⟩ | exact ⟨X2.out.c 0 _ rfl, X2.out.c 1 _ rfl⟩
  clear hK K
  try simp only [Act.put, List.setIfInBounds_toArray, List.set_cons_zero, List.set_cons_succ]
  refine htake (i := 5) (v := ?v4) rfl (by kernel_rfl) (by kernel_rfl) (by kernel_rfl) (fun _ _ _ h => h) (Or.inl ⟨by rfl, ?hy4⟩) (by assumption) ?_
  case hy4 => (intro w hSw; (try dsimp only at hSw); go_simp; try (with_reducible rfl))
  try simp only [Act.put, List.setIfInBounds_toArray, List.set_cons_zero, List.set_cons_succ]
  refine wpAnyH_ready (rs := [6]) (by kernel_rfl) (by simp) ?_
  refine hcons rfl (fun K hK => ?_) (AllReadyH.nil)
  go_simp
  refine hK.out _ _ ?_ (fun hHeld => ?_)
  · (try dsimp only); first | exact ⟨X0.out.c 0 _ rfl, X0.out.c 1 _ rfl⟩ | exact ⟨X1.out.c 0 _ rfl, X1.out.c 1 _ rfl⟩ | exact ⟨X2.out.c 0 _ rfl, X2.out.c 1 _ rfl⟩
  clear hK K
  try simp only [Act.put, List.setIfInBounds_toArray, List.set_cons_zero, List.set_cons_succ]
  refine wpAnyH_done (by kernel_rfl) ?_ _
  refine NoPanic.normal ?_
  rotate_left
  go_simp
  refine hK.out _ _ ?_ (fun hHeld => ?_)
  · (try dsimp only); first | exact ⟨X0.out.c 0 _ rfl, X0.out.c 1 _ rfl⟩ | exact ⟨X1.out.c 0 _ rfl, X1.out.c 1 _ rfl⟩ | exact ⟨X2.out.c 0 _ rfl, X2.out.c 1 _ rfl⟩
  clear hK K
  try simp only [Act.put, List.setIfInBounds_toArray, List.set_cons_zero, List.set_cons_succ]
  refine htake (i := 5) (v := ?v5) rfl (by kernel_rfl) (by kernel_rfl) (by kernel_rfl) (fun _ _ _ h => h) (Or.inl ⟨by rfl, ?hy5⟩) (by assumption) ?_
  case hy5 => (intro w hSw; (try dsimp only at hSw); go_simp; try (with_reducible rfl))
  try simp only [Act.put, List.setIfInBounds_toArray, List.set_cons_zero, List.set_cons_succ]
  refine wpAnyH_ready (rs := [2]) (by kernel_rfl) (by simp) ?_
  refine hcons rfl (fun K hK => ?_) (AllReadyH.nil)
  go_simp
  refine hK.out _ _ ?_ (fun hHeld => ?_)
  · (try dsimp only); first | exact ⟨X0.out.c 0 _ rfl, X0.out.c 1 _ rfl⟩ | exact ⟨X1.out.c 0 _ rfl, X1.out.c 1 _ rfl⟩ | exact ⟨X2.out.c 0 _ rfl, X2.out.c 1 _ rfl⟩
  clear hK K
  try simp only [Act.put, List.setIfInBounds_toArray, List.set_cons_zero, List.set_cons_succ]
  refine htake (i := 3) (v := ?v6) rfl (by kernel_rfl) (by kernel_rfl) (by kernel_rfl) (fun _ _ _ h => h) (Or.inl ⟨by rfl, ?hy6⟩) (by assumption) ?_
  case hy6 => (intro w hSw; (try dsimp only at hSw); go_simp; try (with_reducible rfl))
  try simp only [Act.put, List.setIfInBounds_toArray, List.set_cons_zero, List.set_cons_succ]
  refine wpAnyH_ready (rs := [6]) (by kernel_rfl) (by simp) ?_
  refine hcons rfl (fun K hK => ?_) (AllReadyH.nil)
  go_simp
  refine hK.out _ _ ?_ (fun hHeld => ?_)
  · (try dsimp only); first | exact ⟨X0.out.c 0 _ rfl, X0.out.c 1 _ rfl⟩ | exact ⟨X1.out.c 0 _ rfl, X1.out.c 1 _ rfl⟩ | exact ⟨X2.out.c 0 _ rfl, X2.out.c 1 _ rfl⟩
  clear hK K
  try simp only [Act.put, List.setIfInBounds_toArray, List.set_cons_zero, List.set_cons_succ]
  refine wpAnyH_done (by kernel_rfl) ?_ _
  refine NoPanic.normal ?_
  iterate 8 (try clear hHeld)
  all_goals go_wp2_with fail
  all_goals refine bodyPost_ret (results_none rfl _ _ _) rfl ?_
  all_goals exact ⟨⟨_, rfl⟩, HM.out, HG.out⟩
theorem count_int_any (b : Nat) (f : Int → Option Int) (p : Int) (w : World) (hm : MapIs Try.prog 3 vvI vvI b f w) (hp : I64 p) (hv : 0 ≤ (f p).getD 0 ∧ (f p).getD 0 ≤ 1000000000) : Calls Try.prog 76 #[.map (some b), .int .i64 p] w (RetCount 3 vvI b f p w) := by
  obtain ⟨l, hl⟩ := int_key p hp
  obtain ⟨W1, h1, h2, h3, h4⟩ := hm.upd int_keyed' kvI_inj mapI_und (p := p) hl ((f p).getD 0 + 1)
  have hk1 := (MapIs.look hm int_keyed' kvI_inj mapI_und zero_int (p := p) hl).1
  have e1 : (f p).elim (vvI 0) vvI = .int .i64 ((f p).getD 0) := by cases f p <;> rfl
  rw [e1] at hk1
  have hw1 : IntKind.i64.wrap ((f p).getD 0 + 1) = (f p).getD 0 + 1 := IntWalk.i64_in _ (by omega)
  have HM := Lib.hid (show MapIs Try.prog 3 vvI vvI b (upK f p) W1 from h2)
  have HG := Lib.hid h3
  unfold vvI at h1 hk1
  clear h2 h3 h4 e1 hp hl hv hm
  generalize (f p).getD 0 = n at *
  go_enter Try.func76, Try.ntmps76
  go_wp2_with fail
  refine bodyPost_ret (results_none rfl _ _ _) rfl ?_
  exact ⟨⟨_, rfl⟩, HM.out, HG.out⟩
end Go.Proofs.Ytjlicbdnppodgaa
