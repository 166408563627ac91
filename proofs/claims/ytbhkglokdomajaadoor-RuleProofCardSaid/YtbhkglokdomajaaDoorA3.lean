import Derived.Test.YtbhkglokdomajaaDoorA1
import Derived.Test.YtbhkglokdomajaaDoorD3
namespace Go.Proofs.YtbhkglokdomajaaDoor
open Go.RowKit
/-! The law's own helper: sets. -/
theorem u8_at {W : World} {B : Nat} {A : Option Addr} {l : List Int} (h : At W B 1 u8cell A l) {k : Nat} (hk : k < l.length) : ∃ b off, A = some ⟨b, off, none⟩ ∧ b < B ∧ W.cell? ⟨b, off + k, none⟩ = some (.int .u8 (l.getD k 0)) := by
  obtain ⟨b, off, e, hb, hc⟩ := h k (l.getD k 0) (by rw [List.getD_eq_getElem?_getD, List.getElem?_eq_getElem hk]; rfl)
  refine ⟨b, off, e, hb, ?_⟩
  have := hc 0 _ rfl
  rw [Nat.mul_one] at this
  exact this
/-- A plan made by remainders: as many sets as are wanted, each one of those that there are. -/
def RetSets (d : Die) (l : List Stint) (w : World) (e : Ending) (w' : World) : Prop := ∃ plan : List Int, plan.length = l.length - 1 ∧ (∀ s ∈ plan, 0 ≤ s ∧ s.toNat < 2 ^ d.blades.length) ∧ ∃ A c, e = .returned (.slice A plan.length c) ∧ At w' w'.heap.size 1 icell A plan ∧ Below w.heap.size w w'
def RSets (d : Die) (l : List Stint) (B : Nat) (w0 : World) (v i : Value) (W : World) : Prop := ∃ plan : List Int, (plan.length ≤ l.length - 1) ∧ i = .int .i64 ((plan.length + 1 : Nat) : Int) ∧ W.ownsRow B 3 1 v plan.length (plan.flatMap icell) ∧ (∀ s ∈ plan, 0 ≤ s ∧ s.toNat < 2 ^ d.blades.length) ∧ Below w0.heap.size w0 W ∧ Bx W w0.heap.size (dieL d) ∧ B ≤ W.heap.size
set_option maxRecDepth 100000 in
set_option maxHeartbeats 1000000 in
theorem sets_any (d : Die) (A : Option Addr) (c : Nat) (l : List Stint) (A3 : Option Addr) (c3 : Nat) (bys : List Int) (w : World) (ok : OkD d) (okl : OkL l) (hb : At w w.heap.size 1 u8cell A3 bys) (hbl : bys.length ≤ 9223372036854775807) (hb0 : 0 < bys.length) (hbv : ∀ x ∈ bys, 0 ≤ x ∧ x < 256) :
    Calls Tryd.prog 35 #[.agg #[.slice d.A d.blades.length d.c, .int .i64 d.bound, .int .i64 d.stop, .int .i64 d.bend], .slice A l.length c, .slice A3 bys.length c3] w (RetSets d l w) := by
  obtain ⟨i1, gi, gz0, gz1, gz2⟩ := info_parts int_info
  have hnb := ok.nb
  have hnl := okl.nl
  have HBY := Lib.hid hb
  have HBV := Lib.hid hbv
  obtain ⟨M, hM⟩ : ∃ M : Nat, M = 2 ^ d.blades.length := ⟨_, rfl⟩
  have hM1 : 1 ≤ M ∧ M ≤ 32 := by
    rw [hM]
    exact ⟨Nat.pow_pos (by omega), (Nat.pow_le_pow_right (by omega) ok.nb.2 : 2 ^ d.blades.length ≤ 2 ^ 5)⟩
  have HM := Lib.hid hM
  have hpow : (2 : Int) ^ d.blades.length = (M : Int) := by rw [hM, Int.natCast_pow]; rfl
  have hn6 : d.blades.length ≤ 63 := by omega
  have B0 := Lib.hid (nxA w (.cells #[.slice d.A d.blades.length d.c, .int .i64 d.bound, .int .i64 d.stop, .int .i64 d.bend] 24))
  have X0 := Lib.hid (Bx.new w #[.slice d.A d.blades.length d.c, .int .i64 d.bound, .int .i64 d.stop, .int .i64 d.bend] 24)
  clear hM hb hbv ok okl
  go_enter Tryd.func35, Tryd.ntmps35
  go_wp2_with fail
  have HZ := Lib.hid (show (w.alloc (.cells #[.slice d.A d.blades.length d.c, .int .i64 d.bound, .int .i64 d.stop, .int .i64 d.bend] 24)).heap.size = w.heap.size + 1 by simp)
  generalize w.alloc (.cells #[.slice d.A d.blades.length d.c, .int .i64 d.bound, .int .i64 d.stop, .int .i64 d.bend] 24) = V at *
  go_loopw [7, 8] (fun v i wr => RSets d l (w.heap.size + 1) w v i wr) (fun _ i _ => l.length - (intOf i).toNat)
  case atStart => exact ⟨[], by simp, rfl, World.ownsRow_nil _ _ _ _, by simp, B0.out, X0.out, by have := HZ.out; omega⟩
  case round =>
    obtain ⟨plan, hpl, rfl, hown, hall, hbw, hx, hz⟩ := hrel
    by_cases hlt : plan.length + 1 < l.length
    · obtain ⟨i, hi⟩ : ∃ i, i = plan.length + 1 := ⟨_, rfl⟩
      rw [← hi] at hlt ⊢
      have HI := Lib.hid hi
      clear hi
      obtain ⟨idx, hidx⟩ : ∃ idx, idx = i % bys.length := ⟨_, rfl⟩
      have hidl : idx < bys.length := by rw [hidx]; exact Nat.mod_lt _ hb0
      have hI1 : (i : Int) % (bys.length : Int) = (idx : Int) := by rw [hidx]; rfl
      have hI2 : Int.tmod (i : Int) (bys.length : Int) = (idx : Int) := by rw [Int.tmod_eq_emod_of_nonneg (by omega)]; exact hI1
      clear hidx
      obtain ⟨bu, ou, e3, hbu, hv⟩ := u8_at (HBY.out.below hbw) hidl
      subst e3
      have hvb := HBV.out (bys.getD idx 0) (by rw [List.getD_eq_getElem?_getD, List.getElem?_eq_getElem hidl]; exact List.getElem_mem hidl)
      generalize bys.getD idx 0 = v at *
      obtain ⟨s, hs⟩ : ∃ s, v % (M : Int) = s := ⟨_, rfl⟩
      have hs2 : Int.tmod v (M : Int) = s := by rw [Int.tmod_eq_emod_of_nonneg hvb.1]; exact hs
      have hsb : 0 ≤ s ∧ s < M := by rw [← hs]; exact ⟨Int.emod_nonneg _ (by omega), Int.emod_lt_of_pos _ (by omega)⟩
      have hbz : bu < wr.heap.size := by have := hbw.size; omega
      have hxz := hx.lt
      have hb0I : ¬ (bys.length : Int) = 0 := by omega
      have hM0I : ¬ (M : Int) = 0 := by omega
      have hM0N : ¬ M = 0 := by omega
      have hwM : IntKind.i64.wrap (M : Int) = M := IntWalk.i64_in _ (by omega)
      have hwv : IntKind.i64.wrap v = v := IntWalk.i64_in _ (by omega)
      have hbne : ¬ bys = [] := by rintro rfl; simp at hb0
      have hn1 : u7.ownBlock ≠ some w.heap.size := own_row_ne hown (by omega)
      have hn2 : u7.ownBlock ≠ some bu := own_row_ne hown (by omega)
      have HKS := Lib.hid (show ∀ W, wr.grownBy W u7.ownBlock → (W.cell? ⟨w.heap.size, 0, none⟩ = some (.slice d.A d.blades.length d.c) ∧ W.cell? ⟨bu, ou + idx, none⟩ = some (.int .u8 v)) from fun W h =>
        ⟨(grown_cell h hxz hn1 _).trans (hx.c 0 _ rfl), (grown_cell h hbz hn2 _).trans hv⟩)
      have HO := Lib.hid hown
      have HW := Lib.hid hbw
      have HX := Lib.hid hx
      have HA := Lib.hid hall
      clear hown hbw hx hall hv
      go_wp2_with fail
      refine wp_region_noPanic ?_
      refine wp_region_held_drew (S := (fun W => W.cell? ⟨w.heap.size, 0, none⟩ = some (.slice d.A d.blades.length d.c) ∧ W.cell? ⟨bu, ou + idx, none⟩ = some (.int .u8 v))) (by kernel_rfl) ?_ (fun hHeld => ?_)
      · (try dsimp only); exact HKS.out _ (only_of_below (Below.refl _ _).drew _)
      refine htake (i := 0) (v := ?v1) rfl (by kernel_rfl) (by kernel_rfl) (by kernel_rfl) (fun _ _ _ h => h) (Or.inl ⟨by rfl, ?hy1⟩) (by assumption) ?_
      case hy1 => (intro w hSw; (try dsimp only at hSw); go_simp; try (with_reducible rfl))
      try simp only [Act.put, List.setIfInBounds_toArray, List.set_cons_zero, List.set_cons_succ]
      refine htake (i := 1) (v := ?v2) rfl (by kernel_rfl) (by kernel_rfl) (by kernel_rfl) (fun _ _ _ h => h) (Or.inl ⟨by rfl, ?hy2⟩) (by assumption) ?_
      case hy2 => (intro w hSw; (try dsimp only at hSw); go_simp; try (with_reducible rfl))
      try simp only [Act.put, List.setIfInBounds_toArray, List.set_cons_zero, List.set_cons_succ]
      refine htake (i := 2) (v := ?v3) rfl (by kernel_rfl) (by kernel_rfl) (by kernel_rfl) (fun _ _ _ h => h) (Or.inl ⟨by rfl, ?hy3⟩) (by assumption) ?_
      case hy3 => (intro w hSw; (try dsimp only at hSw); go_simp; try (with_reducible rfl))
      try simp only [Act.put, List.setIfInBounds_toArray, List.set_cons_zero, List.set_cons_succ]
      refine htake (i := 3) (v := ?v4) rfl (by kernel_rfl) (by kernel_rfl) (by kernel_rfl) (fun _ _ _ h => h) (Or.inl ⟨by rfl, ?hy4⟩) (by assumption) ?_
      case hy4 => (intro w hSw; (try dsimp only at hSw); go_simp; try (with_reducible rfl))
      try simp only [Act.put, List.setIfInBounds_toArray, List.set_cons_zero, List.set_cons_succ]
      refine htake (i := 4) (v := ?v5) rfl (by kernel_rfl) (by kernel_rfl) (by kernel_rfl) (fun _ _ _ h => h) (Or.inl ⟨by rfl, ?hy5⟩) (by assumption) ?_
      case hy5 => (intro w hSw; (try dsimp only at hSw); go_simp; try (with_reducible rfl))
      try simp only [Act.put, List.setIfInBounds_toArray, List.set_cons_zero, List.set_cons_succ]
      refine htake (i := 5) (v := ?v6) rfl (by kernel_rfl) (by kernel_rfl) (by kernel_rfl) (fun _ _ _ h => h) (Or.inl ⟨by rfl, ?hy6⟩) (by assumption) ?_
      case hy6 => (intro w hSw; (try dsimp only at hSw); go_simp; try (with_reducible rfl))
      try simp only [Act.put, List.setIfInBounds_toArray, List.set_cons_zero, List.set_cons_succ]
      refine htake (i := 6) (v := ?v7) rfl (by kernel_rfl) (by kernel_rfl) (by kernel_rfl) (fun _ _ _ h => h) (Or.inl ⟨by rfl, ?hy7⟩) (by assumption) ?_
      case hy7 => (intro w hSw; (try dsimp only at hSw); go_simp; try (with_reducible rfl))
      try simp only [Act.put, List.setIfInBounds_toArray, List.set_cons_zero, List.set_cons_succ]
      refine htake (i := 7) (v := ?v8) rfl (by kernel_rfl) (by kernel_rfl) (by kernel_rfl) (fun _ _ _ h => h) (Or.inl ⟨by rfl, ?hy8⟩) (by assumption) ?_
      case hy8 => (intro w hSw; (try dsimp only at hSw); go_simp; try (with_reducible rfl))
      try simp only [Act.put, List.setIfInBounds_toArray, List.set_cons_zero, List.set_cons_succ]
      refine htake (i := 8) (v := ?v9) rfl (by kernel_rfl) (by kernel_rfl) (by kernel_rfl) (fun _ _ _ h => h) (Or.inl ⟨by rfl, ?hy9⟩) (by assumption) ?_
      case hy9 => (intro w hSw; (try dsimp only at hSw); go_simp; try (with_reducible rfl))
      try simp only [Act.put, List.setIfInBounds_toArray, List.set_cons_zero, List.set_cons_succ]
      refine htake (i := 9) (v := ?v10) rfl (by kernel_rfl) (by kernel_rfl) (by kernel_rfl) (fun _ _ _ h => h) (Or.inl ⟨by rfl, ?hy10⟩) (by assumption) ?_
      case hy10 => (intro w hSw; (try dsimp only at hSw); go_simp; try (with_reducible rfl))
      try simp only [Act.put, List.setIfInBounds_toArray, List.set_cons_zero, List.set_cons_succ]
      refine htake (i := 10) (v := ?v11) rfl (by kernel_rfl) (by kernel_rfl) (by kernel_rfl) (fun _ _ _ h => h) (Or.inl ⟨by rfl, ?hy11⟩) (by assumption) ?_
      case hy11 => (intro w hSw; (try dsimp only at hSw); go_simp; try (with_reducible rfl))
      try simp only [Act.put, List.setIfInBounds_toArray, List.set_cons_zero, List.set_cons_succ]
      refine htake (i := 11) (v := ?v12) rfl (by kernel_rfl) (by kernel_rfl) (by kernel_rfl) (fun _ _ _ h => h) (Or.inl ⟨by rfl, ?hy12⟩) (by assumption) ?_
      case hy12 => (intro w hSw; (try dsimp only at hSw); go_simp; try (with_reducible rfl))
      try simp only [Act.put, List.setIfInBounds_toArray, List.set_cons_zero, List.set_cons_succ]
      refine htake (i := 12) (v := ?v13) rfl (by kernel_rfl) (by kernel_rfl) (by kernel_rfl) (fun _ _ _ h => h) (Or.inl ⟨by rfl, ?hy13⟩) (by assumption) ?_
      case hy13 => (intro w hSw; (try dsimp only at hSw); go_simp; try (with_reducible rfl))
      try simp only [Act.put, List.setIfInBounds_toArray, List.set_cons_zero, List.set_cons_succ]
      refine htake (i := 13) (v := ?v14) rfl (by kernel_rfl) (by kernel_rfl) (by kernel_rfl) (fun _ _ _ h => h) (Or.inl ⟨by rfl, ?hy14⟩) (by assumption) ?_
      case hy14 => (intro w hSw; (try dsimp only at hSw); go_simp; try (with_reducible rfl))
      try simp only [Act.put, List.setIfInBounds_toArray, List.set_cons_zero, List.set_cons_succ]
      refine wpAnyH_ready (rs := [14]) (by kernel_rfl) (by simp) ?_
      refine hcons rfl (fun K hK => ?_) (AllReadyH.nil)
      go_simp
      refine hK.out _ _ ?_ (fun hHeld => ?_)
      · (try dsimp only); exact HKS.out _ (only_of_below (nxA _ _).drew _)
      clear hK K
      try simp only [Act.put, List.setIfInBounds_toArray, List.set_cons_zero, List.set_cons_succ]
      refine wpAnyH_ready (rs := [15]) (by kernel_rfl) (by simp) ?_
      refine hcons rfl (fun K hK => ?_) (AllReadyH.nil)
      refine step_append_lies _ rfl (.tmp 15) (.tmp 29) 34 rfl (w.heap.size + 1) 3 i1 (.int .i64 0) 1 8 Tryd.underlying34 gi gz0 gz1 gz2 rfl (by decide) u7 plan.length (plan.flatMap icell) rfl (own_below HO.out (nxA wr (.cells #[.int .i64 s] 3)).drew) ⟨wr.heap.size, 0, none⟩ 1 1 [.int .i64 s] rfl rfl (cell_one_new wr _ _) (by simp [Value.oneCell']) (by omega) (by unfold maxLen; omega) (by omega) (by simp; omega) _ rfl ?_; intro g cap w' hown' hgrow hgg hlt'; have hgA : wr.grownBy w' u7.ownBlock := grown_trans (only_of_below (nxA wr (.cells #[.int .i64 s] 3)).drew _) hgrow
      refine hK.out _ _ ?_ (fun hHeld => ?_)
      · (try dsimp only); exact HKS.out _ hgA
      clear hK K
      try simp only [Act.put, List.setIfInBounds_toArray, List.set_cons_zero, List.set_cons_succ]
      refine htake (i := 16) (v := ?v15) rfl (by kernel_rfl) (by kernel_rfl) (by kernel_rfl) (fun _ _ _ h => h) (Or.inl ⟨by rfl, ?hy15⟩) (by assumption) ?_
      case hy15 => (intro w hSw; (try dsimp only at hSw); go_simp; try (with_reducible rfl))
      try simp only [Act.put, List.setIfInBounds_toArray, List.set_cons_zero, List.set_cons_succ]
      refine wpAnyH_done (by kernel_rfl) ?_ _
      refine NoPanic.normal ?_
      iterate 18 (try clear hHeld)
      have HOW := Lib.hid hown'
      have HGA := Lib.hid hgA
      clear hown' hgrow hgA
      go_wp2_with fail
      have hi := HI.out
      have hM2 := HM.out
      refine ⟨⟨plan ++ [s], by simp; omega, by rw [List.length_append, hi]; rfl, by rw [List.length_append, List.flatMap_append]; exact HOW.out, fun z hz => ?_, HW.out.grown HGA.out HW.out.size (fun k hk => by have := (HO.out.lt k hk).1; omega), HX.out.grown HGA.out hn1, Nat.le_trans hz HGA.out.size⟩, by simp [intOf]; omega⟩
      rcases List.mem_append.1 hz with h | h
      · exact HA.out z h
      · rw [List.mem_singleton] at h
        subst h
        omega
    · have hle : plan.length = l.length - 1 := by omega
      go_wp2_with fail
      go_ret
      obtain ⟨A9, c9, rfl, ha⟩ := own_at (size := 1) (fun _ => rfl) (by omega) hown
      exact ⟨plan, hle, hall, A9, c9, rfl, ha, hbw⟩
end Go.Proofs.YtbhkglokdomajaaDoor
