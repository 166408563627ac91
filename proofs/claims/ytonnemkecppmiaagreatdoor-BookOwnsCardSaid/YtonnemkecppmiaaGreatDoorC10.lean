import Derived.Test.YtonnemkecppmiaaGreatDoorC1
import Derived.Test.YtonnemkecppmiaaGreatDoorLx
import Derived.Test.YtonnemkecppmiaaGreatDoorFr
namespace Go.Proofs.YtonnemkecppmiaaGreatDoor
open Go.RowKit
/-! The law BookOwns. -/
theorem rsV_len (t : Tx) : (rsV t).length ≤ 12 := by
  unfold rsV
  split
  · decide
  · cases e : readS t with
    | none => decide
    | some l => exact (readS_iff.1 e).2.1
theorem wrS_len (l : List Pc) : (wrS l).1.length ≤ 916 := by
  by_cases h : (wrS l).2 = 0
  · obtain ⟨h1, h2, h3⟩ := wrS_ok h
    rw [h3]
    exact (scanB_len h2 h1).1
  · unfold wrS at h ⊢
    split
    · decide
    · split
      · decide
      · rename_i h1 h2
        rw [if_neg h1, if_neg h2] at h
        exact (h rfl).elim
theorem hat_lo {α : Type} {lo lo' : Nat} {w : World} {size : Nat} {cells : α → List Value} {A : Option Addr} {l : List α} (h : AtHi lo w size cells A l) (hl : lo' ≤ lo) : AtHi lo' w size cells A l := fun k x hx => by
  obtain ⟨b, off, e, h1, h2, h3⟩ := h k x hx
  exact ⟨b, off, e, Nat.le_trans hl h1, h2, h3⟩
theorem own_wr {W1 W6 : World} {base : Nat} {e : TypeId} {size n c : Nat} {A : Option Addr} {xs : List Value} (h : W1.ownsRow base e size (.slice A n c) n xs) (hb : Below W1.heap.size W1 W6) (j : Nat) (hj : j < xs.length) :
    ∃ b, A = some ⟨b, 0, none⟩ ∧ base ≤ b ∧ b < W1.heap.size ∧ (W6.cell? ⟨b, j, none⟩).isSome = true ∧ W6.frozen? ⟨b, j, none⟩ = false := by
  obtain ⟨A', c', e', hc⟩ := own_form h
  injection e' with e1 _ e2
  subst e1 e2
  obtain ⟨b, rfl, h1, h2, h3⟩ := hc j _ (List.getElem?_eq_getElem hj)
  exact ⟨b, rfl, h1, h2, by rw [hb.cell (p := ⟨b, j, none⟩) h2, h3]; rfl, by rw [hb.frozen (p := ⟨b, j, none⟩) h2]; exact h.frozenAt j⟩
/-- While the things that were returned are written over. -/
structure OwI (W3 W6 : World) (lo : Nat) (A : Option Addr) (L : List Pc) (W : World) : Prop where
  bw : Below W3.heap.size W3 W
  at_ : AtHi lo W 28 Pc.cells A L
  cl : ∀ a, (W6.cell? a).isSome = true → (W.cell? a).isSome = true
  fr : ∀ a, W.frozen? a = W6.frozen? a
theorem OwI.start {W3 W6 : World} {lo : Nat} {A : Option Addr} {L : List Pc} (hb : Below W3.heap.size W3 W6) (h : AtHi lo W6 28 Pc.cells A L) : OwI W3 W6 lo A L W6 := ⟨hb, h, fun _ h => h, fun _ => rfl⟩
theorem OwI.set {W3 W6 W : World} {lo g o : Nat} {A : Option Addr} {L : List Pc} (h : OwI W3 W6 lo A L W) (h1 : W3.heap.size ≤ g) (h2 : g < lo) (v : Value) : OwI W3 W6 lo A L (W.setCell ⟨g, o, none⟩ v) := by
  refine ⟨h.bw.setCell (p := ⟨g, o, none⟩) h1 v, h.at_.set h2 v, fun a ha => ?_, fun a => by rw [World.frozen?_setCell]; exact h.fr a⟩
  have h3 := h.cl a ha
  by_cases e : (⟨g, o, none⟩ : Addr) = a
  · subst e
    rw [World.cell?_setCell_same' _ _ _ h3]
    rfl
  · rw [World.cell?_setCell_other _ _ _ _ e]
    exact h3
def ROw (W3 W6 : World) (lo : Nat) (A : Option Addr) (L : List Pc) (n : Nat) (i : Value) (W : World) : Prop := ∃ k : Nat, k ≤ n ∧ i = .int .i64 k ∧ OwI W3 W6 lo A L W
set_option maxRecDepth 100000 in
set_option maxHeartbeats 8000000 in
theorem BookOwns_walk (d : Mp) (A1 : Option Addr) (c1 : Nat) (l : List Pc) (A2 : Option Addr) (c2 : Nat) (u : List Wo) (A3 : Option Addr) (c3 : Nat) (t : Tx) (w : World) (hE : Env w) (hp : PuAt w w.heap.size d) (h1 : At w w.heap.size 28 Pc.cells A1 l) (n1 : l.length ≤ 9223372036854775807) (_ : l.length ≤ c1) (h2 : At w w.heap.size 4 Wo.cells A2 u) (n2 : u.length ≤ 9223372036854775807) (_ : u.length ≤ c2) (h3 : BsAt w w.heap.size A3 t) (_ : t.length ≤ 9223372036854775807) (_ : t.length ≤ c3) : Calls Tryz.prog 10 #[.agg #[.int .i64 d.d.play.len, .int .i64 d.d.play.slack, .int .i64 d.d.play.loose, .int .i64 d.d.play.damp.lo, .int .i64 d.d.play.damp.hi, .int .i64 d.d.wide, .int .i64 d.d.high, .bool d.d.turn, .slice d.A d.d.pieces.length d.c], .slice A1 l.length c1, .slice A2 u.length c2, .slice A3 t.length c3] w (Ret (.bool true) w) := by
  have HWD := Lib.hid (fun (W : World) (h1 : Env W) (h2 : PuAt W W.heap.size d) => WriteDrawing_any d W h1 h2)
  have HWS := Lib.hid (fun (W : World) (h1 : At W W.heap.size 28 Pc.cells A1 l) => WriteScans_any A1 c1 l W h1 n1)
  have HWL := Lib.hid (fun (W : World) (h1 : Env W) (h2 : At W W.heap.size 4 Wo.cells A2 u) => WriteLog_any A2 c2 u W h1 h2 n2)
  have HRS := Lib.hid (fun (W : World) (h : Env W) (h2 : BsAt W W.heap.size A3 t) => ReadScans_any A3 c3 t W h h2)
  have hT1 := wrS_len l
  generalize (wrS l).1 = t1 at HWS hT1
  generalize (wrS l).2 = e1 at HWS
  have hq := nxA w (.cells #[.int .i64 d.d.play.len, .int .i64 d.d.play.slack, .int .i64 d.d.play.loose, .int .i64 d.d.play.damp.lo, .int .i64 d.d.play.damp.hi, .int .i64 d.d.wide, .int .i64 d.d.high, .bool d.d.turn, .slice d.A d.d.pieces.length d.c] 28)
  have HX := Lib.hid (Bx.new w #[.int .i64 d.d.play.len, .int .i64 d.d.play.slack, .int .i64 d.d.play.loose, .int .i64 d.d.play.damp.lo, .int .i64 d.d.play.damp.hi, .int .i64 d.d.wide, .int .i64 d.d.high, .bool d.d.turn, .slice d.A d.d.pieces.length d.c] 28)
  have HE := Lib.hid (hE.next hq)
  have HB := Lib.hid hq
  have HM := Lib.hid (hp.next hq)
  have HL := Lib.hid (h1.next hq)
  have HU := Lib.hid (h2.next hq)
  have HT := Lib.hid (h3.next hq)
  have HN1 := Lib.hid n1
  have HN2 := Lib.hid n2
  clear hE hp h1 h2 h3 hq n1 n2
  go_enter Tryz.func10, Tryz.ntmps10
  go_upto_region 1 with fail
  generalize (w.alloc (.cells #[.int .i64 d.d.play.len, .int .i64 d.d.play.slack, .int .i64 d.d.play.loose, .int .i64 d.d.play.damp.lo, .int .i64 d.d.play.damp.hi, .int .i64 d.d.wide, .int .i64 d.d.high, .bool d.d.turn, .slice d.A d.d.pieces.length d.c] 28)) = V at *
  obtain ⟨b, hb⟩ : ∃ b, b = w.heap.size := ⟨_, rfl⟩
  rw [← hb] at HX ⊢
  clear hb
  have p0 := HX.out.c 0 _ rfl
  have p1 := HX.out.c 1 _ rfl
  have p2 := HX.out.c 2 _ rfl
  have p3 := HX.out.c 3 _ rfl
  have p4 := HX.out.c 4 _ rfl
  have p5 := HX.out.c 5 _ rfl
  have p6 := HX.out.c 6 _ rfl
  have p7 := HX.out.c 7 _ rfl
  have p8 := HX.out.c 8 _ rfl
  go_upto_region 1 with fail
  go_cut [43] (fun s wx => (∃ far : Bool, s = .bool far ∧ (far = false → d.d.pieces.length ≤ 14 ∧ l.length ≤ 18 ∧ u.length ≤ 50)) ∧ wx = V)
  case first =>
    by_cases k1 : 14 < d.d.pieces.length
    · have k1' : (14 : Int) < (d.d.pieces.length : Int) := by omega
      go_wp2_with fail
      all_goals
        go_meet
        exact ⟨⟨true, rfl, fun h => by cases h⟩, rfl⟩
    have k1' : ¬ (14 : Int) < (d.d.pieces.length : Int) := by omega
    by_cases k2 : 18 < l.length
    · have k2' : (18 : Int) < (l.length : Int) := by omega
      go_wp2_with fail
      all_goals
        go_meet
        exact ⟨⟨true, rfl, fun h => by cases h⟩, rfl⟩
    have k2' : ¬ (18 : Int) < (l.length : Int) := by omega
    by_cases k3 : 50 < u.length
    · have k3' : (50 : Int) < (u.length : Int) := by omega
      go_wp2_with fail
      all_goals
        go_meet
        exact ⟨⟨true, rfl, fun h => by cases h⟩, rfl⟩
    have k3' : ¬ (50 : Int) < (u.length : Int) := by omega
    go_wp2_with fail
    all_goals
      go_meet
      exact ⟨⟨_, rfl, fun _ => ⟨by omega, by omega, by omega⟩⟩, rfl⟩
  case rest =>
    obtain ⟨⟨far, rfl, hfar⟩, hw⟩ := hcut
    have hw2 := hw.symm
    clear hw
    subst hw2
    cases far
    rotate_left
    · clear hfar
      go_wp2_with fail
      refine (alive_any V HE.out).mono ?_
      rintro e W99 ⟨rfl, hb⟩
      go_wp2_with fail
      go_ret
      exact ret_bool rfl (HB.out.trans (hb.mono HB.out.size))
    · skip
      have HFAR := Lib.hid (hfar rfl)
      clear hfar
      clear p0 p1 p2 p3 p4 p5 p6 p7 p8
      have hc8 : ∀ W' : World, Below V.heap.size V W' → W'.cell? ⟨b, 8, none⟩ = some (.slice d.A d.d.pieces.length d.c) := fun W' h => (HX.out.next h).c 8 _ rfl
      have hcv : ∀ W' : World, Below V.heap.size V W' → (convert 37 9 (.slice A3 t.length c3)).run Tryz.prog W' = .ok (tx t) W' := fun W' h => cv_bs (HT.out.next h)
      obtain ⟨i0, hi, hz0, hz1, hz2⟩ := info_parts pc_info
      obtain ⟨j0, hj, hy0, hy1, hy2⟩ := info_parts wo_info
      have HC := Lib.hid (Below.refl V.heap.size V)
      go_upto_region 3 with fail
      go_cut [9, 10, 11, 12] (fun s9 s10 s11 s12 wx => (∃ A c, s9 = .slice A d.d.pieces.length c ∧ At wx wx.heap.size 28 Pc.cells A d.d.pieces) ∧ (∃ A c, s10 = .slice A l.length c ∧ At wx wx.heap.size 28 Pc.cells A l) ∧ (∃ A c, s11 = .slice A u.length c ∧ At wx wx.heap.size 4 Wo.cells A u) ∧ s12 = tx t ∧ Below V.heap.size V wx)
      case first =>
        refine wp_region_noPanic ?_
        refine wp_region_held_drew (S := (fun W' => Below V.heap.size V W')) (by kernel_rfl) ?_ (fun hHeld => ?_)
        · (try dsimp only); first | exact HC.out | exact HC.out.drew
        refine htake (i := 1) (v := ?v1) rfl (by kernel_rfl) (by kernel_rfl) (by kernel_rfl) (fun _ _ _ h => h) (Or.inl ⟨by rfl, ?hy1⟩) (by assumption) ?_
        case hy1 => (intro w hSw; (try dsimp only at hSw); go_simp; try (with_reducible rfl))
        try simp only [Act.put, List.setIfInBounds_toArray, List.set_cons_zero, List.set_cons_succ]
        refine htake (i := 2) (v := ?v2) rfl (by kernel_rfl) (by kernel_rfl) (by kernel_rfl) (fun _ _ _ h => h) (Or.inl ⟨by rfl, ?hy2⟩) (by assumption) ?_
        case hy2 => (intro w hSw; (try dsimp only at hSw); go_simp; try (with_reducible rfl))
        try simp only [Act.put, List.setIfInBounds_toArray, List.set_cons_zero, List.set_cons_succ]
        refine htake (i := 5) (v := ?v3) rfl (by kernel_rfl) (by kernel_rfl) (by kernel_rfl) (fun _ _ _ h => h) (Or.inl ⟨by rfl, ?hy3⟩) (by assumption) ?_
        case hy3 => (intro w hSw; (try dsimp only at hSw); go_simp; try (with_reducible rfl))
        try simp only [Act.put, List.setIfInBounds_toArray, List.set_cons_zero, List.set_cons_succ]
        refine htake (i := 8) (v := ?v4) rfl (by kernel_rfl) (by kernel_rfl) (by kernel_rfl) (fun _ _ _ h => h) (Or.inl ⟨by rfl, ?hy4⟩) (by assumption) ?_
        case hy4 => (intro w hSw; (try dsimp only at hSw); go_simp; try (with_reducible rfl))
        try simp only [Act.put, List.setIfInBounds_toArray, List.set_cons_zero, List.set_cons_succ]
        refine htake (i := 10) (v := ?v5) rfl (by kernel_rfl) (by kernel_rfl) (by kernel_rfl) (fun _ _ _ h => h) (Or.inl ⟨by rfl, ?hy5⟩) (by assumption) ?_
        case hy5 => (intro w hSw; (try dsimp only at hSw); go_simp; try (with_reducible rfl))
        try simp only [Act.put, List.setIfInBounds_toArray, List.set_cons_zero, List.set_cons_succ]
        refine htake (i := 11) (v := ?v6) rfl (by kernel_rfl) (by kernel_rfl) (by kernel_rfl) (fun _ _ _ h => h) (Or.inl ⟨by rfl, ?hy6⟩) (by assumption) ?_
        case hy6 => (intro w hSw; (try dsimp only at hSw); go_simp; try (with_reducible rfl))
        try simp only [Act.put, List.setIfInBounds_toArray, List.set_cons_zero, List.set_cons_succ]
        refine wpAnyH_ready (rs := [0, 4, 7]) (by kernel_rfl) (by simp) ?_
        refine hcons rfl (fun K hK => ?_) (hcons rfl (fun K hK => ?_) (hcons rfl (fun K hK => ?_) (AllReadyH.nil)))
        go_simp
        (first | refine hold_alloc (fun Wa q1 q2 q3 => ?_) | refine hold_alloc_drew (fun Wa q1 q2 q3 => ?_)); replace HC := Lib.hid (HC.out.trans (q1.mono HC.out.size)); try (replace R9 := Lib.hid (R9.out.next q1)); try (replace R10 := Lib.hid (R10.out.next q1)); clear q1 q2 q3
        refine hK.out _ _ ?_ (fun hHeld => ?_)
        · (try dsimp only); first | exact HC.out | exact HC.out.drew
        clear hK K
        try simp only [Act.put, List.setIfInBounds_toArray, List.set_cons_zero, List.set_cons_succ]
        refine wpAnyH_ready (rs := [3, 4, 7]) (by kernel_rfl) (by simp) ?_
        refine hcons rfl (fun K hK => ?_) (hcons rfl (fun K hK => ?_) (hcons rfl (fun K hK => ?_) (AllReadyH.nil)))
        refine step_append_fresh rfl (.tmp 45) (.tmp 47) 26 rfl 51 i0 _ 28 224 Tryz.underlying26 hi hz0 hz1 hz2 rfl (by decide) pc_len _ rfl d.A d.d.pieces d.c rfl ((HM.out.next HC.out).pc) (by have := HFAR.out; unfold maxLen; omega) (by have := HFAR.out; omega) ?_; intro A9 c9 W9 hat hb; have R9 := Lib.hid hat.at_; replace HC := Lib.hid (HC.out.trans (hb.mono HC.out.size)); clear hat hb
        refine hK.out _ _ ?_ (fun hHeld => ?_)
        · (try dsimp only); first | exact HC.out | exact HC.out.drew
        clear hK K
        try simp only [Act.put, List.setIfInBounds_toArray, List.set_cons_zero, List.set_cons_succ]
        refine wpAnyH_ready (rs := [4, 7]) (by kernel_rfl) (by simp) ?_
        refine hcons rfl (fun K hK => ?_) (hcons rfl (fun K hK => ?_) (AllReadyH.nil))
        go_simp
        (first | refine hold_alloc (fun Wa q1 q2 q3 => ?_) | refine hold_alloc_drew (fun Wa q1 q2 q3 => ?_)); replace HC := Lib.hid (HC.out.trans (q1.mono HC.out.size)); try (replace R9 := Lib.hid (R9.out.next q1)); try (replace R10 := Lib.hid (R10.out.next q1)); clear q1 q2 q3
        refine hK.out _ _ ?_ (fun hHeld => ?_)
        · (try dsimp only); first | exact HC.out | exact HC.out.drew
        clear hK K
        try simp only [Act.put, List.setIfInBounds_toArray, List.set_cons_zero, List.set_cons_succ]
        refine wpAnyH_ready (rs := [6, 7]) (by kernel_rfl) (by simp) ?_
        refine hcons rfl (fun K hK => ?_) (hcons rfl (fun K hK => ?_) (AllReadyH.nil))
        refine step_append_fresh rfl (.tmp 49) (.tmp 50) 26 rfl 51 i0 _ 28 224 Tryz.underlying26 hi hz0 hz1 hz2 rfl (by decide) pc_len _ rfl A1 l c1 rfl (HL.out.next HC.out) (by have := HFAR.out; unfold maxLen; omega) (by have := HFAR.out; omega) ?_; intro A10 c10 W10 hat hb; have R10 := Lib.hid hat.at_; replace R9 := Lib.hid (R9.out.next hb); replace HC := Lib.hid (HC.out.trans (hb.mono HC.out.size)); clear hat hb
        refine hK.out _ _ ?_ (fun hHeld => ?_)
        · (try dsimp only); first | exact HC.out | exact HC.out.drew
        clear hK K
        try simp only [Act.put, List.setIfInBounds_toArray, List.set_cons_zero, List.set_cons_succ]
        refine wpAnyH_ready (rs := [7]) (by kernel_rfl) (by simp) ?_
        refine hcons rfl (fun K hK => ?_) (AllReadyH.nil)
        go_simp
        (first | refine hold_alloc (fun Wa q1 q2 q3 => ?_) | refine hold_alloc_drew (fun Wa q1 q2 q3 => ?_)); replace HC := Lib.hid (HC.out.trans (q1.mono HC.out.size)); try (replace R9 := Lib.hid (R9.out.next q1)); try (replace R10 := Lib.hid (R10.out.next q1)); clear q1 q2 q3
        refine hK.out _ _ ?_ (fun hHeld => ?_)
        · (try dsimp only); first | exact HC.out | exact HC.out.drew
        clear hK K
        try simp only [Act.put, List.setIfInBounds_toArray, List.set_cons_zero, List.set_cons_succ]
        refine wpAnyH_ready (rs := [9]) (by kernel_rfl) (by simp) ?_
        refine hcons rfl (fun K hK => ?_) (AllReadyH.nil)
        refine step_append_fresh rfl (.tmp 52) (.tmp 53) 44 rfl 66 j0 _ 4 32 Tryz.underlying44 hj hy0 hy1 hy2 rfl (by decide) wo_len _ rfl A2 u c2 rfl (HU.out.next HC.out) (by have := HFAR.out; unfold maxLen; omega) (by have := HFAR.out; omega) ?_; intro A11 c11 W11 hat hb; have R11 := Lib.hid hat.at_; replace R9 := Lib.hid (R9.out.next hb); replace R10 := Lib.hid (R10.out.next hb); replace HC := Lib.hid (HC.out.trans (hb.mono HC.out.size)); clear hat hb
        refine hK.out _ _ ?_ (fun hHeld => ?_)
        · (try dsimp only); first | exact HC.out | exact HC.out.drew
        clear hK K
        try simp only [Act.put, List.setIfInBounds_toArray, List.set_cons_zero, List.set_cons_succ]
        refine htake (i := 12) (v := ?v7) rfl (by kernel_rfl) (by kernel_rfl) (by kernel_rfl) (fun _ _ _ h => h) (Or.inl ⟨by rfl, ?hy7⟩) (by assumption) ?_
        case hy7 => (intro w hSw; (try dsimp only at hSw); go_simp; try (with_reducible rfl))
        try simp only [Act.put, List.setIfInBounds_toArray, List.set_cons_zero, List.set_cons_succ]
        refine htake (i := 13) (v := ?v8) rfl (by kernel_rfl) (by kernel_rfl) (by kernel_rfl) (fun _ _ _ h => h) (Or.inl ⟨by rfl, ?hy8⟩) (by assumption) ?_
        case hy8 => (intro w hSw; (try dsimp only at hSw); go_simp; try (with_reducible rfl))
        try simp only [Act.put, List.setIfInBounds_toArray, List.set_cons_zero, List.set_cons_succ]
        refine htake (i := 14) (v := ?v9) rfl (by kernel_rfl) (by kernel_rfl) (by kernel_rfl) (fun _ _ _ h => h) (Or.inl ⟨by rfl, ?hy9⟩) (by assumption) ?_
        case hy9 => (intro w hSw; (try dsimp only at hSw); go_simp; try (with_reducible rfl))
        try simp only [Act.put, List.setIfInBounds_toArray, List.set_cons_zero, List.set_cons_succ]
        refine htake (i := 15) (v := ?v10) rfl (by kernel_rfl) (by kernel_rfl) (by kernel_rfl) (fun _ _ _ h => h) (Or.inl ⟨by rfl, ?hy10⟩) (by assumption) ?_
        case hy10 => (intro w hSw; (try dsimp only at hSw); go_simp; try (with_reducible rfl))
        try simp only [Act.put, List.setIfInBounds_toArray, List.set_cons_zero, List.set_cons_succ]
        refine wpAnyH_done (by kernel_rfl) ?_ _
        refine NoPanic.normal ?_
        rotate_left
        go_simp
        (first | refine hold_alloc (fun Wa q1 q2 q3 => ?_) | refine hold_alloc_drew (fun Wa q1 q2 q3 => ?_)); replace HC := Lib.hid (HC.out.trans (q1.mono HC.out.size)); try (replace R9 := Lib.hid (R9.out.next q1)); try (replace R10 := Lib.hid (R10.out.next q1)); clear q1 q2 q3
        refine hK.out _ _ ?_ (fun hHeld => ?_)
        · (try dsimp only); first | exact HC.out | exact HC.out.drew
        clear hK K
        try simp only [Act.put, List.setIfInBounds_toArray, List.set_cons_zero, List.set_cons_succ]
        refine wpAnyH_ready (rs := [6]) (by kernel_rfl) (by simp) ?_
        refine hcons rfl (fun K hK => ?_) (AllReadyH.nil)
        refine step_append_fresh rfl (.tmp 49) (.tmp 50) 26 rfl 51 i0 _ 28 224 Tryz.underlying26 hi hz0 hz1 hz2 rfl (by decide) pc_len _ rfl A1 l c1 rfl (HL.out.next HC.out) (by have := HFAR.out; unfold maxLen; omega) (by have := HFAR.out; omega) ?_; intro A10 c10 W10 hat hb; have R10 := Lib.hid hat.at_; replace R9 := Lib.hid (R9.out.next hb); replace HC := Lib.hid (HC.out.trans (hb.mono HC.out.size)); clear hat hb
        refine hK.out _ _ ?_ (fun hHeld => ?_)
        · (try dsimp only); first | exact HC.out | exact HC.out.drew
        clear hK K
        try simp only [Act.put, List.setIfInBounds_toArray, List.set_cons_zero, List.set_cons_succ]
        refine wpAnyH_ready (rs := [9]) (by kernel_rfl) (by simp) ?_
        refine hcons rfl (fun K hK => ?_) (AllReadyH.nil)
        refine step_append_fresh rfl (.tmp 52) (.tmp 53) 44 rfl 66 j0 _ 4 32 Tryz.underlying44 hj hy0 hy1 hy2 rfl (by decide) wo_len _ rfl A2 u c2 rfl (HU.out.next HC.out) (by have := HFAR.out; unfold maxLen; omega) (by have := HFAR.out; omega) ?_; intro A11 c11 W11 hat hb; have R11 := Lib.hid hat.at_; replace R9 := Lib.hid (R9.out.next hb); replace R10 := Lib.hid (R10.out.next hb); replace HC := Lib.hid (HC.out.trans (hb.mono HC.out.size)); clear hat hb
        refine hK.out _ _ ?_ (fun hHeld => ?_)
        · (try dsimp only); first | exact HC.out | exact HC.out.drew
        clear hK K
        try simp only [Act.put, List.setIfInBounds_toArray, List.set_cons_zero, List.set_cons_succ]
        refine htake (i := 12) (v := ?v11) rfl (by kernel_rfl) (by kernel_rfl) (by kernel_rfl) (fun _ _ _ h => h) (Or.inl ⟨by rfl, ?hy11⟩) (by assumption) ?_
        case hy11 => (intro w hSw; (try dsimp only at hSw); go_simp; try (with_reducible rfl))
        try simp only [Act.put, List.setIfInBounds_toArray, List.set_cons_zero, List.set_cons_succ]
        refine htake (i := 13) (v := ?v12) rfl (by kernel_rfl) (by kernel_rfl) (by kernel_rfl) (fun _ _ _ h => h) (Or.inl ⟨by rfl, ?hy12⟩) (by assumption) ?_
        case hy12 => (intro w hSw; (try dsimp only at hSw); go_simp; try (with_reducible rfl))
        try simp only [Act.put, List.setIfInBounds_toArray, List.set_cons_zero, List.set_cons_succ]
        refine htake (i := 14) (v := ?v13) rfl (by kernel_rfl) (by kernel_rfl) (by kernel_rfl) (fun _ _ _ h => h) (Or.inl ⟨by rfl, ?hy13⟩) (by assumption) ?_
        case hy13 => (intro w hSw; (try dsimp only at hSw); go_simp; try (with_reducible rfl))
        try simp only [Act.put, List.setIfInBounds_toArray, List.set_cons_zero, List.set_cons_succ]
        refine htake (i := 15) (v := ?v14) rfl (by kernel_rfl) (by kernel_rfl) (by kernel_rfl) (fun _ _ _ h => h) (Or.inl ⟨by rfl, ?hy14⟩) (by assumption) ?_
        case hy14 => (intro w hSw; (try dsimp only at hSw); go_simp; try (with_reducible rfl))
        try simp only [Act.put, List.setIfInBounds_toArray, List.set_cons_zero, List.set_cons_succ]
        refine wpAnyH_done (by kernel_rfl) ?_ _
        refine NoPanic.normal ?_
        rotate_left
        go_simp
        (first | refine hold_alloc (fun Wa q1 q2 q3 => ?_) | refine hold_alloc_drew (fun Wa q1 q2 q3 => ?_)); replace HC := Lib.hid (HC.out.trans (q1.mono HC.out.size)); try (replace R9 := Lib.hid (R9.out.next q1)); try (replace R10 := Lib.hid (R10.out.next q1)); clear q1 q2 q3
        refine hK.out _ _ ?_ (fun hHeld => ?_)
        · (try dsimp only); first | exact HC.out | exact HC.out.drew
        clear hK K
        try simp only [Act.put, List.setIfInBounds_toArray, List.set_cons_zero, List.set_cons_succ]
        refine wpAnyH_ready (rs := [4]) (by kernel_rfl) (by simp) ?_
        refine hcons rfl (fun K hK => ?_) (AllReadyH.nil)
        go_simp
        (first | refine hold_alloc (fun Wa q1 q2 q3 => ?_) | refine hold_alloc_drew (fun Wa q1 q2 q3 => ?_)); replace HC := Lib.hid (HC.out.trans (q1.mono HC.out.size)); try (replace R9 := Lib.hid (R9.out.next q1)); try (replace R10 := Lib.hid (R10.out.next q1)); clear q1 q2 q3
        refine hK.out _ _ ?_ (fun hHeld => ?_)
        · (try dsimp only); first | exact HC.out | exact HC.out.drew
        clear hK K
        try simp only [Act.put, List.setIfInBounds_toArray, List.set_cons_zero, List.set_cons_succ]
        refine wpAnyH_ready (rs := [6]) (by kernel_rfl) (by simp) ?_
        refine hcons rfl (fun K hK => ?_) (AllReadyH.nil)
        refine step_append_fresh rfl (.tmp 49) (.tmp 50) 26 rfl 51 i0 _ 28 224 Tryz.underlying26 hi hz0 hz1 hz2 rfl (by decide) pc_len _ rfl A1 l c1 rfl (HL.out.next HC.out) (by have := HFAR.out; unfold maxLen; omega) (by have := HFAR.out; omega) ?_; intro A10 c10 W10 hat hb; have R10 := Lib.hid hat.at_; replace R9 := Lib.hid (R9.out.next hb); replace HC := Lib.hid (HC.out.trans (hb.mono HC.out.size)); clear hat hb
        refine hK.out _ _ ?_ (fun hHeld => ?_)
        · (try dsimp only); first | exact HC.out | exact HC.out.drew
        clear hK K
        try simp only [Act.put, List.setIfInBounds_toArray, List.set_cons_zero, List.set_cons_succ]
        refine wpAnyH_ready (rs := [9]) (by kernel_rfl) (by simp) ?_
        refine hcons rfl (fun K hK => ?_) (AllReadyH.nil)
        refine step_append_fresh rfl (.tmp 52) (.tmp 53) 44 rfl 66 j0 _ 4 32 Tryz.underlying44 hj hy0 hy1 hy2 rfl (by decide) wo_len _ rfl A2 u c2 rfl (HU.out.next HC.out) (by have := HFAR.out; unfold maxLen; omega) (by have := HFAR.out; omega) ?_; intro A11 c11 W11 hat hb; have R11 := Lib.hid hat.at_; replace R9 := Lib.hid (R9.out.next hb); replace R10 := Lib.hid (R10.out.next hb); replace HC := Lib.hid (HC.out.trans (hb.mono HC.out.size)); clear hat hb
        refine hK.out _ _ ?_ (fun hHeld => ?_)
        · (try dsimp only); first | exact HC.out | exact HC.out.drew
        clear hK K
        try simp only [Act.put, List.setIfInBounds_toArray, List.set_cons_zero, List.set_cons_succ]
        refine htake (i := 12) (v := ?v15) rfl (by kernel_rfl) (by kernel_rfl) (by kernel_rfl) (fun _ _ _ h => h) (Or.inl ⟨by rfl, ?hy15⟩) (by assumption) ?_
        case hy15 => (intro w hSw; (try dsimp only at hSw); go_simp; try (with_reducible rfl))
        try simp only [Act.put, List.setIfInBounds_toArray, List.set_cons_zero, List.set_cons_succ]
        refine htake (i := 13) (v := ?v16) rfl (by kernel_rfl) (by kernel_rfl) (by kernel_rfl) (fun _ _ _ h => h) (Or.inl ⟨by rfl, ?hy16⟩) (by assumption) ?_
        case hy16 => (intro w hSw; (try dsimp only at hSw); go_simp; try (with_reducible rfl))
        try simp only [Act.put, List.setIfInBounds_toArray, List.set_cons_zero, List.set_cons_succ]
        refine htake (i := 14) (v := ?v17) rfl (by kernel_rfl) (by kernel_rfl) (by kernel_rfl) (fun _ _ _ h => h) (Or.inl ⟨by rfl, ?hy17⟩) (by assumption) ?_
        case hy17 => (intro w hSw; (try dsimp only at hSw); go_simp; try (with_reducible rfl))
        try simp only [Act.put, List.setIfInBounds_toArray, List.set_cons_zero, List.set_cons_succ]
        refine htake (i := 15) (v := ?v18) rfl (by kernel_rfl) (by kernel_rfl) (by kernel_rfl) (fun _ _ _ h => h) (Or.inl ⟨by rfl, ?hy18⟩) (by assumption) ?_
        case hy18 => (intro w hSw; (try dsimp only at hSw); go_simp; try (with_reducible rfl))
        try simp only [Act.put, List.setIfInBounds_toArray, List.set_cons_zero, List.set_cons_succ]
        refine wpAnyH_done (by kernel_rfl) ?_ _
        refine NoPanic.normal ?_
        rotate_left
        go_simp
        (first | refine hold_alloc (fun Wa q1 q2 q3 => ?_) | refine hold_alloc_drew (fun Wa q1 q2 q3 => ?_)); replace HC := Lib.hid (HC.out.trans (q1.mono HC.out.size)); try (replace R9 := Lib.hid (R9.out.next q1)); try (replace R10 := Lib.hid (R10.out.next q1)); clear q1 q2 q3
        refine hK.out _ _ ?_ (fun hHeld => ?_)
        · (try dsimp only); first | exact HC.out | exact HC.out.drew
        clear hK K
        try simp only [Act.put, List.setIfInBounds_toArray, List.set_cons_zero, List.set_cons_succ]
        refine wpAnyH_ready (rs := [3, 7]) (by kernel_rfl) (by simp) ?_
        refine hcons rfl (fun K hK => ?_) (hcons rfl (fun K hK => ?_) (AllReadyH.nil))
        refine step_append_fresh rfl (.tmp 45) (.tmp 47) 26 rfl 51 i0 _ 28 224 Tryz.underlying26 hi hz0 hz1 hz2 rfl (by decide) pc_len _ rfl d.A d.d.pieces d.c rfl ((HM.out.next HC.out).pc) (by have := HFAR.out; unfold maxLen; omega) (by have := HFAR.out; omega) ?_; intro A9 c9 W9 hat hb; have R9 := Lib.hid hat.at_; replace HC := Lib.hid (HC.out.trans (hb.mono HC.out.size)); clear hat hb
        refine hK.out _ _ ?_ (fun hHeld => ?_)
        · (try dsimp only); first | exact HC.out | exact HC.out.drew
        clear hK K
        try simp only [Act.put, List.setIfInBounds_toArray, List.set_cons_zero, List.set_cons_succ]
        refine wpAnyH_ready (rs := [6, 7]) (by kernel_rfl) (by simp) ?_
        refine hcons rfl (fun K hK => ?_) (hcons rfl (fun K hK => ?_) (AllReadyH.nil))
        refine step_append_fresh rfl (.tmp 49) (.tmp 50) 26 rfl 51 i0 _ 28 224 Tryz.underlying26 hi hz0 hz1 hz2 rfl (by decide) pc_len _ rfl A1 l c1 rfl (HL.out.next HC.out) (by have := HFAR.out; unfold maxLen; omega) (by have := HFAR.out; omega) ?_; intro A10 c10 W10 hat hb; have R10 := Lib.hid hat.at_; replace R9 := Lib.hid (R9.out.next hb); replace HC := Lib.hid (HC.out.trans (hb.mono HC.out.size)); clear hat hb
        refine hK.out _ _ ?_ (fun hHeld => ?_)
        · (try dsimp only); first | exact HC.out | exact HC.out.drew
        clear hK K
        try simp only [Act.put, List.setIfInBounds_toArray, List.set_cons_zero, List.set_cons_succ]
        refine wpAnyH_ready (rs := [7]) (by kernel_rfl) (by simp) ?_
        refine hcons rfl (fun K hK => ?_) (AllReadyH.nil)
        go_simp
        (first | refine hold_alloc (fun Wa q1 q2 q3 => ?_) | refine hold_alloc_drew (fun Wa q1 q2 q3 => ?_)); replace HC := Lib.hid (HC.out.trans (q1.mono HC.out.size)); try (replace R9 := Lib.hid (R9.out.next q1)); try (replace R10 := Lib.hid (R10.out.next q1)); clear q1 q2 q3
        refine hK.out _ _ ?_ (fun hHeld => ?_)
        · (try dsimp only); first | exact HC.out | exact HC.out.drew
        clear hK K
        try simp only [Act.put, List.setIfInBounds_toArray, List.set_cons_zero, List.set_cons_succ]
        refine wpAnyH_ready (rs := [9]) (by kernel_rfl) (by simp) ?_
        refine hcons rfl (fun K hK => ?_) (AllReadyH.nil)
        refine step_append_fresh rfl (.tmp 52) (.tmp 53) 44 rfl 66 j0 _ 4 32 Tryz.underlying44 hj hy0 hy1 hy2 rfl (by decide) wo_len _ rfl A2 u c2 rfl (HU.out.next HC.out) (by have := HFAR.out; unfold maxLen; omega) (by have := HFAR.out; omega) ?_; intro A11 c11 W11 hat hb; have R11 := Lib.hid hat.at_; replace R9 := Lib.hid (R9.out.next hb); replace R10 := Lib.hid (R10.out.next hb); replace HC := Lib.hid (HC.out.trans (hb.mono HC.out.size)); clear hat hb
        refine hK.out _ _ ?_ (fun hHeld => ?_)
        · (try dsimp only); first | exact HC.out | exact HC.out.drew
        clear hK K
        try simp only [Act.put, List.setIfInBounds_toArray, List.set_cons_zero, List.set_cons_succ]
        refine htake (i := 12) (v := ?v19) rfl (by kernel_rfl) (by kernel_rfl) (by kernel_rfl) (fun _ _ _ h => h) (Or.inl ⟨by rfl, ?hy19⟩) (by assumption) ?_
        case hy19 => (intro w hSw; (try dsimp only at hSw); go_simp; try (with_reducible rfl))
        try simp only [Act.put, List.setIfInBounds_toArray, List.set_cons_zero, List.set_cons_succ]
        refine htake (i := 13) (v := ?v20) rfl (by kernel_rfl) (by kernel_rfl) (by kernel_rfl) (fun _ _ _ h => h) (Or.inl ⟨by rfl, ?hy20⟩) (by assumption) ?_
        case hy20 => (intro w hSw; (try dsimp only at hSw); go_simp; try (with_reducible rfl))
        try simp only [Act.put, List.setIfInBounds_toArray, List.set_cons_zero, List.set_cons_succ]
        refine htake (i := 14) (v := ?v21) rfl (by kernel_rfl) (by kernel_rfl) (by kernel_rfl) (fun _ _ _ h => h) (Or.inl ⟨by rfl, ?hy21⟩) (by assumption) ?_
        case hy21 => (intro w hSw; (try dsimp only at hSw); go_simp; try (with_reducible rfl))
        try simp only [Act.put, List.setIfInBounds_toArray, List.set_cons_zero, List.set_cons_succ]
        refine htake (i := 15) (v := ?v22) rfl (by kernel_rfl) (by kernel_rfl) (by kernel_rfl) (fun _ _ _ h => h) (Or.inl ⟨by rfl, ?hy22⟩) (by assumption) ?_
        case hy22 => (intro w hSw; (try dsimp only at hSw); go_simp; try (with_reducible rfl))
        try simp only [Act.put, List.setIfInBounds_toArray, List.set_cons_zero, List.set_cons_succ]
        refine wpAnyH_done (by kernel_rfl) ?_ _
        refine NoPanic.normal ?_
        rotate_left
        go_simp
        (first | refine hold_alloc (fun Wa q1 q2 q3 => ?_) | refine hold_alloc_drew (fun Wa q1 q2 q3 => ?_)); replace HC := Lib.hid (HC.out.trans (q1.mono HC.out.size)); try (replace R9 := Lib.hid (R9.out.next q1)); try (replace R10 := Lib.hid (R10.out.next q1)); clear q1 q2 q3
        refine hK.out _ _ ?_ (fun hHeld => ?_)
        · (try dsimp only); first | exact HC.out | exact HC.out.drew
        clear hK K
        try simp only [Act.put, List.setIfInBounds_toArray, List.set_cons_zero, List.set_cons_succ]
        refine wpAnyH_ready (rs := [6]) (by kernel_rfl) (by simp) ?_
        refine hcons rfl (fun K hK => ?_) (AllReadyH.nil)
        refine step_append_fresh rfl (.tmp 49) (.tmp 50) 26 rfl 51 i0 _ 28 224 Tryz.underlying26 hi hz0 hz1 hz2 rfl (by decide) pc_len _ rfl A1 l c1 rfl (HL.out.next HC.out) (by have := HFAR.out; unfold maxLen; omega) (by have := HFAR.out; omega) ?_; intro A10 c10 W10 hat hb; have R10 := Lib.hid hat.at_; replace R9 := Lib.hid (R9.out.next hb); replace HC := Lib.hid (HC.out.trans (hb.mono HC.out.size)); clear hat hb
        refine hK.out _ _ ?_ (fun hHeld => ?_)
        · (try dsimp only); first | exact HC.out | exact HC.out.drew
        clear hK K
        try simp only [Act.put, List.setIfInBounds_toArray, List.set_cons_zero, List.set_cons_succ]
        refine wpAnyH_ready (rs := [9]) (by kernel_rfl) (by simp) ?_
        refine hcons rfl (fun K hK => ?_) (AllReadyH.nil)
        refine step_append_fresh rfl (.tmp 52) (.tmp 53) 44 rfl 66 j0 _ 4 32 Tryz.underlying44 hj hy0 hy1 hy2 rfl (by decide) wo_len _ rfl A2 u c2 rfl (HU.out.next HC.out) (by have := HFAR.out; unfold maxLen; omega) (by have := HFAR.out; omega) ?_; intro A11 c11 W11 hat hb; have R11 := Lib.hid hat.at_; replace R9 := Lib.hid (R9.out.next hb); replace R10 := Lib.hid (R10.out.next hb); replace HC := Lib.hid (HC.out.trans (hb.mono HC.out.size)); clear hat hb
        refine hK.out _ _ ?_ (fun hHeld => ?_)
        · (try dsimp only); first | exact HC.out | exact HC.out.drew
        clear hK K
        try simp only [Act.put, List.setIfInBounds_toArray, List.set_cons_zero, List.set_cons_succ]
        refine htake (i := 12) (v := ?v23) rfl (by kernel_rfl) (by kernel_rfl) (by kernel_rfl) (fun _ _ _ h => h) (Or.inl ⟨by rfl, ?hy23⟩) (by assumption) ?_
        case hy23 => (intro w hSw; (try dsimp only at hSw); go_simp; try (with_reducible rfl))
        try simp only [Act.put, List.setIfInBounds_toArray, List.set_cons_zero, List.set_cons_succ]
        refine htake (i := 13) (v := ?v24) rfl (by kernel_rfl) (by kernel_rfl) (by kernel_rfl) (fun _ _ _ h => h) (Or.inl ⟨by rfl, ?hy24⟩) (by assumption) ?_
        case hy24 => (intro w hSw; (try dsimp only at hSw); go_simp; try (with_reducible rfl))
        try simp only [Act.put, List.setIfInBounds_toArray, List.set_cons_zero, List.set_cons_succ]
        refine htake (i := 14) (v := ?v25) rfl (by kernel_rfl) (by kernel_rfl) (by kernel_rfl) (fun _ _ _ h => h) (Or.inl ⟨by rfl, ?hy25⟩) (by assumption) ?_
        case hy25 => (intro w hSw; (try dsimp only at hSw); go_simp; try (with_reducible rfl))
        try simp only [Act.put, List.setIfInBounds_toArray, List.set_cons_zero, List.set_cons_succ]
        refine htake (i := 15) (v := ?v26) rfl (by kernel_rfl) (by kernel_rfl) (by kernel_rfl) (fun _ _ _ h => h) (Or.inl ⟨by rfl, ?hy26⟩) (by assumption) ?_
        case hy26 => (intro w hSw; (try dsimp only at hSw); go_simp; try (with_reducible rfl))
        try simp only [Act.put, List.setIfInBounds_toArray, List.set_cons_zero, List.set_cons_succ]
        refine wpAnyH_done (by kernel_rfl) ?_ _
        refine NoPanic.normal ?_
        rotate_left
        go_simp
        (first | refine hold_alloc (fun Wa q1 q2 q3 => ?_) | refine hold_alloc_drew (fun Wa q1 q2 q3 => ?_)); replace HC := Lib.hid (HC.out.trans (q1.mono HC.out.size)); try (replace R9 := Lib.hid (R9.out.next q1)); try (replace R10 := Lib.hid (R10.out.next q1)); clear q1 q2 q3
        refine hK.out _ _ ?_ (fun hHeld => ?_)
        · (try dsimp only); first | exact HC.out | exact HC.out.drew
        clear hK K
        try simp only [Act.put, List.setIfInBounds_toArray, List.set_cons_zero, List.set_cons_succ]
        refine wpAnyH_ready (rs := [3]) (by kernel_rfl) (by simp) ?_
        refine hcons rfl (fun K hK => ?_) (AllReadyH.nil)
        refine step_append_fresh rfl (.tmp 45) (.tmp 47) 26 rfl 51 i0 _ 28 224 Tryz.underlying26 hi hz0 hz1 hz2 rfl (by decide) pc_len _ rfl d.A d.d.pieces d.c rfl ((HM.out.next HC.out).pc) (by have := HFAR.out; unfold maxLen; omega) (by have := HFAR.out; omega) ?_; intro A9 c9 W9 hat hb; have R9 := Lib.hid hat.at_; replace HC := Lib.hid (HC.out.trans (hb.mono HC.out.size)); clear hat hb
        refine hK.out _ _ ?_ (fun hHeld => ?_)
        · (try dsimp only); first | exact HC.out | exact HC.out.drew
        clear hK K
        try simp only [Act.put, List.setIfInBounds_toArray, List.set_cons_zero, List.set_cons_succ]
        refine wpAnyH_ready (rs := [6]) (by kernel_rfl) (by simp) ?_
        refine hcons rfl (fun K hK => ?_) (AllReadyH.nil)
        refine step_append_fresh rfl (.tmp 49) (.tmp 50) 26 rfl 51 i0 _ 28 224 Tryz.underlying26 hi hz0 hz1 hz2 rfl (by decide) pc_len _ rfl A1 l c1 rfl (HL.out.next HC.out) (by have := HFAR.out; unfold maxLen; omega) (by have := HFAR.out; omega) ?_; intro A10 c10 W10 hat hb; have R10 := Lib.hid hat.at_; replace R9 := Lib.hid (R9.out.next hb); replace HC := Lib.hid (HC.out.trans (hb.mono HC.out.size)); clear hat hb
        refine hK.out _ _ ?_ (fun hHeld => ?_)
        · (try dsimp only); first | exact HC.out | exact HC.out.drew
        clear hK K
        try simp only [Act.put, List.setIfInBounds_toArray, List.set_cons_zero, List.set_cons_succ]
        refine wpAnyH_ready (rs := [9]) (by kernel_rfl) (by simp) ?_
        refine hcons rfl (fun K hK => ?_) (AllReadyH.nil)
        refine step_append_fresh rfl (.tmp 52) (.tmp 53) 44 rfl 66 j0 _ 4 32 Tryz.underlying44 hj hy0 hy1 hy2 rfl (by decide) wo_len _ rfl A2 u c2 rfl (HU.out.next HC.out) (by have := HFAR.out; unfold maxLen; omega) (by have := HFAR.out; omega) ?_; intro A11 c11 W11 hat hb; have R11 := Lib.hid hat.at_; replace R9 := Lib.hid (R9.out.next hb); replace R10 := Lib.hid (R10.out.next hb); replace HC := Lib.hid (HC.out.trans (hb.mono HC.out.size)); clear hat hb
        refine hK.out _ _ ?_ (fun hHeld => ?_)
        · (try dsimp only); first | exact HC.out | exact HC.out.drew
        clear hK K
        try simp only [Act.put, List.setIfInBounds_toArray, List.set_cons_zero, List.set_cons_succ]
        refine htake (i := 12) (v := ?v27) rfl (by kernel_rfl) (by kernel_rfl) (by kernel_rfl) (fun _ _ _ h => h) (Or.inl ⟨by rfl, ?hy27⟩) (by assumption) ?_
        case hy27 => (intro w hSw; (try dsimp only at hSw); go_simp; try (with_reducible rfl))
        try simp only [Act.put, List.setIfInBounds_toArray, List.set_cons_zero, List.set_cons_succ]
        refine htake (i := 13) (v := ?v28) rfl (by kernel_rfl) (by kernel_rfl) (by kernel_rfl) (fun _ _ _ h => h) (Or.inl ⟨by rfl, ?hy28⟩) (by assumption) ?_
        case hy28 => (intro w hSw; (try dsimp only at hSw); go_simp; try (with_reducible rfl))
        try simp only [Act.put, List.setIfInBounds_toArray, List.set_cons_zero, List.set_cons_succ]
        refine htake (i := 14) (v := ?v29) rfl (by kernel_rfl) (by kernel_rfl) (by kernel_rfl) (fun _ _ _ h => h) (Or.inl ⟨by rfl, ?hy29⟩) (by assumption) ?_
        case hy29 => (intro w hSw; (try dsimp only at hSw); go_simp; try (with_reducible rfl))
        try simp only [Act.put, List.setIfInBounds_toArray, List.set_cons_zero, List.set_cons_succ]
        refine htake (i := 15) (v := ?v30) rfl (by kernel_rfl) (by kernel_rfl) (by kernel_rfl) (fun _ _ _ h => h) (Or.inl ⟨by rfl, ?hy30⟩) (by assumption) ?_
        case hy30 => (intro w hSw; (try dsimp only at hSw); go_simp; try (with_reducible rfl))
        try simp only [Act.put, List.setIfInBounds_toArray, List.set_cons_zero, List.set_cons_succ]
        refine wpAnyH_done (by kernel_rfl) ?_ _
        refine NoPanic.normal ?_
        rotate_left
        go_simp
        (first | refine hold_alloc (fun Wa q1 q2 q3 => ?_) | refine hold_alloc_drew (fun Wa q1 q2 q3 => ?_)); replace HC := Lib.hid (HC.out.trans (q1.mono HC.out.size)); try (replace R9 := Lib.hid (R9.out.next q1)); try (replace R10 := Lib.hid (R10.out.next q1)); clear q1 q2 q3
        refine hK.out _ _ ?_ (fun hHeld => ?_)
        · (try dsimp only); first | exact HC.out | exact HC.out.drew
        clear hK K
        try simp only [Act.put, List.setIfInBounds_toArray, List.set_cons_zero, List.set_cons_succ]
        refine wpAnyH_ready (rs := [3, 4]) (by kernel_rfl) (by simp) ?_
        refine hcons rfl (fun K hK => ?_) (hcons rfl (fun K hK => ?_) (AllReadyH.nil))
        refine step_append_fresh rfl (.tmp 45) (.tmp 47) 26 rfl 51 i0 _ 28 224 Tryz.underlying26 hi hz0 hz1 hz2 rfl (by decide) pc_len _ rfl d.A d.d.pieces d.c rfl ((HM.out.next HC.out).pc) (by have := HFAR.out; unfold maxLen; omega) (by have := HFAR.out; omega) ?_; intro A9 c9 W9 hat hb; have R9 := Lib.hid hat.at_; replace HC := Lib.hid (HC.out.trans (hb.mono HC.out.size)); clear hat hb
        refine hK.out _ _ ?_ (fun hHeld => ?_)
        · (try dsimp only); first | exact HC.out | exact HC.out.drew
        clear hK K
        try simp only [Act.put, List.setIfInBounds_toArray, List.set_cons_zero, List.set_cons_succ]
        refine wpAnyH_ready (rs := [4]) (by kernel_rfl) (by simp) ?_
        refine hcons rfl (fun K hK => ?_) (AllReadyH.nil)
        go_simp
        (first | refine hold_alloc (fun Wa q1 q2 q3 => ?_) | refine hold_alloc_drew (fun Wa q1 q2 q3 => ?_)); replace HC := Lib.hid (HC.out.trans (q1.mono HC.out.size)); try (replace R9 := Lib.hid (R9.out.next q1)); try (replace R10 := Lib.hid (R10.out.next q1)); clear q1 q2 q3
        refine hK.out _ _ ?_ (fun hHeld => ?_)
        · (try dsimp only); first | exact HC.out | exact HC.out.drew
        clear hK K
        try simp only [Act.put, List.setIfInBounds_toArray, List.set_cons_zero, List.set_cons_succ]
        refine wpAnyH_ready (rs := [6]) (by kernel_rfl) (by simp) ?_
        refine hcons rfl (fun K hK => ?_) (AllReadyH.nil)
        refine step_append_fresh rfl (.tmp 49) (.tmp 50) 26 rfl 51 i0 _ 28 224 Tryz.underlying26 hi hz0 hz1 hz2 rfl (by decide) pc_len _ rfl A1 l c1 rfl (HL.out.next HC.out) (by have := HFAR.out; unfold maxLen; omega) (by have := HFAR.out; omega) ?_; intro A10 c10 W10 hat hb; have R10 := Lib.hid hat.at_; replace R9 := Lib.hid (R9.out.next hb); replace HC := Lib.hid (HC.out.trans (hb.mono HC.out.size)); clear hat hb
        refine hK.out _ _ ?_ (fun hHeld => ?_)
        · (try dsimp only); first | exact HC.out | exact HC.out.drew
        clear hK K
        try simp only [Act.put, List.setIfInBounds_toArray, List.set_cons_zero, List.set_cons_succ]
        refine wpAnyH_ready (rs := [9]) (by kernel_rfl) (by simp) ?_
        refine hcons rfl (fun K hK => ?_) (AllReadyH.nil)
        refine step_append_fresh rfl (.tmp 52) (.tmp 53) 44 rfl 66 j0 _ 4 32 Tryz.underlying44 hj hy0 hy1 hy2 rfl (by decide) wo_len _ rfl A2 u c2 rfl (HU.out.next HC.out) (by have := HFAR.out; unfold maxLen; omega) (by have := HFAR.out; omega) ?_; intro A11 c11 W11 hat hb; have R11 := Lib.hid hat.at_; replace R9 := Lib.hid (R9.out.next hb); replace R10 := Lib.hid (R10.out.next hb); replace HC := Lib.hid (HC.out.trans (hb.mono HC.out.size)); clear hat hb
        refine hK.out _ _ ?_ (fun hHeld => ?_)
        · (try dsimp only); first | exact HC.out | exact HC.out.drew
        clear hK K
        try simp only [Act.put, List.setIfInBounds_toArray, List.set_cons_zero, List.set_cons_succ]
        refine htake (i := 12) (v := ?v31) rfl (by kernel_rfl) (by kernel_rfl) (by kernel_rfl) (fun _ _ _ h => h) (Or.inl ⟨by rfl, ?hy31⟩) (by assumption) ?_
        case hy31 => (intro w hSw; (try dsimp only at hSw); go_simp; try (with_reducible rfl))
        try simp only [Act.put, List.setIfInBounds_toArray, List.set_cons_zero, List.set_cons_succ]
        refine htake (i := 13) (v := ?v32) rfl (by kernel_rfl) (by kernel_rfl) (by kernel_rfl) (fun _ _ _ h => h) (Or.inl ⟨by rfl, ?hy32⟩) (by assumption) ?_
        case hy32 => (intro w hSw; (try dsimp only at hSw); go_simp; try (with_reducible rfl))
        try simp only [Act.put, List.setIfInBounds_toArray, List.set_cons_zero, List.set_cons_succ]
        refine htake (i := 14) (v := ?v33) rfl (by kernel_rfl) (by kernel_rfl) (by kernel_rfl) (fun _ _ _ h => h) (Or.inl ⟨by rfl, ?hy33⟩) (by assumption) ?_
        case hy33 => (intro w hSw; (try dsimp only at hSw); go_simp; try (with_reducible rfl))
        try simp only [Act.put, List.setIfInBounds_toArray, List.set_cons_zero, List.set_cons_succ]
        refine htake (i := 15) (v := ?v34) rfl (by kernel_rfl) (by kernel_rfl) (by kernel_rfl) (fun _ _ _ h => h) (Or.inl ⟨by rfl, ?hy34⟩) (by assumption) ?_
        case hy34 => (intro w hSw; (try dsimp only at hSw); go_simp; try (with_reducible rfl))
        try simp only [Act.put, List.setIfInBounds_toArray, List.set_cons_zero, List.set_cons_succ]
        refine wpAnyH_done (by kernel_rfl) ?_ _
        refine NoPanic.normal ?_
        rotate_left
        go_simp
        (first | refine hold_alloc (fun Wa q1 q2 q3 => ?_) | refine hold_alloc_drew (fun Wa q1 q2 q3 => ?_)); replace HC := Lib.hid (HC.out.trans (q1.mono HC.out.size)); try (replace R9 := Lib.hid (R9.out.next q1)); try (replace R10 := Lib.hid (R10.out.next q1)); clear q1 q2 q3
        refine hK.out _ _ ?_ (fun hHeld => ?_)
        · (try dsimp only); first | exact HC.out | exact HC.out.drew
        clear hK K
        try simp only [Act.put, List.setIfInBounds_toArray, List.set_cons_zero, List.set_cons_succ]
        refine wpAnyH_ready (rs := [3]) (by kernel_rfl) (by simp) ?_
        refine hcons rfl (fun K hK => ?_) (AllReadyH.nil)
        refine step_append_fresh rfl (.tmp 45) (.tmp 47) 26 rfl 51 i0 _ 28 224 Tryz.underlying26 hi hz0 hz1 hz2 rfl (by decide) pc_len _ rfl d.A d.d.pieces d.c rfl ((HM.out.next HC.out).pc) (by have := HFAR.out; unfold maxLen; omega) (by have := HFAR.out; omega) ?_; intro A9 c9 W9 hat hb; have R9 := Lib.hid hat.at_; replace HC := Lib.hid (HC.out.trans (hb.mono HC.out.size)); clear hat hb
        refine hK.out _ _ ?_ (fun hHeld => ?_)
        · (try dsimp only); first | exact HC.out | exact HC.out.drew
        clear hK K
        try simp only [Act.put, List.setIfInBounds_toArray, List.set_cons_zero, List.set_cons_succ]
        refine wpAnyH_ready (rs := [6]) (by kernel_rfl) (by simp) ?_
        refine hcons rfl (fun K hK => ?_) (AllReadyH.nil)
        refine step_append_fresh rfl (.tmp 49) (.tmp 50) 26 rfl 51 i0 _ 28 224 Tryz.underlying26 hi hz0 hz1 hz2 rfl (by decide) pc_len _ rfl A1 l c1 rfl (HL.out.next HC.out) (by have := HFAR.out; unfold maxLen; omega) (by have := HFAR.out; omega) ?_; intro A10 c10 W10 hat hb; have R10 := Lib.hid hat.at_; replace R9 := Lib.hid (R9.out.next hb); replace HC := Lib.hid (HC.out.trans (hb.mono HC.out.size)); clear hat hb
        refine hK.out _ _ ?_ (fun hHeld => ?_)
        · (try dsimp only); first | exact HC.out | exact HC.out.drew
        clear hK K
        try simp only [Act.put, List.setIfInBounds_toArray, List.set_cons_zero, List.set_cons_succ]
        refine wpAnyH_ready (rs := [9]) (by kernel_rfl) (by simp) ?_
        refine hcons rfl (fun K hK => ?_) (AllReadyH.nil)
        refine step_append_fresh rfl (.tmp 52) (.tmp 53) 44 rfl 66 j0 _ 4 32 Tryz.underlying44 hj hy0 hy1 hy2 rfl (by decide) wo_len _ rfl A2 u c2 rfl (HU.out.next HC.out) (by have := HFAR.out; unfold maxLen; omega) (by have := HFAR.out; omega) ?_; intro A11 c11 W11 hat hb; have R11 := Lib.hid hat.at_; replace R9 := Lib.hid (R9.out.next hb); replace R10 := Lib.hid (R10.out.next hb); replace HC := Lib.hid (HC.out.trans (hb.mono HC.out.size)); clear hat hb
        refine hK.out _ _ ?_ (fun hHeld => ?_)
        · (try dsimp only); first | exact HC.out | exact HC.out.drew
        clear hK K
        try simp only [Act.put, List.setIfInBounds_toArray, List.set_cons_zero, List.set_cons_succ]
        refine htake (i := 12) (v := ?v35) rfl (by kernel_rfl) (by kernel_rfl) (by kernel_rfl) (fun _ _ _ h => h) (Or.inl ⟨by rfl, ?hy35⟩) (by assumption) ?_
        case hy35 => (intro w hSw; (try dsimp only at hSw); go_simp; try (with_reducible rfl))
        try simp only [Act.put, List.setIfInBounds_toArray, List.set_cons_zero, List.set_cons_succ]
        refine htake (i := 13) (v := ?v36) rfl (by kernel_rfl) (by kernel_rfl) (by kernel_rfl) (fun _ _ _ h => h) (Or.inl ⟨by rfl, ?hy36⟩) (by assumption) ?_
        case hy36 => (intro w hSw; (try dsimp only at hSw); go_simp; try (with_reducible rfl))
        try simp only [Act.put, List.setIfInBounds_toArray, List.set_cons_zero, List.set_cons_succ]
        refine htake (i := 14) (v := ?v37) rfl (by kernel_rfl) (by kernel_rfl) (by kernel_rfl) (fun _ _ _ h => h) (Or.inl ⟨by rfl, ?hy37⟩) (by assumption) ?_
        case hy37 => (intro w hSw; (try dsimp only at hSw); go_simp; try (with_reducible rfl))
        try simp only [Act.put, List.setIfInBounds_toArray, List.set_cons_zero, List.set_cons_succ]
        refine htake (i := 15) (v := ?v38) rfl (by kernel_rfl) (by kernel_rfl) (by kernel_rfl) (fun _ _ _ h => h) (Or.inl ⟨by rfl, ?hy38⟩) (by assumption) ?_
        case hy38 => (intro w hSw; (try dsimp only at hSw); go_simp; try (with_reducible rfl))
        try simp only [Act.put, List.setIfInBounds_toArray, List.set_cons_zero, List.set_cons_succ]
        refine wpAnyH_done (by kernel_rfl) ?_ _
        refine NoPanic.normal ?_
        rotate_left
        go_simp
        (first | refine hold_alloc (fun Wa q1 q2 q3 => ?_) | refine hold_alloc_drew (fun Wa q1 q2 q3 => ?_)); replace HC := Lib.hid (HC.out.trans (q1.mono HC.out.size)); try (replace R9 := Lib.hid (R9.out.next q1)); try (replace R10 := Lib.hid (R10.out.next q1)); clear q1 q2 q3
        refine hK.out _ _ ?_ (fun hHeld => ?_)
        · (try dsimp only); first | exact HC.out | exact HC.out.drew
        clear hK K
        try simp only [Act.put, List.setIfInBounds_toArray, List.set_cons_zero, List.set_cons_succ]
        refine wpAnyH_ready (rs := [0, 7]) (by kernel_rfl) (by simp) ?_
        refine hcons rfl (fun K hK => ?_) (hcons rfl (fun K hK => ?_) (AllReadyH.nil))
        go_simp
        (first | refine hold_alloc (fun Wa q1 q2 q3 => ?_) | refine hold_alloc_drew (fun Wa q1 q2 q3 => ?_)); replace HC := Lib.hid (HC.out.trans (q1.mono HC.out.size)); try (replace R9 := Lib.hid (R9.out.next q1)); try (replace R10 := Lib.hid (R10.out.next q1)); clear q1 q2 q3
        refine hK.out _ _ ?_ (fun hHeld => ?_)
        · (try dsimp only); first | exact HC.out | exact HC.out.drew
        clear hK K
        try simp only [Act.put, List.setIfInBounds_toArray, List.set_cons_zero, List.set_cons_succ]
        refine wpAnyH_ready (rs := [3, 7]) (by kernel_rfl) (by simp) ?_
        refine hcons rfl (fun K hK => ?_) (hcons rfl (fun K hK => ?_) (AllReadyH.nil))
        refine step_append_fresh rfl (.tmp 45) (.tmp 47) 26 rfl 51 i0 _ 28 224 Tryz.underlying26 hi hz0 hz1 hz2 rfl (by decide) pc_len _ rfl d.A d.d.pieces d.c rfl ((HM.out.next HC.out).pc) (by have := HFAR.out; unfold maxLen; omega) (by have := HFAR.out; omega) ?_; intro A9 c9 W9 hat hb; have R9 := Lib.hid hat.at_; replace HC := Lib.hid (HC.out.trans (hb.mono HC.out.size)); clear hat hb
        refine hK.out _ _ ?_ (fun hHeld => ?_)
        · (try dsimp only); first | exact HC.out | exact HC.out.drew
        clear hK K
        try simp only [Act.put, List.setIfInBounds_toArray, List.set_cons_zero, List.set_cons_succ]
        refine wpAnyH_ready (rs := [6, 7]) (by kernel_rfl) (by simp) ?_
        refine hcons rfl (fun K hK => ?_) (hcons rfl (fun K hK => ?_) (AllReadyH.nil))
        refine step_append_fresh rfl (.tmp 49) (.tmp 50) 26 rfl 51 i0 _ 28 224 Tryz.underlying26 hi hz0 hz1 hz2 rfl (by decide) pc_len _ rfl A1 l c1 rfl (HL.out.next HC.out) (by have := HFAR.out; unfold maxLen; omega) (by have := HFAR.out; omega) ?_; intro A10 c10 W10 hat hb; have R10 := Lib.hid hat.at_; replace R9 := Lib.hid (R9.out.next hb); replace HC := Lib.hid (HC.out.trans (hb.mono HC.out.size)); clear hat hb
        refine hK.out _ _ ?_ (fun hHeld => ?_)
        · (try dsimp only); first | exact HC.out | exact HC.out.drew
        clear hK K
        try simp only [Act.put, List.setIfInBounds_toArray, List.set_cons_zero, List.set_cons_succ]
        refine wpAnyH_ready (rs := [7]) (by kernel_rfl) (by simp) ?_
        refine hcons rfl (fun K hK => ?_) (AllReadyH.nil)
        go_simp
        (first | refine hold_alloc (fun Wa q1 q2 q3 => ?_) | refine hold_alloc_drew (fun Wa q1 q2 q3 => ?_)); replace HC := Lib.hid (HC.out.trans (q1.mono HC.out.size)); try (replace R9 := Lib.hid (R9.out.next q1)); try (replace R10 := Lib.hid (R10.out.next q1)); clear q1 q2 q3
        refine hK.out _ _ ?_ (fun hHeld => ?_)
        · (try dsimp only); first | exact HC.out | exact HC.out.drew
        clear hK K
        try simp only [Act.put, List.setIfInBounds_toArray, List.set_cons_zero, List.set_cons_succ]
        refine wpAnyH_ready (rs := [9]) (by kernel_rfl) (by simp) ?_
        refine hcons rfl (fun K hK => ?_) (AllReadyH.nil)
        refine step_append_fresh rfl (.tmp 52) (.tmp 53) 44 rfl 66 j0 _ 4 32 Tryz.underlying44 hj hy0 hy1 hy2 rfl (by decide) wo_len _ rfl A2 u c2 rfl (HU.out.next HC.out) (by have := HFAR.out; unfold maxLen; omega) (by have := HFAR.out; omega) ?_; intro A11 c11 W11 hat hb; have R11 := Lib.hid hat.at_; replace R9 := Lib.hid (R9.out.next hb); replace R10 := Lib.hid (R10.out.next hb); replace HC := Lib.hid (HC.out.trans (hb.mono HC.out.size)); clear hat hb
        refine hK.out _ _ ?_ (fun hHeld => ?_)
        · (try dsimp only); first | exact HC.out | exact HC.out.drew
        clear hK K
        try simp only [Act.put, List.setIfInBounds_toArray, List.set_cons_zero, List.set_cons_succ]
        refine htake (i := 12) (v := ?v39) rfl (by kernel_rfl) (by kernel_rfl) (by kernel_rfl) (fun _ _ _ h => h) (Or.inl ⟨by rfl, ?hy39⟩) (by assumption) ?_
        case hy39 => (intro w hSw; (try dsimp only at hSw); go_simp; try (with_reducible rfl))
        try simp only [Act.put, List.setIfInBounds_toArray, List.set_cons_zero, List.set_cons_succ]
        refine htake (i := 13) (v := ?v40) rfl (by kernel_rfl) (by kernel_rfl) (by kernel_rfl) (fun _ _ _ h => h) (Or.inl ⟨by rfl, ?hy40⟩) (by assumption) ?_
        case hy40 => (intro w hSw; (try dsimp only at hSw); go_simp; try (with_reducible rfl))
        try simp only [Act.put, List.setIfInBounds_toArray, List.set_cons_zero, List.set_cons_succ]
        refine htake (i := 14) (v := ?v41) rfl (by kernel_rfl) (by kernel_rfl) (by kernel_rfl) (fun _ _ _ h => h) (Or.inl ⟨by rfl, ?hy41⟩) (by assumption) ?_
        case hy41 => (intro w hSw; (try dsimp only at hSw); go_simp; try (with_reducible rfl))
        try simp only [Act.put, List.setIfInBounds_toArray, List.set_cons_zero, List.set_cons_succ]
        refine htake (i := 15) (v := ?v42) rfl (by kernel_rfl) (by kernel_rfl) (by kernel_rfl) (fun _ _ _ h => h) (Or.inl ⟨by rfl, ?hy42⟩) (by assumption) ?_
        case hy42 => (intro w hSw; (try dsimp only at hSw); go_simp; try (with_reducible rfl))
        try simp only [Act.put, List.setIfInBounds_toArray, List.set_cons_zero, List.set_cons_succ]
        refine wpAnyH_done (by kernel_rfl) ?_ _
        refine NoPanic.normal ?_
        rotate_left
        go_simp
        (first | refine hold_alloc (fun Wa q1 q2 q3 => ?_) | refine hold_alloc_drew (fun Wa q1 q2 q3 => ?_)); replace HC := Lib.hid (HC.out.trans (q1.mono HC.out.size)); try (replace R9 := Lib.hid (R9.out.next q1)); try (replace R10 := Lib.hid (R10.out.next q1)); clear q1 q2 q3
        refine hK.out _ _ ?_ (fun hHeld => ?_)
        · (try dsimp only); first | exact HC.out | exact HC.out.drew
        clear hK K
        try simp only [Act.put, List.setIfInBounds_toArray, List.set_cons_zero, List.set_cons_succ]
        refine wpAnyH_ready (rs := [6]) (by kernel_rfl) (by simp) ?_
        refine hcons rfl (fun K hK => ?_) (AllReadyH.nil)
        refine step_append_fresh rfl (.tmp 49) (.tmp 50) 26 rfl 51 i0 _ 28 224 Tryz.underlying26 hi hz0 hz1 hz2 rfl (by decide) pc_len _ rfl A1 l c1 rfl (HL.out.next HC.out) (by have := HFAR.out; unfold maxLen; omega) (by have := HFAR.out; omega) ?_; intro A10 c10 W10 hat hb; have R10 := Lib.hid hat.at_; replace R9 := Lib.hid (R9.out.next hb); replace HC := Lib.hid (HC.out.trans (hb.mono HC.out.size)); clear hat hb
        refine hK.out _ _ ?_ (fun hHeld => ?_)
        · (try dsimp only); first | exact HC.out | exact HC.out.drew
        clear hK K
        try simp only [Act.put, List.setIfInBounds_toArray, List.set_cons_zero, List.set_cons_succ]
        refine wpAnyH_ready (rs := [9]) (by kernel_rfl) (by simp) ?_
        refine hcons rfl (fun K hK => ?_) (AllReadyH.nil)
        refine step_append_fresh rfl (.tmp 52) (.tmp 53) 44 rfl 66 j0 _ 4 32 Tryz.underlying44 hj hy0 hy1 hy2 rfl (by decide) wo_len _ rfl A2 u c2 rfl (HU.out.next HC.out) (by have := HFAR.out; unfold maxLen; omega) (by have := HFAR.out; omega) ?_; intro A11 c11 W11 hat hb; have R11 := Lib.hid hat.at_; replace R9 := Lib.hid (R9.out.next hb); replace R10 := Lib.hid (R10.out.next hb); replace HC := Lib.hid (HC.out.trans (hb.mono HC.out.size)); clear hat hb
        refine hK.out _ _ ?_ (fun hHeld => ?_)
        · (try dsimp only); first | exact HC.out | exact HC.out.drew
        clear hK K
        try simp only [Act.put, List.setIfInBounds_toArray, List.set_cons_zero, List.set_cons_succ]
        refine htake (i := 12) (v := ?v43) rfl (by kernel_rfl) (by kernel_rfl) (by kernel_rfl) (fun _ _ _ h => h) (Or.inl ⟨by rfl, ?hy43⟩) (by assumption) ?_
        case hy43 => (intro w hSw; (try dsimp only at hSw); go_simp; try (with_reducible rfl))
        try simp only [Act.put, List.setIfInBounds_toArray, List.set_cons_zero, List.set_cons_succ]
        refine htake (i := 13) (v := ?v44) rfl (by kernel_rfl) (by kernel_rfl) (by kernel_rfl) (fun _ _ _ h => h) (Or.inl ⟨by rfl, ?hy44⟩) (by assumption) ?_
        case hy44 => (intro w hSw; (try dsimp only at hSw); go_simp; try (with_reducible rfl))
        try simp only [Act.put, List.setIfInBounds_toArray, List.set_cons_zero, List.set_cons_succ]
        refine htake (i := 14) (v := ?v45) rfl (by kernel_rfl) (by kernel_rfl) (by kernel_rfl) (fun _ _ _ h => h) (Or.inl ⟨by rfl, ?hy45⟩) (by assumption) ?_
        case hy45 => (intro w hSw; (try dsimp only at hSw); go_simp; try (with_reducible rfl))
        try simp only [Act.put, List.setIfInBounds_toArray, List.set_cons_zero, List.set_cons_succ]
        refine htake (i := 15) (v := ?v46) rfl (by kernel_rfl) (by kernel_rfl) (by kernel_rfl) (fun _ _ _ h => h) (Or.inl ⟨by rfl, ?hy46⟩) (by assumption) ?_
        case hy46 => (intro w hSw; (try dsimp only at hSw); go_simp; try (with_reducible rfl))
        try simp only [Act.put, List.setIfInBounds_toArray, List.set_cons_zero, List.set_cons_succ]
        refine wpAnyH_done (by kernel_rfl) ?_ _
        refine NoPanic.normal ?_
        rotate_left
        go_simp
        (first | refine hold_alloc (fun Wa q1 q2 q3 => ?_) | refine hold_alloc_drew (fun Wa q1 q2 q3 => ?_)); replace HC := Lib.hid (HC.out.trans (q1.mono HC.out.size)); try (replace R9 := Lib.hid (R9.out.next q1)); try (replace R10 := Lib.hid (R10.out.next q1)); clear q1 q2 q3
        refine hK.out _ _ ?_ (fun hHeld => ?_)
        · (try dsimp only); first | exact HC.out | exact HC.out.drew
        clear hK K
        try simp only [Act.put, List.setIfInBounds_toArray, List.set_cons_zero, List.set_cons_succ]
        refine wpAnyH_ready (rs := [3]) (by kernel_rfl) (by simp) ?_
        refine hcons rfl (fun K hK => ?_) (AllReadyH.nil)
        refine step_append_fresh rfl (.tmp 45) (.tmp 47) 26 rfl 51 i0 _ 28 224 Tryz.underlying26 hi hz0 hz1 hz2 rfl (by decide) pc_len _ rfl d.A d.d.pieces d.c rfl ((HM.out.next HC.out).pc) (by have := HFAR.out; unfold maxLen; omega) (by have := HFAR.out; omega) ?_; intro A9 c9 W9 hat hb; have R9 := Lib.hid hat.at_; replace HC := Lib.hid (HC.out.trans (hb.mono HC.out.size)); clear hat hb
        refine hK.out _ _ ?_ (fun hHeld => ?_)
        · (try dsimp only); first | exact HC.out | exact HC.out.drew
        clear hK K
        try simp only [Act.put, List.setIfInBounds_toArray, List.set_cons_zero, List.set_cons_succ]
        refine wpAnyH_ready (rs := [6]) (by kernel_rfl) (by simp) ?_
        refine hcons rfl (fun K hK => ?_) (AllReadyH.nil)
        refine step_append_fresh rfl (.tmp 49) (.tmp 50) 26 rfl 51 i0 _ 28 224 Tryz.underlying26 hi hz0 hz1 hz2 rfl (by decide) pc_len _ rfl A1 l c1 rfl (HL.out.next HC.out) (by have := HFAR.out; unfold maxLen; omega) (by have := HFAR.out; omega) ?_; intro A10 c10 W10 hat hb; have R10 := Lib.hid hat.at_; replace R9 := Lib.hid (R9.out.next hb); replace HC := Lib.hid (HC.out.trans (hb.mono HC.out.size)); clear hat hb
        refine hK.out _ _ ?_ (fun hHeld => ?_)
        · (try dsimp only); first | exact HC.out | exact HC.out.drew
        clear hK K
        try simp only [Act.put, List.setIfInBounds_toArray, List.set_cons_zero, List.set_cons_succ]
        refine wpAnyH_ready (rs := [9]) (by kernel_rfl) (by simp) ?_
        refine hcons rfl (fun K hK => ?_) (AllReadyH.nil)
        refine step_append_fresh rfl (.tmp 52) (.tmp 53) 44 rfl 66 j0 _ 4 32 Tryz.underlying44 hj hy0 hy1 hy2 rfl (by decide) wo_len _ rfl A2 u c2 rfl (HU.out.next HC.out) (by have := HFAR.out; unfold maxLen; omega) (by have := HFAR.out; omega) ?_; intro A11 c11 W11 hat hb; have R11 := Lib.hid hat.at_; replace R9 := Lib.hid (R9.out.next hb); replace R10 := Lib.hid (R10.out.next hb); replace HC := Lib.hid (HC.out.trans (hb.mono HC.out.size)); clear hat hb
        refine hK.out _ _ ?_ (fun hHeld => ?_)
        · (try dsimp only); first | exact HC.out | exact HC.out.drew
        clear hK K
        try simp only [Act.put, List.setIfInBounds_toArray, List.set_cons_zero, List.set_cons_succ]
        refine htake (i := 12) (v := ?v47) rfl (by kernel_rfl) (by kernel_rfl) (by kernel_rfl) (fun _ _ _ h => h) (Or.inl ⟨by rfl, ?hy47⟩) (by assumption) ?_
        case hy47 => (intro w hSw; (try dsimp only at hSw); go_simp; try (with_reducible rfl))
        try simp only [Act.put, List.setIfInBounds_toArray, List.set_cons_zero, List.set_cons_succ]
        refine htake (i := 13) (v := ?v48) rfl (by kernel_rfl) (by kernel_rfl) (by kernel_rfl) (fun _ _ _ h => h) (Or.inl ⟨by rfl, ?hy48⟩) (by assumption) ?_
        case hy48 => (intro w hSw; (try dsimp only at hSw); go_simp; try (with_reducible rfl))
        try simp only [Act.put, List.setIfInBounds_toArray, List.set_cons_zero, List.set_cons_succ]
        refine htake (i := 14) (v := ?v49) rfl (by kernel_rfl) (by kernel_rfl) (by kernel_rfl) (fun _ _ _ h => h) (Or.inl ⟨by rfl, ?hy49⟩) (by assumption) ?_
        case hy49 => (intro w hSw; (try dsimp only at hSw); go_simp; try (with_reducible rfl))
        try simp only [Act.put, List.setIfInBounds_toArray, List.set_cons_zero, List.set_cons_succ]
        refine htake (i := 15) (v := ?v50) rfl (by kernel_rfl) (by kernel_rfl) (by kernel_rfl) (fun _ _ _ h => h) (Or.inl ⟨by rfl, ?hy50⟩) (by assumption) ?_
        case hy50 => (intro w hSw; (try dsimp only at hSw); go_simp; try (with_reducible rfl))
        try simp only [Act.put, List.setIfInBounds_toArray, List.set_cons_zero, List.set_cons_succ]
        refine wpAnyH_done (by kernel_rfl) ?_ _
        refine NoPanic.normal ?_
        rotate_left
        go_simp
        (first | refine hold_alloc (fun Wa q1 q2 q3 => ?_) | refine hold_alloc_drew (fun Wa q1 q2 q3 => ?_)); replace HC := Lib.hid (HC.out.trans (q1.mono HC.out.size)); try (replace R9 := Lib.hid (R9.out.next q1)); try (replace R10 := Lib.hid (R10.out.next q1)); clear q1 q2 q3
        refine hK.out _ _ ?_ (fun hHeld => ?_)
        · (try dsimp only); first | exact HC.out | exact HC.out.drew
        clear hK K
        try simp only [Act.put, List.setIfInBounds_toArray, List.set_cons_zero, List.set_cons_succ]
        refine wpAnyH_ready (rs := [0]) (by kernel_rfl) (by simp) ?_
        refine hcons rfl (fun K hK => ?_) (AllReadyH.nil)
        go_simp
        (first | refine hold_alloc (fun Wa q1 q2 q3 => ?_) | refine hold_alloc_drew (fun Wa q1 q2 q3 => ?_)); replace HC := Lib.hid (HC.out.trans (q1.mono HC.out.size)); try (replace R9 := Lib.hid (R9.out.next q1)); try (replace R10 := Lib.hid (R10.out.next q1)); clear q1 q2 q3
        refine hK.out _ _ ?_ (fun hHeld => ?_)
        · (try dsimp only); first | exact HC.out | exact HC.out.drew
        clear hK K
        try simp only [Act.put, List.setIfInBounds_toArray, List.set_cons_zero, List.set_cons_succ]
        refine wpAnyH_ready (rs := [3]) (by kernel_rfl) (by simp) ?_
        refine hcons rfl (fun K hK => ?_) (AllReadyH.nil)
        refine step_append_fresh rfl (.tmp 45) (.tmp 47) 26 rfl 51 i0 _ 28 224 Tryz.underlying26 hi hz0 hz1 hz2 rfl (by decide) pc_len _ rfl d.A d.d.pieces d.c rfl ((HM.out.next HC.out).pc) (by have := HFAR.out; unfold maxLen; omega) (by have := HFAR.out; omega) ?_; intro A9 c9 W9 hat hb; have R9 := Lib.hid hat.at_; replace HC := Lib.hid (HC.out.trans (hb.mono HC.out.size)); clear hat hb
        refine hK.out _ _ ?_ (fun hHeld => ?_)
        · (try dsimp only); first | exact HC.out | exact HC.out.drew
        clear hK K
        try simp only [Act.put, List.setIfInBounds_toArray, List.set_cons_zero, List.set_cons_succ]
        refine wpAnyH_ready (rs := [6]) (by kernel_rfl) (by simp) ?_
        refine hcons rfl (fun K hK => ?_) (AllReadyH.nil)
        refine step_append_fresh rfl (.tmp 49) (.tmp 50) 26 rfl 51 i0 _ 28 224 Tryz.underlying26 hi hz0 hz1 hz2 rfl (by decide) pc_len _ rfl A1 l c1 rfl (HL.out.next HC.out) (by have := HFAR.out; unfold maxLen; omega) (by have := HFAR.out; omega) ?_; intro A10 c10 W10 hat hb; have R10 := Lib.hid hat.at_; replace R9 := Lib.hid (R9.out.next hb); replace HC := Lib.hid (HC.out.trans (hb.mono HC.out.size)); clear hat hb
        refine hK.out _ _ ?_ (fun hHeld => ?_)
        · (try dsimp only); first | exact HC.out | exact HC.out.drew
        clear hK K
        try simp only [Act.put, List.setIfInBounds_toArray, List.set_cons_zero, List.set_cons_succ]
        refine wpAnyH_ready (rs := [9]) (by kernel_rfl) (by simp) ?_
        refine hcons rfl (fun K hK => ?_) (AllReadyH.nil)
        refine step_append_fresh rfl (.tmp 52) (.tmp 53) 44 rfl 66 j0 _ 4 32 Tryz.underlying44 hj hy0 hy1 hy2 rfl (by decide) wo_len _ rfl A2 u c2 rfl (HU.out.next HC.out) (by have := HFAR.out; unfold maxLen; omega) (by have := HFAR.out; omega) ?_; intro A11 c11 W11 hat hb; have R11 := Lib.hid hat.at_; replace R9 := Lib.hid (R9.out.next hb); replace R10 := Lib.hid (R10.out.next hb); replace HC := Lib.hid (HC.out.trans (hb.mono HC.out.size)); clear hat hb
        refine hK.out _ _ ?_ (fun hHeld => ?_)
        · (try dsimp only); first | exact HC.out | exact HC.out.drew
        clear hK K
        try simp only [Act.put, List.setIfInBounds_toArray, List.set_cons_zero, List.set_cons_succ]
        refine htake (i := 12) (v := ?v51) rfl (by kernel_rfl) (by kernel_rfl) (by kernel_rfl) (fun _ _ _ h => h) (Or.inl ⟨by rfl, ?hy51⟩) (by assumption) ?_
        case hy51 => (intro w hSw; (try dsimp only at hSw); go_simp; try (with_reducible rfl))
        try simp only [Act.put, List.setIfInBounds_toArray, List.set_cons_zero, List.set_cons_succ]
        refine htake (i := 13) (v := ?v52) rfl (by kernel_rfl) (by kernel_rfl) (by kernel_rfl) (fun _ _ _ h => h) (Or.inl ⟨by rfl, ?hy52⟩) (by assumption) ?_
        case hy52 => (intro w hSw; (try dsimp only at hSw); go_simp; try (with_reducible rfl))
        try simp only [Act.put, List.setIfInBounds_toArray, List.set_cons_zero, List.set_cons_succ]
        refine htake (i := 14) (v := ?v53) rfl (by kernel_rfl) (by kernel_rfl) (by kernel_rfl) (fun _ _ _ h => h) (Or.inl ⟨by rfl, ?hy53⟩) (by assumption) ?_
        case hy53 => (intro w hSw; (try dsimp only at hSw); go_simp; try (with_reducible rfl))
        try simp only [Act.put, List.setIfInBounds_toArray, List.set_cons_zero, List.set_cons_succ]
        refine htake (i := 15) (v := ?v54) rfl (by kernel_rfl) (by kernel_rfl) (by kernel_rfl) (fun _ _ _ h => h) (Or.inl ⟨by rfl, ?hy54⟩) (by assumption) ?_
        case hy54 => (intro w hSw; (try dsimp only at hSw); go_simp; try (with_reducible rfl))
        try simp only [Act.put, List.setIfInBounds_toArray, List.set_cons_zero, List.set_cons_succ]
        refine wpAnyH_done (by kernel_rfl) ?_ _
        refine NoPanic.normal ?_
        rotate_left
        go_simp
        (first | refine hold_alloc (fun Wa q1 q2 q3 => ?_) | refine hold_alloc_drew (fun Wa q1 q2 q3 => ?_)); replace HC := Lib.hid (HC.out.trans (q1.mono HC.out.size)); try (replace R9 := Lib.hid (R9.out.next q1)); try (replace R10 := Lib.hid (R10.out.next q1)); clear q1 q2 q3
        refine hK.out _ _ ?_ (fun hHeld => ?_)
        · (try dsimp only); first | exact HC.out | exact HC.out.drew
        clear hK K
        try simp only [Act.put, List.setIfInBounds_toArray, List.set_cons_zero, List.set_cons_succ]
        refine wpAnyH_ready (rs := [0, 4]) (by kernel_rfl) (by simp) ?_
        refine hcons rfl (fun K hK => ?_) (hcons rfl (fun K hK => ?_) (AllReadyH.nil))
        go_simp
        (first | refine hold_alloc (fun Wa q1 q2 q3 => ?_) | refine hold_alloc_drew (fun Wa q1 q2 q3 => ?_)); replace HC := Lib.hid (HC.out.trans (q1.mono HC.out.size)); try (replace R9 := Lib.hid (R9.out.next q1)); try (replace R10 := Lib.hid (R10.out.next q1)); clear q1 q2 q3
        refine hK.out _ _ ?_ (fun hHeld => ?_)
        · (try dsimp only); first | exact HC.out | exact HC.out.drew
        clear hK K
        try simp only [Act.put, List.setIfInBounds_toArray, List.set_cons_zero, List.set_cons_succ]
        refine wpAnyH_ready (rs := [3, 4]) (by kernel_rfl) (by simp) ?_
        refine hcons rfl (fun K hK => ?_) (hcons rfl (fun K hK => ?_) (AllReadyH.nil))
        refine step_append_fresh rfl (.tmp 45) (.tmp 47) 26 rfl 51 i0 _ 28 224 Tryz.underlying26 hi hz0 hz1 hz2 rfl (by decide) pc_len _ rfl d.A d.d.pieces d.c rfl ((HM.out.next HC.out).pc) (by have := HFAR.out; unfold maxLen; omega) (by have := HFAR.out; omega) ?_; intro A9 c9 W9 hat hb; have R9 := Lib.hid hat.at_; replace HC := Lib.hid (HC.out.trans (hb.mono HC.out.size)); clear hat hb
        refine hK.out _ _ ?_ (fun hHeld => ?_)
        · (try dsimp only); first | exact HC.out | exact HC.out.drew
        clear hK K
        try simp only [Act.put, List.setIfInBounds_toArray, List.set_cons_zero, List.set_cons_succ]
        refine wpAnyH_ready (rs := [4]) (by kernel_rfl) (by simp) ?_
        refine hcons rfl (fun K hK => ?_) (AllReadyH.nil)
        go_simp
        (first | refine hold_alloc (fun Wa q1 q2 q3 => ?_) | refine hold_alloc_drew (fun Wa q1 q2 q3 => ?_)); replace HC := Lib.hid (HC.out.trans (q1.mono HC.out.size)); try (replace R9 := Lib.hid (R9.out.next q1)); try (replace R10 := Lib.hid (R10.out.next q1)); clear q1 q2 q3
        refine hK.out _ _ ?_ (fun hHeld => ?_)
        · (try dsimp only); first | exact HC.out | exact HC.out.drew
        clear hK K
        try simp only [Act.put, List.setIfInBounds_toArray, List.set_cons_zero, List.set_cons_succ]
        refine wpAnyH_ready (rs := [6]) (by kernel_rfl) (by simp) ?_
        refine hcons rfl (fun K hK => ?_) (AllReadyH.nil)
        refine step_append_fresh rfl (.tmp 49) (.tmp 50) 26 rfl 51 i0 _ 28 224 Tryz.underlying26 hi hz0 hz1 hz2 rfl (by decide) pc_len _ rfl A1 l c1 rfl (HL.out.next HC.out) (by have := HFAR.out; unfold maxLen; omega) (by have := HFAR.out; omega) ?_; intro A10 c10 W10 hat hb; have R10 := Lib.hid hat.at_; replace R9 := Lib.hid (R9.out.next hb); replace HC := Lib.hid (HC.out.trans (hb.mono HC.out.size)); clear hat hb
        refine hK.out _ _ ?_ (fun hHeld => ?_)
        · (try dsimp only); first | exact HC.out | exact HC.out.drew
        clear hK K
        try simp only [Act.put, List.setIfInBounds_toArray, List.set_cons_zero, List.set_cons_succ]
        refine wpAnyH_ready (rs := [9]) (by kernel_rfl) (by simp) ?_
        refine hcons rfl (fun K hK => ?_) (AllReadyH.nil)
        refine step_append_fresh rfl (.tmp 52) (.tmp 53) 44 rfl 66 j0 _ 4 32 Tryz.underlying44 hj hy0 hy1 hy2 rfl (by decide) wo_len _ rfl A2 u c2 rfl (HU.out.next HC.out) (by have := HFAR.out; unfold maxLen; omega) (by have := HFAR.out; omega) ?_; intro A11 c11 W11 hat hb; have R11 := Lib.hid hat.at_; replace R9 := Lib.hid (R9.out.next hb); replace R10 := Lib.hid (R10.out.next hb); replace HC := Lib.hid (HC.out.trans (hb.mono HC.out.size)); clear hat hb
        refine hK.out _ _ ?_ (fun hHeld => ?_)
        · (try dsimp only); first | exact HC.out | exact HC.out.drew
        clear hK K
        try simp only [Act.put, List.setIfInBounds_toArray, List.set_cons_zero, List.set_cons_succ]
        refine htake (i := 12) (v := ?v55) rfl (by kernel_rfl) (by kernel_rfl) (by kernel_rfl) (fun _ _ _ h => h) (Or.inl ⟨by rfl, ?hy55⟩) (by assumption) ?_
        case hy55 => (intro w hSw; (try dsimp only at hSw); go_simp; try (with_reducible rfl))
        try simp only [Act.put, List.setIfInBounds_toArray, List.set_cons_zero, List.set_cons_succ]
        refine htake (i := 13) (v := ?v56) rfl (by kernel_rfl) (by kernel_rfl) (by kernel_rfl) (fun _ _ _ h => h) (Or.inl ⟨by rfl, ?hy56⟩) (by assumption) ?_
        case hy56 => (intro w hSw; (try dsimp only at hSw); go_simp; try (with_reducible rfl))
        try simp only [Act.put, List.setIfInBounds_toArray, List.set_cons_zero, List.set_cons_succ]
        refine htake (i := 14) (v := ?v57) rfl (by kernel_rfl) (by kernel_rfl) (by kernel_rfl) (fun _ _ _ h => h) (Or.inl ⟨by rfl, ?hy57⟩) (by assumption) ?_
        case hy57 => (intro w hSw; (try dsimp only at hSw); go_simp; try (with_reducible rfl))
        try simp only [Act.put, List.setIfInBounds_toArray, List.set_cons_zero, List.set_cons_succ]
        refine htake (i := 15) (v := ?v58) rfl (by kernel_rfl) (by kernel_rfl) (by kernel_rfl) (fun _ _ _ h => h) (Or.inl ⟨by rfl, ?hy58⟩) (by assumption) ?_
        case hy58 => (intro w hSw; (try dsimp only at hSw); go_simp; try (with_reducible rfl))
        try simp only [Act.put, List.setIfInBounds_toArray, List.set_cons_zero, List.set_cons_succ]
        refine wpAnyH_done (by kernel_rfl) ?_ _
        refine NoPanic.normal ?_
        rotate_left
        go_simp
        (first | refine hold_alloc (fun Wa q1 q2 q3 => ?_) | refine hold_alloc_drew (fun Wa q1 q2 q3 => ?_)); replace HC := Lib.hid (HC.out.trans (q1.mono HC.out.size)); try (replace R9 := Lib.hid (R9.out.next q1)); try (replace R10 := Lib.hid (R10.out.next q1)); clear q1 q2 q3
        refine hK.out _ _ ?_ (fun hHeld => ?_)
        · (try dsimp only); first | exact HC.out | exact HC.out.drew
        clear hK K
        try simp only [Act.put, List.setIfInBounds_toArray, List.set_cons_zero, List.set_cons_succ]
        refine wpAnyH_ready (rs := [3]) (by kernel_rfl) (by simp) ?_
        refine hcons rfl (fun K hK => ?_) (AllReadyH.nil)
        refine step_append_fresh rfl (.tmp 45) (.tmp 47) 26 rfl 51 i0 _ 28 224 Tryz.underlying26 hi hz0 hz1 hz2 rfl (by decide) pc_len _ rfl d.A d.d.pieces d.c rfl ((HM.out.next HC.out).pc) (by have := HFAR.out; unfold maxLen; omega) (by have := HFAR.out; omega) ?_; intro A9 c9 W9 hat hb; have R9 := Lib.hid hat.at_; replace HC := Lib.hid (HC.out.trans (hb.mono HC.out.size)); clear hat hb
        refine hK.out _ _ ?_ (fun hHeld => ?_)
        · (try dsimp only); first | exact HC.out | exact HC.out.drew
        clear hK K
        try simp only [Act.put, List.setIfInBounds_toArray, List.set_cons_zero, List.set_cons_succ]
        refine wpAnyH_ready (rs := [6]) (by kernel_rfl) (by simp) ?_
        refine hcons rfl (fun K hK => ?_) (AllReadyH.nil)
        refine step_append_fresh rfl (.tmp 49) (.tmp 50) 26 rfl 51 i0 _ 28 224 Tryz.underlying26 hi hz0 hz1 hz2 rfl (by decide) pc_len _ rfl A1 l c1 rfl (HL.out.next HC.out) (by have := HFAR.out; unfold maxLen; omega) (by have := HFAR.out; omega) ?_; intro A10 c10 W10 hat hb; have R10 := Lib.hid hat.at_; replace R9 := Lib.hid (R9.out.next hb); replace HC := Lib.hid (HC.out.trans (hb.mono HC.out.size)); clear hat hb
        refine hK.out _ _ ?_ (fun hHeld => ?_)
        · (try dsimp only); first | exact HC.out | exact HC.out.drew
        clear hK K
        try simp only [Act.put, List.setIfInBounds_toArray, List.set_cons_zero, List.set_cons_succ]
        refine wpAnyH_ready (rs := [9]) (by kernel_rfl) (by simp) ?_
        refine hcons rfl (fun K hK => ?_) (AllReadyH.nil)
        refine step_append_fresh rfl (.tmp 52) (.tmp 53) 44 rfl 66 j0 _ 4 32 Tryz.underlying44 hj hy0 hy1 hy2 rfl (by decide) wo_len _ rfl A2 u c2 rfl (HU.out.next HC.out) (by have := HFAR.out; unfold maxLen; omega) (by have := HFAR.out; omega) ?_; intro A11 c11 W11 hat hb; have R11 := Lib.hid hat.at_; replace R9 := Lib.hid (R9.out.next hb); replace R10 := Lib.hid (R10.out.next hb); replace HC := Lib.hid (HC.out.trans (hb.mono HC.out.size)); clear hat hb
        refine hK.out _ _ ?_ (fun hHeld => ?_)
        · (try dsimp only); first | exact HC.out | exact HC.out.drew
        clear hK K
        try simp only [Act.put, List.setIfInBounds_toArray, List.set_cons_zero, List.set_cons_succ]
        refine htake (i := 12) (v := ?v59) rfl (by kernel_rfl) (by kernel_rfl) (by kernel_rfl) (fun _ _ _ h => h) (Or.inl ⟨by rfl, ?hy59⟩) (by assumption) ?_
        case hy59 => (intro w hSw; (try dsimp only at hSw); go_simp; try (with_reducible rfl))
        try simp only [Act.put, List.setIfInBounds_toArray, List.set_cons_zero, List.set_cons_succ]
        refine htake (i := 13) (v := ?v60) rfl (by kernel_rfl) (by kernel_rfl) (by kernel_rfl) (fun _ _ _ h => h) (Or.inl ⟨by rfl, ?hy60⟩) (by assumption) ?_
        case hy60 => (intro w hSw; (try dsimp only at hSw); go_simp; try (with_reducible rfl))
        try simp only [Act.put, List.setIfInBounds_toArray, List.set_cons_zero, List.set_cons_succ]
        refine htake (i := 14) (v := ?v61) rfl (by kernel_rfl) (by kernel_rfl) (by kernel_rfl) (fun _ _ _ h => h) (Or.inl ⟨by rfl, ?hy61⟩) (by assumption) ?_
        case hy61 => (intro w hSw; (try dsimp only at hSw); go_simp; try (with_reducible rfl))
        try simp only [Act.put, List.setIfInBounds_toArray, List.set_cons_zero, List.set_cons_succ]
        refine htake (i := 15) (v := ?v62) rfl (by kernel_rfl) (by kernel_rfl) (by kernel_rfl) (fun _ _ _ h => h) (Or.inl ⟨by rfl, ?hy62⟩) (by assumption) ?_
        case hy62 => (intro w hSw; (try dsimp only at hSw); go_simp; try (with_reducible rfl))
        try simp only [Act.put, List.setIfInBounds_toArray, List.set_cons_zero, List.set_cons_succ]
        refine wpAnyH_done (by kernel_rfl) ?_ _
        refine NoPanic.normal ?_
        rotate_left
        go_simp
        (first | refine hold_alloc (fun Wa q1 q2 q3 => ?_) | refine hold_alloc_drew (fun Wa q1 q2 q3 => ?_)); replace HC := Lib.hid (HC.out.trans (q1.mono HC.out.size)); try (replace R9 := Lib.hid (R9.out.next q1)); try (replace R10 := Lib.hid (R10.out.next q1)); clear q1 q2 q3
        refine hK.out _ _ ?_ (fun hHeld => ?_)
        · (try dsimp only); first | exact HC.out | exact HC.out.drew
        clear hK K
        try simp only [Act.put, List.setIfInBounds_toArray, List.set_cons_zero, List.set_cons_succ]
        refine wpAnyH_ready (rs := [0]) (by kernel_rfl) (by simp) ?_
        refine hcons rfl (fun K hK => ?_) (AllReadyH.nil)
        go_simp
        (first | refine hold_alloc (fun Wa q1 q2 q3 => ?_) | refine hold_alloc_drew (fun Wa q1 q2 q3 => ?_)); replace HC := Lib.hid (HC.out.trans (q1.mono HC.out.size)); try (replace R9 := Lib.hid (R9.out.next q1)); try (replace R10 := Lib.hid (R10.out.next q1)); clear q1 q2 q3
        refine hK.out _ _ ?_ (fun hHeld => ?_)
        · (try dsimp only); first | exact HC.out | exact HC.out.drew
        clear hK K
        try simp only [Act.put, List.setIfInBounds_toArray, List.set_cons_zero, List.set_cons_succ]
        refine wpAnyH_ready (rs := [3]) (by kernel_rfl) (by simp) ?_
        refine hcons rfl (fun K hK => ?_) (AllReadyH.nil)
        refine step_append_fresh rfl (.tmp 45) (.tmp 47) 26 rfl 51 i0 _ 28 224 Tryz.underlying26 hi hz0 hz1 hz2 rfl (by decide) pc_len _ rfl d.A d.d.pieces d.c rfl ((HM.out.next HC.out).pc) (by have := HFAR.out; unfold maxLen; omega) (by have := HFAR.out; omega) ?_; intro A9 c9 W9 hat hb; have R9 := Lib.hid hat.at_; replace HC := Lib.hid (HC.out.trans (hb.mono HC.out.size)); clear hat hb
        refine hK.out _ _ ?_ (fun hHeld => ?_)
        · (try dsimp only); first | exact HC.out | exact HC.out.drew
        clear hK K
        try simp only [Act.put, List.setIfInBounds_toArray, List.set_cons_zero, List.set_cons_succ]
        refine wpAnyH_ready (rs := [6]) (by kernel_rfl) (by simp) ?_
        refine hcons rfl (fun K hK => ?_) (AllReadyH.nil)
        refine step_append_fresh rfl (.tmp 49) (.tmp 50) 26 rfl 51 i0 _ 28 224 Tryz.underlying26 hi hz0 hz1 hz2 rfl (by decide) pc_len _ rfl A1 l c1 rfl (HL.out.next HC.out) (by have := HFAR.out; unfold maxLen; omega) (by have := HFAR.out; omega) ?_; intro A10 c10 W10 hat hb; have R10 := Lib.hid hat.at_; replace R9 := Lib.hid (R9.out.next hb); replace HC := Lib.hid (HC.out.trans (hb.mono HC.out.size)); clear hat hb
        refine hK.out _ _ ?_ (fun hHeld => ?_)
        · (try dsimp only); first | exact HC.out | exact HC.out.drew
        clear hK K
        try simp only [Act.put, List.setIfInBounds_toArray, List.set_cons_zero, List.set_cons_succ]
        refine wpAnyH_ready (rs := [9]) (by kernel_rfl) (by simp) ?_
        refine hcons rfl (fun K hK => ?_) (AllReadyH.nil)
        refine step_append_fresh rfl (.tmp 52) (.tmp 53) 44 rfl 66 j0 _ 4 32 Tryz.underlying44 hj hy0 hy1 hy2 rfl (by decide) wo_len _ rfl A2 u c2 rfl (HU.out.next HC.out) (by have := HFAR.out; unfold maxLen; omega) (by have := HFAR.out; omega) ?_; intro A11 c11 W11 hat hb; have R11 := Lib.hid hat.at_; replace R9 := Lib.hid (R9.out.next hb); replace R10 := Lib.hid (R10.out.next hb); replace HC := Lib.hid (HC.out.trans (hb.mono HC.out.size)); clear hat hb
        refine hK.out _ _ ?_ (fun hHeld => ?_)
        · (try dsimp only); first | exact HC.out | exact HC.out.drew
        clear hK K
        try simp only [Act.put, List.setIfInBounds_toArray, List.set_cons_zero, List.set_cons_succ]
        refine htake (i := 12) (v := ?v63) rfl (by kernel_rfl) (by kernel_rfl) (by kernel_rfl) (fun _ _ _ h => h) (Or.inl ⟨by rfl, ?hy63⟩) (by assumption) ?_
        case hy63 => (intro w hSw; (try dsimp only at hSw); go_simp; try (with_reducible rfl))
        try simp only [Act.put, List.setIfInBounds_toArray, List.set_cons_zero, List.set_cons_succ]
        refine htake (i := 13) (v := ?v64) rfl (by kernel_rfl) (by kernel_rfl) (by kernel_rfl) (fun _ _ _ h => h) (Or.inl ⟨by rfl, ?hy64⟩) (by assumption) ?_
        case hy64 => (intro w hSw; (try dsimp only at hSw); go_simp; try (with_reducible rfl))
        try simp only [Act.put, List.setIfInBounds_toArray, List.set_cons_zero, List.set_cons_succ]
        refine htake (i := 14) (v := ?v65) rfl (by kernel_rfl) (by kernel_rfl) (by kernel_rfl) (fun _ _ _ h => h) (Or.inl ⟨by rfl, ?hy65⟩) (by assumption) ?_
        case hy65 => (intro w hSw; (try dsimp only at hSw); go_simp; try (with_reducible rfl))
        try simp only [Act.put, List.setIfInBounds_toArray, List.set_cons_zero, List.set_cons_succ]
        refine htake (i := 15) (v := ?v66) rfl (by kernel_rfl) (by kernel_rfl) (by kernel_rfl) (fun _ _ _ h => h) (Or.inl ⟨by rfl, ?hy66⟩) (by assumption) ?_
        case hy66 => (intro w hSw; (try dsimp only at hSw); go_simp; try (with_reducible rfl))
        try simp only [Act.put, List.setIfInBounds_toArray, List.set_cons_zero, List.set_cons_succ]
        refine wpAnyH_done (by kernel_rfl) ?_ _
        refine NoPanic.normal ?_
        all_goals
          go_wp2_with fail
          go_meet
          exact ⟨⟨_, _, rfl, R9.out⟩, ⟨_, _, rfl, R10.out⟩, ⟨_, _, rfl, R11.out⟩, rfl, HC.out⟩
      case rest =>
        obtain ⟨⟨B9, k9, rfl, r9⟩, ⟨B10, k10, rfl, r10⟩, ⟨B11, k11, rfl, r11⟩, rfl, hb⟩ := hcut
        clear hc8 hcv HC
        replace HE := Lib.hid (HE.out.next hb)
        replace HB := Lib.hid (HB.out.trans (hb.mono HB.out.size))
        replace HM := Lib.hid (HM.out.next hb)
        replace HL := Lib.hid (HL.out.next hb)
        replace HU := Lib.hid (HU.out.next hb)
        replace HT := Lib.hid (HT.out.next hb)
        replace HX := Lib.hid (HX.out.next hb)
        clear hb
        have HC9 := Lib.hid r9
        clear r9
        have HC10 := Lib.hid r10
        clear r10
        have HC11 := Lib.hid r11
        clear r11
        obtain ⟨W3, hW3⟩ : ∃ W, W = wc := ⟨_, rfl⟩
        subst hW3
        go_wp2_with fail
        refine (HWS.out W3 HL.out).mono ?_
        rintro e W0 ⟨v1, rfl, ho, hb⟩
        have HOA := Lib.hid ho
        have HBW := Lib.hid hb
        clear ho hb
        go_wp2_with fail
        refine (HRS.out W0 (HE.out.next HBW.out) (HT.out.next HBW.out)).mono ?_
        rintro e W1 ⟨v2, rfl, ho, hb⟩
        replace HOA := Lib.hid (own_below HOA.out hb)
        have HSZ := Lib.hid HBW.out.size
        replace HBW := Lib.hid (HBW.out.trans (hb.mono HBW.out.size))
        clear hb
        have HTL := Lib.hid hT1
        have hL12 := rsV_len t
        obtain ⟨L, hL⟩ : ∃ L, rsV t = L := ⟨_, rfl⟩
        rw [hL] at ho hL12
        have HLV := Lib.hid hL
        clear hL
        obtain ⟨A15, c15, e, hat⟩ := own_at pc_len (by decide) ho
        subst e
        have HXA := Lib.hid hat
        have HOX := Lib.hid ho
        clear hat ho
        obtain ⟨Aa, ca, e, -⟩ := own_form HOA.out
        subst e
        have hcv : ∀ W' : World, Below W1.heap.size W1 W' → (convert 37 9 (.slice Aa t1.length ca)).run Tryz.prog W' = .ok (tx t1) W' := fun W' h => cv_row (own_below HOA.out h)
        have HC := Lib.hid (Below.refl W1.heap.size W1)
        go_upto_region 6 with fail
        go_cut [17, 18] (fun s17 s18 wx => s17 = tx t1 ∧ (∃ A c, s18 = .slice A L.length c ∧ AtHi W1.heap.size wx 28 Pc.cells A L) ∧ Below W1.heap.size W1 wx)
        case first =>
          refine wp_region_noPanic ?_
          refine wp_region_held_drew (S := (fun W' => Below W1.heap.size W1 W')) (by kernel_rfl) ?_ (fun hHeld => ?_)
          · (try dsimp only); first | exact HC.out | exact HC.out.drew
          refine htake (i := 0) (v := ?v67) rfl (by kernel_rfl) (by kernel_rfl) (by kernel_rfl) (fun _ _ _ h => h) (Or.inl ⟨by rfl, ?hy67⟩) (by assumption) ?_
          case hy67 => (intro w hSw; (try dsimp only at hSw); go_simp; try (with_reducible rfl))
          try simp only [Act.put, List.setIfInBounds_toArray, List.set_cons_zero, List.set_cons_succ]
          refine htake (i := 1) (v := ?v68) rfl (by kernel_rfl) (by kernel_rfl) (by kernel_rfl) (fun _ _ _ h => h) (Or.inl ⟨by rfl, ?hy68⟩) (by assumption) ?_
          case hy68 => (intro w hSw; (try dsimp only at hSw); go_simp; try (with_reducible rfl))
          try simp only [Act.put, List.setIfInBounds_toArray, List.set_cons_zero, List.set_cons_succ]
          refine htake (i := 3) (v := ?v69) rfl (by kernel_rfl) (by kernel_rfl) (by kernel_rfl) (fun _ _ _ h => h) (Or.inl ⟨by rfl, ?hy69⟩) (by assumption) ?_
          case hy69 => (intro w hSw; (try dsimp only at hSw); go_simp; try (with_reducible rfl))
          try simp only [Act.put, List.setIfInBounds_toArray, List.set_cons_zero, List.set_cons_succ]
          refine wpAnyH_ready (rs := [2]) (by kernel_rfl) (by simp) ?_
          refine hcons rfl (fun K hK => ?_) (AllReadyH.nil)
          go_simp
          (first | refine hold_alloc (fun Wa q1 q2 q3 => ?_) | refine hold_alloc_drew (fun Wa q1 q2 q3 => ?_)); replace HC := Lib.hid (HC.out.trans (q1.mono HC.out.size)); clear q1 q2 q3
          refine hK.out _ _ ?_ (fun hHeld => ?_)
          · (try dsimp only); first | exact HC.out | exact HC.out.drew
          clear hK K
          try simp only [Act.put, List.setIfInBounds_toArray, List.set_cons_zero, List.set_cons_succ]
          refine wpAnyH_ready (rs := [4]) (by kernel_rfl) (by simp) ?_
          refine hcons rfl (fun K hK => ?_) (AllReadyH.nil)
          refine step_append_fresh rfl (.tmp 69) (.tmp 70) 26 rfl 51 i0 _ 28 224 Tryz.underlying26 hi hz0 hz1 hz2 rfl (by decide) pc_len _ rfl A15 L c15 rfl (HXA.out.next HC.out) (by unfold maxLen; omega) (by omega) ?_; intro A18 c18 W5 hat hb; have R18 := Lib.hid (hat_lo hat HC.out.size); replace HC := Lib.hid (HC.out.trans (hb.mono HC.out.size)); clear hat hb
          refine hK.out _ _ ?_ (fun hHeld => ?_)
          · (try dsimp only); first | exact HC.out | exact HC.out.drew
          clear hK K
          try simp only [Act.put, List.setIfInBounds_toArray, List.set_cons_zero, List.set_cons_succ]
          refine htake (i := 5) (v := ?v70) rfl (by kernel_rfl) (by kernel_rfl) (by kernel_rfl) (fun _ _ _ h => h) (Or.inl ⟨by rfl, ?hy70⟩) (by assumption) ?_
          case hy70 => (intro w hSw; (try dsimp only at hSw); go_simp; try (with_reducible rfl))
          try simp only [Act.put, List.setIfInBounds_toArray, List.set_cons_zero, List.set_cons_succ]
          refine htake (i := 6) (v := ?v71) rfl (by kernel_rfl) (by kernel_rfl) (by kernel_rfl) (fun _ _ _ h => h) (Or.inl ⟨by rfl, ?hy71⟩) (by assumption) ?_
          case hy71 => (intro w hSw; (try dsimp only at hSw); go_simp; try (with_reducible rfl))
          try simp only [Act.put, List.setIfInBounds_toArray, List.set_cons_zero, List.set_cons_succ]
          refine wpAnyH_done (by kernel_rfl) ?_ _
          refine NoPanic.normal ?_
          all_goals
            go_wp2_with fail
            go_meet
            exact ⟨rfl, ⟨_, _, rfl, R18.out⟩, HC.out⟩
        case rest =>
          obtain ⟨rfl, ⟨A18, c18, rfl, h18⟩, hb⟩ := hcut
          obtain ⟨W6, hW6⟩ : ∃ W, W = wc := ⟨_, rfl⟩
          subst hW6
          clear hcv HC HXA
          have HCA := Lib.hid (fun (j : Nat) (hj : j < t1.length) => own_wr HOA.out hb j (by rw [Lib.byteCells_length]; exact hj))
          have HCX := Lib.hid (fun (j : Nat) (hj : j < L.length) => own_wr HOX.out hb (j * 28) (by rw [flat_len pc_len]; omega))
          have HB6 := Lib.hid (HBW.out.trans (hb.mono HBW.out.size))
          have HI := Lib.hid (OwI.start HB6.out h18)
          clear h18 HBW HB6 hb HOA HOX
          go_wp2_with fail
          go_loopw [74] (fun i wr => ROw W3 W6 W1.heap.size A18 L t1.length i wr) (fun i _ => t1.length - (intOf i).toNat)
          case atStart => exact ⟨0, by omega, rfl, HI.out⟩
          case round =>
            obtain ⟨k, hk, rfl, hI⟩ := hrel
            have HK := Lib.hid hI
            clear hI
            have hwk : IntKind.i64.wrap ((k : Int) + 1) = (k : Int) + 1 := IntWalk.i64_in _ (by have := HTL.out; omega)
            by_cases hlt : k < t1.length
            · obtain ⟨q, hA, q1, q2, q3, q4⟩ := HCA.out k hlt
              obtain ⟨z, hz⟩ := Option.isSome_iff_exists.1 (HK.out.cl _ q3)
              have hf := (HK.out.fr ⟨q, k, none⟩).trans q4
              have HS := Lib.hid (HK.out.set (o := k) q1 q2 (.int .u8 99))
              clear HCA q3 q4
              subst hA
              go_wp2_with fail
              (first | (refine ⟨?_, ?_⟩; (unfold ROw; exact ⟨k + 1, by omega, by go_num, HS.out⟩); (simp [intOf]; omega)) | (go_roundw; (case rel => (unfold ROw; exact ⟨k + 1, by omega, by go_num, HS.out⟩)); (case measure => (simp [intOf]; omega))) | (go_round; (case rel => (unfold ROw; exact ⟨k + 1, by omega, by go_num, HS.out⟩)); (case measure => (simp [intOf]; omega))))
            · obtain rfl : k = t1.length := by omega
              clear HI HCA hwk
              go_wp2_with fail
              go_loopw [83] (fun i wx => ROw W3 W6 W1.heap.size A18 L L.length i wx) (fun i _ => L.length - (intOf i).toNat)
              case atStart => exact ⟨0, by omega, rfl, HK.out⟩
              case round =>
                obtain ⟨k, hk, rfl, hI⟩ := hrel
                have HJ := Lib.hid hI
                clear hI HK
                have hwk : IntKind.i64.wrap ((k : Int) + 1) = (k : Int) + 1 := IntWalk.i64_in _ (by omega)
                by_cases hlt2 : k < L.length
                · obtain ⟨q, hA, q1, q2, q3, q4⟩ := HCX.out k hlt2
                  have q1' := Nat.le_trans HSZ.out q1
                  obtain ⟨z, hz⟩ := Option.isSome_iff_exists.1 (HJ.out.cl _ q3)
                  have hf := (HJ.out.fr ⟨q, k * 28, none⟩).trans q4
                  have HS := Lib.hid (HJ.out.set (o := k * 28) q1' q2 (.int .i64 (-9)))
                  clear HCX q1 q3 q4
                  subst hA
                  go_wp2_with fail
                  (first | (refine ⟨?_, ?_⟩; (unfold ROw; exact ⟨k + 1, by omega, by go_num, HS.out⟩); (simp [intOf]; omega)) | (go_roundw; (case rel => (unfold ROw; exact ⟨k + 1, by omega, by go_num, HS.out⟩)); (case measure => (simp [intOf]; omega))) | (go_round; (case rel => (unfold ROw; exact ⟨k + 1, by omega, by go_num, HS.out⟩)); (case measure => (simp [intOf]; omega))))
                · obtain rfl : k = L.length := by omega
                  clear HCX hwk
                  have hb := HJ.out.bw
                  have H18 := Lib.hid HJ.out.at_.at_
                  clear HJ HSZ
                  replace HE := Lib.hid (HE.out.next hb)
                  replace HB := Lib.hid (HB.out.trans (hb.mono HB.out.size))
                  replace HM := Lib.hid (HM.out.next hb)
                  replace HL := Lib.hid (HL.out.next hb)
                  replace HU := Lib.hid (HU.out.next hb)
                  replace HT := Lib.hid (HT.out.next hb)
                  replace HX := Lib.hid (HX.out.next hb)
                  replace HC9 := Lib.hid (HC9.out.next hb)
                  replace HC10 := Lib.hid (HC10.out.next hb)
                  replace HC11 := Lib.hid (HC11.out.next hb)
                  clear hb
                  have p0 := HX.out.c 0 _ rfl
                  have p1 := HX.out.c 1 _ rfl
                  have p2 := HX.out.c 2 _ rfl
                  have p3 := HX.out.c 3 _ rfl
                  have p4 := HX.out.c 4 _ rfl
                  have p5 := HX.out.c 5 _ rfl
                  have p6 := HX.out.c 6 _ rfl
                  have p7 := HX.out.c 7 _ rfl
                  have p8 := HX.out.c 8 _ rfl
                  go_wp2_with fail
                  refine (HWD.out wr HE.out HM.out).mono ?_
                  rintro e W20 ⟨rfl, hb⟩
                  replace HE := Lib.hid (HE.out.next hb)
                  replace HB := Lib.hid (HB.out.trans (hb.mono HB.out.size))
                  replace HM := Lib.hid (HM.out.next hb)
                  replace HL := Lib.hid (HL.out.next hb)
                  replace HU := Lib.hid (HU.out.next hb)
                  replace HT := Lib.hid (HT.out.next hb)
                  replace HX := Lib.hid (HX.out.next hb)
                  replace HC9 := Lib.hid (HC9.out.next hb)
                  replace HC10 := Lib.hid (HC10.out.next hb)
                  replace HC11 := Lib.hid (HC11.out.next hb)
                  replace H18 := Lib.hid (H18.out.next hb)
                  clear hb
                  clear p0 p1 p2 p3 p4 p5 p6 p7 p8
                  go_wp2_with fail
                  refine (HWL.out W20 HE.out HU.out).mono ?_
                  rintro e W21 ⟨rfl, hb⟩
                  replace HE := Lib.hid (HE.out.next hb)
                  replace HB := Lib.hid (HB.out.trans (hb.mono HB.out.size))
                  replace HM := Lib.hid (HM.out.next hb)
                  replace HL := Lib.hid (HL.out.next hb)
                  replace HU := Lib.hid (HU.out.next hb)
                  replace HT := Lib.hid (HT.out.next hb)
                  replace HX := Lib.hid (HX.out.next hb)
                  replace HC9 := Lib.hid (HC9.out.next hb)
                  replace HC10 := Lib.hid (HC10.out.next hb)
                  replace HC11 := Lib.hid (HC11.out.next hb)
                  replace H18 := Lib.hid (H18.out.next hb)
                  clear hb
                  go_wp2_with fail
                  refine (HWS.out W21 HL.out).mono ?_
                  rintro e W22 ⟨v21, rfl, ho, hb⟩
                  replace HE := Lib.hid (HE.out.next hb)
                  replace HB := Lib.hid (HB.out.trans (hb.mono HB.out.size))
                  replace HM := Lib.hid (HM.out.next hb)
                  replace HL := Lib.hid (HL.out.next hb)
                  replace HU := Lib.hid (HU.out.next hb)
                  replace HT := Lib.hid (HT.out.next hb)
                  replace HX := Lib.hid (HX.out.next hb)
                  replace HC9 := Lib.hid (HC9.out.next hb)
                  replace HC10 := Lib.hid (HC10.out.next hb)
                  replace HC11 := Lib.hid (HC11.out.next hb)
                  replace H18 := Lib.hid (H18.out.next hb)
                  have HO21 := Lib.hid ho
                  clear ho
                  clear hb
                  go_wp2_with fail
                  refine (HRS.out W22 HE.out HT.out).mono ?_
                  rintro e W23 ⟨v23, rfl, ho, hb⟩
                  replace HE := Lib.hid (HE.out.next hb)
                  replace HB := Lib.hid (HB.out.trans (hb.mono HB.out.size))
                  replace HM := Lib.hid (HM.out.next hb)
                  replace HL := Lib.hid (HL.out.next hb)
                  replace HU := Lib.hid (HU.out.next hb)
                  replace HT := Lib.hid (HT.out.next hb)
                  replace HX := Lib.hid (HX.out.next hb)
                  replace HC9 := Lib.hid (HC9.out.next hb)
                  replace HC10 := Lib.hid (HC10.out.next hb)
                  replace HC11 := Lib.hid (HC11.out.next hb)
                  replace H18 := Lib.hid (H18.out.next hb)
                  replace HO21 := Lib.hid (own_below HO21.out hb)
                  rw [HLV.out] at ho
                  obtain ⟨A23, c23, e, ha⟩ := own_at pc_len (by decide) ho
                  subst e
                  have H23 := Lib.hid ha
                  clear ha ho
                  clear hb
                  have hc1 := cv_row HO21.out
                  have hs1 : (t1 == t1) = true := beq_self_eq_true _
                  have hs2 : (t == t) = true := beq_self_eq_true _
                  go_wp2_with fail
                  refine (SamePieces_any A23 A18 c23 c18 L L W23 H23.out H18.out (by omega)).mono ?_
                  rintro e W24 ⟨rfl, hb⟩
                  replace HE := Lib.hid (HE.out.next hb)
                  replace HB := Lib.hid (HB.out.trans (hb.mono HB.out.size))
                  replace HM := Lib.hid (HM.out.next hb)
                  replace HL := Lib.hid (HL.out.next hb)
                  replace HU := Lib.hid (HU.out.next hb)
                  replace HT := Lib.hid (HT.out.next hb)
                  replace HX := Lib.hid (HX.out.next hb)
                  replace HC9 := Lib.hid (HC9.out.next hb)
                  replace HC10 := Lib.hid (HC10.out.next hb)
                  replace HC11 := Lib.hid (HC11.out.next hb)
                  replace H18 := Lib.hid (H18.out.next hb)
                  replace HO21 := Lib.hid (own_below HO21.out hb)
                  replace H23 := Lib.hid (H23.out.next hb)
                  rw [show decide (L = L) = true from decide_eq_true rfl]
                  clear hb
                  have p0 := HX.out.c 0 _ rfl
                  have p1 := HX.out.c 1 _ rfl
                  have p2 := HX.out.c 2 _ rfl
                  have p3 := HX.out.c 3 _ rfl
                  have p4 := HX.out.c 4 _ rfl
                  have p5 := HX.out.c 5 _ rfl
                  have p6 := HX.out.c 6 _ rfl
                  have p7 := HX.out.c 7 _ rfl
                  have p8 := HX.out.c 8 _ rfl
                  go_wp2_with fail
                  refine (SamePieces_any d.A B9 d.c k9 d.d.pieces d.d.pieces W24 HM.out.pc HC9.out HM.out.l1).mono ?_
                  rintro e W25 ⟨rfl, hb⟩
                  replace HE := Lib.hid (HE.out.next hb)
                  replace HB := Lib.hid (HB.out.trans (hb.mono HB.out.size))
                  replace HM := Lib.hid (HM.out.next hb)
                  replace HL := Lib.hid (HL.out.next hb)
                  replace HU := Lib.hid (HU.out.next hb)
                  replace HT := Lib.hid (HT.out.next hb)
                  replace HX := Lib.hid (HX.out.next hb)
                  replace HC9 := Lib.hid (HC9.out.next hb)
                  replace HC10 := Lib.hid (HC10.out.next hb)
                  replace HC11 := Lib.hid (HC11.out.next hb)
                  replace H18 := Lib.hid (H18.out.next hb)
                  replace HO21 := Lib.hid (own_below HO21.out hb)
                  replace H23 := Lib.hid (H23.out.next hb)
                  rw [show decide (d.d.pieces = d.d.pieces) = true from decide_eq_true rfl]
                  clear hb
                  clear p0 p1 p2 p3 p4 p5 p6 p7 p8
                  go_wp2_with fail
                  refine (SamePieces_any A1 B10 c1 k10 l l W25 HL.out HC10.out HN1.out).mono ?_
                  rintro e W26 ⟨rfl, hb⟩
                  replace HE := Lib.hid (HE.out.next hb)
                  replace HB := Lib.hid (HB.out.trans (hb.mono HB.out.size))
                  replace HM := Lib.hid (HM.out.next hb)
                  replace HL := Lib.hid (HL.out.next hb)
                  replace HU := Lib.hid (HU.out.next hb)
                  replace HT := Lib.hid (HT.out.next hb)
                  replace HX := Lib.hid (HX.out.next hb)
                  replace HC9 := Lib.hid (HC9.out.next hb)
                  replace HC10 := Lib.hid (HC10.out.next hb)
                  replace HC11 := Lib.hid (HC11.out.next hb)
                  replace H18 := Lib.hid (H18.out.next hb)
                  replace HO21 := Lib.hid (own_below HO21.out hb)
                  replace H23 := Lib.hid (H23.out.next hb)
                  rw [show decide (l = l) = true from decide_eq_true rfl]
                  clear hb
                  go_wp2_with fail
                  refine (SameWords_any A2 B11 c2 k11 u u W26 HU.out HC11.out HN2.out).mono ?_
                  rintro e W27 ⟨rfl, hb⟩
                  replace HE := Lib.hid (HE.out.next hb)
                  replace HB := Lib.hid (HB.out.trans (hb.mono HB.out.size))
                  replace HM := Lib.hid (HM.out.next hb)
                  replace HL := Lib.hid (HL.out.next hb)
                  replace HU := Lib.hid (HU.out.next hb)
                  replace HT := Lib.hid (HT.out.next hb)
                  replace HX := Lib.hid (HX.out.next hb)
                  replace HC9 := Lib.hid (HC9.out.next hb)
                  replace HC10 := Lib.hid (HC10.out.next hb)
                  replace HC11 := Lib.hid (HC11.out.next hb)
                  replace H18 := Lib.hid (H18.out.next hb)
                  replace HO21 := Lib.hid (own_below HO21.out hb)
                  replace H23 := Lib.hid (H23.out.next hb)
                  rw [show decide (u = u) = true from decide_eq_true rfl]
                  have hc2 := cv_bs (c := c3) HT.out
                  clear hb
                  go_wp2_with fail
                  refine (alive_any W27 HE.out).mono ?_
                  rintro e W99 ⟨rfl, hb⟩
                  go_wp2_with fail
                  go_ret
                  exact ret_bool rfl (HB.out.trans (hb.mono HB.out.size))
end Go.Proofs.YtonnemkecppmiaaGreatDoor
