import Derived.Test.YtonnemkecppmiaaGreatDoorR5
import Derived.Test.YtonnemkecppmiaaGreatDoorQ3
import Derived.Test.YtonnemkecppmiaaGreatDoorL1
namespace Go.Proofs.YtonnemkecppmiaaGreatDoor
open Go.RowKit
/-! The reference: span, side. -/
theorem occ_dots (l : Tx) (k : Nat) : Lib.occAt l dots k = true ↔ ∃ h : k + 1 < l.length, l[k] = 46 ∧ l[k + 1] = 46 := by
  unfold Lib.occAt
  by_cases h : k + 1 < l.length
  · rw [List.drop_eq_getElem_cons (show k < l.length by omega), List.drop_eq_getElem_cons h]
    show ((46 : UInt8) == l[k] && ((46 : UInt8) == l[k + 1] && true)) = true ↔ _
    rw [Bool.and_true, Bool.and_eq_true, beq_iff_eq, beq_iff_eq]
    exact ⟨fun ⟨a, b⟩ => ⟨h, a.symm, b.symm⟩, fun ⟨_, a, b⟩ => ⟨a.symm, b.symm⟩⟩
  · constructor
    · intro e
      exfalso
      have hl : (l.drop k).length ≤ 1 := by rw [List.length_drop]; omega
      generalize l.drop k = m at e hl
      match m, hl, e with
      | [], _, e => cases e
      | [x], _, e =>
        have : ((46 : UInt8) == x && false) = true := e
        simp at this
    · rintro ⟨h', -⟩
      exact absurd h' h
theorem cut_at {l : Tx} {k : Nat} (h : Lib.occAt l dots k = true) (hb : ∀ j, j < k → Lib.occAt l dots j = false) : Lib.cut l dots = (l.take k, l.drop (k + 2), true) := by
  obtain ⟨hk, -, -⟩ := (occ_dots l k).1 h
  have e : Lib.index l dots = (k : Int) := Lib.index_first (by omega) h hb
  unfold Lib.cut
  rw [e, if_pos (by omega), Int.toNat_natCast]
  rfl
theorem cut_no {l : Tx} (h : ∀ j, j + 1 < l.length → Lib.occAt l dots j = false) : (Lib.cut l dots).2.2 = false := by
  have e : Lib.index l dots = -1 := by
    rcases Lib.index_spec l dots with ⟨h1, -⟩ | ⟨i, -, hi, ho, -⟩
    · exact h1
    · obtain ⟨h1, -⟩ := (occ_dots l i).1 ho
      rw [h i h1] at ho
      cases ho
  unfold Lib.cut
  rw [e, if_neg (by omega)]
def RSpn (l : Tx) (w0 : World) (i : Value) (w : World) : Prop := ∃ k : Nat, i = .int .i64 k ∧ k ≤ l.length ∧ (∀ j, j < k → Lib.occAt l dots j = false) ∧ w = w0
theorem ext_to (l : Tx) (k : Nat) : (⟨l.toArray⟩ : ByteArray).extract 0 k = ⟨(l.take k).toArray⟩ := by rw [ext_mid]; simp
theorem ext_fr (l : Tx) (k : Nat) : (⟨l.toArray⟩ : ByteArray).extract k l.length = ⟨(l.drop k).toArray⟩ := by
  rw [ext_mid, List.take_of_length_le (by rw [List.length_drop]; exact Nat.le_refl _)]
set_option maxRecDepth 100000 in
set_option maxHeartbeats 2000000 in
theorem spanR_any (l : Tx) (hl : l.length ≤ 70000) (w : World) : Calls Tryz.prog 47 #[tx l] w (Ret (spv (spanR l)) w) := by
  have HB0 := Lib.hid (nxA w (.cells #[.int .i64 0, .int .i64 0] 23))
  have HX0 := Lib.hid (Bx.new w #[.int .i64 0, .int .i64 0] 23)
  have HSR := Lib.hid (show spanR l = if (Lib.cut l dots).2.2 then ⟨numR (Lib.cut l dots).1, numR (Lib.cut l dots).2.1⟩ else ⟨numR l, numR l⟩ from rfl)
  go_enter Tryz.func47, Tryz.ntmps47
  go_upto_region 1 with fail
  generalize (w.alloc (.cells #[.int .i64 0, .int .i64 0] 23)) = V at *
  obtain ⟨b, hb⟩ : ∃ b, b = w.heap.size := ⟨_, rfl⟩
  rw [← hb] at HX0 ⊢
  have HBW := Lib.hid (show w.heap.size ≤ b by rw [hb]; omega)
  clear hb
  have g0 := HX0.out.c 0 _ rfl
  have g1 := HX0.out.c 1 _ rfl
  have f0 := HX0.out.fr 0
  have f1 := HX0.out.fr 1
  have HE := Lib.hid (show ∀ x y : Value, Bx ((V.setCell ⟨b, 0, none⟩ x).setCell ⟨b, 1, none⟩ y) b [x, y] ∧ Below w.heap.size w ((V.setCell ⟨b, 0, none⟩ x).setCell ⟨b, 1, none⟩ y) from fun x y => ⟨(HX0.out.set (k := 0) (by simp) x).set (k := 1) (by simp) y, (HB0.out.setCell (p := ⟨b, 0, none⟩) HBW.out _).setCell (p := ⟨b, 1, none⟩) HBW.out _⟩)
  go_wp2_with fail
  go_loopw [3] (fun i wr => RSpn l V i wr) (fun i _ => l.length - (intOf i).toNat)
  case atStart => exact ⟨0, rfl, by omega, fun j hj => by omega, rfl⟩
  case round =>
    obtain ⟨k, rfl, hkl, hno, hw⟩ := hrel
    have hw2 := hw.symm
    clear hw
    subst hw2
    have HNO := Lib.hid hno
    clear hno
    have hwk : IntKind.i64.wrap ((k : Int) + 1) = (k : Int) + 1 := IntWalk.i64_in _ (by omega)
    by_cases hlt : k + 1 < l.length
    · have hk1 : k < l.length := by omega
      have HOC := Lib.hid (occ_dots l k)
      by_cases h1 : l[k] = 46
      · have e1 := ba_eq_t hk1 h1
        change (_ == (46 : Int)) = true at e1
        by_cases h2 : l[k + 1] = 46
        · have e2 := ba_eq_t hlt h2
          change (_ == (46 : Int)) = true at e2
          have HCU := Lib.hid (cut_at (HOC.out.2 ⟨hlt, h1, h2⟩) HNO.out)
          have HS2 := Lib.hid (show spanR l = ⟨numR (l.take k), numR (l.drop (k + 2))⟩ by rw [HSR.out, HCU.out, if_pos rfl])
          clear h1 h2 HOC HCU HSR HNO
          have HA := Lib.hid (numberR_any (l.take k) (by rw [List.length_take]; omega))
          have HB := Lib.hid (numberR_any (l.drop (k + 2)) (by rw [List.length_drop]; omega))
          have HXT := Lib.hid (ext_to l k)
          have HXF := Lib.hid (ext_fr l (k + 2))
          have hw2 : IntKind.i64.wrap ((k : Int) + 2) = (k : Int) + 2 := IntWalk.i64_in _ (by omega)
          have hcn : (0 ≤ (k : Int) + 2 ∧ (k : Int) + 2 ≤ (l.length : Int)) = True := by simp; omega
          have htn : ((k : Int) + 2).toNat = k + 2 := by omega
          go_upto_region 5 with fail
          refine wp_region_noPanic ?_
          refine wp_region_held_drew (S := (fun _ => True)) (by kernel_rfl) ?_ (fun hHeld => ?_)
          · (try dsimp only); try trivial
          refine htake (i := 0) (v := ?v1) rfl (by kernel_rfl) (by kernel_rfl) (by kernel_rfl) (fun _ _ _ h => h) (Or.inl ⟨by rfl, ?hy1⟩) (by assumption) ?_
          case hy1 => (intro w hSw; (try dsimp only at hSw); go_simp; try (with_reducible rfl))
          try simp only [Act.put, List.setIfInBounds_toArray, List.set_cons_zero, List.set_cons_succ]
          refine htake (i := 1) (v := ?v2) rfl (by kernel_rfl) (by kernel_rfl) (by kernel_rfl) (fun _ _ _ h => h) (Or.inl ⟨by rfl, ?hy2⟩) (by assumption) ?_
          case hy2 => (intro w hSw; (try dsimp only at hSw); go_simp; try (with_reducible rfl))
          try simp only [Act.put, List.setIfInBounds_toArray, List.set_cons_zero, List.set_cons_succ]
          refine htake (i := 2) (v := ?v3) rfl (by kernel_rfl) (by kernel_rfl) (by kernel_rfl) (fun _ _ _ h => h) (Or.inl ⟨by rfl, ?hy3⟩) (by assumption) ?_
          case hy3 => (intro w hSw; (try dsimp only at hSw); go_simp; try (with_reducible rfl))
          try simp only [Act.put, List.setIfInBounds_toArray, List.set_cons_zero, List.set_cons_succ]
          refine htake (i := 4) (v := ?v4) rfl (by kernel_rfl) (by kernel_rfl) (by kernel_rfl) (fun _ _ _ h => h) (Or.inl ⟨by rfl, ?hy4⟩) (by assumption) ?_
          case hy4 => (intro w hSw; (try dsimp only at hSw); go_simp; try (with_reducible rfl))
          try simp only [Act.put, List.setIfInBounds_toArray, List.set_cons_zero, List.set_cons_succ]
          refine htake (i := 5) (v := ?v5) rfl (by kernel_rfl) (by kernel_rfl) (by kernel_rfl) (fun _ _ _ h => h) (Or.inl ⟨by rfl, ?hy5⟩) (by assumption) ?_
          case hy5 => (intro w hSw; (try dsimp only at hSw); go_simp; try (with_reducible rfl))
          try simp only [Act.put, List.setIfInBounds_toArray, List.set_cons_zero, List.set_cons_succ]
          refine htake (i := 6) (v := ?v6) rfl (by kernel_rfl) (by kernel_rfl) (by kernel_rfl) (fun _ _ _ h => h) (Or.inl ⟨by rfl, ?hy6⟩) (by assumption) ?_
          case hy6 => (intro w hSw; (try dsimp only at hSw); go_simp; try (with_reducible rfl))
          try simp only [Act.put, List.setIfInBounds_toArray, List.set_cons_zero, List.set_cons_succ]
          refine htake (i := 7) (v := ?v7) rfl (by kernel_rfl) (by kernel_rfl) (by kernel_rfl) (fun _ _ _ h => h) (Or.inl ⟨by rfl, ?hy7⟩) (by assumption) ?_
          case hy7 => (intro w hSw; (try dsimp only at hSw); go_simp; try (with_reducible rfl))
          try simp only [Act.put, List.setIfInBounds_toArray, List.set_cons_zero, List.set_cons_succ]
          refine wpAnyH_ready (rs := [3]) (by kernel_rfl) (by simp) ?_
          refine hcons rfl (fun K hK => ?_) (AllReadyH.nil)
          go_simp
          rw [HXT.out]; refine (HA.out _).mono ?_; rintro e0 V5 ⟨rfl, rfl⟩
          refine hK.out _ _ ?_ (fun hHeld => ?_)
          · (try dsimp only); try trivial
          clear hK K
          try simp only [Act.put, List.setIfInBounds_toArray, List.set_cons_zero, List.set_cons_succ]
          refine wpAnyH_ready (rs := [8]) (by kernel_rfl) (by simp) ?_
          refine hcons rfl (fun K hK => ?_) (AllReadyH.nil)
          go_simp
          rw [HXF.out]; refine (HB.out _).mono ?_; rintro e0 V8 ⟨rfl, rfl⟩
          refine hK.out _ _ ?_ (fun hHeld => ?_)
          · (try dsimp only); try trivial
          clear hK K
          try simp only [Act.put, List.setIfInBounds_toArray, List.set_cons_zero, List.set_cons_succ]
          refine htake (i := 9) (v := ?v8) rfl (by kernel_rfl) (by kernel_rfl) (by kernel_rfl) (fun _ _ _ h => h) (Or.inl ⟨by rfl, ?hy8⟩) (by assumption) ?_
          case hy8 => (intro w hSw; (try dsimp only at hSw); go_simp; try (with_reducible rfl))
          try simp only [Act.put, List.setIfInBounds_toArray, List.set_cons_zero, List.set_cons_succ]
          refine wpAnyH_ready (rs := [10]) (by kernel_rfl) (by simp) ?_
          refine hcons rfl (fun K hK => ?_) (AllReadyH.nil)
          go_simp
          refine hK.out _ _ ?_ (fun hHeld => ?_)
          · (try dsimp only); try trivial
          clear hK K
          try simp only [Act.put, List.setIfInBounds_toArray, List.set_cons_zero, List.set_cons_succ]
          refine wpAnyH_done (by kernel_rfl) ?_ _
          refine NoPanic.normal ?_
          iterate 12 (try clear hHeld)
          all_goals
            go_wp2_with fail
            ((try simp only [Exit.inBlock, Exit.then]); refine bodyPost_ret (results_cell1 rfl rfl (loadSp (HE.out _ _).1.drew)) rfl ?_)
            rw [HS2.out]
            exact ⟨rfl, (HE.out _ _).2.drew⟩
        · have e2 := ba_eq_f hlt h2
          change (_ == (46 : Int)) = false at e2
          have HN2 := Lib.hid (show ∀ j, j < k + 1 → Lib.occAt l dots j = false from fun j hj => by
            by_cases e : j < k
            · exact HNO.out j e
            · obtain rfl : j = k := by omega
              cases ho : Lib.occAt l dots j
              · rfl
              · obtain ⟨_, _, h⟩ := HOC.out.1 ho
                exact absurd h h2)
          clear h1 h2 HOC HNO HSR
          go_wp2_with fail
          (first | (refine ⟨?_, ?_⟩; (unfold RSpn; exact ⟨k + 1, by go_num, by omega, HN2.out, rfl⟩); (simp [intOf]; omega)) | (go_roundw; (case rel => (unfold RSpn; exact ⟨k + 1, by go_num, by omega, HN2.out, rfl⟩)); (case measure => (simp [intOf]; omega))) | (go_round; (case rel => (unfold RSpn; exact ⟨k + 1, by go_num, by omega, HN2.out, rfl⟩)); (case measure => (simp [intOf]; omega))))
      · have e1 := ba_eq_f hk1 h1
        change (_ == (46 : Int)) = false at e1
        have HN2 := Lib.hid (show ∀ j, j < k + 1 → Lib.occAt l dots j = false from fun j hj => by
          by_cases e : j < k
          · exact HNO.out j e
          · obtain rfl : j = k := by omega
            cases ho : Lib.occAt l dots j
            · rfl
            · obtain ⟨_, h, _⟩ := HOC.out.1 ho
              exact absurd h h1)
        clear h1 HOC HNO HSR
        go_wp2_with fail
        (first | (refine ⟨?_, ?_⟩; (unfold RSpn; exact ⟨k + 1, by go_num, by omega, HN2.out, rfl⟩); (simp [intOf]; omega)) | (go_roundw; (case rel => (unfold RSpn; exact ⟨k + 1, by go_num, by omega, HN2.out, rfl⟩)); (case measure => (simp [intOf]; omega))) | (go_round; (case rel => (unfold RSpn; exact ⟨k + 1, by go_num, by omega, HN2.out, rfl⟩)); (case measure => (simp [intOf]; omega))))
    · have HS2 := Lib.hid (show spanR l = ⟨numR l, numR l⟩ by
        have := cut_no (l := l) (fun j hj => HNO.out j (by omega))
        rw [HSR.out, this]; rfl)
      have HN := Lib.hid (fun W => numberR_any l hl W)
      clear HSR HNO
      go_wp2_with ((go_at_call 45; (with_reducible refine (HN.out _).mono ?_); rintro e w' ⟨rfl, rfl⟩))
      ((try simp only [Exit.inBlock, Exit.then]); refine bodyPost_ret (results_cell1 rfl rfl (loadSp (HE.out _ _).1)) rfl ?_)
      rw [HS2.out]
      exact ⟨rfl, (HE.out _ _).2⟩
theorem wordR_len {l : Tx} {n : Nat} (hl : l.length ≤ 70000) : (wordR l n).length ≤ 70000 := by
  unfold wordR
  rw [List.getD_eq_getElem?_getD]
  cases h : (splitC 32 l)[n]? with
  | none => simp
  | some x => exact Nat.le_trans (splitC_len 32 l x (List.mem_of_getElem? h)) hl
set_option maxRecDepth 100000 in
set_option maxHeartbeats 2000000 in
theorem sideR_any (l : Tx) (hl : l.length ≤ 70000) (w : World) : Calls Tryz.prog 48 #[tx l] w (Ret (edv (sideR l)) w) := by
  have HS := Lib.hid (show sideR l = if wordR l 0 = wTab then ⟨1, spanR (wordR l 1), spanR (wordR l 2), spanR (wordR l 3)⟩ else if wordR l 0 = wHole then ⟨2, spanR (wordR l 1), spanR (wordR l 2), spanR (wordR l 3)⟩ else ed0 from rfl)
  have W0 := Lib.hid (fun W => word_any l 0 hl W)
  have W1 := Lib.hid (fun W => word_any l 1 hl W)
  have W2 := Lib.hid (fun W => word_any l 2 hl W)
  have W3 := Lib.hid (fun W => word_any l 3 hl W)
  have S1 := Lib.hid (fun W => spanR_any (wordR l 1) (wordR_len hl) W)
  have S2 := Lib.hid (fun W => spanR_any (wordR l 2) (wordR_len hl) W)
  have S3 := Lib.hid (fun W => spanR_any (wordR l 3) (wordR_len hl) W)
  generalize spanR (wordR l 1) = s1 at *
  generalize spanR (wordR l 2) = s2 at *
  generalize spanR (wordR l 3) = s3 at *
  generalize wordR l 0 = w0 at *
  generalize wordR l 1 = w1 at *
  generalize wordR l 2 = w2 at *
  generalize wordR l 3 = w3 at *
  have HB0 := Lib.hid (nxA w (.cells #[.int .i64 0, .int .i64 0, .int .i64 0, .int .i64 0, .int .i64 0, .int .i64 0, .int .i64 0] 48))
  have HX0 := Lib.hid (Bx.new w #[.int .i64 0, .int .i64 0, .int .i64 0, .int .i64 0, .int .i64 0, .int .i64 0, .int .i64 0] 48)
  clear hl
  go_enter Tryz.func48, Tryz.ntmps48
  go_upto_region 1 with fail
  generalize (w.alloc (.cells #[.int .i64 0, .int .i64 0, .int .i64 0, .int .i64 0, .int .i64 0, .int .i64 0, .int .i64 0] 48)) = V at *
  obtain ⟨b, hb⟩ : ∃ b, b = w.heap.size := ⟨_, rfl⟩
  rw [← hb] at HX0 ⊢
  have HBW := Lib.hid (show w.heap.size ≤ b by rw [hb]; omega)
  clear hb
  go_wp2_with fail
  refine (W1.out _).mono ?_
  rintro e V1 ⟨rfl, hb⟩
  replace HX0 := Lib.hid (HX0.out.next hb)
  replace HB0 := Lib.hid (HB0.out.trans (hb.mono HB0.out.size))
  clear hb
  go_wp2_with fail
  refine (S1.out _).mono ?_
  rintro e V2 ⟨rfl, hb⟩
  replace HX0 := Lib.hid (HX0.out.next hb)
  replace HB0 := Lib.hid (HB0.out.trans (hb.mono HB0.out.size))
  clear hb
  unfold spv
  go_wp2_with fail
  refine (W2.out _).mono ?_
  rintro e V3 ⟨rfl, hb⟩
  replace HX0 := Lib.hid (HX0.out.next hb)
  replace HB0 := Lib.hid (HB0.out.trans (hb.mono HB0.out.size))
  clear hb
  go_wp2_with fail
  refine (S2.out _).mono ?_
  rintro e V4 ⟨rfl, hb⟩
  replace HX0 := Lib.hid (HX0.out.next hb)
  replace HB0 := Lib.hid (HB0.out.trans (hb.mono HB0.out.size))
  clear hb
  unfold spv
  go_wp2_with fail
  refine (W3.out _).mono ?_
  rintro e V5 ⟨rfl, hb⟩
  replace HX0 := Lib.hid (HX0.out.next hb)
  replace HB0 := Lib.hid (HB0.out.trans (hb.mono HB0.out.size))
  clear hb
  go_wp2_with fail
  refine (S3.out _).mono ?_
  rintro e V6 ⟨rfl, hb⟩
  replace HX0 := Lib.hid (HX0.out.next hb)
  replace HB0 := Lib.hid (HB0.out.trans (hb.mono HB0.out.size))
  clear hb
  unfold spv
  have HX1 := Lib.hid (Bx.new V6 #[.int .i64 0, .int .i64 s1.lo, .int .i64 s1.hi, .int .i64 s2.lo, .int .i64 s2.hi, .int .i64 s3.lo, .int .i64 s3.hi] 48)
  have HN := Lib.hid (nxA V6 (.cells #[.int .i64 0, .int .i64 s1.lo, .int .i64 s1.hi, .int .i64 s2.lo, .int .i64 s2.hi, .int .i64 s3.lo, .int .i64 s3.hi] 48))
  go_upto_region 2 with fail
  generalize (V6.alloc (Obj.cells #[.int .i64 0, .int .i64 s1.lo, .int .i64 s1.hi, .int .i64 s2.lo, .int .i64 s2.hi, .int .i64 s3.lo, .int .i64 s3.hi] 48)) = V7 at *
  obtain ⟨g, hg⟩ : ∃ g, g = V6.heap.size := ⟨_, rfl⟩
  rw [← hg] at HX1 ⊢
  have hbg : b ≠ g := by have := HX0.out.lt; omega
  have HGW := Lib.hid (show w.heap.size ≤ g by have := HB0.out.size; omega)
  clear hg
  replace HX0 := Lib.hid (HX0.out.next HN.out)
  replace HB0 := Lib.hid (HB0.out.trans (HN.out.mono HB0.out.size))
  clear HN
  go_wp2_with fail
  refine (W0.out _).mono ?_
  rintro e V8 ⟨rfl, hb⟩
  replace HX0 := Lib.hid (HX0.out.next hb)
  replace HX1 := Lib.hid (HX1.out.next hb)
  replace HB0 := Lib.hid (HB0.out.trans (hb.mono HB0.out.size))
  clear hb W0 W1 W2 W3 S1 S2 S3
  have g0 := HX1.out.c 0 _ rfl
  have g1 := HX1.out.c 1 _ rfl
  have g2 := HX1.out.c 2 _ rfl
  have g3 := HX1.out.c 3 _ rfl
  have g4 := HX1.out.c 4 _ rfl
  have g5 := HX1.out.c 5 _ rfl
  have g6 := HX1.out.c 6 _ rfl
  have f0 := HX1.out.fr 0
  have b0 := HX0.out.c 0 _ rfl
  have b1 := HX0.out.c 1 _ rfl
  have b2 := HX0.out.c 2 _ rfl
  have b3 := HX0.out.c 3 _ rfl
  have b4 := HX0.out.c 4 _ rfl
  have b5 := HX0.out.c 5 _ rfl
  have b6 := HX0.out.c 6 _ rfl
  have h0 := HX0.out.fr 0
  have h1 := HX0.out.fr 1
  have h2 := HX0.out.fr 2
  have h3 := HX0.out.fr 3
  have h4 := HX0.out.fr 4
  have h5 := HX0.out.fr 5
  have h6 := HX0.out.fr 6
  have HF := Lib.hid (show ∀ (W : World) (x0 x1 x2 x3 x4 x5 x6 : Value), Bx W b [.int .i64 0, .int .i64 0, .int .i64 0, .int .i64 0, .int .i64 0, .int .i64 0, .int .i64 0] → Below w.heap.size w W → Bx (setCells W b 0 [x0, x1, x2, x3, x4, x5, x6]) b [x0, x1, x2, x3, x4, x5, x6] ∧ Below w.heap.size w (setCells W b 0 [x0, x1, x2, x3, x4, x5, x6]) from fun W x0 x1 x2 x3 x4 x5 x6 hx hbw => ⟨hx.setAll _ rfl, below_setCells HBW.out _ 0 hbw⟩)
  by_cases e1 : w0 = wTab
  · have d1 : (w0 == [116, 97, 98]) = true := by rw [e1]; rfl
    rw [if_pos e1] at HS
    clear e1
    go_wp2_with fail
    obtain ⟨r1, r2⟩ := HF.out (V8.setCell ⟨g, 0, none⟩ (.int .i64 1)) (.int .i64 1) (.int .i64 s1.lo) (.int .i64 s1.hi) (.int .i64 s2.lo) (.int .i64 s2.hi) (.int .i64 s3.lo) (.int .i64 s3.hi) (HX0.out.other hbg 0 _) (HB0.out.setCell (p := ⟨g, 0, none⟩) HGW.out _)
    ((try simp only [Exit.inBlock, Exit.then]); refine bodyPost_ret (results_cell1 rfl rfl (loadEd r1)) rfl ?_)
    rw [HS.out]
    exact ⟨rfl, r2⟩
  · have d1 : (w0 == [116, 97, 98]) = false := beq_eq_false_iff_ne.2 e1
    rw [if_neg e1] at HS
    clear e1
    by_cases e2 : w0 = wHole
    · have d2 : (w0 == [104, 111, 108, 101]) = true := by rw [e2]; rfl
      rw [if_pos e2] at HS
      clear e2
      go_wp2_with fail
      obtain ⟨r1, r2⟩ := HF.out (V8.setCell ⟨g, 0, none⟩ (.int .i64 2)) (.int .i64 2) (.int .i64 s1.lo) (.int .i64 s1.hi) (.int .i64 s2.lo) (.int .i64 s2.hi) (.int .i64 s3.lo) (.int .i64 s3.hi) (HX0.out.other hbg 0 _) (HB0.out.setCell (p := ⟨g, 0, none⟩) HGW.out _)
      ((try simp only [Exit.inBlock, Exit.then]); refine bodyPost_ret (results_cell1 rfl rfl (loadEd r1)) rfl ?_)
      rw [HS.out]
      exact ⟨rfl, r2⟩
    · have d2 : (w0 == [104, 111, 108, 101]) = false := beq_eq_false_iff_ne.2 e2
      rw [if_neg e2] at HS
      clear e2
      go_wp2_with fail
      obtain ⟨r1, r2⟩ := HF.out V8 (.int .i64 0) (.int .i64 0) (.int .i64 0) (.int .i64 0) (.int .i64 0) (.int .i64 0) (.int .i64 0) HX0.out HB0.out
      ((try simp only [Exit.inBlock, Exit.then]); refine bodyPost_ret (results_cell1 rfl rfl (loadEd r1)) rfl ?_)
      rw [HS.out]
      exact ⟨rfl, r2⟩
end Go.Proofs.YtonnemkecppmiaaGreatDoor
