import Derived.Test.YtjlicbdnppodgaaP8
namespace Go.Proofs.Ytjlicbdnppodgaa
open Go.RowKit
/-! The program: open. -/
open Classical in
theorem check_ok {c : Cut} (h : (checkS c).2 = 0) : cutS c = true ∧ checkS c = (greatS c + 1, 0) ∧ (∀ t, t < (greatS c).toNat → cellsS c (t : Nat) ≠ 0) ∧ (∀ t, t < (greatS c).toNat + 1 → wholeB c (t : Nat) = true) := by
  cases hc : cutS c with
  | false => rw [check_bad hc] at h; simp at h
  | true =>
    refine ⟨rfl, ?_⟩
    by_cases h1 : ∀ t, t < (greatS c).toNat → cellsS c (t : Nat) ≠ 0
    · by_cases h2 : ∀ t, t < (greatS c).toNat + 1 → wholeB c (t : Nat) = true
      · exact ⟨check_good hc h1 h2, h1, h2⟩
      · exfalso
        have hex : ∃ j, j < (greatS c).toNat + 1 ∧ wholeB c (j : Nat) = false := by
          refine Classical.byContradiction fun hn => h2 fun t ht => ?_
          cases hw : wholeB c (t : Nat) with
          | true => rfl
          | false => exact absurd ⟨t, ht, hw⟩ hn
        obtain ⟨j, hj1, hj2⟩ := hex
        unfold checkS at h
        rw [if_neg (by rw [hc]; simp), find_none (p := fun k : Nat => cellsS c (k : Int) == 0) (fun t ht => by simp [h1 t ht])] at h
        dsimp only at h
        cases hf : (List.range ((greatS c).toNat + 1)).find? (fun k : Nat => decide (¬ Whole c (k : Int))) with
        | some k => rw [hf] at h; simp at h
        | none =>
          rw [List.find?_eq_none] at hf
          have := hf j (List.mem_range.2 hj1)
          rw [decide_eq_true_iff, ← wholeB_iff, hj2] at this
          exact this (by simp)
    · exfalso
      unfold checkS at h
      rw [if_neg (by rw [hc]; simp)] at h
      cases hf : (List.range (greatS c).toNat).find? (fun k : Nat => cellsS c (k : Int) == 0) with
      | some k => rw [hf] at h; simp at h
      | none =>
        rw [List.find?_eq_none] at hf
        exact h1 fun t ht h0 => hf t (List.mem_range.2 ht) (by simp [h0])
noncomputable def openE (c : Cut) (piece : Int) : Int := if (checkS c).2 ≠ 0 then (checkS c).2 else if inS piece 0 (greatS c) = true then 0 else 2
structure Good (c : Cut) (piece : Int) : Prop where
  ok : OkC c
  ck : checkS c = (greatS c + 1, 0)
  ce : ∀ t, t < (greatS c).toNat → cellsS c (t : Nat) ≠ 0
  wh : ∀ t, t < (greatS c).toNat + 1 → wholeB c (t : Nat) = true
  pc : 0 ≤ piece ∧ piece ≤ greatS c
theorem openE_good {c : Cut} {piece : Int} (h : openE c piece = 0) : Good c piece := by
  unfold openE at h
  by_cases h1 : (checkS c).2 ≠ 0
  · rw [if_pos h1] at h; exact absurd h h1
  · rw [if_neg h1] at h
    obtain ⟨a, b, d, e⟩ := check_ok (Classical.not_not.1 h1)
    refine ⟨(okc_iff c).1 a, b, d, e, ?_⟩
    by_cases h2 : inS piece 0 (greatS c) = true
    · unfold inS at h2; simpa using h2
    · rw [if_neg h2] at h; simp at h
def RetOpen (c : Cut) (piece : Int) (w : World) (e : Ending) (w' : World) : Prop :=
  ((openE c piece ≠ 0 ∧ e = .returned (.tuple #[.agg #[.int .i64 0, .int .i64 0, .slice none 0 0, .map none], .int .i64 0, .int .i64 (openE c piece)])) ∨
   (openE c piece = 0 ∧ ∃ b, e = .returned (.tuple #[.agg #[.int .i64 c.wide, .int .i64 c.high, .slice c.A c.piece.length c.c, .map (some (b))], .int .i64 (greatS c + 1), .int .i64 0]) ∧ w.heap.size ≤ b ∧ PicAt c b w')) ∧ Below w.heap.size w w'
theorem results_cell_tmp2 {fn : Func} {p t u : Tmp} {ty : TypeId} (h : fn.results = #[.cell p ty, .tmp t, .tmp u]) {tmps : Array Value} {P : Program} {w : World} {a : Addr} {v : Value} (hp : tmps.getD p undef = .pointer (some a)) (hv : (loadVar ty a).run P w = .ok v w) :
    (results fn tmps).run P w = .ok (.tuple #[v, tmps.getD t undef, tmps.getD u undef]) w := by
  have hp' : tmps[p]?.getD undef = .pointer (some a) := by simpa using hp
  simp [results, h, hp', asAddr, hv, Result.andThen]
set_option maxRecDepth 100000 in
set_option maxHeartbeats 2000000 in
theorem open_any (c : Cut) (piece : Int) (w : World) (hr : CutAt w w.heap.size c) : Calls Try.prog 50 #[.agg #[.int .i64 c.wide, .int .i64 c.high, .slice c.A c.piece.length c.c], .int .i64 piece] w (RetOpen c piece w) := by
  have HX0 := Lib.hid ((Bx.new w #[.int .i64 c.wide, .int .i64 c.high, .slice c.A c.piece.length c.c] 24).next (nxA _ (.cells #[.int .i64 0, .int .i64 0, .slice none 0 0, .map none] 71)))
  have HY0 := Lib.hid (Bx.new (w.alloc (.cells #[.int .i64 c.wide, .int .i64 c.high, .slice c.A c.piece.length c.c] 24)) #[.int .i64 0, .int .i64 0, .slice none 0 0, .map none] 71)
  have HB0 := Lib.hid ((nxA w (.cells #[.int .i64 c.wide, .int .i64 c.high, .slice c.A c.piece.length c.c] 24)).trans ((nxA (w.alloc (.cells #[.int .i64 c.wide, .int .i64 c.high, .slice c.A c.piece.length c.c] 24)) (.cells #[.int .i64 0, .int .i64 0, .slice none 0 0, .map none] 71)).mono (nxA w (.cells #[.int .i64 c.wide, .int .i64 c.high, .slice c.A c.piece.length c.c] 24)).size))
  have HR0 := Lib.hid (hr.next HB0.out)
  simp only [World.size_alloc] at HY0
  clear hr
  go_enter Try.func50, Try.ntmps50
  go_upto_region 1 with fail
  generalize (w.alloc (.cells #[.int .i64 c.wide, .int .i64 c.high, .slice c.A c.piece.length c.c] 24)).alloc (.cells #[.int .i64 0, .int .i64 0, .slice none 0 0, .map none] 71) = V at *
  have c0 := HX0.out.c 0 _ rfl
  have c1 := HX0.out.c 1 _ rfl
  have c2 := HX0.out.c 2 _ rfl
  go_wp2_with fail
  refine (CheckP_any c V HR0.out).mono ?_
  rintro e W ⟨rfl, hb⟩
  clear c0 c1 c2
  have HX := Lib.hid (HX0.out.next hb)
  have HY := Lib.hid (HY0.out.next hb)
  have HR := Lib.hid (HR0.out.next hb)
  have HB := Lib.hid (HB0.out.trans (hb.mono HB0.out.size))
  clear HX0 HY0 HR0 HB0 hb
  unfold checkV
  have d0 := HY.out.c 0 _ rfl
  have d1 := HY.out.c 1 _ rfl
  have d2 := HY.out.c 2 _ rfl
  have d3 := HY.out.c 3 _ rfl
  have f0 := HY.out.fr 0
  have f1 := HY.out.fr 1
  have f2 := HY.out.fr 2
  have f3 := HY.out.fr 3
  have hres := loadP (HY.out.setAll [.int .i64 0, .int .i64 0, .slice none 0 0, .map none] rfl)
  have HRES := Lib.hid hres
  have HBS := Lib.hid (below_setCells (b := w.heap.size + 1) (B := w.heap.size) (by omega) [.int .i64 0, .int .i64 0, .slice none 0 0, .map none] 0 HB.out)
  clear hres
  have HO := Lib.hid (show openE c piece = if (checkS c).2 ≠ 0 then (checkS c).2 else if inS piece 0 (greatS c) = true then 0 else 2 from rfl)
  by_cases h1 : (checkS c).2 = 0
  · obtain ⟨a1, a2, a3, a4⟩ := check_ok h1
    rw [a2]
    have h2 := great_bd ((okc_iff c).1 a1)
    have hw1 : IntKind.i64.wrap (greatS c + 1 - 1) = greatS c := by rw [Int.add_sub_cancel]; exact IntWalk.i64_in _ (by omega)
    have hw2 : IntKind.i64.wrap (greatS c) = greatS c := IntWalk.i64_in _ (by omega)
    have OK := Lib.hid ((okc_iff c).1 a1)
    have A2 := Lib.hid a2
    clear a1 a2 a3 a4 h1
    cases h3 : inS piece 0 (greatS c)
    · have HE := Lib.hid (show openE c piece = 2 from by rw [HO.out, A2.out, h3]; rfl)
      go_wp2_with (go_at_call 59; (with_reducible refine (within_any _ _ _ _).mono ?_); rintro e w' ⟨rfl, rfl⟩)
      ((try simp only [Exit.inBlock, Exit.then]); refine bodyPost_ret (results_cell_tmp2 rfl rfl HRES.out) rfl ?_)
      exact ⟨.inl ⟨by rw [HE.out]; decide, by rw [HE.out]; rfl⟩, HBS.out⟩
    · have HE := Lib.hid (show openE c piece = 0 from by rw [HO.out, A2.out, h3]; rfl)
      have c0 := HX.out.c 0 _ rfl
      have c1 := HX.out.c 1 _ rfl
      have c2 := HX.out.c 2 _ rfl
      clear d0 d1 d2 d3 f0 f1 f2 f3
      go_wp2_with (go_at_call 59; (with_reducible refine (within_any _ _ _ _).mono ?_); rintro e w' ⟨rfl, rfl⟩)
      refine (newPicture_any c W OK.out HR.out).mono ?_
      rintro e W2 ⟨bm, rfl, hbm, hpic, hb2⟩
      clear c0 c1 c2
      have HY2 := Lib.hid (HY.out.next hb2)
      have f0 := HY2.out.fr 0
      have f1 := HY2.out.fr 1
      have f2 := HY2.out.fr 2
      have f3 := HY2.out.fr 3
      have d0 := HY2.out.c 0 _ rfl
      have d1 := HY2.out.c 1 _ rfl
      have d2 := HY2.out.c 2 _ rfl
      have d3 := HY2.out.c 3 _ rfl
      have HP := Lib.hid hpic
      have HB2 := Lib.hid (HB.out.trans (hb2.mono HB.out.size))
      have HBM := Lib.hid hbm
      have HLT := Lib.hid (show w.heap.size + 1 < W.heap.size from HY.out.lt)
      have hres := loadP (HY2.out.setAll [.int .i64 c.wide, .int .i64 c.high, .slice c.A c.piece.length c.c, .map (some bm)] rfl)
      have HRES2 := Lib.hid hres
      clear hres hbm hpic hb2
      go_wp2_with fail
      ((try simp only [Exit.inBlock, Exit.then]); refine bodyPost_ret (results_cell_tmp2 rfl rfl HRES2.out) rfl ?_)
      have h5 := HLT.out
      have h6 := HBM.out
      refine ⟨.inr ⟨HE.out, bm, rfl, by omega, ?_⟩, below_setCells (b := w.heap.size + 1) (B := w.heap.size) (by omega) [.int .i64 c.wide, .int .i64 c.high, .slice c.A c.piece.length c.c, .map (some bm)] 0 HB2.out⟩
      exact HP.out.of (setCells_blk (w.heap.size + 1) bm (by omega) [.int .i64 c.wide, .int .i64 c.high, .slice c.A c.piece.length c.c, .map (some bm)] 0 W2)
  · have HE := Lib.hid (show openE c piece = (checkS c).2 from by rw [HO.out, if_pos h1])
    have h1' := Lib.hid h1
    have e1 : ((checkS c).2 == 0) = false := by simp [h1]
    clear h1
    generalize checkS c = x at *
    go_wp2_with fail
    ((try simp only [Exit.inBlock, Exit.then]); refine bodyPost_ret (results_cell_tmp2 rfl rfl HRES.out) rfl ?_)
    exact ⟨.inl ⟨by rw [HE.out]; exact h1'.out, by rw [HE.out]; rfl⟩, HBS.out⟩
end Go.Proofs.Ytjlicbdnppodgaa
