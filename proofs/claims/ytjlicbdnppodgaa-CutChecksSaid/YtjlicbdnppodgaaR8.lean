import Derived.Test.YtjlicbdnppodgaaR7
import Derived.Test.YtjlicbdnppodgaaIns
import Derived.Maps.AppendAt
namespace Go.Proofs.Ytjlicbdnppodgaa
open Go.RowKit
/-! The reference: Inside. -/
def isB (c : Cut) (k : Int) (f : Nat → Bool) (m : Nat) : Bool := decide (0 < edgesR c k (-1)) || (List.range m).any fun j : Nat => f j && decide (0 < edgesR c k (j : Int))
theorem isB_succ (c : Cut) (k : Int) (f : Nat → Bool) (m : Nat) : isB c k f (m + 1) = (isB c k f m || (f m && decide (0 < edgesR c k (m : Int)))) := by
  unfold isB
  rw [List.range_succ, List.any_append, ← Bool.or_assoc]
  simp
structure SndP (c : Cut) (piece : Int) (N : Nat) (f : Nat → Bool) : Prop where
  snd : ∀ j, j < N → f j = true → Rch c piece (-1) (j : Int)
theorem SndP.add {c : Cut} {piece : Int} {N k : Nat} {f : Nat → Bool} (h : SndP c piece N f) (hN : (N : Int) = greatS c + 1) (hk : k < N) (hp : (k : Int) ≠ piece) (hf : f k = false) (hi : isB c (k : Int) f N = true) : SndP c piece N (setF f k) := by
  refine ⟨fun j hj hs => ?_⟩
  unfold setF at hs
  by_cases e : j = k
  · subst e
    unfold isB at hi
    rw [Bool.or_eq_true, decide_eq_true_iff, List.any_eq_true] at hi
    rcases hi with hi | ⟨m, hm, hi⟩
    · exact .one ⟨by omega, by omega, hp, by omega, hi⟩
    · rw [Bool.and_eq_true, decide_eq_true_iff] at hi
      have hmN := List.mem_range.1 hm
      refine .step (h.snd m hmN hi.1) ⟨by omega, by omega, hp, ?_, hi.2⟩
      intro e
      have : j = m := by omega
      subst this
      rw [hf] at hi; cases hi.1
  · rw [if_neg e] at hs
    exact h.snd j hj hs
def StbP (c : Cut) (piece : Int) (N : Nat) (f : Nat → Bool) (n : Nat) : Prop := ∀ k, k < n → (k : Int) ≠ piece → f k = false → isB c (k : Int) f N = false
theorem SndP.all {c : Cut} {piece : Int} {N : Nat} {f : Nat → Bool} (h : SndP c piece N f) (hN : (N : Int) = greatS c + 1) (hs : StbP c piece N f N) {j : Nat} (hj : j < N) : f j = true ↔ Rch c piece (-1) (j : Int) := by
  constructor
  · exact h.snd j hj
  · intro hr
    have key : ∀ q, Rch c piece (-1) q → ∀ j : Nat, (j : Int) = q → f j = true := by
      intro q hq
      induction hq with
      | one h2 =>
        intro j e
        subst e
        cases hf : f j with
        | true => rfl
        | false =>
          have h3 := hs j (by have := h2.2.1; omega) h2.2.2.1 hf
          unfold isB at h3
          rw [Bool.or_eq_false_iff, decide_eq_false_iff_not] at h3
          exact absurd h2.2.2.2.2 h3.1
      | step hq2 h2 ih =>
        rename_i m q
        intro j e
        subst e
        have hb := hq2.bd
        obtain ⟨i, rfl⟩ := Int.eq_ofNat_of_zero_le hb.1
        have hi := ih i rfl
        cases hf : f j with
        | true => rfl
        | false =>
          have h3 := hs j (by have := h2.2.1; omega) h2.2.2.1 hf
          unfold isB at h3
          rw [Bool.or_eq_false_iff, List.any_eq_false] at h3
          exact absurd (by rw [hi, decide_eq_true h2.2.2.2.2]; rfl) (h3.2 i (List.mem_range.2 (by have := hb.2.1; omega)))
    exact key _ hr j rfl
structure RI1 (c : Cut) (piece : Int) (N g : Nat) (W0 : World) (ov : Value) (W : World) (f : Nat → Bool) (mo : Bool) : Prop where
  s : SndP c piece N f
  b : BBlk W g N f
  o : ov = .bool mo
  st : mo = false → StbP c piece N f N
  w : Below W0.heap.size W0 W
structure RI2 (c : Cut) (piece : Int) (N g m0 : Nat) (W0 : World) (ov kv : Value) (W : World) (f : Nat → Bool) (mo : Bool) (k : Nat) : Prop where
  s : SndP c piece N f
  b : BBlk W g N f
  hk : k ≤ N
  ke : kv = .int .i64 k
  o : ov = .bool mo
  le : m0 ≤ manyF f N
  lt : mo = true → m0 < manyF f N
  st : mo = false → StbP c piece N f k
  w : Below W0.heap.size W0 W
structure RI3 (c : Cut) (k N : Nat) (f : Nat → Bool) (W0 : World) (iv mv : Value) (W : World) (m : Nat) : Prop where
  hm : m ≤ N
  me : mv = .int .i64 m
  i : iv = .bool (isB c (k : Int) f m)
  w : Below W0.heap.size W0 W
def isTr : Option Value → Bool
  | some (.bool true) => true
  | _ => false
def cntW (g N : Nat) (W : World) : Nat := manyF (fun j => isTr (W.cell? ⟨g, j, none⟩)) N
theorem BBlk.cnt {W : World} {g N : Nat} {f : Nat → Bool} (h : BBlk W g N f) : cntW g N W = manyF f N := manyF_congr fun j hj => by
  rw [h.cell j hj]
  cases f j <;> rfl
/-- Between two rounds of the last loop. -/
structure RI4 (c : Cut) (piece : Int) (W0 W : World) (v : Value) (n : Nat) : Prop where
  hn : n ≤ (greatS c).toNat + 1
  own : W.ownsRow W0.heap.size 3 1 v (insTo c piece n).length ((insTo c piece n).flatMap icell)
  b : Below W0.heap.size W0 W
set_option maxRecDepth 100000 in
set_option maxHeartbeats 8000000 in
theorem InsideR_any (c : Cut) (piece : Int) (w : World) (hr : CutAt w w.heap.size c) : Calls Try.prog 19 #[.agg #[.int .i64 c.wide, .int .i64 c.high, .slice c.A c.piece.length c.c], .int .i64 piece] w (RetIns c piece w) := by
  have HX0 := Lib.hid (Bx.new w #[.int .i64 c.wide, .int .i64 c.high, .slice c.A c.piece.length c.c] 24)
  have HB0 := Lib.hid (nxA w (.cells #[.int .i64 c.wide, .int .i64 c.high, .slice c.A c.piece.length c.c] 24))
  have HR0 := Lib.hid (hr.next HB0.out)
  clear hr
  go_enter Try.func19, Try.ntmps19
  go_upto_region 1 with fail
  generalize (w.alloc (.cells #[.int .i64 c.wide, .int .i64 c.high, .slice c.A c.piece.length c.c] 24)) = V at *
  have c0 := HX0.out.c 0 _ rfl
  have c1 := HX0.out.c 1 _ rfl
  have c2 := HX0.out.c 2 _ rfl
  go_wp2_with fail
  refine (checkR_any c piece V HR0.out).mono ?_
  rintro e W ⟨rfl, hb⟩
  clear c0 c1 c2
  have HX1 := Lib.hid (HX0.out.next hb)
  have HR1 := Lib.hid (HR0.out.next hb)
  have HB1 := Lib.hid (HB0.out.trans (hb.mono HB0.out.size))
  clear HX0 HR0 HB0 hb
  by_cases h0 : openE c piece = 0
  · have HG := Lib.hid (openE_good h0)
    have HL := Lib.hid (show insideL c piece = insTo c piece ((greatS c).toNat + 1) from by unfold insideL; rw [if_pos h0])
    have H0 := Lib.hid h0
    rw [h0]
    have hgr := great_bd HG.out.ok
    clear h0
    have c0 := HX1.out.c 0 _ rfl
    have c1 := HX1.out.c 1 _ rfl
    have c2 := HX1.out.c 2 _ rfl
    go_wp2_with fail
    refine (Greatest_any c W HR1.out).mono ?_
    rintro e W2 ⟨rfl, hb⟩
    clear c0 c1 c2
    have HX2 := Lib.hid (HX1.out.next hb)
    have HR2 := Lib.hid (HR1.out.next hb)
    have HB2 := Lib.hid (HB1.out.trans (hb.mono HB1.out.size))
    clear HX1 HR1 HB1 hb
    obtain ⟨N, hN⟩ : ∃ N : Nat, (N : Int) = greatS c + 1 := ⟨(greatS c).toNat + 1, by omega⟩
    have hw1 : IntKind.i64.wrap (greatS c + 1) = greatS c + 1 := IntWalk.i64_in _ (by omega)
    obtain ⟨i0, hi, hz0, hz1, hz2⟩ := info_parts bool_info
    have hmk : ∀ W : World, (Instr.makeSlice 55 (.int .i64 (greatS c + 1)) (.int .i64 (greatS c + 1))).run Try.prog W = .ok (.slice (some ⟨W.heap.size, 0, none⟩) N N) (W.alloc (.cells (falses N) 4)) := fun W => by
      have := run_make (P := Try.prog) W 55 4 i0 (.bool false) Try.underlying55 hi hz0 .i64 .i64 N N (by omega) (by omega) (by rw [hz2]; omega) (by omega)
      rw [hz1] at this
      rw [← hN]
      simpa [falses, Value.cells] using this
    have HZ := Lib.hid (BBlk.falses W2 N 4)
    have HA := Lib.hid (nxA W2 (.cells (falses N) 4))
    clear hi hz0 hz1 hz2
    go_wp2_with fail
    clear hmk
    generalize W2.alloc (.cells (falses N) 4) = U at *
    have HN := Lib.hid hN
    have hN40 : N ≤ 40 := by omega
    obtain ⟨g, hg⟩ : ∃ g, g = W2.heap.size := ⟨_, rfl⟩
    rw [← hg] at HZ
    rw [← hg]
    have HGE := Lib.hid hg
    have HLT := Lib.hid (show w.heap.size < W2.heap.size from HX2.out.lt)
    obtain ⟨nI, hnI⟩ : ∃ nI : Int, nI = greatS c + 1 := ⟨_, rfl⟩
    rw [← hnI] at hN hw1 ⊢
    have HNI := Lib.hid hnI
    clear hg hnI
    go_loopw [9] (fun ov wr => ∃ f mo, RI1 c piece N g W2 ov wr f mo) (fun ov wr => (N - cntW g N wr) * 2 + b01 ov)
    case atStart => exact ⟨fun _ => false, true, ⟨⟨fun j _ h => by cases h⟩, HZ.out, rfl, (fun h => by cases h), HA.out⟩⟩
    case round =>
      obtain ⟨f, mo, hr⟩ := hrel
      obtain rfl := hr.o
      have HR1 := Lib.hid hr
      have hcn := Lib.hid hr.b.cnt
      generalize wr = Wo at *
      cases mo
      · have HST := Lib.hid (hr.st rfl)
        have HALL := Lib.hid (fun (j : Nat) (hj : j < N) => hr.s.all HN.out HST.out hj)
        clear hr
        obtain ⟨i0, hi, hz0, hz1, hz2⟩ := info_parts int_info
        go_wp2_with fail
        go_loopw [13, 14] (fun v iv wr => ∃ n : Nat, iv = .int .i64 n ∧ RI4 c piece Wo wr v n) (fun _ iv _ => N - (intOf iv).toNat)
        case atStart => exact ⟨0, rfl, by omega, World.ownsRow_nil _ _ _ _, Below.refl _ _⟩
        case round =>
          obtain ⟨n, rfl, hr⟩ := hrel
          have hn := hr.hn
          have HR5 := Lib.hid hr
          generalize wr = Wi at *
          by_cases hlt : n < N
          · have hltI : (n : Int) < nI := by omega
            have hown := hr.own
            have hlen := insTo_len c piece n
            have r0 := (HR1.out.b.next hr.b).cell n hlt
            have hrb : rchB c piece (n : Int) = f n := by rw [Bool.eq_iff_iff, rchB_iff, HALL.out n hlt]
            have HADD := Lib.hid (fun h => insTo_add (c := c) (piece := piece) (n := n) h)
            have HSK := Lib.hid (fun h => insTo_skip (c := c) (piece := piece) (n := n) h)
            rw [hrb] at HADD HSK
            have HSKIP := Lib.hid (fun (h : ¬ ((n : Int) ≠ piece ∧ f n = false)) => (show RI4 c piece Wo Wi _ (n + 1) from ⟨by have := HNI.out; omega, by rw [HSK.out h]; exact hr.own, hr.b⟩))
            clear hr hrb
            by_cases hp : (n : Int) = piece
            · have e2 : ((n : Int) == piece) = true := by simp [hp]
              have e3 : ((n : Int) != piece) = false := by simp [hp]
              have HF := Lib.hid (HSKIP.out (fun h => h.1 hp))
              clear hp hown HADD
              go_wp2_with fail
              exact ⟨⟨n + 1, by go_num, HF.out⟩, by simp [intOf]; omega⟩
            · have e2 : ((n : Int) == piece) = false := by simp [hp]
              have e3 : ((n : Int) != piece) = true := by simp [hp]
              cases hR : f n
              · rw [hR] at r0
                have HS := Lib.hid (HADD.out ⟨hp, hR⟩)
                clear hR HADD HSK HSKIP
                go_wp2_with (at_builtin; refine wpList_append_own _ rfl (.tmp 87) (.tmp 89) 22 rfl Wo.heap.size 3 i0 (.int .i64 0) 1 8 Try.underlying22 hi hz0 hz1 hz2 rfl (by decide) _ _ _ rfl (hown.alloc _) ⟨Wi.heap.size, 0, none⟩ 1 1 [.int .i64 (n : Int)] rfl rfl (cell_one_new _ _ _) (by simp [Value.oneCell']) (by unfold maxLen; omega) (by omega) (by have := HR5.out.b.size; simp; omega) ?_; intro v2 w2 hown' hgrow _)
                have hlo := hown.lt
                have hz1' := HR5.out.b.size
                have HF := Lib.hid (show RI4 c piece Wo w2 v2 (n + 1) from ⟨by have := HNI.out; omega, by rw [HS.out, List.length_append, List.flatMap_append]; exact hown', (HR5.out.b.alloc HR5.out.b.size _).grown hgrow (by simp; omega) (fun k hk => by have := hlo k hk; omega)⟩)
                clear hlo hgrow hown' hown
                go_wp2_with fail
                exact ⟨⟨n + 1, by go_num, HF.out⟩, by simp [intOf]; omega⟩
              · rw [hR] at r0
                have HF := Lib.hid (HSKIP.out (fun h => by rw [hR] at h; cases h.2))
                clear hR hp hown HADD
                go_wp2_with fail
                exact ⟨⟨n + 1, by go_num, HF.out⟩, by simp [intOf]; omega⟩
          · have hnN : n = (greatS c).toNat + 1 := by have := HNI.out; omega
            have hltI : ¬ (n : Int) < nI := by omega
            have HRN := Lib.hid hnN
            clear hr hnN
            go_wp2_with fail
            go_ret2
            have hown := HR5.out.own
            rw [HRN.out] at hown
            obtain ⟨A, cap, rfl, hA⟩ := own_at (cells := icell) (size := 1) (fun _ => rfl) (by omega) hown
            exact ⟨A, cap, by rw [HL.out, H0.out]; rfl, by rw [HL.out]; exact hA, HB2.out.trans ((HR1.out.w.trans (HR5.out.b.mono HR1.out.w.size)).mono HB2.out.size)⟩
      · clear hr
        go_wp2_with fail
        go_loopw [9, 10] (fun ov kv wr => ∃ f mo k, RI2 c piece N g (cntW g N Wo) W2 ov kv wr f mo k) (fun _ kv _ => N - (intOf kv).toNat)
        case atStart => exact ⟨f, false, 0, ⟨HR1.out.s, HR1.out.b, by omega, rfl, rfl, by rw [hcn.out]; exact Nat.le_refl _, (fun h => by cases h), (fun _ k hk => by omega), HR1.out.w⟩⟩
        case round =>
          obtain ⟨f2, mo2, k, h2⟩ := hrel
          obtain rfl := h2.o
          obtain rfl := h2.ke
          have hk := h2.hk
          have H2 := Lib.hid h2
          generalize wr = Wi at *
          by_cases hlt : k < N
          · have hltI : (k : Int) < nI := by omega
            have r0 := h2.b.cell k hlt
            have hgW : g < Wi.heap.size := h2.b.lt
            have HST := Lib.hid (fun (h : (k : Int) = piece ∨ f2 k = true ∨ isB c (k : Int) f2 N = false) => (show mo2 = false → StbP c piece N f2 (k + 1) from fun hm j hj hp hf => by
              by_cases e : j = k
              · subst e
                rcases h with h | h | h
                · exact absurd h hp
                · rw [hf] at h; cases h
                · exact h
              · exact h2.st hm j (by omega) hp hf))
            have HNX := Lib.hid (fun (h : (k : Int) = piece ∨ f2 k = true ∨ isB c (k : Int) f2 N = false) (W' : World) (hb : BBlk W' g N f2) (hw : Below W2.heap.size W2 W') => (show RI2 c piece N g (cntW g N Wo) W2 (.bool mo2) (.int .i64 ((k + 1 : Nat) : Int)) W' f2 mo2 (k + 1) from ⟨h2.s, hb, by omega, rfl, rfl, h2.le, h2.lt, HST.out h, hw⟩))
            clear h2
            by_cases hp : (k : Int) = piece
            · have e1 : ((k : Int) == piece) = true := by simp [hp]
              have HF := Lib.hid (HNX.out (.inl hp) Wi H2.out.b H2.out.w)
              clear hp HNX HST
              go_wp2_with fail
              exact ⟨⟨f2, mo2, k + 1, HF.out⟩, by simp [intOf]; omega⟩
            · have e1 : ((k : Int) == piece) = false := by simp [hp]
              have HPN := Lib.hid hp
              cases hf : f2 k
              · rw [hf] at r0
                have HFK := Lib.hid hf
                have c0 := (HX2.out.next H2.out.w).c 0 _ rfl
                have c1 := (HX2.out.next H2.out.w).c 1 _ rfl
                have c2 := (HX2.out.next H2.out.w).c 2 _ rfl
                clear hp hf
                go_wp2_with fail
                refine (Edges_any c (k : Int) (-1) Wi HG.out.ok (HR2.out.next H2.out.w)).mono ?_
                rintro e W3 ⟨rfl, hb3⟩
                have HW3 := Lib.hid (H2.out.w.trans (hb3.mono H2.out.w.size))
                have HB3 := Lib.hid (H2.out.b.next hb3)
                clear hb3 c0 c1 c2 r0
                have HI0 := Lib.hid (show decide (0 < edgesR c (k : Int) (-1)) = isB c (k : Int) f2 0 from by unfold isB; simp)
                generalize edgesR c (k : Int) (-1) = ev at *
                go_wp2_with fail
                go_loopw [11, 12] (fun iv mv wr => ∃ m, RI3 c k N f2 W3 iv mv wr m) (fun _ mv _ => N - (intOf mv).toNat)
                case atStart => exact ⟨0, by omega, rfl, by rw [← HI0.out], Below.refl _ _⟩
                case round =>
                  obtain ⟨m, h3⟩ := hrel
                  obtain rfl := h3.i
                  obtain rfl := h3.me
                  have hm := h3.hm
                  have H3 := Lib.hid h3
                  generalize wr = Wj at *
                  have HWj := Lib.hid (HW3.out.trans (h3.w.mono HW3.out.size))
                  by_cases hlm : m < N
                  · have hlmI : (m : Int) < nI := by omega
                    have HSC := Lib.hid (isB_succ c (k : Int) f2 m)
                    have s0 := (HB3.out.next h3.w).cell m hlm
                    clear h3
                    cases hi : isB c (k : Int) f2 m
                    · cases hfm : f2 m
                      · rw [hfm] at s0
                        have HF := Lib.hid (show RI3 c k N f2 W3 (.bool false) (.int .i64 ((m + 1 : Nat) : Int)) Wj (m + 1) from ⟨by omega, rfl, by rw [HSC.out, hi, hfm]; rfl, H3.out.w⟩)
                        clear hfm hi
                        go_wp2_with fail
                        exact ⟨⟨m + 1, HF.out⟩, by simp [intOf]; omega⟩
                      · rw [hfm] at s0
                        have c0 := (HX2.out.next HWj.out).c 0 _ rfl
                        have c1 := (HX2.out.next HWj.out).c 1 _ rfl
                        have c2 := (HX2.out.next HWj.out).c 2 _ rfl
                        have HF := Lib.hid (fun (W' : World) (hw : Below W3.heap.size W3 W') => (show RI3 c k N f2 W3 (.bool (decide (0 < edgesR c (k : Int) (m : Int)))) (.int .i64 ((m + 1 : Nat) : Int)) W' (m + 1) from ⟨by omega, rfl, by rw [HSC.out, hi, hfm]; rfl, hw⟩))
                        clear hfm hi
                        go_wp2_with fail
                        refine (Edges_any c (k : Int) (m : Int) Wj HG.out.ok (HR2.out.next HWj.out)).mono ?_
                        rintro e W4 ⟨rfl, hb4⟩
                        have HF4 := Lib.hid (HF.out W4 (H3.out.w.trans (hb4.mono H3.out.w.size)))
                        clear hb4 c0 c1 c2 s0 HF
                        generalize edgesR c (k : Int) (m : Int) = ev2 at *
                        go_wp2_with fail
                        exact ⟨⟨m + 1, HF4.out⟩, by simp [intOf]; omega⟩
                    · have HF := Lib.hid (show RI3 c k N f2 W3 (.bool true) (.int .i64 ((m + 1 : Nat) : Int)) Wj (m + 1) from ⟨by omega, rfl, by rw [HSC.out, hi]; rfl, H3.out.w⟩)
                      clear hi
                      go_wp2_with fail
                      exact ⟨⟨m + 1, HF.out⟩, by simp [intOf]; omega⟩
                  · obtain rfl : m = N := by omega
                    have hlmI : ¬ (m : Int) < nI := by omega
                    have HBj := Lib.hid (HB3.out.next h3.w)
                    have r1 := HBj.out.cell k hlt
                    have r2 := HBj.out.free k
                    have hkI : (k : Int) < (m : Int) := by omega
                    clear h3
                    cases hi : isB c (k : Int) f2 m
                    · have HF := Lib.hid (HNX.out (.inr (.inr hi)) (Wj.setCell ⟨g, k, none⟩ (.bool false)) (HBj.out.set_ (f' := f2) hlt HFK.out (fun _ _ => rfl)) (HWj.out.setCell (p := ⟨g, k, none⟩) (by rw [HGE.out]; exact Nat.le_refl _) _))
                      clear hi HNX HST H2
                      cases mo2
                      · go_wp2_with fail
                        exact ⟨⟨_, _, k + 1, HF.out⟩, by simp [intOf]; omega⟩
                      · go_wp2_with fail
                        exact ⟨⟨_, _, k + 1, HF.out⟩, by simp [intOf]; omega⟩
                    · have hms := manyF_set (n := m) HFK.out hlt
                      have HF := Lib.hid (show RI2 c piece m g (cntW g m Wo) W2 (.bool true) (.int .i64 ((k + 1 : Nat) : Int)) (Wj.setCell ⟨g, k, none⟩ (.bool true)) (setF f2 k) true (k + 1) from ⟨H2.out.s.add HN.out hlt HPN.out HFK.out hi, HBj.out.set_ (f' := setF f2 k) hlt (by simp [setF]) (fun i hi => by simp [setF, hi]), by omega, rfl, rfl, by rw [hms]; have := H2.out.le; omega, (fun _ => by rw [hms]; have := H2.out.le; omega), (fun h => by cases h), HWj.out.setCell (p := ⟨g, k, none⟩) (by rw [HGE.out]; exact Nat.le_refl _) _⟩)
                      clear hi hms
                      go_wp2_with fail
                      all_goals exact ⟨⟨_, _, k + 1, HF.out⟩, by simp [intOf]; omega⟩
              · rw [hf] at r0
                have HF := Lib.hid (HNX.out (.inr (.inl hf)) Wi H2.out.b H2.out.w)
                clear hp hf HNX HST
                go_wp2_with fail
                exact ⟨⟨f2, mo2, k + 1, HF.out⟩, by simp [intOf]; omega⟩
          · obtain rfl : k = N := by omega
            have hltI : ¬ (k : Int) < nI := by omega
            have HF := Lib.hid (show RI1 c piece k g W2 (.bool mo2) Wi f2 mo2 from ⟨h2.s, h2.b, rfl, h2.st, h2.w⟩)
            have hcn2 := Lib.hid h2.b.cnt
            have hle := manyF_le f2 k
            clear h2
            go_wp2_with fail
            go_roundw
            case rel => exact ⟨f2, mo2, HF.out⟩
            case measure =>
              have h5 := H2.out.le
              have h6 := H2.out.lt
              rw [hcn2.out]
              cases mo2
              · show (k - manyF f2 k) * 2 + 0 < (k - cntW g k Wo) * 2 + 1
                omega
              · have := h6 rfl
                show (k - manyF f2 k) * 2 + 1 < (k - cntW g k Wo) * 2 + 1
                omega
  · have HL := Lib.hid (show insideL c piece = [] from by unfold insideL; rw [if_neg h0])
    have e0 : (openE c piece == 0) = false := by simp [h0]
    clear h0
    generalize hx : openE c piece = x at *
    have HXX := Lib.hid hx
    clear hx
    go_wp2_with fail
    go_ret2
    exact ⟨none, 0, by rw [HL.out, HXX.out]; rfl, by rw [HL.out]; exact At.nil, HB1.out⟩
end Go.Proofs.Ytjlicbdnppodgaa
