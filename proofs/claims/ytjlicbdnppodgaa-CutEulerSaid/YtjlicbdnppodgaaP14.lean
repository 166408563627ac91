import Derived.Test.YtjlicbdnppodgaaP12
namespace Go.Proofs.Ytjlicbdnppodgaa
open Go.RowKit
open Go.Maps (Keyed)
/-! The program: Inside. -/
/-- The memory that Inside lays behind edges. -/
structure InM (c : Cut) (piece : Int) (be b7 b3 : Nat) (W V : World) : Prop where
  ed : MapIs Try.prog 84 kv2 vvI be (edgO c) V
  rch : MapIs Try.prog 3 vvI vvB (W.heap.size + 1) (fun _ => none) V
  x7 : Bx V b7 [.int .i64 (greatS c + 1)]
  x8 : Bx V W.heap.size [.map (some be)]
  x3 : Bx V b3 [.int .i64 piece]
  x9 : Bx V (W.heap.size + 1 + 1) [.map (some (W.heap.size + 1))]
  x10 : Bx V (W.heap.size + 1 + 1 + 1) [.nilFunc]
  b : Below W.heap.size W V
theorem InM.made {c : Cut} {piece : Int} {be b7 b3 : Nat} {W : World} (he : MapIs Try.prog 84 kv2 vvI be (edgO c) W) (h7 : Bx W b7 [.int .i64 (greatS c + 1)]) (h3 : Bx W b3 [.int .i64 piece]) :
    InM c piece be b7 b3 W ((((W.alloc (.cells #[.map (some be)] 81)).alloc (.map #[] 0)).alloc (.cells #[.map (some (W.heap.size + 1))] 86)).alloc (.cells #[.nilFunc] 87)) := by
  have n0 := nxA W (.cells #[.map (some be)] 81)
  have y0 := Bx.new W #[.map (some be)] 81
  have s0 : (W.alloc (.cells #[.map (some be)] 81)).heap.size = W.heap.size + 1 := by simp
  generalize (W.alloc (.cells #[.map (some be)] 81)) = W0 at *
  have n1 := nxA W0 (.map #[] 0)
  have y1 := MapIs.made Try.prog 3 vvI vvB W0
  have s1 : (W0.alloc (.map #[] 0)).heap.size = W.heap.size + 1 + 1 := by simp [s0]
  generalize W0.alloc (.map #[] 0) = W1 at *
  have n2 := nxA W1 (.cells #[.map (some (W.heap.size + 1))] 86)
  have y2 := Bx.new W1 #[.map (some (W.heap.size + 1))] 86
  have s2 : (W1.alloc (.cells #[.map (some (W.heap.size + 1))] 86)).heap.size = W.heap.size + 1 + 1 + 1 := by simp [s1]
  generalize W1.alloc (.cells #[.map (some (W.heap.size + 1))] 86) = W2 at *
  have n3 := nxA W2 (.cells #[.nilFunc] 87)
  have y3 := Bx.new W2 #[.nilFunc] 87
  generalize W2.alloc (.cells #[.nilFunc] 87) = W3 at *
  rw [s0] at y1
  rw [s1] at y2
  rw [s2] at y3
  have hb := n0.trans ((n1.trans ((n2.trans (n3.mono n2.size)).mono n1.size)).mono n0.size)
  exact ⟨MapIs.next he hb, (MapIs.next (MapIs.next y1 n2) n3), h7.next hb, ((y0.next n1).next n2).next n3, h3.next hb, y2.next n3, y3, hb⟩
theorem InM.of {c : Cut} {piece : Int} {be b7 b3 : Nat} {W V : World} (h : InM c piece be b7 b3 W V) (hl : be < W.heap.size ∧ b7 < W.heap.size ∧ b3 < W.heap.size) : InW c piece be (W.heap.size + 1) b7 W.heap.size b3 (W.heap.size + 1 + 1) (W.heap.size + 1 + 1 + 1) (fun _ => false) (V.setCell ⟨W.heap.size + 1 + 1 + 1, 0, none⟩ (inV b7 W.heap.size b3 (W.heap.size + 1 + 1) (W.heap.size + 1 + 1 + 1))) ∧
    Below W.heap.size W (V.setCell ⟨W.heap.size + 1 + 1 + 1, 0, none⟩ (inV b7 W.heap.size b3 (W.heap.size + 1 + 1) (W.heap.size + 1 + 1 + 1))) := by
  obtain ⟨l1, l2, l3⟩ := hl
  refine ⟨⟨h.ed.of (blkSet (by omega) _ _), (h.rch.of (blkSet (by omega) _ _)).eq (fun p => by unfold rchI; rfl), h.x7.other (by omega) _ _, h.x8.other (by omega) _ _, h.x3.other (by omega) _ _, h.x9.other (by omega) _ _, ?_, by omega⟩, h.b.setCell (p := ⟨W.heap.size + 1 + 1 + 1, 0, none⟩) (by show W.heap.size ≤ W.heap.size + 1 + 1 + 1; omega) _⟩
  exact h.x10.set (k := 0) (by simp) _
/-- Between two rounds of the last loop. -/
structure RIs (c : Cut) (piece : Int) (be br b7 b8 b3 b9 b10 : Nat) (R : Int → Bool) (W0 W : World) (v : Value) (n : Nat) : Prop where
  hn : n ≤ (greatS c).toNat + 1
  own : W.ownsRow W0.heap.size 3 1 v (insTo c piece n).length ((insTo c piece n).flatMap icell)
  iw : InW c piece be br b7 b8 b3 b9 b10 R W
  b : Below W0.heap.size W0 W
theorem InW.next {c : Cut} {piece : Int} {be br b7 b8 b3 b9 b10 : Nat} {R : Int → Bool} {W W' : World} {row : Option Nat} (h : InW c piece be br b7 b8 b3 b9 b10 R W) (hg : W.grownBy W' row) (hr : ∀ q, row = some q → q ≠ be ∧ q ≠ br ∧ q ≠ b7 ∧ q ≠ b8 ∧ q ≠ b3 ∧ q ≠ b9 ∧ q ≠ b10) : InW c piece be br b7 b8 b3 b9 b10 R W' :=
  ⟨h.ed.grown hg (fun e => (hr _ e.symm).1 rfl), h.rch.grown hg (fun e => (hr _ e.symm).2.1 rfl), h.x7.gk hg (fun r e => Ne.symm (hr r e).2.2.1), h.x8.gk hg (fun r e => Ne.symm (hr r e).2.2.2.1), h.x3.gk hg (fun r e => Ne.symm (hr r e).2.2.2.2.1), h.x9.gk hg (fun r e => Ne.symm (hr r e).2.2.2.2.2.1), h.x10.gk hg (fun r e => Ne.symm (hr r e).2.2.2.2.2.2), h.ne⟩
set_option maxRecDepth 100000 in
set_option maxHeartbeats 2000000 in
theorem InsideP_any (c : Cut) (piece : Int) (w : World) (hp : I64 piece) (hr : CutAt w w.heap.size c) : Calls Try.prog 18 #[.agg #[.int .i64 c.wide, .int .i64 c.high, .slice c.A c.piece.length c.c], .int .i64 piece] w (RetIns c piece w) := by
  have hmm := @run_makeMap Try.prog
  obtain ⟨i0, hi, hz0, hz1, hz2⟩ := info_parts int_info
  have n1 := nxA w (.cells #[.int .i64 c.wide, .int .i64 c.high, .slice c.A c.piece.length c.c] 24)
  have n2 := nxA (w.alloc (.cells #[.int .i64 c.wide, .int .i64 c.high, .slice c.A c.piece.length c.c] 24)) (.cells #[.int .i64 piece] 3)
  have HX := Lib.hid ((Bx.new w #[.int .i64 c.wide, .int .i64 c.high, .slice c.A c.piece.length c.c] 24).next n2)
  have HX3 := Lib.hid (Bx.new (w.alloc (.cells #[.int .i64 c.wide, .int .i64 c.high, .slice c.A c.piece.length c.c] 24)) #[.int .i64 piece] 3)
  have HB := Lib.hid (n1.trans (n2.mono n1.size))
  have HR := Lib.hid (hr.next HB.out)
  simp only [World.size_alloc] at HX3
  have HP := Lib.hid hp
  clear hr hp n1 n2
  go_enter Try.func18, Try.ntmps18
  go_upto_region 1 with fail
  generalize (w.alloc (.cells #[.int .i64 c.wide, .int .i64 c.high, .slice c.A c.piece.length c.c] 24)).alloc (.cells #[.int .i64 piece] 3) = V at *
  have c0 := HX.out.c 0 _ rfl
  have c1 := HX.out.c 1 _ rfl
  have c2 := HX.out.c 2 _ rfl
  have d0 := HX3.out.c 0 _ rfl
  go_wp2_with fail
  refine (open_any c piece V HR.out).mono ?_
  rintro e W ⟨ho | ho, hb⟩
  · obtain ⟨h0, rfl⟩ := ho
    have HB2 := Lib.hid (HB.out.trans (hb.mono HB.out.size))
    have HL := Lib.hid (show insideL c piece = [] from by unfold insideL; rw [if_neg h0])
    have H0 := Lib.hid h0
    have e0 : (openE c piece == 0) = false := by simp [h0]
    clear h0 hb c0 c1 c2 d0
    generalize hx : openE c piece = x at *
    have HXX := Lib.hid hx
    clear hx
    go_wp2_with fail
    go_ret2
    have n1 := nxA W (.cells #[.int .i64 0, .int .i64 0, .slice none 0 0, .map none] 71)
    have n2 := nxA (W.alloc (.cells #[.int .i64 0, .int .i64 0, .slice none 0 0, .map none] 71)) (.cells #[.int .i64 0] 3)
    refine ⟨none, 0, by rw [HL.out, HXX.out]; rfl, by rw [HL.out]; exact At.nil, ?_⟩
    exact HB2.out.trans ((n1.trans (n2.mono n1.size)).mono HB2.out.size)
  · obtain ⟨h0, bm, rfl, hbm, hpic⟩ := ho
    have HG := Lib.hid (openE_good h0)
    have HB2 := Lib.hid (HB.out.trans (hb.mono HB.out.size))
    have HL := Lib.hid (show insideL c piece = insTo c piece ((greatS c).toNat + 1) from by unfold insideL; rw [if_pos h0])
    have H0 := Lib.hid h0
    have n1 := nxA W (.cells #[.int .i64 c.wide, .int .i64 c.high, .slice c.A c.piece.length c.c, .map (some (bm))] 71)
    have n2 := nxA (W.alloc (.cells #[.int .i64 c.wide, .int .i64 c.high, .slice c.A c.piece.length c.c, .map (some (bm))] 71)) (.cells #[.int .i64 (greatS c + 1)] 3)
    have HB12 := Lib.hid (n1.trans (n2.mono n1.size))
    have HXP := Lib.hid ((Bx.new W #[.int .i64 c.wide, .int .i64 c.high, .slice c.A c.piece.length c.c, .map (some (bm))] 71).next n2)
    have HX7 := Lib.hid (Bx.new (W.alloc (.cells #[.int .i64 c.wide, .int .i64 c.high, .slice c.A c.piece.length c.c, .map (some (bm))] 71)) #[.int .i64 (greatS c + 1)] 3)
    simp only [World.size_alloc] at HX7
    have HPM := Lib.hid (MapIs.next hpic HB12.out)
    have HX32 := Lib.hid ((HX3.out.next hb).next HB12.out)
    have HB3 := Lib.hid (HB2.out.trans (HB12.out.mono HB2.out.size))
    have hgr := great_bd HG.out.ok
    clear h0 hb c0 c1 c2 d0 hbm hpic n1 n2
    go_upto_region 2 with fail
    generalize (W.alloc (.cells #[.int .i64 c.wide, .int .i64 c.high, .slice c.A c.piece.length c.c, .map (some (bm))] 71)).alloc (.cells #[.int .i64 (greatS c + 1)] 3) = W1 at *
    have q0 := HXP.out.c 0 _ rfl
    have q1 := HXP.out.c 1 _ rfl
    have q2 := HXP.out.c 2 _ rfl
    have q3 := HXP.out.c 3 _ rfl
    go_wp2_with fail
    refine (edges_any c bm W1 HG.out.ok HPM.out).mono ?_
    rintro e W2 ⟨be, rfl, hbe, hme, hb2⟩
    have HBE := Lib.hid (HB3.out.trans (hb2.mono HB3.out.size))
    have HM := Lib.hid (InM.made hme (HX7.out.next hb2) (HX32.out.next hb2))
    have HLT := Lib.hid (show be < W2.heap.size ∧ W.heap.size + 1 < W2.heap.size ∧ w.heap.size + 1 < W2.heap.size from ⟨hme.lt, (HX7.out.next hb2).lt, (HX32.out.next hb2).lt⟩)
    clear hme hb2 hbe q0 q1 q2 q3
    go_upto_region 7 with fail
    generalize ((((W2.alloc (Obj.cells #[.map (some be)] 81)).alloc (Obj.map #[] 0)).alloc (Obj.cells #[.map (some (W2.heap.size + 1))] 86)).alloc (Obj.cells #[.nilFunc] 87)) = V5 at *
    clear hmm
    have c5 := HM.out.x10.c 0 _ rfl
    have f5 := HM.out.x10.fr 0
    have hst : (store ⟨W2.heap.size + 1 + 1 + 1, 0, none⟩ (inV (W.heap.size + 1) W2.heap.size (w.heap.size + 1) (W2.heap.size + 1 + 1) (W2.heap.size + 1 + 1 + 1))).run Try.prog V5 = .ok () (V5.setCell ⟨W2.heap.size + 1 + 1 + 1, 0, none⟩ (inV (W.heap.size + 1) W2.heap.size (w.heap.size + 1) (W2.heap.size + 1 + 1) (W2.heap.size + 1 + 1 + 1))) := by
      rw [run_store Try.prog V5 _ _ _ (by rfl)]
      simp [c5, f5]
    have hiw := HM.out.of ⟨HLT.out.1, HLT.out.2.1, HLT.out.2.2⟩
    unfold inV at hst hiw
    clear c5 f5
    go_upto_region 8 with fail
    clear hst
    obtain ⟨hiw, hb6⟩ := hiw
    generalize V5.setCell ⟨W2.heap.size + 1 + 1 + 1, 0, none⟩ (.func (.func 53) #[] #[.pointer (some ⟨W.heap.size + 1, 0, none⟩), .pointer (some ⟨W2.heap.size, 0, none⟩), .pointer (some ⟨w.heap.size + 1, 0, none⟩), .pointer (some ⟨W2.heap.size + 1 + 1, 0, none⟩), .pointer (some ⟨W2.heap.size + 1 + 1 + 1, 0, none⟩)]) = V6 at *
    have HIW := Lib.hid hiw
    have HB6 := Lib.hid (HBE.out.trans (hb6.mono HBE.out.size))
    obtain ⟨n2, hn2⟩ : ∃ n2, n2 = W2.heap.size := ⟨_, rfl⟩
    rw [← hn2] at HIW HLT ⊢
    have HN2 := Lib.hid (show w.heap.size ≤ n2 from by rw [hn2]; exact HBE.out.size)
    have c10 := HIW.out.x10.c 0 _ rfl
    unfold inV at c10
    clear hiw hb6 hn2 HM
    go_wp2_with fail
    refine (in1_any c HG.out.ok piece HP.out be (n2 + 1) (W.heap.size + 1) n2 (w.heap.size + 1) (n2 + 1 + 1) (n2 + 1 + 1 + 1) _ (-1) (fun _ => false) V6 (Nat.le_refl _) (by omega) HIW.out).mono ?_
    rintro e V7 ⟨⟨v', rfl⟩, R', hd, hI, hg7⟩
    have HD := Lib.hid (hd.all (by omega))
    have HB7 := Lib.hid (HB6.out.grown hg7 HB6.out.size (fun q e => by injection e with e; have := HN2.out; omega))
    have HI := Lib.hid hI
    have c7 := hI.x7.c 0 _ rfl
    clear hd hI hg7 c10
    go_wp2_with fail
    clear c7
    go_loopw [4, 29] (fun v iv wr => ∃ n : Nat, iv = .int .i64 n ∧ RIs c piece be (n2 + 1) (W.heap.size + 1) n2 (w.heap.size + 1) (n2 + 1 + 1) (n2 + 1 + 1 + 1) R' V7 wr v n) (fun _ iv _ => ((greatS c).toNat + 1) - (intOf iv).toNat)
    case atStart => exact ⟨0, rfl, by omega, World.ownsRow_nil _ _ _ _, HI.out, Below.refl _ _⟩
    case round =>
      obtain ⟨n, rfl, hr⟩ := hrel
      have hn := hr.hn
      have HR1 := Lib.hid hr
      by_cases hlt : n < (greatS c).toNat + 1
      · obtain ⟨l2, hl2⟩ := int_key (n : Int) (by omega)
        have hlr := (MapIs.look (p := (n : Int)) hr.iw.rch int_keyed' kvI_inj mapIB_und zero_bool hl2).1
        rw [show ((rchI R' (n : Int)).elim (vvB false) vvB) = .bool (R' (n : Int)) by unfold rchI; cases R' (n : Int) <;> rfl] at hlr
        unfold vvI at hlr
        have c3 := hr.iw.x3.c 0 _ rfl
        have c9 := hr.iw.x9.c 0 _ rfl
        have hown := hr.own
        have hlen := insTo_len c piece n
        have hrb : rchB c piece (n : Int) = R' (n : Int) := by rw [Bool.eq_iff_iff, rchB_iff, HD.out]
        have HADD := Lib.hid (fun h => insTo_add (c := c) (piece := piece) (n := n) h)
        have HSK := Lib.hid (fun h => insTo_skip (c := c) (piece := piece) (n := n) h)
        rw [hrb] at HADD HSK
        have HSKIP := Lib.hid (fun (h : ¬ ((n : Int) ≠ piece ∧ R' (n : Int) = false)) => (show RIs c piece be (n2 + 1) (W.heap.size + 1) n2 (w.heap.size + 1) (n2 + 1 + 1) (n2 + 1 + 1 + 1) R' V7 wr _ (n + 1) from ⟨by omega, by rw [HSK.out h]; exact hr.own, hr.iw, hr.b⟩))
        have hnlt : (n : Int) < greatS c + 1 := by omega
        clear hr hl2 hrb
        by_cases h2 : (n : Int) = piece
        · have e2 : ((n : Int) == piece) = true := by simp [h2]
          have e3 : ((n : Int) != piece) = false := by simp [h2]
          have HF := Lib.hid (HSKIP.out (fun h => h.1 h2))
          clear h2 hown HADD
          go_wp2_with fail
          exact ⟨⟨n + 1, by go_num, HF.out⟩, by simp [intOf]; omega⟩
        · have e2 : ((n : Int) == piece) = false := by simp [h2]
          have e3 : ((n : Int) != piece) = true := by simp [h2]
          cases hR : R' (n : Int)
          · rw [hR] at hlr
            have HS := Lib.hid (HADD.out ⟨h2, hR⟩)
            clear hR HADD HSK HSKIP
            go_wp2_with (at_builtin; refine wpList_append_own _ rfl (.tmp 41) (.tmp 43) 22 rfl V7.heap.size 3 i0 (.int .i64 0) 1 8 Try.underlying22 hi hz0 hz1 hz2 rfl (by decide) _ _ _ rfl (hown.alloc _) ⟨wr.heap.size, 0, none⟩ 1 1 [.int .i64 (n : Int)] rfl rfl (cell_one_new _ _ _) (by simp [Value.oneCell']) (by unfold maxLen; omega) (by omega) (by have := HR1.out.b.size; simp; omega) ?_; intro v2 w2 hown' hgrow _)
            have hlo := hown.lt
            have hz1' := HR1.out.b.size
            have hl := HI.out
            have g1 := World.grownBy_alloc wr (.cells #[.int .i64 (n : Int)] 3) none
            have bs : be < V7.heap.size ∧ n2 + 1 < V7.heap.size ∧ W.heap.size + 1 < V7.heap.size ∧ n2 < V7.heap.size ∧ w.heap.size + 1 < V7.heap.size ∧ n2 + 1 + 1 < V7.heap.size ∧ n2 + 1 + 1 + 1 < V7.heap.size := ⟨hl.ed.lt, hl.rch.lt, hl.x7.lt, hl.x8.lt, hl.x3.lt, hl.x9.lt, hl.x10.lt⟩
            have hfin : RIs c piece be (n2 + 1) (W.heap.size + 1) n2 (w.heap.size + 1) (n2 + 1 + 1) (n2 + 1 + 1 + 1) R' V7 w2 v2 (n + 1) := ⟨by omega, by rw [HS.out, List.length_append, List.flatMap_append]; exact hown', (HR1.out.iw.next g1 (fun q e => by cases e)).next hgrow (fun q e => by have := hlo q e; omega), (HR1.out.b.alloc HR1.out.b.size _).grown hgrow (by simp; omega) (fun k hk => by have := hlo k hk; omega)⟩
            have HF := Lib.hid hfin
            clear hfin hlo hl g1 bs hgrow hown' hown
            go_wp2_with fail
            exact ⟨⟨n + 1, by go_num, HF.out⟩, by simp [intOf]; omega⟩
          · rw [hR] at hlr
            have HF := Lib.hid (HSKIP.out (fun h => by rw [hR] at h; cases h.2))
            clear hR h2 hown HADD
            go_wp2_with fail
            exact ⟨⟨n + 1, by go_num, HF.out⟩, by simp [intOf]; omega⟩
      · obtain rfl : n = (greatS c).toNat + 1 := by omega
        have hnlt : ¬ ((((greatS c).toNat + 1 : Nat)) : Int) < greatS c + 1 := by omega
        obtain ⟨nz, hnz⟩ : ∃ nz : Int, nz = ((((greatS c).toNat + 1 : Nat)) : Int) := ⟨_, rfl⟩
        rw [← hnz] at hnlt ⊢
        clear hr hnz
        go_wp2_with fail
        go_ret2
        obtain ⟨A, cap, rfl, hA⟩ := own_at (cells := icell) (size := 1) (fun _ => rfl) (by omega) HR1.out.own
        exact ⟨A, cap, by rw [HL.out, H0.out]; rfl, by rw [HL.out]; exact hA, HB7.out.trans (HR1.out.b.mono HB7.out.size)⟩
end Go.Proofs.Ytjlicbdnppodgaa
