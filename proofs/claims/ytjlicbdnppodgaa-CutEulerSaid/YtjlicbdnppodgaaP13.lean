import Derived.Test.YtjlicbdnppodgaaP10
import Derived.Test.YtjlicbdnppodgaaP9
import Derived.Test.YtjlicbdnppodgaaSym
import Derived.Maps.AppendAt
namespace Go.Proofs.Ytjlicbdnppodgaa
open Go.RowKit
/-! Two pieces made one: plain words; slices.Clone. -/
/-- The number of a piece behind the joining. -/
def jn (lo hi k : Int) : Int := if k = hi then lo else if hi < k then k - 1 else k
noncomputable def joinE (c : Cut) (a b : Int) : Int := if openE c a ≠ 0 then openE c a else if inS b 0 (greatS c) = false ∨ a = b then 2 else if edgesR c b a = 0 then 6 else 0
noncomputable def joinP (c : Cut) (a b : Int) : List Int := if joinE c a b = 0 then c.piece.map (jn (min a b) (max a b)) else []
noncomputable def joinS (c : Cut) (a b : Int) (A : Option Addr) (cap : Nat) : Cut := ⟨if joinE c a b = 0 then c.wide else 0, if joinE c a b = 0 then c.high else 0, joinP c a b, A, cap⟩
def RetJoin (c : Cut) (a b : Int) (w : World) (e : Ending) (w' : World) : Prop := ∃ (j : Cut) (A : Option Addr) (cap : Nat), j = joinS c a b A cap ∧ e = .returned (.tuple #[.agg #[.int .i64 j.wide, .int .i64 j.high, .slice j.A j.piece.length j.c], .int .i64 (joinE c a b)]) ∧ CutAt w' w'.heap.size j ∧ Below w.heap.size w w'
theorem own_iblk {w : World} {base : Nat} {e : TypeId} {v : Value} {l : List Int} (hn : 0 < l.length) (h : w.ownsRow base e 1 v l.length (l.map (Value.int .i64))) :
    ∃ g c, v = .slice (some ⟨g, 0, none⟩) l.length c ∧ l.length ≤ c ∧ base ≤ g ∧ IBlk w g l.length (fun j => l.getD j 0) := by
  obtain ⟨g, cap, rfl, hb, hlt⟩ := h.form hn
  rcases h.2 with ⟨e1, _⟩ | ⟨g', cap', cur, e1, _, hh, hnc, _⟩
  · cases e1
  · injection e1 with e1 _ e2
    injection e1 with e1
    injection e1 with e1
    subst e1 e2
    refine ⟨g, cap, rfl, hnc, hb, hlt, fun j hj => ?_, fun j => h.frozenAt j⟩
    rw [h.cellAt j (by simpa using hj), List.getElem?_map, List.getElem?_eq_getElem hj, getD_get hj]; rfl
def RetC (l : List Int) (w : World) (e : Ending) (w' : World) : Prop := ∃ g cap, e = .returned (.slice (some ⟨g, 0, none⟩) l.length cap) ∧ w.heap.size ≤ g ∧ IBlk w' g l.length (fun j => l.getD j 0) ∧ Below w.heap.size w w'
set_option maxHeartbeats 400000 in
theorem clone_any (b off c : Nat) (l : List Int) (w : World) (hn : 0 < l.length ∧ l.length ≤ 1000) (h : At w w.heap.size 1 icell (some ⟨b, off, none⟩) l) :
    Calls Try.prog 60 #[.slice (some ⟨b, off, none⟩) l.length c] w (RetC l w) := by
  obtain ⟨i0, hi, hz0, hz1, hz2⟩ := info_parts int_info
  have hnil := fun W => Lib.run_eql_slice_nil (P := Try.prog) W 22 3 (some ⟨b, off, none⟩) l.length c 0 0 Try.underlying22
  have hown := World.ownsRow_lit (base := w.heap.size) (e := 3) (size := 1) w #[] 0 (Nat.le_refl _) (by decide) rfl
  have hic : ∀ l : List Int, l.flatMap icell = l.map (Value.int .i64) := fun l => by
    induction l with
    | nil => rfl
    | cons x l ih => rw [List.flatMap_cons, ih]; rfl
  have hnews := At.news (cells := icell) (size := 1) (fun _ => rfl) (h.below (nxA w (.cells #[] 3)))
  rw [hic] at hnews
  clear h
  go_enter Try.func60, Try.ntmps60
  go_wp2_with (at_builtin; refine wpList_append_own _ rfl (.tmp 5) (.tmp 6) 22 rfl w.heap.size 3 i0 (.int .i64 0) 1 8 Try.underlying22 hi hz0 hz1 hz2 rfl (by decide) _ 0 [] rfl hown ⟨b, off, none⟩ l.length c (l.map (Value.int .i64)) rfl (by simp) hnews (by simp [Value.oneCell']) (by unfold maxLen; omega) (by omega) (by simp) ?_; intro v' w' hown' hgrow _)
  have hown2 : w'.ownsRow w.heap.size 3 1 v' l.length (l.map (Value.int .i64)) := by simpa using hown'
  have hbb : Below w.heap.size w w' := ((Below.refl _ _).alloc (Nat.le_refl _) _).grown hgrow (by simp) (fun k hk => by have := hown.lt k hk; omega)
  clear hown hown' hgrow hnews hnil
  go_wp2
  go_ret
  obtain ⟨g, cc, rfl, h1, h2, h3⟩ := own_iblk hn.1 hown2
  exact ⟨g, cc, rfl, h2, h3, hbb⟩
/-! The program: Join. -/
structure RJ (c : Cut) (g go : Nat) (cap : Nat) (lo hi : Int) (W0 W : World) (i : Nat) : Prop where
  hl : i ≤ c.piece.length
  bl : IBlk W g c.piece.length (fun j => if j < i then jn lo hi (c.piece.getD j 0) else c.piece.getD j 0)
  ox : Bx W go [.int .i64 c.wide, .int .i64 c.high, .slice (some ⟨g, 0, none⟩) c.piece.length cap]
  b : Below W0.heap.size W0 W
theorem loadC {w : World} {b : Nat} {a0 a1 a2 : Value} (h : Bx w b [a0, a1, a2]) : (loadVar 24 ⟨b, 0, none⟩).run Try.prog w = .ok (.agg #[a0, a1, a2]) w := by
  have c0 := h.c 0 _ rfl
  have c1 := h.c 1 _ rfl
  have c2 := h.c 2 _ rfl
  clear h
  go_simp
theorem join_none {c : Cut} {a b x : Int} {w w' : World} (h : joinE c a b = x) (hx : x ≠ 0) (hb : Below w.heap.size w w') : RetJoin c a b w (.returned (.tuple #[.agg #[.int .i64 0, .int .i64 0, .slice none 0 0], .int .i64 x])) w' := by
  have h0 : joinE c a b ≠ 0 := by rw [h]; exact hx
  refine ⟨_, none, 0, rfl, ?_, ⟨?_, ?_⟩, hb⟩
  · unfold joinS joinP
    rw [if_neg h0, if_neg h0, if_neg h0, h]; rfl
  · show At w' w'.heap.size 1 icell none (joinP c a b)
    rw [show joinP c a b = [] from by unfold joinP; rw [if_neg h0]]
    exact At.nil
  · show (joinP c a b).length ≤ 9223372036854775807
    rw [show joinP c a b = [] from by unfold joinP; rw [if_neg h0]]
    decide
theorem join_good {c : Cut} {a b lo hi : Int} {w w' : World} {g cap : Nat} (h : joinE c a b = 0) (hp : joinP c a b = c.piece.map (jn lo hi)) (hl : c.piece.length ≤ 1000) (bl : IBlk w' g c.piece.length (fun j => if j < c.piece.length then jn lo hi (c.piece.getD j 0) else c.piece.getD j 0)) (hb : Below w.heap.size w w') :
    RetJoin c a b w (.returned (.tuple #[.agg #[.int .i64 c.wide, .int .i64 c.high, .slice (some ⟨g, 0, none⟩) c.piece.length cap], .int .i64 0])) w' := by
  refine ⟨_, some ⟨g, 0, none⟩, cap, rfl, ?_, ⟨?_, ?_⟩, hb⟩
  · unfold joinS
    simp only [h, if_true, hp, List.length_map]
  · show At w' w'.heap.size 1 icell (some ⟨g, 0, none⟩) (joinP c a b)
    rw [hp]
    intro k x hx
    have hk : k < c.piece.length := by have := (List.getElem?_eq_some_iff.1 hx).1; simpa using this
    refine ⟨g, 0, rfl, bl.lt, fun j u hu => ?_⟩
    unfold icell at hu
    match j, hu with
    | 0, hu =>
      injection hu with hu
      rw [← hu, Nat.mul_one, Nat.zero_add, Nat.add_zero]
      have := bl.cell k hk
      rw [if_pos hk] at this
      rw [this]
      rw [List.getElem?_map, List.getElem?_eq_getElem hk] at hx
      injection hx with hx
      rw [← hx, getD_get hk]
  · show (joinP c a b).length ≤ 9223372036854775807
    rw [hp, List.length_map]; omega
set_option maxRecDepth 100000 in
set_option maxHeartbeats 4000000 in
theorem JoinP_any (c : Cut) (a b : Int) (w : World) (ha : I64 a) (hb : I64 b) (hr : CutAt w w.heap.size c) : Calls Try.prog 27 #[.agg #[.int .i64 c.wide, .int .i64 c.high, .slice c.A c.piece.length c.c], .int .i64 a, .int .i64 b] w (RetJoin c a b w) := by
  have n1 := nxA w (.cells #[.int .i64 c.wide, .int .i64 c.high, .slice c.A c.piece.length c.c] 24)
  have n2 := nxA (w.alloc (.cells #[.int .i64 c.wide, .int .i64 c.high, .slice c.A c.piece.length c.c] 24)) (.cells #[.int .i64 0, .int .i64 0, .slice none 0 0] 24)
  have HX0 := Lib.hid ((Bx.new w #[.int .i64 c.wide, .int .i64 c.high, .slice c.A c.piece.length c.c] 24).next n2)
  have HY0 := Lib.hid (Bx.new (w.alloc (.cells #[.int .i64 c.wide, .int .i64 c.high, .slice c.A c.piece.length c.c] 24)) #[.int .i64 0, .int .i64 0, .slice none 0 0] 24)
  have HB0 := Lib.hid (n1.trans (n2.mono n1.size))
  have HR0 := Lib.hid (hr.next HB0.out)
  simp only [World.size_alloc] at HY0
  have HJ := Lib.hid (show joinE c a b = if openE c a ≠ 0 then openE c a else if inS b 0 (greatS c) = false ∨ a = b then 2 else if edgesR c b a = 0 then 6 else 0 from rfl)
  have HIa := Lib.hid ha
  have HIb := Lib.hid hb
  clear hr n1 n2 ha hb
  go_enter Try.func27, Try.ntmps27
  go_upto_region 1 with fail
  generalize (w.alloc (.cells #[.int .i64 c.wide, .int .i64 c.high, .slice c.A c.piece.length c.c] 24)).alloc (.cells #[.int .i64 0, .int .i64 0, .slice none 0 0] 24) = V at *
  have c0 := HX0.out.c 0 _ rfl
  have c1 := HX0.out.c 1 _ rfl
  have c2 := HX0.out.c 2 _ rfl
  go_wp2_with fail
  refine (open_any c a V HR0.out).mono ?_
  rintro e W ⟨ho, hbw⟩
  clear c0 c1 c2
  have HXw := Lib.hid (HX0.out.next hbw)
  have HYw := Lib.hid (HY0.out.next hbw)
  have HRw := Lib.hid (HR0.out.next hbw)
  have HBw := Lib.hid (HB0.out.trans (hbw.mono HB0.out.size))
  clear HX0 HY0 HR0 HB0 hbw
  rcases ho with ho | ho
  · obtain ⟨h0, rfl⟩ := ho
    have hn := nxA W (.cells #[.int .i64 0, .int .i64 0, .slice none 0 0, .map none] 71)
    have HX := Lib.hid (HXw.out.next hn)
    have HY := Lib.hid (HYw.out.next hn)
    have HB := Lib.hid (HBw.out.trans (hn.mono HBw.out.size))
    have HE := Lib.hid (show joinE c a b = openE c a from by rw [HJ.out, if_pos h0])
    have e0 : (openE c a == 0) = false := by simp [h0]
    have H0 := Lib.hid h0
    have f0 := HY.out.fr 0
    have f1 := HY.out.fr 1
    have f2 := HY.out.fr 2
    have d0 := HY.out.c 0 _ rfl
    have d1 := HY.out.c 1 _ rfl
    have d2 := HY.out.c 2 _ rfl
    have HRES := Lib.hid (loadC (HY.out.setAll [.int .i64 0, .int .i64 0, .slice none 0 0] rfl))
    have HBS := Lib.hid (below_setCells (b := w.heap.size + 1) (B := w.heap.size) (by omega) [.int .i64 0, .int .i64 0, .slice none 0 0] 0 HB.out)
    clear h0 hn HXw HYw HRw HBw
    generalize openE c a = x at *
    go_wp2_with fail
    ((try simp only [Exit.inBlock, Exit.then]); refine bodyPost_ret (results_cellA rfl rfl HRES.out) rfl ?_)
    exact join_none HE.out H0.out HBS.out
  · obtain ⟨h0, bm, rfl, hbm, hpic⟩ := ho
    have HG := Lib.hid (openE_good h0)
    have hn := nxA W (.cells #[.int .i64 c.wide, .int .i64 c.high, .slice c.A c.piece.length c.c, .map (some (bm))] 71)
    have HX := Lib.hid (HXw.out.next hn)
    have HY := Lib.hid (HYw.out.next hn)
    have HR := Lib.hid (HRw.out.next hn)
    have HB := Lib.hid (HBw.out.trans (hn.mono HBw.out.size))
    have HXP := Lib.hid (Bx.new W #[.int .i64 c.wide, .int .i64 c.high, .slice c.A c.piece.length c.c, .map (some (bm))] 71)
    have HPM := Lib.hid (MapIs.next hpic hn)
    have hgr := great_bd HG.out.ok
    have HE0 := Lib.hid (show joinE c a b = if inS b 0 (greatS c) = false ∨ a = b then 2 else if edgesR c b a = 0 then 6 else 0 from by rw [HJ.out, if_neg (by rw [h0]; decide)])
    have hw1 : IntKind.i64.wrap (greatS c + 1 - 1) = greatS c := by rw [Int.add_sub_cancel]; exact IntWalk.i64_in _ (by omega)
    have hw2 : IntKind.i64.wrap (greatS c) = greatS c := IntWalk.i64_in _ (by omega)
    obtain ⟨ga, hga⟩ : ∃ ga, ga = W.heap.size := ⟨_, rfl⟩
    rw [← hga] at HXP
    have HGA := Lib.hid (show w.heap.size + 1 < ga from by rw [hga]; exact HYw.out.lt)
    clear h0 hbm hpic hn HXw HYw HRw HBw HJ
    go_upto_region 2 with fail
    rw [← hga]
    clear hga
    generalize W.alloc (.cells #[.int .i64 c.wide, .int .i64 c.high, .slice c.A c.piece.length c.c, .map (some (bm))] 71) = W1 at *
    by_cases h2 : inS b 0 (greatS c) = false ∨ a = b
    · have HE := Lib.hid (show joinE c a b = 2 from by rw [HE0.out, if_pos h2])
      have f0 := HY.out.fr 0
      have f1 := HY.out.fr 1
      have f2 := HY.out.fr 2
      have d0 := HY.out.c 0 _ rfl
      have d1 := HY.out.c 1 _ rfl
      have d2 := HY.out.c 2 _ rfl
      have HRES := Lib.hid (loadC (HY.out.setAll [.int .i64 0, .int .i64 0, .slice none 0 0] rfl))
      have HBS := Lib.hid (below_setCells (b := w.heap.size + 1) (B := w.heap.size) (by omega) [.int .i64 0, .int .i64 0, .slice none 0 0] 0 HB.out)
      cases h3 : inS b 0 (greatS c)
      · clear h2
        go_wp2_with (go_at_call 59; (with_reducible refine (within_any _ _ _ _).mono ?_); rintro e w' ⟨rfl, rfl⟩)
        ((try simp only [Exit.inBlock, Exit.then]); refine bodyPost_ret (results_cellA rfl rfl HRES.out) rfl ?_)
        exact join_none HE.out (by decide) HBS.out
      · have h4 : a = b := h2.resolve_left (by rw [h3]; simp)
        have e4 : (a == b) = true := by simp [h4]
        clear h2
        go_wp2_with (go_at_call 59; (with_reducible refine (within_any _ _ _ _).mono ?_); rintro e w' ⟨rfl, rfl⟩)
        ((try simp only [Exit.inBlock, Exit.then]); refine bodyPost_ret (results_cellA rfl rfl HRES.out) rfl ?_)
        exact join_none HE.out (by decide) HBS.out
    · have h3 : inS b 0 (greatS c) = true := by
        cases h3 : inS b 0 (greatS c) with
        | true => rfl
        | false => exact absurd (.inl h3) h2
      have h4 : a ≠ b := fun h => h2 (.inr h)
      have e4 : (a == b) = false := by simp [h4]
      have HE1 := Lib.hid (show joinE c a b = if edgesR c b a = 0 then 6 else 0 from by rw [HE0.out, if_neg h2])
      have HNE := Lib.hid h4
      have q0 := HXP.out.c 0 _ rfl
      have q1 := HXP.out.c 1 _ rfl
      have q2 := HXP.out.c 2 _ rfl
      have q3 := HXP.out.c 3 _ rfl
      clear h2 h4 HE0
      go_wp2_with (go_at_call 59; (with_reducible refine (within_any _ _ _ _).mono ?_); rintro e w' ⟨rfl, rfl⟩)
      refine (edges_any c bm W1 HG.out.ok HPM.out).mono ?_
      rintro e W2 ⟨be, rfl, hbe, hme, hb2⟩
      obtain ⟨l, hl⟩ := pair_key a b HIa.out HIb.out
      have hlk := (MapIs.look (p := ((a, b) : Pt)) hme pair_keyed kv2_inj mapP_und zero_int hl).1
      have hg0 := edgO_get c (a, b)
      dsimp only at hg0
      rw [if_pos HNE.out] at hg0
      rw [show ((edgO c (a, b)).elim (vvI 0) vvI) = .int .i64 ((edgO c (a, b)).getD 0) by cases edgO c (a, b) <;> rfl, hg0] at hlk
      unfold kv2 at hlk
      have HX2 := Lib.hid (HX.out.next hb2)
      have HY2 := Lib.hid (HY.out.next hb2)
      have HR2 := Lib.hid (HR.out.next hb2)
      have HB2 := Lib.hid (HB.out.trans (hb2.mono HB.out.size))
      clear hme hb2 hbe hl hg0 q0 q1 q2 q3 HX HY HR HB HXP HPM
      by_cases h5 : edgesR c b a = 0
      · have HE := Lib.hid (show joinE c a b = 6 from by rw [HE1.out, if_pos h5])
        rw [h5] at hlk
        have f0 := HY2.out.fr 0
        have f1 := HY2.out.fr 1
        have f2 := HY2.out.fr 2
        have d0 := HY2.out.c 0 _ rfl
        have d1 := HY2.out.c 1 _ rfl
        have d2 := HY2.out.c 2 _ rfl
        have HRES := Lib.hid (loadC (HY2.out.setAll [.int .i64 0, .int .i64 0, .slice none 0 0] rfl))
        have HBS := Lib.hid (below_setCells (b := w.heap.size + 1) (B := w.heap.size) (by omega) [.int .i64 0, .int .i64 0, .slice none 0 0] 0 HB2.out)
        clear h5
        go_wp2_with fail
        ((try simp only [Exit.inBlock, Exit.then]); refine bodyPost_ret (results_cellA rfl rfl HRES.out) rfl ?_)
        exact join_none HE.out (by decide) HBS.out
      · have HE := Lib.hid (show joinE c a b = 0 from by rw [HE1.out, if_neg h5])
        have e5 : (edgesR c b a == 0) = false := by simp [h5]
        clear h5 HE1
        generalize edgesR c b a = ev at *
        go_upto_region 8 with fail
        clear hlk e5
        go_cut [1, 2] (fun s1 s2 wx => s1 = .int .i64 (min a b) ∧ s2 = .int .i64 (max a b) ∧ wx = W2)
        case first =>
          rcases Int.lt_or_gt_of_ne HNE.out with h | h
          · have m1 := Lib.hid (show min a b = a by omega)
            have m2 := Lib.hid (show max a b = b by omega)
            go_wp2_with fail
            go_meet
            exact ⟨by rw [m1.out], by rw [m2.out], rfl⟩
          · have m1 := Lib.hid (show min a b = b by omega)
            have m2 := Lib.hid (show max a b = a by omega)
            go_wp2_with fail
            go_meet
            exact ⟨by rw [m1.out], by rw [m2.out], rfl⟩
        case rest =>
          obtain ⟨rfl, rfl, rfl⟩ := hcut
          generalize wc = W3 at *
          have hbi : 0 ≤ b ∧ b ≤ greatS c := by unfold inS at h3; simpa using h3
          have hai := HG.out.pc
          have hne := HNE.out
          obtain ⟨lo, hlo⟩ : ∃ lo, lo = min a b := ⟨_, rfl⟩
          obtain ⟨hi, hhi⟩ : ∃ hi, hi = max a b := ⟨_, rfl⟩
          have hlh : 0 ≤ lo ∧ lo < hi ∧ hi ≤ 39 := by omega
          have HLO := Lib.hid (show joinP c a b = c.piece.map (jn lo hi) from by unfold joinP; rw [if_pos HE.out, hlo, hhi])
          rw [← hlo, ← hhi]
          have hpos : 0 < c.piece.length := by
            have := Int.mul_le_mul HG.out.ok.w.1 HG.out.ok.h.1 (by omega) (by have := HG.out.ok.w; omega)
            have := HG.out.ok.len
            omega
          have hlen : c.piece.length ≤ 144 := by
            have := HG.out.ok.w
            have := HG.out.ok.h
            have := Int.mul_le_mul HG.out.ok.w.2 HG.out.ok.h.2 (show (0 : Int) ≤ c.high by omega) (show (0 : Int) ≤ 12 by omega)
            have := HG.out.ok.len
            omega
          have HCL := Lib.hid (show ∀ W : World, Below W3.heap.size W3 W → Calls Try.prog 60 #[.slice c.A c.piece.length c.c] W (RetC c.piece W) from fun W h => by
            obtain ⟨pb, off, eA, -⟩ := int_at (HR2.out.next h).pa hpos
            have h6 := (HR2.out.next h).pa
            rw [eA] at h6 ⊢
            exact clone_any pb off c.c c.piece W ⟨hpos, by omega⟩ h6)
          have HC := Lib.hid (show ∀ W : World, Below W3.heap.size W3 W → (W.cell? ⟨w.heap.size, 0, none⟩ = some (.int .i64 c.wide) ∧ W.cell? ⟨w.heap.size, 1, none⟩ = some (.int .i64 c.high) ∧ W.cell? ⟨w.heap.size, 2, none⟩ = some (.slice c.A c.piece.length c.c)) from fun W h => ⟨(HX2.out.next h).c 0 _ rfl, (HX2.out.next h).c 1 _ rfl, (HX2.out.next h).c 2 _ rfl⟩)
          have hc : Below W3.heap.size W3 W3.drew := (Below.refl _ _).drew
          clear hlo hhi hai hbi hne h3 e4
          go_upto_region 9 with fail
          go_cut [11] (fun s11 wx => ∃ (go g cap : Nat), s11 = .pointer (some ⟨go, 0, none⟩) ∧ Bx wx go [.int .i64 c.wide, .int .i64 c.high, .slice (some ⟨g, 0, none⟩) c.piece.length cap] ∧ IBlk wx g c.piece.length (fun j => c.piece.getD j 0) ∧ Below W3.heap.size W3 wx ∧ go ≠ g ∧ W3.heap.size ≤ go ∧ W3.heap.size ≤ g)
          case first =>
            refine wp_region_noPanic ?_
            refine wp_region_held_drew (S := (fun W => W.cell? ⟨w.heap.size, 0, none⟩ = some (.int .i64 c.wide) ∧ W.cell? ⟨w.heap.size, 1, none⟩ = some (.int .i64 c.high) ∧ W.cell? ⟨w.heap.size, 2, none⟩ = some (.slice c.A c.piece.length c.c))) (by kernel_rfl) ?_ (fun hHeld => ?_)
            · (try dsimp only); exact HC.out _ hc
            refine htake (i := 0) (v := ?v1) rfl (by kernel_rfl) (by kernel_rfl) (by kernel_rfl) (fun _ _ _ h => h) (Or.inl ⟨by rfl, ?hy1⟩) (by assumption) ?_
            case hy1 => (intro w hSw; (try dsimp only at hSw); go_simp; try (with_reducible rfl))
            try simp only [Act.put, List.setIfInBounds_toArray, List.set_cons_zero, List.set_cons_succ]
            refine htake (i := 1) (v := ?v2) rfl (by kernel_rfl) (by kernel_rfl) (by kernel_rfl) (fun _ _ _ h => h) (Or.inl ⟨by rfl, ?hy2⟩) (by assumption) ?_
            case hy2 => (intro w hSw; (try dsimp only at hSw); go_simp; try (with_reducible rfl))
            try simp only [Act.put, List.setIfInBounds_toArray, List.set_cons_zero, List.set_cons_succ]
            refine htake (i := 2) (v := ?v3) rfl (by kernel_rfl) (by kernel_rfl) (by kernel_rfl) (fun _ _ _ h => h) (Or.inl ⟨by rfl, ?hy3⟩) (by assumption) ?_
            case hy3 => (intro w hSw; (try dsimp only at hSw); go_simp; try (with_reducible rfl))
            try simp only [Act.put, List.setIfInBounds_toArray, List.set_cons_zero, List.set_cons_succ]
            refine htake (i := 3) (v := ?v4) rfl (by kernel_rfl) (by kernel_rfl) (by kernel_rfl) (fun _ _ _ h => h) (Or.inl ⟨by rfl, ?hy4⟩) (by assumption) ?_
            case hy4 => (intro w hSw; (try dsimp only at hSw); go_simp; try (with_reducible rfl))
            try simp only [Act.put, List.setIfInBounds_toArray, List.set_cons_zero, List.set_cons_succ]
            refine htake (i := 4) (v := ?v5) rfl (by kernel_rfl) (by kernel_rfl) (by kernel_rfl) (fun _ _ _ h => h) (Or.inl ⟨by rfl, ?hy5⟩) (by assumption) ?_
            case hy5 => (intro w hSw; (try dsimp only at hSw); go_simp; try (with_reducible rfl))
            try simp only [Act.put, List.setIfInBounds_toArray, List.set_cons_zero, List.set_cons_succ]
            refine htake (i := 5) (v := ?v6) rfl (by kernel_rfl) (by kernel_rfl) (by kernel_rfl) (fun _ _ _ h => h) (Or.inl ⟨by rfl, ?hy6⟩) (by assumption) ?_
            case hy6 => (intro w hSw; (try dsimp only at hSw); go_simp; try (with_reducible rfl))
            try simp only [Act.put, List.setIfInBounds_toArray, List.set_cons_zero, List.set_cons_succ]
            refine wpAnyH_ready (rs := [6, 8]) (by kernel_rfl) (by simp) ?_
            refine hcons rfl (fun K hK => ?_) (hcons rfl (fun K hK => ?_) (AllReadyH.nil))
            go_simp
            (first | with_reducible refine (HCL.out _ hc).mono ?_ | refine (HCL.out _ hc).mono ?_); rintro e w4 ⟨g, cap, rfl, hgb, hbl, hb4⟩; have HBL := Lib.hid hbl; have hg4 := Nat.le_trans hc.size hgb; have HGB := Lib.hid hgb; replace hc := hc.trans (hb4.mono hc.size); (try replace SX := Lib.hid (SX.out.next hb4)); clear hb4 hbl hgb
            refine hK.out _ _ ?_ (fun hHeld => ?_)
            · (try dsimp only); exact HC.out _ hc
            clear hK K
            try simp only [Act.put, List.setIfInBounds_toArray, List.set_cons_zero, List.set_cons_succ]
            refine htake (i := 7) (v := ?v7) rfl (by kernel_rfl) (by kernel_rfl) (by kernel_rfl) (fun _ _ _ h => h) (Or.inl ⟨by rfl, ?hy7⟩) (by assumption) ?_
            case hy7 => (intro w hSw; (try dsimp only at hSw); go_simp; try (with_reducible rfl))
            try simp only [Act.put, List.setIfInBounds_toArray, List.set_cons_zero, List.set_cons_succ]
            refine wpAnyH_ready (rs := [8]) (by kernel_rfl) (by simp) ?_
            refine hcons rfl (fun K hK => ?_) (AllReadyH.nil)
            go_simp
            have hbx := hc.size; have hc0 := Lib.hid hc; (try have HBL0 := Lib.hid HBL.out); have SX := Lib.hid (bxOf hc #[.int .i64 0, .int .i64 0, .slice none 0 0] 24); (try replace HBL := Lib.hid (HBL.out.next (nxA _ (.cells #[.int .i64 0, .int .i64 0, .slice none 0 0] 24)))); replace hc := hc.alloc hc.size (.cells #[.int .i64 0, .int .i64 0, .slice none 0 0] 24)
            refine hK.out _ _ ?_ (fun hHeld => ?_)
            · (try dsimp only); exact HC.out _ hc
            clear hK K
            try simp only [Act.put, List.setIfInBounds_toArray, List.set_cons_zero, List.set_cons_succ]
            refine wpAnyH_ready (rs := [9]) (by kernel_rfl) (by simp) ?_
            refine hcons rfl (fun K hK => ?_) (AllReadyH.nil)
            (try rw [show W3.drew.heap.size = W3.heap.size from rfl] at SX); (try rw [show W3.drew.heap.size = W3.heap.size from rfl] at hbx); have z0 := SX.out.c 0 _ rfl; have z1 := SX.out.c 1 _ rfl; have z2 := SX.out.c 2 _ rfl; have y0 := SX.out.fr 0; have y1 := SX.out.fr 1; have y2 := SX.out.fr 2; go_simp
            refine hK.out _ _ ?_ (fun hHeld => ?_)
            · (try dsimp only); first | exact HC.out _ (hc0.out.alloc hc0.out.size _) | exact HC.out _ (below_setCells hbx [.int .i64 c.wide, .int .i64 c.high, .slice (some ⟨g, 0, none⟩) c.piece.length cap] 0 hc)
            clear hK K
            try simp only [Act.put]
            refine wpAnyH_done (by kernel_rfl) ?_ _
            refine NoPanic.normal ?_
            rotate_left
            go_simp
            have hbx := hc.size; have hc0 := Lib.hid hc; (try have HBL0 := Lib.hid HBL.out); have SX := Lib.hid (bxOf hc #[.int .i64 0, .int .i64 0, .slice none 0 0] 24); (try replace HBL := Lib.hid (HBL.out.next (nxA _ (.cells #[.int .i64 0, .int .i64 0, .slice none 0 0] 24)))); replace hc := hc.alloc hc.size (.cells #[.int .i64 0, .int .i64 0, .slice none 0 0] 24)
            refine hK.out _ _ ?_ (fun hHeld => ?_)
            · (try dsimp only); exact HC.out _ hc
            clear hK K
            try simp only [Act.put, List.setIfInBounds_toArray, List.set_cons_zero, List.set_cons_succ]
            refine wpAnyH_ready (rs := [6]) (by kernel_rfl) (by simp) ?_
            refine hcons rfl (fun K hK => ?_) (AllReadyH.nil)
            go_simp
            (first | with_reducible refine (HCL.out _ hc).mono ?_ | refine (HCL.out _ hc).mono ?_); rintro e w4 ⟨g, cap, rfl, hgb, hbl, hb4⟩; have HBL := Lib.hid hbl; have hg4 := Nat.le_trans hc.size hgb; have HGB := Lib.hid hgb; replace hc := hc.trans (hb4.mono hc.size); (try replace SX := Lib.hid (SX.out.next hb4)); clear hb4 hbl hgb
            refine hK.out _ _ ?_ (fun hHeld => ?_)
            · (try dsimp only); exact HC.out _ hc
            clear hK K
            try simp only [Act.put, List.setIfInBounds_toArray, List.set_cons_zero, List.set_cons_succ]
            refine htake (i := 7) (v := ?v8) rfl (by kernel_rfl) (by kernel_rfl) (by kernel_rfl) (fun _ _ _ h => h) (Or.inl ⟨by rfl, ?hy8⟩) (by assumption) ?_
            case hy8 => (intro w hSw; (try dsimp only at hSw); go_simp; try (with_reducible rfl))
            try simp only [Act.put, List.setIfInBounds_toArray, List.set_cons_zero, List.set_cons_succ]
            refine wpAnyH_ready (rs := [9]) (by kernel_rfl) (by simp) ?_
            refine hcons rfl (fun K hK => ?_) (AllReadyH.nil)
            (try rw [show W3.drew.heap.size = W3.heap.size from rfl] at SX); (try rw [show W3.drew.heap.size = W3.heap.size from rfl] at hbx); have z0 := SX.out.c 0 _ rfl; have z1 := SX.out.c 1 _ rfl; have z2 := SX.out.c 2 _ rfl; have y0 := SX.out.fr 0; have y1 := SX.out.fr 1; have y2 := SX.out.fr 2; go_simp
            refine hK.out _ _ ?_ (fun hHeld => ?_)
            · (try dsimp only); first | exact HC.out _ (hc0.out.alloc hc0.out.size _) | exact HC.out _ (below_setCells hbx [.int .i64 c.wide, .int .i64 c.high, .slice (some ⟨g, 0, none⟩) c.piece.length cap] 0 hc)
            clear hK K
            try simp only [Act.put]
            refine wpAnyH_done (by kernel_rfl) ?_ _
            refine NoPanic.normal ?_
            iterate 11 (try clear hHeld)
            all_goals (go_wp2_with fail; go_meet)
            · have hgb := HGB.out
              have hgb2 : W3.heap.size + 1 ≤ g := by simpa using hgb
              exact ⟨W3.heap.size, g, cap, rfl, SX.out.setAll [.int .i64 c.wide, .int .i64 c.high, .slice (some ⟨g, 0, none⟩) c.piece.length cap] rfl, HBL.out.of (Nat.le_of_eq (setCells_size W3.heap.size [.int .i64 c.wide, .int .i64 c.high, .slice (some ⟨g, 0, none⟩) c.piece.length cap] 0 w4).symm) (setCells_blk W3.heap.size g (by omega) [.int .i64 c.wide, .int .i64 c.high, .slice (some ⟨g, 0, none⟩) c.piece.length cap] 0 w4), below_setCells hbx [.int .i64 c.wide, .int .i64 c.high, .slice (some ⟨g, 0, none⟩) c.piece.length cap] 0 hc, by omega, Nat.le_refl _, hg4⟩
            · exact ⟨_, g, cap, rfl, Bx.new _ #[.int .i64 c.wide, .int .i64 c.high, .slice (some ⟨g, 0, none⟩) c.piece.length cap] 24, HBL0.out.next (nxA _ _), hc0.out.alloc hc0.out.size _, (by have := HBL0.out.lt; omega), hc0.out.size, hg4⟩
          case rest =>
            obtain ⟨go, g, cap, rfl, hox, hbl, hb3, hne, hgo1, hg1⟩ := hcut
            clear HC HCL hc
            have HJ0 := Lib.hid (show RJ c g go cap lo hi W3 wc 0 from ⟨by omega, hbl.congr (fun k => by rw [if_neg (by omega)]), hox, hb3⟩)
            have HLT := Lib.hid (show w.heap.size + 1 < go ∧ w.heap.size + 1 < g ∧ go ≠ g ∧ W3.heap.size ≤ g ∧ w.heap.size + 1 < W3.heap.size from ⟨by have := HY2.out.lt; omega, by have := HY2.out.lt; omega, hne, hg1, HY2.out.lt⟩)
            have c2 := hox.c 2 _ rfl
            clear hox hbl hb3 hne hgo1 hg1
            go_wp2_with fail
            clear c2
            go_loopw [64] (fun iv wr => ∃ i : Nat, iv = .int .i64 i ∧ RJ c g go cap lo hi W3 wr i) (fun iv _ => c.piece.length - (intOf iv).toNat)
            case atStart => exact ⟨0, rfl, HJ0.out⟩
            case round =>
              obtain ⟨i, rfl, hj⟩ := hrel
              have hjl := hj.hl
              by_cases hlt : i < c.piece.length
              · have hx := HG.out.ok.pc (c.piece.getD i 0) (by rw [getD_get hlt]; exact List.getElem_mem _)
                have e0 := hj.bl.cell i hlt
                rw [if_neg (Nat.lt_irrefl i)] at e0
                have f0 := hj.bl.free i
                have c2 := hj.ox.c 2 _ rfl
                have HJN := Lib.hid (fun (y : Int) (hy : jn lo hi (c.piece.getD i 0) = y) => hj.bl.set_ (f' := fun j => if j < i + 1 then jn lo hi (c.piece.getD j 0) else c.piece.getD j 0) (x := y) hlt (by rw [if_pos (Nat.lt_succ_self i)]; exact hy) (fun k hk => by
                  by_cases h : k < i
                  · rw [if_pos h, if_pos (by omega)]
                  · rw [if_neg h, if_neg (by omega)]))
                have HJ := Lib.hid hj
                obtain ⟨x, hxe⟩ : ∃ x, x = c.piece.getD i 0 := ⟨_, rfl⟩
                have HX := Lib.hid hxe
                rw [← hxe] at hx e0
                have hjn : ∀ y, jn lo hi x = y → jn lo hi (c.piece.getD i 0) = y := fun y h => by rw [← hxe]; exact h
                have HJY := Lib.hid hjn
                have HNG := Lib.hid (show go ≠ g from HLT.out.2.2.1)
                have hw3 : IntKind.i64.wrap (x - 1) = x - 1 := IntWalk.i64_in _ (by omega)
                clear hj hxe hjn
                go_upto_region 13 with fail
                by_cases h1 : x = hi
                · have hy : jn lo hi x = lo := by unfold jn; rw [if_pos h1]
                  have HF := Lib.hid (show RJ c g go cap lo hi W3 (wr.setCell ⟨g, i, none⟩ (.int .i64 lo)) (i + 1) from ⟨by omega, HJN.out lo (HJY.out lo hy), HJ.out.ox.other HNG.out _ _, HJ.out.b.setCell (p := ⟨g, i, none⟩) HLT.out.2.2.2.1 _⟩)
                  have e1 : (x == hi) = true := by simp [h1]
                  clear hy h1
                  go_wp2_with fail
                  exact ⟨⟨i + 1, by go_num, HF.out⟩, by simp [intOf]; omega⟩
                · have e1 : (x == hi) = false := by simp [h1]
                  by_cases h2 : hi < x
                  · have hy : jn lo hi x = x - 1 := by unfold jn; rw [if_neg h1, if_pos h2]
                    have HF := Lib.hid (show RJ c g go cap lo hi W3 (wr.setCell ⟨g, i, none⟩ (.int .i64 (x - 1))) (i + 1) from ⟨by omega, HJN.out (x - 1) (HJY.out _ hy), HJ.out.ox.other HNG.out _ _, HJ.out.b.setCell (p := ⟨g, i, none⟩) HLT.out.2.2.2.1 _⟩)
                    clear hy h1
                    go_wp2_with fail
                    exact ⟨⟨i + 1, by go_num, HF.out⟩, by simp [intOf]; omega⟩
                  · have hy : jn lo hi x = x := by unfold jn; rw [if_neg h1, if_neg h2]
                    have HF := Lib.hid (show RJ c g go cap lo hi W3 wr (i + 1) from ⟨by omega, HJ.out.bl.congr (fun k => by
                      by_cases hk : k = i
                      · subst hk; rw [if_pos (Nat.lt_succ_self k), if_neg (Nat.lt_irrefl k)]; rw [← HX.out]; exact hy
                      · by_cases h : k < i
                        · rw [if_pos h, if_pos (by omega)]
                        · rw [if_neg h, if_neg (by omega)]), HJ.out.ox, HJ.out.b⟩)
                    clear hy h1
                    go_wp2_with fail
                    exact ⟨⟨i + 1, by go_num, HF.out⟩, by simp [intOf]; omega⟩
              · obtain rfl : i = c.piece.length := by omega
                have HY3 := Lib.hid (HY2.out.below hj.b HLT.out.2.2.2.2)
                have f0 := HY3.out.fr 0
                have f1 := HY3.out.fr 1
                have f2 := HY3.out.fr 2
                have d0 := HY3.out.c 0 _ rfl
                have d1 := HY3.out.c 1 _ rfl
                have d2 := HY3.out.c 2 _ rfl
                have o0 := hj.ox.c 0 _ rfl
                have o1 := hj.ox.c 1 _ rfl
                have o2 := hj.ox.c 2 _ rfl
                have HRES := Lib.hid (loadC (HY3.out.setAll [.int .i64 c.wide, .int .i64 c.high, .slice (some ⟨g, 0, none⟩) c.piece.length cap] rfl))
                have HJ := Lib.hid hj
                have HB3 := Lib.hid (HB2.out.trans (hj.b.mono HB2.out.size))
                clear hj
                go_wp2_with fail
                ((try simp only [Exit.inBlock, Exit.then]); refine bodyPost_ret (results_cellA rfl rfl HRES.out) rfl ?_)
                exact join_good HE.out HLO.out (by omega) (HJ.out.bl.of (Nat.le_of_eq (setCells_size (w.heap.size + 1) [.int .i64 c.wide, .int .i64 c.high, .slice (some ⟨g, 0, none⟩) c.piece.length cap] 0 wr).symm) (setCells_blk (w.heap.size + 1) g (by have := HLT.out; omega) [.int .i64 c.wide, .int .i64 c.high, .slice (some ⟨g, 0, none⟩) c.piece.length cap] 0 wr)) (below_setCells (b := w.heap.size + 1) (B := w.heap.size) (by omega) [.int .i64 c.wide, .int .i64 c.high, .slice (some ⟨g, 0, none⟩) c.piece.length cap] 0 HB3.out)
end Go.Proofs.Ytjlicbdnppodgaa
