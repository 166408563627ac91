import Derived.Test.YtjlicbdnppodgaaR7
import Derived.Test.YtjlicbdnppodgaaR9
import Derived.Test.YtjlicbdnppodgaaP13
namespace Go.Proofs.Ytjlicbdnppodgaa
open Go.RowKit
/-! The reference: Join; SameCut. -/
def sameS (a b : Cut) : Bool := decide (a.wide = b.wide) && (decide (a.high = b.high) && decide (a.piece = b.piece))
set_option maxHeartbeats 1000000 in
theorem SameCut_any (a b : Cut) (w : World) (ha : CutAt w w.heap.size a) (hb : CutAt w w.heap.size b) (la : a.piece.length ≤ 1000) (lb : b.piece.length ≤ 1000) : Calls Try.prog 29 #[.agg #[.int .i64 a.wide, .int .i64 a.high, .slice a.A a.piece.length a.c], .agg #[.int .i64 b.wide, .int .i64 b.high, .slice b.A b.piece.length b.c]] w (Ret (.bool (sameS a b)) w) := by
  have n1 := nxA w (.cells #[.int .i64 a.wide, .int .i64 a.high, .slice a.A a.piece.length a.c] 24)
  have n2 := nxA (w.alloc (.cells #[.int .i64 a.wide, .int .i64 a.high, .slice a.A a.piece.length a.c] 24)) (.cells #[.int .i64 b.wide, .int .i64 b.high, .slice b.A b.piece.length b.c] 24)
  have HX := Lib.hid ((Bx.new w #[.int .i64 a.wide, .int .i64 a.high, .slice a.A a.piece.length a.c] 24).next n2)
  have HY := Lib.hid (Bx.new (w.alloc (.cells #[.int .i64 a.wide, .int .i64 a.high, .slice a.A a.piece.length a.c] 24)) #[.int .i64 b.wide, .int .i64 b.high, .slice b.A b.piece.length b.c] 24)
  have HB := Lib.hid (n1.trans (n2.mono n1.size))
  have HA1 := Lib.hid (ha.next HB.out)
  have HB1 := Lib.hid (hb.next HB.out)
  simp only [World.size_alloc] at HY
  have HS := Lib.hid (show sameS a b = (decide (a.wide = b.wide) && (decide (a.high = b.high) && decide (a.piece = b.piece))) from rfl)
  clear ha hb n1 n2
  go_enter Try.func29, Try.ntmps29
  go_upto_region 1 with fail
  generalize (w.alloc (.cells #[.int .i64 a.wide, .int .i64 a.high, .slice a.A a.piece.length a.c] 24)).alloc (.cells #[.int .i64 b.wide, .int .i64 b.high, .slice b.A b.piece.length b.c] 24) = V at *
  have c0 := HX.out.c 0 _ rfl
  have c1 := HX.out.c 1 _ rfl
  have c2 := HX.out.c 2 _ rfl
  have d0 := HY.out.c 0 _ rfl
  have d1 := HY.out.c 1 _ rfl
  have d2 := HY.out.c 2 _ rfl
  by_cases h1 : a.wide = b.wide
  · have e1 : (a.wide == b.wide) = true := by simp [h1]
    by_cases h2 : a.high = b.high
    · have e2 : (a.high == b.high) = true := by simp [h2]
      rw [decide_eq_true h1, decide_eq_true h2, Bool.true_and, Bool.true_and] at HS
      clear h1 h2
      go_wp2_with fail
      refine (Ints_any a.piece b.piece a.A b.A a.c b.c V HA1.out.pa HB1.out.pa la lb).mono ?_
      rintro e W ⟨rfl, hw⟩
      have HW := Lib.hid (HB.out.trans (hw.mono HB.out.size))
      clear hw
      go_wp2_with fail
      go_ret
      exact ⟨by rw [HS.out]; rfl, HW.out⟩
    · have e2 : (a.high == b.high) = false := by simp [h2]
      rw [decide_eq_true h1, decide_eq_false h2, Bool.true_and, Bool.false_and] at HS
      clear h1 h2
      go_wp2_with fail
      go_ret
      exact ⟨by rw [HS.out]; rfl, HB.out⟩
  · have e1 : (a.wide == b.wide) = false := by simp [h1]
    rw [decide_eq_false h1, Bool.false_and] at HS
    clear h1
    go_wp2_with fail
    go_ret
    exact ⟨by rw [HS.out]; rfl, HB.out⟩
theorem flat_icell : ∀ l : List Int, l.flatMap icell = l.map (Value.int .i64)
  | [] => rfl
  | x :: l => by rw [List.flatMap_cons, flat_icell l]; rfl
theorem at_far {α : Type} {W : World} {B size g : Nat} {cells : α → List Value} {A : Option Addr} {l : List α} (h : At W B size cells A l) (hg : ∀ b o, A = some ⟨b, o, none⟩ → b ≠ g) (vs : List Value) : At (setCells W g 0 vs) B size cells A l := fun k x hx => by
  obtain ⟨b, off, e, hb, hc⟩ := h k x hx
  exact ⟨b, off, e, hb, fun j u hu => (setCells_other g vs 0 W b _ (hg b off e)).trans (hc j u hu)⟩
theorem own_set {w : World} {base b : Nat} {e : TypeId} {size : Nat} {v : Value} {n : Nat} {xs : List Value} (h : w.ownsRow base e size v n xs) (hb : b < base) (o : Nat) (u : Value) : (w.setCell ⟨b, o, none⟩ u).ownsRow base e size v n xs :=
  h.kept (row := some b) ⟨rfl, rfl, rfl, by rw [World.size_setCell]; exact Nat.le_refl _, fun i _ hi => blkSet (fun e => hi (by rw [e])) _ _⟩ (.inr (own_row_ne h hb))
structure RJr (c : Cut) (lo hi : Int) (go B : Nat) (w W : World) (i : Nat) : Prop where
  hl : i ≤ c.piece.length
  ex : ∃ v, W.ownsRow B 3 1 v i (((c.piece.take i).map (jn lo hi)).map (Value.int .i64)) ∧ Bx W go [.int .i64 c.wide, .int .i64 c.high, v]
  x0 : Bx W w.heap.size (cutL c)
  x1 : Bx W (w.heap.size + 1) [.int .i64 0, .int .i64 0, .slice none 0 0]
  b : Below w.heap.size w W
  z : B ≤ W.heap.size
theorem join_good2 {c : Cut} {a b lo hi : Int} {w w' : World} {A : Option Addr} {cap : Nat} (h : joinE c a b = 0) (hp : joinP c a b = c.piece.map (jn lo hi)) (hl : c.piece.length ≤ 1000) (ha : At w' w'.heap.size 1 icell A (c.piece.map (jn lo hi))) (hb : Below w.heap.size w w') :
    RetJoin c a b w (.returned (.tuple #[.agg #[.int .i64 c.wide, .int .i64 c.high, .slice A c.piece.length cap], .int .i64 0])) w' := by
  refine ⟨_, A, cap, rfl, ?_, ⟨?_, ?_⟩, hb⟩
  · unfold joinS
    simp only [h, if_true, hp, List.length_map]
  · show At w' w'.heap.size 1 icell A (joinP c a b)
    rw [hp]; exact ha
  · show (joinP c a b).length ≤ 9223372036854775807
    rw [hp, List.length_map]; omega
set_option maxRecDepth 100000 in
set_option maxHeartbeats 4000000 in
theorem JoinR_any (c : Cut) (a b : Int) (w : World) (ha : I64 a) (hb : I64 b) (hr : CutAt w w.heap.size c) : Calls Try.prog 28 #[.agg #[.int .i64 c.wide, .int .i64 c.high, .slice c.A c.piece.length c.c], .int .i64 a, .int .i64 b] w (RetJoin c a b w) := by
  have n1 := nxA w (.cells #[.int .i64 c.wide, .int .i64 c.high, .slice c.A c.piece.length c.c] 24)
  have n2 := nxA (w.alloc (.cells #[.int .i64 c.wide, .int .i64 c.high, .slice c.A c.piece.length c.c] 24)) (.cells #[.int .i64 0, .int .i64 0, .slice none 0 0] 24)
  have HX0 := Lib.hid ((Bx.new w #[.int .i64 c.wide, .int .i64 c.high, .slice c.A c.piece.length c.c] 24).next n2)
  have HY0 := Lib.hid (Bx.new (w.alloc (.cells #[.int .i64 c.wide, .int .i64 c.high, .slice c.A c.piece.length c.c] 24)) #[.int .i64 0, .int .i64 0, .slice none 0 0] 24)
  have HB0 := Lib.hid (n1.trans (n2.mono n1.size))
  have HR0 := Lib.hid (hr.next HB0.out)
  simp only [World.size_alloc] at HY0
  have HO := Lib.hid (show openE c a = if (checkS c).2 ≠ 0 then (checkS c).2 else if inS a 0 (greatS c) = true then 0 else 2 from rfl)
  have HJ := Lib.hid (show joinE c a b = if openE c a ≠ 0 then openE c a else if inS b 0 (greatS c) = false ∨ a = b then 2 else if edgesR c b a = 0 then 6 else 0 from rfl)
  have HIa := Lib.hid ha
  have HIb := Lib.hid hb
  have HRW := Lib.hid hr
  clear hr n1 n2 ha hb
  go_enter Try.func28, Try.ntmps28
  go_upto_region 1 with fail
  generalize (w.alloc (.cells #[.int .i64 c.wide, .int .i64 c.high, .slice c.A c.piece.length c.c] 24)).alloc (.cells #[.int .i64 0, .int .i64 0, .slice none 0 0] 24) = V at *
  have c0 := HX0.out.c 0 _ rfl
  have c1 := HX0.out.c 1 _ rfl
  have c2 := HX0.out.c 2 _ rfl
  go_wp2_with fail
  refine (Check_any c V HR0.out).mono ?_
  rintro e W ⟨rfl, hbw⟩
  clear c0 c1 c2
  have HX := Lib.hid (HX0.out.next hbw)
  have HY := Lib.hid (HY0.out.next hbw)
  have HR := Lib.hid (HR0.out.next hbw)
  have HB := Lib.hid (HB0.out.trans (hbw.mono HB0.out.size))
  clear HX0 HY0 HR0 HB0 hbw
  unfold checkV
  by_cases h1 : (checkS c).2 = 0
  · obtain ⟨a1, a2, a3, a4⟩ := check_ok h1
    rw [a2]
    have h2 := great_bd ((okc_iff c).1 a1)
    have hw1 : IntKind.i64.wrap (greatS c + 1 - 1) = greatS c := by rw [Int.add_sub_cancel]; exact IntWalk.i64_in _ (by omega)
    have hw2 : IntKind.i64.wrap (greatS c) = greatS c := IntWalk.i64_in _ (by omega)
    have OK := Lib.hid ((okc_iff c).1 a1)
    have A2 := Lib.hid a2
    clear a1 a2 a3 a4 h1
    by_cases hbad : ¬ (inS a 0 (greatS c) = true ∧ inS b 0 (greatS c) = true ∧ a ≠ b)
    · have HE := Lib.hid (show joinE c a b = 2 from by
        cases h3 : inS a 0 (greatS c)
        · have h0 : openE c a = 2 := by rw [HO.out, A2.out, h3]; rfl
          rw [HJ.out, if_pos (by rw [h0]; decide), h0]
        · have h0 : openE c a = 0 := by rw [HO.out, A2.out, h3]; rfl
          rw [HJ.out, if_neg (by rw [h0]; decide), if_pos]
          cases h4 : inS b 0 (greatS c)
          · exact .inl rfl
          · by_cases h5 : a = b
            · exact .inr h5
            · exact absurd ⟨h3, h4, h5⟩ hbad)
      have f0 := HY.out.fr 0
      have f1 := HY.out.fr 1
      have f2 := HY.out.fr 2
      have d0 := HY.out.c 0 _ rfl
      have d1 := HY.out.c 1 _ rfl
      have d2 := HY.out.c 2 _ rfl
      have HRES := Lib.hid (loadC (HY.out.setAll [.int .i64 0, .int .i64 0, .slice none 0 0] rfl))
      have HBS := Lib.hid (below_setCells (b := w.heap.size + 1) (B := w.heap.size) (by omega) [.int .i64 0, .int .i64 0, .slice none 0 0] 0 HB.out)
      cases h3 : inS a 0 (greatS c)
      · clear hbad
        go_wp2_with (go_at_call 61; (with_reducible refine (in_any _ _ _ _).mono ?_); rintro e w' ⟨rfl, rfl⟩)
        ((try simp only [Exit.inBlock, Exit.then]); refine bodyPost_ret (results_cellA rfl rfl HRES.out) rfl ?_)
        exact join_none HE.out (by decide) HBS.out
      · cases h4 : inS b 0 (greatS c)
        · clear hbad
          go_wp2_with (go_at_call 61; (with_reducible refine (in_any _ _ _ _).mono ?_); rintro e w' ⟨rfl, rfl⟩)
          ((try simp only [Exit.inBlock, Exit.then]); refine bodyPost_ret (results_cellA rfl rfl HRES.out) rfl ?_)
          exact join_none HE.out (by decide) HBS.out
        · have h5 : a = b := Classical.byContradiction fun h5 => hbad ⟨h3, h4, h5⟩
          have e5 : (a == b) = true := by simp [h5]
          clear hbad h5
          go_wp2_with (go_at_call 61; (with_reducible refine (in_any _ _ _ _).mono ?_); rintro e w' ⟨rfl, rfl⟩)
          ((try simp only [Exit.inBlock, Exit.then]); refine bodyPost_ret (results_cellA rfl rfl HRES.out) rfl ?_)
          exact join_none HE.out (by decide) HBS.out
    · obtain ⟨h3, h4, h5⟩ := Classical.not_not.1 hbad
      clear hbad
      have h6 : 0 ≤ a ∧ a ≤ greatS c ∧ 0 ≤ b ∧ b ≤ greatS c := by unfold inS at h3 h4; simp at h3 h4; omega
      have HE1 := Lib.hid (show joinE c a b = if edgesR c a b = 0 then 6 else 0 from by
        have h0 : openE c a = 0 := by rw [HO.out, A2.out, h3]; rfl
        rw [HJ.out, if_neg (by rw [h0]; decide), if_neg (by rw [h4]; simp [h5]), edges_symm OK.out (by omega) (by omega)])
      have e5 : (a == b) = false := by simp [h5]
      have HNE := Lib.hid h5
      have c0 := HX.out.c 0 _ rfl
      have c1 := HX.out.c 1 _ rfl
      have c2 := HX.out.c 2 _ rfl
      clear h5
      go_wp2_with (go_at_call 61; (with_reducible refine (in_any _ _ _ _).mono ?_); rintro e w' ⟨rfl, rfl⟩)
      refine (Edges_any c a b W OK.out HR.out).mono ?_
      rintro e W2 ⟨rfl, hb2⟩
      have HX2 := Lib.hid (HX.out.next hb2)
      have HY2 := Lib.hid (HY.out.next hb2)
      have HR2 := Lib.hid (HR.out.next hb2)
      have HB2 := Lib.hid (HB.out.trans (hb2.mono HB.out.size))
      clear c0 c1 c2 HX HY HR HB hb2
      by_cases h7 : edgesR c a b = 0
      · have HE := Lib.hid (show joinE c a b = 6 from by rw [HE1.out, if_pos h7])
        have f0 := HY2.out.fr 0
        have f1 := HY2.out.fr 1
        have f2 := HY2.out.fr 2
        have d0 := HY2.out.c 0 _ rfl
        have d1 := HY2.out.c 1 _ rfl
        have d2 := HY2.out.c 2 _ rfl
        have HRES := Lib.hid (loadC (HY2.out.setAll [.int .i64 0, .int .i64 0, .slice none 0 0] rfl))
        have HBS := Lib.hid (below_setCells (b := w.heap.size + 1) (B := w.heap.size) (by omega) [.int .i64 0, .int .i64 0, .slice none 0 0] 0 HB2.out)
        have e7 : (edgesR c a b == 0) = true := by simp [h7]
        clear h7
        generalize edgesR c a b = ev at *
        go_wp2_with fail
        ((try simp only [Exit.inBlock, Exit.then]); refine bodyPost_ret (results_cellA rfl rfl HRES.out) rfl ?_)
        exact join_none HE.out (by decide) HBS.out
      · have HE := Lib.hid (show joinE c a b = 0 from by rw [HE1.out, if_neg h7])
        have e7 : (edgesR c a b == 0) = false := by simp [h7]
        clear h7 HE1
        generalize edgesR c a b = ev at *
        obtain ⟨lo, hlo⟩ : ∃ lo, lo = min a b := ⟨_, rfl⟩
        obtain ⟨hi, hhi⟩ : ∃ hi, hi = max a b := ⟨_, rfl⟩
        have hlh : 0 ≤ lo ∧ lo < hi ∧ hi ≤ 39 := by have := HNE.out; omega
        have HLO := Lib.hid (show joinP c a b = c.piece.map (jn lo hi) from by unfold joinP; rw [if_pos HE.out, hlo, hhi])
        have HLH := Lib.hid (show (a < b ∧ lo = a ∧ hi = b) ∨ (b < a ∧ lo = b ∧ hi = a) from by have := HNE.out; omega)
        have hlen : c.piece.length ≤ 144 := by
          have := OK.out.w
          have := OK.out.h
          have := Int.mul_le_mul OK.out.w.2 OK.out.h.2 (show (0 : Int) ≤ c.high by omega) (show (0 : Int) ≤ 12 by omega)
          have := OK.out.len
          omega
        have c0 := HX2.out.c 0 _ rfl
        have c1 := HX2.out.c 1 _ rfl
        have hn := nxA W2 (.cells #[.int .i64 c.wide, .int .i64 c.high, .slice none 0 0] 24)
        have HJ0 := Lib.hid (show RJr c lo hi W2.heap.size (W2.heap.size + 1) w (W2.alloc (.cells #[.int .i64 c.wide, .int .i64 c.high, .slice none 0 0] 24)) 0 from ⟨by omega, ⟨.slice none 0 0, World.ownsRow_nil _ _ _ _, Bx.new _ _ _⟩, HX2.out.next hn, HY2.out.next hn, HB2.out.trans (hn.mono HB2.out.size), by simp⟩)
        have HLT := Lib.hid (show w.heap.size + 1 < W2.heap.size from HY2.out.lt)
        clear hlo hhi hn
        go_wp2_with fail
        obtain ⟨go, hgo⟩ : ∃ go, go = W2.heap.size := ⟨_, rfl⟩
        rw [← hgo] at HJ0 HLT ⊢
        clear c0 c1 hgo
        generalize W2.alloc (.cells #[.int .i64 c.wide, .int .i64 c.high, .slice none 0 0] 24) = W3 at *
        go_loopw [11] (fun iv wr => ∃ i : Nat, iv = .int .i64 i ∧ RJr c lo hi go (go + 1) w wr i) (fun iv _ => c.piece.length - (intOf iv).toNat)
        case atStart => exact ⟨0, rfl, HJ0.out⟩
        case round =>
          obtain ⟨i, rfl, hj⟩ := hrel
          have hjl := hj.hl
          have HJR := Lib.hid hj
          obtain ⟨v, hown, hox⟩ := hj.ex
          obtain ⟨A, cc, rfl, -⟩ := own_form hown
          have c2 := hj.x0.c 2 _ rfl
          have o2 := hox.c 2 _ rfl
          by_cases hlt : i < c.piece.length
          · obtain ⟨pb, off, e, hbk, g0⟩ := int_at (HRW.out.below hj.b).pa hlt
            have hx := OK.out.pc (c.piece.getD i 0) (by rw [getD_get hlt]; exact List.getElem_mem _)
            have HTK := Lib.hid (show ((c.piece.take (i + 1)).map (jn lo hi)).map (Value.int .i64) = ((c.piece.take i).map (jn lo hi)).map (Value.int .i64) ++ [.int .i64 (jn lo hi (c.piece.getD i 0))] from by
              rw [take_next hlt, List.map_append, List.map_append]; rfl)
            obtain ⟨x, hxe⟩ : ∃ x, x = c.piece.getD i 0 := ⟨_, rfl⟩
            rw [← hxe] at hx g0 HTK
            have hw3 : IntKind.i64.wrap (x - 1) = x - 1 := IntWalk.i64_in _ (by omega)
            have f2 := hox.fr 2
            have HOX := Lib.hid hox
            have HOWN := Lib.hid hown
            rw [e] at c2
            clear hj hxe hox hown
            go_upto_region 13 with fail
            have HSTEP := Lib.hid (fun (y : Int) (g2 cap2 : Nat) (w2 : World) (hg : (wr.alloc (.cells #[.int .i64 y] 3)).grownBy w2 (Value.slice A i cc).ownBlock) (ho : w2.ownsRow (go + 1) 3 1 (.slice (some ⟨g2, 0, none⟩) (i + 1) cap2) (i + 1) (((c.piece.take (i + 1)).map (jn lo hi)).map (Value.int .i64))) => (show w2.cell? ⟨go, 2, none⟩ = some (.slice A i cc) ∧ w2.frozen? ⟨go, 2, none⟩ = false ∧ RJr c lo hi go (go + 1) w (w2.setCell ⟨go, 2, none⟩ (.slice (some ⟨g2, 0, none⟩) (i + 1) cap2)) (i + 1) from by
              have hlo := HOWN.out.lt
              have hz := HJR.out.z
              have hl := HLT.out
              have g1 := World.grownBy_alloc wr (.cells #[.int .i64 y] 3) none
              have kb : ∀ {b vs}, b ≤ go → Bx wr b vs → Bx w2 b vs := fun hb hx => (hx.gk g1 (fun r e => by cases e)).gk hg (fun r e e' => by have := hlo r e; omega)
              have ox2 := kb (Nat.le_refl _) HOX.out
              refine ⟨ox2.c 2 _ rfl, ox2.fr 2, ⟨by omega, ⟨_, own_set ho (by omega) _ _, ox2.set (k := 2) (by simp) _⟩, (kb (by omega) HJR.out.x0).other (by omega) _ _, (kb (by omega) HJR.out.x1).other (by omega) _ _, ((HJR.out.b.alloc HJR.out.b.size _).grown hg (by have := HJR.out.b.size; simp; omega) (fun k hk => by have := hlo k hk; omega)).setCell (p := ⟨go, 2, none⟩) (by show w.heap.size ≤ go; omega) _, ?_⟩⟩
              rw [World.size_setCell]
              have := hg.size
              simp at this
              omega))
            obtain ⟨i0, hi0, hz0, hz1, hz2⟩ := info_parts int_info
            clear HJ HO
            rcases HLH.out with ⟨h, rfl, rfl⟩ | ⟨h, rfl, rfl⟩
            · skip
              by_cases h8 : x = hi
              · have hy : jn lo hi x = lo := by unfold jn; rw [if_pos h8]
                have e8 : (x == hi) = true := by simp [h8]
                rw [hy] at HTK
                have hown := HOWN.out
                clear hy h8
                go_wp2_with (at_builtin; refine wpList_append_own _ rfl (.tmp 79) (.tmp 81) 22 rfl (go + 1) 3 i0 (.int .i64 0) 1 8 Try.underlying22 hi0 hz0 hz1 hz2 rfl (by decide) _ _ _ rfl (hown.alloc _) ⟨wr.heap.size, 0, none⟩ 1 1 [.int .i64 lo] rfl rfl (cell_one_new _ _ _) (by simp [Value.oneCell']) (by unfold maxLen; omega) (by omega) (by have := HJR.out.z; simp; omega) ?_; intro v2 w2 hown' hgrow _; obtain ⟨g2, cap2, rfl⟩ := ownsRow_succ hown'; have hstep := HSTEP.out lo g2 cap2 w2 hgrow (by rw [HTK.out]; exact hown'); have o2' := hstep.1; have f2' := hstep.2.1; have HFIN := Lib.hid hstep.2.2; clear hstep hgrow hown' hown)
                exact ⟨⟨i + 1, by go_num, HFIN.out⟩, by simp [intOf]; omega⟩
              · by_cases h9 : hi < x
                · have hy : jn lo hi x = x - 1 := by unfold jn; rw [if_neg h8, if_pos h9]
                  have e8 : (x == hi) = false := by simp [h8]
                  rw [hy] at HTK
                  have hown := HOWN.out
                  clear hy h8
                  go_wp2_with (at_builtin; refine wpList_append_own _ rfl (.tmp 79) (.tmp 81) 22 rfl (go + 1) 3 i0 (.int .i64 0) 1 8 Try.underlying22 hi0 hz0 hz1 hz2 rfl (by decide) _ _ _ rfl (hown.alloc _) ⟨wr.heap.size, 0, none⟩ 1 1 [.int .i64 (x - 1)] rfl rfl (cell_one_new _ _ _) (by simp [Value.oneCell']) (by unfold maxLen; omega) (by omega) (by have := HJR.out.z; simp; omega) ?_; intro v2 w2 hown' hgrow _; obtain ⟨g2, cap2, rfl⟩ := ownsRow_succ hown'; have hstep := HSTEP.out (x - 1) g2 cap2 w2 hgrow (by rw [HTK.out]; exact hown'); have o2' := hstep.1; have f2' := hstep.2.1; have HFIN := Lib.hid hstep.2.2; clear hstep hgrow hown' hown)
                  exact ⟨⟨i + 1, by go_num, HFIN.out⟩, by simp [intOf]; omega⟩
                · have hy : jn lo hi x = x := by unfold jn; rw [if_neg h8, if_neg h9]
                  have e8 : (x == hi) = false := by simp [h8]
                  rw [hy] at HTK
                  have hown := HOWN.out
                  clear hy h8
                  go_wp2_with (at_builtin; refine wpList_append_own _ rfl (.tmp 79) (.tmp 81) 22 rfl (go + 1) 3 i0 (.int .i64 0) 1 8 Try.underlying22 hi0 hz0 hz1 hz2 rfl (by decide) _ _ _ rfl (hown.alloc _) ⟨wr.heap.size, 0, none⟩ 1 1 [.int .i64 x] rfl rfl (cell_one_new _ _ _) (by simp [Value.oneCell']) (by unfold maxLen; omega) (by omega) (by have := HJR.out.z; simp; omega) ?_; intro v2 w2 hown' hgrow _; obtain ⟨g2, cap2, rfl⟩ := ownsRow_succ hown'; have hstep := HSTEP.out x g2 cap2 w2 hgrow (by rw [HTK.out]; exact hown'); have o2' := hstep.1; have f2' := hstep.2.1; have HFIN := Lib.hid hstep.2.2; clear hstep hgrow hown' hown)
                  exact ⟨⟨i + 1, by go_num, HFIN.out⟩, by simp [intOf]; omega⟩
            · skip
              by_cases h8 : x = hi
              · have hy : jn lo hi x = lo := by unfold jn; rw [if_pos h8]
                have e8 : (x == hi) = true := by simp [h8]
                rw [hy] at HTK
                have hown := HOWN.out
                clear hy h8
                go_wp2_with (at_builtin; refine wpList_append_own _ rfl (.tmp 79) (.tmp 81) 22 rfl (go + 1) 3 i0 (.int .i64 0) 1 8 Try.underlying22 hi0 hz0 hz1 hz2 rfl (by decide) _ _ _ rfl (hown.alloc _) ⟨wr.heap.size, 0, none⟩ 1 1 [.int .i64 lo] rfl rfl (cell_one_new _ _ _) (by simp [Value.oneCell']) (by unfold maxLen; omega) (by omega) (by have := HJR.out.z; simp; omega) ?_; intro v2 w2 hown' hgrow _; obtain ⟨g2, cap2, rfl⟩ := ownsRow_succ hown'; have hstep := HSTEP.out lo g2 cap2 w2 hgrow (by rw [HTK.out]; exact hown'); have o2' := hstep.1; have f2' := hstep.2.1; have HFIN := Lib.hid hstep.2.2; clear hstep hgrow hown' hown)
                exact ⟨⟨i + 1, by go_num, HFIN.out⟩, by simp [intOf]; omega⟩
              · by_cases h9 : hi < x
                · have hy : jn lo hi x = x - 1 := by unfold jn; rw [if_neg h8, if_pos h9]
                  have e8 : (x == hi) = false := by simp [h8]
                  rw [hy] at HTK
                  have hown := HOWN.out
                  clear hy h8
                  go_wp2_with (at_builtin; refine wpList_append_own _ rfl (.tmp 79) (.tmp 81) 22 rfl (go + 1) 3 i0 (.int .i64 0) 1 8 Try.underlying22 hi0 hz0 hz1 hz2 rfl (by decide) _ _ _ rfl (hown.alloc _) ⟨wr.heap.size, 0, none⟩ 1 1 [.int .i64 (x - 1)] rfl rfl (cell_one_new _ _ _) (by simp [Value.oneCell']) (by unfold maxLen; omega) (by omega) (by have := HJR.out.z; simp; omega) ?_; intro v2 w2 hown' hgrow _; obtain ⟨g2, cap2, rfl⟩ := ownsRow_succ hown'; have hstep := HSTEP.out (x - 1) g2 cap2 w2 hgrow (by rw [HTK.out]; exact hown'); have o2' := hstep.1; have f2' := hstep.2.1; have HFIN := Lib.hid hstep.2.2; clear hstep hgrow hown' hown)
                  exact ⟨⟨i + 1, by go_num, HFIN.out⟩, by simp [intOf]; omega⟩
                · have hy : jn lo hi x = x := by unfold jn; rw [if_neg h8, if_neg h9]
                  have e8 : (x == hi) = false := by simp [h8]
                  rw [hy] at HTK
                  have hown := HOWN.out
                  clear hy h8
                  go_wp2_with (at_builtin; refine wpList_append_own _ rfl (.tmp 79) (.tmp 81) 22 rfl (go + 1) 3 i0 (.int .i64 0) 1 8 Try.underlying22 hi0 hz0 hz1 hz2 rfl (by decide) _ _ _ rfl (hown.alloc _) ⟨wr.heap.size, 0, none⟩ 1 1 [.int .i64 x] rfl rfl (cell_one_new _ _ _) (by simp [Value.oneCell']) (by unfold maxLen; omega) (by omega) (by have := HJR.out.z; simp; omega) ?_; intro v2 w2 hown' hgrow _; obtain ⟨g2, cap2, rfl⟩ := ownsRow_succ hown'; have hstep := HSTEP.out x g2 cap2 w2 hgrow (by rw [HTK.out]; exact hown'); have o2' := hstep.1; have f2' := hstep.2.1; have HFIN := Lib.hid hstep.2.2; clear hstep hgrow hown' hown)
                  exact ⟨⟨i + 1, by go_num, HFIN.out⟩, by simp [intOf]; omega⟩
          · obtain rfl : i = c.piece.length := by omega
            have hat : At wr wr.heap.size 1 icell A (c.piece.map (jn lo hi)) := by
              rw [List.take_of_length_le (Nat.le_refl _), ← flat_icell] at hown
              have hl2 : (c.piece.map (jn lo hi)).length = c.piece.length := List.length_map ..
              obtain ⟨A2, cc2, e1, h8⟩ := own_at (cells := icell) (size := 1) (fun _ => rfl) (by omega) (by rw [hl2]; exact hown)
              injection e1 with e1
              rw [e1]; exact h8
            have HAT := Lib.hid hat
            have f0 := hj.x1.fr 0
            have f1 := hj.x1.fr 1
            have f2 := hj.x1.fr 2
            have d0 := hj.x1.c 0 _ rfl
            have d1 := hj.x1.c 1 _ rfl
            have d2 := hj.x1.c 2 _ rfl
            have o0 := hox.c 0 _ rfl
            have o1 := hox.c 1 _ rfl
            have HRES := Lib.hid (loadC (hj.x1.setAll [.int .i64 c.wide, .int .i64 c.high, .slice A c.piece.length cc] rfl))
            have HOF := Lib.hid hown
            clear hj hat hox hown HJ HO
            go_wp2_with fail
            ((try simp only [Exit.inBlock, Exit.then]); refine bodyPost_ret (results_cellA rfl rfl HRES.out) rfl ?_)
            refine join_good2 HE.out HLO.out (by omega) ?_ (below_setCells (b := w.heap.size + 1) (B := w.heap.size) (by omega) [.int .i64 c.wide, .int .i64 c.high, .slice A c.piece.length cc] 0 HJR.out.b)
            have hsz := setCells_size (w.heap.size + 1) [.int .i64 c.wide, .int .i64 c.high, .slice A c.piece.length cc] 0 wr
            have hak : At (setCells wr (w.heap.size + 1) 0 [.int .i64 c.wide, .int .i64 c.high, .slice A c.piece.length cc]) wr.heap.size 1 icell A (c.piece.map (jn lo hi)) := at_far HAT.out (fun b o e => by
              have := HOF.out.lt b (by rw [e]; rfl)
              have := HLT.out
              omega) _
            exact hak.more (Nat.le_of_eq hsz.symm)
  · have HE := Lib.hid (show joinE c a b = (checkS c).2 from by rw [HJ.out, HO.out]; simp [h1])
    have h1' := Lib.hid h1
    have e1 : ((checkS c).2 == 0) = false := by simp [h1]
    have f0 := HY.out.fr 0
    have f1 := HY.out.fr 1
    have f2 := HY.out.fr 2
    have d0 := HY.out.c 0 _ rfl
    have d1 := HY.out.c 1 _ rfl
    have d2 := HY.out.c 2 _ rfl
    have HRES := Lib.hid (loadC (HY.out.setAll [.int .i64 0, .int .i64 0, .slice none 0 0] rfl))
    have HBS := Lib.hid (below_setCells (b := w.heap.size + 1) (B := w.heap.size) (by omega) [.int .i64 0, .int .i64 0, .slice none 0 0] 0 HB.out)
    clear h1 HO HJ
    generalize checkS c = x at *
    go_wp2_with fail
    ((try simp only [Exit.inBlock, Exit.then]); refine bodyPost_ret (results_cellA rfl rfl HRES.out) rfl ?_)
    exact join_none HE.out h1'.out HBS.out
end Go.Proofs.Ytjlicbdnppodgaa
