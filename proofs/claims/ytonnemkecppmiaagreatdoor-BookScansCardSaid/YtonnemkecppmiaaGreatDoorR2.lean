import Derived.Test.YtonnemkecppmiaaGreatDoorR1
namespace Go.Proofs.YtonnemkecppmiaaGreatDoor
open Go.RowKit
/-! The reference: Puzzle and Drawing. -/
theorem pc_get (p : Pc) : ∀ j : Nat, j < 4 → (p.cells[7 * j + 0]? = some (.int .i64 (pe p j).kind) ∧ p.cells[7 * j + 1]? = some (.int .i64 (pe p j).a.lo) ∧ p.cells[7 * j + 2]? = some (.int .i64 (pe p j).a.hi) ∧ p.cells[7 * j + 3]? = some (.int .i64 (pe p j).w.lo) ∧ p.cells[7 * j + 4]? = some (.int .i64 (pe p j).w.hi) ∧ p.cells[7 * j + 5]? = some (.int .i64 (pe p j).d.lo) ∧ p.cells[7 * j + 6]? = some (.int .i64 (pe p j).d.hi))
  | 0, _ => ⟨rfl, rfl, rfl, rfl, rfl, rfl, rfl⟩
  | 1, _ => ⟨rfl, rfl, rfl, rfl, rfl, rfl, rfl⟩
  | 2, _ => ⟨rfl, rfl, rfl, rfl, rfl, rfl, rfl⟩
  | 3, _ => ⟨rfl, rfl, rfl, rfl, rfl, rfl, rfl⟩
  | n + 4, h => absurd h (by omega)
/-- The cells of the j-th side of a piece that lies somewhere. -/
theorem edge_at {W : World} {b o : Nat} {p : Pc} (h : ∀ j u, p.cells[j]? = some u → W.cell? ⟨b, o + j, none⟩ = some u) {j : Nat} (hj : j < 4) : W.cell? ⟨b, o + j * 7, none⟩ = some (.int .i64 (pe p j).kind) ∧ W.cell? ⟨b, o + j * 7 + 1, none⟩ = some (.int .i64 (pe p j).a.lo) ∧ W.cell? ⟨b, o + j * 7 + 2, none⟩ = some (.int .i64 (pe p j).a.hi) ∧ W.cell? ⟨b, o + j * 7 + 3, none⟩ = some (.int .i64 (pe p j).w.lo) ∧ W.cell? ⟨b, o + j * 7 + 4, none⟩ = some (.int .i64 (pe p j).w.hi) ∧ W.cell? ⟨b, o + j * 7 + 5, none⟩ = some (.int .i64 (pe p j).d.lo) ∧ W.cell? ⟨b, o + j * 7 + 6, none⟩ = some (.int .i64 (pe p j).d.hi) := by
  obtain ⟨g0, g1, g2, g3, g4, g5, g6⟩ := pc_get p j hj
  exact ⟨(by rw [show o + j * 7 = o + (7 * j + 0) by omega]; exact h _ _ g0), (by rw [show o + j * 7 + 1 = o + (7 * j + 1) by omega]; exact h _ _ g1), (by rw [show o + j * 7 + 2 = o + (7 * j + 2) by omega]; exact h _ _ g2), (by rw [show o + j * 7 + 3 = o + (7 * j + 3) by omega]; exact h _ _ g3), (by rw [show o + j * 7 + 4 = o + (7 * j + 4) by omega]; exact h _ _ g4), (by rw [show o + j * 7 + 5 = o + (7 * j + 5) by omega]; exact h _ _ g5), (by rw [show o + j * 7 + 6 = o + (7 * j + 6) by omega]; exact h _ _ g6)⟩
def side4 (p : Pc) (k : Nat) : Bool := (List.range k).all fun j => side02 (pe p j)
theorem side4_succ (p : Pc) (k : Nat) : side4 p (k + 1) = (side4 p k && side02 (pe p k)) := by unfold side4; rw [List.range_succ, List.all_append]; simp
theorem side4_false {p : Pc} {j : Nat} (hj : j < 4) (h : side02 (pe p j) = false) : side4 p 4 = false := by
  unfold side4
  rw [List.all_eq_false]
  exact ⟨j, List.mem_range.2 hj, by rw [h]; decide⟩
theorem okPc_side4 {p : Pc} (h : okPc p = true) : side4 p 4 = true := by
  rw [← oksE_four] at h
  unfold oksE at h
  unfold side4
  rw [List.all_eq_true] at h ⊢
  intro j hj
  have := h j hj
  rw [okEd_side, Bool.and_eq_true] at this
  exact this.1
def puz03 (d : Pu) : Bool := okPy d.play && (inP d.pieces.length 1 9 && (inP d.wide 1 9 && (inP d.high 1 9 && (decide (d.wide * d.high = d.pieces.length) && d.pieces.all (fun p => side4 p 4)))))
theorem okPu_ref (d : Pu) : okPu d = (puz03 d && okPcs d.pieces) := by
  rw [Bool.eq_iff_iff]
  unfold okPu puz03
  simp only [Bool.and_eq_true, inP_iff, decide_eq_true_eq]
  constructor
  · rintro ⟨h1, h2, h3, h4, h5, h6⟩
    refine ⟨⟨h5, h1, by omega, by omega, h4, ?_⟩, h6⟩
    unfold okPcs at h6
    rw [List.all_eq_true] at h6 ⊢
    exact fun p hp => okPc_side4 (h6 p hp)
  · rintro ⟨⟨h5, h1, h2, h3, h4, -⟩, h6⟩
    have a1 : d.wide * 1 ≤ d.wide * d.high := Int.mul_le_mul_of_nonneg_left h3.1 (by omega)
    have a2 : 1 * d.high ≤ d.wide * d.high := Int.mul_le_mul_of_nonneg_right h2.1 (by omega)
    exact ⟨h1, by omega, by omega, h4, h5, h6⟩
def RPz (m : Mp) (w0 : World) (b : Nat) (i : Value) (w : World) : Prop := ∃ k : Nat, k ≤ m.d.pieces.length ∧ i = .int .i64 k ∧ Below w0.heap.size w0 w ∧ Bx w b m.cells ∧ (m.d.pieces.take k).all (fun p => side4 p 4) = true
set_option maxRecDepth 100000 in
set_option maxHeartbeats 2000000 in
theorem Puzzle_any (m : Mp) (w : World) (hr : PuAt w w.heap.size m) : Calls Tryz.prog 64 #[.agg #[.int .i64 m.d.play.len, .int .i64 m.d.play.slack, .int .i64 m.d.play.loose, .int .i64 m.d.play.damp.lo, .int .i64 m.d.play.damp.hi, .int .i64 m.d.wide, .int .i64 m.d.high, .bool m.d.turn, .slice m.A m.d.pieces.length m.c]] w (Ret (.bool (puz03 m.d)) w) := by
  have HX := Lib.hid (Bx.new w #[.int .i64 m.d.play.len, .int .i64 m.d.play.slack, .int .i64 m.d.play.loose, .int .i64 m.d.play.damp.lo, .int .i64 m.d.play.damp.hi, .int .i64 m.d.wide, .int .i64 m.d.high, .bool m.d.turn, .slice m.A m.d.pieces.length m.c] 28)
  have HB := Lib.hid (nxA w (.cells #[.int .i64 m.d.play.len, .int .i64 m.d.play.slack, .int .i64 m.d.play.loose, .int .i64 m.d.play.damp.lo, .int .i64 m.d.play.damp.hi, .int .i64 m.d.wide, .int .i64 m.d.high, .bool m.d.turn, .slice m.A m.d.pieces.length m.c] 28))
  have HR := Lib.hid hr
  have hl1 := hr.l1
  have HPZ := Lib.hid (show puz03 m.d = (okPy m.d.play && (inP m.d.pieces.length 1 9 && (inP m.d.wide 1 9 && (inP m.d.high 1 9 && (decide (m.d.wide * m.d.high = m.d.pieces.length) && m.d.pieces.all (fun p => side4 p 4)))))) from rfl)
  clear hr
  go_enter Tryz.func64, Tryz.ntmps64
  go_upto_region 1 with fail
  generalize (w.alloc (.cells #[.int .i64 m.d.play.len, .int .i64 m.d.play.slack, .int .i64 m.d.play.loose, .int .i64 m.d.play.damp.lo, .int .i64 m.d.play.damp.hi, .int .i64 m.d.wide, .int .i64 m.d.high, .bool m.d.turn, .slice m.A m.d.pieces.length m.c] 28)) = V at *
  have c0 := HX.out.c 0 _ rfl
  have c1 := HX.out.c 1 _ rfl
  have c2 := HX.out.c 2 _ rfl
  have c3 := HX.out.c 3 _ rfl
  have c4 := HX.out.c 4 _ rfl
  go_wp2_with fail
  refine (Play_any m.d.play V).mono ?_
  rintro e V1 ⟨rfl, hb⟩
  replace HX := Lib.hid (HX.out.next hb)
  replace HB := Lib.hid (HB.out.trans (hb.mono HB.out.size))
  clear hb c0 c1 c2 c3 c4
  have c5 := HX.out.c 5 _ rfl
  have c6 := HX.out.c 6 _ rfl
  have c8 := HX.out.c 8 _ rfl
  cases h0 : okPy m.d.play
  · go_wp2_with fail
    go_ret
    exact ret_bool (by rw [HPZ.out, h0]; rfl) HB.out
  · rcases chain3 (inP m.d.pieces.length 1 9) (inP m.d.wide 1 9) (inP m.d.high 1 9) with h1 | ⟨h1, h2⟩ | ⟨h1, h2, h3⟩ | ⟨h1, h2, h3⟩
    rotate_right
    · have g1 := inP_iff.1 h1
      have g2 := inP_iff.1 h2
      have g3 := inP_iff.1 h3
      have hm1 : 0 ≤ m.d.wide * m.d.high := Int.mul_nonneg (by omega) (by omega)
      have hm2 : m.d.wide * m.d.high ≤ 9 * 9 := Int.mul_le_mul (by omega) (by omega) (by omega) (by omega)
      have hwm : IntKind.i64.wrap (m.d.wide * m.d.high) = m.d.wide * m.d.high := IntWalk.i64_in _ (by omega)
      by_cases hmn : m.d.wide * m.d.high = (m.d.pieces.length : Int)
      rotate_left
      · have d1 : (m.d.wide * m.d.high == (m.d.pieces.length : Int)) = false := by simp [hmn]
        have d2 : decide (m.d.wide * m.d.high = (m.d.pieces.length : Int)) = false := decide_eq_false hmn
        have d3 : (m.d.wide * m.d.high != (m.d.pieces.length : Int)) = true := by simp [hmn]
        have HV := Lib.hid (show puz03 m.d = false by rw [HPZ.out, h0, h1, h2, h3, d2]; rfl)
        clear hmn hm1 hm2
        go_wp2_with (first | (go_at_call 101; (with_reducible refine (in03_any _ _ _ _).mono ?_); rintro e w' ⟨rfl, rfl⟩) | fail)
        go_ret
        exact ret_bool (by rw [HV.out]) HB.out
      · have d1 : (m.d.wide * m.d.high == (m.d.pieces.length : Int)) = true := by simp [hmn]
        have d2 : decide (m.d.wide * m.d.high = (m.d.pieces.length : Int)) = true := decide_eq_true hmn
        have d3 : (m.d.wide * m.d.high != (m.d.pieces.length : Int)) = false := by simp [hmn]
        have HV := Lib.hid (show puz03 m.d = m.d.pieces.all (fun p => side4 p 4) by rw [HPZ.out, h0, h1, h2, h3, d2]; rfl)
        clear hmn hm1 hm2 HPZ
        go_upto_region 3 with (first | (go_at_call 101; (with_reducible refine (in03_any _ _ _ _).mono ?_); rintro e w' ⟨rfl, rfl⟩) | fail)
        clear c5 c6 c8
        go_wp2_with fail
        go_loopw [3] (fun i wr => RPz m w w.heap.size i wr) (fun i _ => m.d.pieces.length - (intOf i).toNat)
        case atStart => exact ⟨0, by omega, rfl, HB.out, HX.out, rfl⟩
        case round =>
          obtain ⟨k, hk, rfl, hb, hx, hall⟩ := hrel
          have HX2 := Lib.hid hx
          have c8 := hx.c 8 _ rfl
          clear hx
          by_cases hlt : k < m.d.pieces.length
          · obtain ⟨b, off, eA, hbk, hcs⟩ := HR.out.pc.below hb k m.d.pieces[k] (List.getElem?_eq_getElem hlt)
            have Ha := Lib.hid (fun hp => all_step (p := fun p => side4 p 4) hlt hall hp)
            have Hf := Lib.hid (fun hp => all_fail (p := fun p => side4 p 4) hlt hp)
            obtain ⟨p, hp⟩ : ∃ p, m.d.pieces[k] = p := ⟨_, rfl⟩
            rw [hp] at hcs Ha Hf
            clear hp hall
            have hwk : IntKind.i64.wrap ((k : Int) + 1) = (k : Int) + 1 := IntWalk.i64_in _ (by omega)
            have HBR := Lib.hid hb
            have hbz : b < wr.heap.size := Nat.lt_of_lt_of_le hbk hb.size
            clear hb hbk
            have HCS := Lib.hid (fun (W : World) (h : Below wr.heap.size wr W) => (fun j u hu => (h.cell (p := ⟨b, off + k * 28 + j, none⟩) hbz).trans (hcs j u hu) : ∀ j u, p.cells[j]? = some u → W.cell? ⟨b, off + k * 28 + j, none⟩ = some u))
            clear hcs
            rw [eA] at c8
            go_upto_region 6 with fail
            have HEA := Lib.hid eA
            clear c8 eA
            go_wp2_with fail
            go_loopw [4] (fun jv wx => ∃ j : Nat, jv = .int .i64 j ∧ j ≤ 4 ∧ Below wr.heap.size wr wx ∧ side4 p j = true) (fun jv _ => 4 - (intOf jv).toNat)
            case atStart => exact ⟨0, rfl, by omega, Below.refl _ _, rfl⟩
            case round =>
              obtain ⟨j, rfl, hj, hb, hok⟩ := hrel
              have HOK := Lib.hid hok
              have HBX := Lib.hid hb
              have c8 := (HX2.out.next hb).c 8 _ rfl
              rw [HEA.out] at c8
              have hwj : IntKind.i64.wrap ((j : Int) + 1) = (j : Int) + 1 := IntWalk.i64_in _ (by omega)
              by_cases hlj : j < 4
              · obtain ⟨q0, q1, q2, q3, q4, q5, q6⟩ := edge_at (HCS.out _ hb) hlj
                have HSU := Lib.hid (side4_succ p j)
                have HFA := Lib.hid (fun h => side4_false (p := p) hlj h)
                generalize pe p j = e at *
                clear hok hb
                go_wp2_with fail
                refine (side02_any e _).mono ?_
                rintro x V2 ⟨rfl, hb⟩
                have HV2 := Lib.hid (HBX.out.trans (hb.mono HBX.out.size))
                clear hb q0 q1 q2 q3 q4 q5 q6 c8
                cases hed : side02 e
                · have HF3 := Lib.hid (Hf.out (HFA.out hed))
                  clear HFA
                  go_wp2_with fail
                  go_ret
                  exact ret_bool (by rw [HV.out, HF3.out]) (HBR.out.trans (HV2.out.mono HBR.out.size))
                · have hs : side4 p (j + 1) = true := by rw [HSU.out, HOK.out, hed]; rfl
                  go_wp2_with fail
                  first | (exact ⟨⟨j + 1, by push_cast; rfl, by omega, HV2.out, hs⟩, by simp [intOf]; omega⟩) | (go_roundw; (case rel => exact ⟨j + 1, by push_cast; rfl, by omega, HV2.out, hs⟩); (case measure => (simp [intOf]; omega))) | (go_round; (case rel => exact ⟨j + 1, by push_cast; rfl, by omega, HV2.out, hs⟩); (case measure => (simp [intOf]; omega)))
              · obtain rfl : j = 4 := by omega
                have HR3 := Lib.hid (HBR.out.trans (hb.mono HBR.out.size))
                have HX3 := Lib.hid (HX2.out.next hb)
                clear hb c8
                go_wp2_with fail
                all_goals (first | (refine ⟨?_, ?_⟩; (unfold RPz; exact ⟨k + 1, by omega, by go_num, HR3.out, HX3.out, Ha.out HOK.out⟩); (simp [intOf]; omega)) | (go_roundw; (case rel => (unfold RPz; exact ⟨k + 1, by omega, by go_num, HR3.out, HX3.out, Ha.out HOK.out⟩)); (case measure => (simp [intOf]; omega))) | (go_round; (case rel => (unfold RPz; exact ⟨k + 1, by omega, by go_num, HR3.out, HX3.out, Ha.out HOK.out⟩)); (case measure => (simp [intOf]; omega))))
          · have hall := Lib.hid (all_full hlt hall)
            have HBR := Lib.hid hb
            clear hb
            go_wp2_with fail
            go_ret
            exact ret_bool (by rw [HV.out, hall.out]) HBR.out
    all_goals
      go_wp2_with (first | (go_at_call 101; (with_reducible refine (in03_any _ _ _ _).mono ?_); rintro e w' ⟨rfl, rfl⟩) | fail)
      go_ret
      exact ret_bool (by rw [HPZ.out]; simp [*]) HB.out
set_option maxRecDepth 100000 in
set_option maxHeartbeats 2000000 in
theorem Drawing_any (m : Mp) (w : World) (hr : PuAt w w.heap.size m) : Calls Tryz.prog 24 #[.agg #[.int .i64 m.d.play.len, .int .i64 m.d.play.slack, .int .i64 m.d.play.loose, .int .i64 m.d.play.damp.lo, .int .i64 m.d.play.damp.hi, .int .i64 m.d.wide, .int .i64 m.d.high, .bool m.d.turn, .slice m.A m.d.pieces.length m.c]] w (Ret (.bool (okPu m.d)) w) := by
  have HX := Lib.hid (Bx.new w #[.int .i64 m.d.play.len, .int .i64 m.d.play.slack, .int .i64 m.d.play.loose, .int .i64 m.d.play.damp.lo, .int .i64 m.d.play.damp.hi, .int .i64 m.d.wide, .int .i64 m.d.high, .bool m.d.turn, .slice m.A m.d.pieces.length m.c] 28)
  have HB := Lib.hid (nxA w (.cells #[.int .i64 m.d.play.len, .int .i64 m.d.play.slack, .int .i64 m.d.play.loose, .int .i64 m.d.play.damp.lo, .int .i64 m.d.play.damp.hi, .int .i64 m.d.wide, .int .i64 m.d.high, .bool m.d.turn, .slice m.A m.d.pieces.length m.c] 28))
  have HR := Lib.hid (hr.next HB.out)
  have hl1 := hr.l1
  have HPZ := Lib.hid (okPu_ref m.d)
  clear hr
  go_enter Tryz.func24, Tryz.ntmps24
  go_upto_region 1 with fail
  generalize (w.alloc (.cells #[.int .i64 m.d.play.len, .int .i64 m.d.play.slack, .int .i64 m.d.play.loose, .int .i64 m.d.play.damp.lo, .int .i64 m.d.play.damp.hi, .int .i64 m.d.wide, .int .i64 m.d.high, .bool m.d.turn, .slice m.A m.d.pieces.length m.c] 28)) = V at *
  have c0 := HX.out.c 0 _ rfl
  have c1 := HX.out.c 1 _ rfl
  have c2 := HX.out.c 2 _ rfl
  have c3 := HX.out.c 3 _ rfl
  have c4 := HX.out.c 4 _ rfl
  have c5 := HX.out.c 5 _ rfl
  have c6 := HX.out.c 6 _ rfl
  have c7 := HX.out.c 7 _ rfl
  have c8 := HX.out.c 8 _ rfl
  go_wp2_with fail
  refine (Puzzle_any m V HR.out).mono ?_
  rintro e V1 ⟨rfl, hb⟩
  replace HX := Lib.hid (HX.out.next hb)
  replace HR := Lib.hid (HR.out.next hb)
  replace HB := Lib.hid (HB.out.trans (hb.mono HB.out.size))
  clear hb c0 c1 c2 c3 c4 c5 c6 c7 c8
  have c8 := HX.out.c 8 _ rfl
  cases h0 : puz03 m.d
  · go_wp2_with fail
    go_ret
    exact ret_bool (by rw [HPZ.out, h0]; rfl) HB.out
  · go_wp2_with fail
    refine (Pieces_any m.A m.c m.d.pieces V1 HR.out.pc hl1).mono ?_
    rintro e V2 ⟨rfl, hb⟩
    replace HB := Lib.hid (HB.out.trans (hb.mono HB.out.size))
    clear hb
    go_wp2_with fail
    go_ret
    exact ret_bool (by rw [HPZ.out, h0]; rfl) HB.out
end Go.Proofs.YtonnemkecppmiaaGreatDoor
