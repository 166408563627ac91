import Derived.Test.YtonnemkecppmiaaGreatDoorP9
import Derived.Test.YtonnemkecppmiaaGreatDoorP10
namespace Go.Proofs.YtonnemkecppmiaaGreatDoor
open Go.RowKit
/-! The program: the file of a log; WriteLog, WriteDrawing. -/
def prevM (l : List Wo) (k : Nat) : Int := if k = 0 then 0 else (l.getD (k - 1) wo0).minute
theorem prevM_succ (l : List Wo) (k : Nat) : prevM l (k + 1) = (l.getD k wo0).minute := by unfold prevM; rw [if_neg (by omega)]; rfl
theorem lgL_at : ∀ (l : List Wo) (last : Int) (k : Nat) (x : Wo), l[k]? = some x → (lgL last l)[k]? = some [whenT (if k = 0 then last else (l.getD (k - 1) wo0).minute) x.minute, Lib.itoa x.team, spT x.got]
  | [], _, _, _, h => by simp at h
  | y :: l, last, 0, x, h => by
    rw [List.getElem?_cons_zero] at h
    injection h with h
    subst h
    rfl
  | y :: l, last, k + 1, x, h => by
    rw [List.getElem?_cons_succ] at h
    show (lgL y.minute l)[k]? = _
    rw [lgL_at l y.minute k x h]
    rcases k with _ | k
    · rfl
    · rfl
theorem lgL_len : ∀ (l : List Wo) (last : Int), (lgL last l).length = l.length
  | [], _ => rfl
  | y :: l, last => by show (lgL y.minute l).length + 1 = _; rw [lgL_len l]; rfl
theorem okWo_wd {x : Wo} (h : okWo x = true) : (Wd.n x.team).ok ∧ (0 ≤ x.minute ∧ x.minute ≤ 2000) ∧ (Wd.s x.got).ok := by
  unfold okWo at h
  simp only [Bool.and_eq_true, inP_iff, okSp_iff] at h
  obtain ⟨h1, h2, h3⟩ := h
  exact ⟨⟨by omega, by omega⟩, h2, ⟨by omega, by omega, by omega, by omega⟩⟩
theorem prevM_le {l : List Wo} (hs : sortW l = true) (ho : l.all okWo = true) {k : Nat} (hk : k < l.length) : 0 ≤ prevM l k ∧ prevM l k ≤ (l.getD k wo0).minute := by
  have hget : ∀ j, j < l.length → okWo (l.getD j wo0) = true := fun j hj => by
    rw [List.getD_eq_getElem?_getD, List.getElem?_eq_getElem hj]
    exact List.all_eq_true.1 ho _ (List.getElem_mem hj)
  unfold prevM
  split
  · exact ⟨by omega, (okWo_wd (hget k hk)).2.1.1⟩
  · have := sort_drop.1 hs (k - 1) (by omega)
    rw [show k - 1 + 1 = k by omega] at this
    exact ⟨(okWo_wd (hget (k - 1) (by omega))).2.1.1, this⟩
def RLg (l : List Wo) (w0 : World) (b : Nat) (last i : Value) (w : World) : Prop := ∃ k : Nat, k ≤ l.length ∧ last = .int .i64 (prevM l k) ∧ i = .int .i64 k ∧ Below w0.heap.size w0 w ∧ Hld ((lgL 0 l).take k) b w ∧ (textL ((lgL 0 l).take k)).length ≤ 70 * k
theorem line_len {x y z : Wd} (hx : x.ok) (hy : y.ok) (hz : z.ok) : (textL [[x.tx, y.tx, z.tx]]).length ≤ 70 := by
  have := glue_len 32 [x.tx, y.tx, z.tx] (fun t ht => by
    simp only [List.mem_cons, List.not_mem_nil, or_false] at ht
    rcases ht with rfl | rfl | rfl
    · exact wd_len hx
    · exact wd_len hy
    · exact wd_len hz)
  rw [textL_one, List.length_append]
  simp only [List.length_cons, List.length_nil] at this ⊢
  omega
set_option maxRecDepth 100000 in
set_option maxHeartbeats 8000000 in
theorem log_any (A : Option Addr) (c : Nat) (l : List Wo) (w : World) (hE : Env w) (h : At w w.heap.size 4 Wo.cells A l) (hc : checkW l = 0) : Calls Tryz.prog 63 #[.slice A l.length c] w (Ret (tx (logT l)) w) := by
  have HE := Lib.hid hE
  have HL := Lib.hid h
  obtain ⟨h40, ho, hs⟩ := check_zero.1 hc
  have HO := Lib.hid ho
  have HSO := Lib.hid hs
  clear hE h hc ho hs
  go_enter Tryz.func63, Tryz.ntmps63
  have HB0 := Lib.hid (nxA w (.cells #[.pointer none, .slice none 0 0] 115))
  have HH0 := Lib.hid (Hld.new w)
  go_upto_region 2 with fail
  generalize (w.alloc (.cells #[.pointer none, .slice none 0 0] 115)) = V1 at *
  obtain ⟨b, hb⟩ : ∃ b, b = w.heap.size := ⟨_, rfl⟩
  rw [← hb] at HH0 ⊢
  have hwb : w.heap.size ≤ b := by omega
  clear hb
  go_wp2_with fail
  go_loopw [4, 10] (fun last i wr => RLg l w b last i wr) (fun _ i _ => l.length - (intOf i).toNat)
  case atStart => exact ⟨0, by omega, rfl, rfl, HB0.out, HH0.out, by show 0 ≤ _; omega⟩
  case round =>
    obtain ⟨k, hk, rfl, rfl, hb, hh, hlen⟩ := hrel
    have HB := Lib.hid hb
    have HH := Lib.hid hh
    have HLN := Lib.hid hlen
    clear hb hh hlen
    by_cases hlt : k < l.length
    · obtain ⟨q, off, hA, hbk, hcs⟩ := HL.out.below HB.out k l[k] (List.getElem?_eq_getElem hlt)
      have g0 := hcs 0 _ rfl
      have g1 := hcs 1 _ rfl
      have g2 := hcs 2 _ rfl
      have g3 := hcs 3 _ rfl
      simp only [Nat.add_zero] at g0
      have HX := Lib.hid (show l.getD k wo0 = l[k] by rw [List.getD_eq_getElem?_getD, List.getElem?_eq_getElem hlt]; rfl)
      have HPM := Lib.hid (prevM_le HSO.out HO.out hlt)
      have HOX := Lib.hid (okWo_wd (List.all_eq_true.1 HO.out _ (List.getElem_mem hlt)))
      have HAT := Lib.hid (lgL_at l 0 k _ (List.getElem?_eq_getElem hlt))
      have HPS := Lib.hid (prevM_succ l k)
      generalize l[k] = x at *
      rw [HX.out] at HPM HPS
      have HAT := Lib.hid (show (lgL 0 l)[k]? = some [whenT (prevM l k) x.minute, Lib.itoa x.team, spT x.got] from HAT.out)
      obtain ⟨last, hlast⟩ : ∃ last, prevM l k = last := ⟨_, rfl⟩
      rw [hlast] at HPM HAT ⊢
      have HL1 := Lib.hid (take_one HAT.out)
      obtain ⟨x1, ⟨x2, x3⟩, x4⟩ := HOX.out
      obtain ⟨p1, p2⟩ := HPM.out
      have hwk : IntKind.i64.wrap ((k : Int) + 1) = (k : Int) + 1 := IntWalk.i64_in _ (by omega)
      have hwm : IntKind.i64.wrap (x.minute - last) = x.minute - last := IntWalk.i64_in _ (by omega)
      have HX6 := Lib.hid (Bx.new wr #[.int .i64 x.team, .int .i64 x.minute, .int .i64 x.got.lo, .int .i64 x.got.hi] 66)
      have hn := nxA wr (.cells #[.int .i64 x.team, .int .i64 x.minute, .int .i64 x.got.lo, .int .i64 x.got.hi] 66)
      have HB6 := Lib.hid (HB.out.trans (hn.mono HB.out.size))
      have HH6 := Lib.hid (HH.out.next hn)
      clear hn hcs hlast HAT HX
      subst hA
      go_upto_if 17 with fail
      generalize (wr.alloc (.cells #[.int .i64 x.team, .int .i64 x.minute, .int .i64 x.got.lo, .int .i64 x.got.hi] 66)) = V6 at *
      obtain ⟨g, hg⟩ : ∃ g, g = wr.heap.size := ⟨_, rfl⟩
      rw [← hg] at HX6 ⊢
      clear hg g0 g1 g2 g3 HB HH
      go_cut [7] from 17 to 23 (fun s wx => s = tx (whenT last x.minute) ∧ Below V6.heap.size V6 wx)
      case first =>
        by_cases hml : x.minute = last
        · have d1 : (x.minute != last) = false := by simp [hml]
          have HW := Lib.hid (show whenT last x.minute = [61] by unfold whenT; rw [if_neg (by omega)])
          clear hml
          go_wp2_with fail
          go_meet
          exact ⟨by rw [HW.out], Below.refl _ _⟩
        · have d1 : (x.minute != last) = true := by simp [hml]
          have HW := Lib.hid (show whenT last x.minute = 43 :: Lib.itoa (x.minute - last) by unfold whenT; rw [if_pos hml])
          clear hml
          have c1 := HX6.out.c 1 _ rfl
          have l1 := itoa_len (n := x.minute - last) (by omega) (by omega)
          have g1 : ¬ 9223372036854775807 < 1 + (Lib.itoa (x.minute - last)).length := by omega
          have hcat : (⟨#[43]⟩ : ByteArray) ++ (⟨(Lib.itoa (x.minute - last)).toArray⟩ : ByteArray) = ⟨(43 :: Lib.itoa (x.minute - last)).toArray⟩ := by
            apply ByteArray.ext; simp [ByteArray.data_append]
          go_wp2_with fail
          refine (itoa_any (x.minute - last) V6 (HE.out.next HB6.out) (by omega) (by omega)).mono ?_
          rintro e V7 ⟨rfl, hb⟩
          have HB7 := Lib.hid hb
          clear hb
          go_wp2_with fail
          go_meet
          exact ⟨by rw [HW.out], HB7.out⟩
      case rest =>
        obtain ⟨rfl, hbw⟩ := hcut
        have HBc := Lib.hid (HB6.out.trans (hbw.mono HB6.out.size))
        have HHc := Lib.hid (HH6.out.next hbw)
        have HX7 := Lib.hid (HX6.out.next hbw)
        have c0 := HX7.out.c 0 _ rfl
        have c1 := HX7.out.c 1 _ rfl
        have c2 := HX7.out.c 2 _ rfl
        have c3 := HX7.out.c 3 _ rfl
        have HWO := Lib.hid (show (Wd.t (whenT last x.minute)).ok by
          show (whenT last x.minute).length ≤ 20
          unfold whenT
          split
          · have := itoa_len (n := x.minute - last) (by omega) (by omega)
            rw [List.length_cons]; omega
          · decide)
        have hx := Bx.new wc #[(Wd.t (whenT last x.minute)).v, (Wd.n x.team).v, (Wd.s x.got).v] 20
        have hn := nxA wc (.cells #[(Wd.t (whenT last x.minute)).v, (Wd.n x.team).v, (Wd.s x.got).v] 20)
        have HB8 := Lib.hid (HBc.out.trans (hn.mono HBc.out.size))
        have HH8 := Lib.hid (HHc.out.next hn)
        have HR := Lib.hid (row_any (some ⟨wc.heap.size, 0, none⟩) 3 [Wd.t (whenT last x.minute), Wd.n x.team, Wd.s x.got] _ (HE.out.next HB8.out) (at_row hx) (by simp) (by simp) (by
          intro y hy
          simp only [List.mem_cons, List.not_mem_nil, or_false] at hy
          rcases hy with rfl | rfl | rfl
          · exact HWO.out
          · exact x1
          · exact x4))
        clear hbw hx hn HB6 HH6 HX6 HBc HHc
        go_wp2_with fail
        refine HR.out.mono ?_
        rintro e V9 ⟨rfl, hb⟩
        have HB9 := Lib.hid (HB8.out.trans (hb.mono HB8.out.size))
        have HH9 := Lib.hid (HH8.out.next hb)
        clear hb HB8 HH8 HR
        have HLN2 := Lib.hid (show (textL ((lgL 0 l).take (k + 1))).length ≤ 70 * (k + 1) by
          have h1 := line_len HWO.out x1 x4
          have h2 := HLN.out
          rw [HL1.out, textL_app, List.length_append]
          have h3 : (textL [[whenT last x.minute, Lib.itoa x.team, spT x.got]]).length ≤ 70 := h1
          omega)
        go_wp2_with fail
        refine (write_lines _ [[whenT last x.minute, Lib.itoa x.team, spT x.got]] _ (textL_one _).symm b V9 HH9.out (by rw [← HL1.out]; have := HLN2.out; omega)).mono ?_
        rintro e V10 ⟨rfl, hh, hb, -⟩
        rw [← HL1.out] at hh
        have HB10 := Lib.hid (HB9.out.trans (hb.mono hwb))
        have HH10 := Lib.hid hh
        clear hb hh HB9 HH9
        go_wp2_with fail
        (first | (refine ⟨?_, ?_⟩; (unfold RLg; exact ⟨k + 1, by omega, by rw [HPS.out], by go_num, HB10.out, HH10.out, HLN2.out⟩); (simp [intOf]; omega)) | (go_roundw; (case rel => (unfold RLg; exact ⟨k + 1, by omega, by rw [HPS.out], by go_num, HB10.out, HH10.out, HLN2.out⟩)); (case measure => (simp [intOf]; omega))) | (go_round; (case rel => (unfold RLg; exact ⟨k + 1, by omega, by rw [HPS.out], by go_num, HB10.out, HH10.out, HLN2.out⟩)); (case measure => (simp [intOf]; omega))))
    · obtain rfl : k = l.length := by omega
      rw [show (lgL 0 l).take l.length = lgL 0 l from List.take_of_length_le (by rw [lgL_len]; omega)] at HH
      go_wp2_with fail
      refine (String_any _ b _ HH.out).mono ?_
      rintro e V2 ⟨rfl, hb⟩
      have HB2 := Lib.hid (HB.out.trans (hb.mono hwb))
      clear hb
      go_wp2_with fail
      go_ret
      exact ⟨rfl, HB2.out⟩
/-! WriteDrawing, WriteLog. -/
def RetS (s : Tx) (e0 : Int) (w : World) (e : Ending) (w' : World) : Prop := e = .returned (.tuple #[tx s, .int .i64 e0]) ∧ Below w.heap.size w w'
def wrD (d : Pu) : Tx × Int := if okPu d then (dText d, 0) else ([], 1)
def wrL (l : List Wo) : Tx × Int := if checkW l = 0 then (logT l, 0) else ([], checkW l)
set_option maxRecDepth 100000 in
set_option maxHeartbeats 2000000 in
theorem WriteDrawing_any (m : Mp) (w : World) (hE : Env w) (hr : PuAt w w.heap.size m) : Calls Tryz.prog 13 #[.agg #[.int .i64 m.d.play.len, .int .i64 m.d.play.slack, .int .i64 m.d.play.loose, .int .i64 m.d.play.damp.lo, .int .i64 m.d.play.damp.hi, .int .i64 m.d.wide, .int .i64 m.d.high, .bool m.d.turn, .slice m.A m.d.pieces.length m.c]] w (RetS (wrD m.d).1 (wrD m.d).2 w) := by
  have HE := Lib.hid hE
  have HX0 := Lib.hid (Bx.new w #[.int .i64 m.d.play.len, .int .i64 m.d.play.slack, .int .i64 m.d.play.loose, .int .i64 m.d.play.damp.lo, .int .i64 m.d.play.damp.hi, .int .i64 m.d.wide, .int .i64 m.d.high, .bool m.d.turn, .slice m.A m.d.pieces.length m.c] 28)
  have hn := nxA w (.cells #[.int .i64 m.d.play.len, .int .i64 m.d.play.slack, .int .i64 m.d.play.loose, .int .i64 m.d.play.damp.lo, .int .i64 m.d.play.damp.hi, .int .i64 m.d.wide, .int .i64 m.d.high, .bool m.d.turn, .slice m.A m.d.pieces.length m.c] 28)
  have HB0 := Lib.hid hn
  have HR := Lib.hid (hr.next hn)
  clear hE hr hn
  go_enter Tryz.func13, Tryz.ntmps13
  go_upto_region 1 with fail
  generalize (w.alloc (.cells #[.int .i64 m.d.play.len, .int .i64 m.d.play.slack, .int .i64 m.d.play.loose, .int .i64 m.d.play.damp.lo, .int .i64 m.d.play.damp.hi, .int .i64 m.d.wide, .int .i64 m.d.high, .bool m.d.turn, .slice m.A m.d.pieces.length m.c] 28)) = V at *
  obtain ⟨b, hb⟩ : ∃ b, b = w.heap.size := ⟨_, rfl⟩
  rw [← hb] at HX0 ⊢
  clear hb
  have c0 := HX0.out.c 0 _ rfl
  have c1 := HX0.out.c 1 _ rfl
  have c2 := HX0.out.c 2 _ rfl
  have c3 := HX0.out.c 3 _ rfl
  have c4 := HX0.out.c 4 _ rfl
  have c5 := HX0.out.c 5 _ rfl
  have c6 := HX0.out.c 6 _ rfl
  have c7 := HX0.out.c 7 _ rfl
  have c8 := HX0.out.c 8 _ rfl
  go_wp2_with fail
  refine (isDrawing_any m V HR.out).mono ?_
  rintro e V2 ⟨rfl, hb⟩
  have HB2 := Lib.hid (HB0.out.trans (hb.mono HB0.out.size))
  have HR2 := Lib.hid (HR.out.next hb)
  have HX2 := Lib.hid (HX0.out.next hb)
  clear hb c0 c1 c2 c3 c4 c5 c6 c7 c8
  rcases Bool.eq_false_or_eq_true (okPu m.d) with ho | ho
  · have HV := Lib.hid (show wrD m.d = (dText m.d, 0) by unfold wrD; rw [if_pos ho])
    have HD := Lib.hid (drawing_any m V2 (HE.out.next HB2.out) HR2.out ho)
    rw [ho]
    clear ho
    have c0 := HX2.out.c 0 _ rfl
    have c1 := HX2.out.c 1 _ rfl
    have c2 := HX2.out.c 2 _ rfl
    have c3 := HX2.out.c 3 _ rfl
    have c4 := HX2.out.c 4 _ rfl
    have c5 := HX2.out.c 5 _ rfl
    have c6 := HX2.out.c 6 _ rfl
    have c7 := HX2.out.c 7 _ rfl
    have c8 := HX2.out.c 8 _ rfl
    go_wp2_with fail
    refine HD.out.mono ?_
    rintro e V3 ⟨rfl, hb⟩
    have HB3 := Lib.hid (HB2.out.trans (hb.mono HB2.out.size))
    clear hb c0 c1 c2 c3 c4 c5 c6 c7 c8
    go_wp2_with fail
    go_ret2
    exact ⟨by rw [HV.out]; rfl, HB3.out⟩
  · have HV := Lib.hid (show wrD m.d = ([], 1) by unfold wrD; rw [ho]; rfl)
    rw [ho]
    clear ho
    go_wp2_with fail
    go_ret2
    exact ⟨by rw [HV.out]; rfl, HB2.out⟩
set_option maxRecDepth 100000 in
set_option maxHeartbeats 2000000 in
theorem WriteLog_any (A : Option Addr) (c : Nat) (l : List Wo) (w : World) (hE : Env w) (h : At w w.heap.size 4 Wo.cells A l) (hl : l.length ≤ 9223372036854775807) : Calls Tryz.prog 27 #[.slice A l.length c] w (RetS (wrL l).1 (wrL l).2 w) := by
  have HE := Lib.hid hE
  have HL := Lib.hid h
  clear hE h
  go_enter Tryz.func27, Tryz.ntmps27
  go_wp2_with fail
  refine (check_any A c l w HL.out hl).mono ?_
  rintro e V2 ⟨rfl, hb⟩
  have HB2 := Lib.hid hb
  have HL2 := Lib.hid (HL.out.next hb)
  clear hb
  by_cases h0 : checkW l = 0
  · have HV := Lib.hid (show wrL l = (logT l, 0) by unfold wrL; rw [if_pos h0])
    have HD := Lib.hid (log_any A c l V2 (HE.out.next HB2.out) HL2.out h0)
    rw [h0]
    clear h0
    go_wp2_with fail
    refine HD.out.mono ?_
    rintro e V3 ⟨rfl, hb⟩
    have HB3 := Lib.hid (HB2.out.trans (hb.mono HB2.out.size))
    clear hb
    go_wp2_with fail
    go_ret2
    exact ⟨by rw [HV.out]; rfl, HB3.out⟩
  · have HV := Lib.hid (show wrL l = ([], checkW l) by unfold wrL; rw [if_neg h0])
    have d0 : (checkW l != 0) = true := by simp [h0]
    clear h0
    go_wp2_with fail
    go_ret2
    exact ⟨by rw [HV.out]; rfl, HB2.out⟩
end Go.Proofs.YtonnemkecppmiaaGreatDoor
