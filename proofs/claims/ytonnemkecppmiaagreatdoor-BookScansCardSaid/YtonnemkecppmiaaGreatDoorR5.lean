import Derived.Test.YtonnemkecppmiaaGreatDoorR4
import Derived.Test.YtonnemkecppmiaaGreatDoorP11
namespace Go.Proofs.YtonnemkecppmiaaGreatDoor
open Go.RowKit
/-! The reference: WriteDrawing; Cut, number, word. -/
set_option maxRecDepth 100000 in
set_option maxHeartbeats 2000000 in
theorem WriteDrawingR_any (m : Mp) (w : World) (hr : PuAt w w.heap.size m) : Calls Tryz.prog 14 #[.agg #[.int .i64 m.d.play.len, .int .i64 m.d.play.slack, .int .i64 m.d.play.loose, .int .i64 m.d.play.damp.lo, .int .i64 m.d.play.damp.hi, .int .i64 m.d.wide, .int .i64 m.d.high, .bool m.d.turn, .slice m.A m.d.pieces.length m.c]] w (RetS (wrD m.d).1 (wrD m.d).2 w) := by
  have HX0 := Lib.hid (Bx.new w #[.int .i64 m.d.play.len, .int .i64 m.d.play.slack, .int .i64 m.d.play.loose, .int .i64 m.d.play.damp.lo, .int .i64 m.d.play.damp.hi, .int .i64 m.d.wide, .int .i64 m.d.high, .bool m.d.turn, .slice m.A m.d.pieces.length m.c] 28)
  have hn := nxA w (.cells #[.int .i64 m.d.play.len, .int .i64 m.d.play.slack, .int .i64 m.d.play.loose, .int .i64 m.d.play.damp.lo, .int .i64 m.d.play.damp.hi, .int .i64 m.d.wide, .int .i64 m.d.high, .bool m.d.turn, .slice m.A m.d.pieces.length m.c] 28)
  have HB0 := Lib.hid hn
  have HR := Lib.hid (hr.next hn)
  clear hr hn
  go_enter Tryz.func14, Tryz.ntmps14
  go_upto_region 1 with fail
  generalize (w.alloc (.cells #[.int .i64 m.d.play.len, .int .i64 m.d.play.slack, .int .i64 m.d.play.loose, .int .i64 m.d.play.damp.lo, .int .i64 m.d.play.damp.hi, .int .i64 m.d.wide, .int .i64 m.d.high, .bool m.d.turn, .slice m.A m.d.pieces.length m.c] 28)) = V at *
  obtain ⟨b, hb⟩ : ∃ b, b = w.heap.size := ⟨_, rfl⟩
  rw [← hb] at HX0 ⊢
  clear hb
  have c0 := HX0.out.c 0 _ rfl
  have c1 := HX0.out.c 1 _ rfl
  have c2 := HX0.out.c 2 _ rfl
  have c3 := HX0.out.c 3 _ rfl
  have c4 := HX0.out.c 4 _ rfl
  have c5 := HX0.out.c 5 _ rfl
  have c6 := HX0.out.c 6 _ rfl
  have c7 := HX0.out.c 7 _ rfl
  have c8 := HX0.out.c 8 _ rfl
  go_wp2_with fail
  refine (Drawing_any m V HR.out).mono ?_
  rintro e V2 ⟨rfl, hb⟩
  have HB2 := Lib.hid (HB0.out.trans (hb.mono HB0.out.size))
  have HR2 := Lib.hid (HR.out.next hb)
  have HX2 := Lib.hid (HX0.out.next hb)
  clear hb c0 c1 c2 c3 c4 c5 c6 c7 c8
  rcases Bool.eq_false_or_eq_true (okPu m.d) with ho | ho
  · have HV := Lib.hid (show wrD m.d = (dText m.d, 0) by unfold wrD; rw [if_pos ho])
    have HD := Lib.hid (drawingR_any m V2 HR2.out ho)
    rw [ho]
    clear ho
    have c0 := HX2.out.c 0 _ rfl
    have c1 := HX2.out.c 1 _ rfl
    have c2 := HX2.out.c 2 _ rfl
    have c3 := HX2.out.c 3 _ rfl
    have c4 := HX2.out.c 4 _ rfl
    have c5 := HX2.out.c 5 _ rfl
    have c6 := HX2.out.c 6 _ rfl
    have c7 := HX2.out.c 7 _ rfl
    have c8 := HX2.out.c 8 _ rfl
    go_wp2_with fail
    refine HD.out.mono ?_
    rintro e V3 ⟨rfl, hb⟩
    have HB3 := Lib.hid (HB2.out.trans (hb.mono HB2.out.size))
    clear hb c0 c1 c2 c3 c4 c5 c6 c7 c8
    go_wp2_with fail
    go_ret2
    exact ⟨by rw [HV.out]; rfl, HB3.out⟩
  · have HV := Lib.hid (show wrD m.d = ([], 1) by unfold wrD; rw [ho]; rfl)
    rw [ho]
    clear ho
    go_wp2_with fail
    go_ret2
    exact ⟨by rw [HV.out]; rfl, HB2.out⟩
theorem ext_mid (s : Tx) (a b : Nat) : (⟨s.toArray⟩ : ByteArray).extract a b = ⟨((s.drop a).take (b - a)).toArray⟩ := by
  apply ByteArray.ext; simp
theorem ba_get (s : Tx) (k : Nat) (h : k < s.length) : (⟨s.toArray⟩ : ByteArray)[k]'(show k < s.toArray.size by simpa using h) = s[k] := rfl
theorem ba_eq_t {s : Tx} {k : Nat} (h : k < s.length) {c : UInt8} (e : s[k] = c) : (((((⟨s.toArray⟩ : ByteArray)[k]'(show k < s.toArray.size by simpa using h)).toNat : Nat) : Int) == ((c.toNat : Nat) : Int)) = true := by
  rw [ba_get s k h, e]; simp
theorem ba_eq_f {s : Tx} {k : Nat} (h : k < s.length) {c : UInt8} (e : s[k] ≠ c) : (((((⟨s.toArray⟩ : ByteArray)[k]'(show k < s.toArray.size by simpa using h)).toNat : Nat) : Int) == ((c.toNat : Nat) : Int)) = false := by
  rw [ba_get s k h]
  simp only [beq_eq_false_iff_ne, ne_eq, Int.natCast_inj]
  exact fun e' => e (UInt8.toNat_inj.1 e')
/-- What holds between two steps of Cut. -/
structure CutI (c : UInt8) (s : Tx) (from_ i : Nat) (out : List Tx) : Prop where
  le : i ≤ s.length + 1
  fr : from_ ≤ i
  n : out.length ≤ i
  open_ : i ≤ s.length → splitC c s = out ++ splitC c (s.drop from_) ∧ c ∉ (s.drop from_).take (i - from_)
  shut : i = s.length + 1 → out = splitC c s
theorem CutI.start (c : UInt8) (s : Tx) : CutI c s 0 0 [] := ⟨by omega, by omega, by simp, fun _ => by simp, fun h => by omega⟩
theorem CutI.last {c : UInt8} {s : Tx} {f : Nat} {out : List Tx} (h : CutI c s f s.length out) : CutI c s (s.length + 1) (s.length + 1) (out ++ [(s.drop f).take (s.length - f)]) := by
  obtain ⟨h1, h2⟩ := h.open_ (Nat.le_refl _)
  have e : (s.drop f).take (s.length - f) = s.drop f := List.take_of_length_le (by rw [List.length_drop]; omega)
  rw [e] at h2 ⊢
  exact ⟨by omega, by omega, by have := h.n; simp; omega, fun h => by omega, fun _ => by rw [h1, splitC_none h2]⟩
theorem CutI.cut {c : UInt8} {s : Tx} {f i : Nat} {out : List Tx} (h : CutI c s f i out) (hi : i < s.length) (hc : s[i] = c) : CutI c s (i + 1) (i + 1) (out ++ [(s.drop f).take (i - f)]) := by
  obtain ⟨h1, h2⟩ := h.open_ (Nat.le_of_lt hi)
  have hf := h.fr
  have e : s.drop f = (s.drop f).take (i - f) ++ c :: s.drop (i + 1) := by
    have e1 : (s.drop f).drop (i - f) = c :: s.drop (i + 1) := by
      rw [List.drop_drop, show f + (i - f) = i by omega, List.drop_eq_getElem_cons hi, hc]
    rw [← e1, List.take_append_drop]
  refine ⟨by omega, by omega, by have := h.n; simp; omega, fun _ => ⟨?_, by simp⟩, fun h => by omega⟩
  rw [h1, e, splitC_cons _ h2, ← e]
  simp
theorem CutI.skip {c : UInt8} {s : Tx} {f i : Nat} {out : List Tx} (h : CutI c s f i out) (hi : i < s.length) (hc : s[i] ≠ c) : CutI c s f (i + 1) out := by
  obtain ⟨h1, h2⟩ := h.open_ (Nat.le_of_lt hi)
  have hf := h.fr
  refine ⟨by omega, by omega, by have := h.n; omega, fun _ => ⟨h1, ?_⟩, fun h => by omega⟩
  have hl : i - f < (s.drop f).length := by rw [List.length_drop]; omega
  rw [show i + 1 - f = (i - f) + 1 by omega, List.take_succ_eq_append_getElem hl, List.mem_append, List.mem_singleton, List.getElem_drop]
  rintro (h | h)
  · exact h2 h
  · apply hc; rw [h]; congr 1; omega
def RetC (l : List Tx) (w : World) (e : Ending) (w' : World) : Prop := ∃ v, e = .returned v ∧ w'.ownsRow w.heap.size 9 1 v l.length (l.map tx) ∧ Below w.heap.size w w'
def RCu (c : UInt8) (s : Tx) (w0 : World) (v f i : Value) (w : World) : Prop := ∃ (a k : Nat) (out : List Tx), i = .int .i64 k ∧ f = .int .i64 a ∧ CutI c s a k out ∧ w.ownsRow w0.heap.size 9 1 v out.length (out.map tx) ∧ Below w0.heap.size w0 w
set_option maxRecDepth 100000 in
set_option maxHeartbeats 4000000 in
theorem Cut_any (c : UInt8) (s : Tx) (hs : s.length ≤ 70000) (w : World) : Calls Tryz.prog 44 #[tx s, .int .u8 (c.toNat : Int)] w (RetC (splitC c s) w) := by
  obtain ⟨i0, hi, hz0, hz1, hz2⟩ := info_parts str_info
  go_enter Tryz.func44, Tryz.ntmps44
  go_wp2
  go_loopw [5, 6, 7] (fun v f i wr => RCu c s w v f i wr) (fun _ _ i _ => s.length + 1 - (intOf i).toNat)
  case atStart => exact ⟨0, 0, [], rfl, rfl, CutI.start c s, World.ownsRow_nil _ _ _ _, Below.refl _ _⟩
  case round =>
    obtain ⟨a, k, out, rfl, rfl, hcu, hown, hb⟩ := hrel
    have HCU := Lib.hid hcu
    have HOWN := Lib.hid hown
    have HB := Lib.hid hb
    have hk1 := hcu.le
    have hak := hcu.fr
    have hon := hcu.n
    clear hcu hown hb
    have hwk : IntKind.i64.wrap ((k : Int) + 1) = (k : Int) + 1 := IntWalk.i64_in _ (by omega)
    by_cases hle : k ≤ s.length
    · by_cases he : k = s.length
      · have HCL := Lib.hid (show CutI c s (k + 1) (k + 1) (out ++ [(s.drop a).take (k - a)]) by subst he; exact HCU.out.last)
        have d1 : ((k : Int) == (s.length : Int)) = true := by simp [he]
        clear he
        go_wp2_with (at_builtin; refine wpList_append_own _ rfl (.tmp 25) (.tmp 30) 79 rfl w.heap.size 9 i0 (.string ⟨#[]⟩) 1 16 Tryz.underlying79 hi hz0 hz1 hz2 rfl (by decide) _ out.length _ rfl (HOWN.out.alloc _) ⟨wr.heap.size, 0, none⟩ 1 1 [_] rfl rfl (cell_one_new _ _ _) (by simp [Value.oneCell']) (by unfold maxLen; omega) (by omega) (by have := HB.out.size; simp; omega) ?_; intro v' w' hown' hgrow _)
        have HB2 := Lib.hid (Below.grown (HB.out.alloc HB.out.size (.cells #[.string ((⟨s.toArray⟩ : ByteArray).extract a k)] 9)) hgrow (by have := HB.out.size; simp; omega) (fun j hj => (HOWN.out.lt j hj).1))
        have HOW2 := Lib.hid (show w'.ownsRow w.heap.size 9 1 v' (out ++ [(s.drop a).take (k - a)]).length ((out ++ [(s.drop a).take (k - a)]).map tx) by rw [List.length_append, List.map_append]; rw [ext_mid] at hown'; exact hown')
        clear hown' hgrow
        go_wp2_with fail
        (first | (refine ⟨?_, ?_⟩; (unfold RCu; exact ⟨k + 1, k + 1, _, by go_num, by go_num, HCL.out, HOW2.out, HB2.out⟩); (simp [intOf]; omega)) | (go_roundw; (case rel => (unfold RCu; exact ⟨k + 1, k + 1, _, by go_num, by go_num, HCL.out, HOW2.out, HB2.out⟩)); (case measure => (simp [intOf]; omega))) | (go_round; (case rel => (unfold RCu; exact ⟨k + 1, k + 1, _, by go_num, by go_num, HCL.out, HOW2.out, HB2.out⟩)); (case measure => (simp [intOf]; omega))))
      · have hlt : k < s.length := by omega
        have d1 : ((k : Int) == (s.length : Int)) = false := by simp; omega
        by_cases hc : s[k] = c
        · have HCL := Lib.hid (HCU.out.cut hlt hc)
          have hcb := ba_eq_t hlt hc
          go_wp2_with (at_builtin; refine wpList_append_own _ rfl (.tmp 25) (.tmp 30) 79 rfl w.heap.size 9 i0 (.string ⟨#[]⟩) 1 16 Tryz.underlying79 hi hz0 hz1 hz2 rfl (by decide) _ out.length _ rfl (HOWN.out.alloc _) ⟨wr.heap.size, 0, none⟩ 1 1 [_] rfl rfl (cell_one_new _ _ _) (by simp [Value.oneCell']) (by unfold maxLen; omega) (by omega) (by have := HB.out.size; simp; omega) ?_; intro v' w' hown' hgrow _)
          have HB2 := Lib.hid (Below.grown (HB.out.alloc HB.out.size (.cells #[.string ((⟨s.toArray⟩ : ByteArray).extract a k)] 9)) hgrow (by have := HB.out.size; simp; omega) (fun j hj => (HOWN.out.lt j hj).1))
          have HOW2 := Lib.hid (show w'.ownsRow w.heap.size 9 1 v' (out ++ [(s.drop a).take (k - a)]).length ((out ++ [(s.drop a).take (k - a)]).map tx) by rw [List.length_append, List.map_append]; rw [ext_mid] at hown'; exact hown')
          clear hown' hgrow
          go_wp2_with fail
          (first | (refine ⟨?_, ?_⟩; (unfold RCu; exact ⟨k + 1, k + 1, _, by go_num, by go_num, HCL.out, HOW2.out, HB2.out⟩); (simp [intOf]; omega)) | (go_roundw; (case rel => (unfold RCu; exact ⟨k + 1, k + 1, _, by go_num, by go_num, HCL.out, HOW2.out, HB2.out⟩)); (case measure => (simp [intOf]; omega))) | (go_round; (case rel => (unfold RCu; exact ⟨k + 1, k + 1, _, by go_num, by go_num, HCL.out, HOW2.out, HB2.out⟩)); (case measure => (simp [intOf]; omega))))
        · have HCL := Lib.hid (HCU.out.skip hlt hc)
          have hcb := ba_eq_f hlt hc
          go_wp2_with fail
          (first | (refine ⟨?_, ?_⟩; (unfold RCu; exact ⟨a, k + 1, out, by go_num, rfl, HCL.out, HOWN.out, HB.out⟩); (simp [intOf]; omega)) | (go_roundw; (case rel => (unfold RCu; exact ⟨a, k + 1, out, by go_num, rfl, HCL.out, HOWN.out, HB.out⟩)); (case measure => (simp [intOf]; omega))) | (go_round; (case rel => (unfold RCu; exact ⟨a, k + 1, out, by go_num, rfl, HCL.out, HOWN.out, HB.out⟩)); (case measure => (simp [intOf]; omega))))
    · have HSH := Lib.hid (HCU.out.shut (by omega))
      go_wp2_with fail
      go_ret
      exact ⟨_, rfl, by rw [← HSH.out]; exact HOWN.out, HB.out⟩
set_option maxRecDepth 100000 in
set_option maxHeartbeats 1000000 in
theorem word_any (line : Tx) (n : Nat) (hl : line.length ≤ 70000) (w : World) : Calls Tryz.prog 46 #[tx line, .int .i64 (n : Int)] w (Ret (tx (wordR line n)) w) := by
  have HC := Lib.hid (Cut_any 32 line hl w)
  have HW := Lib.hid (show wordR line n = (splitC 32 line).getD n [] from rfl)
  generalize splitC 32 line = l at HC HW
  go_enter Tryz.func46, Tryz.ntmps46
  go_wp2_with fail
  refine HC.out.mono ?_
  rintro e V ⟨v, rfl, hown, hb⟩
  obtain ⟨A, c, rfl, hc⟩ := own_form hown
  have HB := Lib.hid hb
  clear hb hown HC
  by_cases hlt : n < l.length
  · obtain ⟨b, rfl, -, -, hcell⟩ := hc n (tx l[n]) (by rw [List.getElem?_map, List.getElem?_eq_getElem hlt]; rfl)
    have HW2 := Lib.hid (show wordR line n = l[n] by rw [HW.out, List.getD_eq_getElem?_getD, List.getElem?_eq_getElem hlt]; rfl)
    generalize l[n] = x at hcell HW2
    clear HW
    go_wp2_with fail
    go_ret
    rw [HW2.out]
    exact ⟨rfl, HB.out⟩
  · have HW2 := Lib.hid (show wordR line n = [] by rw [HW.out, List.getD_eq_getElem?_getD, List.getElem?_eq_none (by omega)]; rfl)
    clear HW
    go_wp2_with fail
    go_ret
    rw [HW2.out]
    exact ⟨rfl, HB.out⟩
/-! number. -/
theorem spell_snoc (l : Tx) (c : UInt8) : spell 0 (l ++ [c]) = spell 0 l * 10 + (c.toNat - 48) := by rw [spell_app]; rfl
theorem digs_of {l : Tx} (h : l.all digB = true) : ∀ c ∈ l, isDig c := fun c hc => by
  have := List.all_eq_true.1 h c hc
  unfold digB at this
  simp at this
  exact this
def RNu (l : Tx) (w0 : World) (n i : Value) (w : World) : Prop := ∃ (k v : Nat), k ≤ l.length ∧ i = .int .i64 k ∧ n = .int .i64 v ∧ v = spell 0 (l.take k) ∧ (l.take k).all digB = true ∧ v < 100000 ∧ w = w0
set_option maxRecDepth 100000 in
set_option maxHeartbeats 1000000 in
theorem numberR_any (l : Tx) (hl : l.length ≤ 70000) (w : World) : Calls Tryz.prog 45 #[tx l] w (RetQ (.int .i64 (numR l)) w) := by
  have HN := Lib.hid (show numR l = if l = [] ∨ 5 < l.length ∨ l.all digB = false then (-1 : Int) else ((spell 0 l : Nat) : Int) from rfl)
  by_cases h1 : l.length < 1
  · have HN2 := Lib.hid (show numR l = -1 by rw [HN.out, if_pos (.inl (List.length_eq_zero_iff.1 (by omega)))])
    have d1 : decide (l.length < 1) = true := decide_eq_true h1
    clear HN
    go_enter Tryz.func45, Tryz.ntmps45
    go_wp2_with fail
    go_ret
    rw [HN2.out]
    exact ⟨rfl, rfl⟩
  · by_cases h5 : 5 < l.length
    · have HN2 := Lib.hid (show numR l = -1 by rw [HN.out, if_pos (.inr (.inl h5))])
      have d1 : decide (l.length < 1) = false := decide_eq_false h1
      have d2 : decide (5 < l.length) = true := decide_eq_true h5
      clear HN
      go_enter Tryz.func45, Tryz.ntmps45
      go_wp2_with fail
      go_ret
      rw [HN2.out]
      exact ⟨rfl, rfl⟩
    · have d1 : decide (l.length < 1) = false := decide_eq_false h1
      have d2 : decide (5 < l.length) = false := decide_eq_false h5
      go_enter Tryz.func45, Tryz.ntmps45
      go_wp2_with fail
      go_loopw [3, 4] (fun n i wr => RNu l w n i wr) (fun _ i _ => l.length - (intOf i).toNat)
      case atStart => exact ⟨0, 0, by omega, rfl, rfl, (by rw [List.take_zero]; rfl), (by rw [List.take_zero]; rfl), by omega, rfl⟩
      case round =>
        obtain ⟨k, v, hk, rfl, rfl, hv, hall, hv5, hw⟩ := hrel
        have hw2 := hw.symm
        clear hw
        subst hw2
        have hwk : IntKind.i64.wrap ((k : Int) + 1) = (k : Int) + 1 := IntWalk.i64_in _ (by omega)
        by_cases hlt : k < l.length
        · have HT := Lib.hid (List.take_succ_eq_append_getElem hlt)
          have hg := ba_get l k hlt
          have HA := Lib.hid (fun h => all_step (p := digB) hlt hall h)
          have HF := Lib.hid (fun h => all_fail (p := digB) hlt h)
          have hbd : spell 0 (l.take (k + 1)) < 100000 ∨ digB l[k] = false := by
            cases hd : digB l[k]
            · exact .inr rfl
            · left
              have h1 := spell_lt (l.take (k + 1)) (digs_of (all_step (p := digB) hlt hall hd)) 0
              have h2 : (l.take (k + 1)).length ≤ 5 := by rw [List.length_take]; omega
              have h3 : 10 ^ (l.take (k + 1)).length ≤ 10 ^ 5 := Nat.pow_le_pow_right (by omega) h2
              omega
          have HBD := Lib.hid hbd
          have hsp := Lib.hid (spell_snoc (l.take k) l[k])
          rw [← HT.out, ← hv] at hsp
          have HDB := Lib.hid (show digB l[k] = (decide (48 ≤ l[k].toNat) && decide (l[k].toNat ≤ 57)) from rfl)
          have hq : ((⟨l.toArray⟩ : ByteArray)[k]'(show k < l.toArray.size by simpa using hlt)).toNat = l[k].toNat := by rw [hg]
          generalize digB l[k] = dg at *
          have hqb : l[k].toNat < 256 := l[k].toNat_lt
          generalize l[k].toNat = q at *
          clear hg hbd hall hv
          by_cases q1 : q < 48
          · have e1 : decide ((q : Int) < 48) = true := decide_eq_true (by omega)
            have e2 : decide (q < 48) = true := decide_eq_true q1
            have HN2 := Lib.hid (show numR l = -1 by rw [HN.out, if_pos (.inr (.inr (HF.out (by rw [HDB.out, show decide (48 ≤ q) = false from decide_eq_false (by omega)]; rfl))))])
            clear HN HF HA HDB q1
            go_wp2_with fail
            go_ret
            rw [HN2.out]
            exact ⟨rfl, rfl⟩
          · have e1 : decide ((q : Int) < 48) = false := decide_eq_false (by omega)
            have e2 : decide (q < 48) = false := decide_eq_false q1
            by_cases q3 : 57 < q
            · have e3 : decide (57 < (q : Int)) = true := decide_eq_true (by omega)
              have e4 : decide (57 < q) = true := decide_eq_true q3
              have HN2 := Lib.hid (show numR l = -1 by rw [HN.out, if_pos (.inr (.inr (HF.out (by rw [HDB.out, show decide (q ≤ 57) = false from decide_eq_false (by omega)]; simp))))])
              clear HN HF HA HDB
              go_wp2_with fail
              go_ret
              rw [HN2.out]
              exact ⟨rfl, rfl⟩
            · have e3 : decide (57 < (q : Int)) = false := decide_eq_false (by omega)
              have e4 : decide (57 < q) = false := decide_eq_false q3
              have hdg : dg = true := by rw [HDB.out, show decide (48 ≤ q) = true from decide_eq_true (by omega), show decide (q ≤ 57) = true from decide_eq_true (by omega)]; rfl
              have HA2 := Lib.hid (HA.out hdg)
              have hb5 : spell 0 (l.take (k + 1)) < 100000 := by
                rcases HBD.out with h | h
                · exact h
                · rw [hdg] at h; cases h
              have hm : IntKind.i64.wrap (10 * (v : Int)) = 10 * (v : Int) := IntWalk.i64_in _ (by omega)
              have hs1 : IntKind.u8.wrap ((q : Int) - 48) = (q : Int) - 48 := by rw [IntKind.wrap_u8]; omega
              have hs2 : IntKind.i64.wrap ((q : Int) - 48) = (q : Int) - 48 := IntWalk.i64_in _ (by omega)
              have hs3 : IntKind.i64.wrap (10 * (v : Int) + ((q : Int) - 48)) = 10 * (v : Int) + ((q : Int) - 48) := IntWalk.i64_in _ (by omega)
              obtain ⟨v', hv'⟩ : ∃ v' : Nat, v' = v * 10 + (q - 48) := ⟨_, rfl⟩
              have HV := Lib.hid (show 10 * (v : Int) + ((q : Int) - 48) = (v' : Int) by omega)
              have HV2 := Lib.hid (show v' = spell 0 (l.take (k + 1)) by rw [hsp.out, hv'])
              have hv5' : v' < 100000 := by rw [HV2.out]; exact hb5
              clear hv' hsp HBD hb5 HN HF HDB HA hdg q1 q3
              go_wp2_with fail
              rw [HV.out]
              (first | (refine ⟨?_, ?_⟩; (unfold RNu; exact ⟨k + 1, v', by omega, by go_num, rfl, HV2.out, HA2.out, hv5', rfl⟩); (simp [intOf]; omega)) | (go_roundw; (case rel => (unfold RNu; exact ⟨k + 1, v', by omega, by go_num, rfl, HV2.out, HA2.out, hv5', rfl⟩)); (case measure => (simp [intOf]; omega))) | (go_round; (case rel => (unfold RNu; exact ⟨k + 1, v', by omega, by go_num, rfl, HV2.out, HA2.out, hv5', rfl⟩)); (case measure => (simp [intOf]; omega))))
        · obtain rfl : k = l.length := by omega
          rw [List.take_length] at hall hv
          have HN2 := Lib.hid (show numR l = (v : Int) by rw [HN.out, if_neg (by rintro (h | h | h); (subst h; simp at h1); (exact h5 h); (rw [hall] at h; cases h)), hv])
          clear HN hall hv
          go_wp2_with fail
          go_ret
          rw [HN2.out]
          exact ⟨rfl, rfl⟩
end Go.Proofs.YtonnemkecppmiaaGreatDoor
