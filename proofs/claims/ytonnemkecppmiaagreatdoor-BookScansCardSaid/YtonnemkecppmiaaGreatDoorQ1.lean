import Derived.Test.YtonnemkecppmiaaGreatDoorX2
import Derived.Test.YtonnemkecppmiaaGreatDoorX3
import Derived.Test.YtonnemkecppmiaaGreatDoorPln
import Derived.Lib.AtoiErrMem
namespace Go.Proofs.YtonnemkecppmiaaGreatDoor
open Go.RowKit
/-! The program: number; a call that hands back a value or panics with misfit. -/
def iv (n : Int) : Value := .int .i64 n
def Got (o : Option Value) (w : World) (e : Ending) (w' : World) : Prop := match o with
  | some v => e = .returned v ∧ Below w.heap.size w w'
  | none => Miss w e w'
theorem eql_err (t : TypeId) (p : Value) (W : World) : (binOp .eql 117 (.iface t p) .nilIface).run Tryz.prog W = .ok (.bool false) W := by
  simp [go_sem]
set_option maxRecDepth 100000 in
set_option maxHeartbeats 1000000 in
theorem number_any (l : Tx) (w : World) (hE : Env w) (hl : l.length ≤ 70000) : Calls Tryz.prog 41 #[tx l] w (Got ((numP l).map iv) w) := by
  have HE := Lib.hid hE
  clear hE
  have hmax : l.length ≤ 281474976710656 := Nat.le_trans hl (by decide)
  obtain ⟨o, ho⟩ : ∃ o, (numP l).map iv = o := ⟨_, rfl⟩
  rw [ho]
  have HO := Lib.hid ho
  clear ho
  go_enter Tryz.func41, Tryz.ntmps41
  go_wp2_with fail
  rcases ha : Lib.atoiAll l with v | _ | _
  · skip
    refine (Tryz.strconv_Atoi_ok ⟨l.toArray⟩ (Nat.le_trans hl (by decide)) v ha w).mono ?_
    rintro e V ⟨rfl, hw⟩
    have hb : Below w.heap.size w V := by
      rcases hw with rfl | ⟨t, rfl⟩
      · exact Below.refl _ _
      · exact Lib.bytesWorld_below w _ t
    have HB := Lib.hid hb
    clear hw hb
    by_cases h5 : l.length ≤ 5
    · have HP := Lib.hid (show o = some (.int .i64 v) by rw [← HO.out]; unfold numP; rw [ha]; simp [h5, iv])
      have hi5 : (l.length : Int) ≤ 5 := by omega
      clear ha
      go_wp2_with fail
      refine (need_true V).mono ?_
      rintro e V2 ⟨rfl, rfl⟩
      go_wp2_with fail
      go_ret
      rw [HP.out]
      exact ⟨rfl, HB.out⟩
    · have HP := Lib.hid (show o = none by rw [← HO.out]; unfold numP; rw [ha]; simp [h5])
      have hi5 : ¬ (l.length : Int) ≤ 5 := by omega
      clear ha
      go_wp2_with fail
      rw [show decide ((l.length : Int) ≤ 5) = false from decide_eq_false (by omega)]
      refine (need_false V).mono ?_
      rintro e V2 ⟨rfl, hb⟩
      exact ⟨rfl, by rw [HP.out]; exact ⟨rfl, HB.out.trans (hb.mono HB.out.size)⟩⟩
  · skip
    obtain ⟨t, p, hs⟩ := HE.out.syn
    refine (Tryz.strconv_Atoi_syntax ⟨l.toArray⟩ hmax ha _ w hs (.inr ⟨_, _, rfl⟩)).mono ?_
    rintro e V ⟨N, rfl, -, -, hb⟩
    have HB := Lib.hid hb
    have HP := Lib.hid (show o = none by rw [← HO.out]; unfold numP; rw [ha]; rfl)
    clear ha hb hs
    go_wp2_with fail
    refine (need_false V).mono ?_
    rintro e V2 ⟨rfl, hb⟩
    exact ⟨rfl, by rw [HP.out]; exact ⟨rfl, HB.out.trans (hb.mono HB.out.size)⟩⟩
  · skip
    obtain ⟨t, p, hs⟩ := HE.out.rng
    refine (Tryz.strconv_Atoi_range ⟨l.toArray⟩ hmax ha _ w hs (.inr ⟨_, _, rfl⟩)).mono ?_
    rintro e V ⟨N, rfl, -, -, hb⟩
    have HB := Lib.hid hb
    have HP := Lib.hid (show o = none by rw [← HO.out]; unfold numP; rw [ha]; rfl)
    clear ha hb hs
    go_wp2_with fail
    refine (need_false V).mono ?_
    rintro e V2 ⟨rfl, hb⟩
    exact ⟨rfl, by rw [HP.out]; exact ⟨rfl, HB.out.trans (hb.mono HB.out.size)⟩⟩
/-! span. -/
def spv (s : Sp) : Value := .agg #[.int .i64 s.lo, .int .i64 s.hi]
theorem loadSp {w : World} {b : Nat} {a0 a1 : Value} (h : Bx w b [a0, a1]) : (loadVar 23 ⟨b, 0, none⟩).run Tryz.prog w = .ok (.agg #[a0, a1]) w := by
  have c0 := h.c 0 _ rfl
  have c1 := h.c 1 _ rfl
  clear h
  go_simp
theorem cut_len1 (l : Tx) : (Lib.cut l dots).1.length ≤ l.length ∧ (Lib.cut l dots).2.1.length ≤ l.length := by
  unfold Lib.cut
  split <;> constructor <;> simp [List.length_take, List.length_drop, Nat.min_le_right]
theorem spanP_dots {l x y : Tx} (h1 : (Lib.cut l dots).1 = x) (h2 : (Lib.cut l dots).2.1 = y) (h3 : (Lib.cut l dots).2.2 = true) : spanP l = (numP x).bind fun a => (numP y).map fun b => ⟨a, b⟩ := by
  unfold spanP
  rw [h1, h2, h3, if_pos rfl]
  cases numP x <;> cases numP y <;> rfl
theorem spanP_one {l : Tx} (h3 : (Lib.cut l dots).2.2 = false) : spanP l = (numP l).map fun a => ⟨a, a⟩ := by
  unfold spanP
  rw [h3, if_neg (by decide)]
  cases numP l <;> rfl
set_option maxRecDepth 100000 in
set_option maxHeartbeats 2000000 in
theorem span_any (l : Tx) (w : World) (hE : Env w) (hl : l.length ≤ 70000) : Calls Tryz.prog 42 #[tx l] w (Got ((spanP l).map spv) w) := by
  obtain ⟨o, ho⟩ : ∃ o, (spanP l).map spv = o := ⟨_, rfl⟩
  rw [ho]
  have HO := Lib.hid ho
  obtain ⟨m, hm⟩ := hE.mx
  have HB0 := Lib.hid (nxA w (.cells #[.int .i64 0, .int .i64 0] 23))
  have HX0 := Lib.hid (Bx.new w #[.int .i64 0, .int .i64 0] 23)
  have HE := Lib.hid (hE.next HB0.out)
  clear ho hE hm m
  go_enter Tryz.func42, Tryz.ntmps42
  go_upto_region 1 with fail
  generalize (w.alloc (.cells #[.int .i64 0, .int .i64 0] 23)) = V at *
  obtain ⟨b, hb⟩ : ∃ b, b = w.heap.size := ⟨_, rfl⟩
  rw [← hb] at HX0 ⊢
  have HBW := Lib.hid (show w.heap.size ≤ b by rw [hb]; omega)
  clear hb
  obtain ⟨m, hm⟩ := HE.out.mx
  have HC := Lib.hid (Tryz.strings_Cut ⟨l.toArray⟩ ⟨dots.toArray⟩ m V (by show l.length < _; omega) hm)
  obtain ⟨x, hx⟩ : ∃ x, (Lib.cut l dots).1 = x := ⟨_, rfl⟩
  obtain ⟨y, hy⟩ : ∃ y, (Lib.cut l dots).2.1 = y := ⟨_, rfl⟩
  obtain ⟨f, hf⟩ : ∃ f, (Lib.cut l dots).2.2 = f := ⟨_, rfl⟩
  have hxl := (cut_len1 l).1
  have hyl := (cut_len1 l).2
  change Hid (Calls _ _ _ _ fun e w' => e = .returned (.tuple #[.string ⟨(Lib.cut l dots).1.toArray⟩, .string ⟨(Lib.cut l dots).2.1.toArray⟩, .bool (Lib.cut l dots).2.2]) ∧ ∃ n, w' = V.drewN n) at HC
  rw [hx, hy, hf] at HC
  rw [hx] at hxl
  rw [hy] at hyl
  have HD := Lib.hid (fun h => spanP_dots hx hy (hf.trans h))
  have H1 := Lib.hid (fun h => spanP_one (l := l) (hf.trans h))
  clear hx hy hf hm
  go_wp2_with fail
  refine HC.out.mono ?_
  rintro e V1 ⟨rfl, n, rfl⟩
  have HE1 := Lib.hid (HE.out.next (below_drewN (Below.refl V.heap.size V) n))
  have HB1 := Lib.hid (HB0.out.trans ((below_drewN (Below.refl V.heap.size V) n).mono HB0.out.size))
  have HX1 := Lib.hid (HX0.out.drewN (n := n))
  generalize V.drewN n = V1 at *
  clear HC HE HB0 HX0
  have HL := Lib.hid hl
  cases f
  · have HP := Lib.hid (show o = ((numP l).map fun a : Int => (⟨a, a⟩ : Sp)).map spv by rw [← HO.out, H1.out rfl])
    clear HD H1 HO
    have HN := Lib.hid (fun W hW => number_any l W hW hl)
    obtain ⟨q, hq⟩ : ∃ q, numP l = q := ⟨_, rfl⟩
    rw [hq] at HN HP
    clear hq
    go_wp2_with fail
    refine (HN.out V1 HE1.out).mono ?_
    intro e W hg
    cases q with
    | none => 
      obtain ⟨rfl, hb⟩ := hg
      exact ⟨rfl, by rw [HP.out]; exact ⟨rfl, HB1.out.trans (hb.mono HB1.out.size)⟩⟩
    | some a =>
      obtain ⟨rfl, hb⟩ := hg
      have HE2 := Lib.hid (HE1.out.next hb)
      have HB2 := Lib.hid (HB1.out.trans (hb.mono HB1.out.size))
      have HX2 := Lib.hid (HX1.out.next hb)
      clear hb HX1 HB1 HE1
      go_wp2_with fail
      refine (HN.out W HE2.out).mono ?_
      rintro e W3 ⟨rfl, hb⟩
      have HB3 := Lib.hid (HB2.out.trans (hb.mono HB2.out.size))
      have HX3 := Lib.hid (HX2.out.next hb)
      clear hb HX2 HB2
      have g0 := HX3.out.c 0 _ rfl
      have g1 := HX3.out.c 1 _ rfl
      have h0 := HX3.out.fr 0
      have h1 := HX3.out.fr 1
      unfold iv
      go_wp2_with fail
      ((try simp only [Exit.inBlock, Exit.then]); refine bodyPost_ret (results_cell1 rfl rfl (loadSp ((HX3.out.set (k := 0) (by simp) (iv a)).set (k := 1) (by simp) (iv a)))) rfl ?_)
      rw [HP.out]
      exact ⟨rfl, (HB3.out.setCell (p := ⟨b, 0, none⟩) HBW.out _).setCell (p := ⟨b, 1, none⟩) HBW.out _⟩
  · have HP := Lib.hid (show o = ((numP x).bind fun a => (numP y).map fun b => (⟨a, b⟩ : Sp)).map spv by rw [← HO.out, HD.out rfl])
    clear HD H1 HO
    have HN := Lib.hid (fun W hW => number_any x W hW (by omega))
    have HM := Lib.hid (fun W hW => number_any y W hW (by omega))
    obtain ⟨q, hq⟩ : ∃ q, numP x = q := ⟨_, rfl⟩
    obtain ⟨p, hp⟩ : ∃ p, numP y = p := ⟨_, rfl⟩
    rw [hq] at HN HP
    rw [hp] at HM HP
    clear hq hp
    go_wp2_with fail
    refine (HN.out V1 HE1.out).mono ?_
    intro e W hg
    cases q with
    | none => 
      obtain ⟨rfl, hb⟩ := hg
      exact ⟨rfl, by rw [HP.out]; exact ⟨rfl, HB1.out.trans (hb.mono HB1.out.size)⟩⟩
    | some a =>
      obtain ⟨rfl, hb⟩ := hg
      have HE2 := Lib.hid (HE1.out.next hb)
      have HB2 := Lib.hid (HB1.out.trans (hb.mono HB1.out.size))
      have HX2 := Lib.hid (HX1.out.next hb)
      clear hb HX1 HB1 HE1
      go_wp2_with fail
      refine (HM.out W HE2.out).mono ?_
      intro e W3 hg
      cases p with
      | none => 
        obtain ⟨rfl, hb⟩ := hg
        exact ⟨rfl, by rw [HP.out]; exact ⟨rfl, HB2.out.trans (hb.mono HB2.out.size)⟩⟩
      | some c =>
        obtain ⟨rfl, hb⟩ := hg
        have HB3 := Lib.hid (HB2.out.trans (hb.mono HB2.out.size))
        have HX3 := Lib.hid (HX2.out.next hb)
        clear hb HX2 HB2
        have g0 := HX3.out.c 0 _ rfl
        have g1 := HX3.out.c 1 _ rfl
        have h0 := HX3.out.fr 0
        have h1 := HX3.out.fr 1
        unfold iv
        go_wp2_with fail
        ((try simp only [Exit.inBlock, Exit.then]); refine bodyPost_ret (results_cell1 rfl rfl (loadSp ((HX3.out.set (k := 0) (by simp) (iv a)).set (k := 1) (by simp) (iv c)))) rfl ?_)
        rw [HP.out]
        exact ⟨rfl, (HB3.out.setCell (p := ⟨b, 0, none⟩) HBW.out _).setCell (p := ⟨b, 1, none⟩) HBW.out _⟩
end Go.Proofs.YtonnemkecppmiaaGreatDoor
