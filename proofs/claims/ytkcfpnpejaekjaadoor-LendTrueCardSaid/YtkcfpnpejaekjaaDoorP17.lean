import Derived.Test.YtkcfpnpejaekjaaDoorP16
namespace Go.Proofs.YtkcfpnpejaekjaaDoor
open Go.RowKit
/-! The program: Clash. -/
theorem clashL_step (t : Tl) (i : Nat) : clashL t (i + 1) = match clashL t i with
    | some j => some j
    | none => if (List.range t.n.toNat).any (fun k => decide (goneS (t.looks.take (i + 1)) k ≤ seenS (t.looks.take (i + 1)) k)) then some i else none := rfl
theorem clash_some {t : Tl} {i : Nat} (h : clashL t i = none) {k : Nat} (hk : k < t.n.toNat) (he : goneS (t.looks.take (i + 1)) k ≤ seenS (t.looks.take (i + 1)) k) : clashL t (i + 1) = some i := by
  rw [clashL_step, h]
  show (if _ then some i else none) = some i
  rw [if_pos]
  rw [List.any_eq_true]
  exact ⟨k, List.mem_range.2 hk, decide_eq_true he⟩
theorem clash_none {t : Tl} {i : Nat} (h : clashL t i = none) (he : ∀ k, k < t.n.toNat → ¬ goneS (t.looks.take (i + 1)) k ≤ seenS (t.looks.take (i + 1)) k) : clashL t (i + 1) = none := by
  rw [clashL_step, h]
  show (if _ then some i else none) = none
  rw [if_neg]
  rw [List.any_eq_true]
  rintro ⟨k, hk, h2⟩
  exact he k (List.mem_range.1 hk) (of_decide_eq_true h2)
theorem clash_mono {t : Tl} {i j : Nat} (h : clashL t i = some j) : ∀ d : Nat, clashL t (i + d) = some j
  | 0 => h
  | d + 1 => by
    show clashL t ((i + d) + 1) = some j
    rw [clashL_step, clash_mono h d]
theorem clash_all {t : Tl} {n : Nat} (h : clashL t n = none) {i k : Nat} (hi : i < n) (hk : k < t.n.toNat) : ¬ goneS (t.looks.take (i + 1)) k ≤ seenS (t.looks.take (i + 1)) k := fun he => by
  have h1 : clashL t i = none := by
    cases h2 : clashL t i with
    | none => rfl
    | some j =>
      have := clash_mono h2 (n - i)
      rw [show i + (n - i) = n by omega, h] at this; cases this
  have := clash_mono (clash_some h1 hk he) (n - (i + 1))
  rw [show i + 1 + (n - (i + 1)) = n by omega, h] at this; cases this
theorem clash_open {t : Tl} (h : clashL t t.looks.length = none) {k : Nat} (hk : k < t.n.toNat) : ¬ emptyW t k := by
  unfold emptyW
  cases hl : t.looks.length with
  | zero =>
    have e : t.looks = [] := List.eq_nil_of_length_eq_zero hl
    rw [e]
    show ¬ ((mxH + 1 : Int) ≤ 0)
    decide
  | succ n =>
    have := clash_all h (i := n) (by omega) hk
    rw [← hl, List.take_length] at this
    exact this
def retCl (x : Int × Int) : Value := .tuple #[.int .i64 x.1, .int .i64 x.2]
def ClO (m : Mt) (w : World) (b4 i : Nat) (W : World) : Prop := Below w.heap.size w W ∧ Bx W w.heap.size m.cells ∧ clashL m.t i = none ∧ ∃ vs : List Value, vs.length = 32 ∧ Bx W b4 vs
/-- Within a round: the first pieces have a window. -/
def ClI (m : Mt) (w : World) (b4 i k : Nat) (W : World) : Prop := ClO m w b4 i W ∧ ∀ q, q < k → ¬ goneS (m.t.looks.take (i + 1)) q ≤ seenS (m.t.looks.take (i + 1)) q
set_option maxRecDepth 100000 in
set_option maxHeartbeats 4000000 in
theorem Clash_any (m : Mt) (w : World) (hr : TaleAt w w.heap.size m) : Calls Tryd.prog 22 #[.agg #[.int .i64 m.t.n, .slice m.A1 m.t.loans.length m.c1, .slice m.A2 m.t.looks.length m.c2, .slice m.A3 m.t.admits.length m.c3]] w (Ret (retCl (clashS m.t)) w) := by
  have n1 := nxA w (.cells #[.int .i64 m.t.n, .slice m.A1 m.t.loans.length m.c1, .slice m.A2 m.t.looks.length m.c2, .slice m.A3 m.t.admits.length m.c3] 26)
  have y1 := Bx.new w #[.int .i64 m.t.n, .slice m.A1 m.t.loans.length m.c1, .slice m.A2 m.t.looks.length m.c2, .slice m.A3 m.t.admits.length m.c3] 26
  have HR := Lib.hid hr
  have HB := Lib.hid n1
  have HX := Lib.hid y1
  have HRV := Lib.hid (hr.next n1)
  clear hr n1 y1
  have HD := Lib.hid (show clashS m.t = if okTale m.t = false then ((0 : Int), (1 : Int)) else match clashL m.t m.t.looks.length with
    | some i => ((i : Int), 0)
    | none => if fitB m.t = false then ((m.t.looks.length : Int), 0) else (0, 4) from rfl)
  go_enter Tryd.func22, Tryd.ntmps22
  go_upto_region 1 with fail
  generalize w.alloc (.cells #[.int .i64 m.t.n, .slice m.A1 m.t.loans.length m.c1, .slice m.A2 m.t.looks.length m.c2, .slice m.A3 m.t.admits.length m.c3] 26) = V at *
  have c0 := HX.out.c 0 _ rfl
  have c1 := HX.out.c 1 _ rfl
  have c2 := HX.out.c 2 _ rfl
  have c3 := HX.out.c 3 _ rfl
  have hl := HX.out.lt
  go_wp2_with fail
  refine (isTale_any m _ HRV.out).mono ?_
  rintro e W1 ⟨rfl, hb1⟩
  have HB1 := Lib.hid (HB.out.trans (hb1.mono HB.out.size))
  have X1 := Lib.hid (HX.out.next hb1)
  have R1 := Lib.hid (HRV.out.next hb1)
  clear hb1 c0 c1 c2 c3 hl
  cases ht : okTale m.t
  · rw [ht] at HD
    clear ht
    go_wp2_with fail
    (try simp only [Exit.inBlock, Exit.then])
    refine bodyPost_ret (results_tmp2 rfl _ _ _) rfl ?_
    exact ⟨by rw [HD.out]; rfl, HB1.out⟩
  · rw [ht] at HD
    have OK := Lib.hid (okT_of ht)
    clear ht
    have HD2 := Lib.hid (HD.out.trans (if_neg (by decide)))
    clear HD
    go_upto_region 4 with fail
    have n4 := nxA W1 (.cells #[.int .i64 0, .int .i64 0, .int .i64 0, .int .i64 0, .int .i64 0, .int .i64 0, .int .i64 0, .int .i64 0, .int .i64 0, .int .i64 0, .int .i64 0, .int .i64 0, .int .i64 0, .int .i64 0, .int .i64 0, .int .i64 0, .int .i64 0, .int .i64 0, .int .i64 0, .int .i64 0, .int .i64 0, .int .i64 0, .int .i64 0, .int .i64 0, .int .i64 0, .int .i64 0, .int .i64 0, .int .i64 0, .int .i64 0, .int .i64 0, .int .i64 0, .int .i64 0] 79)
    have y4 := Bx.new W1 #[.int .i64 0, .int .i64 0, .int .i64 0, .int .i64 0, .int .i64 0, .int .i64 0, .int .i64 0, .int .i64 0, .int .i64 0, .int .i64 0, .int .i64 0, .int .i64 0, .int .i64 0, .int .i64 0, .int .i64 0, .int .i64 0, .int .i64 0, .int .i64 0, .int .i64 0, .int .i64 0, .int .i64 0, .int .i64 0, .int .i64 0, .int .i64 0, .int .i64 0, .int .i64 0, .int .i64 0, .int .i64 0, .int .i64 0, .int .i64 0, .int .i64 0, .int .i64 0] 79
    have HB4 := Lib.hid (HB1.out.trans (n4.mono HB1.out.size))
    have X4 := Lib.hid (X1.out.next n4)
    have Y4 := Lib.hid y4
    clear n4 y4
    generalize W1.alloc (.cells #[.int .i64 0, .int .i64 0, .int .i64 0, .int .i64 0, .int .i64 0, .int .i64 0, .int .i64 0, .int .i64 0, .int .i64 0, .int .i64 0, .int .i64 0, .int .i64 0, .int .i64 0, .int .i64 0, .int .i64 0, .int .i64 0, .int .i64 0, .int .i64 0, .int .i64 0, .int .i64 0, .int .i64 0, .int .i64 0, .int .i64 0, .int .i64 0, .int .i64 0, .int .i64 0, .int .i64 0, .int .i64 0, .int .i64 0, .int .i64 0, .int .i64 0, .int .i64 0] 79) = W4 at *
    obtain ⟨b4, hb4⟩ : ∃ b4, b4 = W1.heap.size := ⟨_, rfl⟩
    rw [← hb4] at Y4 ⊢
    have hb4w : w.heap.size < b4 := by rw [hb4]; exact X1.out.lt
    have HBW := Lib.hid hb4w
    clear hb4
    obtain ⟨n, hn⟩ : ∃ n : Nat, m.t.n = n := ⟨m.t.n.toNat, by have := OK.out.n1; omega⟩
    have HN := Lib.hid (show m.t.n.toNat = n by omega)
    have hn16 : n ≤ 16 := by have := OK.out.n2; omega
    have HC0 := Lib.hid (show ∀ W, Bx W w.heap.size m.cells → W.cell? ⟨w.heap.size, 0, none⟩ = some (.int .i64 n) from fun W h => by have := h.c 0 _ rfl; rw [hn] at this; exact this)
    have hlk := OK.out.lk
    clear hn
    have c2 := X4.out.c 2 _ rfl
    have HOI := Lib.hid (fun i W => show ClO m w b4 i W ↔ Below w.heap.size w W ∧ Bx W w.heap.size m.cells ∧ clashL m.t i = none ∧ ∃ vs : List Value, vs.length = 32 ∧ Bx W b4 vs from Iff.rfl)
    go_wp2_with fail
    clear c2
    go_loopw [15] (fun iv wr => ∃ i : Nat, iv = .int .i64 i ∧ i ≤ m.t.looks.length ∧ ClO m w b4 i wr) (fun iv _ => m.t.looks.length - (intOf iv).toNat)
    case atStart => exact ⟨0, rfl, by omega, (HOI.out _ _).2 ⟨HB4.out, X4.out, rfl, _, rfl, Y4.out⟩⟩
    case round =>
      obtain ⟨i, rfl, hi, ho⟩ := hrel
      have HO := Lib.hid ho
      by_cases hlt : i < m.t.looks.length
      · have c0 := HC0.out _ ((HOI.out _ _).1 ho).2.1
        have HMN := Lib.hid ((HOI.out _ _).1 ho).2.2.1
        clear ho
        go_wp2_with fail
        clear c0
        go_loopw [20] (fun kv wi => ∃ k : Nat, kv = .int .i64 k ∧ k ≤ n ∧ ClI m w b4 i k wi) (fun kv _ => n - (intOf kv).toNat)
        case atStart => exact ⟨0, rfl, by omega, HO.out, fun q hq => by omega⟩
        case round =>
          obtain ⟨k, rfl, hk, hin, hne⟩ := hrel
          have HNE := Lib.hid hne
          obtain ⟨hb, hx, hcl, vs, hvs, hv⟩ := (HOI.out _ _).1 hin
          clear hin hne
          by_cases hkn : k < n
          · have HX := Lib.hid hx
            have HV := Lib.hid hv
            have HBi := Lib.hid hb
            have HRi := Lib.hid ((HR.out.below hb).more hb.size)
            obtain ⟨b, off, eA, hbk, -⟩ := look_at HRi.out.lk hlt
            have c2 := hx.c 2 _ rfl
            rw [eA] at c2
            have hat : At wr wr.heap.size 3 Look.cells (some ⟨b, off, none⟩) (m.t.looks.take (i + 1)) := by
              have := HRi.out.lk
              rw [eA] at this
              exact this.pre' (List.take_append_drop (i + 1) m.t.looks).symm
            have hkc := HRi.out.k2
            have hic : i + 1 ≤ m.c2 := by omega
            have hlx := hx.lt
            have hlv := hv.lt
            have HWO := windowOf_any (some ⟨b, off, none⟩) m.c2 (m.t.looks.take (i + 1)) m.t.n.toNat k wr hat (by rw [List.length_take]; omega) (fun x hx => by have := OK.out.look x (List.mem_of_mem_take hx); exact ⟨this.2.1, this.2.2.1⟩) (by rw [HN.out]; exact hn16) (by omega)
            rw [List.length_take, Nat.min_eq_left (by omega)] at HWO
            have HWW := Lib.hid HWO
            have hw1 : IntKind.i64.wrap ((i : Int) + 1) = ((i + 1 : Nat) : Int) := by rw [IntKind.wrap_i64]; omega
            have hI5 : 0 ≤ (i : Int) + 1 := by omega
            have hI6 : (i : Int) + 1 ≤ (m.c2 : Int) := by omega
            clear hb hx hv eA hat HWO
            go_wp2_with fail
            refine HWW.out.mono ?_
            rintro e W5 ⟨rfl, hb5⟩
            have Q1 := Lib.hid (HX.out.next hb5)
            have Q4 := Lib.hid (HV.out.next hb5)
            have QB := Lib.hid (HBi.out.trans (hb5.mono HBi.out.size))
            have hv0 : vs[k * 2]? = some (vs[k * 2]'(by omega)) := List.getElem?_eq_getElem _
            have hv1 : vs[k * 2 + 1]? = some (vs[k * 2 + 1]'(by omega)) := List.getElem?_eq_getElem _
            have a0 := Q4.out.c _ _ hv0
            have a1 := Q4.out.c _ _ hv1
            have f0 := Q4.out.fr (k * 2)
            have f1 := Q4.out.fr (k * 2 + 1)
            have l4 := Q4.out.lt
            generalize vs[k * 2]'(by omega) = u0 at *
            generalize vs[k * 2 + 1]'(by omega) = u1 at *
            have HE := Lib.hid (show ¬ goneS (m.t.looks.take (i + 1)) k ≤ seenS (m.t.looks.take (i + 1)) k → ∀ q, q < k + 1 → ¬ goneS (m.t.looks.take (i + 1)) q ≤ seenS (m.t.looks.take (i + 1)) q from fun h q hq => by
              by_cases e : q = k
              · subst e; exact h
              · have := HNE.out q (by omega); omega)
            have HS := Lib.hid (fun h => clash_some HMN.out (k := k) (by rw [HN.out]; exact hkn) h)
            generalize seenS (m.t.looks.take (i + 1)) k = sv at *
            generalize goneS (m.t.looks.take (i + 1)) k = gv at *
            clear c2 hw1 hI5 hI6 hb5 hv0 hv1
            go_upto_region 11 with fail
            have N4 := Lib.hid (((Q4.out.set (k := k * 2) (by omega) (.int .i64 sv)).set (k := k * 2 + 1) (by rw [List.length_set]; omega) (.int .i64 gv)))
            have N1 := Lib.hid ((Q1.out.other (g := b4) (by omega) (k * 2) (.int .i64 sv)).other (g := b4) (by omega) (k * 2 + 1) (.int .i64 gv))
            have NB := Lib.hid ((QB.out.setCell (p := ⟨b4, k * 2, none⟩) (by show w.heap.size ≤ b4; omega) (.int .i64 sv)).setCell (p := ⟨b4, k * 2 + 1, none⟩) (by show w.heap.size ≤ b4; omega) (.int .i64 gv))
            have NL := Lib.hid (show ((vs.set (k * 2) (.int .i64 sv)).set (k * 2 + 1) (.int .i64 gv)).length = 32 from by rw [List.length_set, List.length_set]; exact hvs)
            clear a0 a1 f0 f1 l4
            generalize (W5.setCell ⟨b4, k * 2, none⟩ (.int .i64 sv)).setCell ⟨b4, k * 2 + 1, none⟩ (.int .i64 gv) = W6 at *
            have a0 := N4.out.c (k * 2) (.int .i64 sv) (by rw [List.getElem?_set_ne (by omega), List.getElem?_set_self (by omega)])
            have a1 := N4.out.c (k * 2 + 1) (.int .i64 gv) (by rw [List.getElem?_set_self (by rw [List.length_set]; omega)])
            have l4 := N4.out.lt
            generalize (vs.set (k * 2) (.int .i64 sv)).set (k * 2 + 1) (.int .i64 gv) = vs' at *
            go_wp2_with fail
            refine (isEmpty_any sv gv W6).mono ?_
            rintro e W7 ⟨rfl, hb7⟩
            have M4 := Lib.hid (N4.out.next hb7)
            have M1 := Lib.hid (N1.out.next hb7)
            have MB := Lib.hid (NB.out.trans (hb7.mono NB.out.size))
            clear a0 a1 l4 hb7
            by_cases he : gv ≤ sv
            · have d1 : decide (gv ≤ sv) = true := decide_eq_true he
              have HC := Lib.hid (HS.out he)
              have hcm := Lib.hid (show clashL m.t m.t.looks.length = some i from by
                have := clash_mono HC.out (m.t.looks.length - (i + 1))
                rw [show i + 1 + (m.t.looks.length - (i + 1)) = m.t.looks.length by omega] at this
                exact this)
              rw [d1]
              clear he d1
              go_wp2_with fail
              (try simp only [Exit.inBlock, Exit.then])
              refine bodyPost_ret (results_tmp2 rfl _ _ _) rfl ?_
              refine ⟨?_, MB.out⟩
              rw [HD2.out, hcm.out]; rfl
            · have d1 : decide (gv ≤ sv) = false := decide_eq_false he
              have HF := Lib.hid (show ClI m w b4 i (k + 1) W7 from ⟨(HOI.out _ _).2 ⟨MB.out, M1.out, HMN.out, vs', NL.out, M4.out⟩, fun q hq => Int.not_le.2 (HE.out (by omega) q hq)⟩)
              rw [d1]
              clear he d1
              go_wp2_with fail
              exact ⟨⟨k + 1, by go_num, by omega, HF.out⟩, by simp [intOf]; omega⟩
          · obtain rfl : k = n := by omega
            have HF := Lib.hid (show ClO m w b4 (i + 1) wr from (HOI.out _ _).2 ⟨hb, hx, clash_none HMN.out (fun q hq => by have := HNE.out q (by rw [HN.out] at hq; exact hq); omega), vs, hvs, hv⟩)
            clear hb hx hcl hv
            go_wp2_with fail
            exact ⟨⟨i + 1, by go_num, by omega, HF.out⟩, by simp [intOf]; omega⟩
      · obtain rfl : i = m.t.looks.length := by omega
        obtain ⟨hb, hx, hcl, vs, hvs, hv⟩ := (HOI.out _ _).1 ho
        have HBi := Lib.hid hb
        have HX := Lib.hid hx
        have HCL := Lib.hid hcl
        have HRi := Lib.hid ((HR.out.below hb).more hb.size)
        rw [HCL.out] at HD2
        dsimp only at HD2
        have c0 := hx.c 0 _ rfl
        have c1 := hx.c 1 _ rfl
        have c2 := hx.c 2 _ rfl
        have c3 := hx.c 3 _ rfl
        have hlx := hx.lt
        clear hb hx hcl hv ho HO hvs
        go_wp2_with fail
        refine (open_any m wr HRi.out OK.out).mono ?_
        rintro e W7 ⟨hb7, hop⟩
        have hopx : e = .returned (.tuple #[.agg (bkA m (opG m.t m.t.n.toNat)).toList.toArray, .bool true]) := by
          rcases hop with ⟨-, rfl⟩ | ⟨⟨k, hk, h1⟩, -⟩
          · rw [Array.toArray_toList]
          · exact absurd h1 (clash_open HCL.out hk)
        subst hopx
        have HB7 := Lib.hid (HBi.out.trans (hb7.mono HBi.out.size))
        have X7 := Lib.hid (HX.out.next hb7)
        have n9 := nxA W7 (.cells #[.int .i64 0, .slice none 0 0, .slice none 0 0, .slice none 0 0, .int .i64 0, .int .i64 0, .int .i64 0, .int .i64 0, .int .i64 0, .int .i64 0, .int .i64 0, .int .i64 0, .int .i64 0, .int .i64 0, .int .i64 0, .int .i64 0, .int .i64 0, .int .i64 0, .int .i64 0, .int .i64 0] 69)
        have y9 := Bx.new W7 #[.int .i64 0, .slice none 0 0, .slice none 0 0, .slice none 0 0, .int .i64 0, .int .i64 0, .int .i64 0, .int .i64 0, .int .i64 0, .int .i64 0, .int .i64 0, .int .i64 0, .int .i64 0, .int .i64 0, .int .i64 0, .int .i64 0, .int .i64 0, .int .i64 0, .int .i64 0, .int .i64 0] 69
        obtain ⟨L, hL⟩ : ∃ L, L = (bkA m (opG m.t m.t.n.toNat)).toList := ⟨_, rfl⟩
        have HL := Lib.hid hL
        have HL20 := Lib.hid (show L.length = 20 from by rw [hL]; rfl)
        have HLC := Lib.hid (show L.toArray.all (·.oneCell') = true from by rw [hL]; exact bk_one _ _)
        have HLA := Lib.hid (show L.toArray = bkA m (opG m.t m.t.n.toNat) from by rw [hL, Array.toArray_toList])
        have HSA := Lib.hid (show (Tryd.prog.info? 69).map (·.size) = some L.toArray.size from by rw [show L.toArray.size = 20 from by simpa using HL20.out]; exact bk_size)
        have HSI := Lib.hid (show (Tryd.prog.info? 69).map (·.size) = some L.length from by rw [HL20.out]; exact bk_size)
        have HTH := Lib.hid (show (W7.alloc (.cells #[.int .i64 0, .slice none 0 0, .slice none 0 0, .slice none 0 0, .int .i64 0, .int .i64 0, .int .i64 0, .int .i64 0, .int .i64 0, .int .i64 0, .int .i64 0, .int .i64 0, .int .i64 0, .int .i64 0, .int .i64 0, .int .i64 0, .int .i64 0, .int .i64 0, .int .i64 0, .int .i64 0] 69)).there W7.heap.size 0 L.toArray.size from by rw [show L.toArray.size = 20 from by simpa using HL20.out]; exact bk_there y9 rfl)
        have Z9 := Lib.hid (y9.setAll L (by rw [HL20.out]; rfl))
        have Z1 := Lib.hid ((X7.out.next n9).setOther (g := W7.heap.size) (by have := X7.out.lt; omega) L 0)
        have HB9 := Lib.hid (below_setCells (b := W7.heap.size) (by have := HB7.out.size; omega) L 0 (HB7.out.trans (n9.mono HB7.out.size)))
        rw [← wset_eq] at Z9 HB9 Z1
        rw [← hL]
        clear hL hb7 hop n9 y9 c0 c1 c2 c3 hlx
        go_upto_region 16 with (refine wpList_store_mid rfl 69 (.tmp 7) (.tmp 42) rfl W7.heap.size 0 L.toArray rfl rfl HTH.out HSA.out HLC.out ?_)
        generalize (W7.alloc (.cells #[.int .i64 0, .slice none 0 0, .slice none 0 0, .slice none 0 0, .int .i64 0, .int .i64 0, .int .i64 0, .int .i64 0, .int .i64 0, .int .i64 0, .int .i64 0, .int .i64 0, .int .i64 0, .int .i64 0, .int .i64 0, .int .i64 0, .int .i64 0, .int .i64 0, .int .i64 0, .int .i64 0] 69)).setCells W7.heap.size 0 L = W9 at *
        generalize W7.heap.size = b9 at *
        have HRNG := Lib.hid Z9.out.range
        have HFO := Lib.hid (fit_op OK.out)
        go_wp2_with (refine wpList_load_mid rfl 69 (.tmp 7) rfl b9 0 rfl L _ HRNG.out bk_und rfl HSI.out ?_)
        rw [HLA.out]
        refine (fits_bk m _ W9 ((HR.out.below HB9.out).more HB9.out.size) (op_bk OK.out)).mono ?_
        rintro e W10 ⟨rb, rfl, hb10, hiff⟩
        have HF := Lib.hid (show rb = fitB m.t from Bool.eq_iff_iff.2 (hiff.trans HFO.out))
        have Z1n := Lib.hid (Z1.out.next hb10)
        have HB10 := Lib.hid (HB9.out.trans (hb10.mono HB9.out.size))
        rw [← HLA.out]
        rw [← HF.out] at HD2
        have c2 := Z1n.out.c 2 _ rfl
        have l1 := Z1n.out.lt
        clear hb10 hiff
        cases rb
        · have HD3 := Lib.hid (HD2.out.trans (if_pos rfl))
          clear HD2 HF
          go_wp2_with fail
          (try simp only [Exit.inBlock, Exit.then])
          refine bodyPost_ret (results_tmp2 rfl _ _ _) rfl ?_
          exact ⟨by rw [HD3.out]; rfl, HB10.out⟩
        · have HD3 := Lib.hid (HD2.out.trans (if_neg (by decide)))
          clear HD2 HF
          go_wp2_with fail
          (try simp only [Exit.inBlock, Exit.then])
          refine bodyPost_ret (results_tmp2 rfl _ _ _) rfl ?_
          exact ⟨by rw [HD3.out]; rfl, HB10.out⟩
end Go.Proofs.YtkcfpnpejaekjaaDoor
