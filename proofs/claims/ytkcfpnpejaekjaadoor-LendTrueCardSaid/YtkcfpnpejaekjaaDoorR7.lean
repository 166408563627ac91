import Derived.Test.YtkcfpnpejaekjaaDoorR6
import Derived.Test.YtkcfpnpejaekjaaDoorAns
import Derived.Test.YtkcfpnpejaekjaaDoorP11
namespace Go.Proofs.YtkcfpnpejaekjaaDoor
open Go.RowKit
/-! The reference: Can. -/
/-- Who can have lost a piece, if one piece was lost by somebody. -/
def wantS (t : Tl) (piece who : Int) (i q : Nat) : Bool := suspB t i q && !(decide ((i : Int) = piece) && !decide ((q : Int) = who))
theorem want_none (t : Tl) (who : Int) : wantS t (-1) who = suspB t := by
  funext i q; unfold wantS
  rw [decide_eq_false (show ¬ ((i : Int) = -1) by omega)]; simp
theorem want_only (t : Tl) (k p : Nat) : wantS t (k : Int) (p : Int) = onlyS (suspB t) k p := by
  funext i q; unfold wantS onlyS
  rw [show decide ((i : Int) = (k : Int)) = decide (i = k) from decide_eq_decide.2 (by omega), show decide ((q : Int) = (p : Int)) = decide (q = p) from decide_eq_decide.2 (by omega)]
def canR (t : Tl) (piece who : Int) (f : Nat) (l : List Int) : Bool := canB (fun k => wantS t piece who (f + k)) (t.n.toNat - f) l
theorem canR_end {t : Tl} {piece who : Int} {l : List Int} : canR t piece who t.n.toNat l = l.all fun m => decide (m ≤ 0) := by unfold canR; rw [Nat.sub_self]; rfl
/-- Can a piece be given to somebody? -/
def goB (t : Tl) (piece who : Int) (f : Nat) (l : List Int) (p : Nat) : Bool := wantS t piece who f p && !decide (l.getD p (-1) = 0) && canR t piece who (f + 1) (decL l p)
theorem canR_step {t : Tl} {piece who : Int} {f : Nat} {l : List Int} (h : f < t.n.toNat) : canR t piece who f l = (List.range 8).any (goB t piece who f l) := by
  unfold canR
  obtain ⟨d, hd⟩ : ∃ d, t.n.toNat - f = d + 1 := ⟨t.n.toNat - f - 1, by omega⟩
  rw [hd]
  show (List.range 8).any (fun p => wantS t piece who (f + 0) p && !decide (l.getD p (-1) = 0) && canB (fun k => wantS t piece who (f + (k + 1))) d (decL l p)) = _
  congr 1
  funext p
  unfold goB canR
  rw [show t.n.toNat - (f + 1) = d by omega, Nat.add_zero]
  congr 2
  funext k
  rw [show f + (k + 1) = f + 1 + k by omega]
theorem canR_yes {t : Tl} {piece who : Int} {f : Nat} {l : List Int} (h : f < t.n.toNat) {p : Nat} (hp : p < 8) (hg : goB t piece who f l p = true) : canR t piece who f l = true := by
  rw [canR_step h, List.any_eq_true]; exact ⟨p, List.mem_range.2 hp, hg⟩
theorem canR_no {t : Tl} {piece who : Int} {f : Nat} {l : List Int} (h : f < t.n.toNat) (hg : ∀ p, p < 8 → goB t piece who f l p = false) : canR t piece who f l = false := by
  rw [canR_step h, List.any_eq_false]
  intro p hp; rw [hg p (List.mem_range.1 hp)]; decide
theorem goB_of {t : Tl} {piece who : Int} {f : Nat} {l : List Int} {p : Nat} (h1 : wantS t piece who f p = true) (h2 : l.getD p (-1) ≠ 0) : goB t piece who f l p = canR t piece who (f + 1) (decL l p) := by
  unfold goB; rw [h1, decide_eq_false h2]; rfl
theorem goB_w {t : Tl} {piece who : Int} {f : Nat} {l : List Int} {p : Nat} (h1 : wantS t piece who f p = false) : goB t piece who f l p = false := by unfold goB; rw [h1]; rfl
theorem goB_z {t : Tl} {piece who : Int} {f : Nat} {l : List Int} {p : Nat} (h2 : l.getD p (-1) = 0) : goB t piece who f l p = false := by unfold goB; rw [decide_eq_true h2]; simp
theorem dec_bd {l : List Int} {p : Nat} (h : ∀ x ∈ l, -1 ≤ x ∧ x ≤ 16) : ∀ x ∈ decL l p, -1 ≤ x ∧ x ≤ 16 := fun x hx => by
  unfold decL at hx
  split at hx
  · rename_i h0
    rcases List.mem_or_eq_of_mem_set hx with h1 | h1
    · exact h x h1
    · rw [List.getD_eq_getElem?_getD] at h0 h1
      cases hp : l[p]? with
      | none => rw [hp] at h0; exact absurd h0 (by decide)
      | some y =>
        rw [hp] at h0 h1
        have := h y (List.mem_of_getElem? hp)
        have h0 : 0 < y := h0
        have h1 : x = y - 1 := h1
        omega
  · exact h x hx
theorem dec_ln (l : List Int) (p : Nat) : (decL l p).length = l.length := by unfold decL; split <;> simp
theorem getD_sub {l : List Int} {p : Nat} (hp : p < l.length) : l.getD p (-1) = l.getD p 0 := by
  rw [List.getD_eq_getElem?_getD, List.getD_eq_getElem?_getD, List.getElem?_eq_getElem hp]; rfl
def RCl (w : World) (left : List Int) (iv : Value) (W : World) : Prop := ∃ i : Nat, i ≤ left.length ∧ iv = .int .i64 i ∧ Below w.heap.size w W ∧ (left.take i).all (fun m => decide (m ≤ 0)) = true
def RCp (w : World) (m : Mt) (piece who : Int) (f : Nat) (left : List Int) (pv : Value) (W : World) : Prop := ∃ p : Nat, p ≤ 8 ∧ pv = .int .i64 p ∧ Below w.heap.size w W ∧ Bx W w.heap.size m.cells ∧ ∀ q, q < p → goB m.t piece who f left q = false
set_option maxRecDepth 100000 in
set_option maxHeartbeats 4000000 in
theorem Can_any (m : Mt) (ok : OkT m.t) (piece who : Int) (d : Nat) : ∀ (f : Nat) (left : List Int) (A : Option Addr) (c : Nat) (w : World), m.t.n.toNat - f = d → f ≤ m.t.n.toNat → TaleAt w w.heap.size m → At w w.heap.size 1 icell A left → 1 ≤ left.length ∧ left.length ≤ 6 → (∀ x ∈ left, -1 ≤ x ∧ x ≤ 16) →
    Calls Tryd.prog 44 #[.agg #[.int .i64 m.t.n, .slice m.A1 m.t.loans.length m.c1, .slice m.A2 m.t.looks.length m.c2, .slice m.A3 m.t.admits.length m.c3], .int .i64 f, .slice A left.length c, .int .i64 piece, .int .i64 who] w (Ret (.bool (canR m.t piece who f left)) w) := by
  have OK := Lib.hid ok
  have hn1 := ok.n1
  have hn2 := ok.n2
  obtain ⟨n, hn⟩ : ∃ n : Nat, m.t.n = n := ⟨m.t.n.toNat, by omega⟩
  have HN := Lib.hid (show m.t.n.toNat = n by omega)
  have HNN := Lib.hid hn
  have hn16 : n ≤ 16 := by omega
  obtain ⟨i0, hi0, hz0, hz1, hz2⟩ := info_parts int_info
  clear ok hn hn1 hn2
  induction d with
  | zero =>
    intro f left A c w hd hf hr hat hl hb
    rw [HN.out] at hd hf
    obtain rfl : f = n := by omega
    have HAT := Lib.hid hat
    have HE := Lib.hid (show canR m.t piece who f left = left.all fun m => decide (m ≤ 0) from by have := canR_end (t := m.t) (piece := piece) (who := who) (l := left); rw [HN.out] at this; exact this)
    have HB := Lib.hid (nxA w (.cells #[.int .i64 m.t.n, .slice m.A1 m.t.loans.length m.c1, .slice m.A2 m.t.looks.length m.c2, .slice m.A3 m.t.admits.length m.c3] 26))
    have HX := Lib.hid (Bx.new w #[.int .i64 m.t.n, .slice m.A1 m.t.loans.length m.c1, .slice m.A2 m.t.looks.length m.c2, .slice m.A3 m.t.admits.length m.c3] 26)
    have hlr := hl.2
    clear hr hat hd hf hb hi0 hz0 hz1 hz2
    go_enter Tryd.func44, Tryd.ntmps44
    go_upto_region 1 with fail
    generalize w.alloc (.cells #[.int .i64 m.t.n, .slice m.A1 m.t.loans.length m.c1, .slice m.A2 m.t.looks.length m.c2, .slice m.A3 m.t.admits.length m.c3] 26) = V at *
    have c0 := HX.out.c 0 (.int .i64 f) (by rw [← HNN.out]; rfl)
    have hlx := HX.out.lt
    go_wp2_with fail
    clear c0 hlx
    go_loopw [11] (fun iv wr => RCl w left iv wr) (fun iv _ => left.length - (intOf iv).toNat)
    case atStart => exact ⟨0, by omega, rfl, HB.out, rfl⟩
    case round =>
      obtain ⟨i, hi, rfl, hbl, hall⟩ := hrel
      have HBL := Lib.hid hbl
      by_cases hlt : i < left.length
      · obtain ⟨b, off, e, hbk, h0⟩ := int_at (HAT.out.below hbl) hlt
        have hbs := Nat.lt_of_lt_of_le hbk hbl.size
        have hg : left[i] = left.getD i 0 := by rw [List.getD_eq_getElem?_getD, List.getElem?_eq_getElem hlt]; rfl
        have Ha := Lib.hid (all_step (p := fun m => decide (m ≤ 0)) hlt hall)
        have Hf := Lib.hid (all_fail (p := fun m => decide (m ≤ 0)) hlt)
        rw [hg] at Ha Hf
        generalize left.getD i 0 = x at *
        clear hall hbl hg
        subst e
        by_cases hx : x ≤ 0
        · have d1 : decide (0 < x) = false := decide_eq_false (by omega)
          have HF := Lib.hid (show RCl w left (.int .i64 ((i + 1 : Nat) : Int)) wr from ⟨i + 1, by omega, rfl, HBL.out, Ha.out (decide_eq_true hx)⟩)
          clear hx
          go_wp2_with fail
          refine ⟨?_, by simp [intOf]; omega⟩
          have := HF.out
          rwa [show (((i + 1 : Nat) : Int)) = (i : Int) + 1 by push_cast; rfl] at this
        · have d1 : decide (0 < x) = true := decide_eq_true (by omega)
          have HF := Lib.hid (Hf.out (decide_eq_false hx))
          clear hx
          go_wp2_with fail
          go_ret
          exact ret_bool (by rw [HE.out, HF.out]) HBL.out
      · have HF := Lib.hid (all_full hlt hall)
        clear hall
        go_wp2_with fail
        go_ret
        exact ret_bool (by rw [HE.out, HF.out]) HBL.out
  | succ d ih =>
    intro f left A c w hd hf hr hat hl hb
    rw [HN.out] at hd hf
    have hfn : f < n := by omega
    have HFN := Lib.hid (show f < m.t.n.toNat by rw [HN.out]; exact hfn)
    have IH := Lib.hid ih
    have HAT := Lib.hid hat
    have HR := Lib.hid hr
    have HBD := Lib.hid hb
    have HL := Lib.hid hl
    have HD := Lib.hid (show m.t.n.toNat - (f + 1) = d ∧ f + 1 ≤ m.t.n.toNat by rw [HN.out]; omega)
    have HB := Lib.hid (nxA w (.cells #[.int .i64 m.t.n, .slice m.A1 m.t.loans.length m.c1, .slice m.A2 m.t.looks.length m.c2, .slice m.A3 m.t.admits.length m.c3] 26))
    have HX := Lib.hid (Bx.new w #[.int .i64 m.t.n, .slice m.A1 m.t.loans.length m.c1, .slice m.A2 m.t.looks.length m.c2, .slice m.A3 m.t.admits.length m.c3] 26)
    have hlr := hl.2
    obtain ⟨bA, oA, eA, hbA, -⟩ := int_at hat (k := 0) (by omega)
    subst eA
    clear hr hat hd hf hb ih hl
    go_enter Tryd.func44, Tryd.ntmps44
    go_upto_region 1 with fail
    generalize w.alloc (.cells #[.int .i64 m.t.n, .slice m.A1 m.t.loans.length m.c1, .slice m.A2 m.t.looks.length m.c2, .slice m.A3 m.t.admits.length m.c3] 26) = V at *
    have c0 := HX.out.c 0 (.int .i64 n) (by rw [← HNN.out]; rfl)
    have hlx := HX.out.lt
    have hne : ((f : Int) == (n : Int)) = false := by simp; omega
    go_upto_region 8 with fail
    clear c0
    have c0 := HX.out.c 0 _ rfl
    have c1 := HX.out.c 1 _ rfl
    have c2 := HX.out.c 2 _ rfl
    have c3 := HX.out.c 3 _ rfl
    go_wp2_with fail
    refine (Suspects_any m f V (HR.out.next HB.out) OK.out (by omega)).mono ?_
    rintro e W1 ⟨rfl, hb1⟩
    have HB1 := Lib.hid (HB.out.trans (hb1.mono HB.out.size))
    have X1 := Lib.hid (HX.out.next hb1)
    clear hb1 c0 c1 c2 c3 hlx hne
    obtain ⟨set, hset⟩ : ∃ set, set = susp m.t.loans m.t.looks f := ⟨_, rfl⟩
    rw [← hset]
    have HSB := Lib.hid (show ∀ q, suspB m.t f q = has set q from fun q => by rw [hset]; rfl)
    have hs256 : set < 256 := by
      rw [hset]
      refine Nat.lt_pow_two_of_testBit (n := 8) _ fun i hi => ?_
      cases e : (susp m.t.loans m.t.looks f).testBit i with
      | false => rfl
      | true => have := suspB_lt OK.out.lent (fun x hx => (OK.out.look x hx).1) f i e; omega
    clear hset
    go_wp2_with fail
    go_loopw [13] (fun pv wr => RCp w m piece who f left pv wr) (fun pv _ => 8 - (intOf pv).toNat)
    case atStart => exact ⟨0, by omega, rfl, HB1.out, X1.out, fun q hq => by omega⟩
    case round =>
      obtain ⟨p, hp, rfl, hbl, hx, hno⟩ := hrel
      have HBL := Lib.hid hbl
      have HXl := Lib.hid hx
      have HNO := Lib.hid hno
      clear hx hno
      by_cases hlt : p < 8
      · have hp7 : (p : Int) ≤ 7 := by omega
        have HH := Lib.hid (fun W => has_any set p (by omega) (by omega) W)
        have HFIN := Lib.hid (fun (W : World) (h1 : Below w.heap.size w W) (h2 : Bx W w.heap.size m.cells) (h3 : goB m.t piece who f left p = false) => (show RCp w m piece who f left (.int .i64 ((p + 1 : Nat) : Int)) W from ⟨p + 1, by omega, rfl, h1, h2, fun q hq => by
          by_cases e : q = p
          · subst e; exact h3
          · exact HNO.out q (by omega)⟩))
        have HW := Lib.hid (show wantS m.t piece who f p = (has set p && !(decide ((f : Int) = piece) && !decide ((p : Int) = who))) from by unfold wantS; rw [HSB.out])
        have HATW := Lib.hid (HAT.out.below hbl)
        have hbAw := Nat.lt_of_lt_of_le hbA hbl.size
        clear hbl
        cases hA : has set p
        · have HS := Lib.hid (HFIN.out wr HBL.out HXl.out (goB_w (by rw [HW.out, hA]; rfl)))
          rw [hA] at HH
          clear hA
          go_wp2_with (go_at_call 60; (with_reducible refine (HH.out _).mono ?_); rintro e w' ⟨rfl, rfl⟩)
          refine ⟨?_, by simp [intOf]; omega⟩
          have := HS.out
          rwa [show (((p + 1 : Nat) : Int)) = (p : Int) + 1 by push_cast; rfl] at this
        · rw [hA] at HH
          by_cases hB1 : (f : Int) = piece
          · have e1 : ((f : Int) == piece) = true := by simp [hB1]
            by_cases hB2 : (p : Int) = who
            · have e2 : ((p : Int) != who) = false := by simp [hB2]
              have HWW := Lib.hid (show wantS m.t piece who f p = true from by rw [HW.out, hA, decide_eq_true hB1, decide_eq_true hB2]; rfl)
              clear hA hB1 hB2
              by_cases hpl : p < left.length
              · obtain ⟨b', o', e', hb', h0⟩ := int_at HATW.out hpl
                injection e' with e'
                injection e' with e3 e4
                subst e3 e4
                have hxr := HBD.out (left.getD p 0) (getD_mem hpl)
                have hxd := getD_sub hpl
                obtain ⟨x, hx⟩ : ∃ x, x = left.getD p 0 := ⟨_, rfl⟩
                rw [← hx] at h0 hxr hxd
                have HXD := Lib.hid hxd
                have HXX := Lib.hid hx.symm
                clear hx hxd hb'
                by_cases hx0 : x = 0
                · have HS := Lib.hid (HFIN.out wr HBL.out HXl.out (goB_z (by rw [HXD.out]; exact hx0)))
                  have e3 : (x == 0) = true := by simp [hx0]
                  clear hx0 HXD HXX
                  go_wp2_with (go_at_call 60; (with_reducible refine (HH.out _).mono ?_); rintro e w' ⟨rfl, rfl⟩)
                  refine ⟨?_, by simp [intOf]; omega⟩
                  have := HS.out
                  rwa [show (((p + 1 : Nat) : Int)) = (p : Int) + 1 by push_cast; rfl] at this
                · have e3 : (x == 0) = false := by simp [hx0]
                  by_cases hxp : 0 < x
                  · skip
                    have hown := World.ownsRow_lit (base := wr.heap.size) (e := 3) (size := 1) wr #[] 0 (Nat.le_refl _) (by decide) rfl
                    have hnews : ∀ j u, (left.flatMap icell)[j]? = some u → (wr.alloc (.cells #[] 3)).cell? ((⟨bA, oA, none⟩ : Addr).add j) = some u := (HATW.out.below ((nxA wr (.cells #[] 3)).mono HBL.out.size)).news icell_len
                    have hlen : (left.flatMap icell).length = left.length * 1 := by rw [flat_icell]; simp
                    have hone : ∀ u ∈ left.flatMap icell, u.oneCell' = true := by rw [flat_icell]; simp [Value.oneCell']
                    have HOWN := Lib.hid hown
                    go_upto_region 14 with (first | (go_at_call 60; (with_reducible refine (HH.out _).mono ?_); rintro e w' ⟨rfl, rfl⟩) | (at_builtin; refine wpList_append_own _ rfl (.tmp 64) (.tmp 65) 24 rfl wr.heap.size 3 i0 (.int .i64 0) 1 8 Tryd.underlying24 hi0 hz0 hz1 hz2 rfl (by decide) _ 0 [] rfl hown ⟨bA, oA, none⟩ left.length c (left.flatMap icell) rfl hlen hnews hone (by unfold maxLen; omega) (by omega) (by simp) ?_; intro v' w' hown' hgrow _))
                    have hown2 : w'.ownsRow wr.heap.size 3 1 v' left.length (left.flatMap icell) := by simpa using hown'
                    have hbb : Below wr.heap.size wr w' := ((Below.refl _ _).alloc (Nat.le_refl _) _).grown hgrow (by simp) (fun k hk => by have := HOWN.out.lt k hk; omega)
                    obtain ⟨ga, ca, rfl, hca, hga, hva⟩ := own_vblk HL.out.1 hown2
                    have HBB := Lib.hid hbb
                    have HVA := Lib.hid hva
                    have X2 := Lib.hid (HXl.out.next hbb)
                    have HB2 := Lib.hid (HBL.out.trans (hbb.mono HBL.out.size))
                    clear hown hnews hlen hone hown' hgrow hown2 hbb hva
                    have h0 := ((bcell HBB.out).1 bA (oA + p) hbAw).trans h0
                    have hbAw' := Nat.lt_of_lt_of_le hbAw HBB.out.size
                    have dp : decide (0 < x) = true := decide_eq_true hxp
                    have a0 := HVA.out.cell p hpl
                    rw [HXX.out] at a0
                    have fa := HVA.out.free p
                    have la := HVA.out.lt
                    have hw : IntKind.i64.wrap (x - 1) = x - 1 := IntWalk.i64_in _ (by omega)
                    have HDC := Lib.hid (show decL left p = left.set p (x - 1) from by unfold decL; rw [HXD.out, if_pos hxp])
                    go_upto_region 16 with fail
                    try rw [hw]
                    have VN := Lib.hid (show VBlk (w'.setCell ⟨ga, p, none⟩ (.int .i64 (x - 1))) ga left.length (fun j => .int .i64 ((decL left p).getD j 0)) from HVA.out.set_ hpl (by rw [HDC.out, List.getD_eq_getElem?_getD, List.getElem?_set_self hpl]; rfl) (fun i hi => by
                      rw [HDC.out, List.getD_eq_getElem?_getD, List.getElem?_set_ne (Ne.symm hi), List.getD_eq_getElem?_getD]))
                    have XN := Lib.hid (X2.out.other (g := ga) (by have := HXl.out.lt; omega) p (.int .i64 (x - 1)))
                    have BN := Lib.hid (HB2.out.setCell (p := ⟨ga, p, none⟩) (by show w.heap.size ≤ ga; have := HBL.out.size; omega) (.int .i64 (x - 1)))
                    clear a0 fa la h0 dp hw
                    generalize w'.setCell ⟨ga, p, none⟩ (.int .i64 (x - 1)) = W9 at *
                    have HT9 := Lib.hid ((HR.out.below BN.out).more BN.out.size)
                    have HAT9 := Lib.hid (show At W9 W9.heap.size 1 icell (some ⟨ga, 0, none⟩) (decL left p) from At.vblk (by rw [dec_ln]; exact VN.out))
                    have HCALL := IH.out (f + 1) (decL left p) (some ⟨ga, 0, none⟩) ca W9 HD.out.1 HD.out.2 HT9.out HAT9.out (by rw [dec_ln]; exact HL.out) (dec_bd HBD.out)
                    rw [dec_ln] at HCALL
                    rw [← goB_of (t := m.t) (piece := piece) (who := who) (f := f) (l := left) (p := p) HWW.out (by rw [HXD.out]; omega)] at HCALL
                    have HC := Lib.hid HCALL
                    clear HCALL
                    have c0 := XN.out.c 0 _ rfl
                    have c1 := XN.out.c 1 _ rfl
                    have c2 := XN.out.c 2 _ rfl
                    have c3 := XN.out.c 3 _ rfl
                    have hlx := XN.out.lt
                    have hw1 : IntKind.i64.wrap ((f : Int) + 1) = ((f + 1 : Nat) : Int) := by rw [IntKind.wrap_i64]; omega
                    go_wp2_with fail
                    try rw [hw1]
                    try rw [show (f : Int) + 1 = ((f + 1 : Nat) : Int) by push_cast; rfl]
                    refine HC.out.mono ?_
                    rintro e W10 ⟨rfl, hb10⟩
                    have Q1 := Lib.hid (XN.out.next hb10)
                    have QB := Lib.hid (BN.out.trans (hb10.mono BN.out.size))
                    clear c0 c1 c2 c3 hlx hw1 hb10 HC
                    cases hgo : goB m.t piece who f left p
                    · have HS := Lib.hid (HFIN.out W10 QB.out Q1.out hgo)
                      clear hgo
                      go_wp2_with fail
                      refine ⟨?_, by simp [intOf]; omega⟩
                      have := HS.out
                      rwa [show (((p + 1 : Nat) : Int)) = (p : Int) + 1 by push_cast; rfl] at this
                    · have HE := Lib.hid (canR_yes HFN.out hlt hgo)
                      clear hgo
                      go_wp2_with fail
                      go_ret
                      exact ret_bool (by rw [HE.out]) QB.out
                  · have hxn : x = -1 := by omega
                    have hown := World.ownsRow_lit (base := wr.heap.size) (e := 3) (size := 1) wr #[] 0 (Nat.le_refl _) (by decide) rfl
                    have hnews : ∀ j u, (left.flatMap icell)[j]? = some u → (wr.alloc (.cells #[] 3)).cell? ((⟨bA, oA, none⟩ : Addr).add j) = some u := (HATW.out.below ((nxA wr (.cells #[] 3)).mono HBL.out.size)).news icell_len
                    have hlen : (left.flatMap icell).length = left.length * 1 := by rw [flat_icell]; simp
                    have hone : ∀ u ∈ left.flatMap icell, u.oneCell' = true := by rw [flat_icell]; simp [Value.oneCell']
                    have HOWN := Lib.hid hown
                    go_upto_region 14 with (first | (go_at_call 60; (with_reducible refine (HH.out _).mono ?_); rintro e w' ⟨rfl, rfl⟩) | (at_builtin; refine wpList_append_own _ rfl (.tmp 64) (.tmp 65) 24 rfl wr.heap.size 3 i0 (.int .i64 0) 1 8 Tryd.underlying24 hi0 hz0 hz1 hz2 rfl (by decide) _ 0 [] rfl hown ⟨bA, oA, none⟩ left.length c (left.flatMap icell) rfl hlen hnews hone (by unfold maxLen; omega) (by omega) (by simp) ?_; intro v' w' hown' hgrow _))
                    have hown2 : w'.ownsRow wr.heap.size 3 1 v' left.length (left.flatMap icell) := by simpa using hown'
                    have hbb : Below wr.heap.size wr w' := ((Below.refl _ _).alloc (Nat.le_refl _) _).grown hgrow (by simp) (fun k hk => by have := HOWN.out.lt k hk; omega)
                    obtain ⟨ga, ca, rfl, hca, hga, hva⟩ := own_vblk HL.out.1 hown2
                    have HBB := Lib.hid hbb
                    have HVA := Lib.hid hva
                    have X2 := Lib.hid (HXl.out.next hbb)
                    have HB2 := Lib.hid (HBL.out.trans (hbb.mono HBL.out.size))
                    clear hown hnews hlen hone hown' hgrow hown2 hbb hva
                    have h0 := ((bcell HBB.out).1 bA (oA + p) hbAw).trans h0
                    have hbAw' := Nat.lt_of_lt_of_le hbAw HBB.out.size
                    have dp : decide (0 < x) = false := decide_eq_false (by omega)
                    have HDC := Lib.hid (show decL left p = left from by unfold decL; rw [HXD.out, if_neg (by omega)])
                    go_upto_region 16 with fail
                    have VN := Lib.hid (show VBlk w' ga left.length (fun j => .int .i64 ((decL left p).getD j 0)) from by rw [HDC.out]; exact HVA.out)
                    have XN := X2
                    have BN := HB2
                    obtain ⟨W9, hW9⟩ : ∃ W9, W9 = w' := ⟨_, rfl⟩
                    subst hW9
                    clear dp h0
                    have HT9 := Lib.hid ((HR.out.below BN.out).more BN.out.size)
                    have HAT9 := Lib.hid (show At W9 W9.heap.size 1 icell (some ⟨ga, 0, none⟩) (decL left p) from At.vblk (by rw [dec_ln]; exact VN.out))
                    have HCALL := IH.out (f + 1) (decL left p) (some ⟨ga, 0, none⟩) ca W9 HD.out.1 HD.out.2 HT9.out HAT9.out (by rw [dec_ln]; exact HL.out) (dec_bd HBD.out)
                    rw [dec_ln] at HCALL
                    rw [← goB_of (t := m.t) (piece := piece) (who := who) (f := f) (l := left) (p := p) HWW.out (by rw [HXD.out]; omega)] at HCALL
                    have HC := Lib.hid HCALL
                    clear HCALL
                    have c0 := XN.out.c 0 _ rfl
                    have c1 := XN.out.c 1 _ rfl
                    have c2 := XN.out.c 2 _ rfl
                    have c3 := XN.out.c 3 _ rfl
                    have hlx := XN.out.lt
                    have hw1 : IntKind.i64.wrap ((f : Int) + 1) = ((f + 1 : Nat) : Int) := by rw [IntKind.wrap_i64]; omega
                    go_wp2_with fail
                    try rw [hw1]
                    try rw [show (f : Int) + 1 = ((f + 1 : Nat) : Int) by push_cast; rfl]
                    refine HC.out.mono ?_
                    rintro e W10 ⟨rfl, hb10⟩
                    have Q1 := Lib.hid (XN.out.next hb10)
                    have QB := Lib.hid (BN.out.trans (hb10.mono BN.out.size))
                    clear c0 c1 c2 c3 hlx hw1 hb10 HC
                    cases hgo : goB m.t piece who f left p
                    · have HS := Lib.hid (HFIN.out W10 QB.out Q1.out hgo)
                      clear hgo
                      go_wp2_with fail
                      refine ⟨?_, by simp [intOf]; omega⟩
                      have := HS.out
                      rwa [show (((p + 1 : Nat) : Int)) = (p : Int) + 1 by push_cast; rfl] at this
                    · have HE := Lib.hid (canR_yes HFN.out hlt hgo)
                      clear hgo
                      go_wp2_with fail
                      go_ret
                      exact ret_bool (by rw [HE.out]) QB.out
              · have hple : left.length ≤ p := by omega
                have hd0 : decide ((p : Int) < (left.length : Int)) = false := decide_eq_false (by omega)
                have hd1 : ¬ ((p : Int) < (left.length : Int)) := by omega
                have HXD := Lib.hid (show left.getD p (-1) = -1 from by rw [List.getD_eq_getElem?_getD, List.getElem?_eq_none hple]; rfl)
                have hown := World.ownsRow_lit (base := wr.heap.size) (e := 3) (size := 1) wr #[] 0 (Nat.le_refl _) (by decide) rfl
                have hnews : ∀ j u, (left.flatMap icell)[j]? = some u → (wr.alloc (.cells #[] 3)).cell? ((⟨bA, oA, none⟩ : Addr).add j) = some u := (HATW.out.below ((nxA wr (.cells #[] 3)).mono HBL.out.size)).news icell_len
                have hlen : (left.flatMap icell).length = left.length * 1 := by rw [flat_icell]; simp
                have hone : ∀ u ∈ left.flatMap icell, u.oneCell' = true := by rw [flat_icell]; simp [Value.oneCell']
                have HOWN := Lib.hid hown
                go_upto_region 14 with (first | (go_at_call 60; (with_reducible refine (HH.out _).mono ?_); rintro e w' ⟨rfl, rfl⟩) | (at_builtin; refine wpList_append_own _ rfl (.tmp 64) (.tmp 65) 24 rfl wr.heap.size 3 i0 (.int .i64 0) 1 8 Tryd.underlying24 hi0 hz0 hz1 hz2 rfl (by decide) _ 0 [] rfl hown ⟨bA, oA, none⟩ left.length c (left.flatMap icell) rfl hlen hnews hone (by unfold maxLen; omega) (by omega) (by simp) ?_; intro v' w' hown' hgrow _))
                have hown2 : w'.ownsRow wr.heap.size 3 1 v' left.length (left.flatMap icell) := by simpa using hown'
                have hbb : Below wr.heap.size wr w' := ((Below.refl _ _).alloc (Nat.le_refl _) _).grown hgrow (by simp) (fun k hk => by have := HOWN.out.lt k hk; omega)
                obtain ⟨ga, ca, rfl, hca, hga, hva⟩ := own_vblk HL.out.1 hown2
                have HBB := Lib.hid hbb
                have HVA := Lib.hid hva
                have X2 := Lib.hid (HXl.out.next hbb)
                have HB2 := Lib.hid (HBL.out.trans (hbb.mono HBL.out.size))
                clear hown hnews hlen hone hown' hgrow hown2 hbb hva
                have HDC := Lib.hid (show decL left p = left from by unfold decL; rw [HXD.out, if_neg (by decide)])
                go_upto_region 16 with fail
                have VN := Lib.hid (show VBlk w' ga left.length (fun j => .int .i64 ((decL left p).getD j 0)) from by rw [HDC.out]; exact HVA.out)
                have XN := X2
                have BN := HB2
                obtain ⟨W9, hW9⟩ : ∃ W9, W9 = w' := ⟨_, rfl⟩
                subst hW9
                have HT9 := Lib.hid ((HR.out.below BN.out).more BN.out.size)
                have HAT9 := Lib.hid (show At W9 W9.heap.size 1 icell (some ⟨ga, 0, none⟩) (decL left p) from At.vblk (by rw [dec_ln]; exact VN.out))
                have HCALL := IH.out (f + 1) (decL left p) (some ⟨ga, 0, none⟩) ca W9 HD.out.1 HD.out.2 HT9.out HAT9.out (by rw [dec_ln]; exact HL.out) (dec_bd HBD.out)
                rw [dec_ln] at HCALL
                rw [← goB_of (t := m.t) (piece := piece) (who := who) (f := f) (l := left) (p := p) HWW.out (by rw [HXD.out]; decide)] at HCALL
                have HC := Lib.hid HCALL
                clear HCALL
                have c0 := XN.out.c 0 _ rfl
                have c1 := XN.out.c 1 _ rfl
                have c2 := XN.out.c 2 _ rfl
                have c3 := XN.out.c 3 _ rfl
                have hlx := XN.out.lt
                have hw1 : IntKind.i64.wrap ((f : Int) + 1) = ((f + 1 : Nat) : Int) := by rw [IntKind.wrap_i64]; omega
                go_wp2_with fail
                try rw [hw1]
                try rw [show (f : Int) + 1 = ((f + 1 : Nat) : Int) by push_cast; rfl]
                refine HC.out.mono ?_
                rintro e W10 ⟨rfl, hb10⟩
                have Q1 := Lib.hid (XN.out.next hb10)
                have QB := Lib.hid (BN.out.trans (hb10.mono BN.out.size))
                clear c0 c1 c2 c3 hlx hw1 hb10 HC
                cases hgo : goB m.t piece who f left p
                · have HS := Lib.hid (HFIN.out W10 QB.out Q1.out hgo)
                  clear hgo
                  go_wp2_with fail
                  refine ⟨?_, by simp [intOf]; omega⟩
                  have := HS.out
                  rwa [show (((p + 1 : Nat) : Int)) = (p : Int) + 1 by push_cast; rfl] at this
                · have HE := Lib.hid (canR_yes HFN.out hlt hgo)
                  clear hgo
                  go_wp2_with fail
                  go_ret
                  exact ret_bool (by rw [HE.out]) QB.out
            · have e2 : ((p : Int) != who) = true := by simp [hB2]
              have HS := Lib.hid (HFIN.out wr HBL.out HXl.out (goB_w (by rw [HW.out, hA, decide_eq_true hB1, decide_eq_false hB2]; rfl)))
              clear hA hB1 hB2
              go_wp2_with (go_at_call 60; (with_reducible refine (HH.out _).mono ?_); rintro e w' ⟨rfl, rfl⟩)
              refine ⟨?_, by simp [intOf]; omega⟩
              have := HS.out
              rwa [show (((p + 1 : Nat) : Int)) = (p : Int) + 1 by push_cast; rfl] at this
          · have e1 : ((f : Int) == piece) = false := by simp [hB1]
            have HWW := Lib.hid (show wantS m.t piece who f p = true from by rw [HW.out, hA, decide_eq_false hB1]; rfl)
            clear hA hB1
            by_cases hpl : p < left.length
            · obtain ⟨b', o', e', hb', h0⟩ := int_at HATW.out hpl
              injection e' with e'
              injection e' with e3 e4
              subst e3 e4
              have hxr := HBD.out (left.getD p 0) (getD_mem hpl)
              have hxd := getD_sub hpl
              obtain ⟨x, hx⟩ : ∃ x, x = left.getD p 0 := ⟨_, rfl⟩
              rw [← hx] at h0 hxr hxd
              have HXD := Lib.hid hxd
              have HXX := Lib.hid hx.symm
              clear hx hxd hb'
              by_cases hx0 : x = 0
              · have HS := Lib.hid (HFIN.out wr HBL.out HXl.out (goB_z (by rw [HXD.out]; exact hx0)))
                have e3 : (x == 0) = true := by simp [hx0]
                clear hx0 HXD HXX
                go_wp2_with (go_at_call 60; (with_reducible refine (HH.out _).mono ?_); rintro e w' ⟨rfl, rfl⟩)
                refine ⟨?_, by simp [intOf]; omega⟩
                have := HS.out
                rwa [show (((p + 1 : Nat) : Int)) = (p : Int) + 1 by push_cast; rfl] at this
              · have e3 : (x == 0) = false := by simp [hx0]
                by_cases hxp : 0 < x
                · skip
                  have hown := World.ownsRow_lit (base := wr.heap.size) (e := 3) (size := 1) wr #[] 0 (Nat.le_refl _) (by decide) rfl
                  have hnews : ∀ j u, (left.flatMap icell)[j]? = some u → (wr.alloc (.cells #[] 3)).cell? ((⟨bA, oA, none⟩ : Addr).add j) = some u := (HATW.out.below ((nxA wr (.cells #[] 3)).mono HBL.out.size)).news icell_len
                  have hlen : (left.flatMap icell).length = left.length * 1 := by rw [flat_icell]; simp
                  have hone : ∀ u ∈ left.flatMap icell, u.oneCell' = true := by rw [flat_icell]; simp [Value.oneCell']
                  have HOWN := Lib.hid hown
                  go_upto_region 14 with (first | (go_at_call 60; (with_reducible refine (HH.out _).mono ?_); rintro e w' ⟨rfl, rfl⟩) | (at_builtin; refine wpList_append_own _ rfl (.tmp 64) (.tmp 65) 24 rfl wr.heap.size 3 i0 (.int .i64 0) 1 8 Tryd.underlying24 hi0 hz0 hz1 hz2 rfl (by decide) _ 0 [] rfl hown ⟨bA, oA, none⟩ left.length c (left.flatMap icell) rfl hlen hnews hone (by unfold maxLen; omega) (by omega) (by simp) ?_; intro v' w' hown' hgrow _))
                  have hown2 : w'.ownsRow wr.heap.size 3 1 v' left.length (left.flatMap icell) := by simpa using hown'
                  have hbb : Below wr.heap.size wr w' := ((Below.refl _ _).alloc (Nat.le_refl _) _).grown hgrow (by simp) (fun k hk => by have := HOWN.out.lt k hk; omega)
                  obtain ⟨ga, ca, rfl, hca, hga, hva⟩ := own_vblk HL.out.1 hown2
                  have HBB := Lib.hid hbb
                  have HVA := Lib.hid hva
                  have X2 := Lib.hid (HXl.out.next hbb)
                  have HB2 := Lib.hid (HBL.out.trans (hbb.mono HBL.out.size))
                  clear hown hnews hlen hone hown' hgrow hown2 hbb hva
                  have h0 := ((bcell HBB.out).1 bA (oA + p) hbAw).trans h0
                  have hbAw' := Nat.lt_of_lt_of_le hbAw HBB.out.size
                  have dp : decide (0 < x) = true := decide_eq_true hxp
                  have a0 := HVA.out.cell p hpl
                  rw [HXX.out] at a0
                  have fa := HVA.out.free p
                  have la := HVA.out.lt
                  have hw : IntKind.i64.wrap (x - 1) = x - 1 := IntWalk.i64_in _ (by omega)
                  have HDC := Lib.hid (show decL left p = left.set p (x - 1) from by unfold decL; rw [HXD.out, if_pos hxp])
                  go_upto_region 16 with fail
                  try rw [hw]
                  have VN := Lib.hid (show VBlk (w'.setCell ⟨ga, p, none⟩ (.int .i64 (x - 1))) ga left.length (fun j => .int .i64 ((decL left p).getD j 0)) from HVA.out.set_ hpl (by rw [HDC.out, List.getD_eq_getElem?_getD, List.getElem?_set_self hpl]; rfl) (fun i hi => by
                    rw [HDC.out, List.getD_eq_getElem?_getD, List.getElem?_set_ne (Ne.symm hi), List.getD_eq_getElem?_getD]))
                  have XN := Lib.hid (X2.out.other (g := ga) (by have := HXl.out.lt; omega) p (.int .i64 (x - 1)))
                  have BN := Lib.hid (HB2.out.setCell (p := ⟨ga, p, none⟩) (by show w.heap.size ≤ ga; have := HBL.out.size; omega) (.int .i64 (x - 1)))
                  clear a0 fa la h0 dp hw
                  generalize w'.setCell ⟨ga, p, none⟩ (.int .i64 (x - 1)) = W9 at *
                  have HT9 := Lib.hid ((HR.out.below BN.out).more BN.out.size)
                  have HAT9 := Lib.hid (show At W9 W9.heap.size 1 icell (some ⟨ga, 0, none⟩) (decL left p) from At.vblk (by rw [dec_ln]; exact VN.out))
                  have HCALL := IH.out (f + 1) (decL left p) (some ⟨ga, 0, none⟩) ca W9 HD.out.1 HD.out.2 HT9.out HAT9.out (by rw [dec_ln]; exact HL.out) (dec_bd HBD.out)
                  rw [dec_ln] at HCALL
                  rw [← goB_of (t := m.t) (piece := piece) (who := who) (f := f) (l := left) (p := p) HWW.out (by rw [HXD.out]; omega)] at HCALL
                  have HC := Lib.hid HCALL
                  clear HCALL
                  have c0 := XN.out.c 0 _ rfl
                  have c1 := XN.out.c 1 _ rfl
                  have c2 := XN.out.c 2 _ rfl
                  have c3 := XN.out.c 3 _ rfl
                  have hlx := XN.out.lt
                  have hw1 : IntKind.i64.wrap ((f : Int) + 1) = ((f + 1 : Nat) : Int) := by rw [IntKind.wrap_i64]; omega
                  go_wp2_with fail
                  try rw [hw1]
                  try rw [show (f : Int) + 1 = ((f + 1 : Nat) : Int) by push_cast; rfl]
                  refine HC.out.mono ?_
                  rintro e W10 ⟨rfl, hb10⟩
                  have Q1 := Lib.hid (XN.out.next hb10)
                  have QB := Lib.hid (BN.out.trans (hb10.mono BN.out.size))
                  clear c0 c1 c2 c3 hlx hw1 hb10 HC
                  cases hgo : goB m.t piece who f left p
                  · have HS := Lib.hid (HFIN.out W10 QB.out Q1.out hgo)
                    clear hgo
                    go_wp2_with fail
                    refine ⟨?_, by simp [intOf]; omega⟩
                    have := HS.out
                    rwa [show (((p + 1 : Nat) : Int)) = (p : Int) + 1 by push_cast; rfl] at this
                  · have HE := Lib.hid (canR_yes HFN.out hlt hgo)
                    clear hgo
                    go_wp2_with fail
                    go_ret
                    exact ret_bool (by rw [HE.out]) QB.out
                · have hxn : x = -1 := by omega
                  have hown := World.ownsRow_lit (base := wr.heap.size) (e := 3) (size := 1) wr #[] 0 (Nat.le_refl _) (by decide) rfl
                  have hnews : ∀ j u, (left.flatMap icell)[j]? = some u → (wr.alloc (.cells #[] 3)).cell? ((⟨bA, oA, none⟩ : Addr).add j) = some u := (HATW.out.below ((nxA wr (.cells #[] 3)).mono HBL.out.size)).news icell_len
                  have hlen : (left.flatMap icell).length = left.length * 1 := by rw [flat_icell]; simp
                  have hone : ∀ u ∈ left.flatMap icell, u.oneCell' = true := by rw [flat_icell]; simp [Value.oneCell']
                  have HOWN := Lib.hid hown
                  go_upto_region 14 with (first | (go_at_call 60; (with_reducible refine (HH.out _).mono ?_); rintro e w' ⟨rfl, rfl⟩) | (at_builtin; refine wpList_append_own _ rfl (.tmp 64) (.tmp 65) 24 rfl wr.heap.size 3 i0 (.int .i64 0) 1 8 Tryd.underlying24 hi0 hz0 hz1 hz2 rfl (by decide) _ 0 [] rfl hown ⟨bA, oA, none⟩ left.length c (left.flatMap icell) rfl hlen hnews hone (by unfold maxLen; omega) (by omega) (by simp) ?_; intro v' w' hown' hgrow _))
                  have hown2 : w'.ownsRow wr.heap.size 3 1 v' left.length (left.flatMap icell) := by simpa using hown'
                  have hbb : Below wr.heap.size wr w' := ((Below.refl _ _).alloc (Nat.le_refl _) _).grown hgrow (by simp) (fun k hk => by have := HOWN.out.lt k hk; omega)
                  obtain ⟨ga, ca, rfl, hca, hga, hva⟩ := own_vblk HL.out.1 hown2
                  have HBB := Lib.hid hbb
                  have HVA := Lib.hid hva
                  have X2 := Lib.hid (HXl.out.next hbb)
                  have HB2 := Lib.hid (HBL.out.trans (hbb.mono HBL.out.size))
                  clear hown hnews hlen hone hown' hgrow hown2 hbb hva
                  have h0 := ((bcell HBB.out).1 bA (oA + p) hbAw).trans h0
                  have hbAw' := Nat.lt_of_lt_of_le hbAw HBB.out.size
                  have dp : decide (0 < x) = false := decide_eq_false (by omega)
                  have HDC := Lib.hid (show decL left p = left from by unfold decL; rw [HXD.out, if_neg (by omega)])
                  go_upto_region 16 with fail
                  have VN := Lib.hid (show VBlk w' ga left.length (fun j => .int .i64 ((decL left p).getD j 0)) from by rw [HDC.out]; exact HVA.out)
                  have XN := X2
                  have BN := HB2
                  obtain ⟨W9, hW9⟩ : ∃ W9, W9 = w' := ⟨_, rfl⟩
                  subst hW9
                  clear dp h0
                  have HT9 := Lib.hid ((HR.out.below BN.out).more BN.out.size)
                  have HAT9 := Lib.hid (show At W9 W9.heap.size 1 icell (some ⟨ga, 0, none⟩) (decL left p) from At.vblk (by rw [dec_ln]; exact VN.out))
                  have HCALL := IH.out (f + 1) (decL left p) (some ⟨ga, 0, none⟩) ca W9 HD.out.1 HD.out.2 HT9.out HAT9.out (by rw [dec_ln]; exact HL.out) (dec_bd HBD.out)
                  rw [dec_ln] at HCALL
                  rw [← goB_of (t := m.t) (piece := piece) (who := who) (f := f) (l := left) (p := p) HWW.out (by rw [HXD.out]; omega)] at HCALL
                  have HC := Lib.hid HCALL
                  clear HCALL
                  have c0 := XN.out.c 0 _ rfl
                  have c1 := XN.out.c 1 _ rfl
                  have c2 := XN.out.c 2 _ rfl
                  have c3 := XN.out.c 3 _ rfl
                  have hlx := XN.out.lt
                  have hw1 : IntKind.i64.wrap ((f : Int) + 1) = ((f + 1 : Nat) : Int) := by rw [IntKind.wrap_i64]; omega
                  go_wp2_with fail
                  try rw [hw1]
                  try rw [show (f : Int) + 1 = ((f + 1 : Nat) : Int) by push_cast; rfl]
                  refine HC.out.mono ?_
                  rintro e W10 ⟨rfl, hb10⟩
                  have Q1 := Lib.hid (XN.out.next hb10)
                  have QB := Lib.hid (BN.out.trans (hb10.mono BN.out.size))
                  clear c0 c1 c2 c3 hlx hw1 hb10 HC
                  cases hgo : goB m.t piece who f left p
                  · have HS := Lib.hid (HFIN.out W10 QB.out Q1.out hgo)
                    clear hgo
                    go_wp2_with fail
                    refine ⟨?_, by simp [intOf]; omega⟩
                    have := HS.out
                    rwa [show (((p + 1 : Nat) : Int)) = (p : Int) + 1 by push_cast; rfl] at this
                  · have HE := Lib.hid (canR_yes HFN.out hlt hgo)
                    clear hgo
                    go_wp2_with fail
                    go_ret
                    exact ret_bool (by rw [HE.out]) QB.out
            · have hple : left.length ≤ p := by omega
              have hd0 : decide ((p : Int) < (left.length : Int)) = false := decide_eq_false (by omega)
              have hd1 : ¬ ((p : Int) < (left.length : Int)) := by omega
              have HXD := Lib.hid (show left.getD p (-1) = -1 from by rw [List.getD_eq_getElem?_getD, List.getElem?_eq_none hple]; rfl)
              have hown := World.ownsRow_lit (base := wr.heap.size) (e := 3) (size := 1) wr #[] 0 (Nat.le_refl _) (by decide) rfl
              have hnews : ∀ j u, (left.flatMap icell)[j]? = some u → (wr.alloc (.cells #[] 3)).cell? ((⟨bA, oA, none⟩ : Addr).add j) = some u := (HATW.out.below ((nxA wr (.cells #[] 3)).mono HBL.out.size)).news icell_len
              have hlen : (left.flatMap icell).length = left.length * 1 := by rw [flat_icell]; simp
              have hone : ∀ u ∈ left.flatMap icell, u.oneCell' = true := by rw [flat_icell]; simp [Value.oneCell']
              have HOWN := Lib.hid hown
              go_upto_region 14 with (first | (go_at_call 60; (with_reducible refine (HH.out _).mono ?_); rintro e w' ⟨rfl, rfl⟩) | (at_builtin; refine wpList_append_own _ rfl (.tmp 64) (.tmp 65) 24 rfl wr.heap.size 3 i0 (.int .i64 0) 1 8 Tryd.underlying24 hi0 hz0 hz1 hz2 rfl (by decide) _ 0 [] rfl hown ⟨bA, oA, none⟩ left.length c (left.flatMap icell) rfl hlen hnews hone (by unfold maxLen; omega) (by omega) (by simp) ?_; intro v' w' hown' hgrow _))
              have hown2 : w'.ownsRow wr.heap.size 3 1 v' left.length (left.flatMap icell) := by simpa using hown'
              have hbb : Below wr.heap.size wr w' := ((Below.refl _ _).alloc (Nat.le_refl _) _).grown hgrow (by simp) (fun k hk => by have := HOWN.out.lt k hk; omega)
              obtain ⟨ga, ca, rfl, hca, hga, hva⟩ := own_vblk HL.out.1 hown2
              have HBB := Lib.hid hbb
              have HVA := Lib.hid hva
              have X2 := Lib.hid (HXl.out.next hbb)
              have HB2 := Lib.hid (HBL.out.trans (hbb.mono HBL.out.size))
              clear hown hnews hlen hone hown' hgrow hown2 hbb hva
              have HDC := Lib.hid (show decL left p = left from by unfold decL; rw [HXD.out, if_neg (by decide)])
              go_upto_region 16 with fail
              have VN := Lib.hid (show VBlk w' ga left.length (fun j => .int .i64 ((decL left p).getD j 0)) from by rw [HDC.out]; exact HVA.out)
              have XN := X2
              have BN := HB2
              obtain ⟨W9, hW9⟩ : ∃ W9, W9 = w' := ⟨_, rfl⟩
              subst hW9
              have HT9 := Lib.hid ((HR.out.below BN.out).more BN.out.size)
              have HAT9 := Lib.hid (show At W9 W9.heap.size 1 icell (some ⟨ga, 0, none⟩) (decL left p) from At.vblk (by rw [dec_ln]; exact VN.out))
              have HCALL := IH.out (f + 1) (decL left p) (some ⟨ga, 0, none⟩) ca W9 HD.out.1 HD.out.2 HT9.out HAT9.out (by rw [dec_ln]; exact HL.out) (dec_bd HBD.out)
              rw [dec_ln] at HCALL
              rw [← goB_of (t := m.t) (piece := piece) (who := who) (f := f) (l := left) (p := p) HWW.out (by rw [HXD.out]; decide)] at HCALL
              have HC := Lib.hid HCALL
              clear HCALL
              have c0 := XN.out.c 0 _ rfl
              have c1 := XN.out.c 1 _ rfl
              have c2 := XN.out.c 2 _ rfl
              have c3 := XN.out.c 3 _ rfl
              have hlx := XN.out.lt
              have hw1 : IntKind.i64.wrap ((f : Int) + 1) = ((f + 1 : Nat) : Int) := by rw [IntKind.wrap_i64]; omega
              go_wp2_with fail
              try rw [hw1]
              try rw [show (f : Int) + 1 = ((f + 1 : Nat) : Int) by push_cast; rfl]
              refine HC.out.mono ?_
              rintro e W10 ⟨rfl, hb10⟩
              have Q1 := Lib.hid (XN.out.next hb10)
              have QB := Lib.hid (BN.out.trans (hb10.mono BN.out.size))
              clear c0 c1 c2 c3 hlx hw1 hb10 HC
              cases hgo : goB m.t piece who f left p
              · have HS := Lib.hid (HFIN.out W10 QB.out Q1.out hgo)
                clear hgo
                go_wp2_with fail
                refine ⟨?_, by simp [intOf]; omega⟩
                have := HS.out
                rwa [show (((p + 1 : Nat) : Int)) = (p : Int) + 1 by push_cast; rfl] at this
              · have HE := Lib.hid (canR_yes HFN.out hlt hgo)
                clear hgo
                go_wp2_with fail
                go_ret
                exact ret_bool (by rw [HE.out]) QB.out
      · obtain rfl : p = 8 := by omega
        have HE := Lib.hid (canR_no HFN.out HNO.out)
        go_wp2_with fail
        go_ret
        exact ret_bool (by rw [HE.out]) HBL.out
end Go.Proofs.YtkcfpnpejaekjaaDoor
