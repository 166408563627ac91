import Derived.Test.YtkcfpnpejaekjaaDoorR5
import Derived.Test.YtkcfpnpejaekjaaDoorP2
namespace Go.Proofs.YtkcfpnpejaekjaaDoor
open Go.RowKit
/-! The program: windows, Holder, Window. -/
theorem bit_and {T p : Nat} (hT : T < 9223372036854775808) : bits BinOp.and IntKind.i64 ((T : Int) / 2 ^ p) 1 = if has T p then 1 else 0 := by
  have h1 : (T : Int) / 2 ^ p = ((T / 2 ^ p : Nat) : Int) := by rw [Int.natCast_ediv]; push_cast; rfl
  have h2 : T / 2 ^ p ≤ T := Nat.div_le_self _ _
  rw [h1, show (1 : Int) = ((1 : Nat) : Int) from rfl, i64_and_nat _ _ (by omega) (by omega), Nat.and_one_is_mod]
  unfold has
  rw [Nat.testBit_eq_decide_div_mod_eq]
  by_cases h : T / 2 ^ p % 2 = 1
  · rw [decide_eq_true h, if_pos rfl, h]
  · rw [decide_eq_false h, if_neg (by decide)]
    have : T / 2 ^ p % 2 = 0 := by omega
    rw [this]; rfl
def RWo (l : List Look) (p : Nat) (w0 : World) (b : Nat) (i : Value) (w : World) : Prop := ∃ k : Nat, k ≤ l.length ∧ i = .int .i64 k ∧ Below w0.heap.size w0 w ∧ Bx w b [.int .i64 0, .int .i64 0] ∧ Bx w (b + 1) [.int .i64 (seenS (l.take k) p), .int .i64 (goneS (l.take k) p)]
theorem loadWn {w : World} {b : Nat} {a0 a1 : Value} (h : Bx w b [a0, a1]) : (loadVar 63 ⟨b, 0, none⟩).run Tryd.prog w = .ok (.agg #[a0, a1]) w := by
  have c0 := h.c 0 _ rfl
  have c1 := h.c 1 _ rfl
  clear h
  go_simp
theorem results_cell1 {fn : Func} {p : Tmp} {ty : TypeId} (h : fn.results = #[.cell p ty]) {tmps : Array Value} {P : Program} {w : World} {a : Addr} {v : Value} (hp : tmps.getD p undef = .pointer (some a)) (hv : (loadVar ty a).run P w = .ok v w) :
    (results fn tmps).run P w = .ok v w := by
  have hp' : tmps[p]?.getD undef = .pointer (some a) := by simpa using hp
  simp [results, h, hp', asAddr, hv]
theorem wo_end {l : List Look} {p k b : Nat} {w0 W W' : World} {sv gv : Int} {v : Value} (hk : k < l.length) (hv : v = .int .i64 ((k + 1 : Nat) : Int)) (hb : Below w0.heap.size w0 W) (hx : Bx W b [.int .i64 0, .int .i64 0]) (hz : Bx W (b + 1) [.int .i64 sv, .int .i64 gv]) (hW : Below W.heap.size W W') (e1 : seenS (l.take (k + 1)) p = sv) (e2 : goneS (l.take (k + 1)) p = gv) : RWo l p w0 b v W' :=
  ⟨k + 1, by omega, hv, below_step hW hb (Nat.le_refl _), hx.next hW, by rw [e1, e2]; exact hz.next hW⟩
theorem max_if (a b : Int) : max a b = if a < b then b else a := by split <;> omega
theorem min_if (a b : Int) : min a b = if b < a then b else a := by split <;> omega
set_option maxHeartbeats 2000000 in
theorem windowOf_any (A : Option Addr) (c : Nat) (l : List Look) (n p : Nat) (w : World) (hr : At w w.heap.size 3 Look.cells A l) (hl : l.length ≤ 9223372036854775807) (ok : ∀ x ∈ l, (0 ≤ x.there ∧ x.there ≤ powI n - 1) ∧ (0 ≤ x.gone ∧ x.gone ≤ powI n - 1)) (hn : n ≤ 16) (hp : p ≤ 62) :
    Calls Tryd.prog 36 #[.slice A l.length c, .int .i64 p] w (Ret (.agg #[.int .i64 (seenS l p), .int .i64 (goneS l p)]) w) := by
  have OK := Lib.hid ok
  have hpb := powI_bd (n := n) (by omega)
  have b0 := nxA w (.cells #[.int .i64 0, .int .i64 0] 63)
  have x0 := Bx.new w #[.int .i64 0, .int .i64 0] 63
  have b1 := nxA (w.alloc (.cells #[.int .i64 0, .int .i64 0] 63)) (.cells #[.int .i64 0, .int .i64 1048577] 63)
  have z0 := Bx.new (w.alloc (.cells #[.int .i64 0, .int .i64 0] 63)) #[.int .i64 0, .int .i64 1048577] 63
  rw [World.size_alloc] at z0
  have B0 := Lib.hid (b0.trans (b1.mono b0.size))
  have HX := Lib.hid (x0.next b1)
  have HZ := Lib.hid z0
  have HR := Lib.hid hr
  clear hr ok b0 x0 b1 z0
  go_enter Tryd.func36, Tryd.ntmps36
  go_wp2
  generalize (w.alloc (.cells #[.int .i64 0, .int .i64 0] 63)).alloc (.cells #[.int .i64 0, .int .i64 1048577] 63) = V at *
  go_loopw [11] (fun i wr => RWo l p w w.heap.size i wr) (fun i _ => l.length - (intOf i).toNat)
  case atStart => exact ⟨0, by omega, rfl, B0.out, HX.out, HZ.out⟩
  case round =>
    obtain ⟨k, hk, rfl, hb, hx, hz⟩ := hrel
    have z0 := hz.c 0 _ rfl
    have z1 := hz.c 1 _ rfl
    have f0 := hz.fr 0
    have f1 := hz.fr 1
    have hzl := hz.lt
    have HB := Lib.hid hb
    have HXk := Lib.hid hx
    have HZk := Lib.hid hz
    clear hx hz
    by_cases hlt : k < l.length
    · obtain ⟨b, off, rfl, hbk, h0, h1, h2⟩ := look_at (HR.out.below hb) hlt
      have hbs : b < wr.heap.size := Nat.lt_of_lt_of_le hbk hb.size
      have HSn := Lib.hid (seen_step (k := p) hlt)
      have HGn := Lib.hid (gone_step (k := p) hlt)
      have HO := OK.out _ (getD_mem (d := ⟨0, 0, 0⟩) hlt)
      generalize l.getD k ⟨0, 0, 0⟩ = s at *
      obtain ⟨T, hT⟩ : ∃ T : Nat, T = s.there.toNat := ⟨_, rfl⟩
      obtain ⟨G, hG⟩ : ∃ G : Nat, G = s.gone.toNat := ⟨_, rfl⟩
      have hT1 : s.there = (T : Int) := by omega
      have hG1 : s.gone = (G : Int) := by omega
      have aT := bit_and (T := T) (p := p) (by omega)
      have aG := bit_and (T := G) (p := p) (by omega)
      have e1 : ibit s.there p = has T p := by rw [hT]; rfl
      have e2 : ibit s.gone p = has G p := by rw [hG]; rfl
      rw [e1] at HSn
      rw [e2] at HGn
      rw [hT1] at h1
      rw [hG1] at h2
      clear hb HO hT hG hT1 hG1 e1 e2 hpb
      generalize seenS (l.take k) p = sv at *
      generalize goneS (l.take k) p = gv at *
      have sB : ∀ (W : World) (j : Nat) (v : Value), Below w.heap.size w W → Below w.heap.size w (W.setCell ⟨w.heap.size + 1, j, none⟩ v) := fun W j v h => h.setCell (p := ⟨w.heap.size + 1, j, none⟩) (by show w.heap.size ≤ w.heap.size + 1; omega) v
      have SB := Lib.hid sB
      clear sB
      cases b1 : has T p <;> cases b2 : has G p <;> rw [b1] at aT <;> rw [b2] at aG
      · simp only [Bool.false_eq_true, if_false] at aT aG
        go_wp2
        refine ⟨wo_end hlt (by go_num) HB.out HXk.out HZk.out (nxA _ _) (by rw [HSn.out, b1]; rfl) (by rw [HGn.out, b2]; rfl), ?_⟩
        simp [intOf]; omega
      · simp only [Bool.false_eq_true, if_false, if_true] at aT aG
        go_wp2
        refine ⟨wo_end hlt (by go_num) (SB.out _ _ _ HB.out) (HXk.out.other (by omega) _ _) (HZk.out.set (k := 1) (by simp) (.int .i64 (if s.h < gv then s.h else gv))) (nxA _ _) (by rw [HSn.out, b1]; rfl) (by rw [HGn.out, b2, if_pos rfl, min_if]), ?_⟩
        simp [intOf]; omega
      · simp only [Bool.false_eq_true, if_false, if_true] at aT aG
        go_wp2
        refine ⟨wo_end hlt (by go_num) (SB.out _ _ _ HB.out) (HXk.out.other (by omega) _ _) (HZk.out.set (k := 0) (by simp) (.int .i64 (if sv < s.h then s.h else sv))) (nxA _ _) (by rw [HSn.out, b1, if_pos rfl, max_if]) (by rw [HGn.out, b2]; rfl), ?_⟩
        simp [intOf]; omega
      · simp only [if_true] at aT aG
        go_wp2
        refine ⟨wo_end hlt (by go_num) (SB.out _ _ _ (SB.out _ _ _ HB.out)) ((HXk.out.other (by omega) _ _).other (by omega) _ _) ((HZk.out.set (k := 0) (by simp) (.int .i64 (if sv < s.h then s.h else sv))).set (k := 1) (by simp) (.int .i64 (if s.h < gv then s.h else gv))) (nxA _ _) (by rw [HSn.out, b1, if_pos rfl, max_if]) (by rw [HGn.out, b2, if_pos rfl, min_if]), ?_⟩
        simp [intOf]; omega
    · have e1 : l.take k = l := List.take_of_length_le (by omega)
      rw [e1] at HZk z0 z1
      have c0 := HXk.out.c 0 _ rfl
      have c1 := HXk.out.c 1 _ rfl
      have g0 := HXk.out.fr 0
      have g1 := HXk.out.fr 1
      have hx1 := HXk.out.lt
      go_wp2
      (try simp only [Exit.inBlock, Exit.then])
      refine bodyPost_ret (results_cell1 rfl rfl (loadWn (HXk.out.setAll [.int .i64 (seenS l p), .int .i64 (goneS l p)] rfl))) rfl ?_
      exact ⟨rfl, below_setCells (b := w.heap.size) (Nat.le_refl _) [.int .i64 (seenS l p), .int .i64 (goneS l p)] 0 HB.out⟩
theorem isEmpty_any (a b : Int) (w : World) : Calls Tryd.prog 37 #[.agg #[.int .i64 a, .int .i64 b]] w (Ret (.bool (decide (b ≤ a))) w) := by
  go_enter Tryd.func37, Tryd.ntmps37
  go_wp2
  go_ret
  exact ret_bool rfl (nxA _ _)
set_option maxHeartbeats 1000000 in
theorem Holder_any (m : Mt) (h : Int) (w : World) (hr : TaleAt w w.heap.size m) : Calls Tryd.prog 14 #[.agg #[.int .i64 m.t.n, .slice m.A1 m.t.loans.length m.c1, .slice m.A2 m.t.looks.length m.c2, .slice m.A3 m.t.admits.length m.c3], .int .i64 h] w (Ret (ret2 (holderS m.t h)) w) := by
  have B0 := Lib.hid (nxA w (.cells #[.int .i64 m.t.n, .slice m.A1 m.t.loans.length m.c1, .slice m.A2 m.t.looks.length m.c2, .slice m.A3 m.t.admits.length m.c3] 26))
  have HX := Lib.hid (Bx.new w #[.int .i64 m.t.n, .slice m.A1 m.t.loans.length m.c1, .slice m.A2 m.t.looks.length m.c2, .slice m.A3 m.t.admits.length m.c3] 26)
  have HR := Lib.hid (hr.next B0.out)
  clear hr
  have HD := Lib.hid (show holderS m.t h = if okTale m.t = false then (0, 1) else if inS h 0 1048575 = false then (0, 2) else (holdR m.t.loans h, 0) from rfl)
  go_enter Tryd.func14, Tryd.ntmps14
  go_wp2_with fail
  generalize w.alloc (.cells #[.int .i64 m.t.n, .slice m.A1 m.t.loans.length m.c1, .slice m.A2 m.t.looks.length m.c2, .slice m.A3 m.t.admits.length m.c3] 26) = V at *
  refine (isTale_any m _ HR.out).mono ?_
  rintro e w1 ⟨rfl, hb1⟩
  have B1 := Lib.hid (B0.out.trans (hb1.mono B0.out.size))
  have X1 := Lib.hid (HX.out.next hb1)
  have R1 := Lib.hid (HR.out.next hb1)
  have c0 := X1.out.c 0 _ rfl
  have c1 := X1.out.c 1 _ rfl
  have c2 := X1.out.c 2 _ rfl
  have c3 := X1.out.c 3 _ rfl
  have hz := X1.out.lt
  clear hb1
  cases ht : okTale m.t
  · go_wp2
    (try simp only [Exit.inBlock, Exit.then])
    refine bodyPost_ret (results_tmp2 rfl _ _ _) rfl ?_
    exact ⟨by rw [HD.out, ht]; rfl, B1.out⟩
  · cases hi : inS h 0 1048575
    · go_wp2_with (go_at_call 31; (with_reducible refine (within_any _ _ _ _).mono ?_); rintro e w' ⟨rfl, rfl⟩)
      (try simp only [Exit.inBlock, Exit.then])
      refine bodyPost_ret (results_tmp2 rfl _ _ _) rfl ?_
      exact ⟨by rw [HD.out, ht, hi]; rfl, B1.out⟩
    · go_wp2_with (first | (go_at_call 31; (with_reducible refine (within_any _ _ _ _).mono ?_); rintro e w' ⟨rfl, rfl⟩) | fail)
      refine (indexHold_any h _ _ _ _ R1.out.lo R1.out.l1).mono ?_
      rintro e w2 ⟨r, rfl, hr1, hr2, hb2⟩
      have B2 := Lib.hid (B1.out.trans (hb2.mono B1.out.size))
      have X2 := Lib.hid (X1.out.next hb2)
      have R2 := Lib.hid (R1.out.below hb2)
      have c1 := X2.out.c 1 _ rfl
      have hz2 := X2.out.lt
      have HR1 := Lib.hid hr1
      have HR2 := Lib.hid hr2
      have hz3 := Lib.hid hb2.size
      clear hb2 hr1 hr2
      by_cases h0 : 0 ≤ r
      · obtain ⟨k, rfl⟩ : ∃ k : Nat, r = k := ⟨r.toNat, by omega⟩
        obtain ⟨x, hx, hp, hf⟩ := HR2.out k rfl
        have hlt : k < m.t.loans.length := (List.getElem?_eq_some_iff.1 hx).1
        have hcap := R2.out.l1
        obtain ⟨b, off, e, hbk, g0, g1, g2⟩ := loan_at R2.out.lo hlt
        have hgx : m.t.loans.getD k ⟨0, 0, 0⟩ = x := by rw [List.getD_eq_getElem?_getD, hx]; rfl
        rw [hgx] at g0 g1 g2
        rw [e] at c1
        have hbs : b < w2.heap.size := Nat.lt_of_lt_of_le hbk hz3.out
        have HF := Lib.hid (show holdR m.t.loans h = x.p from by unfold holdR holdS; rw [hf]; rfl)
        clear hx hp hf hgx e
        go_wp2
        (try simp only [Exit.inBlock, Exit.then])
        refine bodyPost_ret (results_tmp2 rfl _ _ _) rfl ?_
        exact ⟨by rw [HD.out, ht, hi, HF.out]; rfl, B2.out⟩
      · have HF := Lib.hid (show holdR m.t.loans h = -1 from by
          unfold holdR
          rw [holdS_none.2 (by rw [← HR1.out]; exact decide_eq_false h0)]; rfl)
        go_wp2
        (try simp only [Exit.inBlock, Exit.then])
        refine bodyPost_ret (results_tmp2 rfl _ _ _) rfl ?_
        exact ⟨by rw [HD.out, ht, hi, HF.out]; rfl, B2.out⟩
end Go.Proofs.YtkcfpnpejaekjaaDoor
