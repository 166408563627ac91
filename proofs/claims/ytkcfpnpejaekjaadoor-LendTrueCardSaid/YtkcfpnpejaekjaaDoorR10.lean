import Derived.Test.YtkcfpnpejaekjaaDoorR9
namespace Go.Proofs.YtkcfpnpejaekjaaDoor
open Go.RowKit
/-! The reference: Clash. -/
theorem susp_empty {l : List Loan} {s : List Look} {k : Nat} (hl : Lent l) (hs : ∀ x ∈ s, 0 ≤ x.h ∧ x.h ≤ mxH) : susp l s k = 0 ↔ goneS s k ≤ seenS s k := by
  constructor
  · intro h
    refine Classical.byContradiction fun hn => ?_
    have h1 : InW s k (seenS s k) := (inW_iff s k _).2 ⟨Int.le_refl _, by omega⟩
    have := (susp_iff (l := l) (s := s) (k := k) (p := whoH l (seenS s k)) hl hs).2 ⟨_, h1, rfl⟩
    rw [h, Nat.zero_testBit] at this; cases this
  · intro h; unfold susp; exact if_pos h
def takeM (m : Mt) (i : Nat) : Mt := { m with t := { m.t with looks := m.t.looks.take i } }
theorem takeM_ok {m : Mt} (ok : OkT m.t) (i : Nat) : OkT (takeM m i).t := ⟨ok.n1, ok.n2, ok.a1, ok.a2, ok.lo, by show (m.t.looks.take i).length ≤ 20; have := ok.lk; rw [List.length_take]; omega, ok.lent, ok.per, fun x hx => ok.look x (List.mem_of_mem_take hx), ok.adm⟩
theorem takeM_at {m : Mt} {w : World} {B : Nat} (h : TaleAt w B m) (i : Nat) : TaleAt w B (takeM m i) := ⟨h.lo, h.lk.pre' (List.take_append_drop i m.t.looks).symm, h.ad, h.l1, by show (m.t.looks.take i).length ≤ _; have := h.l2; rw [List.length_take]; omega, h.l3, h.k1, by show (m.t.looks.take i).length ≤ m.c2; have := h.k2; rw [List.length_take]; omega, h.k3⟩
def CrO (m : Mt) (w : World) (i : Nat) (W : World) : Prop := Below w.heap.size w W ∧ Bx W w.heap.size m.cells ∧ clashL m.t i = none
def CrI (m : Mt) (w : World) (b5 i k : Nat) (W : World) : Prop := CrO m w i W ∧ Bx W b5 (takeM m (i + 1)).cells ∧ ∀ q, q < k → ¬ goneS (m.t.looks.take (i + 1)) q ≤ seenS (m.t.looks.take (i + 1)) q
set_option maxRecDepth 100000 in
set_option maxHeartbeats 4000000 in
theorem ClashR_any (m : Mt) (w : World) (hr : TaleAt w w.heap.size m) : Calls Tryd.prog 23 #[.agg #[.int .i64 m.t.n, .slice m.A1 m.t.loans.length m.c1, .slice m.A2 m.t.looks.length m.c2, .slice m.A3 m.t.admits.length m.c3]] w (Ret (retCl (clashS m.t)) w) := by
  have n1 := nxA w (.cells #[.int .i64 m.t.n, .slice m.A1 m.t.loans.length m.c1, .slice m.A2 m.t.looks.length m.c2, .slice m.A3 m.t.admits.length m.c3] 26)
  have y1 := Bx.new w #[.int .i64 m.t.n, .slice m.A1 m.t.loans.length m.c1, .slice m.A2 m.t.looks.length m.c2, .slice m.A3 m.t.admits.length m.c3] 26
  have HR := Lib.hid hr
  have HB := Lib.hid n1
  have HX := Lib.hid y1
  have HRV := Lib.hid (hr.next n1)
  clear hr n1 y1
  have HD := Lib.hid (show clashS m.t = if okTale m.t = false then ((0 : Int), (1 : Int)) else match clashL m.t m.t.looks.length with
    | some i => ((i : Int), 0)
    | none => if fitB m.t = false then ((m.t.looks.length : Int), 0) else (0, 4) from rfl)
  go_enter Tryd.func23, Tryd.ntmps23
  go_upto_region 1 with fail
  generalize w.alloc (.cells #[.int .i64 m.t.n, .slice m.A1 m.t.loans.length m.c1, .slice m.A2 m.t.looks.length m.c2, .slice m.A3 m.t.admits.length m.c3] 26) = V at *
  have c0 := HX.out.c 0 _ rfl
  have c1 := HX.out.c 1 _ rfl
  have c2 := HX.out.c 2 _ rfl
  have c3 := HX.out.c 3 _ rfl
  have hl := HX.out.lt
  go_wp2_with fail
  refine (Tale_any m _ HRV.out).mono ?_
  rintro e W1 ⟨rfl, hb1⟩
  have HB1 := Lib.hid (HB.out.trans (hb1.mono HB.out.size))
  have X1 := Lib.hid (HX.out.next hb1)
  clear hb1 c0 c1 c2 c3 hl
  cases ht : okTale m.t
  · rw [ht] at HD
    clear ht
    go_wp2_with fail
    (try simp only [Exit.inBlock, Exit.then])
    refine bodyPost_ret (results_tmp2 rfl _ _ _) rfl ?_
    exact ⟨by rw [HD.out]; rfl, HB1.out⟩
  · rw [ht] at HD
    have OK := Lib.hid (okT_of ht)
    clear ht
    have HD2 := Lib.hid (HD.out.trans (if_neg (by decide)))
    clear HD
    obtain ⟨n, hn⟩ : ∃ n : Nat, m.t.n = n := ⟨m.t.n.toNat, by have := OK.out.n1; omega⟩
    have HN := Lib.hid (show m.t.n.toNat = n by omega)
    have hn16 : n ≤ 16 := by have := OK.out.n2; omega
    have HC0 := Lib.hid (show ∀ W, Bx W w.heap.size m.cells → W.cell? ⟨w.heap.size, 0, none⟩ = some (.int .i64 n) from fun W h => by have := h.c 0 _ rfl; rw [hn] at this; exact this)
    have hlk := OK.out.lk
    have hkc : m.t.looks.length ≤ m.c2 := HR.out.k2
    clear hn
    go_wp2_with fail
    go_loopw [4] (fun iv wr => ∃ i : Nat, iv = .int .i64 i ∧ i ≤ m.t.looks.length ∧ CrO m w i wr) (fun iv _ => m.t.looks.length - (intOf iv).toNat)
    case atStart => exact ⟨0, rfl, by omega, HB1.out, X1.out, rfl⟩
    case round =>
      obtain ⟨i, rfl, hi, hb, hx, hcl⟩ := hrel
      have HBo := Lib.hid hb
      have HXo := Lib.hid hx
      have HCL := Lib.hid hcl
      have HRi := Lib.hid ((HR.out.below hb).more hb.size)
      clear hcl
      by_cases hlt : i < m.t.looks.length
      · obtain ⟨b, off, eA, hbk, -⟩ := look_at HRi.out.lk hlt
        have c0 := hx.c 0 _ rfl
        have c1 := hx.c 1 _ rfl
        have c2 := hx.c 2 _ rfl
        have c3 := hx.c 3 _ rfl
        have hlx := hx.lt
        have hic : i + 1 ≤ m.c2 := by omega
        have hw1 : IntKind.i64.wrap ((i : Int) + 1) = ((i + 1 : Nat) : Int) := by rw [IntKind.wrap_i64]; omega
        have hI5 : 0 ≤ (i : Int) + 1 := by omega
        have hI6 : (i : Int) + 1 ≤ (m.c2 : Int) := by omega
        have n5 := nxA wr (.cells #[.int .i64 m.t.n, .slice m.A1 m.t.loans.length m.c1, .slice m.A2 (i + 1) m.c2, .slice m.A3 m.t.admits.length m.c3] 26)
        have y5 := Bx.new wr #[.int .i64 m.t.n, .slice m.A1 m.t.loans.length m.c1, .slice m.A2 (i + 1) m.c2, .slice m.A3 m.t.admits.length m.c3] 26
        have hlen : (takeM m (i + 1)).t.looks.length = i + 1 := by show (m.t.looks.take (i + 1)).length = _; rw [List.length_take]; omega
        have HLEN := Lib.hid hlen
        have HTC := Lib.hid (show (takeM m (i + 1)).cells = [.int .i64 m.t.n, .slice m.A1 m.t.loans.length m.c1, .slice m.A2 (i + 1) m.c2, .slice m.A3 m.t.admits.length m.c3] from by unfold Mt.cells; rw [hlen]; rfl)
        have HB5 := Lib.hid (HBo.out.trans (n5.mono HBo.out.size))
        have X5 := Lib.hid (HXo.out.next n5)
        have Y5 := Lib.hid (show Bx _ _ (takeM m (i + 1)).cells from by rw [HTC.out]; exact y5)
        have hbl := hx.lt
        rw [eA] at c2
        rw [eA] at Y5 HB5 X5
        have EA := Lib.hid eA
        clear hb hx n5 y5 hlen eA
        go_upto_region 8 with fail
        generalize wr.alloc (.cells #[.int .i64 m.t.n, .slice m.A1 m.t.loans.length m.c1, .slice (some ⟨b, off, none⟩) (i + 1) m.c2, .slice m.A3 m.t.admits.length m.c3] 26) = W5 at *
        obtain ⟨b5, hb5⟩ : ∃ b5, b5 = wr.heap.size := ⟨_, rfl⟩
        rw [← hb5] at Y5 ⊢
        have H0 := Lib.hid (show CrI m w b5 i 0 W5 from ⟨⟨HB5.out, X5.out, HCL.out⟩, Y5.out, fun q hq => by omega⟩)
        clear hb5 c0 c1 c2 c3 hlx hw1 hI5 hI6 hbl X5 Y5 HB5
        go_wp2_with fail
        go_loopw [6] (fun kv wi => ∃ k : Nat, kv = .int .i64 k ∧ k ≤ n ∧ CrI m w b5 i k wi) (fun kv _ => n - (intOf kv).toNat)
        case atStart => exact ⟨0, rfl, by omega, H0.out⟩
        case round =>
          obtain ⟨k, rfl, hk, hin, hy, hne⟩ := hrel
          have HNE := Lib.hid hne
          have HIN := Lib.hid hin
          have HY := Lib.hid hy
          have hxb := hin.2.1
          have c0 := HC0.out _ hxb
          clear hin hne
          by_cases hkn : k < n
          · have hy' := hy
            rw [HTC.out] at hy'
            have d0 := hy'.c 0 _ rfl
            have d1 := hy'.c 1 _ rfl
            have d2 := hy'.c 2 _ rfl
            have d3 := hy'.c 3 _ rfl
            have hly := hy.lt
            have HSC := Suspects_any (takeM m (i + 1)) k wr (takeM_at ((HR.out.below HIN.out.1).more HIN.out.1.size) (i + 1)) (takeM_ok OK.out (i + 1)) (by omega)
            rw [HLEN.out] at HSC
            have HS := Lib.hid HSC
            have HSE := Lib.hid (susp_empty (l := m.t.loans) (s := m.t.looks.take (i + 1)) (k := k) OK.out.lent (fun x hx => (OK.out.look x (List.mem_of_mem_take hx)).1))
            have HCS := Lib.hid (fun h => clash_some HCL.out (k := k) (by rw [HN.out]; exact hkn) h)
            have HE := Lib.hid (show seenS (m.t.looks.take (i + 1)) k < goneS (m.t.looks.take (i + 1)) k → ∀ q, q < k + 1 → ¬ goneS (m.t.looks.take (i + 1)) q ≤ seenS (m.t.looks.take (i + 1)) q from fun h q hq => by
              by_cases e : q = k
              · subst e; omega
              · have := HNE.out q (by omega); omega)
            clear hy hy' HSC hxb
            go_upto_region 11 with fail
            go_wp2_with fail
            refine HS.out.mono ?_
            rintro e W8 ⟨rfl, hb8⟩
            have Q := Lib.hid (show CrO m w i W8 from ⟨HIN.out.1.trans (hb8.mono HIN.out.1.size), HIN.out.2.1.next hb8, HCL.out⟩)
            have QY := Lib.hid (HY.out.next hb8)
            clear c0 d0 d1 d2 d3 hly hb8 HS
            dsimp only [takeM]
            generalize susp m.t.loans (m.t.looks.take (i + 1)) k = S at *
            generalize seenS (m.t.looks.take (i + 1)) k = sv at *
            generalize goneS (m.t.looks.take (i + 1)) k = gv at *
            by_cases hS : S = 0
            · have e1 : ((S : Int) == 0) = true := by simp [hS]
              have HC := Lib.hid (HCS.out (HSE.out.1 hS))
              have hcm := Lib.hid (show clashL m.t m.t.looks.length = some i from by
                have := clash_mono HC.out (m.t.looks.length - (i + 1))
                rw [show i + 1 + (m.t.looks.length - (i + 1)) = m.t.looks.length by omega] at this
                exact this)
              clear hS
              go_wp2_with fail
              (try simp only [Exit.inBlock, Exit.then])
              refine bodyPost_ret (results_tmp2 rfl _ _ _) rfl ?_
              refine ⟨?_, Q.out.1⟩
              rw [HD2.out, hcm.out]; rfl
            · have e1 : ((S : Int) == 0) = false := by simpa using hS
              have hgt : sv < gv := by
                refine Classical.byContradiction fun hn => hS (HSE.out.2 (by omega))
              have HF := Lib.hid (show CrI m w b5 i (k + 1) W8 from ⟨Q.out, QY.out, fun q hq => Int.not_le.2 (by have := HE.out hgt q hq; omega)⟩)
              clear hS hgt
              go_wp2_with fail
              exact ⟨⟨k + 1, by go_num, by omega, HF.out⟩, by simp [intOf]; omega⟩
          · obtain rfl : k = n := by omega
            have HF := Lib.hid (show CrO m w (i + 1) wr from ⟨HIN.out.1, HIN.out.2.1, clash_none HCL.out (fun q hq => by have := HNE.out q (by rw [HN.out] at hq; exact hq); omega)⟩)
            clear hy hxb
            go_wp2_with fail
            exact ⟨⟨i + 1, by go_num, by omega, HF.out⟩, by simp [intOf]; omega⟩
      · obtain rfl : i = m.t.looks.length := by omega
        rw [HCL.out] at HD2
        dsimp only at HD2
        have c0 := hx.c 0 _ rfl
        have c1 := hx.c 1 _ rfl
        have c2 := hx.c 2 _ rfl
        have c3 := hx.c 3 _ rfl
        have hlx := hx.lt
        clear hb hx
        go_wp2_with fail
        refine (Fits_any m wr HRi.out OK.out).mono ?_
        rintro e W8 ⟨rfl, hb8⟩
        have Q := Lib.hid (HXo.out.next hb8)
        have QB := Lib.hid (HBo.out.trans (hb8.mono HBo.out.size))
        clear c0 c1 c2 c3 hlx hb8
        have c2 := Q.out.c 2 _ rfl
        have hlx := Q.out.lt
        cases hf : fitB m.t
        · rw [hf, if_pos rfl] at HD2
          clear hf
          go_wp2_with fail
          (try simp only [Exit.inBlock, Exit.then])
          refine bodyPost_ret (results_tmp2 rfl _ _ _) rfl ?_
          exact ⟨by rw [HD2.out]; rfl, QB.out⟩
        · rw [hf, if_neg (by decide)] at HD2
          clear hf
          go_wp2_with fail
          (try simp only [Exit.inBlock, Exit.then])
          refine bodyPost_ret (results_tmp2 rfl _ _ _) rfl ?_
          exact ⟨by rw [HD2.out]; rfl, QB.out⟩
end Go.Proofs.YtkcfpnpejaekjaaDoor
