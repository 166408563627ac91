import Derived.Test.YtkcfpnpejaekjaaDoorR8
import Derived.Test.YtkcfpnpejaekjaaDoorA1
namespace Go.Proofs.YtkcfpnpejaekjaaDoor
open Go.RowKit
/-! The reference: Lost. -/
theorem lostL_step (t : Tl) (p n : Nat) : lostL t p (n + 1) = if fitB (saysT t p n) then (if (lostL t p n).2.2 then (lostL t p n).1 else (n : Int), (n : Int), true) else lostL t p n := rfl
structure LrI (m : Mt) (p b6 : Nat) (w : World) (fv kv : Value) (k : Nat) (W : World) : Prop where
  hk : k ≤ m.t.n.toNat + 1
  e1 : kv = .int .i64 k
  e2 : fv = .bool (lostL m.t p k).2.2
  b : Below w.heap.size w W
  x2 : Bx W w.heap.size m.cells
  x4 : Bx W (w.heap.size + 1) [.int .i64 0, .int .i64 0]
  x6 : Bx W b6 [.int .i64 (lostL m.t p k).1, .int .i64 (lostL m.t p k).2.1]
set_option maxRecDepth 100000 in
set_option maxHeartbeats 4000000 in
theorem LostR_any (m : Mt) (p : Int) (w : World) (hr : TaleAt w w.heap.size m) : Calls Tryd.prog 21 #[.agg #[.int .i64 m.t.n, .slice m.A1 m.t.loans.length m.c1, .slice m.A2 m.t.looks.length m.c2, .slice m.A3 m.t.admits.length m.c3], .int .i64 p] w (Ret (retLost (lostS m.t p)) w) := by
  have n1 := nxA w (.cells #[.int .i64 m.t.n, .slice m.A1 m.t.loans.length m.c1, .slice m.A2 m.t.looks.length m.c2, .slice m.A3 m.t.admits.length m.c3] 26)
  have y1 := Bx.new w #[.int .i64 m.t.n, .slice m.A1 m.t.loans.length m.c1, .slice m.A2 m.t.looks.length m.c2, .slice m.A3 m.t.admits.length m.c3] 26
  have s1 : (w.alloc (.cells #[.int .i64 m.t.n, .slice m.A1 m.t.loans.length m.c1, .slice m.A2 m.t.looks.length m.c2, .slice m.A3 m.t.admits.length m.c3] 26)).heap.size = w.heap.size + 1 := by simp
  have HR := Lib.hid hr
  have HD := Lib.hid (show lostS m.t p = if okTale m.t = false then (((0 : Int), (0 : Int)), (1 : Int)) else if inS p 0 ((m.t.admits.length : Int) - 1) = false then ((0, 0), 2) else if fitB m.t = false then ((0, 0), 6) else
    if m.t.admits.getD p.toNat 0 ≠ -1 then ((m.t.admits.getD p.toNat 0, m.t.admits.getD p.toNat 0), 0) else (((lostL m.t p.toNat (m.t.n.toNat + 1)).1, (lostL m.t p.toNat (m.t.n.toNat + 1)).2.1), 0) from rfl)
  clear hr
  go_enter Tryd.func21, Tryd.ntmps21
  go_upto_region 1 with fail
  generalize w.alloc (.cells #[.int .i64 m.t.n, .slice m.A1 m.t.loans.length m.c1, .slice m.A2 m.t.looks.length m.c2, .slice m.A3 m.t.admits.length m.c3] 26) = V1 at *
  have n2 := nxA V1 (.cells #[.int .i64 0, .int .i64 0] 33)
  have y2 := Bx.new V1 #[.int .i64 0, .int .i64 0] 33
  generalize V1.alloc (.cells #[.int .i64 0, .int .i64 0] 33) = V at *
  rw [s1] at y2
  have HB := Lib.hid (n1.trans (n2.mono n1.size))
  have HX := Lib.hid (y1.next n2)
  have HY := Lib.hid y2
  have HRV := Lib.hid (HR.out.next HB.out)
  clear n1 n2 y1 y2 s1
  have c0 := HX.out.c 0 _ rfl
  have c1 := HX.out.c 1 _ rfl
  have c2 := HX.out.c 2 _ rfl
  have c3 := HX.out.c 3 _ rfl
  have hl := HX.out.lt
  go_wp2_with fail
  refine (Tale_any m _ HRV.out).mono ?_
  rintro e W1 ⟨rfl, hb1⟩
  have HB1 := Lib.hid (HB.out.trans (hb1.mono HB.out.size))
  have X1 := Lib.hid (HX.out.next hb1)
  have Y1 := Lib.hid (HY.out.next hb1)
  have R1 := Lib.hid (HRV.out.next hb1)
  clear hb1 c0 c1 c2 c3 hl
  have c0 := X1.out.c 0 _ rfl
  have c1 := X1.out.c 1 _ rfl
  have c2 := X1.out.c 2 _ rfl
  have c3 := X1.out.c 3 _ rfl
  have hl := X1.out.lt
  have s0 := Y1.out.c 0 _ rfl
  have s1 := Y1.out.c 1 _ rfl
  have f0 := Y1.out.fr 0
  have f1 := Y1.out.fr 1
  have hl2 := Y1.out.lt
  have HXN := Lib.hid (Y1.out.setAll [.int .i64 0, .int .i64 0] rfl)
  have HBN := Lib.hid (below_setCells (b := w.heap.size + 1) (by omega) [.int .i64 0, .int .i64 0] 0 HB1.out)
  cases ht : okTale m.t
  · rw [ht] at HD
    clear ht
    go_wp2_with fail
    (try simp only [Exit.inBlock, Exit.then])
    refine bodyPost_ret (results_cellA rfl rfl (loadSp HXN.out)) rfl ?_
    exact ⟨by rw [HD.out]; rfl, HBN.out⟩
  · rw [ht, if_neg (by decide)] at HD
    have OK := Lib.hid (okT_of ht)
    have ha1 := OK.out.a1
    have ha2 := OK.out.a2
    have hw : IntKind.i64.wrap ((m.t.admits.length : Int) - 1) = (m.t.admits.length : Int) - 1 := IntWalk.i64_in _ (by omega)
    clear ht
    cases hi : inS p 0 ((m.t.admits.length : Int) - 1)
    · rw [hi] at HD
      go_wp2_with (go_at_call 34; (with_reducible refine (in_any _ _ _ _).mono ?_); rintro e w' ⟨rfl, rfl⟩)
      (try simp only [Exit.inBlock, Exit.then])
      refine bodyPost_ret (results_cellA rfl rfl (loadSp HXN.out)) rfl ?_
      exact ⟨by rw [HD.out]; rfl, HBN.out⟩
    · rw [hi, if_neg (by decide)] at HD
      have hip := inS_iff.1 hi
      obtain ⟨q, hq⟩ : ∃ q : Nat, p = q := ⟨p.toNat, by omega⟩
      subst hq
      rw [show ((q : Int)).toNat = q by omega] at HD
      have hql : q < m.t.admits.length := by omega
      go_wp2_with (first | (go_at_call 34; (with_reducible refine (in_any _ _ _ _).mono ?_); rintro e w' ⟨rfl, rfl⟩) | fail)
      refine (Fits_any m W1 R1.out OK.out).mono ?_
      rintro e W2 ⟨rfl, hb2⟩
      have HB2 := Lib.hid (HB1.out.trans (hb2.mono HB1.out.size))
      have X2 := Lib.hid (X1.out.next hb2)
      have Y2 := Lib.hid (Y1.out.next hb2)
      have R2 := Lib.hid (R1.out.next hb2)
      clear hb2 c0 c1 c2 c3 hl hip hw hi s0 s1 f0 f1 hl2 HXN HBN
      have s0 := Y2.out.c 0 _ rfl
      have s1 := Y2.out.c 1 _ rfl
      have f0 := Y2.out.fr 0
      have f1 := Y2.out.fr 1
      have hl2 := Y2.out.lt
      cases hf : fitB m.t
      · rw [hf] at HD
        have HXN := Lib.hid (Y2.out.setAll [.int .i64 0, .int .i64 0] rfl)
        have HBN := Lib.hid (below_setCells (b := w.heap.size + 1) (by omega) [.int .i64 0, .int .i64 0] 0 HB2.out)
        clear hf
        go_wp2_with fail
        (try simp only [Exit.inBlock, Exit.then])
        refine bodyPost_ret (results_cellA rfl rfl (loadSp HXN.out)) rfl ?_
        exact ⟨by rw [HD.out]; rfl, HBN.out⟩
      · rw [hf, if_neg (by decide)] at HD
        clear hf
        obtain ⟨b, off, eA, hb, h0⟩ := int_at (HR.out.ad.below HB2.out) hql
        have hbs := Nat.lt_of_lt_of_le hb HB2.out.size
        have hxr := OK.out.adm (m.t.admits.getD q 0) (getD_mem hql)
        obtain ⟨x, hx⟩ : ∃ x, x = m.t.admits.getD q 0 := ⟨_, rfl⟩
        rw [← hx] at h0 HD
        clear hx
        have c3 := X2.out.c 3 _ rfl
        rw [eA] at c3
        have hlx := X2.out.lt
        have hcl : m.t.admits.length ≤ m.c3 := HR.out.k3
        clear eA
        by_cases h1 : x = -1
        · have h1' : (x != -1) = false := by rw [h1]; rfl
          rw [if_neg (by rw [h1]; simp)] at HD
          clear h1
          go_upto_region 9 with fail
          have n6 := nxA W2 (.cells #[.int .i64 0, .int .i64 0] 33)
          have y6 := Bx.new W2 #[.int .i64 0, .int .i64 0] 33
          have H0 := Lib.hid (show LrI m q W2.heap.size w (.bool false) (.int .i64 0) 0 (W2.alloc (.cells #[.int .i64 0, .int .i64 0] 33)) from ⟨by omega, rfl, rfl, HB2.out.trans (n6.mono HB2.out.size), X2.out.next n6, Y2.out.next n6, y6⟩)
          have HBB := Lib.hid (show w.heap.size + 1 < W2.heap.size from Y2.out.lt)
          obtain ⟨n, hn⟩ : ∃ n : Nat, m.t.n = n := ⟨m.t.n.toNat, by have := OK.out.n1; omega⟩
          have HN := Lib.hid (show m.t.n.toNat = n by omega)
          have hn16 : n ≤ 16 := by have := OK.out.n2; omega
          have HC0 := Lib.hid (show ∀ W, Bx W w.heap.size m.cells → W.cell? ⟨w.heap.size, 0, none⟩ = some (.int .i64 n) from fun W h => by have := h.c 0 _ rfl; rw [hn] at this; exact this)
          clear n6 y6 hn c3 h0 s0 s1 f0 f1 hl2 hlx hb
          go_upto_region 10 with fail
          generalize W2.alloc (.cells #[.int .i64 0, .int .i64 0] 33) = W6 at *
          generalize W2.heap.size = b6 at *
          go_wp2_with fail
          go_loopw [7, 8] (fun fv kv wr => ∃ k : Nat, LrI m q b6 w fv kv k wr) (fun _ kv _ => n + 1 - (intOf kv).toNat)
          case atStart => exact ⟨0, H0.out⟩
          case round =>
            obtain ⟨k, hi⟩ := hrel
            have HI := Lib.hid hi
            obtain ⟨hk, e1, e2, -, -, -, -⟩ := hi
            subst e1 e2
            rw [HN.out] at hk
            have c0 := HC0.out _ HI.out.x2
            by_cases hlt : k < n + 1
            · have hkn : (k : Int) ≤ n := by omega
              have c0' := HI.out.x2.c 0 _ rfl
              have HTi := Lib.hid ((HR.out.below HI.out.b).more HI.out.b.size)
              have OKS := Lib.hid (says_ok (p := q) (v := (k : Int)) OK.out (by omega))
              have c1 := HI.out.x2.c 1 _ rfl
              have c2 := HI.out.x2.c 2 _ rfl
              have c3 := HI.out.x2.c 3 _ rfl
              have hl := HI.out.x2.lt
              have HSY := Lib.hid (Says_any m q (k : Int) wr HTi.out hql (by omega))
              have HST := Lib.hid (lostL_step m.t q k)
              go_upto_region 13 with fail
              clear c0
              have c0 := c0'
              go_wp2_with fail
              refine HSY.out.mono ?_
              rintro e W7 ⟨gs, cs, hcs, hgs, rfl, hat7, hb7⟩
              have HT7 := Lib.hid (RetSy.tale HTi.out hb7 hcs hat7)
              have HB7 := Lib.hid hb7
              clear c0 c0' c1 c2 c3 hl hat7 hb7 HSY
              go_wp2_with fail
              have HFC := Fits_any ⟨saysT m.t q k, m.A1, m.c1, m.A2, m.c2, some ⟨gs, 0, none⟩, cs⟩ W7 HT7.out OKS.out
              rw [show (saysT m.t q (k : Int)).admits.length = m.t.admits.length from List.length_set] at HFC
              dsimp only at HFC
              refine HFC.mono ?_
              rintro e W8 ⟨rfl, hb8⟩
              have hb := HB7.out.trans (hb8.mono HB7.out.size)
              have Q2 := Lib.hid (HI.out.x2.next hb)
              have Q4 := Lib.hid (HI.out.x4.next hb)
              have Q6 := Lib.hid (HI.out.x6.next hb)
              have QB := Lib.hid (HI.out.b.trans (hb.mono HI.out.b.size))
              clear HFC hb hb8 HI HB7 HT7
              have hb6w : w.heap.size ≤ b6 := by have := HBB.out; omega
              have z0 := Q6.out.c 0 _ rfl
              have z1 := Q6.out.c 1 _ rfl
              have y0 := Q6.out.fr 0
              have y1 := Q6.out.fr 1
              have hl6 := Q6.out.lt
              generalize lostL m.t q k = S at *
              obtain ⟨lo, hi, fd⟩ := S
              dsimp only at z0 z1 HST ⊢
              cases hf : fitB (saysT m.t q (k : Int))
              · rw [hf] at HST
                have HST2 := Lib.hid (HST.out.trans (if_neg (by decide)))
                have HFIN := Lib.hid (show LrI m q b6 w (.bool fd) (.int .i64 ((k + 1 : Nat) : Int)) (k + 1) W8 from ⟨by rw [HN.out]; omega, rfl, by rw [HST2.out], QB.out, Q2.out, Q4.out, by rw [HST2.out]; exact Q6.out⟩)
                clear hf z0 z1 y0 y1 hl6
                go_wp2_with fail
                refine ⟨⟨k + 1, ?_⟩, by simp [intOf]; omega⟩
                have := HFIN.out
                rwa [show (((k + 1 : Nat) : Int)) = (k : Int) + 1 by push_cast; rfl] at this
              · rw [hf] at HST
                have HST2 := Lib.hid (HST.out.trans (if_pos rfl))
                clear hf
                cases fd
                · have hfin : LrI m q b6 w (.bool true) (.int .i64 ((k + 1 : Nat) : Int)) (k + 1) ((W8.setCell ⟨b6, 0, none⟩ (.int .i64 k)).setCell ⟨b6, 1, none⟩ (.int .i64 k)) := by
                    refine ⟨by rw [HN.out]; omega, rfl, by rw [HST2.out], (QB.out.setCell (p := ⟨b6, 0, none⟩) hb6w _).setCell (p := ⟨b6, 1, none⟩) hb6w _, (Q2.out.other (by have := HBB.out; omega) _ _).other (by have := HBB.out; omega) _ _, (Q4.out.other (by have := HBB.out; omega) _ _).other (by have := HBB.out; omega) _ _, ?_⟩
                    rw [HST2.out]
                    exact (Q6.out.set (k := 0) (by simp) (.int .i64 k)).set (k := 1) (by simp) (.int .i64 k)
                  have HFIN := Lib.hid hfin
                  clear hfin
                  go_wp2_with fail
                  refine ⟨⟨k + 1, ?_⟩, by simp [intOf]; omega⟩
                  have := HFIN.out
                  rwa [show (((k + 1 : Nat) : Int)) = (k : Int) + 1 by push_cast; rfl] at this
                · have hfin : LrI m q b6 w (.bool true) (.int .i64 ((k + 1 : Nat) : Int)) (k + 1) (W8.setCell ⟨b6, 1, none⟩ (.int .i64 k)) := by
                    refine ⟨by rw [HN.out]; omega, rfl, by rw [HST2.out], QB.out.setCell (p := ⟨b6, 1, none⟩) hb6w _, Q2.out.other (by have := HBB.out; omega) _ _, Q4.out.other (by have := HBB.out; omega) _ _, ?_⟩
                    rw [HST2.out]
                    exact Q6.out.set (k := 1) (by simp) (.int .i64 k)
                  have HFIN := Lib.hid hfin
                  clear hfin
                  go_wp2_with fail
                  refine ⟨⟨k + 1, ?_⟩, by simp [intOf]; omega⟩
                  have := HFIN.out
                  rwa [show (((k + 1 : Nat) : Int)) = (k : Int) + 1 by push_cast; rfl] at this
            · obtain rfl : k = n + 1 := by omega
              rw [HN.out] at HD
              have hkn : ¬ (((n + 1 : Nat) : Int) ≤ (n : Int)) := by omega
              have hkn2 : decide ((((n + 1 : Nat) : Int)) ≤ (n : Int)) = false := decide_eq_false hkn
              have z0 := HI.out.x6.c 0 _ rfl
              have z1 := HI.out.x6.c 1 _ rfl
              have s0 := HI.out.x4.c 0 _ rfl
              have s1 := HI.out.x4.c 1 _ rfl
              have f0 := HI.out.x4.fr 0
              have f1 := HI.out.x4.fr 1
              have hl4 := HI.out.x4.lt
              have hl6 := HI.out.x6.lt
              have HX4 := Lib.hid HI.out.x4
              have HIB := Lib.hid HI.out.b
              clear HI
              generalize lostL m.t q (n + 1) = S at *
              obtain ⟨lo, hi, fd⟩ := S
              dsimp only at z0 z1 HD ⊢
              have HXN := Lib.hid (HX4.out.setAll [.int .i64 lo, .int .i64 hi] rfl)
              have HBN := Lib.hid (below_setCells (b := w.heap.size + 1) (by omega) [.int .i64 lo, .int .i64 hi] 0 HIB.out)
              go_wp2_with fail
              (try simp only [Exit.inBlock, Exit.then])
              refine bodyPost_ret (results_cellA rfl rfl (loadSp HXN.out)) rfl ?_
              exact ⟨by rw [HD.out]; rfl, HBN.out⟩
        · rw [if_pos h1] at HD
          have h1' : (x != -1) = true := by simpa using h1
          have HXN := Lib.hid (Y2.out.setAll [.int .i64 x, .int .i64 x] rfl)
          have HBN := Lib.hid (below_setCells (b := w.heap.size + 1) (by omega) [.int .i64 x, .int .i64 x] 0 HB2.out)
          clear h1
          go_upto_region 8 with fail
          have HS8 := Lib.hid (show W2.cell? ⟨w.heap.size, 3, none⟩ = some (.slice (some ⟨b, off, none⟩) m.t.admits.length m.c3) ∧ W2.cell? ⟨b, off + q, none⟩ = some (.int .i64 x) from ⟨c3, h0⟩)
          refine wp_region_noPanic ?_
          refine wp_region_held_drew (S := (fun W => W.cell? ⟨w.heap.size, 3, none⟩ = some (.slice (some ⟨b, off, none⟩) m.t.admits.length m.c3) ∧ W.cell? ⟨b, off + q, none⟩ = some (.int .i64 x))) (by kernel_rfl) ?_ (fun hHeld => ?_)
          · (try dsimp only); exact HS8.out
          refine htake (i := 0) (v := ?v1) rfl (by kernel_rfl) (by kernel_rfl) (by kernel_rfl) (fun _ _ _ h => h) (Or.inl ⟨by rfl, ?hy1⟩) (by assumption) ?_
          case hy1 => (intro w hSw; (try dsimp only at hSw); go_simp; try (with_reducible rfl))
          try simp only [Act.put, List.setIfInBounds_toArray, List.set_cons_zero, List.set_cons_succ]
          refine htake (i := 1) (v := ?v2) rfl (by kernel_rfl) (by kernel_rfl) (by kernel_rfl) (fun _ _ _ h => h) (Or.inl ⟨by rfl, ?hy2⟩) (by assumption) ?_
          case hy2 => (intro w hSw; (try dsimp only at hSw); go_simp; try (with_reducible rfl))
          try simp only [Act.put, List.setIfInBounds_toArray, List.set_cons_zero, List.set_cons_succ]
          refine htake (i := 2) (v := ?v3) rfl (by kernel_rfl) (by kernel_rfl) (by kernel_rfl) (fun _ _ _ h => h) (Or.inl ⟨by rfl, ?hy3⟩) (by assumption) ?_
          case hy3 => (intro w hSw; (try dsimp only at hSw); go_simp; try (with_reducible rfl))
          try simp only [Act.put, List.setIfInBounds_toArray, List.set_cons_zero, List.set_cons_succ]
          refine htake (i := 3) (v := ?v4) rfl (by kernel_rfl) (by kernel_rfl) (by kernel_rfl) (fun _ _ _ h => h) (Or.inl ⟨by rfl, ?hy4⟩) (by assumption) ?_
          case hy4 => (intro w hSw; (try dsimp only at hSw); go_simp; try (with_reducible rfl))
          try simp only [Act.put, List.setIfInBounds_toArray, List.set_cons_zero, List.set_cons_succ]
          refine htake (i := 4) (v := ?v5) rfl (by kernel_rfl) (by kernel_rfl) (by kernel_rfl) (fun _ _ _ h => h) (Or.inl ⟨by rfl, ?hy5⟩) (by assumption) ?_
          case hy5 => (intro w hSw; (try dsimp only at hSw); go_simp; try (with_reducible rfl))
          try simp only [Act.put, List.setIfInBounds_toArray, List.set_cons_zero, List.set_cons_succ]
          refine htake (i := 5) (v := ?v6) rfl (by kernel_rfl) (by kernel_rfl) (by kernel_rfl) (fun _ _ _ h => h) (Or.inl ⟨by rfl, ?hy6⟩) (by assumption) ?_
          case hy6 => (intro w hSw; (try dsimp only at hSw); go_simp; try (with_reducible rfl))
          try simp only [Act.put, List.setIfInBounds_toArray, List.set_cons_zero, List.set_cons_succ]
          refine htake (i := 6) (v := ?v7) rfl (by kernel_rfl) (by kernel_rfl) (by kernel_rfl) (fun _ _ _ h => h) (Or.inl ⟨by rfl, ?hy7⟩) (by assumption) ?_
          case hy7 => (intro w hSw; (try dsimp only at hSw); go_simp; try (with_reducible rfl))
          try simp only [Act.put, List.setIfInBounds_toArray, List.set_cons_zero, List.set_cons_succ]
          refine htake (i := 7) (v := ?v8) rfl (by kernel_rfl) (by kernel_rfl) (by kernel_rfl) (fun _ _ _ h => h) (Or.inl ⟨by rfl, ?hy8⟩) (by assumption) ?_
          case hy8 => (intro w hSw; (try dsimp only at hSw); go_simp; try (with_reducible rfl))
          try simp only [Act.put, List.setIfInBounds_toArray, List.set_cons_zero, List.set_cons_succ]
          refine htake (i := 8) (v := ?v9) rfl (by kernel_rfl) (by kernel_rfl) (by kernel_rfl) (fun _ _ _ h => h) (Or.inl ⟨by rfl, ?hy9⟩) (by assumption) ?_
          case hy9 => (intro w hSw; (try dsimp only at hSw); go_simp; try (with_reducible rfl))
          try simp only [Act.put, List.setIfInBounds_toArray, List.set_cons_zero, List.set_cons_succ]
          refine htake (i := 9) (v := ?v10) rfl (by kernel_rfl) (by kernel_rfl) (by kernel_rfl) (fun _ _ _ h => h) (Or.inl ⟨by rfl, ?hy10⟩) (by assumption) ?_
          case hy10 => (intro w hSw; (try dsimp only at hSw); go_simp; try (with_reducible rfl))
          try simp only [Act.put, List.setIfInBounds_toArray, List.set_cons_zero, List.set_cons_succ]
          refine htake (i := 10) (v := ?v11) rfl (by kernel_rfl) (by kernel_rfl) (by kernel_rfl) (fun _ _ _ h => h) (Or.inl ⟨by rfl, ?hy11⟩) (by assumption) ?_
          case hy11 => (intro w hSw; (try dsimp only at hSw); go_simp; try (with_reducible rfl))
          try simp only [Act.put, List.setIfInBounds_toArray, List.set_cons_zero, List.set_cons_succ]
          refine wpAnyH_ready (rs := [11]) (by kernel_rfl) (by simp) ?_
          refine hcons rfl (fun K hK => ?_) (AllReadyH.nil)
          go_simp
          skip
          refine hK.out _ _ ?_ (fun hHeld => ?_)
          · (try dsimp only); exact ⟨((World.cell?_setCell_other _ _ _ _ (by intro e; injection e with e; omega)).trans (World.cell?_setCell_other _ _ _ _ (by intro e; injection e with e; omega))).trans HS8.out.1, ((World.cell?_setCell_other _ _ _ _ (by intro e; injection e with e; omega)).trans (World.cell?_setCell_other _ _ _ _ (by intro e; injection e with e; omega))).trans HS8.out.2⟩
          clear hK K
          try simp only [Act.put, List.setIfInBounds_toArray, List.set_cons_zero, List.set_cons_succ]
          refine htake (i := 12) (v := ?v12) rfl (by kernel_rfl) (by kernel_rfl) (by kernel_rfl) (fun _ _ _ h => h) (Or.inl ⟨by rfl, ?hy12⟩) (by assumption) ?_
          case hy12 => (intro w hSw; (try dsimp only at hSw); go_simp; try (with_reducible rfl))
          try simp only [Act.put, List.setIfInBounds_toArray, List.set_cons_zero, List.set_cons_succ]
          refine wpAnyH_done (by kernel_rfl) ?_ _
          refine NoPanic.normal ?_
          iterate 14 (try clear hHeld)
          go_wp2_with fail
          (try simp only [Exit.inBlock, Exit.then])
          refine bodyPost_ret (results_cellA rfl rfl (loadSp HXN.out.drew)) rfl ?_
          exact ⟨by rw [HD.out]; rfl, HBN.out.drew⟩
end Go.Proofs.YtkcfpnpejaekjaaDoor
