import Derived.Test.YtkcfpnpejaekjaaDoorM2
import Derived.Test.YtkcfpnpejaekjaaDoorR8
namespace Go.Proofs.YtkcfpnpejaekjaaDoor
open Go.RowKit
/-! The law LendMany. -/
set_option maxRecDepth 100000 in
set_option maxHeartbeats 4000000 in
theorem LendMany_walk (m : Mt) (p : Int) (w : World) (hd : TaleAt w w.heap.size m) (he : Env w) : Calls Tryd.prog 8 #[.agg #[.int .i64 m.t.n, .slice m.A1 m.t.loans.length m.c1, .slice m.A2 m.t.looks.length m.c2, .slice m.A3 m.t.admits.length m.c3], .int .i64 p] w (Ret (.bool true) w) := by
  have K := Lib.hid (show LwT m w.heap.size (w.alloc (.cells #[.int .i64 m.t.n, .slice m.A1 m.t.loans.length m.c1, .slice m.A2 m.t.looks.length m.c2, .slice m.A3 m.t.admits.length m.c3] 26)) from ⟨hd.next (nxA _ _), he.next (nxA _ _), Bx.new w #[.int .i64 m.t.n, .slice m.A1 m.t.loans.length m.c1, .slice m.A2 m.t.looks.length m.c2, .slice m.A3 m.t.admits.length m.c3] 26⟩)
  have HB := Lib.hid (nxA w (.cells #[.int .i64 m.t.n, .slice m.A1 m.t.loans.length m.c1, .slice m.A2 m.t.looks.length m.c2, .slice m.A3 m.t.admits.length m.c3] 26))
  clear hd he
  obtain ⟨lo, hi, e, hlost⟩ : ∃ lo hi el, lostS m.t p = ((lo, hi), el) := ⟨_, _, _, rfl⟩
  obtain ⟨c, f, hcl⟩ : ∃ c f, clashS m.t = (c, f) := ⟨_, _, rfl⟩
  have HLO := Lib.hid hlost
  have HCL := Lib.hid hcl
  clear hlost hcl
  go_enter Tryd.func8, Tryd.ntmps8
  go_upto_region 1 with fail
  generalize (w.alloc (.cells #[.int .i64 m.t.n, .slice m.A1 m.t.loans.length m.c1, .slice m.A2 m.t.looks.length m.c2, .slice m.A3 m.t.admits.length m.c3] 26)) = V1 at *
  have p0 := K.out.bx.c 0 _ rfl
  have p1 := K.out.bx.c 1 _ rfl
  have p2 := K.out.bx.c 2 _ rfl
  have p3 := K.out.bx.c 3 _ rfl
  go_wp2_with fail
  refine (far_any m V1).mono ?_
  rintro e V2 ⟨rfl, hb⟩
  replace K := Lib.hid (K.out.next hb)
  replace HB := Lib.hid (HB.out.trans (hb.mono HB.out.size))
  clear hb p0 p1 p2 p3
  have p0 := K.out.bx.c 0 _ rfl
  have p1 := K.out.bx.c 1 _ rfl
  have p2 := K.out.bx.c 2 _ rfl
  have p3 := K.out.bx.c 3 _ rfl
  cases farS m.t
  rotate_left
  ·
    go_wp2_with fail
    refine (awake_any V2 K.out.en).mono ?_
    rintro e V99 ⟨rfl, hb⟩
    go_wp2_with fail
    go_ret
    exact ⟨rfl, HB.out.trans (hb.mono HB.out.size)⟩
  · skip
    go_wp2_with fail
    have hcon := (Lost_any m p V2 K.out.ta)
    rw [HLO.out] at hcon
    refine (hcon).mono ?_
    rintro e V3 ⟨rfl, hb⟩
    replace K := Lib.hid (K.out.next hb)
    replace HB := Lib.hid (HB.out.trans (hb.mono HB.out.size))
    clear hb p0 p1 p2 p3 hcon
    dsimp only [retLost]
    have hA := nxA V3 (.cells #[.int .i64 lo, .int .i64 hi] 33)
    replace K := Lib.hid (K.out.next hA)
    replace HB := Lib.hid (HB.out.trans (hA.mono HB.out.size))
    have S1 := Lib.hid (Bx.new V3 #[.int .i64 lo, .int .i64 hi] 33)
    clear hA
    go_upto_region 4 with fail
    generalize (V3.alloc (.cells #[.int .i64 lo, .int .i64 hi] 33)) = V4 at *
    generalize V3.heap.size = g1 at *
    have p0 := K.out.bx.c 0 _ rfl
    have p1 := K.out.bx.c 1 _ rfl
    have p2 := K.out.bx.c 2 _ rfl
    have p3 := K.out.bx.c 3 _ rfl
    go_wp2_with fail
    have hcon := (Clash_any m V4 K.out.ta)
    rw [HCL.out] at hcon
    refine (hcon).mono ?_
    rintro e V5 ⟨rfl, hb⟩
    replace S1 := Lib.hid (S1.out.next hb)
    replace K := Lib.hid (K.out.next hb)
    replace HB := Lib.hid (HB.out.trans (hb.mono HB.out.size))
    clear hb p0 p1 p2 p3 hcon
    dsimp only [retCl]
    go_upto_region 5 with fail
    have hq2 := span_eq3
    rcases many_cases m.t p with ⟨ht, hl⟩ | ⟨ht, hl⟩ | ⟨ht, hl, c', hc⟩ | ⟨ht, hf, hc, q, rfl, hq⟩
    · have h1 := HLO.out
      rw [hl] at h1
      injection h1 with h1 h2
      injection h1 with h1 h3
      subst h1 h2 h3
      have HT := Lib.hid ht
      clear ht hl HLO HCL
      have s0 := S1.out.c 0 _ rfl
      have s1 := S1.out.c 1 _ rfl
      have hq1 := fun W => span_eql 0 0 0 0 W
      simp only [beq_self_eq_true, Bool.and_self] at hq1
      have p0 := K.out.bx.c 0 _ rfl
      have p1 := K.out.bx.c 1 _ rfl
      have p2 := K.out.bx.c 2 _ rfl
      have p3 := K.out.bx.c 3 _ rfl
      go_wp2_with fail
      have hcon := (Tale_any m V5 K.out.ta)
      rw [HT.out] at hcon
      refine (hcon).mono ?_
      rintro e V6 ⟨rfl, hb⟩
      replace S1 := Lib.hid (S1.out.next hb)
      replace K := Lib.hid (K.out.next hb)
      replace HB := Lib.hid (HB.out.trans (hb.mono HB.out.size))
      clear hb p0 p1 p2 p3 s0 s1 hcon
      go_wp2_with fail
      refine (awake_any V6 K.out.en).mono ?_
      rintro e V99 ⟨rfl, hb⟩
      go_wp2_with fail
      go_ret
      exact ⟨rfl, HB.out.trans (hb.mono HB.out.size)⟩
    · have h1 := HLO.out
      rw [hl] at h1
      injection h1 with h1 h2
      injection h1 with h1 h3
      subst h1 h2 h3
      have HT := Lib.hid ht
      clear ht hl HLO HCL
      have s0 := S1.out.c 0 _ rfl
      have s1 := S1.out.c 1 _ rfl
      have hq1 := fun W => span_eql 0 0 0 0 W
      simp only [beq_self_eq_true, Bool.and_self] at hq1
      have p0 := K.out.bx.c 0 _ rfl
      have p1 := K.out.bx.c 1 _ rfl
      have p2 := K.out.bx.c 2 _ rfl
      have p3 := K.out.bx.c 3 _ rfl
      go_wp2_with fail
      have hcon := (Tale_any m V5 K.out.ta)
      rw [HT.out] at hcon
      refine (hcon).mono ?_
      rintro e V6 ⟨rfl, hb⟩
      replace S1 := Lib.hid (S1.out.next hb)
      replace K := Lib.hid (K.out.next hb)
      replace HB := Lib.hid (HB.out.trans (hb.mono HB.out.size))
      clear hb p0 p1 p2 p3 s0 s1 hcon
      go_wp2_with fail
      refine (awake_any V6 K.out.en).mono ?_
      rintro e V99 ⟨rfl, hb⟩
      go_wp2_with fail
      go_ret
      exact ⟨rfl, HB.out.trans (hb.mono HB.out.size)⟩
    · have h1 := HLO.out
      rw [hl] at h1
      injection h1 with h1 h2
      injection h1 with h1 h3
      subst h1 h2 h3
      have h4 := HCL.out
      rw [hc] at h4
      injection h4 with h4 h5
      subst h4 h5
      clear hc
      have HT := Lib.hid ht
      clear ht hl HLO HCL
      have s0 := S1.out.c 0 _ rfl
      have s1 := S1.out.c 1 _ rfl
      have hq1 := fun W => span_eql 0 0 0 0 W
      simp only [beq_self_eq_true, Bool.and_self] at hq1
      have p0 := K.out.bx.c 0 _ rfl
      have p1 := K.out.bx.c 1 _ rfl
      have p2 := K.out.bx.c 2 _ rfl
      have p3 := K.out.bx.c 3 _ rfl
      go_wp2_with fail
      have hcon := (Tale_any m V5 K.out.ta)
      rw [HT.out] at hcon
      refine (hcon).mono ?_
      rintro e V6 ⟨rfl, hb⟩
      replace S1 := Lib.hid (S1.out.next hb)
      replace K := Lib.hid (K.out.next hb)
      replace HB := Lib.hid (HB.out.trans (hb.mono HB.out.size))
      clear hb p0 p1 p2 p3 s0 s1 hcon
      go_wp2_with fail
      refine (awake_any V6 K.out.en).mono ?_
      rintro e V99 ⟨rfl, hb⟩
      go_wp2_with fail
      go_ret
      exact ⟨rfl, HB.out.trans (hb.mono HB.out.size)⟩
    · have h4 := HCL.out
      rw [hc] at h4
      injection h4 with h4 h5
      subst h4 h5
      have OK := Lib.hid (okT_of ht)
      have HT := Lib.hid ht
      have HF := Lib.hid hf
      clear hc hf ht HCL
      have hn1 := OK.out.n1
      have hn16 := OK.out.n2
      have ha6 := OK.out.a2
      have dq := decide_eq_false (show ¬ m.t.admits.length ≤ q by omega)
      have dq0 := decide_eq_false (show ¬ (q : Int) < 0 by omega)
      by_cases hs : m.t.admits.getD q 0 = -1
      rotate_left
      · obtain ⟨hl, v, hv, hvn, -⟩ := many_adm HT.out hq HF.out hs
        have h1 := HLO.out
        rw [hl, hv] at h1
        injection h1 with h1 h2
        injection h1 with h1 h3
        subst h1 h2 h3
        have HV := Lib.hid hv
        have dv := decide_eq_false (show ¬ m.t.n < (v : Int) by omega)
        have dv2 := decide_eq_false (show ¬ (v : Int) < 0 by omega)
        clear hl hv hvn HLO hs
        have s0 := S1.out.c 0 _ rfl
        have s1 := S1.out.c 1 _ rfl
        have p0 := K.out.bx.c 0 _ rfl
        have p1 := K.out.bx.c 1 _ rfl
        have p2 := K.out.bx.c 2 _ rfl
        have p3 := K.out.bx.c 3 _ rfl
        go_wp2_with fail
        have hcon := (Tale_any m V5 K.out.ta)
        rw [HT.out] at hcon
        refine (hcon).mono ?_
        rintro e V6 ⟨rfl, hb⟩
        replace S1 := Lib.hid (S1.out.next hb)
        replace K := Lib.hid (K.out.next hb)
        replace HB := Lib.hid (HB.out.trans (hb.mono HB.out.size))
        clear hb p0 p1 p2 p3 s0 s1 hcon
        have s0 := S1.out.c 0 _ rfl
        have s1 := S1.out.c 1 _ rfl
        have p0 := K.out.bx.c 0 _ rfl
        have p1 := K.out.bx.c 1 _ rfl
        have p2 := K.out.bx.c 2 _ rfl
        have p3 := K.out.bx.c 3 _ rfl
        obtain ⟨ba, oa, eA, hba, hxa⟩ := int_at K.out.ta.ad hq
        rw [eA] at p3
        have EA := Lib.hid eA
        clear eA
        rw [HV.out] at hxa
        have hv1 : ((v : Int) != -1) = true := by simp
        have hq1 := fun W => span_eql v v v v W
        simp only [beq_self_eq_true, Bool.and_self] at hq1
        go_wp2_with fail
        refine (awake_any V6 K.out.en).mono ?_
        rintro e V99 ⟨rfl, hb⟩
        go_wp2_with fail
        go_ret
        exact ⟨rfl, HB.out.trans (hb.mono HB.out.size)⟩
      · obtain ⟨a, b, hl, hab, hbn, hall⟩ := many_range HT.out hq HF.out hs
        have h1 := HLO.out
        rw [hl] at h1
        injection h1 with h1 h2
        injection h1 with h1 h3
        subst h1 h2 h3
        have HS := Lib.hid hs
        have HALL := Lib.hid hall
        have dv := decide_eq_false (show ¬ m.t.n < (b : Int) by omega)
        have dv2 := decide_eq_false (show ¬ (a : Int) < 0 by omega)
        have dv3 := decide_eq_false (show ¬ b < a by omega)
        clear hl hall HLO hs
        have s0 := S1.out.c 0 _ rfl
        have s1 := S1.out.c 1 _ rfl
        have p0 := K.out.bx.c 0 _ rfl
        have p1 := K.out.bx.c 1 _ rfl
        have p2 := K.out.bx.c 2 _ rfl
        have p3 := K.out.bx.c 3 _ rfl
        go_wp2_with fail
        have hcon := (Tale_any m V5 K.out.ta)
        rw [HT.out] at hcon
        refine (hcon).mono ?_
        rintro e V6 ⟨rfl, hb⟩
        replace S1 := Lib.hid (S1.out.next hb)
        replace K := Lib.hid (K.out.next hb)
        replace HB := Lib.hid (HB.out.trans (hb.mono HB.out.size))
        clear hb p0 p1 p2 p3 s0 s1 hcon
        have s0 := S1.out.c 0 _ rfl
        have s1 := S1.out.c 1 _ rfl
        have p0 := K.out.bx.c 0 _ rfl
        have p1 := K.out.bx.c 1 _ rfl
        have p2 := K.out.bx.c 2 _ rfl
        have p3 := K.out.bx.c 3 _ rfl
        obtain ⟨ba, oa, eA, hba, hxa⟩ := int_at K.out.ta.ad hq
        rw [eA] at p3
        have EA := Lib.hid eA
        clear eA
        rw [HS.out] at hxa
        obtain ⟨N, hN⟩ : ∃ N : Nat, m.t.n.toNat = N := ⟨_, rfl⟩
        have HN := Lib.hid hN
        have hN16 : N ≤ 16 := by omega
        rw [hN] at hbn
        clear hN
        go_wp2_with fail
        clear p0 p1 p2 p3 s0 s1 hxa hba dv dv2 dv3 dq dq0 hq2
        go_loopw [10] (fun nv wr => ∃ k : Nat, nv = .int .i64 k ∧ k ≤ N + 1 ∧ Below V6.heap.size V6 wr) (fun nv _ => N + 1 - (intOf nv).toNat)
        case atStart => exact ⟨0, rfl, by omega, Below.refl _ _⟩
        case round =>
          obtain ⟨k, rfl, hk, hbr⟩ := hrel
          have HBR := Lib.hid hbr
          have K2 := Lib.hid (K.out.next hbr)
          have T1 := Lib.hid (S1.out.next hbr)
          clear hbr
          by_cases hlt : k ≤ N
          · have hkn := decide_eq_true (show (k : Int) ≤ m.t.n by have := HN.out; omega)
            have p0 := K2.out.bx.c 0 _ rfl
            have p1 := K2.out.bx.c 1 _ rfl
            have p2 := K2.out.bx.c 2 _ rfl
            have p3 := K2.out.bx.c 3 _ rfl
            go_wp2_with fail
            have HSY := Says_any m q (k : Int) wr K2.out.ta hq (by omega)
            refine HSY.mono ?_
            rintro e W7 ⟨gs, cs, hcs, hgs, rfl, hat7, hb⟩
            have HT7 := Lib.hid (RetSy.tale K2.out.ta hb hcs hat7)
            clear HSY hat7
            replace T1 := Lib.hid (T1.out.next hb)
            replace K2 := Lib.hid (K2.out.next hb)
            replace HBR := Lib.hid (HBR.out.trans (hb.mono HBR.out.size))
            clear hb p0 p1 p2 p3
            have hA := nxA W7 (.cells #[.int .i64 m.t.n, .slice m.A1 m.t.loans.length m.c1, .slice m.A2 m.t.looks.length m.c2, .slice (some ⟨gs, 0, none⟩) m.t.admits.length cs] 26)
            replace T1 := Lib.hid (T1.out.next hA)
            replace HT7 := Lib.hid (HT7.out.next hA)
            replace K2 := Lib.hid (K2.out.next hA)
            replace HBR := Lib.hid (HBR.out.trans (hA.mono HBR.out.size))
            have XS := Lib.hid (Bx.new W7 #[.int .i64 m.t.n, .slice m.A1 m.t.loans.length m.c1, .slice m.A2 m.t.looks.length m.c2, .slice (some ⟨gs, 0, none⟩) m.t.admits.length cs] 26)
            clear hA
            go_upto_region 16 with fail
            generalize (W7.alloc (.cells #[.int .i64 m.t.n, .slice m.A1 m.t.loans.length m.c1, .slice m.A2 m.t.looks.length m.c2, .slice (some ⟨gs, 0, none⟩) m.t.admits.length cs] 26)) = V7 at *
            generalize W7.heap.size = g11 at *
            obtain ⟨d, g, hclx⟩ : ∃ d g, clashS (saysT m.t q k) = (d, g) := ⟨_, _, rfl⟩
            have HFC := Clash_any ⟨saysT m.t q k, m.A1, m.c1, m.A2, m.c2, some ⟨gs, 0, none⟩, cs⟩ V7 HT7.out
            rw [show (saysT m.t q (k : Int)).admits.length = m.t.admits.length from List.length_set] at HFC
            dsimp only at HFC
            rw [hclx] at HFC
            have HCX := Lib.hid hclx
            clear hclx
            have q0 := XS.out.c 0 _ rfl
            have q1 := XS.out.c 1 _ rfl
            have q2 := XS.out.c 2 _ rfl
            have q3 := XS.out.c 3 _ rfl
            go_wp2_with fail
            refine (HFC).mono ?_
            rintro e V8 ⟨rfl, hb⟩
            replace T1 := Lib.hid (T1.out.next hb)
            replace HT7 := Lib.hid (HT7.out.next hb)
            replace XS := Lib.hid (XS.out.next hb)
            replace K2 := Lib.hid (K2.out.next hb)
            replace HBR := Lib.hid (HBR.out.trans (hb.mono HBR.out.size))
            clear hb q0 q1 q2 q3 HFC
            dsimp only [retCl]
            go_upto_region 17 with fail
            have s0 := T1.out.c 0 _ rfl
            have s1 := T1.out.c 1 _ rfl
            have hfk := HALL.out k (by have := HN.out; omega)
            have hck := clash_fit (says_okTale HT.out q (n := (k : Int)) (by omega))
            have hw : IntKind.i64.wrap ((k : Int) + 1) = (k : Int) + 1 := IntWalk.i64_in _ (by omega)
            cases hfs : fitB (saysT m.t q (k : Int))
            · obtain ⟨d', hd'⟩ := hck.2 hfs
              have h9 := HCX.out
              rw [hd'] at h9
              injection h9 with h9 h8
              subst h9 h8
              rw [hfs] at hfk
              have hno : ¬ (a ≤ k ∧ k ≤ b) := fun h => by have := hfk.2 h; cases this
              clear hfk hck hd' hfs HCX
              by_cases hak : a ≤ k
              · have d1 := decide_eq_true (show a ≤ k by omega)
                have d2 := decide_eq_false (show ¬ k ≤ b by omega)
                clear hno
                go_wp2_with fail
                first | (refine ⟨⟨k + 1, by push_cast; rfl, by omega, HBR.out⟩, by simp [intOf]; omega⟩) | (go_roundw; (case rel => exact ⟨k + 1, by push_cast; rfl, by omega, HBR.out⟩); (case measure => (simp [intOf]; omega))) | (go_round; (case rel => exact ⟨k + 1, by push_cast; rfl, by omega, HBR.out⟩); (case measure => (simp [intOf]; omega)))
              · have d1 := decide_eq_false (show ¬ a ≤ k by omega)
                clear hno
                go_wp2_with fail
                first | (refine ⟨⟨k + 1, by push_cast; rfl, by omega, HBR.out⟩, by simp [intOf]; omega⟩) | (go_roundw; (case rel => exact ⟨k + 1, by push_cast; rfl, by omega, HBR.out⟩); (case measure => (simp [intOf]; omega))) | (go_round; (case rel => exact ⟨k + 1, by push_cast; rfl, by omega, HBR.out⟩); (case measure => (simp [intOf]; omega)))
            · have h9 := HCX.out
              rw [hck.1 hfs] at h9
              injection h9 with h9 h8
              subst h9 h8
              obtain ⟨h5, h6⟩ := hfk.1 hfs
              have d1 := decide_eq_true (show a ≤ k by omega)
              have d2 := decide_eq_true (show k ≤ b by omega)
              clear hfk hck hfs HCX
              go_wp2_with fail
              first | (refine ⟨⟨k + 1, by push_cast; rfl, by omega, HBR.out⟩, by simp [intOf]; omega⟩) | (go_roundw; (case rel => exact ⟨k + 1, by push_cast; rfl, by omega, HBR.out⟩); (case measure => (simp [intOf]; omega))) | (go_round; (case rel => exact ⟨k + 1, by push_cast; rfl, by omega, HBR.out⟩); (case measure => (simp [intOf]; omega)))
          · obtain rfl : k = N + 1 := by omega
            have hkn := decide_eq_false (show ¬ (((N + 1 : Nat) : Int)) ≤ m.t.n by have := HN.out; omega)
            have hkn2 := decide_eq_false (show ¬ ((N : Int) + 1) ≤ m.t.n by have := HN.out; omega)
            have p0 := K2.out.bx.c 0 _ rfl
            have p1 := K2.out.bx.c 1 _ rfl
            have p2 := K2.out.bx.c 2 _ rfl
            have p3 := K2.out.bx.c 3 _ rfl
            go_wp2_with fail
            clear p0 p1 p2 p3
            obtain ⟨hone, hsum⟩ := least_bd HT.out HF.out
            have HONE := Lib.hid hone
            have HSUM := Lib.hid hsum
            clear hone hsum
            go_loopw [14, 15] (fun lv pv wx => ∃ k : Nat, pv = .int .i64 k ∧ lv = .int .i64 (leastS m.t k) ∧ k ≤ m.t.admits.length ∧ Below wr.heap.size wr wx) (fun _ pv _ => m.t.admits.length - (intOf pv).toNat)
            case atStart => exact ⟨0, rfl, rfl, by omega, Below.refl _ _⟩
            case round =>
              obtain ⟨j, rfl, rfl, hj, hbr⟩ := hrel
              have HBX := Lib.hid hbr
              have K3 := Lib.hid (K2.out.next hbr)
              clear hbr
              have hsj := HSUM.out j hj
              by_cases hlt : j < m.t.admits.length
              · obtain ⟨olo, ohi, ge, hlj⟩ : ∃ lo hi el, lostS m.t (j : Int) = ((lo, hi), el) := ⟨_, _, _, rfl⟩
                have hoj := HONE.out j hlt
                have hsj1 := HSUM.out (j + 1) (by omega)
                have hst : leastS m.t (j + 1) = leastS m.t j + (lostS m.t j).1.1 := rfl
                rw [hlj] at hoj hst
                have hoj : ge = 0 := hoj
                subst hoj
                have hst : leastS m.t (j + 1) = leastS m.t j + olo := hst
                have hw : IntKind.i64.wrap (leastS m.t j + olo) = leastS m.t j + olo := IntWalk.i64_in _ (by omega)
                have hw2 : IntKind.i64.wrap ((j : Int) + 1) = (j : Int) + 1 := IntWalk.i64_in _ (by omega)
                have HW := Lib.hid hw
                have HW2 := Lib.hid hw2
                clear hw hw2
                have HLJ := Lib.hid hlj
                have HST := Lib.hid hst
                clear hlj hst hsj hsj1
                have djl := decide_eq_true (show j < m.t.admits.length by omega)
                have p0 := K3.out.bx.c 0 _ rfl
                have p1 := K3.out.bx.c 1 _ rfl
                have p2 := K3.out.bx.c 2 _ rfl
                have p3 := K3.out.bx.c 3 _ rfl
                go_wp2_with fail
                have hcon := (Lost_any m (j : Int) _ K3.out.ta)
                rw [HLJ.out] at hcon
                refine (hcon).mono ?_
                rintro e V7 ⟨rfl, hb⟩
                replace K3 := Lib.hid (K3.out.next hb)
                replace HBX := Lib.hid (HBX.out.trans (hb.mono HBX.out.size))
                clear hb p0 p1 p2 p3 hcon
                dsimp only [retLost]
                have hA := nxA V7 (.cells #[.int .i64 olo, .int .i64 ohi] 33)
                replace K3 := Lib.hid (K3.out.next hA)
                replace HBX := Lib.hid (HBX.out.trans (hA.mono HBX.out.size))
                have S2 := Lib.hid (Bx.new V7 #[.int .i64 olo, .int .i64 ohi] 33)
                clear hA
                go_upto_region 24 with fail
                generalize (V7.alloc (.cells #[.int .i64 olo, .int .i64 ohi] 33)) = V8 at *
                generalize V7.heap.size = g2 at *
                have t0 := S2.out.c 0 _ rfl
                have hw := HW.out
                have hw2 := HW2.out
                go_wp2_with fail
                exact ⟨⟨_, .int .i64 (leastS m.t j + olo), .int .i64 ((j : Int) + 1), ⟨j + 1, by push_cast; rfl, by rw [HST.out], by omega, HBX.out⟩, rfl, rfl, rfl⟩, by simp [intOf]; omega⟩
              · obtain rfl : j = m.t.admits.length := by omega
                have djl := decide_eq_false (show ¬ m.t.admits.length < m.t.admits.length by omega)
                have dle := decide_eq_true (show leastS m.t m.t.admits.length ≤ m.t.n by omega)
                generalize leastS m.t m.t.admits.length = ls at *
                clear hsj
                have p0 := K3.out.bx.c 0 _ rfl
                have p1 := K3.out.bx.c 1 _ rfl
                have p2 := K3.out.bx.c 2 _ rfl
                have p3 := K3.out.bx.c 3 _ rfl
                go_wp2_with fail
                refine (awake_any _ K3.out.en).mono ?_
                rintro e V99 ⟨rfl, hb⟩
                go_wp2_with fail
                go_ret
                exact ⟨rfl, HB.out.trans ((HBR.out.trans ((HBX.out.trans (hb.mono HBX.out.size)).mono HBR.out.size)).mono HB.out.size)⟩
end Go.Proofs.YtkcfpnpejaekjaaDoor
