import Derived.Test.YtkcfpnpejaekjaaDoorM4
import Derived.Deep.CutBlock
namespace Go.Proofs.YtkcfpnpejaekjaaDoor
open Go.RowKit
/-! The law LendGone. -/
set_option maxRecDepth 100000 in
set_option maxHeartbeats 4000000 in
theorem LendGone_walk (m : Mt) (w : World) (hd : TaleAt w w.heap.size m) (he : Env w) : Calls Tryd.prog 9 #[.agg #[.int .i64 m.t.n, .slice m.A1 m.t.loans.length m.c1, .slice m.A2 m.t.looks.length m.c2, .slice m.A3 m.t.admits.length m.c3]] w (Ret (.bool true) w) := by
  have K := Lib.hid (show LwT m w.heap.size (w.alloc (.cells #[.int .i64 m.t.n, .slice m.A1 m.t.loans.length m.c1, .slice m.A2 m.t.looks.length m.c2, .slice m.A3 m.t.admits.length m.c3] 26)) from ⟨hd.next (nxA _ _), he.next (nxA _ _), Bx.new w #[.int .i64 m.t.n, .slice m.A1 m.t.loans.length m.c1, .slice m.A2 m.t.looks.length m.c2, .slice m.A3 m.t.admits.length m.c3] 26⟩)
  have HB := Lib.hid (nxA w (.cells #[.int .i64 m.t.n, .slice m.A1 m.t.loans.length m.c1, .slice m.A2 m.t.looks.length m.c2, .slice m.A3 m.t.admits.length m.c3] 26))
  clear hd he
  go_enter Tryd.func9, Tryd.ntmps9
  go_upto_region 1 with fail
  generalize (w.alloc (.cells #[.int .i64 m.t.n, .slice m.A1 m.t.loans.length m.c1, .slice m.A2 m.t.looks.length m.c2, .slice m.A3 m.t.admits.length m.c3] 26)) = V1 at *
  have p0 := K.out.bx.c 0 _ rfl
  have p1 := K.out.bx.c 1 _ rfl
  have p2 := K.out.bx.c 2 _ rfl
  have p3 := K.out.bx.c 3 _ rfl
  go_wp2_with fail
  refine (far_any m V1).mono ?_
  rintro e V2 ⟨rfl, hb⟩
  replace K := Lib.hid (K.out.next hb)
  replace HB := Lib.hid (HB.out.trans (hb.mono HB.out.size))
  clear hb p0 p1 p2 p3
  have p0 := K.out.bx.c 0 _ rfl
  have p1 := K.out.bx.c 1 _ rfl
  have p2 := K.out.bx.c 2 _ rfl
  have p3 := K.out.bx.c 3 _ rfl
  cases farS m.t
  rotate_left
  ·
    go_wp2_with fail
    refine (awake_any _ K.out.en).mono ?_
    rintro e V99 ⟨rfl, hb⟩
    go_wp2_with fail
    go_ret
    exact ⟨rfl, HB.out.trans (hb.mono HB.out.size)⟩
  · skip
    go_wp2_with fail
    refine (Tale_any m V2 K.out.ta).mono ?_
    rintro e V3 ⟨rfl, hb⟩
    replace K := Lib.hid (K.out.next hb)
    replace HB := Lib.hid (HB.out.trans (hb.mono HB.out.size))
    clear hb p0 p1 p2 p3
    have p0 := K.out.bx.c 0 _ rfl
    have p1 := K.out.bx.c 1 _ rfl
    have p2 := K.out.bx.c 2 _ rfl
    have p3 := K.out.bx.c 3 _ rfl
    cases ht : okTale m.t
    ·
      go_wp2_with fail
      refine (awake_any _ K.out.en).mono ?_
      rintro e V99 ⟨rfl, hb⟩
      go_wp2_with fail
      go_ret
      exact ⟨rfl, HB.out.trans (hb.mono HB.out.size)⟩
    · skip
      have HT := Lib.hid ht
      clear ht
      have OK := Lib.hid (okT_of HT.out)
      have hn1 := OK.out.n1
      have hn16 := OK.out.n2
      obtain ⟨N, hN⟩ : ∃ N : Nat, m.t.n.toNat = N := ⟨_, rfl⟩
      have HN := Lib.hid hN
      have hNn : (N : Int) ≤ m.t.n := by omega
      have hNn2 : m.t.n ≤ (N : Int) := by omega
      clear hN
      go_wp2_with fail
      clear p0 p1 p2 p3
      go_loopw [3] (fun kv wr => ∃ k : Nat, kv = .int .i64 k ∧ k ≤ N ∧ Below V3.heap.size V3 wr) (fun kv _ => N - (intOf kv).toNat)
      case atStart => exact ⟨0, rfl, by omega, Below.refl _ _⟩
      case round =>
        obtain ⟨k, rfl, hk, hbr⟩ := hrel
        have HBR := Lib.hid hbr
        have K2 := Lib.hid (K.out.next hbr)
        clear hbr
        by_cases hlt : k < N
        rotate_left
        · have e0 := decide_eq_false (show ¬ (k : Int) < m.t.n by omega)
          have p0 := K2.out.bx.c 0 _ rfl
          have p1 := K2.out.bx.c 1 _ rfl
          have p2 := K2.out.bx.c 2 _ rfl
          have p3 := K2.out.bx.c 3 _ rfl
          go_wp2_with fail
          refine (awake_any _ K2.out.en).mono ?_
          rintro e V99 ⟨rfl, hb⟩
          go_wp2_with fail
          go_ret
          exact ⟨rfl, HB.out.trans ((HBR.out.trans (hb.mono HBR.out.size)).mono HB.out.size)⟩
        · have e0 := decide_eq_true (show (k : Int) < m.t.n by omega)
          have hkn : k < m.t.n.toNat := by have := HN.out; omega
          have hwk : IntKind.i64.wrap ((k : Int) + 1) = (k : Int) + 1 := IntWalk.i64_in _ (by omega)
          obtain ⟨set, e, hH1⟩ : ∃ a e, whoS m.t (k : Int) = (a, e) := ⟨_, _, rfl⟩
          obtain ⟨lo, hi, gone, f, hH2⟩ : ∃ lo hi gone ew, winS m.t (k : Int) = ⟨lo, hi, gone, ew⟩ := ⟨_, _, _, _, rfl⟩
          have H1 := Lib.hid hH1
          have H2 := Lib.hid hH2
          clear hH1 hH2
          have p0 := K2.out.bx.c 0 _ rfl
          have p1 := K2.out.bx.c 1 _ rfl
          have p2 := K2.out.bx.c 2 _ rfl
          have p3 := K2.out.bx.c 3 _ rfl
          go_wp2_with fail
          have hcon := Who_any m (k : Int) _ K2.out.ta K2.out.en
          rw [H1.out] at hcon
          refine (hcon).mono ?_
          rintro e V4 ⟨rfl, hb⟩
          replace K2 := Lib.hid (K2.out.next hb)
          replace HBR := Lib.hid (HBR.out.trans (hb.mono HBR.out.size))
          clear hb p0 p1 p2 p3 hcon
          dsimp only [RetWho]
          go_upto_region 7 with fail
          have p0 := K2.out.bx.c 0 _ rfl
          have p1 := K2.out.bx.c 1 _ rfl
          have p2 := K2.out.bx.c 2 _ rfl
          have p3 := K2.out.bx.c 3 _ rfl
          go_wp2_with fail
          have hcon := Window_any m (k : Int) _ K2.out.ta
          rw [H2.out] at hcon
          refine (hcon).mono ?_
          rintro e V5 ⟨rfl, hb⟩
          replace K2 := Lib.hid (K2.out.next hb)
          replace HBR := Lib.hid (HBR.out.trans (hb.mono HBR.out.size))
          clear hb p0 p1 p2 p3 hcon
          dsimp only [retWin]
          have hA := nxA V5 (.cells #[.int .i64 lo, .int .i64 hi] 33)
          replace K2 := Lib.hid (K2.out.next hA)
          replace HBR := Lib.hid (HBR.out.trans (hA.mono HBR.out.size))
          have S1 := Lib.hid (Bx.new V5 #[.int .i64 lo, .int .i64 hi] 33)
          clear hA
          go_upto_region 8 with fail
          generalize (V5.alloc (.cells #[.int .i64 lo, .int .i64 hi] 33)) = V6 at *
          generalize V5.heap.size = g6 at *
          cases hf : fitB m.t
          · have h1 := H1.out
            have h2 : whoS m.t (k : Int) = (0, 6) := by unfold whoS; rw [HT.out, inS_iff.2 ⟨by omega, by omega⟩, hf]; rfl
            rw [h2] at h1
            injection h1 with h1 h3
            subst h1 h3
            clear h2 hf
            go_wp2_with fail
            first | (exact ⟨⟨_, .int .i64 ((k : Int) + 1), ⟨k + 1, by push_cast; rfl, by omega, HBR.out⟩, rfl, rfl⟩, by simp [intOf]; omega⟩) | (go_roundw; (case rel => exact ⟨k + 1, by push_cast; rfl, by omega, HBR.out⟩); (case measure => (simp [intOf]; omega))) | (go_round; (case rel => exact ⟨k + 1, by push_cast; rfl, by omega, HBR.out⟩); (case measure => (simp [intOf]; omega)))
          · skip
            have hin : inS (k : Int) 0 (m.t.n - 1) = true := inS_iff.2 ⟨by omega, by omega⟩
            have h1 := H1.out
            rw [whoS_of HT.out hin hf, Int.toNat_natCast] at h1
            injection h1 with h1 h3
            subst h3
            have hsw := fit_window OK.out hf hkn
            have h2 := H2.out
            rw [winS_of HT.out hin, Int.toNat_natCast, if_neg (by omega)] at h2
            have hs0 := seenS_nonneg m.t.looks k
            have hsm : seenS m.t.looks k ≤ 1048576 := seenS_le (l := m.t.looks) (k := k) fun x hx => (OK.out.hours x hx).2
            have hgm : goneS m.t.looks k ≤ 1048577 := goneS_le m.t.looks k
            have HKEPT := Lib.hid (show seenS m.t.looks k = mxH → set = 128 ∧ gone = false ∧ lo = 0 ∧ hi = 0 ∧ f = 0 from fun e => by
              rw [if_pos e] at h2
              injection h2 with q1 q2 q3 q4
              exact ⟨by rw [← h1]; exact kept_set OK.out hf hkn e, q3.symm, q1.symm, q2.symm, q4.symm⟩)
            have HNOT := Lib.hid (show seenS m.t.looks k ≠ mxH → seenS m.t.looks k = lo ∧ min (goneS m.t.looks k) mxH - 1 = hi ∧ gone = decide (goneS m.t.looks k ≤ mxH) ∧ f = 0 from fun e => by
              rw [if_neg e] at h2
              injection h2 with q1 q2 q3 q4
              exact ⟨q1, q2, q3.symm, q4.symm⟩)
            have hb : f = 0 ∧ 0 ≤ lo ∧ lo ≤ hi ∧ hi < 1048576 := by
              by_cases e : seenS m.t.looks k = mxH
              · obtain ⟨-, -, q1, q2, q3⟩ := HKEPT.out e; omega
              · obtain ⟨q1, q2, -, q3⟩ := HNOT.out e
                have e' : ¬ seenS m.t.looks k = 1048576 := e
                have q2' : min (goneS m.t.looks k) 1048576 - 1 = hi := q2
                omega
            obtain ⟨hf0, hlo0, hlh, hhm⟩ := hb
            subst hf0
            have HSET := Lib.hid h1
            have HF := Lib.hid hf
            have hset := setB_lt (whoB m.t k) 8
            rw [h1] at hset
            clear hf h1 h2 H1 H2 hsw hs0 hsm hgm hin
            obtain ⟨si, hsi⟩ : ∃ si : Int, (set : Int) = si := ⟨_, rfl⟩
            have hsi0 : 0 ≤ si := by omega
            have HSI := Lib.hid hsi
            have HBS := Lib.hid (show ∀ p : Nat, p < 8 → bits .and .i64 (si / 2 ^ p) 1 = if whoB m.t k p then 1 else 0 from fun p hp => by
              rw [bitI hsi0 p]
              have : ibit si p = whoB m.t k p := by
                rw [← HSI.out]; unfold ibit; rw [Int.toNat_natCast, ← HSET.out, setB_bit, decide_eq_true hp, Bool.true_and]
              rw [this])
            rw [hsi]
            clear hsi hset
            have e1 := decide_eq_false (show ¬ lo < 0 by omega)
            have e2 := decide_eq_false (show ¬ hi < lo by omega)
            have e3 := decide_eq_false (show ¬ 1048576 ≤ hi by omega)
            have s0 := S1.out.c 0 _ rfl
            have s1 := S1.out.c 1 _ rfl
            go_wp2_with fail
            clear e1 e2 e3 s0 s1
            have hl20 := OK.out.lk
            have hl12 := OK.out.lo
            go_loopw [9, 10] (fun bv iv wx => ∃ i : Nat, iv = .int .i64 i ∧ bv = .bool ((m.t.looks.take i).any (keptB k)) ∧ i ≤ m.t.looks.length ∧ Below V6.heap.size V6 wx) (fun _ iv _ => m.t.looks.length - (intOf iv).toNat)
            case atStart => exact ⟨0, rfl, rfl, by omega, Below.refl _ _⟩
            case round =>
              obtain ⟨i, rfl, rfl, hi2, hbr⟩ := hrel
              have HBX := Lib.hid hbr
              have K3 := Lib.hid (K2.out.next hbr)
              have S2 := Lib.hid (S1.out.next hbr)
              clear hbr
              by_cases hlt2 : i < m.t.looks.length
              · skip
                as_aux_lemma =>
                  obtain ⟨bl, ol, eA, hbl, l0, l1, l2⟩ := look_at K3.out.ta.lk hlt2
                  have hgx := OK.out.look _ (List.mem_of_getElem? (look_get hlt2))
                  have HTK := Lib.hid (show (m.t.looks.take (i + 1)).any (keptB k) = ((m.t.looks.take i).any (keptB k) || keptB k (m.t.looks.getD i ⟨0, 0, 0⟩)) by
                    rw [List.take_succ_eq_append_getElem hlt2, List.any_append, List.any_cons, List.any_nil, Bool.or_false, List.getD_eq_getElem?_getD, List.getElem?_eq_getElem hlt2]; rfl)
                  obtain ⟨x, hx⟩ : ∃ x, m.t.looks.getD i ⟨0, 0, 0⟩ = x := ⟨_, rfl⟩
                  rw [hx] at l0 l1 l2 hgx HTK
                  clear hx
                  have hw : IntKind.i64.wrap ((i : Int) + 1) = (i : Int) + 1 := IntWalk.i64_in _ (by omega)
                  have hbx := bitI hgx.2.1.1 k
                  clear hgx
                  have EA := Lib.hid eA
                  have p0 := K3.out.bx.c 0 _ rfl
                  have p1 := K3.out.bx.c 1 _ rfl
                  have p2 := K3.out.bx.c 2 _ rfl
                  have p3 := K3.out.bx.c 3 _ rfl
                  rw [eA] at p2
                  clear eA
                  generalize (m.t.looks.take i).any (keptB k) = kb at *
                  cases kb
                  rotate_left
                  · clear hbx
                    go_wp2_with fail
                    first | (exact ⟨⟨_, .bool true, .int .i64 ((i : Int) + 1), ⟨i + 1, by push_cast; rfl, by rw [HTK.out, Bool.true_or], by omega, HBX.out⟩, rfl, rfl, rfl⟩, by simp [intOf]; omega⟩) | (go_roundw; (case rel => exact ⟨i + 1, by push_cast; rfl, by rw [HTK.out, Bool.true_or], by omega, HBX.out⟩); (case measure => (simp [intOf]; omega))) | (go_round; (case rel => exact ⟨i + 1, by push_cast; rfl, by rw [HTK.out, Bool.true_or], by omega, HBX.out⟩); (case measure => (simp [intOf]; omega)))
                  · cases hib : ibit x.there k
                    · have hbx0 : bits .and .i64 (x.there / 2 ^ k) 1 = 0 := by rw [hbx, hib]; rfl
                      clear hbx
                      go_wp2_with fail
                      first | (exact ⟨⟨_, .bool false, .int .i64 ((i : Int) + 1), ⟨i + 1, by push_cast; rfl, by rw [HTK.out, show keptB k x = false by unfold keptB; rw [hib]; rfl]; rfl, by omega, HBX.out⟩, rfl, rfl, rfl⟩, by simp [intOf]; omega⟩) | (go_roundw; (case rel => exact ⟨i + 1, by push_cast; rfl, by rw [HTK.out, show keptB k x = false by unfold keptB; rw [hib]; rfl]; rfl, by omega, HBX.out⟩); (case measure => (simp [intOf]; omega))) | (go_round; (case rel => exact ⟨i + 1, by push_cast; rfl, by rw [HTK.out, show keptB k x = false by unfold keptB; rw [hib]; rfl]; rfl, by omega, HBX.out⟩); (case measure => (simp [intOf]; omega)))
                    · have hbx0 : bits .and .i64 (x.there / 2 ^ k) 1 = 1 := by rw [hbx, hib]; rfl
                      clear hbx
                      by_cases hxm : x.h = 1048576
                      · have e5 := decide_eq_true hxm
                        have e6 : (x.h == 1048576) = true := by simp [hxm]
                        have HXM := Lib.hid hxm
                        clear hxm
                        go_wp2_with fail
                        first | (exact ⟨⟨_, .bool true, .int .i64 ((i : Int) + 1), ⟨i + 1, by push_cast; rfl, by rw [HTK.out, show keptB k x = true by unfold keptB; rw [hib, HXM.out]; rfl]; rfl, by omega, HBX.out⟩, rfl, rfl, rfl⟩, by simp [intOf]; omega⟩) | (go_roundw; (case rel => exact ⟨i + 1, by push_cast; rfl, by rw [HTK.out, show keptB k x = true by unfold keptB; rw [hib, HXM.out]; rfl]; rfl, by omega, HBX.out⟩); (case measure => (simp [intOf]; omega))) | (go_round; (case rel => exact ⟨i + 1, by push_cast; rfl, by rw [HTK.out, show keptB k x = true by unfold keptB; rw [hib, HXM.out]; rfl]; rfl, by omega, HBX.out⟩); (case measure => (simp [intOf]; omega)))
                      · have e5 := decide_eq_false hxm
                        have e6 : (x.h == 1048576) = false := by simp [hxm]
                        go_wp2_with fail
                        first | (exact ⟨⟨_, .bool false, .int .i64 ((i : Int) + 1), ⟨i + 1, by push_cast; rfl, by rw [HTK.out, show keptB k x = false by unfold keptB; rw [hib, decide_eq_false (show ¬ x.h = mxH from hxm)]; rfl]; rfl, by omega, HBX.out⟩, rfl, rfl, rfl⟩, by simp [intOf]; omega⟩) | (go_roundw; (case rel => exact ⟨i + 1, by push_cast; rfl, by rw [HTK.out, show keptB k x = false by unfold keptB; rw [hib, decide_eq_false (show ¬ x.h = mxH from hxm)]; rfl]; rfl, by omega, HBX.out⟩); (case measure => (simp [intOf]; omega))) | (go_round; (case rel => exact ⟨i + 1, by push_cast; rfl, by rw [HTK.out, show keptB k x = false by unfold keptB; rw [hib, decide_eq_false (show ¬ x.h = mxH from hxm)]; rfl]; rfl, by omega, HBX.out⟩); (case measure => (simp [intOf]; omega)))
              · obtain rfl : i = m.t.looks.length := by omega
                rw [List.take_length]
                obtain ⟨kb, hkb⟩ : ∃ b, m.t.looks.any (keptB k) = b := ⟨_, rfl⟩
                rw [hkb]
                have HKB := Lib.hid hkb
                clear hkb
                have p0 := K3.out.bx.c 0 _ rfl
                have p1 := K3.out.bx.c 1 _ rfl
                have p2 := K3.out.bx.c 2 _ rfl
                have p3 := K3.out.bx.c 3 _ rfl
                clear p0 p1 p2 p3
                have e7 := decide_eq_false (show ¬ m.t.looks.length < m.t.looks.length by omega)
                have p0 := K3.out.bx.c 0 _ rfl
                have p1 := K3.out.bx.c 1 _ rfl
                have p2 := K3.out.bx.c 2 _ rfl
                have p3 := K3.out.bx.c 3 _ rfl
                go_upto_region 18 with fail
                clear p0 p1 p2 p3
                go_cut [111] (fun s111 wx => s111 = .bool false ∧ wx = wr)
                case first =>
                  cases kb
                  · go_wp2_with fail
                    go_meet
                    exact ⟨rfl, rfl⟩
                  · have hse := (kept_iff OK.out k).1 HKB.out
                    obtain ⟨q1, q2, q3, q4, -⟩ := HKEPT.out hse
                    have hsi : si = 128 := by rw [← HSI.out, q1]; rfl
                    subst hsi q2 q3 q4
                    have s0 := S2.out.c 0 _ rfl
                    have s1 := S2.out.c 1 _ rfl
                    have hq2 := span_eq3
                    have hq1 := fun W => span_neq 0 0 0 0 W
                    simp only [beq_self_eq_true, Bool.and_self, Bool.not_true] at hq1
                    go_wp2_with fail
                    go_meet
                    exact ⟨rfl, rfl⟩
                case rest =>
                  obtain ⟨rfl, hw⟩ := hcut
                  have hw2 := hw.symm
                  clear hw
                  subst hw2
                  go_upto_block 4 with fail
                  go_cut [] (fun wx => Below wr.heap.size wr wx)
                  case first =>
                   as_aux_lemma =>
                    go_wp2_with fail
                    go_loopw [11] (fun iv wy => ∃ i : Nat, iv = .int .i64 i ∧ i ≤ m.t.looks.length ∧ Below wr.heap.size wr wy) (fun iv _ => m.t.looks.length - (intOf iv).toNat)
                    case atStart => exact ⟨0, rfl, by omega, Below.refl _ _⟩
                    case round =>
                      obtain ⟨i2, rfl, hi3, hbr⟩ := hrel
                      have HBY := Lib.hid hbr
                      have K4 := Lib.hid (K3.out.next hbr)
                      have S3 := Lib.hid (S2.out.next hbr)
                      clear hbr
                      by_cases hlt3 : i2 < m.t.looks.length
                      rotate_left
                      · have e8 := decide_eq_false hlt3
                        have p0 := K4.out.bx.c 0 _ rfl
                        have p1 := K4.out.bx.c 1 _ rfl
                        have p2 := K4.out.bx.c 2 _ rfl
                        have p3 := K4.out.bx.c 3 _ rfl
                        cases kb <;> (go_wp2_with fail; go_meet; exact HBY.out)
                      · have e8 := decide_eq_true hlt3
                        cases kb
                        rotate_left
                        · skip
                          have p0 := K4.out.bx.c 0 _ rfl
                          have p1 := K4.out.bx.c 1 _ rfl
                          have p2 := K4.out.bx.c 2 _ rfl
                          have p3 := K4.out.bx.c 3 _ rfl
                          go_wp2_with fail
                          go_meet
                          exact HBY.out
                        · skip
                          obtain ⟨bl, ol, eA, hbl, l0, l1, l2⟩ := look_at K4.out.ta.lk hlt3
                          have hmem := List.mem_of_getElem? (look_get hlt3)
                          have hgx := OK.out.look _ hmem
                          have hgs := gone_seen (k := k) hmem
                          obtain ⟨x, hx⟩ : ∃ x, m.t.looks.getD i2 ⟨0, 0, 0⟩ = x := ⟨_, rfl⟩
                          rw [hx] at l0 l1 l2 hgx hgs
                          clear hx hmem
                          have hse : seenS m.t.looks k ≠ mxH := fun e => by have h1 := (kept_iff OK.out k).2 e; rw [HKB.out] at h1; cases h1
                          obtain ⟨q1, q2, q3, -⟩ := HNOT.out hse
                          have hw : IntKind.i64.wrap ((i2 : Int) + 1) = (i2 : Int) + 1 := IntWalk.i64_in _ (by omega)
                          have hbg := bitI hgx.2.2.1.1 k
                          have hbt := bitI hgx.2.1.1 k
                          have hxm := hgx.1.2
                          have EA := Lib.hid eA
                          have HQ1 := Lib.hid q1
                          have HQ2 := Lib.hid q2
                          have HQ3 := Lib.hid q3
                          have HGS := Lib.hid hgs
                          have HBG := Lib.hid hbg
                          have HBT := Lib.hid hbt
                          have HXM := Lib.hid hxm
                          clear hgx hse q1 q2 q3 hgs hbg hbt hxm
                          have p0 := K4.out.bx.c 0 _ rfl
                          have p1 := K4.out.bx.c 1 _ rfl
                          have p2 := K4.out.bx.c 2 _ rfl
                          have p3 := K4.out.bx.c 3 _ rfl
                          rw [eA] at p2
                          clear eA
                          go_upto_region 24 with fail
                          have hA := nxA wr (.cells #[.int .i64 x.h, .int .i64 x.there, .int .i64 x.gone] 50)
                          replace S3 := Lib.hid (S3.out.next hA)
                          replace K4 := Lib.hid (K4.out.next hA)
                          replace HBY := Lib.hid (HBY.out.trans (hA.mono HBY.out.size))
                          have XL := Lib.hid (Bx.new wr #[.int .i64 x.h, .int .i64 x.there, .int .i64 x.gone] 50)
                          generalize (wr.alloc (.cells #[.int .i64 x.h, .int .i64 x.there, .int .i64 x.gone] 50)) = V30 at *
                          generalize wr.heap.size = g12 at *
                          clear hA l0 l1 l2 p0 p1 p2 p3 hbl
                          have x0 := XL.out.c 0 _ rfl
                          have x1 := XL.out.c 1 _ rfl
                          have x2 := XL.out.c 2 _ rfl
                          have s0 := S3.out.c 0 _ rfl
                          have s1 := S3.out.c 1 _ rfl
                          cases hig : ibit x.gone k
                          · have hbg0 : bits .and .i64 (x.gone / 2 ^ k) 1 = 0 := by rw [HBG.out, hig]; rfl
                            cases hit : ibit x.there k
                            · have hbt0 : bits .and .i64 (x.there / 2 ^ k) 1 = 0 := by rw [HBT.out, hit]; rfl
                              go_wp2_with fail
                              first | (exact ⟨⟨_, .int .i64 ((i2 : Int) + 1), ⟨i2 + 1, by push_cast; rfl, by omega, HBY.out⟩, rfl, rfl⟩, by simp [intOf]; omega⟩) | (go_roundw; (case rel => exact ⟨i2 + 1, by push_cast; rfl, by omega, HBY.out⟩); (case measure => (simp [intOf]; omega))) | (go_round; (case rel => exact ⟨i2 + 1, by push_cast; rfl, by omega, HBY.out⟩); (case measure => (simp [intOf]; omega)))
                            · have hbt0 : bits .and .i64 (x.there / 2 ^ k) 1 = 1 := by rw [HBT.out, hit]; rfl
                              have e9 := decide_eq_false (show ¬ lo < x.h by have := HGS.out.2 hit; have := HQ1.out; omega)
                              go_wp2_with fail
                              first | (exact ⟨⟨_, .int .i64 ((i2 : Int) + 1), ⟨i2 + 1, by push_cast; rfl, by omega, HBY.out⟩, rfl, rfl⟩, by simp [intOf]; omega⟩) | (go_roundw; (case rel => exact ⟨i2 + 1, by push_cast; rfl, by omega, HBY.out⟩); (case measure => (simp [intOf]; omega))) | (go_round; (case rel => exact ⟨i2 + 1, by push_cast; rfl, by omega, HBY.out⟩); (case measure => (simp [intOf]; omega)))
                          · have hbg0 : bits .and .i64 (x.gone / 2 ^ k) 1 = 1 := by rw [HBG.out, hig]; rfl
                            have hgl := HGS.out.1 hig
                            have hgt : gone = true := by rw [HQ3.out]; exact decide_eq_true (Int.le_trans hgl HXM.out)
                            have hb7 : bits .and .i64 (si / 128) 1 = 0 := by rw [show (128 : Int) = 2 ^ 7 from rfl, HBS.out 7 (by omega), whoB_gone OK.out hkn (Int.le_trans hgl HXM.out)]; rfl
                            subst hgt
                            have e10 := decide_eq_false (show ¬ x.h ≤ hi by have := HQ2.out; omega)
                            clear hgl
                            cases hit : ibit x.there k
                            · have hbt0 : bits .and .i64 (x.there / 2 ^ k) 1 = 0 := by rw [HBT.out, hit]; rfl
                              go_wp2_with fail
                              first | (exact ⟨⟨_, .int .i64 ((i2 : Int) + 1), ⟨i2 + 1, by push_cast; rfl, by omega, HBY.out⟩, rfl, rfl⟩, by simp [intOf]; omega⟩) | (go_roundw; (case rel => exact ⟨i2 + 1, by push_cast; rfl, by omega, HBY.out⟩); (case measure => (simp [intOf]; omega))) | (go_round; (case rel => exact ⟨i2 + 1, by push_cast; rfl, by omega, HBY.out⟩); (case measure => (simp [intOf]; omega)))
                            · have hbt0 : bits .and .i64 (x.there / 2 ^ k) 1 = 1 := by rw [HBT.out, hit]; rfl
                              have e9 := decide_eq_false (show ¬ lo < x.h by have := HGS.out.2 hit; have := HQ1.out; omega)
                              go_wp2_with fail
                              first | (exact ⟨⟨_, .int .i64 ((i2 : Int) + 1), ⟨i2 + 1, by push_cast; rfl, by omega, HBY.out⟩, rfl, rfl⟩, by simp [intOf]; omega⟩) | (go_roundw; (case rel => exact ⟨i2 + 1, by push_cast; rfl, by omega, HBY.out⟩); (case measure => (simp [intOf]; omega))) | (go_round; (case rel => exact ⟨i2 + 1, by push_cast; rfl, by omega, HBY.out⟩); (case measure => (simp [intOf]; omega)))
                  case rest =>
                    have HBZ := Lib.hid hcut
                    have K5 := Lib.hid (K3.out.next hcut)
                    have S5 := Lib.hid (S2.out.next hcut)
                    clear hcut
                    generalize wc = W5 at *
                    go_wp2_with fail
                    go_loopw [13] (fun pv wy => ∃ p : Nat, pv = .int .i64 p ∧ p ≤ 6 ∧ Below W5.heap.size W5 wy) (fun pv _ => 6 - (intOf pv).toNat)
                    case atStart => exact ⟨0, rfl, by omega, Below.refl _ _⟩
                    case round =>
                      obtain ⟨p, rfl, hp, hbr⟩ := hrel
                      have HBP := Lib.hid hbr
                      have K6 := Lib.hid (K5.out.next hbr)
                      have S6 := Lib.hid (S5.out.next hbr)
                      clear hbr
                      by_cases hp6 : p < 6
                      rotate_left
                      · obtain rfl : p = 6 := by omega
                        go_wp2_with fail
                        first | (exact ⟨⟨_, .int .i64 ((k : Int) + 1), ⟨k + 1, by push_cast; rfl, by omega, HBR.out.trans ((HBX.out.trans ((HBZ.out.trans (HBP.out.mono HBZ.out.size)).mono HBX.out.size)).mono HBR.out.size)⟩, rfl, rfl⟩, by simp [intOf]; omega⟩) | (go_roundw; (case rel => exact ⟨k + 1, by push_cast; rfl, by omega, HBR.out.trans ((HBX.out.trans ((HBZ.out.trans (HBP.out.mono HBZ.out.size)).mono HBX.out.size)).mono HBR.out.size)⟩); (case measure => (simp [intOf]; omega))) | (go_round; (case rel => exact ⟨k + 1, by push_cast; rfl, by omega, HBR.out.trans ((HBX.out.trans ((HBZ.out.trans (HBP.out.mono HBZ.out.size)).mono HBX.out.size)).mono HBR.out.size)⟩); (case measure => (simp [intOf]; omega)))
                      · have e11 := decide_eq_true (show (p : Int) < 6 by omega)
                        have e12 := decide_eq_true hp6
                        go_wp2_with fail
                        go_loopw [14, 15] (fun bv iv wz => ∃ i : Nat, iv = .int .i64 i ∧ bv = .bool ((m.t.loans.take i).any (hadB p lo hi)) ∧ i ≤ m.t.loans.length ∧ Below wr.heap.size wr wz) (fun _ iv _ => m.t.loans.length - (intOf iv).toNat)
                        case atStart => exact ⟨0, rfl, rfl, by omega, Below.refl _ _⟩
                        case round =>
                          obtain ⟨i5, rfl, rfl, hi5, hbr⟩ := hrel
                          have HBQ := Lib.hid hbr
                          have K7 := Lib.hid (K6.out.next hbr)
                          have S7 := Lib.hid (S6.out.next hbr)
                          clear hbr
                          by_cases hlt5 : i5 < m.t.loans.length
                          · skip
                            as_aux_lemma =>
                              obtain ⟨bl, ol, eA, hbl, l0, l1, l2⟩ := loan_at K7.out.ta.lo hlt5
                              have HTK := Lib.hid (show (m.t.loans.take (i5 + 1)).any (hadB p lo hi) = ((m.t.loans.take i5).any (hadB p lo hi) || hadB p lo hi (m.t.loans.getD i5 ⟨0, 0, 0⟩)) by
                                rw [List.take_succ_eq_append_getElem hlt5, List.any_append, List.any_cons, List.any_nil, Bool.or_false, List.getD_eq_getElem?_getD, List.getElem?_eq_getElem hlt5]; rfl)
                              obtain ⟨x, hx⟩ : ∃ x, m.t.loans.getD i5 ⟨0, 0, 0⟩ = x := ⟨_, rfl⟩
                              rw [hx] at l0 l1 l2 HTK
                              clear hx
                              have hw : IntKind.i64.wrap ((i5 : Int) + 1) = (i5 : Int) + 1 := IntWalk.i64_in _ (by omega)
                              have s0 := S7.out.c 0 _ rfl
                              have s1 := S7.out.c 1 _ rfl
                              have EA := Lib.hid eA
                              generalize (m.t.loans.take i5).any (hadB p lo hi) = kb5 at *
                              have p0 := K7.out.bx.c 0 _ rfl
                              have p1 := K7.out.bx.c 1 _ rfl
                              have p2 := K7.out.bx.c 2 _ rfl
                              have p3 := K7.out.bx.c 3 _ rfl
                              rw [eA] at p1
                              clear eA
                              go_upto_region 33 with fail
                              cases kb5
                              rotate_left
                              · go_quiet (fail)
                                go_wp2_with fail
                                first | (exact ⟨⟨_, .bool true, .int .i64 ((i5 : Int) + 1), ⟨i5 + 1, by push_cast; rfl, by rw [HTK.out, Bool.true_or], by omega, by first | exact HBQ.out | exact below_drewN HBQ.out _⟩, rfl, rfl, rfl⟩, by simp [intOf]; omega⟩) | (go_roundw; (case rel => exact ⟨i5 + 1, by push_cast; rfl, by rw [HTK.out, Bool.true_or], by omega, by first | exact HBQ.out | exact below_drewN HBQ.out _⟩); (case measure => (simp [intOf]; omega))) | (go_round; (case rel => exact ⟨i5 + 1, by push_cast; rfl, by rw [HTK.out, Bool.true_or], by omega, by first | exact HBQ.out | exact below_drewN HBQ.out _⟩); (case measure => (simp [intOf]; omega)))
                              · by_cases c1 : x.p = (p : Int)
                                rotate_left
                                · have f1 := decide_eq_false c1
                                  have f2 : (x.p == (p : Int)) = false := by simp [c1]
                                  go_quiet (fail)
                                  go_wp2_with fail
                                  first | (exact ⟨⟨_, .bool false, .int .i64 ((i5 : Int) + 1), ⟨i5 + 1, by push_cast; rfl, by rw [HTK.out, show hadB p lo hi x = false by unfold hadB; rw [f1]; rfl]; rfl, by omega, by first | exact HBQ.out | exact below_drewN HBQ.out _⟩, rfl, rfl, rfl⟩, by simp [intOf]; omega⟩) | (go_roundw; (case rel => exact ⟨i5 + 1, by push_cast; rfl, by rw [HTK.out, show hadB p lo hi x = false by unfold hadB; rw [f1]; rfl]; rfl, by omega, by first | exact HBQ.out | exact below_drewN HBQ.out _⟩); (case measure => (simp [intOf]; omega))) | (go_round; (case rel => exact ⟨i5 + 1, by push_cast; rfl, by rw [HTK.out, show hadB p lo hi x = false by unfold hadB; rw [f1]; rfl]; rfl, by omega, by first | exact HBQ.out | exact below_drewN HBQ.out _⟩); (case measure => (simp [intOf]; omega)))
                                · have f1 := decide_eq_true c1
                                  have f2 : (x.p == (p : Int)) = true := by simp [c1]
                                  have F1 := Lib.hid f1
                                  clear c1
                                  by_cases c2 : x.a ≤ hi
                                  rotate_left
                                  · have f3 := decide_eq_false c2
                                    go_quiet (fail)
                                    go_wp2_with fail
                                    first | (exact ⟨⟨_, .bool false, .int .i64 ((i5 : Int) + 1), ⟨i5 + 1, by push_cast; rfl, by rw [HTK.out, show hadB p lo hi x = false by unfold hadB; rw [F1.out, f3]; rfl]; rfl, by omega, by first | exact HBQ.out | exact below_drewN HBQ.out _⟩, rfl, rfl, rfl⟩, by simp [intOf]; omega⟩) | (go_roundw; (case rel => exact ⟨i5 + 1, by push_cast; rfl, by rw [HTK.out, show hadB p lo hi x = false by unfold hadB; rw [F1.out, f3]; rfl]; rfl, by omega, by first | exact HBQ.out | exact below_drewN HBQ.out _⟩); (case measure => (simp [intOf]; omega))) | (go_round; (case rel => exact ⟨i5 + 1, by push_cast; rfl, by rw [HTK.out, show hadB p lo hi x = false by unfold hadB; rw [F1.out, f3]; rfl]; rfl, by omega, by first | exact HBQ.out | exact below_drewN HBQ.out _⟩); (case measure => (simp [intOf]; omega)))
                                  · have f3 := decide_eq_true c2
                                    by_cases c3 : lo < x.b
                                    rotate_left
                                    · have f4 := decide_eq_false c3
                                      go_quiet (fail)
                                      go_wp2_with fail
                                      first | (exact ⟨⟨_, .bool false, .int .i64 ((i5 : Int) + 1), ⟨i5 + 1, by push_cast; rfl, by rw [HTK.out, show hadB p lo hi x = false by unfold hadB; rw [F1.out, f3, f4]; rfl]; rfl, by omega, by first | exact HBQ.out | exact below_drewN HBQ.out _⟩, rfl, rfl, rfl⟩, by simp [intOf]; omega⟩) | (go_roundw; (case rel => exact ⟨i5 + 1, by push_cast; rfl, by rw [HTK.out, show hadB p lo hi x = false by unfold hadB; rw [F1.out, f3, f4]; rfl]; rfl, by omega, by first | exact HBQ.out | exact below_drewN HBQ.out _⟩); (case measure => (simp [intOf]; omega))) | (go_round; (case rel => exact ⟨i5 + 1, by push_cast; rfl, by rw [HTK.out, show hadB p lo hi x = false by unfold hadB; rw [F1.out, f3, f4]; rfl]; rfl, by omega, by first | exact HBQ.out | exact below_drewN HBQ.out _⟩); (case measure => (simp [intOf]; omega)))
                                    · have f4 := decide_eq_true c3
                                      go_quiet (fail)
                                      go_wp2_with fail
                                      first | (exact ⟨⟨_, .bool true, .int .i64 ((i5 : Int) + 1), ⟨i5 + 1, by push_cast; rfl, by rw [HTK.out, show hadB p lo hi x = true by unfold hadB; rw [F1.out, f3, f4]; rfl]; rfl, by omega, by first | exact HBQ.out | exact below_drewN HBQ.out _⟩, rfl, rfl, rfl⟩, by simp [intOf]; omega⟩) | (go_roundw; (case rel => exact ⟨i5 + 1, by push_cast; rfl, by rw [HTK.out, show hadB p lo hi x = true by unfold hadB; rw [F1.out, f3, f4]; rfl]; rfl, by omega, by first | exact HBQ.out | exact below_drewN HBQ.out _⟩); (case measure => (simp [intOf]; omega))) | (go_round; (case rel => exact ⟨i5 + 1, by push_cast; rfl, by rw [HTK.out, show hadB p lo hi x = true by unfold hadB; rw [F1.out, f3, f4]; rfl]; rfl, by omega, by first | exact HBQ.out | exact below_drewN HBQ.out _⟩); (case measure => (simp [intOf]; omega)))
                          · obtain rfl : i5 = m.t.loans.length := by omega
                            rw [List.take_length]
                            have hbp := HBS.out p (by omega)
                            have hwp : IntKind.i64.wrap ((p : Int) + 1) = (p : Int) + 1 := IntWalk.i64_in _ (by omega)
                            have p0 := K7.out.bx.c 0 _ rfl
                            have p1 := K7.out.bx.c 1 _ rfl
                            have p2 := K7.out.bx.c 2 _ rfl
                            have p3 := K7.out.bx.c 3 _ rfl
                            cases hwb : whoB m.t k p
                            · rw [hwb] at hbp
                              have hbp0 : bits .and .i64 (si / 2 ^ p) 1 = 0 := hbp
                              clear hbp
                              generalize m.t.loans.any (hadB p lo hi) = had at *
                              go_wp2_with fail
                              first | (exact ⟨⟨_, .int .i64 ((p : Int) + 1), ⟨p + 1, by push_cast; rfl, by omega, HBP.out.trans (HBQ.out.mono HBP.out.size)⟩, rfl, rfl⟩, by simp [intOf]; omega⟩) | (go_roundw; (case rel => exact ⟨p + 1, by push_cast; rfl, by omega, HBP.out.trans (HBQ.out.mono HBP.out.size)⟩); (case measure => (simp [intOf]; omega))) | (go_round; (case rel => exact ⟨p + 1, by push_cast; rfl, by omega, HBP.out.trans (HBQ.out.mono HBP.out.size)⟩); (case measure => (simp [intOf]; omega)))
                            · rw [hwb] at hbp
                              have hbp0 : bits .and .i64 (si / 2 ^ p) 1 = 1 := hbp
                              clear hbp
                              obtain ⟨hse, hha, hpl, had0⟩ := who_had OK.out hkn hp6 hwb
                              obtain ⟨q1, q2, -, -⟩ := HNOT.out hse
                              rw [q1, q2] at hha
                              rw [hha]
                              clear q1 q2 hse hha
                              obtain ⟨ba, oa, eA, hba, hxa⟩ := int_at K7.out.ta.ad hpl
                              rw [eA] at p3
                              have EA := Lib.hid eA
                              clear eA
                              generalize m.t.admits.getD p 0 = av at *
                              have f5 := decide_eq_false had0
                              have f6 : (av == 0) = false := by simp [had0]
                              have f7 := decide_eq_false (show ¬ m.t.admits.length ≤ p by omega)
                              go_wp2_with fail
                              first | (exact ⟨⟨_, .int .i64 ((p : Int) + 1), ⟨p + 1, by push_cast; rfl, by omega, HBP.out.trans (HBQ.out.mono HBP.out.size)⟩, rfl, rfl⟩, by simp [intOf]; omega⟩) | (go_roundw; (case rel => exact ⟨p + 1, by push_cast; rfl, by omega, HBP.out.trans (HBQ.out.mono HBP.out.size)⟩); (case measure => (simp [intOf]; omega))) | (go_round; (case rel => exact ⟨p + 1, by push_cast; rfl, by omega, HBP.out.trans (HBQ.out.mono HBP.out.size)⟩); (case measure => (simp [intOf]; omega)))
end Go.Proofs.YtkcfpnpejaekjaaDoor
