import Derived.Test.YtkcfpnpejaekjaaDoorT2
namespace Go.Proofs.YtkcfpnpejaekjaaDoor
open Go.RowKit
/-! The law LendTrue. -/
def lostF (t : Tl) (hl : List Int) (j : Nat) : Int := lostN t (rawN (hl.getD (j % hl.length) 0) j)
theorem u32_cell {W : World} {B b o : Nat} {l : List Int} (h : At W B 1 u32cell (some ⟨b, o, none⟩) l) {k : Nat} (hk : k < l.length) : W.cell? ⟨b, o + k, none⟩ = some (.int .u32 (l.getD k 0)) := by
  obtain ⟨b', off, e, hb, hc⟩ := h k (l.getD k 0) (by rw [List.getD_eq_getElem?_getD, List.getElem?_eq_getElem hk]; rfl)
  injection e with e
  injection e with q1 q2
  subst q1 q2
  have := hc 0 _ rfl
  rw [Nat.mul_one] at this
  exact this
theorem u32_some {W : World} {B : Nat} {A : Option Addr} {l : List Int} (h : At W B 1 u32cell A l) (hk : 0 < l.length) : ∃ b o, A = some ⟨b, o, none⟩ := by
  obtain ⟨b', off, e, hb, hc⟩ := h 0 (l.getD 0 0) (by rw [List.getD_eq_getElem?_getD, List.getElem?_eq_getElem hk]; rfl)
  exact ⟨b', off, e⟩
/-- The list of hours as it grows. -/
structure LAt (V : World) (v : Value) (l : List Int) (W : World) : Prop where
  bw : Below V.heap.size V W
  o : W.ownsRow V.heap.size 3 1 v l.length (l.flatMap icell)
theorem LAt.next {V W W' : World} {v : Value} {l : List Int} (h : LAt V v l W) (hb : Below W.heap.size W W') : LAt V v l W' := ⟨h.bw.trans (hb.mono h.bw.size), own_below h.o hb⟩
theorem LAt.app {V W W' : World} {v v' : Value} {l : List Int} {n : Nat} {xs : List Value} (h : LAt V v l W) (hg : W.grownBy W' v.ownBlock) (ho : W'.ownsRow V.heap.size 3 1 v' n xs) {x : Int} (hn : n = l.length + 1) (hx : xs = l.flatMap icell ++ icell x) : LAt V v' (l ++ [x]) W' := by
  refine ⟨grown_from h.bw hg h.bw.size (fun g e => (h.o.lt g e).1), ?_⟩
  have e1 : (l ++ [x]).length = n := by rw [hn, List.length_append]; rfl
  have e2 : (l ++ [x]).flatMap icell = xs := by rw [hx, List.flatMap_append, List.flatMap_cons, List.flatMap_nil, List.append_nil]
  rw [e1, e2]
  exact ho
set_option maxRecDepth 100000 in
set_option maxHeartbeats 4000000 in
theorem LendTrue_walk (m : Mt) (A1 : Option Addr) (c1 : Nat) (hl : List Int) (A2 : Option Addr) (c2 : Nat) (byl : List Int) (w : World) (hd : TaleAt w w.heap.size m) (h1 : At w w.heap.size 1 u32cell A1 hl) (hhl : hl.length ≤ 9223372036854775807) (hhw : ∀ x ∈ hl, 0 ≤ x ∧ x < 4294967296) (h2 : At w w.heap.size 1 u16cell A2 byl) (hbl : byl.length ≤ 9223372036854775807) (hbw : ∀ x ∈ byl, 0 ≤ x ∧ x < 65536) (he : Env w) : Calls Tryd.prog 6 #[.agg #[.int .i64 m.t.n, .slice m.A1 m.t.loans.length m.c1, .slice m.A2 m.t.looks.length m.c2, .slice m.A3 m.t.admits.length m.c3], .slice A1 hl.length c1, .slice A2 byl.length c2] w (Ret (.bool true) w) := by
  have K := Lib.hid (show LwT m w.heap.size (w.alloc (.cells #[.int .i64 m.t.n, .slice m.A1 m.t.loans.length m.c1, .slice m.A2 m.t.looks.length m.c2, .slice m.A3 m.t.admits.length m.c3] 26)) from ⟨hd.next (nxA _ _), he.next (nxA _ _), Bx.new w #[.int .i64 m.t.n, .slice m.A1 m.t.loans.length m.c1, .slice m.A2 m.t.looks.length m.c2, .slice m.A3 m.t.admits.length m.c3] 26⟩)
  have H1 := Lib.hid (h1.next (nxA w (.cells #[.int .i64 m.t.n, .slice m.A1 m.t.loans.length m.c1, .slice m.A2 m.t.looks.length m.c2, .slice m.A3 m.t.admits.length m.c3] 26)))
  have H2 := Lib.hid (h2.next (nxA w (.cells #[.int .i64 m.t.n, .slice m.A1 m.t.loans.length m.c1, .slice m.A2 m.t.looks.length m.c2, .slice m.A3 m.t.admits.length m.c3] 26)))
  have HB := Lib.hid (nxA w (.cells #[.int .i64 m.t.n, .slice m.A1 m.t.loans.length m.c1, .slice m.A2 m.t.looks.length m.c2, .slice m.A3 m.t.admits.length m.c3] 26))
  clear hd he h1 h2
  go_enter Tryd.func6, Tryd.ntmps6
  go_upto_region 1 with fail
  generalize (w.alloc (.cells #[.int .i64 m.t.n, .slice m.A1 m.t.loans.length m.c1, .slice m.A2 m.t.looks.length m.c2, .slice m.A3 m.t.admits.length m.c3] 26)) = V1 at *
  have p0 := K.out.bx.c 0 _ rfl
  have p1 := K.out.bx.c 1 _ rfl
  have p2 := K.out.bx.c 2 _ rfl
  have p3 := K.out.bx.c 3 _ rfl
  go_wp2_with fail
  refine (far_any m V1).mono ?_
  rintro e V2 ⟨rfl, hb⟩
  replace H1 := Lib.hid (H1.out.next hb)
  replace H2 := Lib.hid (H2.out.next hb)
  replace K := Lib.hid (K.out.next hb)
  replace HB := Lib.hid (HB.out.trans (hb.mono HB.out.size))
  clear hb p0 p1 p2 p3
  have p0 := K.out.bx.c 0 _ rfl
  have p1 := K.out.bx.c 1 _ rfl
  have p2 := K.out.bx.c 2 _ rfl
  have p3 := K.out.bx.c 3 _ rfl
  cases farS m.t
  rotate_left
  ·
    go_wp2_with fail
    refine (awake_any _ K.out.en).mono ?_
    rintro e V99 ⟨rfl, hb⟩
    go_wp2_with fail
    go_ret
    exact ⟨rfl, HB.out.trans (hb.mono HB.out.size)⟩
  · skip
    by_cases g1 : hl.length = 0
    · have d1 : ((hl.length : Int) == 0) = true := by simp [g1]
      go_wp2_with fail
      refine (awake_any _ K.out.en).mono ?_
      rintro e V99 ⟨rfl, hb⟩
      go_wp2_with fail
      go_ret
      exact ⟨rfl, HB.out.trans (hb.mono HB.out.size)⟩
    · have d1 : ((hl.length : Int) == 0) = false := by simp [g1]
      by_cases g2 : byl.length = 0
      · have d2 : ((byl.length : Int) == 0) = true := by simp [g2]
        go_wp2_with fail
        refine (awake_any _ K.out.en).mono ?_
        rintro e V99 ⟨rfl, hb⟩
        go_wp2_with fail
        go_ret
        exact ⟨rfl, HB.out.trans (hb.mono HB.out.size)⟩
      · have d2 : ((byl.length : Int) == 0) = false := by simp [g2]
        go_wp2_with fail
        refine (Tale_any m V2 K.out.ta).mono ?_
        rintro e V3 ⟨rfl, hb⟩
        replace H1 := Lib.hid (H1.out.next hb)
        replace H2 := Lib.hid (H2.out.next hb)
        replace K := Lib.hid (K.out.next hb)
        replace HB := Lib.hid (HB.out.trans (hb.mono HB.out.size))
        clear hb p0 p1 p2 p3
        have p0 := K.out.bx.c 0 _ rfl
        have p1 := K.out.bx.c 1 _ rfl
        have p2 := K.out.bx.c 2 _ rfl
        have p3 := K.out.bx.c 3 _ rfl
        cases ht : okTale m.t
        ·
          go_wp2_with fail
          refine (awake_any _ K.out.en).mono ?_
          rintro e V99 ⟨rfl, hb⟩
          go_wp2_with fail
          go_ret
          exact ⟨rfl, HB.out.trans (hb.mono HB.out.size)⟩
        · skip
          have HT := Lib.hid ht
          clear ht
          have OK := Lib.hid (okT_of HT.out)
          have hn1 := OK.out.n1
          have hn16 := OK.out.n2
          have hl12 := OK.out.lo
          have ha1 := OK.out.a1
          have ha6 := OK.out.a2
          obtain ⟨N, hN⟩ : ∃ N : Nat, m.t.n.toNat = N := ⟨_, rfl⟩
          have HN := Lib.hid hN
          have hNn : (N : Int) ≤ m.t.n := by omega
          have hNn2 : m.t.n ≤ (N : Int) := by omega
          clear hN
          have hh1 : 0 < hl.length := by omega
          have hb1 : 0 < byl.length := by omega
          obtain ⟨b8, o8, eA8⟩ := u32_some H1.out hh1
          obtain ⟨b9, o9, eA9, -, -⟩ := u16_at H2.out hb1
          subst eA8 eA9
          clear g1 g2 d1 d2
          go_wp2_with fail
          clear p0 p1 p2 p3
          go_loopw [7, 8] (fun lv kv wr => ∃ k : Nat, kv = .int .i64 k ∧ k ≤ N ∧ LAt V3 lv ((List.range k).map (lostF m.t hl)) wr) (fun _ kv _ => N - (intOf kv).toNat)
          case atStart => exact ⟨0, rfl, by omega, Below.refl _ _, World.ownsRow_nil _ _ _ _⟩
          case round =>
            obtain ⟨k, rfl, hk, hX⟩ := hrel
            have X := Lib.hid hX
            clear hX
            have K2 := Lib.hid (K.out.next X.out.bw)
            by_cases hlt : k < N
            · have e0 := decide_eq_true (show (k : Int) < m.t.n by omega)
              have p0 := K2.out.bx.c 0 _ rfl
              have p1 := K2.out.bx.c 1 _ rfl
              have p2 := K2.out.bx.c 2 _ rfl
              have p3 := K2.out.bx.c 3 _ rfl
              have hwk : IntKind.i64.wrap ((k : Int) + 1) = (k : Int) + 1 := IntWalk.i64_in _ (by omega)
              obtain ⟨ix, hix0, hix, hI2, hI1⟩ := rem_idx hh1 k
              have l0 := u32_cell (H1.out.next X.out.bw) hix
              have hyb := getD_prop (Q := fun x => 0 ≤ x ∧ x < 4294967296) hhw hix
              obtain ⟨L, hL⟩ : ∃ L, (List.range k).map (lostF m.t hl) = L := ⟨_, rfl⟩
              have HLn := Lib.hid (show L.length = k by rw [← hL, List.length_map, List.length_range])
              have HRR := Lib.hid (show (List.range (k + 1)).map (lostF m.t hl) = L ++ [lostN m.t (rawN (hl.getD ix 0) k)] by rw [List.range_succ, List.map_append, hL, hix0]; rfl)
              rw [hL] at X
              clear hL hix0
              generalize hl.getD ix 0 = y at *
              have hixI : (ix : Int) < (hl.length : Int) := by omega
              have hb0I : ¬ (hl.length : Int) = 0 := by omega
              have hb0N : ¬ hl.length = 0 := by omega
              have hbne : ¬ hl = [] := by rintro e; rw [e] at hix; simp at hix
              have hw31 : IntKind.i64.wrap (31 * (k : Int)) = 31 * (k : Int) := IntWalk.i64_in _ (by omega)
              have hu31 : IntKind.u32.wrap (31 * (k : Int)) = 31 * (k : Int) := by rw [IntKind.wrap_u32]; omega
              have hus : IntKind.u32.wrap (y + 31 * (k : Int)) = (y + 31 * (k : Int)) % 4294967296 := by rw [IntKind.wrap_u32]
              have hm0 : 0 ≤ (y + 31 * (k : Int)) % 4294967296 ∧ (y + 31 * (k : Int)) % 4294967296 < 4294967296 := by omega
              obtain ⟨u, hu⟩ : ∃ u, (y + 31 * (k : Int)) % 4294967296 = u := ⟨_, rfl⟩
              rw [hu] at hus hm0
              have hwu : IntKind.i64.wrap u = u := IntWalk.i64_in _ (by omega)
              have hut := Int.tmod_eq_emod_of_nonneg (b := 2097152) hm0.1
              have hraw : rawN y k = u % 2097152 := by unfold rawN; rw [hu]
              have hr0 : 0 ≤ u % 2097152 ∧ u % 2097152 < 2097152 := by omega
              rw [hraw] at HRR
              clear hu hraw
              go_upto_region 8 with fail
              clear l0 hI1 hI2 hixI hb0I hb0N hbne hw31 hu31 hus hm0 hwu hut
              generalize u % 2097152 = n0 at *
              clear e0
              have HLN := Lib.hid (show lostN m.t n0 = if m.t.loans.length = 0 ∨ n0 % 3 = 0 then min mxH n0 else min mxH (min 1048575 ((m.t.loans.getD (n0.toNat % m.t.loans.length) ⟨0, 0, 0⟩).a + n0 / 4 % ((m.t.loans.getD (n0.toNat % m.t.loans.length) ⟨0, 0, 0⟩).b - (m.t.loans.getD (n0.toNat % m.t.loans.length) ⟨0, 0, 0⟩).a + 3))) from rfl)
              have ht3 := Int.tmod_eq_emod_of_nonneg (b := 3) hr0.1
              have hn3 : 0 ≤ n0 % 3 := by omega
              go_cut [72] (fun s wx => s = .bool (!(decide (m.t.loans.length = 0 ∨ n0 % 3 = 0))) ∧ wx = wr)
              case first =>
                by_cases hq1 : m.t.loans.length = 0
                · have d3 := decide_eq_false (show ¬ (0 : Int) < (m.t.loans.length : Int) by omega)
                  have hq2 : ¬ 0 < m.t.loans.length := by omega
                  have hcv : decide (m.t.loans.length = 0 ∨ n0 % 3 = 0) = true := decide_eq_true (.inl hq1)
                  clear hq1
                  go_wp2_with fail
                  go_meet
                  exact ⟨by rw [hcv]; rfl, rfl⟩
                · have d3 := decide_eq_true (show (0 : Int) < (m.t.loans.length : Int) by omega)
                  by_cases hq2 : n0 % 3 = 0
                  · have d4 := decide_eq_false (show ¬ (0 : Int) < n0 % 3 by omega)
                    have d5 : ¬ 0 < n0 % 3 := by omega
                    have hcv : decide (m.t.loans.length = 0 ∨ n0 % 3 = 0) = true := decide_eq_true (.inr hq2)
                    clear hq2
                    go_wp2_with fail
                    go_meet
                    exact ⟨by rw [hcv]; rfl, rfl⟩
                  · have d4 := decide_eq_true (show (0 : Int) < n0 % 3 by omega)
                    have hcv : decide (m.t.loans.length = 0 ∨ n0 % 3 = 0) = false := decide_eq_false (by omega)
                    go_wp2_with fail
                    go_meet
                    exact ⟨by rw [hcv]; rfl, rfl⟩
              case rest =>
                obtain ⟨rfl, hw⟩ := hcut
                have hw2 := hw.symm
                clear hw
                subst hw2
                go_upto_if 72 with fail
                go_cut [9] (fun s wx => ∃ n1, s = .int .i64 n1 ∧ 0 ≤ n1 ∧ n1 ≤ 2097152 ∧ min mxH n1 = lostN m.t n0 ∧ LAt V3 u7 L wx)
                case first =>
                  by_cases hll : m.t.loans.length = 0 ∨ n0 % 3 = 0
                  · have hcv : decide (m.t.loans.length = 0 ∨ n0 % 3 = 0) = true := decide_eq_true hll
                    rw [hcv]
                    have hln := HLN.out
                    rw [if_pos hll] at hln
                    go_wp2_with fail
                    go_meet
                    exact ⟨n0, rfl, hr0.1, by omega, hln.symm, X.out⟩
                  · skip
                    have hcv : decide (m.t.loans.length = 0 ∨ n0 % 3 = 0) = false := decide_eq_false hll
                    rw [hcv]
                    clear hcv
                    have hlpos : 0 < m.t.loans.length := by omega
                    obtain ⟨n, hnn⟩ : ∃ n : Nat, n0 = (n : Int) := ⟨n0.toNat, by omega⟩
                    obtain ⟨ix, hix0, hix, hI2, hI1⟩ := rem_idx hlpos n
                    obtain ⟨bl, ol, eA, hbl, -, -, -⟩ := loan_at K2.out.ta.lo hix
                    have hg := OK.out.lent.good _ (getD_mem (d := (⟨0, 0, 0⟩ : Loan)) hix)
                    have hln := HLN.out
                    rw [if_neg hll] at hln
                    rw [hnn, Int.toNat_natCast, ← hix0] at hln
                    have HS0 := Lib.hid (show ∀ W : World, Below V3.heap.size V3 W → (W.cell? ⟨w.heap.size, 1, none⟩ = some (.slice m.A1 m.t.loans.length m.c1) ∧ W.cell? ⟨bl, ol + ix * 3, none⟩ = some (.int .i64 (m.t.loans.getD ix ⟨0, 0, 0⟩).p) ∧ W.cell? ⟨bl, ol + ix * 3 + 1, none⟩ = some (.int .i64 (m.t.loans.getD ix ⟨0, 0, 0⟩).a) ∧ W.cell? ⟨bl, ol + ix * 3 + 2, none⟩ = some (.int .i64 (m.t.loans.getD ix ⟨0, 0, 0⟩).b)) from fun W hW => by
                      obtain ⟨be', oe', eA', -, l0, l1, l2⟩ := loan_at (K.out.next hW).ta.lo hix
                      rw [eA] at eA'
                      injection eA' with eA'
                      injection eA' with e4 e5
                      subst e4 e5
                      exact ⟨(K.out.next hW).bx.c 1 _ rfl, l0, l1, l2⟩)
                    generalize m.t.loans.getD ix ⟨0, 0, 0⟩ = x at *
                    obtain ⟨-, -, hga, hgb, hgm⟩ := hg
                    have hgm2 : x.b ≤ 1048576 := hgm
                    clear hgm hix0 HLN ht3
                    go_upto_region 9 with fail
                    clear p0 p1 p2 p3
                    rw [hnn]
                    have hixI : (ix : Int) < (m.t.loans.length : Int) := by omega
                    have hb0I : ¬ (m.t.loans.length : Int) = 0 := by omega
                    have hb0N : ¬ m.t.loans.length = 0 := by omega
                    have hbne : ¬ m.t.loans = [] := by rintro e; rw [e] at hix; simp at hix
                    have HS := Lib.hid (show ∀ W : World, Below V3.heap.size V3 W → (W.cell? ⟨w.heap.size, 1, none⟩ = some (.slice (some ⟨bl, ol, none⟩) m.t.loans.length m.c1) ∧ W.cell? ⟨bl, ol + ix * 3, none⟩ = some (.int .i64 x.p) ∧ W.cell? ⟨bl, ol + ix * 3 + 1, none⟩ = some (.int .i64 x.a) ∧ W.cell? ⟨bl, ol + ix * 3 + 2, none⟩ = some (.int .i64 x.b)) from fun W hW => by have hh := HS0.out W hW; rw [eA] at hh; exact hh)
                    clear HS0 eA K2
                    go_cut [10] (fun s wx => ∃ q, s = .pointer (some ⟨q, 0, none⟩) ∧ wr.heap.size ≤ q ∧ Bx wx q [.int .i64 x.p, .int .i64 x.a, .int .i64 x.b] ∧ Below wr.heap.size wr wx)
                    case first =>
                      refine wp_region_noPanic ?_
                      refine wp_region_held_drew (S := (fun W => W.cell? ⟨w.heap.size, 1, none⟩ = some (.slice (some ⟨bl, ol, none⟩) m.t.loans.length m.c1) ∧ W.cell? ⟨bl, ol + ix * 3, none⟩ = some (.int .i64 x.p) ∧ W.cell? ⟨bl, ol + ix * 3 + 1, none⟩ = some (.int .i64 x.a) ∧ W.cell? ⟨bl, ol + ix * 3 + 2, none⟩ = some (.int .i64 x.b))) (by kernel_rfl) ?_ (fun hHeld => ?_)
                      · (try dsimp only); exact HS.out _ X.out.bw.drew
                      refine htake (i := 0) (v := ?v1) rfl (by kernel_rfl) (by kernel_rfl) (by kernel_rfl) (fun _ _ _ h => h) (Or.inl ⟨by rfl, ?hy1⟩) (by assumption) ?_
                      case hy1 => (intro w hSw; (try dsimp only at hSw); go_simp; try (with_reducible rfl))
                      try simp only [Act.put, List.setIfInBounds_toArray, List.set_cons_zero, List.set_cons_succ]
                      refine htake (i := 1) (v := ?v2) rfl (by kernel_rfl) (by kernel_rfl) (by kernel_rfl) (fun _ _ _ h => h) (Or.inl ⟨by rfl, ?hy2⟩) (by assumption) ?_
                      case hy2 => (intro w hSw; (try dsimp only at hSw); go_simp; try (with_reducible rfl))
                      try simp only [Act.put, List.setIfInBounds_toArray, List.set_cons_zero, List.set_cons_succ]
                      refine htake (i := 2) (v := ?v3) rfl (by kernel_rfl) (by kernel_rfl) (by kernel_rfl) (fun _ _ _ h => h) (Or.inl ⟨by rfl, ?hy3⟩) (by assumption) ?_
                      case hy3 => (intro w hSw; (try dsimp only at hSw); go_simp; try (with_reducible rfl))
                      try simp only [Act.put, List.setIfInBounds_toArray, List.set_cons_zero, List.set_cons_succ]
                      refine htake (i := 3) (v := ?v4) rfl (by kernel_rfl) (by kernel_rfl) (by kernel_rfl) (fun _ _ _ h => h) (Or.inl ⟨by rfl, ?hy4⟩) (by assumption) ?_
                      case hy4 => (intro w hSw; (try dsimp only at hSw); go_simp; try (with_reducible rfl))
                      try simp only [Act.put, List.setIfInBounds_toArray, List.set_cons_zero, List.set_cons_succ]
                      refine htake (i := 4) (v := ?v5) rfl (by kernel_rfl) (by kernel_rfl) (by kernel_rfl) (fun _ _ _ h => h) (Or.inl ⟨by rfl, ?hy5⟩) (by assumption) ?_
                      case hy5 => (intro w hSw; (try dsimp only at hSw); go_simp; try (with_reducible rfl))
                      try simp only [Act.put, List.setIfInBounds_toArray, List.set_cons_zero, List.set_cons_succ]
                      refine htake (i := 5) (v := ?v6) rfl (by kernel_rfl) (by kernel_rfl) (by kernel_rfl) (fun _ _ _ h => h) (Or.inl ⟨by rfl, ?hy6⟩) (by assumption) ?_
                      case hy6 => (intro w hSw; (try dsimp only at hSw); go_simp; try (with_reducible rfl))
                      try simp only [Act.put, List.setIfInBounds_toArray, List.set_cons_zero, List.set_cons_succ]
                      refine htake (i := 6) (v := ?v7) rfl (by kernel_rfl) (by kernel_rfl) (by kernel_rfl) (fun _ _ _ h => h) (Or.inl ⟨by rfl, ?hy7⟩) (by assumption) ?_
                      case hy7 => (intro w hSw; (try dsimp only at hSw); go_simp; try (with_reducible rfl))
                      try simp only [Act.put, List.setIfInBounds_toArray, List.set_cons_zero, List.set_cons_succ]
                      refine htake (i := 7) (v := ?v8) rfl (by kernel_rfl) (by kernel_rfl) (by kernel_rfl) (fun _ _ _ h => h) (Or.inl ⟨by rfl, ?hy8⟩) (by assumption) ?_
                      case hy8 => (intro w hSw; (try dsimp only at hSw); go_simp; try (with_reducible rfl))
                      try simp only [Act.put, List.setIfInBounds_toArray, List.set_cons_zero, List.set_cons_succ]
                      refine htake (i := 8) (v := ?v9) rfl (by kernel_rfl) (by kernel_rfl) (by kernel_rfl) (fun _ _ _ h => h) (Or.inl ⟨by rfl, ?hy9⟩) (by assumption) ?_
                      case hy9 => (intro w hSw; (try dsimp only at hSw); go_simp; try (with_reducible rfl))
                      try simp only [Act.put, List.setIfInBounds_toArray, List.set_cons_zero, List.set_cons_succ]
                      refine wpAnyH_ready (rs := [9]) (by kernel_rfl) (by simp) ?_
                      refine hcons rfl (fun K hK => ?_) (AllReadyH.nil)
                      go_simp
                      (first | refine hold_alloc (fun wb hq1 hq2 hq3 => ?_) | refine hold_alloc_drew (fun wb hq1 hq2 hq3 => ?_)); have hwb : Below wr.heap.size wr wb := (by first | exact hq1 | exact (Below.refl _ _).drew.trans hq1); have hcb : Below V3.heap.size V3 wb := X.out.bw.trans (hwb.mono X.out.bw.size); have hxb : Bx wb wr.heap.size [.int .i64 0, .int .i64 0, .int .i64 0] := hq2; clear hq1 hq2 hq3
                      refine hK.out _ _ ?_ (fun hHeld => ?_)
                      · (try dsimp only); exact HS.out _ hcb
                      clear hK K
                      try simp only [Act.put, List.setIfInBounds_toArray, List.set_cons_zero, List.set_cons_succ]
                      refine wpAnyH_ready (rs := [10]) (by kernel_rfl) (by simp) ?_
                      refine hcons rfl (fun K hK => ?_) (AllReadyH.nil)
                      have z0 := hxb.c 0 _ rfl; have z1 := hxb.c 1 _ rfl; have z2 := hxb.c 2 _ rfl; have y0 := hxb.fr 0; have y1 := hxb.fr 1; have y2 := hxb.fr 2; go_simp; clear z0 z1 z2 y0 y1 y2
                      refine hK.out _ _ ?_ (fun hHeld => ?_)
                      · (try dsimp only); exact HS.out _ (below_setCells (b := wr.heap.size) X.out.bw.size [.int .i64 x.p, .int .i64 x.a, .int .i64 x.b] 0 hcb)
                      clear hK K
                      try simp only [Act.put]
                      refine wpAnyH_done (by kernel_rfl) ?_ _
                      refine NoPanic.normal ?_
                      iterate 12 (try clear hHeld)
                      all_goals (go_wp2_with fail; go_meet)
                      all_goals (exact ⟨_, rfl, Nat.le_refl _, hxb.setAll [.int .i64 x.p, .int .i64 x.a, .int .i64 x.b] rfl, below_setCells (b := wr.heap.size) (Nat.le_refl _) [.int .i64 x.p, .int .i64 x.a, .int .i64 x.b] 0 hwb⟩)
                    case rest =>
                      obtain ⟨q, rfl, hq, hS, hb⟩ := hcut
                      replace X := Lib.hid (X.out.next hb)
                      clear hb HS
                      have t1 := hS.c 1 _ rfl
                      have t2 := hS.c 2 _ rfl
                      have hwba : IntKind.i64.wrap (x.b - x.a) = x.b - x.a := IntWalk.i64_in _ (by omega)
                      obtain ⟨d, hd⟩ : ∃ d, x.b - x.a + 3 = d := ⟨_, rfl⟩
                      have hd4 : 4 ≤ d ∧ d ≤ 1048579 := by omega
                      have hwb3 : IntKind.i64.wrap (x.b - x.a + 3) = d := by rw [hd]; exact IntWalk.i64_in _ (by omega)
                      rw [hd] at hln
                      have hd0 : ¬ d = 0 := by omega
                      have hn4 : Int.tdiv (n : Int) 4 = (n : Int) / 4 := Int.tdiv_eq_ediv_of_nonneg (by omega)
                      have hmd : Int.tmod ((n : Int) / 4) d = (n : Int) / 4 % d := Int.tmod_eq_emod_of_nonneg (by omega)
                      have hr1 := Int.emod_nonneg ((n : Int) / 4) hd0
                      have hr2 := Int.emod_lt_of_pos ((n : Int) / 4) (show 0 < d by omega)
                      obtain ⟨r, hr⟩ : ∃ r, (n : Int) / 4 % d = r := ⟨_, rfl⟩
                      rw [hr] at hmd hr1 hr2 hln
                      have hwa : IntKind.i64.wrap (x.a + r) = x.a + r := IntWalk.i64_in _ (by omega)
                      have hmi := min_if 1048575 (x.a + r)
                      clear hd
                      have hnm : Int.tmod (Int.tdiv (n : Int) 4) d = r := by rw [hn4, hmd]
                      go_wp2_with (go_quiet (fail))
                      all_goals
                        go_meet
                        refine ⟨_, rfl, by omega, by omega, ?_, X.out.next (below_drewN (Below.refl _ _) nq)⟩
                        rw [hnn, hln]
                        have hm : mxH = 1048576 := rfl
                        omega
                case rest =>
                  obtain ⟨n1, rfl, hn10, hn11, hln1, hX⟩ := hcut
                  clear X K2
                  have X := Lib.hid hX
                  clear hX HLN
                  rw [← hln1] at HRR
                  have hm1 : mxH = 1048576 := rfl
                  rw [hm1] at HRR
                  clear hm1 hln1
                  obtain ⟨A7, cc7, eu, -⟩ := own_form X.out.o
                  subst eu
                  rcases (show n1 < 1048576 ∨ 1048576 ≤ n1 by omega) with hc | hc
                  · have hv : min 1048576 n1 = n1 := by omega
                    rw [hv] at HRR
                    have hn := Bx.new wc #[.int .i64 n1] 3
                    have hA := nxA wc (.cells #[.int .i64 n1] 3)
                    obtain ⟨ib, gi, gz0, gz1, gz2⟩ := info_parts int_info
                    have XA := Lib.hid (X.out.next hA)
                    have hBs : V3.heap.size ≤ wc.heap.size := X.out.bw.size
                    go_wp2_with (at_builtin; refine wpList_append_own _ rfl (.tmp 95) (.tmp 98) 24 rfl V3.heap.size 3 ib (.int .i64 0) 1 8 Tryd.underlying24 gi gz0 gz1 gz2 rfl (by decide) _ _ _ rfl XA.out.o ⟨wc.heap.size, 0, none⟩ 1 1 [.int .i64 n1] rfl rfl hn.news (by simp [Value.oneCell']) (by have := HLn.out; unfold maxLen; omega) (by have := HLn.out; omega) (by simp; omega) ?_; intro v6 w6 ho6 hg6 _; have HX6 := Lib.hid (XA.out.app (x := n1) hg6 ho6 rfl rfl); clear ho6 hg6)
                    have hfin := HX6.out
                    rw [← HRR.out] at hfin
                    first | (exact ⟨⟨k + 1, by push_cast; rfl, by omega, hfin⟩, by simp [intOf]; omega⟩) | (exact ⟨⟨_, _, ⟨k + 1, by push_cast; rfl, by omega, hfin⟩, rfl, rfl⟩, by simp [intOf]; omega⟩) | (exact ⟨⟨_, ⟨k + 1, by push_cast; rfl, by omega, hfin⟩, rfl⟩, by simp [intOf]; omega⟩) | (go_roundw; (case rel => exact ⟨k + 1, by push_cast; rfl, by omega, hfin⟩); (case measure => (simp [intOf]; omega))) | (go_round; (case rel => exact ⟨k + 1, by push_cast; rfl, by omega, hfin⟩); (case measure => (simp [intOf]; omega)))
                  · have hv : min 1048576 n1 = 1048576 := by omega
                    rw [hv] at HRR
                    have hn := Bx.new wc #[.int .i64 1048576] 3
                    have hA := nxA wc (.cells #[.int .i64 1048576] 3)
                    obtain ⟨ib, gi, gz0, gz1, gz2⟩ := info_parts int_info
                    have XA := Lib.hid (X.out.next hA)
                    have hBs : V3.heap.size ≤ wc.heap.size := X.out.bw.size
                    go_wp2_with (at_builtin; refine wpList_append_own _ rfl (.tmp 95) (.tmp 98) 24 rfl V3.heap.size 3 ib (.int .i64 0) 1 8 Tryd.underlying24 gi gz0 gz1 gz2 rfl (by decide) _ _ _ rfl XA.out.o ⟨wc.heap.size, 0, none⟩ 1 1 [.int .i64 1048576] rfl rfl hn.news (by simp [Value.oneCell']) (by have := HLn.out; unfold maxLen; omega) (by have := HLn.out; omega) (by simp; omega) ?_; intro v6 w6 ho6 hg6 _; have HX6 := Lib.hid (XA.out.app (x := 1048576) hg6 ho6 rfl rfl); clear ho6 hg6)
                    have hfin := HX6.out
                    rw [← HRR.out] at hfin
                    first | (exact ⟨⟨k + 1, by push_cast; rfl, by omega, hfin⟩, by simp [intOf]; omega⟩) | (exact ⟨⟨_, _, ⟨k + 1, by push_cast; rfl, by omega, hfin⟩, rfl, rfl⟩, by simp [intOf]; omega⟩) | (exact ⟨⟨_, ⟨k + 1, by push_cast; rfl, by omega, hfin⟩, rfl⟩, by simp [intOf]; omega⟩) | (go_roundw; (case rel => exact ⟨k + 1, by push_cast; rfl, by omega, hfin⟩); (case measure => (simp [intOf]; omega))) | (go_round; (case rel => exact ⟨k + 1, by push_cast; rfl, by omega, hfin⟩); (case measure => (simp [intOf]; omega)))
            · have e0 := decide_eq_false (show ¬ (k : Int) < m.t.n by omega)
              obtain rfl : N = k := by omega
              obtain ⟨LL, hLL⟩ : ∃ L, (List.range N).map (lostF m.t hl) = L := ⟨_, rfl⟩
              rw [hLL] at X
              have hLn : LL.length = N := by rw [← hLL, List.length_map, List.length_range]
              have HLN := Lib.hid hLn
              have hl16 : LL.length ≤ 16 := by omega
              have HRAW := Lib.hid (show Raw m.t LL byl from ⟨by omega, fun x hx => by
                rw [← hLL] at hx
                obtain ⟨j, -, rfl⟩ := List.mem_map.1 hx
                refine lostN_in OK.out ?_
                unfold rawN
                omega, hb1, hbw⟩)
              clear hLL hLn
              obtain ⟨A7, c7, eu, hat7⟩ := own_at (size := 1) (cells := icell) (fun _ => rfl) (by omega) X.out.o
              subst eu
              have L7 := Lib.hid hat7
              clear hat7
              have M2 := Lib.hid (H2.out.next X.out.bw)
              have HB2 := Lib.hid (HB.out.trans (X.out.bw.mono HB.out.size))
              clear X
              have q0 := K2.out.bx.c 0 _ rfl
              go_upto_region 12 with fail
              clear e0 q0
              have p0 := K2.out.bx.c 0 _ rfl
              have p1 := K2.out.bx.c 1 _ rfl
              have p2 := K2.out.bx.c 2 _ rfl
              have p3 := K2.out.bx.c 3 _ rfl
              go_wp2_with fail
              refine (told_any m LL byl A7 (some ⟨b9, o9, none⟩) c7 c2 wr K2.out.ta HT.out HRAW.out L7.out M2.out hbl).mono ?_
              rintro e V5 ⟨A2', cx2, A3', cx3, A4', cx4, rfl, hb, hTA, hM⟩
              clear p0 p1 p2 p3 M2
              replace L7 := Lib.hid (L7.out.next hb)
              replace K2 := Lib.hid (K2.out.next hb)
              replace HB2 := Lib.hid (HB2.out.trans (hb.mono HB2.out.size))
              have hXB : (toldM m LL byl A2' cx2 A3' cx3).t.n = m.t.n := rfl
              clear hXB hb
              have hA := nxA V5 (.cells #[.int .i64 m.t.n, .slice m.A1 m.t.loans.length m.c1, .slice A2' (toldT m.t LL byl).looks.length cx2, .slice A3' (toldT m.t LL byl).admits.length cx3] 26)
              have hBX := Bx.new V5 #[.int .i64 m.t.n, .slice m.A1 m.t.loans.length m.c1, .slice A2' (toldT m.t LL byl).looks.length cx2, .slice A3' (toldT m.t LL byl).admits.length cx3] 26
              have M4 := Lib.hid (hM.next hA)
              have hKX : LwT (toldM m LL byl A2' cx2 A3' cx3) V5.heap.size _ := ⟨hTA.next hA, (K2.out.next hA).en, hBX⟩
              clear hM hTA hBX
              replace L7 := Lib.hid (L7.out.next hA)
              replace K2 := Lib.hid (K2.out.next hA)
              replace HB2 := Lib.hid (HB2.out.trans (hA.mono HB2.out.size))
              go_upto_region 13 with fail
              generalize (V5.alloc (.cells #[.int .i64 m.t.n, .slice m.A1 m.t.loans.length m.c1, .slice A2' (toldT m.t LL byl).looks.length cx2, .slice A3' (toldT m.t LL byl).admits.length cx3] 26)) = V6 at *
              obtain ⟨mx, hmx⟩ : ∃ mx, toldM m LL byl A2' cx2 A3' cx3 = mx := ⟨_, rfl⟩
              have HMT := Lib.hid (show mx.t = toldT m.t LL byl by rw [← hmx]; rfl)
              rw [hmx] at hKX
              have KX := Lib.hid hKX
              clear hA hKX hmx
              obtain ⟨bx, hbx⟩ : ∃ b, b = V5.heap.size := ⟨_, rfl⟩
              rw [← hbx] at KX ⊢
              clear hbx
              have HWHO := Lib.hid (fun (k : Nat) (hk : k < LL.length) => show ∃ s : Nat, s < 256 ∧ whoS mx.t k = (s, 0) ∧ has s (whoT m.t.loans LL k) = true by rw [HMT.out]; exact told_who HT.out HRAW.out hk)
              have HWIN := Lib.hid (fun (k : Nat) (hk : k < LL.length) => show (winS mx.t k).e = 0 ∧ ((winS mx.t k).gone = true → LL.getD k 0 ≠ mxH) ∧ (LL.getD k 0 < mxH → (winS mx.t k).lo ≤ LL.getD k 0 ∧ LL.getD k 0 ≤ (winS mx.t k).hi) by rw [HMT.out]; exact told_win HT.out HRAW.out hk)
              have HHOL := Lib.hid (fun (k : Nat) (hk : LL.getD k 0 < mxH) => show holderS mx.t (LL.getD k 0) = (holdR m.t.loans (LL.getD k 0), 0) ∧ whoT m.t.loans LL k = (if holdR m.t.loans (LL.getD k 0) = -1 then 6 else (holdR m.t.loans (LL.getD k 0)).toNat) ∧ -1 ≤ holdR m.t.loans (LL.getD k 0) ∧ holdR m.t.loans (LL.getD k 0) < m.t.admits.length by rw [HMT.out]; exact told_hold HT.out HRAW.out hk)
              have HCLA := Lib.hid (show clashS mx.t = (0, 4) by rw [HMT.out]; exact told_clash HT.out HRAW.out)
              have HLOS := Lib.hid (fun (p : Nat) (hp : p < m.t.admits.length) => show ∃ a b : Int, lostS mx.t p = ((a, b), 0) ∧ a ≤ manyT m.t.loans LL p LL.length ∧ manyT m.t.loans LL p LL.length ≤ b by rw [HMT.out]; exact told_lost HT.out HRAW.out hp)
              have HWT := Lib.hid (fun k => show whoT m.t.loans LL k = whoH m.t.loans (LL.getD k 0) from rfl)
              have HWL := Lib.hid (fun k => show whoT m.t.loans LL k < 8 from whoH_lt OK.out.lent _)
              have HIN := Lib.hid (fun k => lost_at HRAW.out k)
              clear HMT
              go_wp2_with fail
              go_loopw [13] (fun kv wr => ∃ k : Nat, kv = .int .i64 k ∧ k ≤ N ∧ Below V6.heap.size V6 wr) (fun kv _ => N - (intOf kv).toNat)
              case atStart => exact ⟨0, rfl, by omega, Below.refl _ _⟩
              case round =>
                obtain ⟨k, rfl, hk, hbr⟩ := hrel
                have HBR := Lib.hid hbr
                have K3 := Lib.hid (K2.out.next hbr)
                have KX3 := Lib.hid (KX.out.next hbr)
                have L3 := Lib.hid (L7.out.next hbr)
                clear hbr
                by_cases hlt : k < N
                · have e0 := decide_eq_true (show (k : Int) < m.t.n by omega)
                  have q0 := K3.out.bx.c 0 _ rfl
                  have hkL : k < LL.length := by have := HLN.out; omega
                  have hkI : (k : Int) < (LL.length : Int) := by omega
                  have hwk : IntKind.i64.wrap ((k : Int) + 1) = (k : Int) + 1 := IntWalk.i64_in _ (by omega)
                  obtain ⟨s, hs256, hW1, hbit⟩ := HWHO.out k hkL
                  obtain ⟨hwe, hwg, hwl⟩ := HWIN.out k hkL
                  obtain ⟨lo, hi, gone, ew, hW2⟩ : ∃ lo hi gone ew, winS mx.t k = ⟨lo, hi, gone, ew⟩ := ⟨_, _, _, _, rfl⟩
                  rw [hW2] at hwe hwg hwl
                  have hwe2 : ew = 0 := hwe
                  subst hwe2
                  have hwg2 : gone = true → LL.getD k 0 ≠ mxH := hwg
                  have hwl2 : LL.getD k 0 < mxH → lo ≤ LL.getD k 0 ∧ LL.getD k 0 ≤ hi := hwl
                  have H1x := Lib.hid hW1
                  have H2x := Lib.hid hW2
                  have hho := HHOL.out k
                  have hwt := HWT.out k
                  have hw8 := HWL.out k
                  have hin := HIN.out k
                  clear hW1 hW2 hwe hwg hwl
                  have l0 : ∀ W : World, Below wr.heap.size wr W → ∃ b o, A7 = some ⟨b, o, none⟩ ∧ W.cell? ⟨b, o + k, none⟩ = some (.int .i64 (LL.getD k 0)) := fun W h => by
                    obtain ⟨b, o, e, -, hc⟩ := int_at (L3.out.next h) hkL
                    exact ⟨b, o, e, hc⟩
                  obtain ⟨b7, o7, eA7, -⟩ := l0 wr (Below.refl _ _)
                  subst eA7
                  have HL0 := Lib.hid (show ∀ W : World, Below wr.heap.size wr W → W.cell? ⟨b7, o7 + k, none⟩ = some (.int .i64 (LL.getD k 0)) from fun W h => int_cell (L3.out.next h) hkL)
                  clear l0
                  have hmx : mxH = 1048576 := rfl
                  rw [hmx] at hho hwg2 hwl2 hin
                  clear hmx
                  generalize LL.getD k 0 = z at *
                  generalize whoT m.t.loans LL k = wt at *
                  generalize hhv : holdR m.t.loans z = hv at *
                  have HHV := Lib.hid hhv
                  clear hhv
                  have LZ := Lib.hid (show At wr wr.heap.size 1 icell (some ⟨b7, o7 + k, none⟩) [z] from fun j x hx => by
                    match j, hx with
                    | 0, hx =>
                      injection hx with hx
                      subst hx
                      refine ⟨b7, o7 + k, rfl, Nat.lt_of_not_le fun hn => ?_, fun i u hu => ?_⟩
                      · have h1 := cell_lt (HL0.out wr (Below.refl _ _))
                        omega
                      · match i, hu with
                        | 0, hu =>
                          injection hu with hu
                          rw [← hu]
                          exact HL0.out wr (Below.refl _ _))
                  clear HL0
                  have p0 := KX3.out.bx.c 0 _ rfl
                  have p1 := KX3.out.bx.c 1 _ rfl
                  have p2 := KX3.out.bx.c 2 _ rfl
                  have p3 := KX3.out.bx.c 3 _ rfl
                  go_wp2_with fail
                  clear q0 e0
                  have hcon := Window_any mx (k : Int) _ KX3.out.ta
                  rw [H2x.out] at hcon
                  refine (hcon).mono ?_
                  rintro e V7 ⟨rfl, hb⟩
                  replace KX3 := Lib.hid (KX3.out.next hb)
                  replace L3 := Lib.hid (L3.out.next hb)
                  replace LZ := Lib.hid (LZ.out.next hb)
                  replace K3 := Lib.hid (K3.out.next hb)
                  replace HBR := Lib.hid (HBR.out.trans (hb.mono HBR.out.size))
                  clear hb p0 p1 p2 p3 hcon
                  dsimp only [retWin]
                  have hA := nxA V7 (.cells #[.int .i64 lo, .int .i64 hi] 33)
                  replace KX3 := Lib.hid (KX3.out.next hA)
                  replace L3 := Lib.hid (L3.out.next hA)
                  replace LZ := Lib.hid (LZ.out.next hA)
                  replace K3 := Lib.hid (K3.out.next hA)
                  replace HBR := Lib.hid (HBR.out.trans (hA.mono HBR.out.size))
                  have S1 := Lib.hid (Bx.new V7 #[.int .i64 lo, .int .i64 hi] 33)
                  clear hA
                  go_upto_region 17 with fail
                  generalize (V7.alloc (.cells #[.int .i64 lo, .int .i64 hi] 33)) = V8 at *
                  generalize V7.heap.size = g6 at *
                  have p0 := KX3.out.bx.c 0 _ rfl
                  have p1 := KX3.out.bx.c 1 _ rfl
                  have p2 := KX3.out.bx.c 2 _ rfl
                  have p3 := KX3.out.bx.c 3 _ rfl
                  go_wp2_with fail
                  have hcon := Who_any mx (k : Int) _ KX3.out.ta K3.out.en
                  rw [H1x.out] at hcon
                  refine (hcon).mono ?_
                  rintro e V9 ⟨rfl, hb⟩
                  replace KX3 := Lib.hid (KX3.out.next hb)
                  replace L3 := Lib.hid (L3.out.next hb)
                  replace LZ := Lib.hid (LZ.out.next hb)
                  replace S1 := Lib.hid (S1.out.next hb)
                  replace K3 := Lib.hid (K3.out.next hb)
                  replace HBR := Lib.hid (HBR.out.trans (hb.mono HBR.out.size))
                  clear hb p0 p1 p2 p3 hcon
                  dsimp only [RetWho]
                  go_upto_region 18 with fail
                  have l0 : (V9).cell? ⟨b7, o7 + k, none⟩ = some (.int .i64 z) := int_cell LZ.out (k := 0) (by simp)
                  go_upto_if 130 with fail
                  go_cut [19] (fun s wx => s = .int .i64 (wt : Int) ∧ Below V9.heap.size V9 wx)
                  case first =>
                    by_cases hz : z < 1048576
                    rotate_left
                    · have d0 := decide_eq_false hz
                      have hz2 : z = mxH := by have hm : mxH = 1048576 := rfl; omega
                      have hw7 : wt = 7 := by rw [hwt, hz2]; exact if_pos rfl
                      clear hz2
                      subst hw7
                      go_wp2_with fail
                      go_meet
                      exact ⟨rfl, Below.refl _ _⟩
                    · have d0 := decide_eq_true hz
                      obtain ⟨hh1, hh2, hh3, hh4⟩ := hho hz
                      obtain ⟨hl1, hl2⟩ := hwl2 hz
                      clear hho hwl2 hwg2 hwt
                      go_upto_region 20 with fail
                      clear l0
                      have HS := Lib.hid (show ∀ W : World, Below V9.heap.size V9 W → (W.cell? ⟨bx, 0, none⟩ = some (.int .i64 mx.t.n) ∧ W.cell? ⟨bx, 1, none⟩ = some (.slice mx.A1 mx.t.loans.length mx.c1) ∧ W.cell? ⟨bx, 2, none⟩ = some (.slice mx.A2 mx.t.looks.length mx.c2) ∧ W.cell? ⟨bx, 3, none⟩ = some (.slice mx.A3 mx.t.admits.length mx.c3) ∧ W.cell? ⟨b7, o7 + k, none⟩ = some (.int .i64 z)) from fun W h => ⟨(KX3.out.next h).bx.c 0 _ rfl, (KX3.out.next h).bx.c 1 _ rfl, (KX3.out.next h).bx.c 2 _ rfl, (KX3.out.next h).bx.c 3 _ rfl, int_cell (LZ.out.next h) (k := 0) (by simp)⟩)
                      have hc : Below V9.heap.size V9 V9.drew := (Below.refl _ _).drew
                      have HKX := KX3
                      have HH1 := Lib.hid hh1
                      go_cut [20, 21] (fun p g wx => p = .int .i64 hv ∧ g = .int .i64 0 ∧ Below V9.heap.size V9 wx)
                      case first =>
                        refine wp_region_noPanic ?_
                        refine wp_region_held_drew (S := (fun W => W.cell? ⟨bx, 0, none⟩ = some (.int .i64 mx.t.n) ∧ W.cell? ⟨bx, 1, none⟩ = some (.slice mx.A1 mx.t.loans.length mx.c1) ∧ W.cell? ⟨bx, 2, none⟩ = some (.slice mx.A2 mx.t.looks.length mx.c2) ∧ W.cell? ⟨bx, 3, none⟩ = some (.slice mx.A3 mx.t.admits.length mx.c3) ∧ W.cell? ⟨b7, o7 + k, none⟩ = some (.int .i64 z))) (by kernel_rfl) ?_ (fun hHeld => ?_)
                        · (try dsimp only); exact HS.out _ hc
                        refine htake (i := 0) (v := ?v10) rfl (by kernel_rfl) (by kernel_rfl) (by kernel_rfl) (fun _ _ _ h => h) (Or.inl ⟨by rfl, ?hy10⟩) (by assumption) ?_
                        case hy10 => (intro w hSw; (try dsimp only at hSw); go_simp; try (with_reducible rfl))
                        try simp only [Act.put, List.setIfInBounds_toArray, List.set_cons_zero, List.set_cons_succ]
                        refine htake (i := 1) (v := ?v11) rfl (by kernel_rfl) (by kernel_rfl) (by kernel_rfl) (fun _ _ _ h => h) (Or.inl ⟨by rfl, ?hy11⟩) (by assumption) ?_
                        case hy11 => (intro w hSw; (try dsimp only at hSw); go_simp; try (with_reducible rfl))
                        try simp only [Act.put, List.setIfInBounds_toArray, List.set_cons_zero, List.set_cons_succ]
                        refine htake (i := 2) (v := ?v12) rfl (by kernel_rfl) (by kernel_rfl) (by kernel_rfl) (fun _ _ _ h => h) (Or.inl ⟨by rfl, ?hy12⟩) (by assumption) ?_
                        case hy12 => (intro w hSw; (try dsimp only at hSw); go_simp; try (with_reducible rfl))
                        try simp only [Act.put, List.setIfInBounds_toArray, List.set_cons_zero, List.set_cons_succ]
                        refine htake (i := 3) (v := ?v13) rfl (by kernel_rfl) (by kernel_rfl) (by kernel_rfl) (fun _ _ _ h => h) (Or.inl ⟨by rfl, ?hy13⟩) (by assumption) ?_
                        case hy13 => (intro w hSw; (try dsimp only at hSw); go_simp; try (with_reducible rfl))
                        try simp only [Act.put, List.setIfInBounds_toArray, List.set_cons_zero, List.set_cons_succ]
                        refine htake (i := 4) (v := ?v14) rfl (by kernel_rfl) (by kernel_rfl) (by kernel_rfl) (fun _ _ _ h => h) (Or.inl ⟨by rfl, ?hy14⟩) (by assumption) ?_
                        case hy14 => (intro w hSw; (try dsimp only at hSw); go_simp; try (with_reducible rfl))
                        try simp only [Act.put, List.setIfInBounds_toArray, List.set_cons_zero, List.set_cons_succ]
                        refine wpAnyH_ready (rs := [5]) (by kernel_rfl) (by simp) ?_
                        refine hcons rfl (fun K hK => ?_) (AllReadyH.nil)
                        go_simp
                        have hcon := Holder_any mx z _ (HKX.out.next hc).ta; rw [HH1.out] at hcon; refine hcon.mono ?_; rintro e w4 ⟨rfl, hb4⟩; dsimp only [ret2]; replace hc := hc.trans (hb4.mono hc.size); clear hb4 hcon
                        refine hK.out _ _ ?_ (fun hHeld => ?_)
                        · (try dsimp only); exact HS.out _ hc
                        clear hK K
                        try simp only [Act.put, List.setIfInBounds_toArray, List.set_cons_zero, List.set_cons_succ]
                        refine htake (i := 6) (v := ?v15) rfl (by kernel_rfl) (by kernel_rfl) (by kernel_rfl) (fun _ _ _ h => h) (Or.inl ⟨by rfl, ?hy15⟩) (by assumption) ?_
                        case hy15 => (intro w hSw; (try dsimp only at hSw); go_simp; try (with_reducible rfl))
                        try simp only [Act.put, List.setIfInBounds_toArray, List.set_cons_zero, List.set_cons_succ]
                        refine htake (i := 7) (v := ?v16) rfl (by kernel_rfl) (by kernel_rfl) (by kernel_rfl) (fun _ _ _ h => h) (Or.inl ⟨by rfl, ?hy16⟩) (by assumption) ?_
                        case hy16 => (intro w hSw; (try dsimp only at hSw); go_simp; try (with_reducible rfl))
                        try simp only [Act.put, List.setIfInBounds_toArray, List.set_cons_zero, List.set_cons_succ]
                        refine htake (i := 8) (v := ?v17) rfl (by kernel_rfl) (by kernel_rfl) (by kernel_rfl) (fun _ _ _ h => h) (Or.inl ⟨by rfl, ?hy17⟩) (by assumption) ?_
                        case hy17 => (intro w hSw; (try dsimp only at hSw); go_simp; try (with_reducible rfl))
                        try simp only [Act.put, List.setIfInBounds_toArray, List.set_cons_zero, List.set_cons_succ]
                        refine htake (i := 9) (v := ?v18) rfl (by kernel_rfl) (by kernel_rfl) (by kernel_rfl) (fun _ _ _ h => h) (Or.inl ⟨by rfl, ?hy18⟩) (by assumption) ?_
                        case hy18 => (intro w hSw; (try dsimp only at hSw); go_simp; try (with_reducible rfl))
                        try simp only [Act.put, List.setIfInBounds_toArray, List.set_cons_zero, List.set_cons_succ]
                        refine htake (i := 10) (v := ?v19) rfl (by kernel_rfl) (by kernel_rfl) (by kernel_rfl) (fun _ _ _ h => h) (Or.inl ⟨by rfl, ?hy19⟩) (by assumption) ?_
                        case hy19 => (intro w hSw; (try dsimp only at hSw); go_simp; try (with_reducible rfl))
                        try simp only [Act.put, List.setIfInBounds_toArray, List.set_cons_zero, List.set_cons_succ]
                        refine wpAnyH_done (by kernel_rfl) ?_ _
                        refine NoPanic.normal ?_
                        iterate 12 (try clear hHeld)
                        all_goals (go_wp2_with fail; go_meet)
                        all_goals (exact ⟨rfl, rfl, hc⟩)
                      case rest =>
                        obtain ⟨rfl, rfl, hb⟩ := hcut
                        clear hc HS HH1 hh1
                        have K4 := Lib.hid (K3.out.next hb)
                        have LZ4 := Lib.hid (LZ.out.next hb)
                        have S4 := Lib.hid (S1.out.next hb)
                        have HB4 := Lib.hid hb
                        clear hb
                        have HHo := Lib.hid (fun n => holder_any m.A1 m.c1 m.t.loans z wc.heap.size (wc.drewN n) (K4.out.ta.lo.below (below_drewN (Below.refl _ _) n)) K4.out.ta.l1)
                        rw [HHV.out] at HHo
                        have q1 := K4.out.bx.c 1 _ rfl
                        have l0 : (wc).cell? ⟨b7, o7 + k, none⟩ = some (.int .i64 z) := int_cell LZ4.out (k := 0) (by simp)
                        have s0 := S4.out.c 0 _ rfl
                        have s1 := S4.out.c 1 _ rfl
                        have d1 := decide_eq_false (show ¬ z < lo by omega)
                        have d2 := decide_eq_false (show ¬ hi < z by omega)
                        clear HKX
                        by_cases hm1 : hv = -1
                        · subst hm1
                          rw [if_pos rfl] at hh2
                          subst hh2
                          go_wp2_with (go_quiet ((go_at_call 26; first | exact qq (HHo.out _) | exact qqa (HHo.out _))))
                          all_goals (go_meet)
                          all_goals (exact ⟨rfl, HB4.out.trans (below_drewN (Below.refl _ _) _)⟩)
                        · rw [if_neg hm1] at hh2
                          have hwv : (wt : Int) = hv := by omega
                          have d4 : (hv == -1) = false := by simp [hm1]
                          go_wp2_with (go_quiet ((go_at_call 26; first | exact qq (HHo.out _) | exact qqa (HHo.out _))))
                          all_goals (go_meet)
                          all_goals (exact ⟨by rw [hwv], HB4.out.trans (below_drewN (Below.refl _ _) _)⟩)
                  case rest =>
                    obtain ⟨rfl, hb⟩ := hcut
                    clear l0 hho hwl2 hwt
                    replace KX3 := Lib.hid (KX3.out.next hb)
                    replace L3 := Lib.hid (L3.out.next hb)
                    replace LZ := Lib.hid (LZ.out.next hb)
                    replace S1 := Lib.hid (S1.out.next hb)
                    replace K3 := Lib.hid (K3.out.next hb)
                    replace HBR := Lib.hid (HBR.out.trans (hb.mono HBR.out.size))
                    clear hb
                    have l0 : (wc).cell? ⟨b7, o7 + k, none⟩ = some (.int .i64 z) := int_cell LZ.out (k := 0) (by simp)
                    have hb1 : bits .and .i64 ((s : Int) / 2 ^ wt) 1 = 1 := by
                      have := bit_and (T := s) (p := wt) (by omega)
                      rw [hbit] at this
                      exact this
                    cases gone
                    · skip
                      clear hwg2
                      go_wp2_with fail
                      first | (exact ⟨⟨k + 1, by push_cast; rfl, by omega, HBR.out⟩, by simp [intOf]; omega⟩) | (exact ⟨⟨_, ⟨k + 1, by push_cast; rfl, by omega, HBR.out⟩, rfl⟩, by simp [intOf]; omega⟩) | (go_roundw; (case rel => exact ⟨k + 1, by push_cast; rfl, by omega, HBR.out⟩); (case measure => (simp [intOf]; omega))) | (go_round; (case rel => exact ⟨k + 1, by push_cast; rfl, by omega, HBR.out⟩); (case measure => (simp [intOf]; omega)))
                    · skip
                      have hzn := hwg2 rfl
                      have d1 : (z == 1048576) = false := by simp [hzn]
                      clear hwg2
                      go_wp2_with fail
                      first | (exact ⟨⟨k + 1, by push_cast; rfl, by omega, HBR.out⟩, by simp [intOf]; omega⟩) | (exact ⟨⟨_, ⟨k + 1, by push_cast; rfl, by omega, HBR.out⟩, rfl⟩, by simp [intOf]; omega⟩) | (go_roundw; (case rel => exact ⟨k + 1, by push_cast; rfl, by omega, HBR.out⟩); (case measure => (simp [intOf]; omega))) | (go_round; (case rel => exact ⟨k + 1, by push_cast; rfl, by omega, HBR.out⟩); (case measure => (simp [intOf]; omega)))
                · have e0 := decide_eq_false (show ¬ (k : Int) < m.t.n by omega)
                  have q0 := K3.out.bx.c 0 _ rfl
                  have M5 := Lib.hid (M4.out.next HBR.out)
                  have HB5 := Lib.hid (HB2.out.trans (HBR.out.mono HB2.out.size))
                  go_upto_region 28 with fail
                  clear e0 q0 HWHO HWIN HHOL HWT HWL HIN
                  go_wp2_with fail
                  go_loopw [22] (fun pv wx => ∃ p : Nat, pv = .int .i64 p ∧ p ≤ m.t.admits.length ∧ Below wr.heap.size wr wx) (fun pv _ => m.t.admits.length - (intOf pv).toNat)
                  case atStart => exact ⟨0, rfl, by omega, Below.refl _ _⟩
                  case round =>
                    obtain ⟨p, rfl, hp, hbr⟩ := hrel
                    have HBQ := Lib.hid hbr
                    have K6 := Lib.hid (K3.out.next hbr)
                    have KX6 := Lib.hid (KX3.out.next hbr)
                    have M6 := Lib.hid (M5.out.next hbr)
                    clear hbr
                    by_cases hlp : p < m.t.admits.length
                    · have e0 := decide_eq_true (show (p : Int) < (m.t.admits.length : Int) by omega)
                      have hwp : IntKind.i64.wrap ((p : Int) + 1) = (p : Int) + 1 := IntWalk.i64_in _ (by omega)
                      obtain ⟨a, b, hlo, ha, hb'⟩ := HLOS.out p hlp
                      have HLO := Lib.hid hlo
                      clear hlo
                      have p0 := KX6.out.bx.c 0 _ rfl
                      have p1 := KX6.out.bx.c 1 _ rfl
                      have p2 := KX6.out.bx.c 2 _ rfl
                      have p3 := KX6.out.bx.c 3 _ rfl
                      go_wp2_with fail
                      clear e0
                      have hcon := Lost_any mx (p : Int) _ KX6.out.ta
                      rw [HLO.out] at hcon
                      refine (hcon).mono ?_
                      rintro e V7 ⟨rfl, hb⟩
                      replace KX6 := Lib.hid (KX6.out.next hb)
                      replace M6 := Lib.hid (M6.out.next hb)
                      replace K6 := Lib.hid (K6.out.next hb)
                      replace HBQ := Lib.hid (HBQ.out.trans (hb.mono HBQ.out.size))
                      clear hb p0 p1 p2 p3 hcon
                      dsimp only [retLost]
                      have hA := nxA V7 (.cells #[.int .i64 a, .int .i64 b] 33)
                      replace KX6 := Lib.hid (KX6.out.next hA)
                      replace M6 := Lib.hid (M6.out.next hA)
                      replace K6 := Lib.hid (K6.out.next hA)
                      replace HBQ := Lib.hid (HBQ.out.trans (hA.mono HBQ.out.size))
                      have S6 := Lib.hid (Bx.new V7 #[.int .i64 a, .int .i64 b] 33)
                      clear hA
                      go_upto_region 32 with fail
                      generalize (V7.alloc (.cells #[.int .i64 a, .int .i64 b] 33)) = V8 at *
                      generalize V7.heap.size = g7 at *
                      have hpl : p < (manyL m.t LL).length := by unfold manyL; rw [List.length_map, List.length_range]; exact hlp
                      obtain ⟨b4, o4, eA4, -, m0⟩ := int_at M6.out hpl
                      have hml : (manyL m.t LL).getD p 0 = (manyT m.t.loans LL p LL.length : Int) := by
                        unfold manyL
                        rw [List.getD_eq_getElem?_getD, List.getElem?_map, List.getElem?_range hlp]; rfl
                      rw [hml] at m0
                      clear hml hpl
                      rw [eA4]
                      generalize (manyT m.t.loans LL p LL.length : Int) = mv at *
                      have s0 := S6.out.c 0 _ rfl
                      have s1 := S6.out.c 1 _ rfl
                      have hpI : (p : Int) < (m.t.admits.length : Int) := by omega
                      have d1 := decide_eq_false (show ¬ mv < a by omega)
                      have d2 := decide_eq_false (show ¬ b < mv by omega)
                      go_wp2_with (go_quiet (fail))
                      have hfin := HBQ.out.trans (below_drewN (Below.refl _ _) nq)
                      all_goals (first | (exact ⟨⟨p + 1, by push_cast; rfl, by omega, hfin⟩, by simp [intOf]; omega⟩) | (exact ⟨⟨_, ⟨p + 1, by push_cast; rfl, by omega, hfin⟩, rfl⟩, by simp [intOf]; omega⟩) | (go_roundw; (case rel => exact ⟨p + 1, by push_cast; rfl, by omega, hfin⟩); (case measure => (simp [intOf]; omega))) | (go_round; (case rel => exact ⟨p + 1, by push_cast; rfl, by omega, hfin⟩); (case measure => (simp [intOf]; omega))))
                    · have e0 := decide_eq_false (show ¬ (p : Int) < (m.t.admits.length : Int) by omega)
                      go_upto_region 34 with fail
                      clear e0
                      have p0 := KX6.out.bx.c 0 _ rfl
                      have p1 := KX6.out.bx.c 1 _ rfl
                      have p2 := KX6.out.bx.c 2 _ rfl
                      have p3 := KX6.out.bx.c 3 _ rfl
                      go_wp2_with fail
                      have hcon := Clash_any mx _ KX6.out.ta
                      rw [HCLA.out] at hcon
                      refine (hcon).mono ?_
                      rintro e V7 ⟨rfl, hb⟩
                      replace KX6 := Lib.hid (KX6.out.next hb)
                      replace K6 := Lib.hid (K6.out.next hb)
                      replace HBQ := Lib.hid (HBQ.out.trans (hb.mono HBQ.out.size))
                      clear hb p0 p1 p2 p3 hcon
                      dsimp only [retCl]
                      go_wp2_with fail
                      refine (awake_any _ K6.out.en).mono ?_
                      rintro e V99 ⟨rfl, hb⟩
                      go_wp2_with fail
                      go_ret
                      exact ⟨rfl, (HB5.out.trans (HBQ.out.mono HB5.out.size)).trans (hb.mono (HB5.out.trans (HBQ.out.mono HB5.out.size)).size)⟩
end Go.Proofs.YtkcfpnpejaekjaaDoor
