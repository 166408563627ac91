import Derived.Test.YtfffhbolaimmdaaDoorC2
import Derived.Test.YtfffhbolaimmdaaDoorQ3
namespace Go.Proofs.YtfffhbolaimmdaaDoor
open Go.RowKit
theorem shl_w {s : Store} (ok : Ok s) : wrap64 (2 ^ s.wishes.length) = ((2 ^ s.wishes.length : Nat) : Int) := by
  have h := ok.nw
  have hp : 2 ^ s.wishes.length ≤ 2 ^ 9 := Nat.pow_le_pow_right (by omega) h
  rw [show ((2 : Int) ^ s.wishes.length) = ((2 ^ s.wishes.length : Nat) : Int) by rw [Int.natCast_pow]; rfl]
  generalize 2 ^ s.wishes.length = q at *
  simp only [wrap64]
  omega
theorem i64_and (a b : Nat) (ha : a < 9223372036854775808) (hb : b < 9223372036854775808) : bits .and .i64 (a : Int) (b : Int) = ((a &&& b : Nat) : Int) := by
  have f : ∀ a : Nat, a < 9223372036854775808 → (BitVec.ofInt 64 (a : Int)).toNat = a := fun a ha => by
    rw [BitVec.ofInt_natCast, BitVec.toNat_ofNat]; exact Nat.mod_eq_of_lt (by omega)
  have hx : a &&& b ≤ a := Nat.and_le_left
  show IntKind.i64.wrap ((BitVec.ofInt 64 (a : Int) &&& BitVec.ofInt 64 (b : Int)).toNat : Int) = _
  rw [BitVec.toNat_and, f a ha, f b hb, IntKind.wrap_i64]
  omega
theorem pow_wrap {i : Nat} (h : i ≤ 61) : wrap64 (2 ^ i) = ((2 ^ i : Nat) : Int) := by
  have hp : 2 ^ i ≤ 2 ^ 61 := Nat.pow_le_pow_right (by omega) h
  have h61 : (2:Nat) ^ 61 = 2305843009213693952 := by decide
  rw [show ((2 : Int) ^ i) = ((2 ^ i : Nat) : Int) by rw [Int.natCast_pow]; rfl]
  generalize 2 ^ i = q at *
  exact IntWalk.wrap64_in _ ⟨by omega, by omega⟩
theorem pow_wrap' {i : Nat} (h : i ≤ 61) : IntKind.i64.wrap (2 ^ i) = ((2 ^ i : Nat) : Int) := by
  have hp : 2 ^ i ≤ 2 ^ 61 := Nat.pow_le_pow_right (by omega) h
  have h61 : (2:Nat) ^ 61 = 2305843009213693952 := by decide
  rw [show ((2 : Int) ^ i) = ((2 ^ i : Nat) : Int) by rw [Int.natCast_pow]; rfl]
  generalize 2 ^ i = q at *
  exact IntWalk.i64_in _ (by omega)
theorem bit_eq (x i : Nat) (hx : x < 9223372036854775808) : bits .and .i64 ((x : Int) / 2 ^ i) 1 = if has x i = true then 1 else 0 := by
  have e : ((x : Int) / 2 ^ i) = ((x / 2 ^ i : Nat) : Int) := by rw [Int.natCast_ediv, Int.natCast_pow]; rfl
  have hle : x / 2 ^ i ≤ x := Nat.div_le_self _ _
  rw [e, show (1 : Int) = ((1 : Nat) : Int) from rfl, i64_and _ _ (by omega) (by omega), Nat.and_one_is_mod]
  unfold has
  rw [Nat.testBit_eq_decide_div_mod_eq]
  have : x / 2 ^ i % 2 < 2 := Nat.mod_lt _ (by omega)
  by_cases h : x / 2 ^ i % 2 = 1
  · rw [h]; simp
  · rw [show x / 2 ^ i % 2 = 0 by omega]; simp
theorem mod_eq (x i : Nat) (hx : x < 9223372036854775808) (h : i ≤ 61) : bits .and .i64 (x : Int) (wrap64 (wrap64 (2 ^ i) - 1)) = ((x % 2 ^ i : Nat) : Int) := by
  have hp : 2 ^ i ≤ 2 ^ 61 := Nat.pow_le_pow_right (by omega) h
  have h61 : (2:Nat) ^ 61 = 2305843009213693952 := by decide
  have h0 := Nat.two_pow_pos i
  rw [pow_wrap h, show wrap64 (((2 ^ i : Nat) : Int) - 1) = ((2 ^ i - 1 : Nat) : Int) from (IntWalk.wrap64_in _ ⟨by omega, by omega⟩).trans (by omega), i64_and _ _ hx (by omega), Nat.and_two_pow_sub_one_eq_mod]
theorem LBox.nextB {w w' : World} {b : Nat} {x : Licence} (h : LBox w b x) (hb : Below w.heap.size w w') : LBox w' b x := h.next hb
def R9 (s : Store) (set i bs bw bl : Nat) (w0 : World) (pv kv : Value) (w : World) : Prop := ∃ k : Nat, k ≤ i + 1 ∧ kv = .int .i64 k ∧ pv = .int .i64 (usedTo s set k (makeAt s i).pic.toNat) ∧ AwW s bs w ∧ Below w0.heap.size w0 w ∧ WBox w bw (wishAt s i) ∧ LBox w bl (licAt s i)
set_option maxRecDepth 100000 in
set_option maxHeartbeats 4000000 in
theorem StockMay_walk (s : Store) (st pt : Int) (w : World) (hr : StoreAt w w.heap.size s) (he : Env w) (hwf : (Lit.int .u16 pt).wf = true) : Calls Tryd.prog 9 #[.agg #[.slice s.A1 s.sheets.length s.c1, .slice s.A2 s.lics.length s.c2, .slice s.A3 s.makes.length s.c3, .slice s.A4 s.wishes.length s.c4], .int .i64 st, .int .u16 pt] w (Ret (.bool true) w) := by
  have K1 := Lib.hid (AwW.start hr he 27)
  have B1 := Lib.hid (nxA w (.cells #[.slice s.A1 s.sheets.length s.c1, .slice s.A2 s.lics.length s.c2, .slice s.A3 s.makes.length s.c3, .slice s.A4 s.wishes.length s.c4] 27))
  clear hr he
  have p0 := True.intro
  have p1 := True.intro
  have p2 := True.intro
  have p3 := True.intro
  go_enter Tryd.func9, Tryd.ntmps9
  go_wp2_with fail
  generalize (w.alloc (.cells #[.slice s.A1 s.sheets.length s.c1, .slice s.A2 s.lics.length s.c2, .slice s.A3 s.makes.length s.c3, .slice s.A4 s.wishes.length s.c4] 27)) = V1 at *
  refine (far_any s V1 K1.out.st).mono ?_
  rintro e V2 ⟨rfl, hb⟩
  have K2 := Lib.hid (K1.out.next hb)
  have B2 := Lib.hid (B1.out.trans (hb.mono B1.out.size))
  clear hb K1 B1 p0 p1 p2 p3
  obtain ⟨-, -, -, p0, p1, p2, p3⟩ := id K2.out
  cases hf : farS s
  · clear hf
    rcases check_cases s st with ⟨hc, hs⟩ | ⟨hc, hs, hrg⟩ | ⟨hc, hs, h0, h1⟩
    · have ha : acceptedS s st = 1 := by unfold acceptedS; rw [hc, if_neg (by omega)]
      have hm : mayS s st = 0 := by unfold mayS; rw [ha, if_neg (by omega)]
      have HA := Lib.hid (May16_any s st V2 K2.out.st K2.out.en)
      rw [ha, hm] at HA
      clear ha hm hc
      go_wp2_with fail
      refine (HA.out).mono ?_
      rintro e V3 ⟨rfl, hb⟩
      have K3 := Lib.hid (K2.out.next hb)
      have B3 := Lib.hid (B2.out.trans (hb.mono B2.out.size))
      clear hb K2 B2 p0 p1 p2 p3
      obtain ⟨-, -, -, p0, p1, p2, p3⟩ := id K3.out
      go_wp2_with fail
      clear HA
      refine (Store_any s V3 K3.out.st).mono ?_
      rintro e V4 ⟨rfl, hb⟩
      have K4 := Lib.hid (K3.out.next hb)
      have B4 := Lib.hid (B3.out.trans (hb.mono B3.out.size))
      clear hb K3 B3 p0 p1 p2 p3
      obtain ⟨-, -, -, p0, p1, p2, p3⟩ := id K4.out
      go_wp2_with fail
      refine (awake_any V4 K4.out.en).mono ?_
      rintro e V5 ⟨rfl, hb⟩
      have B5 := Lib.hid (B4.out.trans (hb.mono B4.out.size))
      clear hb K4 B4
      go_wp2
      go_ret
      exact ⟨rfl, B5.out⟩
    · have ha : acceptedS s st = 2 := by unfold acceptedS; rw [hc, if_neg (by omega)]
      have hm : mayS s st = 0 := by unfold mayS; rw [ha, if_neg (by omega)]
      have HA := Lib.hid (May16_any s st V2 K2.out.st K2.out.en)
      rw [ha, hm] at HA
      have ok := (ok_iff s).1 hs
      have sh := shl_w ok
      obtain ⟨P2, hP2⟩ : ∃ P2 : Nat, P2 = 2 ^ s.wishes.length := ⟨_, rfl⟩
      rw [← hP2] at sh
      have hrg' : st < 0 ∨ (P2 : Int) ≤ st := by rw [hP2]; exact hrg
      have hn9 := ok.nw
      clear ha hm hc hP2 ok hrg
      by_cases hneg : st < 0
      · have d1 : decide (st < 0) = true := by simpa using hneg
        go_wp2_with fail
        refine (HA.out).mono ?_
        rintro e V3 ⟨rfl, hb⟩
        have K3 := Lib.hid (K2.out.next hb)
        have B3 := Lib.hid (B2.out.trans (hb.mono B2.out.size))
        clear hb K2 B2 p0 p1 p2 p3
        obtain ⟨-, -, -, p0, p1, p2, p3⟩ := id K3.out
        go_wp2_with fail
        clear HA
        refine (Store_any s V3 K3.out.st).mono ?_
        rintro e V4 ⟨rfl, hb⟩
        have K4 := Lib.hid (K3.out.next hb)
        have B4 := Lib.hid (B3.out.trans (hb.mono B3.out.size))
        clear hb K3 B3 p0 p1 p2 p3
        obtain ⟨-, -, -, p0, p1, p2, p3⟩ := id K4.out
        go_wp2_with fail
        refine (awake_any V4 K4.out.en).mono ?_
        rintro e V5 ⟨rfl, hb⟩
        have B5 := Lib.hid (B4.out.trans (hb.mono B4.out.size))
        clear hb K4 B4
        go_wp2
        go_ret
        exact ⟨rfl, B5.out⟩
      · have d1 : decide (st < 0) = false := by simpa using hneg
        have d2 : decide ((P2 : Int) ≤ st) = true := by simp; omega
        go_wp2_with fail
        refine (HA.out).mono ?_
        rintro e V3 ⟨rfl, hb⟩
        have K3 := Lib.hid (K2.out.next hb)
        have B3 := Lib.hid (B2.out.trans (hb.mono B2.out.size))
        clear hb K2 B2 p0 p1 p2 p3
        obtain ⟨-, -, -, p0, p1, p2, p3⟩ := id K3.out
        go_wp2_with fail
        clear HA
        refine (Store_any s V3 K3.out.st).mono ?_
        rintro e V4 ⟨rfl, hb⟩
        have K4 := Lib.hid (K3.out.next hb)
        have B4 := Lib.hid (B3.out.trans (hb.mono B3.out.size))
        clear hb K3 B3 p0 p1 p2 p3
        obtain ⟨-, -, -, p0, p1, p2, p3⟩ := id K4.out
        go_wp2_with fail
        refine (awake_any V4 K4.out.en).mono ?_
        rintro e V5 ⟨rfl, hb⟩
        have B5 := Lib.hid (B4.out.trans (hb.mono B4.out.size))
        clear hb K4 B4
        go_wp2
        go_ret
        exact ⟨rfl, B5.out⟩
    · have ok := (ok_iff s).1 hs
      obtain ⟨set, rfl⟩ := Int.eq_ofNat_of_zero_le h0
      have hlt := set_lt h1
      have sh := shl_w ok
      have hn9 := ok.nw
      have hp9 : 2 ^ s.wishes.length ≤ 2 ^ 9 := Nat.pow_le_pow_right (by omega) hn9
      obtain ⟨q, rfl, hq⟩ : ∃ q : Nat, pt = (q : Int) ∧ q < 65536 := by
        simp [Lit.wf, IntKind.min, IntKind.max, IntKind.bits, IntKind.signed] at hwf
        exact ⟨pt.toNat, by omega, by omega⟩
      obtain ⟨P2, hP2⟩ : ∃ P2 : Nat, P2 = 2 ^ s.wishes.length := ⟨_, rfl⟩
      rw [← hP2] at sh
      have hlt' : set < P2 := by rw [hP2]; exact hlt
      have hset : set < 512 := by omega
      have Hok := Lib.hid ok
      have HP2 := Lib.hid hP2
      have d1 : decide ((set : Int) < 0) = false := by simp
      have d2 : decide (P2 ≤ set) = false := by simp; omega
      by_cases hrf : 0 ≤ refusedS s set
      · have ha : acceptedS s (set : Int) = 11 := by rw [accepted_in ok hlt, if_pos hrf]
        obtain ⟨i, hi1, hi2, hi3, hi4, hi5⟩ := refusedTo_hit s set s.wishes.length hrf
        have hm : mayS s (set : Int) = (i : Int) := by unfold mayS; rw [ha, if_pos rfl]; exact hi1
        have HA := Lib.hid (May16_any s (set : Int) V2 K2.out.st K2.out.en)
        rw [ha, hm] at HA
        have hbf : set % 2 ^ i < 2 ^ i := Nat.mod_lt _ (Nat.two_pow_pos i)
        have hpi : 2 ^ (i + 1) ≤ 2 ^ s.wishes.length := Nat.pow_le_pow_right (by omega) (by omega)
        have hpi0 : 2 ^ i ≤ 2 ^ (i + 1) := Nat.pow_le_pow_right (by omega) (by omega)
        have hac1 : acceptedS s ((set % 2 ^ i : Nat) : Int) = 0 := (accepted_zero ok (by omega)).2 (before_ok hi5)
        obtain ⟨Y, hY⟩ : ∃ Y : Nat, Y = set % 2 ^ i + 2 ^ i := ⟨_, rfl⟩
        have hYn : Y < 2 ^ s.wishes.length := by rw [hY]; exact Nat.lt_of_lt_of_le (add_lt_pow hbf) hpi
        have hYr : refusedS s Y = (i : Int) := by rw [hY]; exact upto_refused hi2 hi3 hi4 hi5
        have hYa : acceptedS s (Y : Int) = 11 := by rw [accepted_in ok hYn, if_pos (by omega)]
        have hYm : mayS s (Y : Int) = (i : Int) := by unfold mayS; rw [hYa, if_pos rfl]; exact hYr
        have HM2 := Lib.hid (fun (W : World) (h1 : StoreAt W W.heap.size s) (h2 : Env W) => (show Calls Tryd.prog 16 #[.agg #[.slice s.A1 s.sheets.length s.c1, .slice s.A2 s.lics.length s.c2, .slice s.A3 s.makes.length s.c3, .slice s.A4 s.wishes.length s.c4], .int .i64 (Y : Int)] W (Ret2 (.int .i64 i) (.int .i64 11) W) from by
          have := May16_any s (Y : Int) W h1 h2; rw [hYm, hYa] at this; exact this))
        have HOR := Lib.hid (show bits BinOp.or IntKind.i64 ((set % 2 ^ i : Nat) : Int) (IntKind.i64.wrap (2 ^ i)) = (Y : Int) from by
          rw [pow_wrap' (by omega), hY]; exact i64_or_add hbf (by omega))
        obtain ⟨bef, hbe⟩ : ∃ bef : Nat, bef = set % 2 ^ i := ⟨_, rfl⟩
        have hmod := mod_eq set i (by omega) (by omega)
        rw [← hbe] at hmod HOR hac1
        have hbit : (bits BinOp.and IntKind.i64 ((set : Int) / 2 ^ i) 1 == 0) = false := by rw [bit_eq set i (by omega), hi3]; rfl
        have HWhy := Lib.hid (okAt_why hi4)
        have HB5 := Lib.hid hi5
        clear ok hP2 hrf ha hm hi1 h1 h0 hlt hp9 hYm hYa hYr hYn hY hbf hpi hpi0 hi3 hi4 hi5 hbe
        go_wp2_with fail
        refine (HA.out).mono ?_
        rintro e V3 ⟨rfl, hb⟩
        have K3 := Lib.hid (K2.out.next hb)
        have B3 := Lib.hid (B2.out.trans (hb.mono B2.out.size))
        clear hb K2 B2 p0 p1 p2 p3
        obtain ⟨-, -, -, p0, p1, p2, p3⟩ := id K3.out
        go_wp2_with fail
        clear HA
        refine (Store_any s V3 K3.out.st).mono ?_
        rintro e V4 ⟨rfl, hb⟩
        have K4 := Lib.hid (K3.out.next hb)
        have B4 := Lib.hid (B3.out.trans (hb.mono B3.out.size))
        clear hb K3 B3 p0 p1 p2 p3
        obtain ⟨-, -, -, p0, p1, p2, p3⟩ := id K4.out
        go_wp2_with fail
        have hm2 := may_zero hac1
        have HBf := Lib.hid (May16_any s (bef : Int) V4 K4.out.st K4.out.en)
        rw [hac1, hm2] at HBf
        clear hm2 hac1 hbit hmod
        refine (HBf.out).mono ?_
        rintro e V5 ⟨rfl, hb⟩
        have K5 := Lib.hid (K4.out.next hb)
        have B5 := Lib.hid (B4.out.trans (hb.mono B4.out.size))
        clear hb K4 B4 p0 p1 p2 p3
        obtain ⟨-, -, -, p0, p1, p2, p3⟩ := id K5.out
        go_wp2_with fail
        clear HBf d1 d2 sh hs hc
        refine wp_region_noPanic ?_
        refine wp_region_held_drew (S := (fun W => W.cell? ⟨w.heap.size, 0, none⟩ = some (.slice s.A1 s.sheets.length s.c1) ∧ W.cell? ⟨w.heap.size, 1, none⟩ = some (.slice s.A2 s.lics.length s.c2) ∧ W.cell? ⟨w.heap.size, 2, none⟩ = some (.slice s.A3 s.makes.length s.c3) ∧ W.cell? ⟨w.heap.size, 3, none⟩ = some (.slice s.A4 s.wishes.length s.c4))) (by kernel_rfl) ?_ (fun hHeld => ?_)
        · (try dsimp only); exact K5.out.bx.drew.four
        refine htake (i := 0) (v := ?v1) rfl (by kernel_rfl) (by kernel_rfl) (by kernel_rfl) (fun _ _ _ h => h) (Or.inl ⟨by rfl, ?hy1⟩) (by assumption) ?_
        case hy1 => (intro w hSw; (try dsimp only at hSw); go_simp; try (with_reducible rfl))
        try simp only [Act.put, List.setIfInBounds_toArray, List.set_cons_zero, List.set_cons_succ]
        refine htake (i := 1) (v := ?v2) rfl (by kernel_rfl) (by kernel_rfl) (by kernel_rfl) (fun _ _ _ h => h) (Or.inl ⟨by rfl, ?hy2⟩) (by assumption) ?_
        case hy2 => (intro w hSw; (try dsimp only at hSw); go_simp; try (with_reducible rfl))
        try simp only [Act.put, List.setIfInBounds_toArray, List.set_cons_zero, List.set_cons_succ]
        refine htake (i := 2) (v := ?v3) rfl (by kernel_rfl) (by kernel_rfl) (by kernel_rfl) (fun _ _ _ h => h) (Or.inl ⟨by rfl, ?hy3⟩) (by assumption) ?_
        case hy3 => (intro w hSw; (try dsimp only at hSw); go_simp; try (with_reducible rfl))
        try simp only [Act.put, List.setIfInBounds_toArray, List.set_cons_zero, List.set_cons_succ]
        refine htake (i := 3) (v := ?v4) rfl (by kernel_rfl) (by kernel_rfl) (by kernel_rfl) (fun _ _ _ h => h) (Or.inl ⟨by rfl, ?hy4⟩) (by assumption) ?_
        case hy4 => (intro w hSw; (try dsimp only at hSw); go_simp; try (with_reducible rfl))
        try simp only [Act.put, List.setIfInBounds_toArray, List.set_cons_zero, List.set_cons_succ]
        refine htake (i := 4) (v := ?v5) rfl (by kernel_rfl) (by kernel_rfl) (by kernel_rfl) (fun _ _ _ h => h) (Or.inl ⟨by rfl, ?hy5⟩) (by assumption) ?_
        case hy5 => (intro w hSw; (try dsimp only at hSw); go_simp; try (with_reducible rfl))
        try simp only [Act.put, List.setIfInBounds_toArray, List.set_cons_zero, List.set_cons_succ]
        refine wpAnyH_ready (rs := [5]) (by kernel_rfl) (by simp) ?_
        refine hcons rfl (fun K hK => ?_) (AllReadyH.nil)
        go_simp
        rw [HOR.out]; (with_reducible refine (HM2.out _ ?_ ?_).mono ?_); (exact K5.out.st.next (Below.refl _ _).drew); (exact K5.out.en.next (Below.refl _ _).drew); rintro e w2 ⟨rfl, hb2⟩; have hk2 : Below V5.heap.size V5 w2 := (Below.refl _ _).drew.trans hb2
        refine hK.out _ _ ?_ (fun hHeld => ?_)
        · (try dsimp only); exact (K5.out.next hk2).bx.four
        clear hK K
        try simp only [Act.put, List.setIfInBounds_toArray, List.set_cons_zero, List.set_cons_succ]
        refine htake (i := 6) (v := ?v6) rfl (by kernel_rfl) (by kernel_rfl) (by kernel_rfl) (fun _ _ _ h => h) (Or.inl ⟨by rfl, ?hy6⟩) (by assumption) ?_
        case hy6 => (intro w hSw; (try dsimp only at hSw); go_simp; try (with_reducible rfl))
        try simp only [Act.put, List.setIfInBounds_toArray, List.set_cons_zero, List.set_cons_succ]
        refine htake (i := 7) (v := ?v7) rfl (by kernel_rfl) (by kernel_rfl) (by kernel_rfl) (fun _ _ _ h => h) (Or.inl ⟨by rfl, ?hy7⟩) (by assumption) ?_
        case hy7 => (intro w hSw; (try dsimp only at hSw); go_simp; try (with_reducible rfl))
        try simp only [Act.put, List.setIfInBounds_toArray, List.set_cons_zero, List.set_cons_succ]
        refine htake (i := 8) (v := ?v8) rfl (by kernel_rfl) (by kernel_rfl) (by kernel_rfl) (fun _ _ _ h => h) (Or.inl ⟨by rfl, ?hy8⟩) (by assumption) ?_
        case hy8 => (intro w hSw; (try dsimp only at hSw); go_simp; try (with_reducible rfl))
        try simp only [Act.put, List.setIfInBounds_toArray, List.set_cons_zero, List.set_cons_succ]
        refine htake (i := 9) (v := ?v9) rfl (by kernel_rfl) (by kernel_rfl) (by kernel_rfl) (fun _ _ _ h => h) (Or.inl ⟨by rfl, ?hy9⟩) (by assumption) ?_
        case hy9 => (intro w hSw; (try dsimp only at hSw); go_simp; try (with_reducible rfl))
        try simp only [Act.put, List.setIfInBounds_toArray, List.set_cons_zero, List.set_cons_succ]
        refine htake (i := 10) (v := ?v10) rfl (by kernel_rfl) (by kernel_rfl) (by kernel_rfl) (fun _ _ _ h => h) (Or.inl ⟨by rfl, ?hy10⟩) (by assumption) ?_
        case hy10 => (intro w hSw; (try dsimp only at hSw); go_simp; try (with_reducible rfl))
        try simp only [Act.put, List.setIfInBounds_toArray, List.set_cons_zero, List.set_cons_succ]
        refine wpAnyH_done (by kernel_rfl) ?_ _
        refine NoPanic.normal ?_
        iterate 12 (try clear hHeld)
        have K6 := Lib.hid (K5.out.next hk2)
        have B6 := Lib.hid (B5.out.trans (hk2.mono B5.out.size))
        clear hk2 hb2 K5 B5 HM2 HOR p0 p1 p2 p3
        obtain ⟨-, -, hz, p0, p1, p2, p3⟩ := id K6.out
        obtain ⟨b4, o4, e4, hb4, x0, x1, x2, x3, x4⟩ := K6.out.st.wishC hi2
        obtain ⟨b3, o3, e3, hb3, y0, -⟩ := K6.out.st.makeC Hok.out hi2
        obtain ⟨b2, o2, e2, hb2, z0, z1, z2, z3⟩ := K6.out.st.licC Hok.out hi2
        rw [e4] at p3
        rw [e3] at p2
        rw [e2] at p1
        have E4 := Lib.hid e4
        have E3 := Lib.hid e3
        have E2 := Lib.hid e2
        have hpz := Hok.out.puz hi2
        have hw0 := (Hok.out.wishOk hi2).1
        have hw1 := (Hok.out.wishOk hi2).2.1
        have hmk := Hok.out.make _ (makeAt_mem Hok.out hi2)
        have g1 : 0 ≤ (makeAt s i).pic := hmk.1
        have g2 : (makeAt s i).pic < s.lics.length := hmk.2.1
        have l3 := K6.out.st.l3
        have l2 := K6.out.st.l2
        clear e4 e3 e2 hmk
        have hA := nxA w2 (.cells #[.int .i64 (wishAt s i).puz, .int .i64 (wishAt s i).many, .int .i64 (wishAt s i).hour, .int .i64 (wishAt s i).price, .int .i64 (wishAt s i).ship] 57)
        have hA2 := nxA (w2.alloc (.cells #[.int .i64 (wishAt s i).puz, .int .i64 (wishAt s i).many, .int .i64 (wishAt s i).hour, .int .i64 (wishAt s i).price, .int .i64 (wishAt s i).ship] 57)) (.cells #[.int .i64 (licAt s i).copies, .int .i64 (licAt s i).lo, .int .i64 (licAt s i).hi, .int .i64 (licAt s i).fee] 59)
        have K7 := Lib.hid ((K6.out.next hA).next hA2)
        have B7 := Lib.hid (B6.out.trans ((hA.trans (hA2.mono hA.size)).mono B6.out.size))
        have W7 := Lib.hid ((WBox.new (w := w2) rfl (wishAt s i) 57).next hA2)
        have hL7 := LBox.new (w := w2.alloc (.cells #[.int .i64 (wishAt s i).puz, .int .i64 (wishAt s i).many, .int .i64 (wishAt s i).hour, .int .i64 (wishAt s i).price, .int .i64 (wishAt s i).ship] 57)) rfl (licAt s i) 59
        simp only [World.size_alloc] at hL7
        have L7 := Lib.hid hL7
        have hs3 : b3 < w2.heap.size := hb3
        have hs4 : b4 < w2.heap.size := hb4
        have HZ := Lib.hid (fun (n : Nat) (hn : n ≤ s.wishes.length) => usedTo_bd Hok.out set (makeAt s i).pic.toNat hn)
        clear hA hA2 K6 B6 hL7
        go_wp2_with fail
        clear x0 x1 x2 x3 x4 y0 z0 z1 z2 z3 p0 p1 p2 p3
        generalize ((w2.alloc (.cells #[.int .i64 (wishAt s i).puz, .int .i64 (wishAt s i).many, .int .i64 (wishAt s i).hour, .int .i64 (wishAt s i).price, .int .i64 (wishAt s i).ship] 57)).alloc (.cells #[.int .i64 (licAt s i).copies, .int .i64 (licAt s i).lo, .int .i64 (licAt s i).hi, .int .i64 (licAt s i).fee] 59)) = V7 at *
        go_loopw [19, 20] (fun p k wr => R9 s set i w.heap.size w2.heap.size (w2.heap.size + 1) w p k wr) (fun _ k _ => i + 1 - (intOf k).toNat)
        case atStart => exact ⟨0, by omega, rfl, rfl, K7.out, B7.out, W7.out, L7.out⟩
        case round =>
          clear K7 B7 W7 L7
          obtain ⟨k, hk, rfl, rfl, hKK, hBB, hWW, hLL⟩ := hrel
          have KK := Lib.hid hKK
          have BB := Lib.hid hBB
          have WW := Lib.hid hWW
          have LL := Lib.hid hLL
          by_cases hki : k ≤ i
          · have hkn : k < s.wishes.length := by omega
            obtain ⟨b5, o5, e5, hb5, x0, x1, -, -, -⟩ := hKK.st.wishC hkn
            obtain ⟨b6, o6, e6, hb6, y0, -⟩ := hKK.st.makeC Hok.out hkn
            rw [E4.out] at e5
            injection e5 with e5
            injection e5 with e51 e52
            subst e51 e52
            rw [E3.out] at e6
            injection e6 with e6
            injection e6 with e61 e62
            subst e61 e62
            obtain ⟨-, -, hzz, c0, c1, c2, c3⟩ := id hKK
            rw [E4.out] at c3
            rw [E3.out] at c2
            have hkz := Hok.out.wishOk hkn
            have hz0 : 0 ≤ (wishAt s k).puz := hkz.1
            have hz1 : (wishAt s k).puz < s.makes.length := hkz.2.1
            have hzm : 1 ≤ (wishAt s k).many ∧ (wishAt s k).many ≤ 1000 := by omega
            have hpk := (Hok.out.make _ (makeAt_mem Hok.out hkn)).1
            have hub := HZ.out k (by omega)
            have hb := bit_eq set k (by omega)
            have HU := Lib.hid (show usedTo s set (k + 1) (makeAt s i).pic.toNat = usedTo s set k (makeAt s i).pic.toNat + (if has set k = true then (if (makeAt s k).pic.toNat = (makeAt s i).pic.toNat then (wishAt s k).many else 0) else 0) from rfl)
            clear hKK hBB hWW hLL hkz
            cases hh : has set k
            · have hbk : (bits BinOp.and IntKind.i64 ((set : Int) / 2 ^ k) 1 == 1) = false := by rw [hb, hh]; rfl
              clear hb
              go_wp2_with fail
              refine wp_region_noPanic ?_
              refine wp_region_held_drew (S := (fun W => W.cell? ⟨w.heap.size, 2, none⟩ = some (.slice (some ⟨b3, o3, none⟩) s.makes.length s.c3))) (by kernel_rfl) ?_ (fun hHeld => ?_)
              · (try dsimp only); exact c2
              refine htake (i := 0) (v := ?v11) rfl (by kernel_rfl) (by kernel_rfl) (by kernel_rfl) (fun _ _ _ h => h) (Or.inl ⟨by rfl, ?hy11⟩) (by assumption) ?_
              case hy11 => (intro w hSw; (try dsimp only at hSw); go_simp; try (with_reducible rfl))
              try simp only [Act.put, List.setIfInBounds_toArray, List.set_cons_zero, List.set_cons_succ]
              refine htake (i := 1) (v := ?v12) rfl (by kernel_rfl) (by kernel_rfl) (by kernel_rfl) (fun _ _ _ h => h) (Or.inl ⟨by rfl, ?hy12⟩) (by assumption) ?_
              case hy12 => (intro w hSw; (try dsimp only at hSw); go_simp; try (with_reducible rfl))
              try simp only [Act.put, List.setIfInBounds_toArray, List.set_cons_zero, List.set_cons_succ]
              refine htake (i := 2) (v := ?v13) rfl (by kernel_rfl) (by kernel_rfl) (by kernel_rfl) (fun _ _ _ h => h) (Or.inl ⟨by rfl, ?hy13⟩) (by assumption) ?_
              case hy13 => (intro w hSw; (try dsimp only at hSw); go_simp; try (with_reducible rfl))
              try simp only [Act.put, List.setIfInBounds_toArray, List.set_cons_zero, List.set_cons_succ]
              refine htake (i := 3) (v := ?v14) rfl (by kernel_rfl) (by kernel_rfl) (by kernel_rfl) (fun _ _ _ h => h) (Or.inl ⟨by rfl, ?hy14⟩) (by assumption) ?_
              case hy14 => (intro w hSw; (try dsimp only at hSw); go_simp; try (with_reducible rfl))
              try simp only [Act.put, List.setIfInBounds_toArray, List.set_cons_zero, List.set_cons_succ]
              refine htake (i := 4) (v := ?v15) rfl (by kernel_rfl) (by kernel_rfl) (by kernel_rfl) (fun _ _ _ h => h) (Or.inl ⟨by rfl, ?hy15⟩) (by assumption) ?_
              case hy15 => (intro w hSw; (try dsimp only at hSw); go_simp; try (with_reducible rfl))
              try simp only [Act.put, List.setIfInBounds_toArray, List.set_cons_zero, List.set_cons_succ]
              refine htake (i := 5) (v := ?v16) rfl (by kernel_rfl) (by kernel_rfl) (by kernel_rfl) (fun _ _ _ h => h) (Or.inl ⟨by rfl, ?hy16⟩) (by assumption) ?_
              case hy16 => (intro w hSw; (try dsimp only at hSw); go_simp; try (with_reducible rfl))
              try simp only [Act.put, List.setIfInBounds_toArray, List.set_cons_zero, List.set_cons_succ]
              refine htake (i := 6) rfl (by kernel_rfl) (by kernel_rfl) (by kernel_rfl) (fun _ _ _ h => h) (Or.inr ⟨by rfl, rfl⟩) (by assumption) ?_
              try simp only [Act.put, List.setIfInBounds_toArray, List.set_cons_zero, List.set_cons_succ]
              refine htake (i := 7) rfl (by kernel_rfl) (by kernel_rfl) (by kernel_rfl) (fun _ _ _ h => h) (Or.inr ⟨by rfl, rfl⟩) (by assumption) ?_
              try simp only [Act.put, List.setIfInBounds_toArray, List.set_cons_zero, List.set_cons_succ]
              refine htake (i := 8) rfl (by kernel_rfl) (by kernel_rfl) (by kernel_rfl) (fun _ _ _ h => h) (Or.inr ⟨by rfl, rfl⟩) (by assumption) ?_
              try simp only [Act.put, List.setIfInBounds_toArray, List.set_cons_zero, List.set_cons_succ]
              refine htake (i := 9) rfl (by kernel_rfl) (by kernel_rfl) (by kernel_rfl) (fun _ _ _ h => h) (Or.inr ⟨by rfl, rfl⟩) (by assumption) ?_
              try simp only [Act.put, List.setIfInBounds_toArray, List.set_cons_zero, List.set_cons_succ]
              refine htake (i := 10) rfl (by kernel_rfl) (by kernel_rfl) (by kernel_rfl) (fun _ _ _ h => h) (Or.inr ⟨by rfl, rfl⟩) (by assumption) ?_
              try simp only [Act.put, List.setIfInBounds_toArray, List.set_cons_zero, List.set_cons_succ]
              refine htake (i := 11) rfl (by kernel_rfl) (by kernel_rfl) (by kernel_rfl) (fun _ _ _ h => h) (Or.inr ⟨by rfl, rfl⟩) (by assumption) ?_
              try simp only [Act.put, List.setIfInBounds_toArray, List.set_cons_zero, List.set_cons_succ]
              refine htake (i := 12) rfl (by kernel_rfl) (by kernel_rfl) (by kernel_rfl) (fun _ _ _ h => h) (Or.inr ⟨by rfl, rfl⟩) (by assumption) ?_
              try simp only [Act.put, List.setIfInBounds_toArray, List.set_cons_zero, List.set_cons_succ]
              refine htake (i := 13) rfl (by kernel_rfl) (by kernel_rfl) (by kernel_rfl) (fun _ _ _ h => h) (Or.inr ⟨by rfl, rfl⟩) (by assumption) ?_
              try simp only [Act.put, List.setIfInBounds_toArray, List.set_cons_zero, List.set_cons_succ]
              refine htake (i := 14) rfl (by kernel_rfl) (by kernel_rfl) (by kernel_rfl) (fun _ _ _ h => h) (Or.inr ⟨by rfl, rfl⟩) (by assumption) ?_
              try simp only [Act.put, List.setIfInBounds_toArray, List.set_cons_zero, List.set_cons_succ]
              refine htake (i := 15) rfl (by kernel_rfl) (by kernel_rfl) (by kernel_rfl) (fun _ _ _ h => h) (Or.inr ⟨by rfl, rfl⟩) (by assumption) ?_
              try simp only [Act.put, List.setIfInBounds_toArray, List.set_cons_zero, List.set_cons_succ]
              refine htake (i := 16) rfl (by kernel_rfl) (by kernel_rfl) (by kernel_rfl) (fun _ _ _ h => h) (Or.inr ⟨by rfl, rfl⟩) (by assumption) ?_
              try simp only [Act.put, List.setIfInBounds_toArray, List.set_cons_zero, List.set_cons_succ]
              refine htake (i := 17) rfl (by kernel_rfl) (by kernel_rfl) (by kernel_rfl) (fun _ _ _ h => h) (Or.inr ⟨by rfl, rfl⟩) (by assumption) ?_
              try simp only [Act.put, List.setIfInBounds_toArray, List.set_cons_zero, List.set_cons_succ]
              refine htake (i := 18) rfl (by kernel_rfl) (by kernel_rfl) (by kernel_rfl) (fun _ _ _ h => h) (Or.inr ⟨by rfl, rfl⟩) (by assumption) ?_
              try simp only [Act.put, List.setIfInBounds_toArray, List.set_cons_zero, List.set_cons_succ]
              refine htake (i := 19) (v := ?v17) rfl (by kernel_rfl) (by kernel_rfl) (by kernel_rfl) (fun _ _ _ h => h) (Or.inl ⟨by rfl, ?hy17⟩) (by assumption) ?_
              case hy17 => (intro w hSw; (try dsimp only at hSw); go_simp; try (with_reducible rfl))
              try simp only [Act.put, List.setIfInBounds_toArray, List.set_cons_zero, List.set_cons_succ]
              refine wpAnyH_done (by kernel_rfl) ?_ _
              refine NoPanic.normal ?_
              iterate 21 (try clear hHeld)
              go_wp2
              exact ⟨⟨k + 1, by omega, by go_num, by rw [HU.out, hh]; simp, KK.out.next (Below.refl _ _).drew, BB.out.drew, WW.out.next (Below.refl _ _).drew, LL.out.next (Below.refl _ _).drew⟩, by simp [intOf]; omega⟩
            · have hbk : (bits BinOp.and IntKind.i64 ((set : Int) / 2 ^ k) 1 == 1) = true := by rw [hb, hh]; rfl
              clear hb
              go_wp2_with fail
              by_cases hpe : (makeAt s k).pic = (makeAt s i).pic
              · have hpb : ((makeAt s k).pic == (makeAt s i).pic) = true := by simpa using hpe
                have HPT := Lib.hid (show (makeAt s k).pic.toNat = (makeAt s i).pic.toNat by rw [hpe])
                clear hpe
                refine wp_region_noPanic ?_
                refine wp_region_held_drew (S := (fun W => W.cell? ⟨w.heap.size, 2, none⟩ = some (.slice (some ⟨b3, o3, none⟩) s.makes.length s.c3) ∧ W.cell? ⟨w.heap.size, 3, none⟩ = some (.slice (some ⟨b4, o4, none⟩) s.wishes.length s.c4) ∧ W.cell? ⟨b4, o4 + k * 5, none⟩ = some (.int .i64 (wishAt s k).puz) ∧ W.cell? ⟨b3, o3 + (wishAt s k).puz.toNat * 2, none⟩ = some (.int .i64 (makeAt s k).pic))) (by kernel_rfl) ?_ (fun hHeld => ?_)
                · (try dsimp only); exact ⟨c2, c3, x0, y0⟩
                refine htake (i := 0) (v := ?v18) rfl (by kernel_rfl) (by kernel_rfl) (by kernel_rfl) (fun _ _ _ h => h) (Or.inl ⟨by rfl, ?hy18⟩) (by assumption) ?_
                case hy18 => (intro w hSw; (try dsimp only at hSw); go_simp; try (with_reducible rfl))
                try simp only [Act.put, List.setIfInBounds_toArray, List.set_cons_zero, List.set_cons_succ]
                refine htake (i := 1) (v := ?v19) rfl (by kernel_rfl) (by kernel_rfl) (by kernel_rfl) (fun _ _ _ h => h) (Or.inl ⟨by rfl, ?hy19⟩) (by assumption) ?_
                case hy19 => (intro w hSw; (try dsimp only at hSw); go_simp; try (with_reducible rfl))
                try simp only [Act.put, List.setIfInBounds_toArray, List.set_cons_zero, List.set_cons_succ]
                refine htake (i := 2) (v := ?v20) rfl (by kernel_rfl) (by kernel_rfl) (by kernel_rfl) (fun _ _ _ h => h) (Or.inl ⟨by rfl, ?hy20⟩) (by assumption) ?_
                case hy20 => (intro w hSw; (try dsimp only at hSw); go_simp; try (with_reducible rfl))
                try simp only [Act.put, List.setIfInBounds_toArray, List.set_cons_zero, List.set_cons_succ]
                refine htake (i := 3) (v := ?v21) rfl (by kernel_rfl) (by kernel_rfl) (by kernel_rfl) (fun _ _ _ h => h) (Or.inl ⟨by rfl, ?hy21⟩) (by assumption) ?_
                case hy21 => (intro w hSw; (try dsimp only at hSw); go_simp; try (with_reducible rfl))
                try simp only [Act.put, List.setIfInBounds_toArray, List.set_cons_zero, List.set_cons_succ]
                refine htake (i := 4) (v := ?v22) rfl (by kernel_rfl) (by kernel_rfl) (by kernel_rfl) (fun _ _ _ h => h) (Or.inl ⟨by rfl, ?hy22⟩) (by assumption) ?_
                case hy22 => (intro w hSw; (try dsimp only at hSw); go_simp; try (with_reducible rfl))
                try simp only [Act.put, List.setIfInBounds_toArray, List.set_cons_zero, List.set_cons_succ]
                refine htake (i := 5) (v := ?v23) rfl (by kernel_rfl) (by kernel_rfl) (by kernel_rfl) (fun _ _ _ h => h) (Or.inl ⟨by rfl, ?hy23⟩) (by assumption) ?_
                case hy23 => (intro w hSw; (try dsimp only at hSw); go_simp; try (with_reducible rfl))
                try simp only [Act.put, List.setIfInBounds_toArray, List.set_cons_zero, List.set_cons_succ]
                refine htake (i := 6) (v := ?v24) rfl (by kernel_rfl) (by kernel_rfl) (by kernel_rfl) (fun _ _ _ h => h) (Or.inl ⟨by rfl, ?hy24⟩) (by assumption) ?_
                case hy24 => (intro w hSw; (try dsimp only at hSw); go_simp; try (with_reducible rfl))
                try simp only [Act.put, List.setIfInBounds_toArray, List.set_cons_zero, List.set_cons_succ]
                refine htake (i := 7) (v := ?v25) rfl (by kernel_rfl) (by kernel_rfl) (by kernel_rfl) (fun _ _ _ h => h) (Or.inl ⟨by rfl, ?hy25⟩) (by assumption) ?_
                case hy25 => (intro w hSw; (try dsimp only at hSw); go_simp; try (with_reducible rfl))
                try simp only [Act.put, List.setIfInBounds_toArray, List.set_cons_zero, List.set_cons_succ]
                refine htake (i := 8) (v := ?v26) rfl (by kernel_rfl) (by kernel_rfl) (by kernel_rfl) (fun _ _ _ h => h) (Or.inl ⟨by rfl, ?hy26⟩) (by assumption) ?_
                case hy26 => (intro w hSw; (try dsimp only at hSw); go_simp; try (with_reducible rfl))
                try simp only [Act.put, List.setIfInBounds_toArray, List.set_cons_zero, List.set_cons_succ]
                refine htake (i := 9) (v := ?v27) rfl (by kernel_rfl) (by kernel_rfl) (by kernel_rfl) (fun _ _ _ h => h) (Or.inl ⟨by rfl, ?hy27⟩) (by assumption) ?_
                case hy27 => (intro w hSw; (try dsimp only at hSw); go_simp; try (with_reducible rfl))
                try simp only [Act.put, List.setIfInBounds_toArray, List.set_cons_zero, List.set_cons_succ]
                refine htake (i := 10) (v := ?v28) rfl (by kernel_rfl) (by kernel_rfl) (by kernel_rfl) (fun _ _ _ h => h) (Or.inl ⟨by rfl, ?hy28⟩) (by assumption) ?_
                case hy28 => (intro w hSw; (try dsimp only at hSw); go_simp; try (with_reducible rfl))
                try simp only [Act.put, List.setIfInBounds_toArray, List.set_cons_zero, List.set_cons_succ]
                refine htake (i := 11) (v := ?v29) rfl (by kernel_rfl) (by kernel_rfl) (by kernel_rfl) (fun _ _ _ h => h) (Or.inl ⟨by rfl, ?hy29⟩) (by assumption) ?_
                case hy29 => (intro w hSw; (try dsimp only at hSw); go_simp; try (with_reducible rfl))
                try simp only [Act.put, List.setIfInBounds_toArray, List.set_cons_zero, List.set_cons_succ]
                refine htake (i := 12) (v := ?v30) rfl (by kernel_rfl) (by kernel_rfl) (by kernel_rfl) (fun _ _ _ h => h) (Or.inl ⟨by rfl, ?hy30⟩) (by assumption) ?_
                case hy30 => (intro w hSw; (try dsimp only at hSw); go_simp; try (with_reducible rfl))
                try simp only [Act.put, List.setIfInBounds_toArray, List.set_cons_zero, List.set_cons_succ]
                refine htake (i := 13) (v := ?v31) rfl (by kernel_rfl) (by kernel_rfl) (by kernel_rfl) (fun _ _ _ h => h) (Or.inl ⟨by rfl, ?hy31⟩) (by assumption) ?_
                case hy31 => (intro w hSw; (try dsimp only at hSw); go_simp; try (with_reducible rfl))
                try simp only [Act.put, List.setIfInBounds_toArray, List.set_cons_zero, List.set_cons_succ]
                refine htake (i := 14) (v := ?v32) rfl (by kernel_rfl) (by kernel_rfl) (by kernel_rfl) (fun _ _ _ h => h) (Or.inl ⟨by rfl, ?hy32⟩) (by assumption) ?_
                case hy32 => (intro w hSw; (try dsimp only at hSw); go_simp; try (with_reducible rfl))
                try simp only [Act.put, List.setIfInBounds_toArray, List.set_cons_zero, List.set_cons_succ]
                refine htake (i := 15) (v := ?v33) rfl (by kernel_rfl) (by kernel_rfl) (by kernel_rfl) (fun _ _ _ h => h) (Or.inl ⟨by rfl, ?hy33⟩) (by assumption) ?_
                case hy33 => (intro w hSw; (try dsimp only at hSw); go_simp; try (with_reducible rfl))
                try simp only [Act.put, List.setIfInBounds_toArray, List.set_cons_zero, List.set_cons_succ]
                refine htake (i := 16) (v := ?v34) rfl (by kernel_rfl) (by kernel_rfl) (by kernel_rfl) (fun _ _ _ h => h) (Or.inl ⟨by rfl, ?hy34⟩) (by assumption) ?_
                case hy34 => (intro w hSw; (try dsimp only at hSw); go_simp; try (with_reducible rfl))
                try simp only [Act.put, List.setIfInBounds_toArray, List.set_cons_zero, List.set_cons_succ]
                refine htake (i := 17) (v := ?v35) rfl (by kernel_rfl) (by kernel_rfl) (by kernel_rfl) (fun _ _ _ h => h) (Or.inl ⟨by rfl, ?hy35⟩) (by assumption) ?_
                case hy35 => (intro w hSw; (try dsimp only at hSw); go_simp; try (with_reducible rfl))
                try simp only [Act.put, List.setIfInBounds_toArray, List.set_cons_zero, List.set_cons_succ]
                refine htake (i := 18) (v := ?v36) rfl (by kernel_rfl) (by kernel_rfl) (by kernel_rfl) (fun _ _ _ h => h) (Or.inl ⟨by rfl, ?hy36⟩) (by assumption) ?_
                case hy36 => (intro w hSw; (try dsimp only at hSw); go_simp; try (with_reducible rfl))
                try simp only [Act.put, List.setIfInBounds_toArray, List.set_cons_zero, List.set_cons_succ]
                refine htake (i := 19) (v := ?v37) rfl (by kernel_rfl) (by kernel_rfl) (by kernel_rfl) (fun _ _ _ h => h) (Or.inl ⟨by rfl, ?hy37⟩) (by assumption) ?_
                case hy37 => (intro w hSw; (try dsimp only at hSw); go_simp; try (with_reducible rfl))
                try simp only [Act.put, List.setIfInBounds_toArray, List.set_cons_zero, List.set_cons_succ]
                refine wpAnyH_done (by kernel_rfl) ?_ _
                refine NoPanic.normal ?_
                iterate 21 (try clear hHeld)
                go_wp2
                exact ⟨⟨k + 1, by omega, by go_num, by rw [HU.out, hh, if_pos rfl, if_pos HPT.out], KK.out.next (Below.refl _ _).drew, BB.out.drew, WW.out.next (Below.refl _ _).drew, LL.out.next (Below.refl _ _).drew⟩, by simp [intOf]; omega⟩
              · have hpb : ((makeAt s k).pic == (makeAt s i).pic) = false := by simpa using hpe
                have HPT := Lib.hid (show (makeAt s k).pic.toNat ≠ (makeAt s i).pic.toNat by omega)
                clear hpe
                refine wp_region_noPanic ?_
                refine wp_region_held_drew (S := (fun W => W.cell? ⟨w.heap.size, 2, none⟩ = some (.slice (some ⟨b3, o3, none⟩) s.makes.length s.c3) ∧ W.cell? ⟨w.heap.size, 3, none⟩ = some (.slice (some ⟨b4, o4, none⟩) s.wishes.length s.c4) ∧ W.cell? ⟨b4, o4 + k * 5, none⟩ = some (.int .i64 (wishAt s k).puz) ∧ W.cell? ⟨b3, o3 + (wishAt s k).puz.toNat * 2, none⟩ = some (.int .i64 (makeAt s k).pic))) (by kernel_rfl) ?_ (fun hHeld => ?_)
                · (try dsimp only); exact ⟨c2, c3, x0, y0⟩
                refine htake (i := 0) (v := ?v38) rfl (by kernel_rfl) (by kernel_rfl) (by kernel_rfl) (fun _ _ _ h => h) (Or.inl ⟨by rfl, ?hy38⟩) (by assumption) ?_
                case hy38 => (intro w hSw; (try dsimp only at hSw); go_simp; try (with_reducible rfl))
                try simp only [Act.put, List.setIfInBounds_toArray, List.set_cons_zero, List.set_cons_succ]
                refine htake (i := 1) (v := ?v39) rfl (by kernel_rfl) (by kernel_rfl) (by kernel_rfl) (fun _ _ _ h => h) (Or.inl ⟨by rfl, ?hy39⟩) (by assumption) ?_
                case hy39 => (intro w hSw; (try dsimp only at hSw); go_simp; try (with_reducible rfl))
                try simp only [Act.put, List.setIfInBounds_toArray, List.set_cons_zero, List.set_cons_succ]
                refine htake (i := 2) (v := ?v40) rfl (by kernel_rfl) (by kernel_rfl) (by kernel_rfl) (fun _ _ _ h => h) (Or.inl ⟨by rfl, ?hy40⟩) (by assumption) ?_
                case hy40 => (intro w hSw; (try dsimp only at hSw); go_simp; try (with_reducible rfl))
                try simp only [Act.put, List.setIfInBounds_toArray, List.set_cons_zero, List.set_cons_succ]
                refine htake (i := 3) (v := ?v41) rfl (by kernel_rfl) (by kernel_rfl) (by kernel_rfl) (fun _ _ _ h => h) (Or.inl ⟨by rfl, ?hy41⟩) (by assumption) ?_
                case hy41 => (intro w hSw; (try dsimp only at hSw); go_simp; try (with_reducible rfl))
                try simp only [Act.put, List.setIfInBounds_toArray, List.set_cons_zero, List.set_cons_succ]
                refine htake (i := 4) (v := ?v42) rfl (by kernel_rfl) (by kernel_rfl) (by kernel_rfl) (fun _ _ _ h => h) (Or.inl ⟨by rfl, ?hy42⟩) (by assumption) ?_
                case hy42 => (intro w hSw; (try dsimp only at hSw); go_simp; try (with_reducible rfl))
                try simp only [Act.put, List.setIfInBounds_toArray, List.set_cons_zero, List.set_cons_succ]
                refine htake (i := 5) (v := ?v43) rfl (by kernel_rfl) (by kernel_rfl) (by kernel_rfl) (fun _ _ _ h => h) (Or.inl ⟨by rfl, ?hy43⟩) (by assumption) ?_
                case hy43 => (intro w hSw; (try dsimp only at hSw); go_simp; try (with_reducible rfl))
                try simp only [Act.put, List.setIfInBounds_toArray, List.set_cons_zero, List.set_cons_succ]
                refine htake (i := 6) (v := ?v44) rfl (by kernel_rfl) (by kernel_rfl) (by kernel_rfl) (fun _ _ _ h => h) (Or.inl ⟨by rfl, ?hy44⟩) (by assumption) ?_
                case hy44 => (intro w hSw; (try dsimp only at hSw); go_simp; try (with_reducible rfl))
                try simp only [Act.put, List.setIfInBounds_toArray, List.set_cons_zero, List.set_cons_succ]
                refine htake (i := 7) (v := ?v45) rfl (by kernel_rfl) (by kernel_rfl) (by kernel_rfl) (fun _ _ _ h => h) (Or.inl ⟨by rfl, ?hy45⟩) (by assumption) ?_
                case hy45 => (intro w hSw; (try dsimp only at hSw); go_simp; try (with_reducible rfl))
                try simp only [Act.put, List.setIfInBounds_toArray, List.set_cons_zero, List.set_cons_succ]
                refine htake (i := 8) (v := ?v46) rfl (by kernel_rfl) (by kernel_rfl) (by kernel_rfl) (fun _ _ _ h => h) (Or.inl ⟨by rfl, ?hy46⟩) (by assumption) ?_
                case hy46 => (intro w hSw; (try dsimp only at hSw); go_simp; try (with_reducible rfl))
                try simp only [Act.put, List.setIfInBounds_toArray, List.set_cons_zero, List.set_cons_succ]
                refine htake (i := 9) (v := ?v47) rfl (by kernel_rfl) (by kernel_rfl) (by kernel_rfl) (fun _ _ _ h => h) (Or.inl ⟨by rfl, ?hy47⟩) (by assumption) ?_
                case hy47 => (intro w hSw; (try dsimp only at hSw); go_simp; try (with_reducible rfl))
                try simp only [Act.put, List.setIfInBounds_toArray, List.set_cons_zero, List.set_cons_succ]
                refine htake (i := 10) (v := ?v48) rfl (by kernel_rfl) (by kernel_rfl) (by kernel_rfl) (fun _ _ _ h => h) (Or.inl ⟨by rfl, ?hy48⟩) (by assumption) ?_
                case hy48 => (intro w hSw; (try dsimp only at hSw); go_simp; try (with_reducible rfl))
                try simp only [Act.put, List.setIfInBounds_toArray, List.set_cons_zero, List.set_cons_succ]
                refine htake (i := 11) (v := ?v49) rfl (by kernel_rfl) (by kernel_rfl) (by kernel_rfl) (fun _ _ _ h => h) (Or.inl ⟨by rfl, ?hy49⟩) (by assumption) ?_
                case hy49 => (intro w hSw; (try dsimp only at hSw); go_simp; try (with_reducible rfl))
                try simp only [Act.put, List.setIfInBounds_toArray, List.set_cons_zero, List.set_cons_succ]
                refine htake (i := 12) (v := ?v50) rfl (by kernel_rfl) (by kernel_rfl) (by kernel_rfl) (fun _ _ _ h => h) (Or.inl ⟨by rfl, ?hy50⟩) (by assumption) ?_
                case hy50 => (intro w hSw; (try dsimp only at hSw); go_simp; try (with_reducible rfl))
                try simp only [Act.put, List.setIfInBounds_toArray, List.set_cons_zero, List.set_cons_succ]
                refine htake (i := 13) (v := ?v51) rfl (by kernel_rfl) (by kernel_rfl) (by kernel_rfl) (fun _ _ _ h => h) (Or.inl ⟨by rfl, ?hy51⟩) (by assumption) ?_
                case hy51 => (intro w hSw; (try dsimp only at hSw); go_simp; try (with_reducible rfl))
                try simp only [Act.put, List.setIfInBounds_toArray, List.set_cons_zero, List.set_cons_succ]
                refine htake (i := 14) (v := ?v52) rfl (by kernel_rfl) (by kernel_rfl) (by kernel_rfl) (fun _ _ _ h => h) (Or.inl ⟨by rfl, ?hy52⟩) (by assumption) ?_
                case hy52 => (intro w hSw; (try dsimp only at hSw); go_simp; try (with_reducible rfl))
                try simp only [Act.put, List.setIfInBounds_toArray, List.set_cons_zero, List.set_cons_succ]
                refine htake (i := 15) (v := ?v53) rfl (by kernel_rfl) (by kernel_rfl) (by kernel_rfl) (fun _ _ _ h => h) (Or.inl ⟨by rfl, ?hy53⟩) (by assumption) ?_
                case hy53 => (intro w hSw; (try dsimp only at hSw); go_simp; try (with_reducible rfl))
                try simp only [Act.put, List.setIfInBounds_toArray, List.set_cons_zero, List.set_cons_succ]
                refine htake (i := 16) (v := ?v54) rfl (by kernel_rfl) (by kernel_rfl) (by kernel_rfl) (fun _ _ _ h => h) (Or.inl ⟨by rfl, ?hy54⟩) (by assumption) ?_
                case hy54 => (intro w hSw; (try dsimp only at hSw); go_simp; try (with_reducible rfl))
                try simp only [Act.put, List.setIfInBounds_toArray, List.set_cons_zero, List.set_cons_succ]
                refine htake (i := 17) (v := ?v55) rfl (by kernel_rfl) (by kernel_rfl) (by kernel_rfl) (fun _ _ _ h => h) (Or.inl ⟨by rfl, ?hy55⟩) (by assumption) ?_
                case hy55 => (intro w hSw; (try dsimp only at hSw); go_simp; try (with_reducible rfl))
                try simp only [Act.put, List.setIfInBounds_toArray, List.set_cons_zero, List.set_cons_succ]
                refine htake (i := 18) (v := ?v56) rfl (by kernel_rfl) (by kernel_rfl) (by kernel_rfl) (fun _ _ _ h => h) (Or.inl ⟨by rfl, ?hy56⟩) (by assumption) ?_
                case hy56 => (intro w hSw; (try dsimp only at hSw); go_simp; try (with_reducible rfl))
                try simp only [Act.put, List.setIfInBounds_toArray, List.set_cons_zero, List.set_cons_succ]
                refine htake (i := 19) (v := ?v57) rfl (by kernel_rfl) (by kernel_rfl) (by kernel_rfl) (fun _ _ _ h => h) (Or.inl ⟨by rfl, ?hy57⟩) (by assumption) ?_
                case hy57 => (intro w hSw; (try dsimp only at hSw); go_simp; try (with_reducible rfl))
                try simp only [Act.put, List.setIfInBounds_toArray, List.set_cons_zero, List.set_cons_succ]
                refine wpAnyH_done (by kernel_rfl) ?_ _
                refine NoPanic.normal ?_
                iterate 21 (try clear hHeld)
                go_wp2
                exact ⟨⟨k + 1, by omega, by go_num, by rw [HU.out, hh, if_pos rfl, if_neg HPT.out]; simp, KK.out.next (Below.refl _ _).drew, BB.out.drew, WW.out.next (Below.refl _ _).drew, LL.out.next (Below.refl _ _).drew⟩, by simp [intOf]; omega⟩
          · obtain rfl : k = i + 1 := by omega
            obtain ⟨-, -, -, d2, -, -⟩ := id hWW
            obtain ⟨-, f0, f1, f2, -⟩ := id hLL
            generalize usedTo s set (i + 1) (makeAt s i).pic.toNat = U at *
            have HA := Lib.hid (awake_any wr KK.out.en)
            clear hKK hBB hWW hLL HB5
            by_cases h1 : (wishAt s i).hour < (licAt s i).lo
            · have d1 : decide ((wishAt s i).hour < (licAt s i).lo) = true := by simpa using h1
              clear h1 HWhy
              go_wp2_with fail
              refine HA.out.mono ?_
              rintro e V9 ⟨rfl, hb⟩
              have B9 := Lib.hid (BB.out.trans (hb.mono BB.out.size))
              clear hb
              go_wp2
              go_ret
              exact ⟨rfl, B9.out⟩
            · have d1 : decide ((wishAt s i).hour < (licAt s i).lo) = false := by simpa using h1
              by_cases h2 : (licAt s i).hi < (wishAt s i).hour
              · have d3 : decide ((licAt s i).hi < (wishAt s i).hour) = true := by simpa using h2
                clear h1 h2 HWhy
                go_wp2_with fail
                refine HA.out.mono ?_
                rintro e V9 ⟨rfl, hb⟩
                have B9 := Lib.hid (BB.out.trans (hb.mono BB.out.size))
                clear hb
                go_wp2
                go_ret
                exact ⟨rfl, B9.out⟩
              · have d3 : decide ((licAt s i).hi < (wishAt s i).hour) = false := by simpa using h2
                have d4 : decide ((licAt s i).copies < U) = true := by
                  have := HWhy.out; simp; omega
                clear h1 h2 HWhy
                go_wp2_with fail
                refine HA.out.mono ?_
                rintro e V9 ⟨rfl, hb⟩
                have B9 := Lib.hid (BB.out.trans (hb.mono BB.out.size))
                clear hb
                go_wp2
                go_ret
                exact ⟨rfl, B9.out⟩
      · have href : refusedS s set < 0 := by omega
        have ha : acceptedS s (set : Int) = 0 := (accepted_zero ok hlt).2 href
        have hm : mayS s (set : Int) = 0 := may_zero ha
        have HA := Lib.hid (May16_any s (set : Int) V2 K2.out.st K2.out.en)
        rw [ha, hm] at HA
        have hand : bits .and .i64 (set : Int) (q : Int) = ((set &&& q : Nat) : Int) := i64_and set q (by omega) (by omega)
        have ha2 : acceptedS s ((set &&& q : Nat) : Int) = 0 := (accepted_zero ok (part_lt hlt)).2 (part_ok ok q href)
        have hm2 := may_zero ha2
        have HB := Lib.hid (fun (W : World) (h1 : StoreAt W W.heap.size s) (h2 : Env W) => (show Calls Tryd.prog 16 #[.agg #[.slice s.A1 s.sheets.length s.c1, .slice s.A2 s.lics.length s.c2, .slice s.A3 s.makes.length s.c3, .slice s.A4 s.wishes.length s.c4], .int .i64 ((set &&& q : Nat) : Int)] W (Ret2 (.int .i64 0) (.int .i64 0) W) from by
          have := May16_any s ((set &&& q : Nat) : Int) W h1 h2; rw [hm2, ha2] at this; exact this))
        clear ok hP2 ha hm ha2 hm2 hrf href h1 h0 hlt hp9
        generalize set &&& q = y at *
        go_wp2_with fail
        refine (HA.out).mono ?_
        rintro e V3 ⟨rfl, hb⟩
        have K3 := Lib.hid (K2.out.next hb)
        have B3 := Lib.hid (B2.out.trans (hb.mono B2.out.size))
        clear hb K2 B2 p0 p1 p2 p3
        obtain ⟨-, -, -, p0, p1, p2, p3⟩ := id K3.out
        go_wp2_with fail
        clear HA
        refine (Store_any s V3 K3.out.st).mono ?_
        rintro e V4 ⟨rfl, hb⟩
        have K4 := Lib.hid (K3.out.next hb)
        have B4 := Lib.hid (B3.out.trans (hb.mono B3.out.size))
        clear hb K3 B3 p0 p1 p2 p3
        obtain ⟨-, -, -, p0, p1, p2, p3⟩ := id K4.out
        go_wp2_with fail
        refine (HB.out V4 K4.out.st K4.out.en).mono ?_
        rintro e V5 ⟨rfl, hb⟩
        have K5 := Lib.hid (K4.out.next hb)
        have B5 := Lib.hid (B4.out.trans (hb.mono B4.out.size))
        clear hb K4 B4 p0 p1 p2 p3
        obtain ⟨-, -, -, p0, p1, p2, p3⟩ := id K5.out
        go_wp2_with fail
        refine (awake_any V5 K5.out.en).mono ?_
        rintro e V6 ⟨rfl, hb⟩
        have B6 := Lib.hid (B5.out.trans (hb.mono B5.out.size))
        clear hb K5 B5
        go_wp2
        go_ret
        exact ⟨rfl, B6.out⟩
  · go_wp2_with fail
    refine (awake_any V2 K2.out.en).mono ?_
    rintro e V3 ⟨rfl, hb⟩
    have HB3 := Lib.hid (B2.out.trans (hb.mono B2.out.size))
    clear hb
    go_wp2
    go_ret
    exact ⟨rfl, HB3.out⟩
end Go.Proofs.YtfffhbolaimmdaaDoor
