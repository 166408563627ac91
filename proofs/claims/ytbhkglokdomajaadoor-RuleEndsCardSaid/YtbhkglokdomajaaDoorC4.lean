import Derived.Test.YtbhkglokdomajaaDoorC1
namespace Go.Proofs.YtbhkglokdomajaaDoor
open Go.RowKit
/-! The law RuleEnds. -/
set_option maxRecDepth 100000 in
set_option maxHeartbeats 400000 in
theorem offc_any (d : Die) (k x lo hi : Int) (bd bk : Nat) (W : World) (hd : DieAt W W.heap.size d) (hx : Bx W bd (dieL d)) (hk : Bx W bk [.int .i64 k]) (he : offS d k x = ((lo, hi), 0)) :
    Calls Tryd.prog 34 #[.int .i64 x, .pointer (some ⟨bd, 0, none⟩), .pointer (some ⟨bk, 0, none⟩)] W (Ret (.agg #[.int .i64 lo, .int .i64 hi]) W) := by
  have hA := nxA W (.cells #[.int .i64 0, .int .i64 0] 28)
  have D0 := Lib.hid (hd.next hA)
  have X0 := Lib.hid (hx.next hA)
  have K0 := Lib.hid (hk.next hA)
  have B0 := Lib.hid hA
  have Z0 := Lib.hid (Bx.new W #[.int .i64 0, .int .i64 0] 28)
  have HE := Lib.hid he
  clear hA hd hx hk he
  go_enter Tryd.func34, Tryd.ntmps34
  go_upto_region 1 with fail
  generalize W.alloc (.cells #[.int .i64 0, .int .i64 0] 28) = V at *
  have p0 := X0.out.c 0 _ rfl
  have p1 := X0.out.c 1 _ rfl
  have p2 := X0.out.c 2 _ rfl
  have p3 := X0.out.c 3 _ rfl
  have k0 := K0.out.c 0 _ rfl
  go_wp2_with fail
  have hcon := Off_any d k x V D0.out
  rw [HE.out] at hcon
  refine hcon.mono ?_
  rintro e V2 ⟨rfl, hb⟩
  dsimp only [retSpan]
  have hA := hb.alloc hb.size (.cells #[.int .i64 lo, .int .i64 hi] 28)
  have B2 := Lib.hid (B0.out.trans (hA.mono B0.out.size))
  have Z2 := Lib.hid (Z0.out.next hA)
  clear hcon p0 p1 p2 p3 k0 hb hA
  have S0 := Lib.hid (Bx.new V2 #[.int .i64 lo, .int .i64 hi] 28)
  go_upto_region 2 with fail
  generalize V2.alloc (.cells #[.int .i64 lo, .int .i64 hi] 28) = V3 at *
  have s0 := S0.out.c 0 _ rfl
  have s1 := S0.out.c 1 _ rfl
  have z0 := Z2.out.c 0 _ rfl
  have z1 := Z2.out.c 1 _ rfl
  have f0 := Z2.out.fr 0
  have f1 := Z2.out.fr 1
  go_wp2_with fail
  refine bodyPost_ret (results_cell1 rfl rfl (loadS (Z2.out.setAll [.int .i64 lo, .int .i64 hi] rfl))) rfl ?_
  exact ⟨rfl, below_setCells (b := W.heap.size) (Nat.le_refl _) [.int .i64 lo, .int .i64 hi] 0 B2.out⟩
theorem offS_ok {d : Die} (hd : dieS d = true) {n : Nat} (hn : n < d.blades.length) {x : Int} (h0 : 0 ≤ x) (h1 : x ≤ 7000) : offS d n x = ((offLo (bladeAt d n) x, worstS (bladeAt d n) x), 0) := by
  unfold offS
  rw [if_neg (by rw [hd]; simp), if_neg (by unfold inS; simp; omega)]; rfl
theorem off_mono {b : Blade} (h : OkB b) {x y : Int} (_hx : 0 ≤ x) (hxy : x ≤ y) : offLo b x ≤ offLo b y ∧ worstS b x ≤ worstS b y := by
  have g1 := Int.mul_le_mul_of_nonneg_left hxy h.w.1
  have g2 := Int.mul_le_mul_of_nonneg_left hxy (by have := h.w; omega : 0 ≤ b.wh)
  unfold offLo worstS
  omega
theorem off_pos {b : Blade} (h : OkB b) {x : Int} (h0 : 0 ≤ x) (h1 : x ≤ 7000) : 0 ≤ offLo b x ∧ offLo b x ≤ 80000000 ∧ 0 ≤ worstS b x ∧ worstS b x ≤ 80000000 := by
  have g := h.off_bd h0 h1
  have g2 := h.f
  unfold offLo worstS
  omega
theorem lasts_le {fl fh wl wh b : Int} (h1 : 0 ≤ wl) (h2 : wl ≤ wh) (h3 : fl ≤ fh) (h4 : fh ≤ b) : lastsN fh wh b ≤ lastsN fl wl b := by
  have a1 := lastsN_bd (by omega : 0 ≤ wh) h4
  have a2 := lastsN_bd h1 (by omega : fl ≤ b)
  have s1 := lastsN_spec (by omega : 0 ≤ wh) h4
  have s2 := lastsN_spec h1 (by omega : fl ≤ b)
  generalize lastsN fh wh b = x at *
  generalize lastsN fl wl b = y at *
  rcases Int.lt_or_le y x with h | h
  · exfalso
    have g1 := Int.mul_le_mul_of_nonneg_left (by omega : y + 1 ≤ x) h1
    have g2 := Int.mul_le_mul_of_nonneg_right h2 (by omega : 0 ≤ x)
    omega
  · exact h
theorem span_fld0 (x y : Value) (W : World) : (Instr.field 28 (.agg #[x, y]) 0).run Tryd.prog W = .ok x W := by kernel_rfl
theorem span_fld1 (x y : Value) (W : World) : (Instr.field 28 (.agg #[x, y]) 1).run Tryd.prog W = .ok y W := by kernel_rfl
/-- What the law's walk carries besides: the blade's number in a box. -/
structure LwE (d : Die) (k : Int) (bs : Nat) (W : World) : Prop where
  da : DieAt W W.heap.size d
  en : Env W
  bx : Bx W bs (dieL d)
  kx : Bx W (bs + 1) [.int .i64 k]
theorem LwE.next {d : Die} {k : Int} {bs : Nat} {W W' : World} (h : LwE d k bs W) (hb : Below W.heap.size W W') : LwE d k bs W' := ⟨h.da.next hb, h.en.next hb, h.bx.next hb, h.kx.next hb⟩
set_option maxRecDepth 100000 in
set_option maxHeartbeats 4000000 in
theorem RuleEnds_walk (d : Die) (k x b by_ : Int) (w : World) (hd : DieAt w w.heap.size d) (hby : (Lit.int .u16 by_).wf = true) (he : Env w) : Calls Tryd.prog 7 #[.agg #[.slice d.A d.blades.length d.c, .int .i64 d.bound, .int .i64 d.stop, .int .i64 d.bend], .int .i64 k, .int .i64 x, .int .i64 b, .int .u16 by_] w (Ret (.bool true) w) := by
  have hby0 : 0 ≤ by_ ∧ by_ < 65536 := by simp [Lit.wf, IntKind.min, IntKind.max, IntKind.bits, IntKind.signed] at hby; omega
  have K := Lib.hid (show LwE d k w.heap.size ((w.alloc (.cells #[.slice d.A d.blades.length d.c, .int .i64 d.bound, .int .i64 d.stop, .int .i64 d.bend] 24)).alloc (.cells #[.int .i64 k] 3)) from ⟨(hd.next (nxA _ _)).next (nxA _ _), (he.next (nxA _ _)).next (nxA _ _), (Bx.new w #[.slice d.A d.blades.length d.c, .int .i64 d.bound, .int .i64 d.stop, .int .i64 d.bend] 24).next (nxA _ _), by
    have := Bx.new (w.alloc (.cells #[.slice d.A d.blades.length d.c, .int .i64 d.bound, .int .i64 d.stop, .int .i64 d.bend] 24)) #[.int .i64 k] 3
    rw [World.size_alloc] at this
    exact this⟩)
  have HB := Lib.hid ((nxA w (.cells #[.slice d.A d.blades.length d.c, .int .i64 d.bound, .int .i64 d.stop, .int .i64 d.bend] 24)).trans ((nxA (w.alloc (.cells #[.slice d.A d.blades.length d.c, .int .i64 d.bound, .int .i64 d.stop, .int .i64 d.bend] 24)) (.cells #[.int .i64 k] 3)).mono (by simp)))
  have HDw := Lib.hid hd
  clear hd he hby
  go_enter Tryd.func7, Tryd.ntmps7
  go_wp2_with fail
  generalize ((w.alloc (.cells #[.slice d.A d.blades.length d.c, .int .i64 d.bound, .int .i64 d.stop, .int .i64 d.bend] 24)).alloc (.cells #[.int .i64 k] 3)) = V1 at *
  have p0 := K.out.bx.c 0 _ rfl
  have p1 := K.out.bx.c 1 _ rfl
  have p2 := K.out.bx.c 2 _ rfl
  have p3 := K.out.bx.c 3 _ rfl
  go_wp2_with fail
  refine (far_any d none none 0 0 0 0 V1).mono ?_
  rintro e V2 ⟨bf, rfl, hb⟩
  replace K := Lib.hid (K.out.next hb)
  replace HB := Lib.hid (HB.out.trans (hb.mono HB.out.size))
  clear hb p0 p1 p2 p3
  cases bf
  rotate_left
  · go_wp2_with fail
    refine (awake_any V2 K.out.en).mono ?_
    rintro e V99 ⟨rfl, hb⟩
    go_wp2_with fail
    go_ret
    exact ⟨rfl, HB.out.trans (hb.mono HB.out.size)⟩
  · skip
    have p0 := K.out.bx.c 0 _ rfl
    have p1 := K.out.bx.c 1 _ rfl
    have p2 := K.out.bx.c 2 _ rfl
    have p3 := K.out.bx.c 3 _ rfl
    have k0 := K.out.kx.c 0 _ rfl
    go_wp2_with fail
    by_cases herr : dieS d = false ∨ (inS k 0 (d.blades.length - 1) = false ∨ inS x 0 7000 = false)
    · obtain ⟨eo, heo, hoff, hdb⟩ : ∃ eo : Int, (eo = 1 ∧ dieS d = false ∨ eo = 2 ∧ dieS d = true) ∧ offS d k x = ((0, 0), eo) ∧ (dieS d = false ∨ dieS d = true) := by
        unfold offS
        cases hds : dieS d
        · exact ⟨1, .inl ⟨rfl, rfl⟩, rfl, .inl rfl⟩
        · rw [hds] at herr
          exact ⟨2, .inr ⟨rfl, rfl⟩, by rw [if_neg (by simp), if_pos (by simpa using herr)], .inr rfl⟩
      clear hdb
      have hcon := Off_any d k x V2 K.out.da
      rw [hoff] at hcon
      clear herr hoff
      refine (hcon).mono ?_
      rintro e V3 ⟨rfl, hb⟩
      replace K := Lib.hid (K.out.next hb)
      replace HB := Lib.hid (HB.out.trans (hb.mono HB.out.size))
      clear hb p0 p1 p2 p3 k0 hcon
      dsimp only [retSpan]
      have hA := nxA V3 (.cells #[.int .i64 0, .int .i64 0] 28)
      replace K := Lib.hid (K.out.next hA)
      replace HB := Lib.hid (HB.out.trans (hA.mono HB.out.size))
      have S1 := Lib.hid (Bx.new V3 #[.int .i64 0, .int .i64 0] 28)
      clear hA
      go_upto_region 4 with fail
      generalize (V3.alloc (.cells #[.int .i64 0, .int .i64 0] 28)) = V4 at *
      generalize V3.heap.size = b1 at *
      have hq1 := fun W => span_eql 0 0 0 0 W
      simp only [beq_self_eq_true, Bool.and_self] at hq1
      have s0 := S1.out.c 0 _ rfl
      have s1 := S1.out.c 1 _ rfl
      have p0 := K.out.bx.c 0 _ rfl
      have p1 := K.out.bx.c 1 _ rfl
      have p2 := K.out.bx.c 2 _ rfl
      have p3 := K.out.bx.c 3 _ rfl
      rcases heo with ⟨rfl, hds⟩ | ⟨rfl, hds⟩
      · go_wp2_with fail
        refine (Die_any d V4 K.out.da).mono ?_
        rintro e V5 ⟨rfl, hb⟩
        replace S1 := Lib.hid (S1.out.next hb)
        replace K := Lib.hid (K.out.next hb)
        replace HB := Lib.hid (HB.out.trans (hb.mono HB.out.size))
        clear hb p0 p1 p2 p3 s0 s1
        rw [hds]
        go_wp2_with fail
        refine (awake_any V5 K.out.en).mono ?_
        rintro e V99 ⟨rfl, hb⟩
        go_wp2_with fail
        go_ret
        exact ⟨rfl, HB.out.trans (hb.mono HB.out.size)⟩
      · go_wp2_with fail
        refine (Die_any d V4 K.out.da).mono ?_
        rintro e V5 ⟨rfl, hb⟩
        replace S1 := Lib.hid (S1.out.next hb)
        replace K := Lib.hid (K.out.next hb)
        replace HB := Lib.hid (HB.out.trans (hb.mono HB.out.size))
        clear hb p0 p1 p2 p3 s0 s1
        rw [hds]
        go_wp2_with fail
        refine (awake_any V5 K.out.en).mono ?_
        rintro e V99 ⟨rfl, hb⟩
        go_wp2_with fail
        go_ret
        exact ⟨rfl, HB.out.trans (hb.mono HB.out.size)⟩
    · have hds : dieS d = true := by cases h : dieS d with | false => exact absurd (.inl h) herr | true => rfl
      have hk0 : inS k 0 (d.blades.length - 1) = true := by cases h : inS k 0 (d.blades.length - 1) with | false => exact absurd (.inr (.inl h)) herr | true => rfl
      have hx0 : inS x 0 7000 = true := by cases h : inS x 0 7000 with | false => exact absurd (.inr (.inr h)) herr | true => rfl
      have ok := (okd_iff d).1 hds
      have hk1 : 0 ≤ k ∧ k < d.blades.length := by have := ok.nb; simp [inS] at hk0; omega
      have hx1 : 0 ≤ x ∧ x ≤ 7000 := by simpa [inS] using hx0
      obtain ⟨n, rfl⟩ : ∃ n : Nat, k = (n : Int) := ⟨k.toNat, by omega⟩
      have hn : n < d.blades.length := by omega
      clear herr hk0 hx0 hk1
      have okb := ok.at hn
      have HOF := Lib.hid (fun y h0 h1 => offS_ok (x := y) hds hn h0 h1)
      have HPO := Lib.hid (fun y h0 h1 => off_pos okb (x := y) h0 h1)
      have HMO := Lib.hid (fun x y h0 h1 => off_mono okb (x := x) (y := y) h0 h1)
      have HBD := Lib.hid (fun y h0 h1 => okb.off_bd (x := y) h0 h1)
      have HOK := Lib.hid ok
      have HOB := Lib.hid okb
      have HLS := Lib.hid (show lastsS d n b = if inS b 0 200000 = false then ((0, 0), 2) else if b < (bladeAt d n).fh then ((0, 0), 4) else ((lastsN (bladeAt d n).fh (bladeAt d n).wh b, lastsN (bladeAt d n).fl (bladeAt d n).wl b), 0) from by
        unfold lastsS
        rw [if_neg (by rw [hds]; simp)]
        by_cases hi : inS b 0 200000 = false
        · rw [if_pos (.inr hi), if_pos hi]
        · rw [if_neg (by rintro (h | h); · (have : inS (n : Int) 0 (d.blades.length - 1) = true := by (unfold inS; simp; omega)); rw [this] at h; cases h
                         · exact hi h), if_neg hi]; rfl)
      have hcon := Off_any d n x V2 K.out.da
      rw [HOF.out x hx1.1 hx1.2] at hcon
      obtain ⟨lo, hlo⟩ : ∃ lo, lo = offLo (bladeAt d n) x := ⟨_, rfl⟩
      obtain ⟨hi, hhi⟩ : ∃ hi, hi = worstS (bladeAt d n) x := ⟨_, rfl⟩
      rw [← hlo, ← hhi] at hcon
      have HLO := Lib.hid hlo
      have HHI := Lib.hid hhi
      have hlob := HPO.out x hx1.1 hx1.2
      rw [← hlo, ← hhi] at hlob
      clear hlo hhi okb ok
      refine (hcon).mono ?_
      rintro e V3 ⟨rfl, hb⟩
      replace K := Lib.hid (K.out.next hb)
      replace HB := Lib.hid (HB.out.trans (hb.mono HB.out.size))
      clear hb p0 p1 p2 p3 k0 hcon
      dsimp only [retSpan]
      have hA := nxA V3 (.cells #[.int .i64 lo, .int .i64 hi] 28)
      replace K := Lib.hid (K.out.next hA)
      replace HB := Lib.hid (HB.out.trans (hA.mono HB.out.size))
      have S1 := Lib.hid (Bx.new V3 #[.int .i64 lo, .int .i64 hi] 28)
      clear hA
      go_upto_region 4 with fail
      generalize (V3.alloc (.cells #[.int .i64 lo, .int .i64 hi] 28)) = V4 at *
      generalize V3.heap.size = b1 at *
      have p0 := K.out.bx.c 0 _ rfl
      have p1 := K.out.bx.c 1 _ rfl
      have p2 := K.out.bx.c 2 _ rfl
      have p3 := K.out.bx.c 3 _ rfl
      have k0 := K.out.kx.c 0 _ rfl
      go_wp2_with fail
      have hnb := HOK.out.nb
      refine (Die_any d V4 K.out.da).mono ?_
      rintro e V5 ⟨rfl, hb⟩
      replace S1 := Lib.hid (S1.out.next hb)
      replace K := Lib.hid (K.out.next hb)
      replace HB := Lib.hid (HB.out.trans (hb.mono HB.out.size))
      clear hb p0 p1 p2 p3 k0
      rw [hds]
      have p0 := K.out.bx.c 0 _ rfl
      have p1 := K.out.bx.c 1 _ rfl
      have p2 := K.out.bx.c 2 _ rfl
      have p3 := K.out.bx.c 3 _ rfl
      have k0 := K.out.kx.c 0 _ rfl
      obtain ⟨bb, ob, eA, hbk, g0, g1, g2, g3⟩ := K.out.da.at hn
      rw [eA] at p0
      have EA := Lib.hid eA
      have hnI : (n : Int) < d.blades.length := by omega
      have OBL := Lib.hid (show ∀ x, offLo (bladeAt d n) x = (bladeAt d n).fl + (bladeAt d n).wl * x from fun _ => rfl)
      have OBH := Lib.hid (show ∀ x, worstS (bladeAt d n) x = (bladeAt d n).fh + (bladeAt d n).wh * x from fun _ => rfl)
      obtain ⟨⟨hf1, hf2, hf3⟩, hw1, hw2, hw3⟩ := HOB.out
      go_upto_region 10 with fail
      clear hbk g0 g1 g2 g3 eA p0 p1 p2 p3 k0
      have hA := nxA V5 (.cells #[.int .i64 (bladeAt d n).fl, .int .i64 (bladeAt d n).fh, .int .i64 (bladeAt d n).wl, .int .i64 (bladeAt d n).wh] 53)
      replace S1 := Lib.hid (S1.out.next hA)
      replace K := Lib.hid (K.out.next hA)
      replace HB := Lib.hid (HB.out.trans (hA.mono HB.out.size))
      have SB := Lib.hid (Bx.new V5 #[.int .i64 (bladeAt d n).fl, .int .i64 (bladeAt d n).fh, .int .i64 (bladeAt d n).wl, .int .i64 (bladeAt d n).wh] 53)
      clear hA
      generalize (V5.alloc (.cells #[.int .i64 (bladeAt d n).fl, .int .i64 (bladeAt d n).fh, .int .i64 (bladeAt d n).wl, .int .i64 (bladeAt d n).wh] 53)) = V6 at *
      generalize V5.heap.size = b2 at *
      obtain ⟨m, rfl⟩ : ∃ m : Nat, by_ = (m : Int) := ⟨by_.toNat, by omega⟩
      have p0 := K.out.bx.c 0 _ rfl
      have p1 := K.out.bx.c 1 _ rfl
      have p2 := K.out.bx.c 2 _ rfl
      have p3 := K.out.bx.c 3 _ rfl
      have k0 := K.out.kx.c 0 _ rfl
      have elo := HLO.out
      have ehi := HHI.out
      rw [OBL.out] at elo
      rw [OBH.out] at ehi
      subst elo ehi
      have hbx := HBD.out x hx1.1 hx1.2
      clear HLO HHI HPO HMO HOB
      go_wp2_with fail
      · skip
        have hy0 : 0 ≤ (x + (m : Int) % 50) ∧ (x + (m : Int) % 50) ≤ 7000 ∧ x ≤ (x + (m : Int) % 50) := by omega
        have hmo := off_mono (HOK.out.at hn) hx1.1 hy0.2.2
        have hcon := Off_any d n (x + (m : Int) % 50) V6 K.out.da
        rw [HOF.out (x + (m : Int) % 50) hy0.1 hy0.2.1] at hcon
        rw [OBL.out x, OBH.out x] at hmo
        generalize offLo (bladeAt d n) (x + (m : Int) % 50) = lo2 at *
        generalize worstS (bladeAt d n) (x + (m : Int) % 50) = hi2 at *
        refine (hcon).mono ?_
        rintro e V7 ⟨rfl, hb⟩
        replace S1 := Lib.hid (S1.out.next hb)
        replace SB := Lib.hid (SB.out.next hb)
        replace K := Lib.hid (K.out.next hb)
        replace HB := Lib.hid (HB.out.trans (hb.mono HB.out.size))
        clear hb p0 p1 p2 p3 k0 hcon
        dsimp only [retSpan]
        have hA := nxA V7 (.cells #[.int .i64 lo2, .int .i64 hi2] 28)
        replace S1 := Lib.hid (S1.out.next hA)
        replace SB := Lib.hid (SB.out.next hA)
        replace K := Lib.hid (K.out.next hA)
        replace HB := Lib.hid (HB.out.trans (hA.mono HB.out.size))
        have S2 := Lib.hid (Bx.new V7 #[.int .i64 lo2, .int .i64 hi2] 28)
        clear hA
        go_upto_region 11 with fail
        generalize (V7.alloc (.cells #[.int .i64 lo2, .int .i64 hi2] 28)) = V8 at *
        generalize V7.heap.size = b3 at *
        have s0 := S1.out.c 0 _ rfl
        have s1 := S1.out.c 1 _ rfl
        have s2 := S2.out.c 0 _ rfl
        have s3 := S2.out.c 1 _ rfl
        have u0 := SB.out.c 0 _ rfl
        have u1 := SB.out.c 1 _ rfl
        have u2 := SB.out.c 2 _ rfl
        have u3 := SB.out.c 3 _ rfl
        have p0 := K.out.bx.c 0 _ rfl
        have p1 := K.out.bx.c 1 _ rfl
        have p2 := K.out.bx.c 2 _ rfl
        have p3 := K.out.bx.c 3 _ rfl
        have k0 := K.out.kx.c 0 _ rfl
        have hbl := HOK.out.at hn
        obtain ⟨fl, hfl⟩ : ∃ z, z = (bladeAt d n).fl := ⟨_, rfl⟩
        obtain ⟨fh, hfh⟩ : ∃ z, z = (bladeAt d n).fh := ⟨_, rfl⟩
        obtain ⟨wl, hwl⟩ : ∃ z, z = (bladeAt d n).wl := ⟨_, rfl⟩
        obtain ⟨wh, hwh⟩ : ∃ z, z = (bladeAt d n).wh := ⟨_, rfl⟩
        simp only [← hfl, ← hfh, ← hwl, ← hwh] at s0 s1 u0 u1 u2 u3 hmo hbx OBL OBH HLS hf1 hf2 hf3 hw1 hw2 hw3 S1 SB HBD ⊢
        clear hfl hfh hwl hwh hbl HBD
        obtain ⟨p, hp⟩ : ∃ p, wl * x = p := ⟨_, rfl⟩
        obtain ⟨q, hq⟩ : ∃ q, wh * x = q := ⟨_, rfl⟩
        rw [hp, hq] at hmo hbx
        simp only [hp, hq] at s0 s1 S1 ⊢
        have n1 : decide (lo2 < fl + p) = false := decide_eq_false (by omega)
        have n2 : decide (hi2 < fh + q) = false := decide_eq_false (by omega)
        go_upto_region 13 with fail
        have p0 := K.out.bx.c 0 _ rfl
        have p1 := K.out.bx.c 1 _ rfl
        have p2 := K.out.bx.c 2 _ rfl
        have p3 := K.out.bx.c 3 _ rfl
        have k0 := K.out.kx.c 0 _ rfl
        go_wp2_with fail
        have hcon := Lasts_any d n b V8 K.out.da
        rw [HLS.out] at hcon
        clear s0 s1 s2 s3 u0 u1 u2 u3 n1 n2 S1 S2
        by_cases hin : inS b 0 200000 = false
        · rw [if_pos hin] at hcon
          have hbo : b < 0 ∨ (¬ b < 0 ∧ 200000 < b) := by simp [inS] at hin; omega
          refine (hcon).mono ?_
          rintro e V9 ⟨rfl, hb⟩
          replace SB := Lib.hid (SB.out.next hb)
          replace K := Lib.hid (K.out.next hb)
          replace HB := Lib.hid (HB.out.trans (hb.mono HB.out.size))
          clear hb p0 p1 p2 p3 k0 hcon
          dsimp only [retSpan]
          have hA := nxA V9 (.cells #[.int .i64 0, .int .i64 0] 28)
          replace SB := Lib.hid (SB.out.next hA)
          replace K := Lib.hid (K.out.next hA)
          replace HB := Lib.hid (HB.out.trans (hA.mono HB.out.size))
          have S3 := Lib.hid (Bx.new V9 #[.int .i64 0, .int .i64 0] 28)
          clear hA
          go_upto_region 14 with fail
          generalize (V9.alloc (.cells #[.int .i64 0, .int .i64 0] 28)) = V10 at *
          generalize V9.heap.size = b4 at *
          have hq1 := fun W => span_eql 0 0 0 0 W
          simp only [beq_self_eq_true, Bool.and_self] at hq1
          have s0 := S3.out.c 0 _ rfl
          have s1 := S3.out.c 1 _ rfl
          have u1 := SB.out.c 1 _ rfl
          clear hin HLS
          rcases hbo with hbo | ⟨hbo, hbo2⟩
          · go_wp2_with fail
            refine (awake_any V10 K.out.en).mono ?_
            rintro e V99 ⟨rfl, hb⟩
            go_wp2_with fail
            go_ret
            exact ⟨rfl, HB.out.trans (hb.mono HB.out.size)⟩
          · go_wp2_with fail
            refine (awake_any V10 K.out.en).mono ?_
            rintro e V99 ⟨rfl, hb⟩
            go_wp2_with fail
            go_ret
            exact ⟨rfl, HB.out.trans (hb.mono HB.out.size)⟩
        · rw [if_neg hin] at hcon
          have hbo : 0 ≤ b ∧ b ≤ 200000 := by
            have h : inS b 0 200000 = true := by simpa using hin
            simpa [inS] using h
          by_cases hbf : b < fh
          · rw [if_pos hbf] at hcon
            refine (hcon).mono ?_
            rintro e V9 ⟨rfl, hb⟩
            replace SB := Lib.hid (SB.out.next hb)
            replace K := Lib.hid (K.out.next hb)
            replace HB := Lib.hid (HB.out.trans (hb.mono HB.out.size))
            clear hb p0 p1 p2 p3 k0 hcon
            dsimp only [retSpan]
            have hA := nxA V9 (.cells #[.int .i64 0, .int .i64 0] 28)
            replace SB := Lib.hid (SB.out.next hA)
            replace K := Lib.hid (K.out.next hA)
            replace HB := Lib.hid (HB.out.trans (hA.mono HB.out.size))
            have S3 := Lib.hid (Bx.new V9 #[.int .i64 0, .int .i64 0] 28)
            clear hA
            go_upto_region 14 with fail
            generalize (V9.alloc (.cells #[.int .i64 0, .int .i64 0] 28)) = V10 at *
            generalize V9.heap.size = b4 at *
            have hq1 := fun W => span_eql 0 0 0 0 W
            simp only [beq_self_eq_true, Bool.and_self] at hq1
            have s0 := S3.out.c 0 _ rfl
            have s1 := S3.out.c 1 _ rfl
            have u1 := SB.out.c 1 _ rfl
            have hb1 : ¬ b < 0 := by omega
            have hb2 : ¬ 200000 < b := by omega
            clear hin HLS
            go_wp2_with fail
            refine (awake_any V10 K.out.en).mono ?_
            rintro e V99 ⟨rfl, hb⟩
            go_wp2_with fail
            go_ret
            exact ⟨rfl, HB.out.trans (hb.mono HB.out.size)⟩
          · rw [if_neg hbf] at hcon
            have hfb : fh ≤ b := by omega
            have e1 := lastsN_bd (by omega : 0 ≤ wh) hfb
            have e2 := lastsN_bd hw1 (by omega : fl ≤ b)
            have e3 := lastsN_spec (by omega : 0 ≤ wh) hfb
            have e4 := lastsN_spec hw1 (by omega : fl ≤ b)
            have e5 := lasts_le hw1 hw2 hf2 hfb
            generalize lastsN fh wh b = tl at *
            generalize lastsN fl wl b = th at *
            clear hin HLS hbf
            refine (hcon).mono ?_
            rintro e V9 ⟨rfl, hb⟩
            replace SB := Lib.hid (SB.out.next hb)
            replace K := Lib.hid (K.out.next hb)
            replace HB := Lib.hid (HB.out.trans (hb.mono HB.out.size))
            clear hb p0 p1 p2 p3 k0 hcon
            dsimp only [retSpan]
            have hA := nxA V9 (.cells #[.int .i64 tl, .int .i64 th] 28)
            replace SB := Lib.hid (SB.out.next hA)
            replace K := Lib.hid (K.out.next hA)
            replace HB := Lib.hid (HB.out.trans (hA.mono HB.out.size))
            have S3 := Lib.hid (Bx.new V9 #[.int .i64 tl, .int .i64 th] 28)
            clear hA
            go_upto_region 14 with fail
            generalize (V9.alloc (.cells #[.int .i64 tl, .int .i64 th] 28)) = V10 at *
            generalize V9.heap.size = b4 at *
            have s0 := S3.out.c 0 _ rfl
            have s1 := S3.out.c 1 _ rfl
            have n1 : decide (tl < 0) = false := decide_eq_false (by omega)
            have n2 : decide (th < tl) = false := decide_eq_false (by omega)
            have n3 : decide (7000 < th) = false := decide_eq_false (by omega)
            obtain ⟨a0, a1, ho1, g1, g2⟩ : ∃ a0 a1, offS d n tl = ((a0, a1), 0) ∧ 0 ≤ a1 ∧ a1 ≤ b := ⟨_, _, HOF.out tl (by omega) (by omega), (off_pos (HOK.out.at hn) (x := tl) (by omega) (by omega)).2.2.1, by rw [OBH.out]; exact e3.1⟩
            obtain ⟨c0, c1, ho2, g3, g4⟩ : ∃ c0 c1, offS d n th = ((c0, c1), 0) ∧ 0 ≤ c0 ∧ c0 ≤ b := ⟨_, _, HOF.out th (by omega) (by omega), (off_pos (HOK.out.at hn) (x := th) (by omega) (by omega)).1, by rw [OBL.out]; exact e4.1⟩
            have ht3 : tl = 7000 ∨ (tl < 7000 ∧ ∃ z0 z1, offS d n (tl + 1) = ((z0, z1), 0) ∧ b < z1) := by
              rcases e3.2 with h | h
              · exact .inl h
              · by_cases h7 : tl = 7000
                · exact .inl h7
                · exact .inr ⟨by omega, _, _, HOF.out (tl + 1) (by omega) (by omega), by rw [OBH.out]; exact h⟩
            have ht4 : th = 7000 ∨ (th < 7000 ∧ ∃ z0 z1, offS d n (th + 1) = ((z0, z1), 0) ∧ b < z0) := by
              rcases e4.2 with h | h
              · exact .inl h
              · by_cases h7 : th = 7000
                · exact .inl h7
                · exact .inr ⟨by omega, _, _, HOF.out (th + 1) (by omega) (by omega), by rw [OBL.out]; exact h⟩
            have HO1 := Lib.hid ho1
            have HO2 := Lib.hid ho2
            clear ho1 ho2 e3 e4 hbx hmo
            have m1 : decide (b < a1) = false := decide_eq_false (by omega)
            have m2 : decide (b < c0) = false := decide_eq_false (by omega)
            have m3 : decide (a1 < 0) = false := decide_eq_false (by omega)
            have m4 : decide (c0 < 0) = false := decide_eq_false (by omega)
            have fd0 := fun x y W => span_fld0 x y W
            have fd1 := fun x y W => span_fld1 x y W
            go_wp2_with fail
            refine (offc_any d n tl a0 a1 _ _ V10 K.out.da K.out.bx K.out.kx HO1.out).mono ?_
            rintro e V11 ⟨rfl, hb⟩
            replace SB := Lib.hid (SB.out.next hb)
            replace S3 := Lib.hid (S3.out.next hb)
            replace K := Lib.hid (K.out.next hb)
            replace HB := Lib.hid (HB.out.trans (hb.mono HB.out.size))
            clear hb s0 s1
            have s0 := S3.out.c 0 _ rfl
            have s1 := S3.out.c 1 _ rfl
            go_wp2_with fail
            refine (offc_any d n th c0 c1 _ _ V11 K.out.da K.out.bx K.out.kx HO2.out).mono ?_
            rintro e V12 ⟨rfl, hb⟩
            replace SB := Lib.hid (SB.out.next hb)
            replace S3 := Lib.hid (S3.out.next hb)
            replace K := Lib.hid (K.out.next hb)
            replace HB := Lib.hid (HB.out.trans (hb.mono HB.out.size))
            clear hb s0 s1
            have s0 := S3.out.c 0 _ rfl
            have s1 := S3.out.c 1 _ rfl
            go_wp2_with fail
            refine (offc_any d n tl a0 a1 _ _ V12 K.out.da K.out.bx K.out.kx HO1.out).mono ?_
            rintro e V13 ⟨rfl, hb⟩
            replace SB := Lib.hid (SB.out.next hb)
            replace S3 := Lib.hid (S3.out.next hb)
            replace K := Lib.hid (K.out.next hb)
            replace HB := Lib.hid (HB.out.trans (hb.mono HB.out.size))
            clear hb s0 s1
            have s0 := S3.out.c 0 _ rfl
            have s1 := S3.out.c 1 _ rfl
            go_wp2_with fail
            refine (offc_any d n th c0 c1 _ _ V13 K.out.da K.out.bx K.out.kx HO2.out).mono ?_
            rintro e V14 ⟨rfl, hb⟩
            replace SB := Lib.hid (SB.out.next hb)
            replace S3 := Lib.hid (S3.out.next hb)
            replace K := Lib.hid (K.out.next hb)
            replace HB := Lib.hid (HB.out.trans (hb.mono HB.out.size))
            clear hb s0 s1
            have s0 := S3.out.c 0 _ rfl
            have s1 := S3.out.c 1 _ rfl
            clear HO1 HO2
            rcases ht3 with h7 | ⟨h7, y0, y1, hz, hzb⟩
            · skip
              rcases ht4 with h8 | ⟨h8, v0, v1, hv, hvb⟩
              · skip
                go_wp2_with fail
                refine (awake_any V14 K.out.en).mono ?_
                rintro e V99 ⟨rfl, hb⟩
                go_wp2_with fail
                go_ret
                exact ⟨rfl, HB.out.trans (hb.mono HB.out.size)⟩
              · exfalso; omega
            · skip
              have hne : ¬ tl = 7000 := by omega
              have HZ := Lib.hid hz
              have dz : decide (b < y1) = true := decide_eq_true hzb
              clear hz
              rcases ht4 with h8 | ⟨h8, v0, v1, hv, hvb⟩
              · skip
                go_wp2_with fail
                refine (offc_any d n (tl + 1) y0 y1 _ _ V14 K.out.da K.out.bx K.out.kx HZ.out).mono ?_
                rintro e V15 ⟨rfl, hb⟩
                replace SB := Lib.hid (SB.out.next hb)
                replace S3 := Lib.hid (S3.out.next hb)
                replace K := Lib.hid (K.out.next hb)
                replace HB := Lib.hid (HB.out.trans (hb.mono HB.out.size))
                clear hb s0 s1
                have s0 := S3.out.c 0 _ rfl
                have s1 := S3.out.c 1 _ rfl
                go_wp2_with fail
                refine (awake_any V15 K.out.en).mono ?_
                rintro e V99 ⟨rfl, hb⟩
                go_wp2_with fail
                go_ret
                exact ⟨rfl, HB.out.trans (hb.mono HB.out.size)⟩
              · skip
                have hne2 : ¬ th = 7000 := by omega
                have HV := Lib.hid hv
                have dv : decide (b < v0) = true := decide_eq_true hvb
                clear hv
                go_wp2_with fail
                refine (offc_any d n (tl + 1) y0 y1 _ _ V14 K.out.da K.out.bx K.out.kx HZ.out).mono ?_
                rintro e V15 ⟨rfl, hb⟩
                replace SB := Lib.hid (SB.out.next hb)
                replace S3 := Lib.hid (S3.out.next hb)
                replace K := Lib.hid (K.out.next hb)
                replace HB := Lib.hid (HB.out.trans (hb.mono HB.out.size))
                clear hb s0 s1
                have s0 := S3.out.c 0 _ rfl
                have s1 := S3.out.c 1 _ rfl
                go_wp2_with fail
                refine (offc_any d n (th + 1) v0 v1 _ _ V15 K.out.da K.out.bx K.out.kx HV.out).mono ?_
                rintro e V16 ⟨rfl, hb⟩
                replace SB := Lib.hid (SB.out.next hb)
                replace S3 := Lib.hid (S3.out.next hb)
                replace K := Lib.hid (K.out.next hb)
                replace HB := Lib.hid (HB.out.trans (hb.mono HB.out.size))
                clear hb s0 s1
                have s0 := S3.out.c 0 _ rfl
                have s1 := S3.out.c 1 _ rfl
                go_wp2_with fail
                refine (awake_any V16 K.out.en).mono ?_
                rintro e V99 ⟨rfl, hb⟩
                go_wp2_with fail
                go_ret
                exact ⟨rfl, HB.out.trans (hb.mono HB.out.size)⟩
      · skip
        have hy0 : 0 ≤ (7000 : Int) ∧ (7000 : Int) ≤ 7000 ∧ x ≤ (7000 : Int) := by omega
        have hmo := off_mono (HOK.out.at hn) hx1.1 hy0.2.2
        have hcon := Off_any d n (7000 : Int) V6 K.out.da
        rw [HOF.out (7000 : Int) hy0.1 hy0.2.1] at hcon
        rw [OBL.out x, OBH.out x] at hmo
        generalize offLo (bladeAt d n) (7000 : Int) = lo2 at *
        generalize worstS (bladeAt d n) (7000 : Int) = hi2 at *
        refine (hcon).mono ?_
        rintro e V7 ⟨rfl, hb⟩
        replace S1 := Lib.hid (S1.out.next hb)
        replace SB := Lib.hid (SB.out.next hb)
        replace K := Lib.hid (K.out.next hb)
        replace HB := Lib.hid (HB.out.trans (hb.mono HB.out.size))
        clear hb p0 p1 p2 p3 k0 hcon
        dsimp only [retSpan]
        have hA := nxA V7 (.cells #[.int .i64 lo2, .int .i64 hi2] 28)
        replace S1 := Lib.hid (S1.out.next hA)
        replace SB := Lib.hid (SB.out.next hA)
        replace K := Lib.hid (K.out.next hA)
        replace HB := Lib.hid (HB.out.trans (hA.mono HB.out.size))
        have S2 := Lib.hid (Bx.new V7 #[.int .i64 lo2, .int .i64 hi2] 28)
        clear hA
        go_upto_region 11 with fail
        generalize (V7.alloc (.cells #[.int .i64 lo2, .int .i64 hi2] 28)) = V8 at *
        generalize V7.heap.size = b3 at *
        have s0 := S1.out.c 0 _ rfl
        have s1 := S1.out.c 1 _ rfl
        have s2 := S2.out.c 0 _ rfl
        have s3 := S2.out.c 1 _ rfl
        have u0 := SB.out.c 0 _ rfl
        have u1 := SB.out.c 1 _ rfl
        have u2 := SB.out.c 2 _ rfl
        have u3 := SB.out.c 3 _ rfl
        have p0 := K.out.bx.c 0 _ rfl
        have p1 := K.out.bx.c 1 _ rfl
        have p2 := K.out.bx.c 2 _ rfl
        have p3 := K.out.bx.c 3 _ rfl
        have k0 := K.out.kx.c 0 _ rfl
        have hbl := HOK.out.at hn
        obtain ⟨fl, hfl⟩ : ∃ z, z = (bladeAt d n).fl := ⟨_, rfl⟩
        obtain ⟨fh, hfh⟩ : ∃ z, z = (bladeAt d n).fh := ⟨_, rfl⟩
        obtain ⟨wl, hwl⟩ : ∃ z, z = (bladeAt d n).wl := ⟨_, rfl⟩
        obtain ⟨wh, hwh⟩ : ∃ z, z = (bladeAt d n).wh := ⟨_, rfl⟩
        simp only [← hfl, ← hfh, ← hwl, ← hwh] at s0 s1 u0 u1 u2 u3 hmo hbx OBL OBH HLS hf1 hf2 hf3 hw1 hw2 hw3 S1 SB HBD ⊢
        clear hfl hfh hwl hwh hbl HBD
        obtain ⟨p, hp⟩ : ∃ p, wl * x = p := ⟨_, rfl⟩
        obtain ⟨q, hq⟩ : ∃ q, wh * x = q := ⟨_, rfl⟩
        rw [hp, hq] at hmo hbx
        simp only [hp, hq] at s0 s1 S1 ⊢
        have n1 : decide (lo2 < fl + p) = false := decide_eq_false (by omega)
        have n2 : decide (hi2 < fh + q) = false := decide_eq_false (by omega)
        go_upto_region 13 with fail
        have p0 := K.out.bx.c 0 _ rfl
        have p1 := K.out.bx.c 1 _ rfl
        have p2 := K.out.bx.c 2 _ rfl
        have p3 := K.out.bx.c 3 _ rfl
        have k0 := K.out.kx.c 0 _ rfl
        go_wp2_with fail
        have hcon := Lasts_any d n b V8 K.out.da
        rw [HLS.out] at hcon
        clear s0 s1 s2 s3 u0 u1 u2 u3 n1 n2 S1 S2
        by_cases hin : inS b 0 200000 = false
        · rw [if_pos hin] at hcon
          have hbo : b < 0 ∨ (¬ b < 0 ∧ 200000 < b) := by simp [inS] at hin; omega
          refine (hcon).mono ?_
          rintro e V9 ⟨rfl, hb⟩
          replace SB := Lib.hid (SB.out.next hb)
          replace K := Lib.hid (K.out.next hb)
          replace HB := Lib.hid (HB.out.trans (hb.mono HB.out.size))
          clear hb p0 p1 p2 p3 k0 hcon
          dsimp only [retSpan]
          have hA := nxA V9 (.cells #[.int .i64 0, .int .i64 0] 28)
          replace SB := Lib.hid (SB.out.next hA)
          replace K := Lib.hid (K.out.next hA)
          replace HB := Lib.hid (HB.out.trans (hA.mono HB.out.size))
          have S3 := Lib.hid (Bx.new V9 #[.int .i64 0, .int .i64 0] 28)
          clear hA
          go_upto_region 14 with fail
          generalize (V9.alloc (.cells #[.int .i64 0, .int .i64 0] 28)) = V10 at *
          generalize V9.heap.size = b4 at *
          have hq1 := fun W => span_eql 0 0 0 0 W
          simp only [beq_self_eq_true, Bool.and_self] at hq1
          have s0 := S3.out.c 0 _ rfl
          have s1 := S3.out.c 1 _ rfl
          have u1 := SB.out.c 1 _ rfl
          clear hin HLS
          rcases hbo with hbo | ⟨hbo, hbo2⟩
          · go_wp2_with fail
            refine (awake_any V10 K.out.en).mono ?_
            rintro e V99 ⟨rfl, hb⟩
            go_wp2_with fail
            go_ret
            exact ⟨rfl, HB.out.trans (hb.mono HB.out.size)⟩
          · go_wp2_with fail
            refine (awake_any V10 K.out.en).mono ?_
            rintro e V99 ⟨rfl, hb⟩
            go_wp2_with fail
            go_ret
            exact ⟨rfl, HB.out.trans (hb.mono HB.out.size)⟩
        · rw [if_neg hin] at hcon
          have hbo : 0 ≤ b ∧ b ≤ 200000 := by
            have h : inS b 0 200000 = true := by simpa using hin
            simpa [inS] using h
          by_cases hbf : b < fh
          · rw [if_pos hbf] at hcon
            refine (hcon).mono ?_
            rintro e V9 ⟨rfl, hb⟩
            replace SB := Lib.hid (SB.out.next hb)
            replace K := Lib.hid (K.out.next hb)
            replace HB := Lib.hid (HB.out.trans (hb.mono HB.out.size))
            clear hb p0 p1 p2 p3 k0 hcon
            dsimp only [retSpan]
            have hA := nxA V9 (.cells #[.int .i64 0, .int .i64 0] 28)
            replace SB := Lib.hid (SB.out.next hA)
            replace K := Lib.hid (K.out.next hA)
            replace HB := Lib.hid (HB.out.trans (hA.mono HB.out.size))
            have S3 := Lib.hid (Bx.new V9 #[.int .i64 0, .int .i64 0] 28)
            clear hA
            go_upto_region 14 with fail
            generalize (V9.alloc (.cells #[.int .i64 0, .int .i64 0] 28)) = V10 at *
            generalize V9.heap.size = b4 at *
            have hq1 := fun W => span_eql 0 0 0 0 W
            simp only [beq_self_eq_true, Bool.and_self] at hq1
            have s0 := S3.out.c 0 _ rfl
            have s1 := S3.out.c 1 _ rfl
            have u1 := SB.out.c 1 _ rfl
            have hb1 : ¬ b < 0 := by omega
            have hb2 : ¬ 200000 < b := by omega
            clear hin HLS
            go_wp2_with fail
            refine (awake_any V10 K.out.en).mono ?_
            rintro e V99 ⟨rfl, hb⟩
            go_wp2_with fail
            go_ret
            exact ⟨rfl, HB.out.trans (hb.mono HB.out.size)⟩
          · rw [if_neg hbf] at hcon
            have hfb : fh ≤ b := by omega
            have e1 := lastsN_bd (by omega : 0 ≤ wh) hfb
            have e2 := lastsN_bd hw1 (by omega : fl ≤ b)
            have e3 := lastsN_spec (by omega : 0 ≤ wh) hfb
            have e4 := lastsN_spec hw1 (by omega : fl ≤ b)
            have e5 := lasts_le hw1 hw2 hf2 hfb
            generalize lastsN fh wh b = tl at *
            generalize lastsN fl wl b = th at *
            clear hin HLS hbf
            refine (hcon).mono ?_
            rintro e V9 ⟨rfl, hb⟩
            replace SB := Lib.hid (SB.out.next hb)
            replace K := Lib.hid (K.out.next hb)
            replace HB := Lib.hid (HB.out.trans (hb.mono HB.out.size))
            clear hb p0 p1 p2 p3 k0 hcon
            dsimp only [retSpan]
            have hA := nxA V9 (.cells #[.int .i64 tl, .int .i64 th] 28)
            replace SB := Lib.hid (SB.out.next hA)
            replace K := Lib.hid (K.out.next hA)
            replace HB := Lib.hid (HB.out.trans (hA.mono HB.out.size))
            have S3 := Lib.hid (Bx.new V9 #[.int .i64 tl, .int .i64 th] 28)
            clear hA
            go_upto_region 14 with fail
            generalize (V9.alloc (.cells #[.int .i64 tl, .int .i64 th] 28)) = V10 at *
            generalize V9.heap.size = b4 at *
            have s0 := S3.out.c 0 _ rfl
            have s1 := S3.out.c 1 _ rfl
            have n1 : decide (tl < 0) = false := decide_eq_false (by omega)
            have n2 : decide (th < tl) = false := decide_eq_false (by omega)
            have n3 : decide (7000 < th) = false := decide_eq_false (by omega)
            obtain ⟨a0, a1, ho1, g1, g2⟩ : ∃ a0 a1, offS d n tl = ((a0, a1), 0) ∧ 0 ≤ a1 ∧ a1 ≤ b := ⟨_, _, HOF.out tl (by omega) (by omega), (off_pos (HOK.out.at hn) (x := tl) (by omega) (by omega)).2.2.1, by rw [OBH.out]; exact e3.1⟩
            obtain ⟨c0, c1, ho2, g3, g4⟩ : ∃ c0 c1, offS d n th = ((c0, c1), 0) ∧ 0 ≤ c0 ∧ c0 ≤ b := ⟨_, _, HOF.out th (by omega) (by omega), (off_pos (HOK.out.at hn) (x := th) (by omega) (by omega)).1, by rw [OBL.out]; exact e4.1⟩
            have ht3 : tl = 7000 ∨ (tl < 7000 ∧ ∃ z0 z1, offS d n (tl + 1) = ((z0, z1), 0) ∧ b < z1) := by
              rcases e3.2 with h | h
              · exact .inl h
              · by_cases h7 : tl = 7000
                · exact .inl h7
                · exact .inr ⟨by omega, _, _, HOF.out (tl + 1) (by omega) (by omega), by rw [OBH.out]; exact h⟩
            have ht4 : th = 7000 ∨ (th < 7000 ∧ ∃ z0 z1, offS d n (th + 1) = ((z0, z1), 0) ∧ b < z0) := by
              rcases e4.2 with h | h
              · exact .inl h
              · by_cases h7 : th = 7000
                · exact .inl h7
                · exact .inr ⟨by omega, _, _, HOF.out (th + 1) (by omega) (by omega), by rw [OBL.out]; exact h⟩
            have HO1 := Lib.hid ho1
            have HO2 := Lib.hid ho2
            clear ho1 ho2 e3 e4 hbx hmo
            have m1 : decide (b < a1) = false := decide_eq_false (by omega)
            have m2 : decide (b < c0) = false := decide_eq_false (by omega)
            have m3 : decide (a1 < 0) = false := decide_eq_false (by omega)
            have m4 : decide (c0 < 0) = false := decide_eq_false (by omega)
            have fd0 := fun x y W => span_fld0 x y W
            have fd1 := fun x y W => span_fld1 x y W
            go_wp2_with fail
            refine (offc_any d n tl a0 a1 _ _ V10 K.out.da K.out.bx K.out.kx HO1.out).mono ?_
            rintro e V11 ⟨rfl, hb⟩
            replace SB := Lib.hid (SB.out.next hb)
            replace S3 := Lib.hid (S3.out.next hb)
            replace K := Lib.hid (K.out.next hb)
            replace HB := Lib.hid (HB.out.trans (hb.mono HB.out.size))
            clear hb s0 s1
            have s0 := S3.out.c 0 _ rfl
            have s1 := S3.out.c 1 _ rfl
            go_wp2_with fail
            refine (offc_any d n th c0 c1 _ _ V11 K.out.da K.out.bx K.out.kx HO2.out).mono ?_
            rintro e V12 ⟨rfl, hb⟩
            replace SB := Lib.hid (SB.out.next hb)
            replace S3 := Lib.hid (S3.out.next hb)
            replace K := Lib.hid (K.out.next hb)
            replace HB := Lib.hid (HB.out.trans (hb.mono HB.out.size))
            clear hb s0 s1
            have s0 := S3.out.c 0 _ rfl
            have s1 := S3.out.c 1 _ rfl
            go_wp2_with fail
            refine (offc_any d n tl a0 a1 _ _ V12 K.out.da K.out.bx K.out.kx HO1.out).mono ?_
            rintro e V13 ⟨rfl, hb⟩
            replace SB := Lib.hid (SB.out.next hb)
            replace S3 := Lib.hid (S3.out.next hb)
            replace K := Lib.hid (K.out.next hb)
            replace HB := Lib.hid (HB.out.trans (hb.mono HB.out.size))
            clear hb s0 s1
            have s0 := S3.out.c 0 _ rfl
            have s1 := S3.out.c 1 _ rfl
            go_wp2_with fail
            refine (offc_any d n th c0 c1 _ _ V13 K.out.da K.out.bx K.out.kx HO2.out).mono ?_
            rintro e V14 ⟨rfl, hb⟩
            replace SB := Lib.hid (SB.out.next hb)
            replace S3 := Lib.hid (S3.out.next hb)
            replace K := Lib.hid (K.out.next hb)
            replace HB := Lib.hid (HB.out.trans (hb.mono HB.out.size))
            clear hb s0 s1
            have s0 := S3.out.c 0 _ rfl
            have s1 := S3.out.c 1 _ rfl
            clear HO1 HO2
            rcases ht3 with h7 | ⟨h7, y0, y1, hz, hzb⟩
            · skip
              rcases ht4 with h8 | ⟨h8, v0, v1, hv, hvb⟩
              · skip
                go_wp2_with fail
                refine (awake_any V14 K.out.en).mono ?_
                rintro e V99 ⟨rfl, hb⟩
                go_wp2_with fail
                go_ret
                exact ⟨rfl, HB.out.trans (hb.mono HB.out.size)⟩
              · exfalso; omega
            · skip
              have hne : ¬ tl = 7000 := by omega
              have HZ := Lib.hid hz
              have dz : decide (b < y1) = true := decide_eq_true hzb
              clear hz
              rcases ht4 with h8 | ⟨h8, v0, v1, hv, hvb⟩
              · skip
                go_wp2_with fail
                refine (offc_any d n (tl + 1) y0 y1 _ _ V14 K.out.da K.out.bx K.out.kx HZ.out).mono ?_
                rintro e V15 ⟨rfl, hb⟩
                replace SB := Lib.hid (SB.out.next hb)
                replace S3 := Lib.hid (S3.out.next hb)
                replace K := Lib.hid (K.out.next hb)
                replace HB := Lib.hid (HB.out.trans (hb.mono HB.out.size))
                clear hb s0 s1
                have s0 := S3.out.c 0 _ rfl
                have s1 := S3.out.c 1 _ rfl
                go_wp2_with fail
                refine (awake_any V15 K.out.en).mono ?_
                rintro e V99 ⟨rfl, hb⟩
                go_wp2_with fail
                go_ret
                exact ⟨rfl, HB.out.trans (hb.mono HB.out.size)⟩
              · skip
                have hne2 : ¬ th = 7000 := by omega
                have HV := Lib.hid hv
                have dv : decide (b < v0) = true := decide_eq_true hvb
                clear hv
                go_wp2_with fail
                refine (offc_any d n (tl + 1) y0 y1 _ _ V14 K.out.da K.out.bx K.out.kx HZ.out).mono ?_
                rintro e V15 ⟨rfl, hb⟩
                replace SB := Lib.hid (SB.out.next hb)
                replace S3 := Lib.hid (S3.out.next hb)
                replace K := Lib.hid (K.out.next hb)
                replace HB := Lib.hid (HB.out.trans (hb.mono HB.out.size))
                clear hb s0 s1
                have s0 := S3.out.c 0 _ rfl
                have s1 := S3.out.c 1 _ rfl
                go_wp2_with fail
                refine (offc_any d n (th + 1) v0 v1 _ _ V15 K.out.da K.out.bx K.out.kx HV.out).mono ?_
                rintro e V16 ⟨rfl, hb⟩
                replace SB := Lib.hid (SB.out.next hb)
                replace S3 := Lib.hid (S3.out.next hb)
                replace K := Lib.hid (K.out.next hb)
                replace HB := Lib.hid (HB.out.trans (hb.mono HB.out.size))
                clear hb s0 s1
                have s0 := S3.out.c 0 _ rfl
                have s1 := S3.out.c 1 _ rfl
                go_wp2_with fail
                refine (awake_any V16 K.out.en).mono ?_
                rintro e V99 ⟨rfl, hb⟩
                go_wp2_with fail
                go_ret
                exact ⟨rfl, HB.out.trans (hb.mono HB.out.size)⟩
end Go.Proofs.YtbhkglokdomajaaDoor
