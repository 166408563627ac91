import Derived.Test.YtbhkglokdomajaaDoorR12
import Derived.Test.YtbhkglokdomajaaDoorLaws5
import Derived.Test.YtbhkglokdomajaaDoorP16
namespace Go.Proofs.YtbhkglokdomajaaDoor
open Go.RowKit
/-! The reference: Plan. -/
theorem row_at {W : World} {x : Value} {p : List Nat} (h : RowAt W x p) : ∃ A c, x = .slice A p.length c ∧ At W W.heap.size 1 icell A (p.map Int.ofNat) := by
  rcases h with ⟨rfl, rfl⟩ | ⟨-, b, c, cur, fr, rfl, hh, hc⟩
  · exact ⟨none, 0, rfl, At.nil⟩
  · refine ⟨some ⟨b, 0, none⟩, c, rfl, fun k x hx => ?_⟩
    rw [List.getElem?_map] at hx
    cases hk : p[k]? with
    | none => rw [hk] at hx; cases hx
    | some z =>
      rw [hk] at hx
      injection hx with hx
      subst hx
      have hkl := (List.getElem?_eq_some_iff.1 hk).1
      refine ⟨b, 0, rfl, (Array.getElem?_eq_some_iff.1 hh).1, fun j u hu => ?_⟩
      match j, hu with
      | 0, hu =>
        cases hu
        rw [show 0 + k * 1 + 0 = k by omega, hc k hkl, List.getD_eq_getElem?_getD, hk]; rfl
theorem cost_row {d : Die} (ok : OkD d) {p : List Nat} (h32 : ∀ s ∈ p, s < 32) (hl : p.length ≤ 7) {W : World} {A3 : Option Addr} {c3 : Nat} (h : At W W.heap.size 1 icell A3 (p.map Int.ofNat)) : Calls Tryd.prog 31 #[.agg #[.slice d.A d.blades.length d.c, .int .i64 d.bound, .int .i64 d.stop, .int .i64 d.bend], .slice A3 p.length c3] W (Ret (.int .i64 (costP d p)) W) := by
  have := Cost_any d A3 c3 (p.map Int.ofNat) W ok (fun s hs => by
    obtain ⟨z, hz, rfl⟩ := List.mem_map.1 hs
    exact ⟨Int.natCast_nonneg _, h32 z hz⟩) (by rw [List.length_map]; exact hl) h
  rw [toNat_map, List.length_map] at this
  have e : costP d p = sumN (costS d.stop d.bend) p := by
    show costS d.stop d.bend 0 + sumN (costS d.stop d.bend) p = _
    rw [show costS d.stop d.bend 0 = 0 from rfl]; omega
  rw [e]
  exact this
def RPlan (d : Die) (l : List Stint) (L : List (List Nat)) (U : World) (b i : Value) (W : World) : Prop := ∃ (q : Nat) (bi : Int), q ≤ L.length ∧ i = .int .i64 (q : Nat) ∧ b = .int .i64 bi ∧ BestIs d l L q bi ∧ Below U.heap.size U W
set_option maxRecDepth 100000 in
set_option maxHeartbeats 2000000 in
theorem refPlan_any (d : Die) (A : Option Addr) (c : Nat) (l : List Stint) (w : World) (hd : DieAt w w.heap.size d) (hr : At w w.heap.size 2 Stint.cells A l) (hl : l.length ≤ 9223372036854775807) :
    Calls Tryd.prog 26 #[.agg #[.slice d.A d.blades.length d.c, .int .i64 d.bound, .int .i64 d.stop, .int .i64 d.bend], .slice A l.length c] w (RetPl (planS d l) w) := by
  have hb0 := nxA w (.cells #[.slice d.A d.blades.length d.c, .int .i64 d.bound, .int .i64 d.stop, .int .i64 d.bend] 24)
  have B0 := Lib.hid hb0
  have D0 := Lib.hid (hd.next hb0)
  have S0 := Lib.hid (hr.next hb0)
  have X0 := Lib.hid (Bx.new w #[.slice d.A d.blades.length d.c, .int .i64 d.bound, .int .i64 d.stop, .int .i64 d.bend] 24)
  have HL := Lib.hid hl
  clear hd hr hb0 hl
  go_enter Tryd.func26, Tryd.ntmps26
  go_upto_region 1 with fail
  generalize w.alloc (.cells #[.slice d.A d.blades.length d.c, .int .i64 d.bound, .int .i64 d.stop, .int .i64 d.bend] 24) = V at *
  have p0 := X0.out.c 0 _ rfl
  have p1 := X0.out.c 1 _ rfl
  have p2 := X0.out.c 2 _ rfl
  have p3 := X0.out.c 3 _ rfl
  go_wp2_with fail
  refine (check_any d A c l V D0.out S0.out HL.out).mono ?_
  rintro e V1 ⟨rfl, hb⟩
  replace B0 := Lib.hid (B0.out.trans (hb.mono B0.out.size))
  replace D0 := Lib.hid (D0.out.next hb)
  replace S0 := Lib.hid (S0.out.next hb)
  replace X0 := Lib.hid (X0.out.next hb)
  clear hb p0 p1 p2 p3
  by_cases hch : checkS d l = 0
  · have HCH := Lib.hid hch
    rw [hch]
    have hdl := check_zero.1 hch
    have OK := Lib.hid ((okd_iff d).1 hdl.1)
    have OKL := Lib.hid ((okl_iff l).1 hdl.2)
    have hnl := OKL.out.nl
    have hnb := OK.out.nb
    clear hch hdl
    have p0 := X0.out.c 0 _ rfl
    have p1 := X0.out.c 1 _ rfl
    have p2 := X0.out.c 2 _ rfl
    have p3 := X0.out.c 3 _ rfl
    obtain ⟨M, hM⟩ : ∃ M, M = 2 ^ d.blades.length := ⟨_, rfl⟩
    have hM32 : M ≤ 32 := by rw [hM]; exact (Nat.pow_le_pow_right (by omega) hnb.2 : 2 ^ d.blades.length ≤ 2 ^ 5)
    have hM1 : 1 ≤ M := by rw [hM]; exact Nat.pow_pos (by omega)
    have hpw : powI d.blades.length = (M : Int) := by rw [hM]; rfl
    have HPW := Lib.hid (fun W => power_any d.blades.length (by omega) W)
    rw [hpw] at HPW
    obtain ⟨many, hmn⟩ : ∃ many, many = l.length - 1 := ⟨_, rfl⟩
    have hmp : M ^ many ≤ 1073741824 := Nat.le_trans (Nat.pow_le_pow_left hM32 many) (by rw [hmn]; exact (Nat.pow_le_pow_right (by omega) (by omega) : 32 ^ (l.length - 1) ≤ 32 ^ 6))
    have HPL := Lib.hid (fun W => plans_any many M hM32 (by omega) V1.heap.size many [] (.slice none 0 0) (.slice none 0 0) 0 [] W (by simp) (by simp) (.inl ⟨rfl, rfl⟩) (World.ownsRow_nil _ _ _ _))
    have HPR := Lib.hid (fun (bi : Int) h => plan_ref (d := d) (l := l) HCH.out (b := bi) h)
    rw [← hM, ← hmn] at HPR
    have HM := Lib.hid hM
    have HMN := Lib.hid hmn
    by_cases h1 : 1 < (l.length : Int)
    · have hmI : (l.length : Int) - 1 = (many : Int) := by omega
      clear hM hmn hpw
      go_wp2_with (go_at_call 57; (with_reducible refine (HPW.out _).mono ?_); rintro e w' ⟨rfl, rfl⟩)
      refine (HPL.out V1 (Nat.le_refl _) (by rw [Nat.zero_add]; exact hmp)).mono ?_
      rintro e U ⟨v8, ys, rfl, hown, hrows, hgr⟩
      have hbU : Below V1.heap.size V1 U := (Below.refl V1.heap.size V1).grown hgr.g (Nat.le_refl _) (fun k hk => by cases hk)
      obtain ⟨L, hL⟩ : ∃ L, L = plansS (List.replicate many M) := ⟨_, rfl⟩
      have hext : extS M many [] = L := by rw [hL]; unfold extS; simp
      rw [hext] at hrows
      rw [← hL] at HPR
      have hlen : L.length = M ^ many := by rw [← hext]; exact ext_len _ _ _
      have hpos : 1 ≤ M ^ many := Nat.pow_pos hM1
      have hnum : ∀ p ∈ L, p.length = many ∧ ∀ s ∈ p, s < M := by
        intro p hp
        rw [hL] at hp
        obtain ⟨g1, g2⟩ := (mem_plans _ _).1 hp
        rw [List.length_replicate] at g1 g2
        refine ⟨g1, fun s hs => ?_⟩
        obtain ⟨i, hi, rfl⟩ := List.mem_iff_getElem.1 hs
        have := g2 i (by omega)
        rw [List.getD_eq_getElem?_getD, List.getElem?_eq_getElem hi, List.getD_eq_getElem?_getD, List.getElem?_replicate, if_pos (by omega)] at this
        exact this
      rw [List.nil_append, Nat.zero_add, ← hlen] at hown
      obtain ⟨g, cap, rfl, hgb, hgz⟩ := hown.form (by omega)
      have HOW := Lib.hid hown
      have HRW := Lib.hid hrows
      have HNU := Lib.hid hnum
      have BU := Lib.hid (B0.out.trans (hbU.mono B0.out.size))
      have DU := Lib.hid (D0.out.next hbU)
      have SU := Lib.hid (S0.out.next hbU)
      have XU := Lib.hid (X0.out.next hbU)
      have hNb : L.length ≤ 1073741824 := by omega
      clear hlen hown hrows hgr hbU hext hL hnum p0 p1 p2 p3 HPL B0 D0 S0 X0 HPW hpos hmp
      go_wp2_with fail
      go_loopw [9, 10] (fun b i wr => RPlan d l L U b i wr) (fun _ i _ => L.length - (intOf i).toNat)
      case atStart => exact ⟨0, -1, by omega, rfl, rfl, best_start _ _ _, Below.refl _ _⟩
      case round =>
        obtain ⟨q, bi, hq, rfl, rfl, hbest, hbl⟩ := hrel
        by_cases hlt : q < L.length
        · have hown := own_below HOW.out hbl
          obtain ⟨p, hp⟩ : ∃ p, p = L.getD q [] := ⟨_, rfl⟩
          have hLq : L[q]? = some p := by rw [hp, List.getD_eq_getElem?_getD, List.getElem?_eq_getElem hlt]; rfl
          have hyl : q < ys.length := by rw [HRW.out.1]; exact hlt
          have hrow := (HRW.out.2 q _ p (List.getElem?_eq_getElem hyl) hLq).next hbl
          obtain ⟨A9, c9, hx9, hat9⟩ := row_at hrow
          have hcl := hown.cellAt q (by omega)
          rw [List.getElem?_eq_getElem hyl, hx9] at hcl
          have hpm := HNU.out p (List.mem_of_getElem? hLq)
          have hset : setsOf (p.map Int.ofNat) = 0 :: p := by unfold setsOf; rw [toNat_map]
          have hpok : planOk d.blades.length l (p.map Int.ofNat) = true := planOk_iff.2 ⟨fun s hs => by
            obtain ⟨z, hz, rfl⟩ := List.mem_map.1 hs
            refine ⟨Int.natCast_nonneg _, ?_⟩
            rw [← HM.out]
            exact hpm.2 z hz, by rw [List.length_map, hpm.1]; exact HMN.out⟩
          have hml : (p.map Int.ofNat).length = p.length := List.length_map _
          have HBAD := Lib.hid (fun (W : World) (h : Below wr.heap.size wr W) => (show Calls Tryd.prog 29 #[.agg #[.slice d.A d.blades.length d.c, .int .i64 d.bound, .int .i64 d.stop, .int .i64 d.bend], .slice A l.length c, .slice A9 p.length c9] W (Ret (badV (badL d l p)) W) from by
            have := Bad_any d A c l A9 c9 (p.map Int.ofNat) W OK.out OKL.out hpok ((DU.out.next hbl).next h) ((SU.out.next hbl).next h) (hat9.next h)
            rw [hset, hml] at this
            exact this))
          have HXR := Lib.hid (XU.out.next hbl)
          have hgw : g < wr.heap.size := Nat.lt_of_lt_of_le hgz hbl.size
          have HAT := Lib.hid hat9
          have HBL := Lib.hid hbl
          have HBEST := Lib.hid hbest
          have HPP := Lib.hid hp
          have p0 := HXR.out.c 0 _ rfl
          have hqL : (q : Int) < L.length := by omega
          have HCL := Lib.hid hcl
          have HPM := Lib.hid hpm
          clear hpm hown hrow hLq hyl hx9 hcl hat9 hbl hbest hset hpok hml hp
          go_wp2_with fail
          have hc : Below wr.heap.size wr wr.drew := (Below.refl _ _).drew
          have H9 := Lib.hid (show ∀ W : World, Below wr.heap.size wr W → (W.cell? ⟨w.heap.size, 0, none⟩ = some (.slice d.A d.blades.length d.c) ∧ W.cell? ⟨w.heap.size, 1, none⟩ = some (.int .i64 d.bound) ∧ W.cell? ⟨w.heap.size, 2, none⟩ = some (.int .i64 d.stop) ∧ W.cell? ⟨w.heap.size, 3, none⟩ = some (.int .i64 d.bend) ∧ W.cell? ⟨g, q, none⟩ = some (.slice A9 p.length c9)) from fun W h =>
            ⟨(HXR.out.next h).c 0 _ rfl, (HXR.out.next h).c 1 _ rfl, (HXR.out.next h).c 2 _ rfl, (HXR.out.next h).c 3 _ rfl, ((bcell h).1 _ _ hgw).trans HCL.out⟩)
          cases hbad : badL d l p with
          | some bx =>
            rw [hbad] at HBAD
            have HREL := Lib.hid (fun (W : World) (h : Below wr.heap.size wr W) => (show RPlan d l L U (.int .i64 bi) (.int .i64 ((q + 1 : Nat) : Int)) W from ⟨q + 1, bi, by omega, rfl, rfl, best_bad hlt HBEST.out (by rw [← HPP.out]; exact hbad), HBL.out.trans (h.mono HBL.out.size)⟩))
            refine wp_region_noPanic ?_
            refine wp_region_held_drew (S := (fun W => W.cell? ⟨w.heap.size, 0, none⟩ = some (.slice d.A d.blades.length d.c) ∧ W.cell? ⟨w.heap.size, 1, none⟩ = some (.int .i64 d.bound) ∧ W.cell? ⟨w.heap.size, 2, none⟩ = some (.int .i64 d.stop) ∧ W.cell? ⟨w.heap.size, 3, none⟩ = some (.int .i64 d.bend) ∧ W.cell? ⟨g, q, none⟩ = some (.slice A9 p.length c9))) (by kernel_rfl) ?_ (fun hHeld => ?_)
            · (try dsimp only); exact H9.out _ hc
            refine htake (i := 0) (v := ?v1) rfl (by kernel_rfl) (by kernel_rfl) (by kernel_rfl) (fun _ _ _ h => h) (Or.inl ⟨by rfl, ?hy1⟩) (by assumption) ?_
            case hy1 => (intro w hSw; (try dsimp only at hSw); go_simp; try (with_reducible rfl))
            try simp only [Act.put, List.setIfInBounds_toArray, List.set_cons_zero, List.set_cons_succ]
            refine htake (i := 1) (v := ?v2) rfl (by kernel_rfl) (by kernel_rfl) (by kernel_rfl) (fun _ _ _ h => h) (Or.inl ⟨by rfl, ?hy2⟩) (by assumption) ?_
            case hy2 => (intro w hSw; (try dsimp only at hSw); go_simp; try (with_reducible rfl))
            try simp only [Act.put, List.setIfInBounds_toArray, List.set_cons_zero, List.set_cons_succ]
            refine htake (i := 2) (v := ?v3) rfl (by kernel_rfl) (by kernel_rfl) (by kernel_rfl) (fun _ _ _ h => h) (Or.inl ⟨by rfl, ?hy3⟩) (by assumption) ?_
            case hy3 => (intro w hSw; (try dsimp only at hSw); go_simp; try (with_reducible rfl))
            try simp only [Act.put, List.setIfInBounds_toArray, List.set_cons_zero, List.set_cons_succ]
            refine htake (i := 3) (v := ?v4) rfl (by kernel_rfl) (by kernel_rfl) (by kernel_rfl) (fun _ _ _ h => h) (Or.inl ⟨by rfl, ?hy4⟩) (by assumption) ?_
            case hy4 => (intro w hSw; (try dsimp only at hSw); go_simp; try (with_reducible rfl))
            try simp only [Act.put, List.setIfInBounds_toArray, List.set_cons_zero, List.set_cons_succ]
            refine htake (i := 4) (v := ?v5) rfl (by kernel_rfl) (by kernel_rfl) (by kernel_rfl) (fun _ _ _ h => h) (Or.inl ⟨by rfl, ?hy5⟩) (by assumption) ?_
            case hy5 => (intro w hSw; (try dsimp only at hSw); go_simp; try (with_reducible rfl))
            try simp only [Act.put, List.setIfInBounds_toArray, List.set_cons_zero, List.set_cons_succ]
            refine htake (i := 5) (v := ?v6) rfl (by kernel_rfl) (by kernel_rfl) (by kernel_rfl) (fun _ _ _ h => h) (Or.inl ⟨by rfl, ?hy6⟩) (by assumption) ?_
            case hy6 => (intro w hSw; (try dsimp only at hSw); go_simp; try (with_reducible rfl))
            try simp only [Act.put, List.setIfInBounds_toArray, List.set_cons_zero, List.set_cons_succ]
            refine wpAnyH_ready (rs := [6]) (by kernel_rfl) (by simp) ?_
            refine hcons rfl (fun K hK => ?_) (AllReadyH.nil)
            go_simp
            (with_reducible refine (HBAD.out _ hc).mono ?_); rintro e w4 ⟨rfl, hb4⟩; replace hc := hc.trans (hb4.mono hc.size); clear hb4; dsimp only [badV]
            refine hK.out _ _ ?_ (fun hHeld => ?_)
            · (try dsimp only); exact H9.out _ hc
            clear hK K
            try simp only [Act.put, List.setIfInBounds_toArray, List.set_cons_zero, List.set_cons_succ]
            refine htake (i := 7) (v := ?v7) rfl (by kernel_rfl) (by kernel_rfl) (by kernel_rfl) (fun _ _ _ h => h) (Or.inl ⟨by rfl, ?hy7⟩) (by assumption) ?_
            case hy7 => (intro w hSw; (try dsimp only at hSw); go_simp; try (with_reducible rfl))
            try simp only [Act.put, List.setIfInBounds_toArray, List.set_cons_zero, List.set_cons_succ]
            refine htake (i := 8) (v := ?v8) rfl (by kernel_rfl) (by kernel_rfl) (by kernel_rfl) (fun _ _ _ h => h) (Or.inl ⟨by rfl, ?hy8⟩) (by assumption) ?_
            case hy8 => (intro w hSw; (try dsimp only at hSw); go_simp; try (with_reducible rfl))
            try simp only [Act.put, List.setIfInBounds_toArray, List.set_cons_zero, List.set_cons_succ]
            refine htake (i := 9) (v := ?v9) rfl (by kernel_rfl) (by kernel_rfl) (by kernel_rfl) (fun _ _ _ h => h) (Or.inl ⟨by rfl, ?hy9⟩) (by assumption) ?_
            case hy9 => (intro w hSw; (try dsimp only at hSw); go_simp; try (with_reducible rfl))
            try simp only [Act.put, List.setIfInBounds_toArray, List.set_cons_zero, List.set_cons_succ]
            refine htake (i := 10) (v := ?v10) rfl (by kernel_rfl) (by kernel_rfl) (by kernel_rfl) (fun _ _ _ h => h) (Or.inl ⟨by rfl, ?hy10⟩) (by assumption) ?_
            case hy10 => (intro w hSw; (try dsimp only at hSw); go_simp; try (with_reducible rfl))
            try simp only [Act.put, List.setIfInBounds_toArray, List.set_cons_zero, List.set_cons_succ]
            refine htake (i := 11) (v := ?v11) rfl (by kernel_rfl) (by kernel_rfl) (by kernel_rfl) (fun _ _ _ h => h) (Or.inl ⟨by rfl, ?hy11⟩) (by assumption) ?_
            case hy11 => (intro w hSw; (try dsimp only at hSw); go_simp; try (with_reducible rfl))
            try simp only [Act.put, List.setIfInBounds_toArray, List.set_cons_zero, List.set_cons_succ]
            refine htake (i := 12) (v := ?v12) rfl (by kernel_rfl) (by kernel_rfl) (by kernel_rfl) (fun _ _ _ h => h) (Or.inl ⟨by rfl, ?hy12⟩) (by assumption) ?_
            case hy12 => (intro w hSw; (try dsimp only at hSw); go_simp; try (with_reducible rfl))
            try simp only [Act.put, List.setIfInBounds_toArray, List.set_cons_zero, List.set_cons_succ]
            refine htake (i := 13) (v := ?v13) rfl (by kernel_rfl) (by kernel_rfl) (by kernel_rfl) (fun _ _ _ h => h) (Or.inl ⟨by rfl, ?hy13⟩) (by assumption) ?_
            case hy13 => (intro w hSw; (try dsimp only at hSw); go_simp; try (with_reducible rfl))
            try simp only [Act.put, List.setIfInBounds_toArray, List.set_cons_zero, List.set_cons_succ]
            refine wpAnyH_done (by kernel_rfl) ?_ _
            refine NoPanic.normal ?_
            iterate 15 (try clear hHeld)
            go_wp2_with fail
            go_quiet (fail)
            go_wp2_with fail
            go_roundw
            case rel => exact HREL.out _ (below_drewN hc _)
            case measure => simp [intOf]; omega
          | none =>
            rw [hbad] at HBAD
            have HGO := Lib.hid (show badL d l (L.getD q []) = none by rw [← HPP.out]; exact hbad)
            clear hbad
            rcases id HBEST.out with ⟨-, hb1⟩ | ⟨j, hj1, hj2, hj3, -⟩
            · subst hb1
              have HREL := Lib.hid (fun (W : World) (h : Below wr.heap.size wr W) => (show RPlan d l L U (.int .i64 (q : Nat)) (.int .i64 ((q + 1 : Nat) : Int)) W from ⟨q + 1, q, by omega, rfl, rfl, best_first hlt HBEST.out HGO.out (by omega), HBL.out.trans (h.mono HBL.out.size)⟩))
              refine wp_region_noPanic ?_
              refine wp_region_held_drew (S := (fun W => W.cell? ⟨w.heap.size, 0, none⟩ = some (.slice d.A d.blades.length d.c) ∧ W.cell? ⟨w.heap.size, 1, none⟩ = some (.int .i64 d.bound) ∧ W.cell? ⟨w.heap.size, 2, none⟩ = some (.int .i64 d.stop) ∧ W.cell? ⟨w.heap.size, 3, none⟩ = some (.int .i64 d.bend) ∧ W.cell? ⟨g, q, none⟩ = some (.slice A9 p.length c9))) (by kernel_rfl) ?_ (fun hHeld => ?_)
              · (try dsimp only); exact H9.out _ hc
              refine htake (i := 0) (v := ?v14) rfl (by kernel_rfl) (by kernel_rfl) (by kernel_rfl) (fun _ _ _ h => h) (Or.inl ⟨by rfl, ?hy14⟩) (by assumption) ?_
              case hy14 => (intro w hSw; (try dsimp only at hSw); go_simp; try (with_reducible rfl))
              try simp only [Act.put, List.setIfInBounds_toArray, List.set_cons_zero, List.set_cons_succ]
              refine htake (i := 1) (v := ?v15) rfl (by kernel_rfl) (by kernel_rfl) (by kernel_rfl) (fun _ _ _ h => h) (Or.inl ⟨by rfl, ?hy15⟩) (by assumption) ?_
              case hy15 => (intro w hSw; (try dsimp only at hSw); go_simp; try (with_reducible rfl))
              try simp only [Act.put, List.setIfInBounds_toArray, List.set_cons_zero, List.set_cons_succ]
              refine htake (i := 2) (v := ?v16) rfl (by kernel_rfl) (by kernel_rfl) (by kernel_rfl) (fun _ _ _ h => h) (Or.inl ⟨by rfl, ?hy16⟩) (by assumption) ?_
              case hy16 => (intro w hSw; (try dsimp only at hSw); go_simp; try (with_reducible rfl))
              try simp only [Act.put, List.setIfInBounds_toArray, List.set_cons_zero, List.set_cons_succ]
              refine htake (i := 3) (v := ?v17) rfl (by kernel_rfl) (by kernel_rfl) (by kernel_rfl) (fun _ _ _ h => h) (Or.inl ⟨by rfl, ?hy17⟩) (by assumption) ?_
              case hy17 => (intro w hSw; (try dsimp only at hSw); go_simp; try (with_reducible rfl))
              try simp only [Act.put, List.setIfInBounds_toArray, List.set_cons_zero, List.set_cons_succ]
              refine htake (i := 4) (v := ?v18) rfl (by kernel_rfl) (by kernel_rfl) (by kernel_rfl) (fun _ _ _ h => h) (Or.inl ⟨by rfl, ?hy18⟩) (by assumption) ?_
              case hy18 => (intro w hSw; (try dsimp only at hSw); go_simp; try (with_reducible rfl))
              try simp only [Act.put, List.setIfInBounds_toArray, List.set_cons_zero, List.set_cons_succ]
              refine htake (i := 5) (v := ?v19) rfl (by kernel_rfl) (by kernel_rfl) (by kernel_rfl) (fun _ _ _ h => h) (Or.inl ⟨by rfl, ?hy19⟩) (by assumption) ?_
              case hy19 => (intro w hSw; (try dsimp only at hSw); go_simp; try (with_reducible rfl))
              try simp only [Act.put, List.setIfInBounds_toArray, List.set_cons_zero, List.set_cons_succ]
              refine wpAnyH_ready (rs := [6]) (by kernel_rfl) (by simp) ?_
              refine hcons rfl (fun K hK => ?_) (AllReadyH.nil)
              go_simp
              (with_reducible refine (HBAD.out _ hc).mono ?_); rintro e w4 ⟨rfl, hb4⟩; replace hc := hc.trans (hb4.mono hc.size); clear hb4; dsimp only [badV]
              refine hK.out _ _ ?_ (fun hHeld => ?_)
              · (try dsimp only); exact H9.out _ hc
              clear hK K
              try simp only [Act.put, List.setIfInBounds_toArray, List.set_cons_zero, List.set_cons_succ]
              refine htake (i := 7) (v := ?v20) rfl (by kernel_rfl) (by kernel_rfl) (by kernel_rfl) (fun _ _ _ h => h) (Or.inl ⟨by rfl, ?hy20⟩) (by assumption) ?_
              case hy20 => (intro w hSw; (try dsimp only at hSw); go_simp; try (with_reducible rfl))
              try simp only [Act.put, List.setIfInBounds_toArray, List.set_cons_zero, List.set_cons_succ]
              refine htake (i := 8) (v := ?v21) rfl (by kernel_rfl) (by kernel_rfl) (by kernel_rfl) (fun _ _ _ h => h) (Or.inl ⟨by rfl, ?hy21⟩) (by assumption) ?_
              case hy21 => (intro w hSw; (try dsimp only at hSw); go_simp; try (with_reducible rfl))
              try simp only [Act.put, List.setIfInBounds_toArray, List.set_cons_zero, List.set_cons_succ]
              refine htake (i := 9) (v := ?v22) rfl (by kernel_rfl) (by kernel_rfl) (by kernel_rfl) (fun _ _ _ h => h) (Or.inl ⟨by rfl, ?hy22⟩) (by assumption) ?_
              case hy22 => (intro w hSw; (try dsimp only at hSw); go_simp; try (with_reducible rfl))
              try simp only [Act.put, List.setIfInBounds_toArray, List.set_cons_zero, List.set_cons_succ]
              refine htake (i := 10) (v := ?v23) rfl (by kernel_rfl) (by kernel_rfl) (by kernel_rfl) (fun _ _ _ h => h) (Or.inl ⟨by rfl, ?hy23⟩) (by assumption) ?_
              case hy23 => (intro w hSw; (try dsimp only at hSw); go_simp; try (with_reducible rfl))
              try simp only [Act.put, List.setIfInBounds_toArray, List.set_cons_zero, List.set_cons_succ]
              refine htake (i := 11) (v := ?v24) rfl (by kernel_rfl) (by kernel_rfl) (by kernel_rfl) (fun _ _ _ h => h) (Or.inl ⟨by rfl, ?hy24⟩) (by assumption) ?_
              case hy24 => (intro w hSw; (try dsimp only at hSw); go_simp; try (with_reducible rfl))
              try simp only [Act.put, List.setIfInBounds_toArray, List.set_cons_zero, List.set_cons_succ]
              refine htake (i := 12) (v := ?v25) rfl (by kernel_rfl) (by kernel_rfl) (by kernel_rfl) (fun _ _ _ h => h) (Or.inl ⟨by rfl, ?hy25⟩) (by assumption) ?_
              case hy25 => (intro w hSw; (try dsimp only at hSw); go_simp; try (with_reducible rfl))
              try simp only [Act.put, List.setIfInBounds_toArray, List.set_cons_zero, List.set_cons_succ]
              refine htake (i := 13) (v := ?v26) rfl (by kernel_rfl) (by kernel_rfl) (by kernel_rfl) (fun _ _ _ h => h) (Or.inl ⟨by rfl, ?hy26⟩) (by assumption) ?_
              case hy26 => (intro w hSw; (try dsimp only at hSw); go_simp; try (with_reducible rfl))
              try simp only [Act.put, List.setIfInBounds_toArray, List.set_cons_zero, List.set_cons_succ]
              refine wpAnyH_done (by kernel_rfl) ?_ _
              refine NoPanic.normal ?_
              iterate 15 (try clear hHeld)
              go_wp2_with fail
              go_quiet (fail)
              go_wp2_with fail
              go_roundw
              case rel => exact HREL.out _ (below_drewN hc _)
              case measure => simp [intOf]; omega
            · subst hj3
              obtain ⟨pj, hpj⟩ : ∃ pj, pj = L.getD j [] := ⟨_, rfl⟩
              have hLj : L[j]? = some pj := by rw [hpj, List.getD_eq_getElem?_getD, List.getElem?_eq_getElem hj2]; rfl
              have hyj : j < ys.length := by rw [HRW.out.1]; exact hj2
              obtain ⟨Aj, cj, hxj, hatj⟩ := row_at ((HRW.out.2 j _ pj (List.getElem?_eq_getElem hyj) hLj).next HBL.out)
              have hclj := (own_below HOW.out HBL.out).cellAt j (by omega)
              rw [List.getElem?_eq_getElem hyj, hxj] at hclj
              have hpmj := HNU.out pj (List.mem_of_getElem? hLj)
              have hmm := HMN.out
              have HC1 := Lib.hid (fun (W : World) (h : Below wr.heap.size wr W) => (show Calls Tryd.prog 31 #[.agg #[.slice d.A d.blades.length d.c, .int .i64 d.bound, .int .i64 d.stop, .int .i64 d.bend], .slice A9 p.length c9] W (Ret (.int .i64 (costP d p)) W) from cost_row OK.out (fun s hs => Nat.lt_of_lt_of_le (HPM.out.2 s hs) hM32) (by rw [HPM.out.1]; omega) (HAT.out.next h)))
              have HC2 := Lib.hid (fun (W : World) (h : Below wr.heap.size wr W) => (show Calls Tryd.prog 31 #[.agg #[.slice d.A d.blades.length d.c, .int .i64 d.bound, .int .i64 d.stop, .int .i64 d.bend], .slice Aj pj.length cj] W (Ret (.int .i64 (costP d pj)) W) from cost_row OK.out (fun s hs => Nat.lt_of_lt_of_le (hpmj.2 s hs) hM32) (by rw [hpmj.1]; omega) (hatj.next h)))
              have HLS := Lib.hid (fun h => best_less (j := j) hlt HBEST.out HGO.out h)
              have HKP := Lib.hid (fun h => best_keep (j := j) hlt HBEST.out HGO.out h)
              rw [← HPP.out, ← hpj] at HLS HKP
              have HCJ := Lib.hid hclj
              clear hLj hyj hxj hatj hclj hpmj hmm hpj
              have hjI : (j : Int) < L.length := by omega
              have hj0 : ¬ (j : Int) < 0 := by omega
              have hd0 : decide ((j : Int) < 0) = false := decide_eq_false hj0
              have H10 := Lib.hid (show ∀ W : World, Below wr.heap.size wr W → (W.cell? ⟨w.heap.size, 0, none⟩ = some (.slice d.A d.blades.length d.c) ∧ W.cell? ⟨w.heap.size, 1, none⟩ = some (.int .i64 d.bound) ∧ W.cell? ⟨w.heap.size, 2, none⟩ = some (.int .i64 d.stop) ∧ W.cell? ⟨w.heap.size, 3, none⟩ = some (.int .i64 d.bend) ∧ W.cell? ⟨g, q, none⟩ = some (.slice A9 p.length c9) ∧ W.cell? ⟨g, j, none⟩ = some (.slice Aj pj.length cj)) from fun W h =>
                ⟨(H9.out W h).1, (H9.out W h).2.1, (H9.out W h).2.2.1, (H9.out W h).2.2.2.1, (H9.out W h).2.2.2.2, ((bcell h).1 _ _ hgw).trans HCJ.out⟩)
              have HRELk := Lib.hid (fun (W : World) (hh : ¬ costP d p < costP d pj) (h : Below wr.heap.size wr W) => (show RPlan d l L U (.int .i64 (j : Nat)) (.int .i64 ((q + 1 : Nat) : Int)) W from ⟨q + 1, j, by omega, rfl, rfl, HKP.out hh, HBL.out.trans (h.mono HBL.out.size)⟩))
              have HRELl := Lib.hid (fun (W : World) (hh : costP d p < costP d pj) (h : Below wr.heap.size wr W) => (show RPlan d l L U (.int .i64 (q : Nat)) (.int .i64 ((q + 1 : Nat) : Int)) W from ⟨q + 1, q, by omega, rfl, rfl, HLS.out hh, HBL.out.trans (h.mono HBL.out.size)⟩))
              generalize costP d p = k1 at *
              generalize costP d pj = k2 at *
              refine wp_region_noPanic ?_
              refine wp_region_held_drew (S := (fun W => W.cell? ⟨w.heap.size, 0, none⟩ = some (.slice d.A d.blades.length d.c) ∧ W.cell? ⟨w.heap.size, 1, none⟩ = some (.int .i64 d.bound) ∧ W.cell? ⟨w.heap.size, 2, none⟩ = some (.int .i64 d.stop) ∧ W.cell? ⟨w.heap.size, 3, none⟩ = some (.int .i64 d.bend) ∧ W.cell? ⟨g, q, none⟩ = some (.slice A9 p.length c9))) (by kernel_rfl) ?_ (fun hHeld => ?_)
              · (try dsimp only); exact H9.out _ hc
              refine htake (i := 0) (v := ?v27) rfl (by kernel_rfl) (by kernel_rfl) (by kernel_rfl) (fun _ _ _ h => h) (Or.inl ⟨by rfl, ?hy27⟩) (by assumption) ?_
              case hy27 => (intro w hSw; (try dsimp only at hSw); go_simp; try (with_reducible rfl))
              try simp only [Act.put, List.setIfInBounds_toArray, List.set_cons_zero, List.set_cons_succ]
              refine htake (i := 1) (v := ?v28) rfl (by kernel_rfl) (by kernel_rfl) (by kernel_rfl) (fun _ _ _ h => h) (Or.inl ⟨by rfl, ?hy28⟩) (by assumption) ?_
              case hy28 => (intro w hSw; (try dsimp only at hSw); go_simp; try (with_reducible rfl))
              try simp only [Act.put, List.setIfInBounds_toArray, List.set_cons_zero, List.set_cons_succ]
              refine htake (i := 2) (v := ?v29) rfl (by kernel_rfl) (by kernel_rfl) (by kernel_rfl) (fun _ _ _ h => h) (Or.inl ⟨by rfl, ?hy29⟩) (by assumption) ?_
              case hy29 => (intro w hSw; (try dsimp only at hSw); go_simp; try (with_reducible rfl))
              try simp only [Act.put, List.setIfInBounds_toArray, List.set_cons_zero, List.set_cons_succ]
              refine htake (i := 3) (v := ?v30) rfl (by kernel_rfl) (by kernel_rfl) (by kernel_rfl) (fun _ _ _ h => h) (Or.inl ⟨by rfl, ?hy30⟩) (by assumption) ?_
              case hy30 => (intro w hSw; (try dsimp only at hSw); go_simp; try (with_reducible rfl))
              try simp only [Act.put, List.setIfInBounds_toArray, List.set_cons_zero, List.set_cons_succ]
              refine htake (i := 4) (v := ?v31) rfl (by kernel_rfl) (by kernel_rfl) (by kernel_rfl) (fun _ _ _ h => h) (Or.inl ⟨by rfl, ?hy31⟩) (by assumption) ?_
              case hy31 => (intro w hSw; (try dsimp only at hSw); go_simp; try (with_reducible rfl))
              try simp only [Act.put, List.setIfInBounds_toArray, List.set_cons_zero, List.set_cons_succ]
              refine htake (i := 5) (v := ?v32) rfl (by kernel_rfl) (by kernel_rfl) (by kernel_rfl) (fun _ _ _ h => h) (Or.inl ⟨by rfl, ?hy32⟩) (by assumption) ?_
              case hy32 => (intro w hSw; (try dsimp only at hSw); go_simp; try (with_reducible rfl))
              try simp only [Act.put, List.setIfInBounds_toArray, List.set_cons_zero, List.set_cons_succ]
              refine wpAnyH_ready (rs := [6]) (by kernel_rfl) (by simp) ?_
              refine hcons rfl (fun K hK => ?_) (AllReadyH.nil)
              go_simp
              (with_reducible refine (HBAD.out _ hc).mono ?_); rintro e w4 ⟨rfl, hb4⟩; replace hc := hc.trans (hb4.mono hc.size); clear hb4; dsimp only [badV]
              refine hK.out _ _ ?_ (fun hHeld => ?_)
              · (try dsimp only); exact H9.out _ hc
              clear hK K
              try simp only [Act.put, List.setIfInBounds_toArray, List.set_cons_zero, List.set_cons_succ]
              refine htake (i := 7) (v := ?v33) rfl (by kernel_rfl) (by kernel_rfl) (by kernel_rfl) (fun _ _ _ h => h) (Or.inl ⟨by rfl, ?hy33⟩) (by assumption) ?_
              case hy33 => (intro w hSw; (try dsimp only at hSw); go_simp; try (with_reducible rfl))
              try simp only [Act.put, List.setIfInBounds_toArray, List.set_cons_zero, List.set_cons_succ]
              refine htake (i := 8) (v := ?v34) rfl (by kernel_rfl) (by kernel_rfl) (by kernel_rfl) (fun _ _ _ h => h) (Or.inl ⟨by rfl, ?hy34⟩) (by assumption) ?_
              case hy34 => (intro w hSw; (try dsimp only at hSw); go_simp; try (with_reducible rfl))
              try simp only [Act.put, List.setIfInBounds_toArray, List.set_cons_zero, List.set_cons_succ]
              refine htake (i := 9) (v := ?v35) rfl (by kernel_rfl) (by kernel_rfl) (by kernel_rfl) (fun _ _ _ h => h) (Or.inl ⟨by rfl, ?hy35⟩) (by assumption) ?_
              case hy35 => (intro w hSw; (try dsimp only at hSw); go_simp; try (with_reducible rfl))
              try simp only [Act.put, List.setIfInBounds_toArray, List.set_cons_zero, List.set_cons_succ]
              refine htake (i := 10) (v := ?v36) rfl (by kernel_rfl) (by kernel_rfl) (by kernel_rfl) (fun _ _ _ h => h) (Or.inl ⟨by rfl, ?hy36⟩) (by assumption) ?_
              case hy36 => (intro w hSw; (try dsimp only at hSw); go_simp; try (with_reducible rfl))
              try simp only [Act.put, List.setIfInBounds_toArray, List.set_cons_zero, List.set_cons_succ]
              refine htake (i := 11) (v := ?v37) rfl (by kernel_rfl) (by kernel_rfl) (by kernel_rfl) (fun _ _ _ h => h) (Or.inl ⟨by rfl, ?hy37⟩) (by assumption) ?_
              case hy37 => (intro w hSw; (try dsimp only at hSw); go_simp; try (with_reducible rfl))
              try simp only [Act.put, List.setIfInBounds_toArray, List.set_cons_zero, List.set_cons_succ]
              refine htake (i := 12) (v := ?v38) rfl (by kernel_rfl) (by kernel_rfl) (by kernel_rfl) (fun _ _ _ h => h) (Or.inl ⟨by rfl, ?hy38⟩) (by assumption) ?_
              case hy38 => (intro w hSw; (try dsimp only at hSw); go_simp; try (with_reducible rfl))
              try simp only [Act.put, List.setIfInBounds_toArray, List.set_cons_zero, List.set_cons_succ]
              refine htake (i := 13) (v := ?v39) rfl (by kernel_rfl) (by kernel_rfl) (by kernel_rfl) (fun _ _ _ h => h) (Or.inl ⟨by rfl, ?hy39⟩) (by assumption) ?_
              case hy39 => (intro w hSw; (try dsimp only at hSw); go_simp; try (with_reducible rfl))
              try simp only [Act.put, List.setIfInBounds_toArray, List.set_cons_zero, List.set_cons_succ]
              refine wpAnyH_done (by kernel_rfl) ?_ _
              refine NoPanic.normal ?_
              iterate 15 (try clear hHeld)
              go_wp2_with fail
              have hc9 := hc
              replace hc := hc.drew
              refine wp_region_noPanic ?_
              refine wp_region_held_drew (S := (fun W => W.cell? ⟨w.heap.size, 0, none⟩ = some (.slice d.A d.blades.length d.c) ∧ W.cell? ⟨w.heap.size, 1, none⟩ = some (.int .i64 d.bound) ∧ W.cell? ⟨w.heap.size, 2, none⟩ = some (.int .i64 d.stop) ∧ W.cell? ⟨w.heap.size, 3, none⟩ = some (.int .i64 d.bend) ∧ W.cell? ⟨g, q, none⟩ = some (.slice A9 p.length c9) ∧ W.cell? ⟨g, j, none⟩ = some (.slice Aj pj.length cj))) (by kernel_rfl) ?_ (fun hHeld => ?_)
              · (try dsimp only); exact H10.out _ hc
              refine htake (i := 0) (v := ?v40) rfl (by kernel_rfl) (by kernel_rfl) (by kernel_rfl) (fun _ _ _ h => h) (Or.inl ⟨by rfl, ?hy40⟩) (by assumption) ?_
              case hy40 => (intro w hSw; (try dsimp only at hSw); go_simp; try (with_reducible rfl))
              try simp only [Act.put, List.setIfInBounds_toArray, List.set_cons_zero, List.set_cons_succ]
              refine htake (i := 1) (v := ?v41) rfl (by kernel_rfl) (by kernel_rfl) (by kernel_rfl) (fun _ _ _ h => h) (Or.inl ⟨by rfl, ?hy41⟩) (by assumption) ?_
              case hy41 => (intro w hSw; (try dsimp only at hSw); go_simp; try (with_reducible rfl))
              try simp only [Act.put, List.setIfInBounds_toArray, List.set_cons_zero, List.set_cons_succ]
              refine htake (i := 2) (v := ?v42) rfl (by kernel_rfl) (by kernel_rfl) (by kernel_rfl) (fun _ _ _ h => h) (Or.inl ⟨by rfl, ?hy42⟩) (by assumption) ?_
              case hy42 => (intro w hSw; (try dsimp only at hSw); go_simp; try (with_reducible rfl))
              try simp only [Act.put, List.setIfInBounds_toArray, List.set_cons_zero, List.set_cons_succ]
              refine htake (i := 3) (v := ?v43) rfl (by kernel_rfl) (by kernel_rfl) (by kernel_rfl) (fun _ _ _ h => h) (Or.inl ⟨by rfl, ?hy43⟩) (by assumption) ?_
              case hy43 => (intro w hSw; (try dsimp only at hSw); go_simp; try (with_reducible rfl))
              try simp only [Act.put, List.setIfInBounds_toArray, List.set_cons_zero, List.set_cons_succ]
              refine htake (i := 4) (v := ?v44) rfl (by kernel_rfl) (by kernel_rfl) (by kernel_rfl) (fun _ _ _ h => h) (Or.inl ⟨by rfl, ?hy44⟩) (by assumption) ?_
              case hy44 => (intro w hSw; (try dsimp only at hSw); go_simp; try (with_reducible rfl))
              try simp only [Act.put, List.setIfInBounds_toArray, List.set_cons_zero, List.set_cons_succ]
              refine htake (i := 5) (v := ?v45) rfl (by kernel_rfl) (by kernel_rfl) (by kernel_rfl) (fun _ _ _ h => h) (Or.inl ⟨by rfl, ?hy45⟩) (by assumption) ?_
              case hy45 => (intro w hSw; (try dsimp only at hSw); go_simp; try (with_reducible rfl))
              try simp only [Act.put, List.setIfInBounds_toArray, List.set_cons_zero, List.set_cons_succ]
              refine htake (i := 6) (v := ?v46) rfl (by kernel_rfl) (by kernel_rfl) (by kernel_rfl) (fun _ _ _ h => h) (Or.inl ⟨by rfl, ?hy46⟩) (by assumption) ?_
              case hy46 => (intro w hSw; (try dsimp only at hSw); go_simp; try (with_reducible rfl))
              try simp only [Act.put, List.setIfInBounds_toArray, List.set_cons_zero, List.set_cons_succ]
              refine htake (i := 7) (v := ?v47) rfl (by kernel_rfl) (by kernel_rfl) (by kernel_rfl) (fun _ _ _ h => h) (Or.inl ⟨by rfl, ?hy47⟩) (by assumption) ?_
              case hy47 => (intro w hSw; (try dsimp only at hSw); go_simp; try (with_reducible rfl))
              try simp only [Act.put, List.setIfInBounds_toArray, List.set_cons_zero, List.set_cons_succ]
              refine htake (i := 8) (v := ?v48) rfl (by kernel_rfl) (by kernel_rfl) (by kernel_rfl) (fun _ _ _ h => h) (Or.inl ⟨by rfl, ?hy48⟩) (by assumption) ?_
              case hy48 => (intro w hSw; (try dsimp only at hSw); go_simp; try (with_reducible rfl))
              try simp only [Act.put, List.setIfInBounds_toArray, List.set_cons_zero, List.set_cons_succ]
              refine htake (i := 9) (v := ?v49) rfl (by kernel_rfl) (by kernel_rfl) (by kernel_rfl) (fun _ _ _ h => h) (Or.inl ⟨by rfl, ?hy49⟩) (by assumption) ?_
              case hy49 => (intro w hSw; (try dsimp only at hSw); go_simp; try (with_reducible rfl))
              try simp only [Act.put, List.setIfInBounds_toArray, List.set_cons_zero, List.set_cons_succ]
              refine htake (i := 10) (v := ?v50) rfl (by kernel_rfl) (by kernel_rfl) (by kernel_rfl) (fun _ _ _ h => h) (Or.inl ⟨by rfl, ?hy50⟩) (by assumption) ?_
              case hy50 => (intro w hSw; (try dsimp only at hSw); go_simp; try (with_reducible rfl))
              try simp only [Act.put, List.setIfInBounds_toArray, List.set_cons_zero, List.set_cons_succ]
              refine htake (i := 12) (v := ?v51) rfl (by kernel_rfl) (by kernel_rfl) (by kernel_rfl) (fun _ _ _ h => h) (Or.inl ⟨by rfl, ?hy51⟩) (by assumption) ?_
              case hy51 => (intro w hSw; (try dsimp only at hSw); go_simp; try (with_reducible rfl))
              try simp only [Act.put, List.setIfInBounds_toArray, List.set_cons_zero, List.set_cons_succ]
              refine htake (i := 13) (v := ?v52) rfl (by kernel_rfl) (by kernel_rfl) (by kernel_rfl) (fun _ _ _ h => h) (Or.inl ⟨by rfl, ?hy52⟩) (by assumption) ?_
              case hy52 => (intro w hSw; (try dsimp only at hSw); go_simp; try (with_reducible rfl))
              try simp only [Act.put, List.setIfInBounds_toArray, List.set_cons_zero, List.set_cons_succ]
              refine htake (i := 14) (v := ?v53) rfl (by kernel_rfl) (by kernel_rfl) (by kernel_rfl) (fun _ _ _ h => h) (Or.inl ⟨by rfl, ?hy53⟩) (by assumption) ?_
              case hy53 => (intro w hSw; (try dsimp only at hSw); go_simp; try (with_reducible rfl))
              try simp only [Act.put, List.setIfInBounds_toArray, List.set_cons_zero, List.set_cons_succ]
              refine htake (i := 15) (v := ?v54) rfl (by kernel_rfl) (by kernel_rfl) (by kernel_rfl) (fun _ _ _ h => h) (Or.inl ⟨by rfl, ?hy54⟩) (by assumption) ?_
              case hy54 => (intro w hSw; (try dsimp only at hSw); go_simp; try (with_reducible rfl))
              try simp only [Act.put, List.setIfInBounds_toArray, List.set_cons_zero, List.set_cons_succ]
              refine htake (i := 16) (v := ?v55) rfl (by kernel_rfl) (by kernel_rfl) (by kernel_rfl) (fun _ _ _ h => h) (Or.inl ⟨by rfl, ?hy55⟩) (by assumption) ?_
              case hy55 => (intro w hSw; (try dsimp only at hSw); go_simp; try (with_reducible rfl))
              try simp only [Act.put, List.setIfInBounds_toArray, List.set_cons_zero, List.set_cons_succ]
              refine wpAnyH_ready (rs := [11]) (by kernel_rfl) (by simp) ?_
              refine hcons rfl (fun K hK => ?_) (AllReadyH.nil)
              go_simp
              (with_reducible refine (HC1.out _ hc).mono ?_); rintro e w5 ⟨rfl, hb5⟩; replace hc := hc.trans (hb5.mono hc.size); clear hb5
              refine hK.out _ _ ?_ (fun hHeld => ?_)
              · (try dsimp only); exact H10.out _ hc
              clear hK K
              try simp only [Act.put, List.setIfInBounds_toArray, List.set_cons_zero, List.set_cons_succ]
              refine wpAnyH_ready (rs := [17]) (by kernel_rfl) (by simp) ?_
              refine hcons rfl (fun K hK => ?_) (AllReadyH.nil)
              go_simp
              (with_reducible refine (HC2.out _ hc).mono ?_); rintro e w6 ⟨rfl, hb6⟩; replace hc := hc.trans (hb6.mono hc.size); clear hb6
              refine hK.out _ _ ?_ (fun hHeld => ?_)
              · (try dsimp only); exact H10.out _ hc
              clear hK K
              try simp only [Act.put, List.setIfInBounds_toArray, List.set_cons_zero, List.set_cons_succ]
              refine htake (i := 18) (v := ?v56) rfl (by kernel_rfl) (by kernel_rfl) (by kernel_rfl) (fun _ _ _ h => h) (Or.inl ⟨by rfl, ?hy56⟩) (by assumption) ?_
              case hy56 => (intro w hSw; (try dsimp only at hSw); go_simp; try (with_reducible rfl))
              try simp only [Act.put, List.setIfInBounds_toArray, List.set_cons_zero, List.set_cons_succ]
              refine htake (i := 19) (v := ?v57) rfl (by kernel_rfl) (by kernel_rfl) (by kernel_rfl) (fun _ _ _ h => h) (Or.inl ⟨by rfl, ?hy57⟩) (by assumption) ?_
              case hy57 => (intro w hSw; (try dsimp only at hSw); go_simp; try (with_reducible rfl))
              try simp only [Act.put, List.setIfInBounds_toArray, List.set_cons_zero, List.set_cons_succ]
              refine htake (i := 20) (v := ?v58) rfl (by kernel_rfl) (by kernel_rfl) (by kernel_rfl) (fun _ _ _ h => h) (Or.inl ⟨by rfl, ?hy58⟩) (by assumption) ?_
              case hy58 => (intro w hSw; (try dsimp only at hSw); go_simp; try (with_reducible rfl))
              try simp only [Act.put, List.setIfInBounds_toArray, List.set_cons_zero, List.set_cons_succ]
              refine wpAnyH_done (by kernel_rfl) ?_ _
              refine NoPanic.normal ?_
              iterate 22 (try clear hHeld)
              by_cases hk : k1 < k2
              · have dk : decide (k1 < k2) = true := decide_eq_true hk
                go_wp2_with fail
                go_roundw
                case rel => exact HRELl.out _ hk hc
                case measure => simp [intOf]; omega
              · have dk : decide (k1 < k2) = false := decide_eq_false hk
                go_wp2_with fail
                go_roundw
                case rel => exact HRELk.out _ (by omega) hc
                case measure => simp [intOf]; omega
        · obtain rfl : q = L.length := by omega
          rcases HPR.out bi hbest with ⟨rfl, hps⟩ | ⟨j, hj2, rfl, hps⟩
          · go_wp2_with fail
            go_ret3
            rw [hps]
            exact retPl_nil (BU.out.trans (hbl.mono BU.out.size))
          · obtain ⟨pj, hpj⟩ : ∃ pj, pj = L.getD j [] := ⟨_, rfl⟩
            have hLj : L[j]? = some pj := by rw [hpj, List.getD_eq_getElem?_getD, List.getElem?_eq_getElem hj2]; rfl
            have hyj : j < ys.length := by rw [HRW.out.1]; exact hj2
            obtain ⟨Aj, cj, hxj, hatj⟩ := row_at ((HRW.out.2 j _ pj (List.getElem?_eq_getElem hyj) hLj).next hbl)
            have hclj := (own_below HOW.out hbl).cellAt j (by omega)
            rw [List.getElem?_eq_getElem hyj, hxj] at hclj
            have hpmj := HNU.out pj (List.mem_of_getElem? hLj)
            have hmm := HMN.out
            have HC2 := Lib.hid (fun (W : World) (h : Below wr.heap.size wr W) => (show Calls Tryd.prog 31 #[.agg #[.slice d.A d.blades.length d.c, .int .i64 d.bound, .int .i64 d.stop, .int .i64 d.bend], .slice Aj pj.length cj] W (Ret (.int .i64 (costP d pj)) W) from cost_row OK.out (fun s hs => Nat.lt_of_lt_of_le (hpmj.2 s hs) hM32) (by rw [hpmj.1]; omega) (hatj.next h)))
            rw [← hpj] at hps
            have HPS := Lib.hid hps
            have HAJ := Lib.hid hatj
            have HCJ := Lib.hid hclj
            have HBL := Lib.hid hbl
            have HXR := Lib.hid (XU.out.next hbl)
            have hgw : g < wr.heap.size := Nat.lt_of_lt_of_le hgz hbl.size
            have hjI : (j : Int) < L.length := by omega
            have hj0 : ¬ (j : Int) < 0 := by omega
            have hd0 : decide ((j : Int) < 0) = false := decide_eq_false hj0
            clear hLj hyj hxj hatj hclj hpmj hmm hpj hbest hbl hps
            have H10 := Lib.hid (show ∀ W : World, Below wr.heap.size wr W → (W.cell? ⟨w.heap.size, 0, none⟩ = some (.slice d.A d.blades.length d.c) ∧ W.cell? ⟨w.heap.size, 1, none⟩ = some (.int .i64 d.bound) ∧ W.cell? ⟨w.heap.size, 2, none⟩ = some (.int .i64 d.stop) ∧ W.cell? ⟨w.heap.size, 3, none⟩ = some (.int .i64 d.bend) ∧ W.cell? ⟨g, j, none⟩ = some (.slice Aj pj.length cj)) from fun W h =>
              ⟨(HXR.out.next h).c 0 _ rfl, (HXR.out.next h).c 1 _ rfl, (HXR.out.next h).c 2 _ rfl, (HXR.out.next h).c 3 _ rfl, ((bcell h).1 _ _ hgw).trans HCJ.out⟩)
            generalize costP d pj = k2 at *
            go_wp2_with fail
            have hc : Below wr.heap.size wr wr.drew := (Below.refl _ _).drew
            refine wp_region_noPanic ?_
            refine wp_region_held_drew (S := (fun W => W.cell? ⟨w.heap.size, 0, none⟩ = some (.slice d.A d.blades.length d.c) ∧ W.cell? ⟨w.heap.size, 1, none⟩ = some (.int .i64 d.bound) ∧ W.cell? ⟨w.heap.size, 2, none⟩ = some (.int .i64 d.stop) ∧ W.cell? ⟨w.heap.size, 3, none⟩ = some (.int .i64 d.bend) ∧ W.cell? ⟨g, j, none⟩ = some (.slice Aj pj.length cj))) (by kernel_rfl) ?_ (fun hHeld => ?_)
            · (try dsimp only); exact H10.out _ hc
            refine htake (i := 0) (v := ?v59) rfl (by kernel_rfl) (by kernel_rfl) (by kernel_rfl) (fun _ _ _ h => h) (Or.inl ⟨by rfl, ?hy59⟩) (by assumption) ?_
            case hy59 => (intro w hSw; (try dsimp only at hSw); go_simp; try (with_reducible rfl))
            try simp only [Act.put, List.setIfInBounds_toArray, List.set_cons_zero, List.set_cons_succ]
            refine htake (i := 1) (v := ?v60) rfl (by kernel_rfl) (by kernel_rfl) (by kernel_rfl) (fun _ _ _ h => h) (Or.inl ⟨by rfl, ?hy60⟩) (by assumption) ?_
            case hy60 => (intro w hSw; (try dsimp only at hSw); go_simp; try (with_reducible rfl))
            try simp only [Act.put, List.setIfInBounds_toArray, List.set_cons_zero, List.set_cons_succ]
            refine htake (i := 2) (v := ?v61) rfl (by kernel_rfl) (by kernel_rfl) (by kernel_rfl) (fun _ _ _ h => h) (Or.inl ⟨by rfl, ?hy61⟩) (by assumption) ?_
            case hy61 => (intro w hSw; (try dsimp only at hSw); go_simp; try (with_reducible rfl))
            try simp only [Act.put, List.setIfInBounds_toArray, List.set_cons_zero, List.set_cons_succ]
            refine htake (i := 3) (v := ?v62) rfl (by kernel_rfl) (by kernel_rfl) (by kernel_rfl) (fun _ _ _ h => h) (Or.inl ⟨by rfl, ?hy62⟩) (by assumption) ?_
            case hy62 => (intro w hSw; (try dsimp only at hSw); go_simp; try (with_reducible rfl))
            try simp only [Act.put, List.setIfInBounds_toArray, List.set_cons_zero, List.set_cons_succ]
            refine htake (i := 4) (v := ?v63) rfl (by kernel_rfl) (by kernel_rfl) (by kernel_rfl) (fun _ _ _ h => h) (Or.inl ⟨by rfl, ?hy63⟩) (by assumption) ?_
            case hy63 => (intro w hSw; (try dsimp only at hSw); go_simp; try (with_reducible rfl))
            try simp only [Act.put, List.setIfInBounds_toArray, List.set_cons_zero, List.set_cons_succ]
            refine htake (i := 5) (v := ?v64) rfl (by kernel_rfl) (by kernel_rfl) (by kernel_rfl) (fun _ _ _ h => h) (Or.inl ⟨by rfl, ?hy64⟩) (by assumption) ?_
            case hy64 => (intro w hSw; (try dsimp only at hSw); go_simp; try (with_reducible rfl))
            try simp only [Act.put, List.setIfInBounds_toArray, List.set_cons_zero, List.set_cons_succ]
            refine htake (i := 6) (v := ?v65) rfl (by kernel_rfl) (by kernel_rfl) (by kernel_rfl) (fun _ _ _ h => h) (Or.inl ⟨by rfl, ?hy65⟩) (by assumption) ?_
            case hy65 => (intro w hSw; (try dsimp only at hSw); go_simp; try (with_reducible rfl))
            try simp only [Act.put, List.setIfInBounds_toArray, List.set_cons_zero, List.set_cons_succ]
            refine htake (i := 7) (v := ?v66) rfl (by kernel_rfl) (by kernel_rfl) (by kernel_rfl) (fun _ _ _ h => h) (Or.inl ⟨by rfl, ?hy66⟩) (by assumption) ?_
            case hy66 => (intro w hSw; (try dsimp only at hSw); go_simp; try (with_reducible rfl))
            try simp only [Act.put, List.setIfInBounds_toArray, List.set_cons_zero, List.set_cons_succ]
            refine htake (i := 8) (v := ?v67) rfl (by kernel_rfl) (by kernel_rfl) (by kernel_rfl) (fun _ _ _ h => h) (Or.inl ⟨by rfl, ?hy67⟩) (by assumption) ?_
            case hy67 => (intro w hSw; (try dsimp only at hSw); go_simp; try (with_reducible rfl))
            try simp only [Act.put, List.setIfInBounds_toArray, List.set_cons_zero, List.set_cons_succ]
            refine wpAnyH_ready (rs := [9]) (by kernel_rfl) (by simp) ?_
            refine hcons rfl (fun K hK => ?_) (AllReadyH.nil)
            go_simp
            (with_reducible refine (HC2.out _ hc).mono ?_); rintro e w6 ⟨rfl, hb6⟩; replace hc := hc.trans (hb6.mono hc.size); clear hb6
            refine hK.out _ _ ?_ (fun hHeld => ?_)
            · (try dsimp only); exact H10.out _ hc
            clear hK K
            try simp only [Act.put, List.setIfInBounds_toArray, List.set_cons_zero, List.set_cons_succ]
            refine htake (i := 10) (v := ?v68) rfl (by kernel_rfl) (by kernel_rfl) (by kernel_rfl) (fun _ _ _ h => h) (Or.inl ⟨by rfl, ?hy68⟩) (by assumption) ?_
            case hy68 => (intro w hSw; (try dsimp only at hSw); go_simp; try (with_reducible rfl))
            try simp only [Act.put, List.setIfInBounds_toArray, List.set_cons_zero, List.set_cons_succ]
            refine htake (i := 11) (v := ?v69) rfl (by kernel_rfl) (by kernel_rfl) (by kernel_rfl) (fun _ _ _ h => h) (Or.inl ⟨by rfl, ?hy69⟩) (by assumption) ?_
            case hy69 => (intro w hSw; (try dsimp only at hSw); go_simp; try (with_reducible rfl))
            try simp only [Act.put, List.setIfInBounds_toArray, List.set_cons_zero, List.set_cons_succ]
            refine htake (i := 12) (v := ?v70) rfl (by kernel_rfl) (by kernel_rfl) (by kernel_rfl) (fun _ _ _ h => h) (Or.inl ⟨by rfl, ?hy70⟩) (by assumption) ?_
            case hy70 => (intro w hSw; (try dsimp only at hSw); go_simp; try (with_reducible rfl))
            try simp only [Act.put, List.setIfInBounds_toArray, List.set_cons_zero, List.set_cons_succ]
            refine wpAnyH_done (by kernel_rfl) ?_ _
            refine NoPanic.normal ?_
            iterate 14 (try clear hHeld)
            all_goals
              go_wp2_with fail
              go_ret3
              rw [HPS.out]
              exact ⟨Aj, cj, rfl, HAJ.out.next hc, BU.out.trans ((HBL.out.trans (hc.mono HBL.out.size)).mono BU.out.size)⟩
    · have hm0 : many = 0 := by omega
      clear hM hmn hpw
      subst hm0
      have h1' : (l.length : Int) ≤ 1 := by omega
      go_wp2_with (go_at_call 57; (with_reducible refine (HPW.out _).mono ?_); rintro e w' ⟨rfl, rfl⟩)
      refine (HPL.out V1 (Nat.le_refl _) (by rw [Nat.zero_add]; exact hmp)).mono ?_
      rintro e U ⟨v8, ys, rfl, hown, hrows, hgr⟩
      have hbU : Below V1.heap.size V1 U := (Below.refl V1.heap.size V1).grown hgr.g (Nat.le_refl _) (fun k hk => by cases hk)
      obtain ⟨L, hL⟩ : ∃ L, L = plansS (List.replicate 0 M) := ⟨_, rfl⟩
      have hext : extS M 0 [] = L := by rw [hL]; unfold extS; simp
      rw [hext] at hrows
      rw [← hL] at HPR
      have hlen : L.length = M ^ 0 := by rw [← hext]; exact ext_len _ _ _
      have hpos : 1 ≤ M ^ 0 := Nat.pow_pos hM1
      have hnum : ∀ p ∈ L, p.length = 0 ∧ ∀ s ∈ p, s < M := by
        intro p hp
        rw [hL] at hp
        obtain ⟨g1, g2⟩ := (mem_plans _ _).1 hp
        rw [List.length_replicate] at g1 g2
        refine ⟨g1, fun s hs => ?_⟩
        obtain ⟨i, hi, rfl⟩ := List.mem_iff_getElem.1 hs
        have := g2 i (by omega)
        rw [List.getD_eq_getElem?_getD, List.getElem?_eq_getElem hi, List.getD_eq_getElem?_getD, List.getElem?_replicate, if_pos (by omega)] at this
        exact this
      rw [List.nil_append, Nat.zero_add, ← hlen] at hown
      obtain ⟨g, cap, rfl, hgb, hgz⟩ := hown.form (by omega)
      have HOW := Lib.hid hown
      have HRW := Lib.hid hrows
      have HNU := Lib.hid hnum
      have BU := Lib.hid (B0.out.trans (hbU.mono B0.out.size))
      have DU := Lib.hid (D0.out.next hbU)
      have SU := Lib.hid (S0.out.next hbU)
      have XU := Lib.hid (X0.out.next hbU)
      have hNb : L.length ≤ 1073741824 := by omega
      clear hlen hown hrows hgr hbU hext hL hnum p0 p1 p2 p3 HPL B0 D0 S0 X0 HPW hpos hmp
      go_wp2_with fail
      go_loopw [9, 10] (fun b i wr => RPlan d l L U b i wr) (fun _ i _ => L.length - (intOf i).toNat)
      case atStart => exact ⟨0, -1, by omega, rfl, rfl, best_start _ _ _, Below.refl _ _⟩
      case round =>
        obtain ⟨q, bi, hq, rfl, rfl, hbest, hbl⟩ := hrel
        by_cases hlt : q < L.length
        · have hown := own_below HOW.out hbl
          obtain ⟨p, hp⟩ : ∃ p, p = L.getD q [] := ⟨_, rfl⟩
          have hLq : L[q]? = some p := by rw [hp, List.getD_eq_getElem?_getD, List.getElem?_eq_getElem hlt]; rfl
          have hyl : q < ys.length := by rw [HRW.out.1]; exact hlt
          have hrow := (HRW.out.2 q _ p (List.getElem?_eq_getElem hyl) hLq).next hbl
          obtain ⟨A9, c9, hx9, hat9⟩ := row_at hrow
          have hcl := hown.cellAt q (by omega)
          rw [List.getElem?_eq_getElem hyl, hx9] at hcl
          have hpm := HNU.out p (List.mem_of_getElem? hLq)
          have hset : setsOf (p.map Int.ofNat) = 0 :: p := by unfold setsOf; rw [toNat_map]
          have hpok : planOk d.blades.length l (p.map Int.ofNat) = true := planOk_iff.2 ⟨fun s hs => by
            obtain ⟨z, hz, rfl⟩ := List.mem_map.1 hs
            refine ⟨Int.natCast_nonneg _, ?_⟩
            rw [← HM.out]
            exact hpm.2 z hz, by rw [List.length_map, hpm.1]; exact HMN.out⟩
          have hml : (p.map Int.ofNat).length = p.length := List.length_map _
          have HBAD := Lib.hid (fun (W : World) (h : Below wr.heap.size wr W) => (show Calls Tryd.prog 29 #[.agg #[.slice d.A d.blades.length d.c, .int .i64 d.bound, .int .i64 d.stop, .int .i64 d.bend], .slice A l.length c, .slice A9 p.length c9] W (Ret (badV (badL d l p)) W) from by
            have := Bad_any d A c l A9 c9 (p.map Int.ofNat) W OK.out OKL.out hpok ((DU.out.next hbl).next h) ((SU.out.next hbl).next h) (hat9.next h)
            rw [hset, hml] at this
            exact this))
          have HXR := Lib.hid (XU.out.next hbl)
          have hgw : g < wr.heap.size := Nat.lt_of_lt_of_le hgz hbl.size
          have HAT := Lib.hid hat9
          have HBL := Lib.hid hbl
          have HBEST := Lib.hid hbest
          have HPP := Lib.hid hp
          have p0 := HXR.out.c 0 _ rfl
          have hqL : (q : Int) < L.length := by omega
          have HCL := Lib.hid hcl
          have HPM := Lib.hid hpm
          clear hpm hown hrow hLq hyl hx9 hcl hat9 hbl hbest hset hpok hml hp
          go_wp2_with fail
          have hc : Below wr.heap.size wr wr.drew := (Below.refl _ _).drew
          have H9 := Lib.hid (show ∀ W : World, Below wr.heap.size wr W → (W.cell? ⟨w.heap.size, 0, none⟩ = some (.slice d.A d.blades.length d.c) ∧ W.cell? ⟨w.heap.size, 1, none⟩ = some (.int .i64 d.bound) ∧ W.cell? ⟨w.heap.size, 2, none⟩ = some (.int .i64 d.stop) ∧ W.cell? ⟨w.heap.size, 3, none⟩ = some (.int .i64 d.bend) ∧ W.cell? ⟨g, q, none⟩ = some (.slice A9 p.length c9)) from fun W h =>
            ⟨(HXR.out.next h).c 0 _ rfl, (HXR.out.next h).c 1 _ rfl, (HXR.out.next h).c 2 _ rfl, (HXR.out.next h).c 3 _ rfl, ((bcell h).1 _ _ hgw).trans HCL.out⟩)
          cases hbad : badL d l p with
          | some bx =>
            rw [hbad] at HBAD
            have HREL := Lib.hid (fun (W : World) (h : Below wr.heap.size wr W) => (show RPlan d l L U (.int .i64 bi) (.int .i64 ((q + 1 : Nat) : Int)) W from ⟨q + 1, bi, by omega, rfl, rfl, best_bad hlt HBEST.out (by rw [← HPP.out]; exact hbad), HBL.out.trans (h.mono HBL.out.size)⟩))
            refine wp_region_noPanic ?_
            refine wp_region_held_drew (S := (fun W => W.cell? ⟨w.heap.size, 0, none⟩ = some (.slice d.A d.blades.length d.c) ∧ W.cell? ⟨w.heap.size, 1, none⟩ = some (.int .i64 d.bound) ∧ W.cell? ⟨w.heap.size, 2, none⟩ = some (.int .i64 d.stop) ∧ W.cell? ⟨w.heap.size, 3, none⟩ = some (.int .i64 d.bend) ∧ W.cell? ⟨g, q, none⟩ = some (.slice A9 p.length c9))) (by kernel_rfl) ?_ (fun hHeld => ?_)
            · (try dsimp only); exact H9.out _ hc
            refine htake (i := 0) (v := ?v71) rfl (by kernel_rfl) (by kernel_rfl) (by kernel_rfl) (fun _ _ _ h => h) (Or.inl ⟨by rfl, ?hy71⟩) (by assumption) ?_
            case hy71 => (intro w hSw; (try dsimp only at hSw); go_simp; try (with_reducible rfl))
            try simp only [Act.put, List.setIfInBounds_toArray, List.set_cons_zero, List.set_cons_succ]
            refine htake (i := 1) (v := ?v72) rfl (by kernel_rfl) (by kernel_rfl) (by kernel_rfl) (fun _ _ _ h => h) (Or.inl ⟨by rfl, ?hy72⟩) (by assumption) ?_
            case hy72 => (intro w hSw; (try dsimp only at hSw); go_simp; try (with_reducible rfl))
            try simp only [Act.put, List.setIfInBounds_toArray, List.set_cons_zero, List.set_cons_succ]
            refine htake (i := 2) (v := ?v73) rfl (by kernel_rfl) (by kernel_rfl) (by kernel_rfl) (fun _ _ _ h => h) (Or.inl ⟨by rfl, ?hy73⟩) (by assumption) ?_
            case hy73 => (intro w hSw; (try dsimp only at hSw); go_simp; try (with_reducible rfl))
            try simp only [Act.put, List.setIfInBounds_toArray, List.set_cons_zero, List.set_cons_succ]
            refine htake (i := 3) (v := ?v74) rfl (by kernel_rfl) (by kernel_rfl) (by kernel_rfl) (fun _ _ _ h => h) (Or.inl ⟨by rfl, ?hy74⟩) (by assumption) ?_
            case hy74 => (intro w hSw; (try dsimp only at hSw); go_simp; try (with_reducible rfl))
            try simp only [Act.put, List.setIfInBounds_toArray, List.set_cons_zero, List.set_cons_succ]
            refine htake (i := 4) (v := ?v75) rfl (by kernel_rfl) (by kernel_rfl) (by kernel_rfl) (fun _ _ _ h => h) (Or.inl ⟨by rfl, ?hy75⟩) (by assumption) ?_
            case hy75 => (intro w hSw; (try dsimp only at hSw); go_simp; try (with_reducible rfl))
            try simp only [Act.put, List.setIfInBounds_toArray, List.set_cons_zero, List.set_cons_succ]
            refine htake (i := 5) (v := ?v76) rfl (by kernel_rfl) (by kernel_rfl) (by kernel_rfl) (fun _ _ _ h => h) (Or.inl ⟨by rfl, ?hy76⟩) (by assumption) ?_
            case hy76 => (intro w hSw; (try dsimp only at hSw); go_simp; try (with_reducible rfl))
            try simp only [Act.put, List.setIfInBounds_toArray, List.set_cons_zero, List.set_cons_succ]
            refine wpAnyH_ready (rs := [6]) (by kernel_rfl) (by simp) ?_
            refine hcons rfl (fun K hK => ?_) (AllReadyH.nil)
            go_simp
            (with_reducible refine (HBAD.out _ hc).mono ?_); rintro e w4 ⟨rfl, hb4⟩; replace hc := hc.trans (hb4.mono hc.size); clear hb4; dsimp only [badV]
            refine hK.out _ _ ?_ (fun hHeld => ?_)
            · (try dsimp only); exact H9.out _ hc
            clear hK K
            try simp only [Act.put, List.setIfInBounds_toArray, List.set_cons_zero, List.set_cons_succ]
            refine htake (i := 7) (v := ?v77) rfl (by kernel_rfl) (by kernel_rfl) (by kernel_rfl) (fun _ _ _ h => h) (Or.inl ⟨by rfl, ?hy77⟩) (by assumption) ?_
            case hy77 => (intro w hSw; (try dsimp only at hSw); go_simp; try (with_reducible rfl))
            try simp only [Act.put, List.setIfInBounds_toArray, List.set_cons_zero, List.set_cons_succ]
            refine htake (i := 8) (v := ?v78) rfl (by kernel_rfl) (by kernel_rfl) (by kernel_rfl) (fun _ _ _ h => h) (Or.inl ⟨by rfl, ?hy78⟩) (by assumption) ?_
            case hy78 => (intro w hSw; (try dsimp only at hSw); go_simp; try (with_reducible rfl))
            try simp only [Act.put, List.setIfInBounds_toArray, List.set_cons_zero, List.set_cons_succ]
            refine htake (i := 9) (v := ?v79) rfl (by kernel_rfl) (by kernel_rfl) (by kernel_rfl) (fun _ _ _ h => h) (Or.inl ⟨by rfl, ?hy79⟩) (by assumption) ?_
            case hy79 => (intro w hSw; (try dsimp only at hSw); go_simp; try (with_reducible rfl))
            try simp only [Act.put, List.setIfInBounds_toArray, List.set_cons_zero, List.set_cons_succ]
            refine htake (i := 10) (v := ?v80) rfl (by kernel_rfl) (by kernel_rfl) (by kernel_rfl) (fun _ _ _ h => h) (Or.inl ⟨by rfl, ?hy80⟩) (by assumption) ?_
            case hy80 => (intro w hSw; (try dsimp only at hSw); go_simp; try (with_reducible rfl))
            try simp only [Act.put, List.setIfInBounds_toArray, List.set_cons_zero, List.set_cons_succ]
            refine htake (i := 11) (v := ?v81) rfl (by kernel_rfl) (by kernel_rfl) (by kernel_rfl) (fun _ _ _ h => h) (Or.inl ⟨by rfl, ?hy81⟩) (by assumption) ?_
            case hy81 => (intro w hSw; (try dsimp only at hSw); go_simp; try (with_reducible rfl))
            try simp only [Act.put, List.setIfInBounds_toArray, List.set_cons_zero, List.set_cons_succ]
            refine htake (i := 12) (v := ?v82) rfl (by kernel_rfl) (by kernel_rfl) (by kernel_rfl) (fun _ _ _ h => h) (Or.inl ⟨by rfl, ?hy82⟩) (by assumption) ?_
            case hy82 => (intro w hSw; (try dsimp only at hSw); go_simp; try (with_reducible rfl))
            try simp only [Act.put, List.setIfInBounds_toArray, List.set_cons_zero, List.set_cons_succ]
            refine htake (i := 13) (v := ?v83) rfl (by kernel_rfl) (by kernel_rfl) (by kernel_rfl) (fun _ _ _ h => h) (Or.inl ⟨by rfl, ?hy83⟩) (by assumption) ?_
            case hy83 => (intro w hSw; (try dsimp only at hSw); go_simp; try (with_reducible rfl))
            try simp only [Act.put, List.setIfInBounds_toArray, List.set_cons_zero, List.set_cons_succ]
            refine wpAnyH_done (by kernel_rfl) ?_ _
            refine NoPanic.normal ?_
            iterate 15 (try clear hHeld)
            go_wp2_with fail
            go_quiet (fail)
            go_wp2_with fail
            go_roundw
            case rel => exact HREL.out _ (below_drewN hc _)
            case measure => simp [intOf]; omega
          | none =>
            rw [hbad] at HBAD
            have HGO := Lib.hid (show badL d l (L.getD q []) = none by rw [← HPP.out]; exact hbad)
            clear hbad
            rcases id HBEST.out with ⟨-, hb1⟩ | ⟨j, hj1, hj2, hj3, -⟩
            · subst hb1
              have HREL := Lib.hid (fun (W : World) (h : Below wr.heap.size wr W) => (show RPlan d l L U (.int .i64 (q : Nat)) (.int .i64 ((q + 1 : Nat) : Int)) W from ⟨q + 1, q, by omega, rfl, rfl, best_first hlt HBEST.out HGO.out (by omega), HBL.out.trans (h.mono HBL.out.size)⟩))
              refine wp_region_noPanic ?_
              refine wp_region_held_drew (S := (fun W => W.cell? ⟨w.heap.size, 0, none⟩ = some (.slice d.A d.blades.length d.c) ∧ W.cell? ⟨w.heap.size, 1, none⟩ = some (.int .i64 d.bound) ∧ W.cell? ⟨w.heap.size, 2, none⟩ = some (.int .i64 d.stop) ∧ W.cell? ⟨w.heap.size, 3, none⟩ = some (.int .i64 d.bend) ∧ W.cell? ⟨g, q, none⟩ = some (.slice A9 p.length c9))) (by kernel_rfl) ?_ (fun hHeld => ?_)
              · (try dsimp only); exact H9.out _ hc
              refine htake (i := 0) (v := ?v84) rfl (by kernel_rfl) (by kernel_rfl) (by kernel_rfl) (fun _ _ _ h => h) (Or.inl ⟨by rfl, ?hy84⟩) (by assumption) ?_
              case hy84 => (intro w hSw; (try dsimp only at hSw); go_simp; try (with_reducible rfl))
              try simp only [Act.put, List.setIfInBounds_toArray, List.set_cons_zero, List.set_cons_succ]
              refine htake (i := 1) (v := ?v85) rfl (by kernel_rfl) (by kernel_rfl) (by kernel_rfl) (fun _ _ _ h => h) (Or.inl ⟨by rfl, ?hy85⟩) (by assumption) ?_
              case hy85 => (intro w hSw; (try dsimp only at hSw); go_simp; try (with_reducible rfl))
              try simp only [Act.put, List.setIfInBounds_toArray, List.set_cons_zero, List.set_cons_succ]
              refine htake (i := 2) (v := ?v86) rfl (by kernel_rfl) (by kernel_rfl) (by kernel_rfl) (fun _ _ _ h => h) (Or.inl ⟨by rfl, ?hy86⟩) (by assumption) ?_
              case hy86 => (intro w hSw; (try dsimp only at hSw); go_simp; try (with_reducible rfl))
              try simp only [Act.put, List.setIfInBounds_toArray, List.set_cons_zero, List.set_cons_succ]
              refine htake (i := 3) (v := ?v87) rfl (by kernel_rfl) (by kernel_rfl) (by kernel_rfl) (fun _ _ _ h => h) (Or.inl ⟨by rfl, ?hy87⟩) (by assumption) ?_
              case hy87 => (intro w hSw; (try dsimp only at hSw); go_simp; try (with_reducible rfl))
              try simp only [Act.put, List.setIfInBounds_toArray, List.set_cons_zero, List.set_cons_succ]
              refine htake (i := 4) (v := ?v88) rfl (by kernel_rfl) (by kernel_rfl) (by kernel_rfl) (fun _ _ _ h => h) (Or.inl ⟨by rfl, ?hy88⟩) (by assumption) ?_
              case hy88 => (intro w hSw; (try dsimp only at hSw); go_simp; try (with_reducible rfl))
              try simp only [Act.put, List.setIfInBounds_toArray, List.set_cons_zero, List.set_cons_succ]
              refine htake (i := 5) (v := ?v89) rfl (by kernel_rfl) (by kernel_rfl) (by kernel_rfl) (fun _ _ _ h => h) (Or.inl ⟨by rfl, ?hy89⟩) (by assumption) ?_
              case hy89 => (intro w hSw; (try dsimp only at hSw); go_simp; try (with_reducible rfl))
              try simp only [Act.put, List.setIfInBounds_toArray, List.set_cons_zero, List.set_cons_succ]
              refine wpAnyH_ready (rs := [6]) (by kernel_rfl) (by simp) ?_
              refine hcons rfl (fun K hK => ?_) (AllReadyH.nil)
              go_simp
              (with_reducible refine (HBAD.out _ hc).mono ?_); rintro e w4 ⟨rfl, hb4⟩; replace hc := hc.trans (hb4.mono hc.size); clear hb4; dsimp only [badV]
              refine hK.out _ _ ?_ (fun hHeld => ?_)
              · (try dsimp only); exact H9.out _ hc
              clear hK K
              try simp only [Act.put, List.setIfInBounds_toArray, List.set_cons_zero, List.set_cons_succ]
              refine htake (i := 7) (v := ?v90) rfl (by kernel_rfl) (by kernel_rfl) (by kernel_rfl) (fun _ _ _ h => h) (Or.inl ⟨by rfl, ?hy90⟩) (by assumption) ?_
              case hy90 => (intro w hSw; (try dsimp only at hSw); go_simp; try (with_reducible rfl))
              try simp only [Act.put, List.setIfInBounds_toArray, List.set_cons_zero, List.set_cons_succ]
              refine htake (i := 8) (v := ?v91) rfl (by kernel_rfl) (by kernel_rfl) (by kernel_rfl) (fun _ _ _ h => h) (Or.inl ⟨by rfl, ?hy91⟩) (by assumption) ?_
              case hy91 => (intro w hSw; (try dsimp only at hSw); go_simp; try (with_reducible rfl))
              try simp only [Act.put, List.setIfInBounds_toArray, List.set_cons_zero, List.set_cons_succ]
              refine htake (i := 9) (v := ?v92) rfl (by kernel_rfl) (by kernel_rfl) (by kernel_rfl) (fun _ _ _ h => h) (Or.inl ⟨by rfl, ?hy92⟩) (by assumption) ?_
              case hy92 => (intro w hSw; (try dsimp only at hSw); go_simp; try (with_reducible rfl))
              try simp only [Act.put, List.setIfInBounds_toArray, List.set_cons_zero, List.set_cons_succ]
              refine htake (i := 10) (v := ?v93) rfl (by kernel_rfl) (by kernel_rfl) (by kernel_rfl) (fun _ _ _ h => h) (Or.inl ⟨by rfl, ?hy93⟩) (by assumption) ?_
              case hy93 => (intro w hSw; (try dsimp only at hSw); go_simp; try (with_reducible rfl))
              try simp only [Act.put, List.setIfInBounds_toArray, List.set_cons_zero, List.set_cons_succ]
              refine htake (i := 11) (v := ?v94) rfl (by kernel_rfl) (by kernel_rfl) (by kernel_rfl) (fun _ _ _ h => h) (Or.inl ⟨by rfl, ?hy94⟩) (by assumption) ?_
              case hy94 => (intro w hSw; (try dsimp only at hSw); go_simp; try (with_reducible rfl))
              try simp only [Act.put, List.setIfInBounds_toArray, List.set_cons_zero, List.set_cons_succ]
              refine htake (i := 12) (v := ?v95) rfl (by kernel_rfl) (by kernel_rfl) (by kernel_rfl) (fun _ _ _ h => h) (Or.inl ⟨by rfl, ?hy95⟩) (by assumption) ?_
              case hy95 => (intro w hSw; (try dsimp only at hSw); go_simp; try (with_reducible rfl))
              try simp only [Act.put, List.setIfInBounds_toArray, List.set_cons_zero, List.set_cons_succ]
              refine htake (i := 13) (v := ?v96) rfl (by kernel_rfl) (by kernel_rfl) (by kernel_rfl) (fun _ _ _ h => h) (Or.inl ⟨by rfl, ?hy96⟩) (by assumption) ?_
              case hy96 => (intro w hSw; (try dsimp only at hSw); go_simp; try (with_reducible rfl))
              try simp only [Act.put, List.setIfInBounds_toArray, List.set_cons_zero, List.set_cons_succ]
              refine wpAnyH_done (by kernel_rfl) ?_ _
              refine NoPanic.normal ?_
              iterate 15 (try clear hHeld)
              go_wp2_with fail
              go_quiet (fail)
              go_wp2_with fail
              go_roundw
              case rel => exact HREL.out _ (below_drewN hc _)
              case measure => simp [intOf]; omega
            · subst hj3
              obtain ⟨pj, hpj⟩ : ∃ pj, pj = L.getD j [] := ⟨_, rfl⟩
              have hLj : L[j]? = some pj := by rw [hpj, List.getD_eq_getElem?_getD, List.getElem?_eq_getElem hj2]; rfl
              have hyj : j < ys.length := by rw [HRW.out.1]; exact hj2
              obtain ⟨Aj, cj, hxj, hatj⟩ := row_at ((HRW.out.2 j _ pj (List.getElem?_eq_getElem hyj) hLj).next HBL.out)
              have hclj := (own_below HOW.out HBL.out).cellAt j (by omega)
              rw [List.getElem?_eq_getElem hyj, hxj] at hclj
              have hpmj := HNU.out pj (List.mem_of_getElem? hLj)
              have hmm := HMN.out
              have HC1 := Lib.hid (fun (W : World) (h : Below wr.heap.size wr W) => (show Calls Tryd.prog 31 #[.agg #[.slice d.A d.blades.length d.c, .int .i64 d.bound, .int .i64 d.stop, .int .i64 d.bend], .slice A9 p.length c9] W (Ret (.int .i64 (costP d p)) W) from cost_row OK.out (fun s hs => Nat.lt_of_lt_of_le (HPM.out.2 s hs) hM32) (by rw [HPM.out.1]; omega) (HAT.out.next h)))
              have HC2 := Lib.hid (fun (W : World) (h : Below wr.heap.size wr W) => (show Calls Tryd.prog 31 #[.agg #[.slice d.A d.blades.length d.c, .int .i64 d.bound, .int .i64 d.stop, .int .i64 d.bend], .slice Aj pj.length cj] W (Ret (.int .i64 (costP d pj)) W) from cost_row OK.out (fun s hs => Nat.lt_of_lt_of_le (hpmj.2 s hs) hM32) (by rw [hpmj.1]; omega) (hatj.next h)))
              have HLS := Lib.hid (fun h => best_less (j := j) hlt HBEST.out HGO.out h)
              have HKP := Lib.hid (fun h => best_keep (j := j) hlt HBEST.out HGO.out h)
              rw [← HPP.out, ← hpj] at HLS HKP
              have HCJ := Lib.hid hclj
              clear hLj hyj hxj hatj hclj hpmj hmm hpj
              have hjI : (j : Int) < L.length := by omega
              have hj0 : ¬ (j : Int) < 0 := by omega
              have hd0 : decide ((j : Int) < 0) = false := decide_eq_false hj0
              have H10 := Lib.hid (show ∀ W : World, Below wr.heap.size wr W → (W.cell? ⟨w.heap.size, 0, none⟩ = some (.slice d.A d.blades.length d.c) ∧ W.cell? ⟨w.heap.size, 1, none⟩ = some (.int .i64 d.bound) ∧ W.cell? ⟨w.heap.size, 2, none⟩ = some (.int .i64 d.stop) ∧ W.cell? ⟨w.heap.size, 3, none⟩ = some (.int .i64 d.bend) ∧ W.cell? ⟨g, q, none⟩ = some (.slice A9 p.length c9) ∧ W.cell? ⟨g, j, none⟩ = some (.slice Aj pj.length cj)) from fun W h =>
                ⟨(H9.out W h).1, (H9.out W h).2.1, (H9.out W h).2.2.1, (H9.out W h).2.2.2.1, (H9.out W h).2.2.2.2, ((bcell h).1 _ _ hgw).trans HCJ.out⟩)
              have HRELk := Lib.hid (fun (W : World) (hh : ¬ costP d p < costP d pj) (h : Below wr.heap.size wr W) => (show RPlan d l L U (.int .i64 (j : Nat)) (.int .i64 ((q + 1 : Nat) : Int)) W from ⟨q + 1, j, by omega, rfl, rfl, HKP.out hh, HBL.out.trans (h.mono HBL.out.size)⟩))
              have HRELl := Lib.hid (fun (W : World) (hh : costP d p < costP d pj) (h : Below wr.heap.size wr W) => (show RPlan d l L U (.int .i64 (q : Nat)) (.int .i64 ((q + 1 : Nat) : Int)) W from ⟨q + 1, q, by omega, rfl, rfl, HLS.out hh, HBL.out.trans (h.mono HBL.out.size)⟩))
              generalize costP d p = k1 at *
              generalize costP d pj = k2 at *
              refine wp_region_noPanic ?_
              refine wp_region_held_drew (S := (fun W => W.cell? ⟨w.heap.size, 0, none⟩ = some (.slice d.A d.blades.length d.c) ∧ W.cell? ⟨w.heap.size, 1, none⟩ = some (.int .i64 d.bound) ∧ W.cell? ⟨w.heap.size, 2, none⟩ = some (.int .i64 d.stop) ∧ W.cell? ⟨w.heap.size, 3, none⟩ = some (.int .i64 d.bend) ∧ W.cell? ⟨g, q, none⟩ = some (.slice A9 p.length c9))) (by kernel_rfl) ?_ (fun hHeld => ?_)
              · (try dsimp only); exact H9.out _ hc
              refine htake (i := 0) (v := ?v97) rfl (by kernel_rfl) (by kernel_rfl) (by kernel_rfl) (fun _ _ _ h => h) (Or.inl ⟨by rfl, ?hy97⟩) (by assumption) ?_
              case hy97 => (intro w hSw; (try dsimp only at hSw); go_simp; try (with_reducible rfl))
              try simp only [Act.put, List.setIfInBounds_toArray, List.set_cons_zero, List.set_cons_succ]
              refine htake (i := 1) (v := ?v98) rfl (by kernel_rfl) (by kernel_rfl) (by kernel_rfl) (fun _ _ _ h => h) (Or.inl ⟨by rfl, ?hy98⟩) (by assumption) ?_
              case hy98 => (intro w hSw; (try dsimp only at hSw); go_simp; try (with_reducible rfl))
              try simp only [Act.put, List.setIfInBounds_toArray, List.set_cons_zero, List.set_cons_succ]
              refine htake (i := 2) (v := ?v99) rfl (by kernel_rfl) (by kernel_rfl) (by kernel_rfl) (fun _ _ _ h => h) (Or.inl ⟨by rfl, ?hy99⟩) (by assumption) ?_
              case hy99 => (intro w hSw; (try dsimp only at hSw); go_simp; try (with_reducible rfl))
              try simp only [Act.put, List.setIfInBounds_toArray, List.set_cons_zero, List.set_cons_succ]
              refine htake (i := 3) (v := ?v100) rfl (by kernel_rfl) (by kernel_rfl) (by kernel_rfl) (fun _ _ _ h => h) (Or.inl ⟨by rfl, ?hy100⟩) (by assumption) ?_
              case hy100 => (intro w hSw; (try dsimp only at hSw); go_simp; try (with_reducible rfl))
              try simp only [Act.put, List.setIfInBounds_toArray, List.set_cons_zero, List.set_cons_succ]
              refine htake (i := 4) (v := ?v101) rfl (by kernel_rfl) (by kernel_rfl) (by kernel_rfl) (fun _ _ _ h => h) (Or.inl ⟨by rfl, ?hy101⟩) (by assumption) ?_
              case hy101 => (intro w hSw; (try dsimp only at hSw); go_simp; try (with_reducible rfl))
              try simp only [Act.put, List.setIfInBounds_toArray, List.set_cons_zero, List.set_cons_succ]
              refine htake (i := 5) (v := ?v102) rfl (by kernel_rfl) (by kernel_rfl) (by kernel_rfl) (fun _ _ _ h => h) (Or.inl ⟨by rfl, ?hy102⟩) (by assumption) ?_
              case hy102 => (intro w hSw; (try dsimp only at hSw); go_simp; try (with_reducible rfl))
              try simp only [Act.put, List.setIfInBounds_toArray, List.set_cons_zero, List.set_cons_succ]
              refine wpAnyH_ready (rs := [6]) (by kernel_rfl) (by simp) ?_
              refine hcons rfl (fun K hK => ?_) (AllReadyH.nil)
              go_simp
              (with_reducible refine (HBAD.out _ hc).mono ?_); rintro e w4 ⟨rfl, hb4⟩; replace hc := hc.trans (hb4.mono hc.size); clear hb4; dsimp only [badV]
              refine hK.out _ _ ?_ (fun hHeld => ?_)
              · (try dsimp only); exact H9.out _ hc
              clear hK K
              try simp only [Act.put, List.setIfInBounds_toArray, List.set_cons_zero, List.set_cons_succ]
              refine htake (i := 7) (v := ?v103) rfl (by kernel_rfl) (by kernel_rfl) (by kernel_rfl) (fun _ _ _ h => h) (Or.inl ⟨by rfl, ?hy103⟩) (by assumption) ?_
              case hy103 => (intro w hSw; (try dsimp only at hSw); go_simp; try (with_reducible rfl))
              try simp only [Act.put, List.setIfInBounds_toArray, List.set_cons_zero, List.set_cons_succ]
              refine htake (i := 8) (v := ?v104) rfl (by kernel_rfl) (by kernel_rfl) (by kernel_rfl) (fun _ _ _ h => h) (Or.inl ⟨by rfl, ?hy104⟩) (by assumption) ?_
              case hy104 => (intro w hSw; (try dsimp only at hSw); go_simp; try (with_reducible rfl))
              try simp only [Act.put, List.setIfInBounds_toArray, List.set_cons_zero, List.set_cons_succ]
              refine htake (i := 9) (v := ?v105) rfl (by kernel_rfl) (by kernel_rfl) (by kernel_rfl) (fun _ _ _ h => h) (Or.inl ⟨by rfl, ?hy105⟩) (by assumption) ?_
              case hy105 => (intro w hSw; (try dsimp only at hSw); go_simp; try (with_reducible rfl))
              try simp only [Act.put, List.setIfInBounds_toArray, List.set_cons_zero, List.set_cons_succ]
              refine htake (i := 10) (v := ?v106) rfl (by kernel_rfl) (by kernel_rfl) (by kernel_rfl) (fun _ _ _ h => h) (Or.inl ⟨by rfl, ?hy106⟩) (by assumption) ?_
              case hy106 => (intro w hSw; (try dsimp only at hSw); go_simp; try (with_reducible rfl))
              try simp only [Act.put, List.setIfInBounds_toArray, List.set_cons_zero, List.set_cons_succ]
              refine htake (i := 11) (v := ?v107) rfl (by kernel_rfl) (by kernel_rfl) (by kernel_rfl) (fun _ _ _ h => h) (Or.inl ⟨by rfl, ?hy107⟩) (by assumption) ?_
              case hy107 => (intro w hSw; (try dsimp only at hSw); go_simp; try (with_reducible rfl))
              try simp only [Act.put, List.setIfInBounds_toArray, List.set_cons_zero, List.set_cons_succ]
              refine htake (i := 12) (v := ?v108) rfl (by kernel_rfl) (by kernel_rfl) (by kernel_rfl) (fun _ _ _ h => h) (Or.inl ⟨by rfl, ?hy108⟩) (by assumption) ?_
              case hy108 => (intro w hSw; (try dsimp only at hSw); go_simp; try (with_reducible rfl))
              try simp only [Act.put, List.setIfInBounds_toArray, List.set_cons_zero, List.set_cons_succ]
              refine htake (i := 13) (v := ?v109) rfl (by kernel_rfl) (by kernel_rfl) (by kernel_rfl) (fun _ _ _ h => h) (Or.inl ⟨by rfl, ?hy109⟩) (by assumption) ?_
              case hy109 => (intro w hSw; (try dsimp only at hSw); go_simp; try (with_reducible rfl))
              try simp only [Act.put, List.setIfInBounds_toArray, List.set_cons_zero, List.set_cons_succ]
              refine wpAnyH_done (by kernel_rfl) ?_ _
              refine NoPanic.normal ?_
              iterate 15 (try clear hHeld)
              go_wp2_with fail
              have hc9 := hc
              replace hc := hc.drew
              refine wp_region_noPanic ?_
              refine wp_region_held_drew (S := (fun W => W.cell? ⟨w.heap.size, 0, none⟩ = some (.slice d.A d.blades.length d.c) ∧ W.cell? ⟨w.heap.size, 1, none⟩ = some (.int .i64 d.bound) ∧ W.cell? ⟨w.heap.size, 2, none⟩ = some (.int .i64 d.stop) ∧ W.cell? ⟨w.heap.size, 3, none⟩ = some (.int .i64 d.bend) ∧ W.cell? ⟨g, q, none⟩ = some (.slice A9 p.length c9) ∧ W.cell? ⟨g, j, none⟩ = some (.slice Aj pj.length cj))) (by kernel_rfl) ?_ (fun hHeld => ?_)
              · (try dsimp only); exact H10.out _ hc
              refine htake (i := 0) (v := ?v110) rfl (by kernel_rfl) (by kernel_rfl) (by kernel_rfl) (fun _ _ _ h => h) (Or.inl ⟨by rfl, ?hy110⟩) (by assumption) ?_
              case hy110 => (intro w hSw; (try dsimp only at hSw); go_simp; try (with_reducible rfl))
              try simp only [Act.put, List.setIfInBounds_toArray, List.set_cons_zero, List.set_cons_succ]
              refine htake (i := 1) (v := ?v111) rfl (by kernel_rfl) (by kernel_rfl) (by kernel_rfl) (fun _ _ _ h => h) (Or.inl ⟨by rfl, ?hy111⟩) (by assumption) ?_
              case hy111 => (intro w hSw; (try dsimp only at hSw); go_simp; try (with_reducible rfl))
              try simp only [Act.put, List.setIfInBounds_toArray, List.set_cons_zero, List.set_cons_succ]
              refine htake (i := 2) (v := ?v112) rfl (by kernel_rfl) (by kernel_rfl) (by kernel_rfl) (fun _ _ _ h => h) (Or.inl ⟨by rfl, ?hy112⟩) (by assumption) ?_
              case hy112 => (intro w hSw; (try dsimp only at hSw); go_simp; try (with_reducible rfl))
              try simp only [Act.put, List.setIfInBounds_toArray, List.set_cons_zero, List.set_cons_succ]
              refine htake (i := 3) (v := ?v113) rfl (by kernel_rfl) (by kernel_rfl) (by kernel_rfl) (fun _ _ _ h => h) (Or.inl ⟨by rfl, ?hy113⟩) (by assumption) ?_
              case hy113 => (intro w hSw; (try dsimp only at hSw); go_simp; try (with_reducible rfl))
              try simp only [Act.put, List.setIfInBounds_toArray, List.set_cons_zero, List.set_cons_succ]
              refine htake (i := 4) (v := ?v114) rfl (by kernel_rfl) (by kernel_rfl) (by kernel_rfl) (fun _ _ _ h => h) (Or.inl ⟨by rfl, ?hy114⟩) (by assumption) ?_
              case hy114 => (intro w hSw; (try dsimp only at hSw); go_simp; try (with_reducible rfl))
              try simp only [Act.put, List.setIfInBounds_toArray, List.set_cons_zero, List.set_cons_succ]
              refine htake (i := 5) (v := ?v115) rfl (by kernel_rfl) (by kernel_rfl) (by kernel_rfl) (fun _ _ _ h => h) (Or.inl ⟨by rfl, ?hy115⟩) (by assumption) ?_
              case hy115 => (intro w hSw; (try dsimp only at hSw); go_simp; try (with_reducible rfl))
              try simp only [Act.put, List.setIfInBounds_toArray, List.set_cons_zero, List.set_cons_succ]
              refine htake (i := 6) (v := ?v116) rfl (by kernel_rfl) (by kernel_rfl) (by kernel_rfl) (fun _ _ _ h => h) (Or.inl ⟨by rfl, ?hy116⟩) (by assumption) ?_
              case hy116 => (intro w hSw; (try dsimp only at hSw); go_simp; try (with_reducible rfl))
              try simp only [Act.put, List.setIfInBounds_toArray, List.set_cons_zero, List.set_cons_succ]
              refine htake (i := 7) (v := ?v117) rfl (by kernel_rfl) (by kernel_rfl) (by kernel_rfl) (fun _ _ _ h => h) (Or.inl ⟨by rfl, ?hy117⟩) (by assumption) ?_
              case hy117 => (intro w hSw; (try dsimp only at hSw); go_simp; try (with_reducible rfl))
              try simp only [Act.put, List.setIfInBounds_toArray, List.set_cons_zero, List.set_cons_succ]
              refine htake (i := 8) (v := ?v118) rfl (by kernel_rfl) (by kernel_rfl) (by kernel_rfl) (fun _ _ _ h => h) (Or.inl ⟨by rfl, ?hy118⟩) (by assumption) ?_
              case hy118 => (intro w hSw; (try dsimp only at hSw); go_simp; try (with_reducible rfl))
              try simp only [Act.put, List.setIfInBounds_toArray, List.set_cons_zero, List.set_cons_succ]
              refine htake (i := 9) (v := ?v119) rfl (by kernel_rfl) (by kernel_rfl) (by kernel_rfl) (fun _ _ _ h => h) (Or.inl ⟨by rfl, ?hy119⟩) (by assumption) ?_
              case hy119 => (intro w hSw; (try dsimp only at hSw); go_simp; try (with_reducible rfl))
              try simp only [Act.put, List.setIfInBounds_toArray, List.set_cons_zero, List.set_cons_succ]
              refine htake (i := 10) (v := ?v120) rfl (by kernel_rfl) (by kernel_rfl) (by kernel_rfl) (fun _ _ _ h => h) (Or.inl ⟨by rfl, ?hy120⟩) (by assumption) ?_
              case hy120 => (intro w hSw; (try dsimp only at hSw); go_simp; try (with_reducible rfl))
              try simp only [Act.put, List.setIfInBounds_toArray, List.set_cons_zero, List.set_cons_succ]
              refine htake (i := 12) (v := ?v121) rfl (by kernel_rfl) (by kernel_rfl) (by kernel_rfl) (fun _ _ _ h => h) (Or.inl ⟨by rfl, ?hy121⟩) (by assumption) ?_
              case hy121 => (intro w hSw; (try dsimp only at hSw); go_simp; try (with_reducible rfl))
              try simp only [Act.put, List.setIfInBounds_toArray, List.set_cons_zero, List.set_cons_succ]
              refine htake (i := 13) (v := ?v122) rfl (by kernel_rfl) (by kernel_rfl) (by kernel_rfl) (fun _ _ _ h => h) (Or.inl ⟨by rfl, ?hy122⟩) (by assumption) ?_
              case hy122 => (intro w hSw; (try dsimp only at hSw); go_simp; try (with_reducible rfl))
              try simp only [Act.put, List.setIfInBounds_toArray, List.set_cons_zero, List.set_cons_succ]
              refine htake (i := 14) (v := ?v123) rfl (by kernel_rfl) (by kernel_rfl) (by kernel_rfl) (fun _ _ _ h => h) (Or.inl ⟨by rfl, ?hy123⟩) (by assumption) ?_
              case hy123 => (intro w hSw; (try dsimp only at hSw); go_simp; try (with_reducible rfl))
              try simp only [Act.put, List.setIfInBounds_toArray, List.set_cons_zero, List.set_cons_succ]
              refine htake (i := 15) (v := ?v124) rfl (by kernel_rfl) (by kernel_rfl) (by kernel_rfl) (fun _ _ _ h => h) (Or.inl ⟨by rfl, ?hy124⟩) (by assumption) ?_
              case hy124 => (intro w hSw; (try dsimp only at hSw); go_simp; try (with_reducible rfl))
              try simp only [Act.put, List.setIfInBounds_toArray, List.set_cons_zero, List.set_cons_succ]
              refine htake (i := 16) (v := ?v125) rfl (by kernel_rfl) (by kernel_rfl) (by kernel_rfl) (fun _ _ _ h => h) (Or.inl ⟨by rfl, ?hy125⟩) (by assumption) ?_
              case hy125 => (intro w hSw; (try dsimp only at hSw); go_simp; try (with_reducible rfl))
              try simp only [Act.put, List.setIfInBounds_toArray, List.set_cons_zero, List.set_cons_succ]
              refine wpAnyH_ready (rs := [11]) (by kernel_rfl) (by simp) ?_
              refine hcons rfl (fun K hK => ?_) (AllReadyH.nil)
              go_simp
              (with_reducible refine (HC1.out _ hc).mono ?_); rintro e w5 ⟨rfl, hb5⟩; replace hc := hc.trans (hb5.mono hc.size); clear hb5
              refine hK.out _ _ ?_ (fun hHeld => ?_)
              · (try dsimp only); exact H10.out _ hc
              clear hK K
              try simp only [Act.put, List.setIfInBounds_toArray, List.set_cons_zero, List.set_cons_succ]
              refine wpAnyH_ready (rs := [17]) (by kernel_rfl) (by simp) ?_
              refine hcons rfl (fun K hK => ?_) (AllReadyH.nil)
              go_simp
              (with_reducible refine (HC2.out _ hc).mono ?_); rintro e w6 ⟨rfl, hb6⟩; replace hc := hc.trans (hb6.mono hc.size); clear hb6
              refine hK.out _ _ ?_ (fun hHeld => ?_)
              · (try dsimp only); exact H10.out _ hc
              clear hK K
              try simp only [Act.put, List.setIfInBounds_toArray, List.set_cons_zero, List.set_cons_succ]
              refine htake (i := 18) (v := ?v126) rfl (by kernel_rfl) (by kernel_rfl) (by kernel_rfl) (fun _ _ _ h => h) (Or.inl ⟨by rfl, ?hy126⟩) (by assumption) ?_
              case hy126 => (intro w hSw; (try dsimp only at hSw); go_simp; try (with_reducible rfl))
              try simp only [Act.put, List.setIfInBounds_toArray, List.set_cons_zero, List.set_cons_succ]
              refine htake (i := 19) (v := ?v127) rfl (by kernel_rfl) (by kernel_rfl) (by kernel_rfl) (fun _ _ _ h => h) (Or.inl ⟨by rfl, ?hy127⟩) (by assumption) ?_
              case hy127 => (intro w hSw; (try dsimp only at hSw); go_simp; try (with_reducible rfl))
              try simp only [Act.put, List.setIfInBounds_toArray, List.set_cons_zero, List.set_cons_succ]
              refine htake (i := 20) (v := ?v128) rfl (by kernel_rfl) (by kernel_rfl) (by kernel_rfl) (fun _ _ _ h => h) (Or.inl ⟨by rfl, ?hy128⟩) (by assumption) ?_
              case hy128 => (intro w hSw; (try dsimp only at hSw); go_simp; try (with_reducible rfl))
              try simp only [Act.put, List.setIfInBounds_toArray, List.set_cons_zero, List.set_cons_succ]
              refine wpAnyH_done (by kernel_rfl) ?_ _
              refine NoPanic.normal ?_
              iterate 22 (try clear hHeld)
              by_cases hk : k1 < k2
              · have dk : decide (k1 < k2) = true := decide_eq_true hk
                go_wp2_with fail
                go_roundw
                case rel => exact HRELl.out _ hk hc
                case measure => simp [intOf]; omega
              · have dk : decide (k1 < k2) = false := decide_eq_false hk
                go_wp2_with fail
                go_roundw
                case rel => exact HRELk.out _ (by omega) hc
                case measure => simp [intOf]; omega
        · obtain rfl : q = L.length := by omega
          rcases HPR.out bi hbest with ⟨rfl, hps⟩ | ⟨j, hj2, rfl, hps⟩
          · go_wp2_with fail
            go_ret3
            rw [hps]
            exact retPl_nil (BU.out.trans (hbl.mono BU.out.size))
          · obtain ⟨pj, hpj⟩ : ∃ pj, pj = L.getD j [] := ⟨_, rfl⟩
            have hLj : L[j]? = some pj := by rw [hpj, List.getD_eq_getElem?_getD, List.getElem?_eq_getElem hj2]; rfl
            have hyj : j < ys.length := by rw [HRW.out.1]; exact hj2
            obtain ⟨Aj, cj, hxj, hatj⟩ := row_at ((HRW.out.2 j _ pj (List.getElem?_eq_getElem hyj) hLj).next hbl)
            have hclj := (own_below HOW.out hbl).cellAt j (by omega)
            rw [List.getElem?_eq_getElem hyj, hxj] at hclj
            have hpmj := HNU.out pj (List.mem_of_getElem? hLj)
            have hmm := HMN.out
            have HC2 := Lib.hid (fun (W : World) (h : Below wr.heap.size wr W) => (show Calls Tryd.prog 31 #[.agg #[.slice d.A d.blades.length d.c, .int .i64 d.bound, .int .i64 d.stop, .int .i64 d.bend], .slice Aj pj.length cj] W (Ret (.int .i64 (costP d pj)) W) from cost_row OK.out (fun s hs => Nat.lt_of_lt_of_le (hpmj.2 s hs) hM32) (by rw [hpmj.1]; omega) (hatj.next h)))
            rw [← hpj] at hps
            have HPS := Lib.hid hps
            have HAJ := Lib.hid hatj
            have HCJ := Lib.hid hclj
            have HBL := Lib.hid hbl
            have HXR := Lib.hid (XU.out.next hbl)
            have hgw : g < wr.heap.size := Nat.lt_of_lt_of_le hgz hbl.size
            have hjI : (j : Int) < L.length := by omega
            have hj0 : ¬ (j : Int) < 0 := by omega
            have hd0 : decide ((j : Int) < 0) = false := decide_eq_false hj0
            clear hLj hyj hxj hatj hclj hpmj hmm hpj hbest hbl hps
            have H10 := Lib.hid (show ∀ W : World, Below wr.heap.size wr W → (W.cell? ⟨w.heap.size, 0, none⟩ = some (.slice d.A d.blades.length d.c) ∧ W.cell? ⟨w.heap.size, 1, none⟩ = some (.int .i64 d.bound) ∧ W.cell? ⟨w.heap.size, 2, none⟩ = some (.int .i64 d.stop) ∧ W.cell? ⟨w.heap.size, 3, none⟩ = some (.int .i64 d.bend) ∧ W.cell? ⟨g, j, none⟩ = some (.slice Aj pj.length cj)) from fun W h =>
              ⟨(HXR.out.next h).c 0 _ rfl, (HXR.out.next h).c 1 _ rfl, (HXR.out.next h).c 2 _ rfl, (HXR.out.next h).c 3 _ rfl, ((bcell h).1 _ _ hgw).trans HCJ.out⟩)
            generalize costP d pj = k2 at *
            go_wp2_with fail
            have hc : Below wr.heap.size wr wr.drew := (Below.refl _ _).drew
            refine wp_region_noPanic ?_
            refine wp_region_held_drew (S := (fun W => W.cell? ⟨w.heap.size, 0, none⟩ = some (.slice d.A d.blades.length d.c) ∧ W.cell? ⟨w.heap.size, 1, none⟩ = some (.int .i64 d.bound) ∧ W.cell? ⟨w.heap.size, 2, none⟩ = some (.int .i64 d.stop) ∧ W.cell? ⟨w.heap.size, 3, none⟩ = some (.int .i64 d.bend) ∧ W.cell? ⟨g, j, none⟩ = some (.slice Aj pj.length cj))) (by kernel_rfl) ?_ (fun hHeld => ?_)
            · (try dsimp only); exact H10.out _ hc
            refine htake (i := 0) (v := ?v129) rfl (by kernel_rfl) (by kernel_rfl) (by kernel_rfl) (fun _ _ _ h => h) (Or.inl ⟨by rfl, ?hy129⟩) (by assumption) ?_
            case hy129 => (intro w hSw; (try dsimp only at hSw); go_simp; try (with_reducible rfl))
            try simp only [Act.put, List.setIfInBounds_toArray, List.set_cons_zero, List.set_cons_succ]
            refine htake (i := 1) (v := ?v130) rfl (by kernel_rfl) (by kernel_rfl) (by kernel_rfl) (fun _ _ _ h => h) (Or.inl ⟨by rfl, ?hy130⟩) (by assumption) ?_
            case hy130 => (intro w hSw; (try dsimp only at hSw); go_simp; try (with_reducible rfl))
            try simp only [Act.put, List.setIfInBounds_toArray, List.set_cons_zero, List.set_cons_succ]
            refine htake (i := 2) (v := ?v131) rfl (by kernel_rfl) (by kernel_rfl) (by kernel_rfl) (fun _ _ _ h => h) (Or.inl ⟨by rfl, ?hy131⟩) (by assumption) ?_
            case hy131 => (intro w hSw; (try dsimp only at hSw); go_simp; try (with_reducible rfl))
            try simp only [Act.put, List.setIfInBounds_toArray, List.set_cons_zero, List.set_cons_succ]
            refine htake (i := 3) (v := ?v132) rfl (by kernel_rfl) (by kernel_rfl) (by kernel_rfl) (fun _ _ _ h => h) (Or.inl ⟨by rfl, ?hy132⟩) (by assumption) ?_
            case hy132 => (intro w hSw; (try dsimp only at hSw); go_simp; try (with_reducible rfl))
            try simp only [Act.put, List.setIfInBounds_toArray, List.set_cons_zero, List.set_cons_succ]
            refine htake (i := 4) (v := ?v133) rfl (by kernel_rfl) (by kernel_rfl) (by kernel_rfl) (fun _ _ _ h => h) (Or.inl ⟨by rfl, ?hy133⟩) (by assumption) ?_
            case hy133 => (intro w hSw; (try dsimp only at hSw); go_simp; try (with_reducible rfl))
            try simp only [Act.put, List.setIfInBounds_toArray, List.set_cons_zero, List.set_cons_succ]
            refine htake (i := 5) (v := ?v134) rfl (by kernel_rfl) (by kernel_rfl) (by kernel_rfl) (fun _ _ _ h => h) (Or.inl ⟨by rfl, ?hy134⟩) (by assumption) ?_
            case hy134 => (intro w hSw; (try dsimp only at hSw); go_simp; try (with_reducible rfl))
            try simp only [Act.put, List.setIfInBounds_toArray, List.set_cons_zero, List.set_cons_succ]
            refine htake (i := 6) (v := ?v135) rfl (by kernel_rfl) (by kernel_rfl) (by kernel_rfl) (fun _ _ _ h => h) (Or.inl ⟨by rfl, ?hy135⟩) (by assumption) ?_
            case hy135 => (intro w hSw; (try dsimp only at hSw); go_simp; try (with_reducible rfl))
            try simp only [Act.put, List.setIfInBounds_toArray, List.set_cons_zero, List.set_cons_succ]
            refine htake (i := 7) (v := ?v136) rfl (by kernel_rfl) (by kernel_rfl) (by kernel_rfl) (fun _ _ _ h => h) (Or.inl ⟨by rfl, ?hy136⟩) (by assumption) ?_
            case hy136 => (intro w hSw; (try dsimp only at hSw); go_simp; try (with_reducible rfl))
            try simp only [Act.put, List.setIfInBounds_toArray, List.set_cons_zero, List.set_cons_succ]
            refine htake (i := 8) (v := ?v137) rfl (by kernel_rfl) (by kernel_rfl) (by kernel_rfl) (fun _ _ _ h => h) (Or.inl ⟨by rfl, ?hy137⟩) (by assumption) ?_
            case hy137 => (intro w hSw; (try dsimp only at hSw); go_simp; try (with_reducible rfl))
            try simp only [Act.put, List.setIfInBounds_toArray, List.set_cons_zero, List.set_cons_succ]
            refine wpAnyH_ready (rs := [9]) (by kernel_rfl) (by simp) ?_
            refine hcons rfl (fun K hK => ?_) (AllReadyH.nil)
            go_simp
            (with_reducible refine (HC2.out _ hc).mono ?_); rintro e w6 ⟨rfl, hb6⟩; replace hc := hc.trans (hb6.mono hc.size); clear hb6
            refine hK.out _ _ ?_ (fun hHeld => ?_)
            · (try dsimp only); exact H10.out _ hc
            clear hK K
            try simp only [Act.put, List.setIfInBounds_toArray, List.set_cons_zero, List.set_cons_succ]
            refine htake (i := 10) (v := ?v138) rfl (by kernel_rfl) (by kernel_rfl) (by kernel_rfl) (fun _ _ _ h => h) (Or.inl ⟨by rfl, ?hy138⟩) (by assumption) ?_
            case hy138 => (intro w hSw; (try dsimp only at hSw); go_simp; try (with_reducible rfl))
            try simp only [Act.put, List.setIfInBounds_toArray, List.set_cons_zero, List.set_cons_succ]
            refine htake (i := 11) (v := ?v139) rfl (by kernel_rfl) (by kernel_rfl) (by kernel_rfl) (fun _ _ _ h => h) (Or.inl ⟨by rfl, ?hy139⟩) (by assumption) ?_
            case hy139 => (intro w hSw; (try dsimp only at hSw); go_simp; try (with_reducible rfl))
            try simp only [Act.put, List.setIfInBounds_toArray, List.set_cons_zero, List.set_cons_succ]
            refine htake (i := 12) (v := ?v140) rfl (by kernel_rfl) (by kernel_rfl) (by kernel_rfl) (fun _ _ _ h => h) (Or.inl ⟨by rfl, ?hy140⟩) (by assumption) ?_
            case hy140 => (intro w hSw; (try dsimp only at hSw); go_simp; try (with_reducible rfl))
            try simp only [Act.put, List.setIfInBounds_toArray, List.set_cons_zero, List.set_cons_succ]
            refine wpAnyH_done (by kernel_rfl) ?_ _
            refine NoPanic.normal ?_
            iterate 14 (try clear hHeld)
            all_goals
              go_wp2_with fail
              go_ret3
              rw [HPS.out]
              exact ⟨Aj, cj, rfl, HAJ.out.next hc, BU.out.trans ((HBL.out.trans (hc.mono HBL.out.size)).mono BU.out.size)⟩
  · have E1 := Lib.hid (show planS d l = ([], 0, checkS d l) by unfold planS; rw [if_pos hch])
    have dne : (checkS d l != 0) = true := by rw [bne_iff_ne]; exact hch
    generalize checkS d l = x at *
    clear hch
    go_wp2_with fail
    go_ret3
    rw [E1.out]
    exact retPl_nil B0.out
end Go.Proofs.YtbhkglokdomajaaDoor
