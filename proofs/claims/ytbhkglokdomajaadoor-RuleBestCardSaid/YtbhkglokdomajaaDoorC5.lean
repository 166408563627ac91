import Derived.Test.YtbhkglokdomajaaDoorC1
import Derived.Test.YtbhkglokdomajaaDoorA3
namespace Go.Proofs.YtbhkglokdomajaaDoor
open Go.RowKit
/-! The law RuleBest. -/
structure LwB (d : Die) (A : Option Addr) (l : List Stint) (A3 : Option Addr) (bys : List Int) (bs : Nat) (W : World) : Prop where
  da : DieAt W W.heap.size d
  la : At W W.heap.size 2 Stint.cells A l
  ba : At W W.heap.size 1 u8cell A3 bys
  en : Env W
  bx : Bx W bs (dieL d)
theorem LwB.next {d : Die} {A : Option Addr} {l : List Stint} {A3 : Option Addr} {bys : List Int} {bs : Nat} {W W' : World} (h : LwB d A l A3 bys bs W) (hb : Below W.heap.size W W') : LwB d A l A3 bys bs W' := ⟨h.da.next hb, h.la.next hb, h.ba.next hb, h.en.next hb, h.bx.next hb⟩
theorem lex_at : ∀ {p q : List Nat} {i : Nat}, lexS p q = true → i < p.length → i < q.length → p.take i = q.take i → p.getD i 0 ≠ q.getD i 0 → p.getD i 0 < q.getD i 0
  | [], _, i, _, h, _, _, _ => by simp at h
  | _ :: _, [], i, _, _, h, _, _ => by simp at h
  | a :: p, b :: q, 0, h, _, _, _, hne => by
    have hab : a ≠ b := hne
    unfold lexS at h
    rw [if_neg hab] at h
    simpa using h
  | a :: p, b :: q, i + 1, h, h1, h2, he, hne => by
    rw [List.take_succ_cons, List.take_succ_cons] at he
    injection he with e1 e2
    subst e1
    unfold lexS at h
    rw [if_pos rfl] at h
    have := lex_at (p := p) (q := q) (i := i) h (by simpa using h1) (by simpa using h2) e2 hne
    exact this
def RBest (p q : List Int) (V : World) (i : Value) (W : World) : Prop := ∃ k : Nat, k ≤ p.length ∧ i = .int .i64 k ∧ Below V.heap.size V W ∧ p.take k = q.take k
theorem map_get (p : List Nat) (k : Nat) : (p.map Int.ofNat).getD k 0 = ((p.getD k 0 : Nat) : Int) := by
  rw [List.getD_eq_getElem?_getD, List.getD_eq_getElem?_getD, List.getElem?_map]
  cases p[k]? <;> rfl
theorem plan_back {plan : List Int} (h : ∀ s ∈ plan, 0 ≤ s) : (plan.map Int.toNat).map Int.ofNat = plan := by
  rw [List.map_map]
  conv => rhs; rw [← List.map_id plan]
  exact List.map_congr_left fun s hs => by show ((s.toNat : Nat) : Int) = s; have := h s hs; omega
set_option maxRecDepth 100000 in
set_option maxHeartbeats 2000000 in
theorem RuleBest_walk (d : Die) (A : Option Addr) (c : Nat) (l : List Stint) (A3 : Option Addr) (c3 : Nat) (bys : List Int) (w : World) (hd : DieAt w w.heap.size d) (hr : At w w.heap.size 2 Stint.cells A l) (hl : l.length ≤ 9223372036854775807) (hb : At w w.heap.size 1 u8cell A3 bys) (hbl : bys.length ≤ 9223372036854775807) (hbv : ∀ x ∈ bys, 0 ≤ x ∧ x < 256) (he : Env w) :
    Calls Tryd.prog 8 #[.agg #[.slice d.A d.blades.length d.c, .int .i64 d.bound, .int .i64 d.stop, .int .i64 d.bend], .slice A l.length c, .slice A3 bys.length c3] w (Ret (.bool true) w) := by
  have K := Lib.hid (show LwB d A l A3 bys w.heap.size (w.alloc (.cells #[.slice d.A d.blades.length d.c, .int .i64 d.bound, .int .i64 d.stop, .int .i64 d.bend] 24)) from ⟨hd.next (nxA _ _), hr.next (nxA _ _), hb.next (nxA _ _), he.next (nxA _ _), Bx.new w #[.slice d.A d.blades.length d.c, .int .i64 d.bound, .int .i64 d.stop, .int .i64 d.bend] 24⟩)
  have HB := Lib.hid (nxA w (.cells #[.slice d.A d.blades.length d.c, .int .i64 d.bound, .int .i64 d.stop, .int .i64 d.bend] 24))
  have HL := Lib.hid hl
  have HBL := Lib.hid hbl
  have HBV := Lib.hid hbv
  clear hd hr hb hl hbl hbv he
  go_enter Tryd.func8, Tryd.ntmps8
  go_wp2_with fail
  generalize (w.alloc (.cells #[.slice d.A d.blades.length d.c, .int .i64 d.bound, .int .i64 d.stop, .int .i64 d.bend] 24)) = V1 at *
  have p0 := K.out.bx.c 0 _ rfl
  have p1 := K.out.bx.c 1 _ rfl
  have p2 := K.out.bx.c 2 _ rfl
  have p3 := K.out.bx.c 3 _ rfl
  go_wp2_with fail
  refine (far_any d A none l.length c 0 0 V1).mono ?_
  rintro e V2 ⟨bf, rfl, hb⟩
  replace K := Lib.hid (K.out.next hb)
  replace HB := Lib.hid (HB.out.trans (hb.mono HB.out.size))
  clear hb p0 p1 p2 p3
  cases bf
  rotate_left
  · go_wp2_with fail
    refine (awake_any V2 K.out.en).mono ?_
    rintro e V99 ⟨rfl, hb⟩
    go_wp2_with fail
    go_ret
    exact ⟨rfl, HB.out.trans (hb.mono HB.out.size)⟩
  · skip
    have p0 := K.out.bx.c 0 _ rfl
    have p1 := K.out.bx.c 1 _ rfl
    have p2 := K.out.bx.c 2 _ rfl
    have p3 := K.out.bx.c 3 _ rfl
    go_wp2_with fail
    refine (heavy_any d A l.length c 32768 V2).mono ?_
    rintro e V3 ⟨bh, rfl, hb⟩
    replace K := Lib.hid (K.out.next hb)
    replace HB := Lib.hid (HB.out.trans (hb.mono HB.out.size))
    clear hb p0 p1 p2 p3
    cases bh
    rotate_left
    · go_wp2_with fail
      refine (awake_any V3 K.out.en).mono ?_
      rintro e V99 ⟨rfl, hb⟩
      go_wp2_with fail
      go_ret
      exact ⟨rfl, HB.out.trans (hb.mono HB.out.size)⟩
    · skip
      by_cases hb0 : bys = []
      · go_wp2_with fail
        refine (awake_any V3 K.out.en).mono ?_
        rintro e V99 ⟨rfl, hb⟩
        go_wp2_with fail
        go_ret
        exact ⟨rfl, HB.out.trans (hb.mono HB.out.size)⟩
      · have hb1 : 0 < bys.length := List.length_pos_iff.2 hb0
        have p0 := K.out.bx.c 0 _ rfl
        have p1 := K.out.bx.c 1 _ rfl
        have p2 := K.out.bx.c 2 _ rfl
        have p3 := K.out.bx.c 3 _ rfl
        go_wp2_with fail
        refine (Die_any d V3 K.out.da).mono ?_
        rintro e V4 ⟨rfl, hb⟩
        replace K := Lib.hid (K.out.next hb)
        replace HB := Lib.hid (HB.out.trans (hb.mono HB.out.size))
        clear hb p0 p1 p2 p3
        cases hds : dieS d
        · go_wp2_with fail
          refine (awake_any V4 K.out.en).mono ?_
          rintro e V99 ⟨rfl, hb⟩
          go_wp2_with fail
          go_ret
          exact ⟨rfl, HB.out.trans (hb.mono HB.out.size)⟩
        · skip
          go_wp2_with fail
          refine (Stints_any A c l V4 K.out.la HL.out).mono ?_
          rintro e V5 ⟨rfl, hb⟩
          replace K := Lib.hid (K.out.next hb)
          replace HB := Lib.hid (HB.out.trans (hb.mono HB.out.size))
          clear hb 
          cases hst : stintsS l
          · go_wp2_with fail
            refine (awake_any V5 K.out.en).mono ?_
            rintro e V99 ⟨rfl, hb⟩
            go_wp2_with fail
            go_ret
            exact ⟨rfl, HB.out.trans (hb.mono HB.out.size)⟩
          · skip
            have OK := Lib.hid ((okd_iff d).1 hds)
            have OKL := Lib.hid ((okl_iff l).1 hst)
            have hch := check_zero.2 ⟨hds, hst⟩
            have HPS := Lib.hid (show planS d l = (match bestD d l with | none => ([], 0, 4) | some (p, c) => (p.tail, c, 0)) from by unfold planS; rw [if_neg (fun h => h hch)]; rfl)
            have HFS := Lib.hid (fun plan h => (show followS d l plan = (match badP d.blades d.bound l (fun _ => 0) (setsOf plan) 0 with | some (i, k) => (0, (i : Int), (k : Int), 11) | none => (sumN (costS d.stop d.bend) (setsOf plan), (l.length : Int), 0, 0)) from by unfold followS; rw [if_neg (fun h => h hch), if_neg (by rw [planOk_iff.2 h]; simp)]; rfl))
            obtain ⟨bp, bc, be, hpl⟩ : ∃ p c e, planS d l = (p, c, e) := ⟨_, _, _, rfl⟩
            have HPL := Lib.hid hpl
            have hbe : be = 0 ∨ be = 4 := by
              have h := HPS.out
              rw [hpl] at h
              cases hq : bestD d l with
              | none => rw [hq] at h; injection h with _ h; injection h with _ h; exact .inr h
              | some x => rw [hq] at h; injection h with _ h; injection h with _ h; exact .inl h
            clear hds hst hch hpl
            have p0 := K.out.bx.c 0 _ rfl
            have p1 := K.out.bx.c 1 _ rfl
            have p2 := K.out.bx.c 2 _ rfl
            have p3 := K.out.bx.c 3 _ rfl
            go_wp2_with fail
            have hcon := (Plan_any d A c l V5 K.out.da K.out.la HL.out K.out.en)
            rw [HPL.out] at hcon
            refine (hcon).mono ?_
            rintro e V6 ⟨AP, cP, rfl, hp, hb⟩
            replace K := Lib.hid (K.out.next hb)
            replace HB := Lib.hid (HB.out.trans (hb.mono HB.out.size))
            have P1 := Lib.hid (hp)
            clear hb p0 p1 p2 p3 hcon hp
            dsimp only
            have p0 := K.out.bx.c 0 _ rfl
            have p1 := K.out.bx.c 1 _ rfl
            have p2 := K.out.bx.c 2 _ rfl
            have p3 := K.out.bx.c 3 _ rfl
            go_wp2_with fail
            refine (sets_any d A c l A3 c3 bys V6 OK.out OKL.out K.out.ba HBL.out hb1 HBV.out).mono ?_
            rintro e V7 ⟨plan, hpn, hps, AS, cS, rfl, hs, hb⟩
            replace P1 := Lib.hid (P1.out.next hb)
            replace K := Lib.hid (K.out.next hb)
            replace HB := Lib.hid (HB.out.trans (hb.mono HB.out.size))
            have S1 := Lib.hid (hs)
            clear hb p0 p1 p2 p3 hs
            have HPN := Lib.hid hpn
            have HPQ := Lib.hid hps
            clear hpn hps
            have hll := OKL.out.nl
            have hlp : plan.length ≤ 9223372036854775807 := by have := HPN.out; omega
            have p0 := K.out.bx.c 0 _ rfl
            have p1 := K.out.bx.c 1 _ rfl
            have p2 := K.out.bx.c 2 _ rfl
            have p3 := K.out.bx.c 3 _ rfl
            go_wp2_with fail
            obtain ⟨fa, fb, fc, fe, hfo⟩ : ∃ a b c e, followS d l plan = (a, b, c, e) := ⟨_, _, _, _, rfl⟩
            have hcon := (Follow_any d A c l AS cS plan V7 K.out.da K.out.la HL.out S1.out hlp K.out.en)
            rw [hfo] at hcon
            refine (hcon).mono ?_
            rintro e V8 ⟨rfl, hb⟩
            replace P1 := Lib.hid (P1.out.next hb)
            replace S1 := Lib.hid (S1.out.next hb)
            replace K := Lib.hid (K.out.next hb)
            replace HB := Lib.hid (HB.out.trans (hb.mono HB.out.size))
            clear hb p0 p1 p2 p3 hcon
            dsimp only [foV]
            by_cases hfe : fe = 0
            rotate_left
            · have hfs := HFS.out plan ⟨HPQ.out, HPN.out⟩
              obtain ⟨ib, kb, hbd, rfl, rfl, rfl, rfl⟩ : ∃ ib kb : Nat, (ib < l.length ∧ kb < d.blades.length) ∧ fa = 0 ∧ fb = (ib : Int) ∧ fc = (kb : Int) ∧ fe = 11 := by
                rw [hfo] at hfs
                cases hq : badP d.blades d.bound l (fun _ => 0) (setsOf plan) 0 with
                | none =>
                  rw [hq] at hfs
                  injection hfs with e1 e2
                  injection e2 with e2 e3
                  injection e3 with e3 e4
                  exact absurd e4 hfe
                | some x =>
                  obtain ⟨ib, kb⟩ := x
                  rw [hq] at hfs
                  injection hfs with e1 e2
                  injection e2 with e2 e3
                  injection e3 with e3 e4
                  have hbs := bad_some hq
                  exact ⟨ib, kb, ⟨by omega, hbs.2.2⟩, e1, e2, e3, e4⟩
              have z1 : (0 : Int) ≤ ib := by omega
              have z2 : (ib : Int) < l.length := by omega
              have z3 : (0 : Int) ≤ kb := by omega
              have z4 : (kb : Int) < d.blades.length := by omega
              have z5 : ib < l.length := hbd.1
              have z6 : kb < d.blades.length := hbd.2
              clear hfs hfo hfe hbd
              have p0 := K.out.bx.c 0 _ rfl
              have p1 := K.out.bx.c 1 _ rfl
              have p2 := K.out.bx.c 2 _ rfl
              have p3 := K.out.bx.c 3 _ rfl
              rcases hbe with rfl | rfl
              · go_wp2_with fail
                refine (awake_any V8 K.out.en).mono ?_
                rintro e V99 ⟨rfl, hb⟩
                go_wp2_with fail
                go_ret
                exact ⟨rfl, HB.out.trans (hb.mono HB.out.size)⟩
              · go_wp2_with fail
                refine (awake_any V8 K.out.en).mono ?_
                rintro e V99 ⟨rfl, hb⟩
                go_wp2_with fail
                go_ret
                exact ⟨rfl, HB.out.trans (hb.mono HB.out.size)⟩
            · subst hfe
              obtain ⟨x, hx, hxc, hxl⟩ := follow_min hfo
              have hps := HPS.out
              rw [HPL.out, hx] at hps
              obtain ⟨xp, xc⟩ := x
              injection hps with e1 e2
              injection e2 with e2 e3
              subst e1 e2 e3
              have hlen : xp.tail.length = plan.length := by
                rw [HPN.out]
                rcases best_form hx with ⟨h1, h2⟩ | ⟨h1, p, h2, h3, -⟩
                · subst h1; injection h2 with h2 _; subst h2; rfl
                · injection h2 with h2 _; subst h2; exact h3
              have HXL := Lib.hid hxl
              have HLE := Lib.hid hlen
              have hxc2 : bc ≤ fa := hxc
              clear hx hxl hxc hfo hbe
              have n1 : (xp.tail.length : Int) = plan.length := by omega
              generalize xp.tail = bp at *
              by_cases hgt : bc < fa
              · have n2 : ¬ fa < bc := by omega
                go_wp2_with fail
                refine (awake_any V8 K.out.en).mono ?_
                rintro e V99 ⟨rfl, hb⟩
                go_wp2_with fail
                go_ret
                exact ⟨rfl, HB.out.trans (hb.mono HB.out.size)⟩
              · have hbf : bc = fa := by omega
                have HLX := Lib.hid (HXL.out hbf)
                subst hbf
                clear hgt hxc2 HXL
                go_wp2_with fail
                go_loopw [15] (fun i wr => RBest (bp.map Int.ofNat) plan V8 i wr) (fun i _ => plan.length - (intOf i).toNat)
                case atStart => exact ⟨0, by omega, rfl, Below.refl _ _, rfl⟩
                case round =>
                  obtain ⟨k, hk, rfl, hbl, htk⟩ := hrel
                  rw [List.length_map] at hk
                  have hk2 : k ≤ plan.length := by have := HLE.out; omega
                  by_cases hlt : k < plan.length
                  · have hltb : k < bp.length := by have := HLE.out; omega
                    obtain ⟨b1, o1, e1, hb1', g1⟩ := int_at (P1.out.next hbl) (k := k) (by rw [List.length_map]; exact hltb)
                    obtain ⟨b2, o2, e2, hb2', g2⟩ := int_at (S1.out.next hbl) hlt
                    subst e1 e2
                    rw [map_get] at g1
                    have hpq := (HPQ.out (plan.getD k 0) (by rw [List.getD_eq_getElem?_getD, List.getElem?_eq_getElem hlt]; exact List.getElem_mem hlt)).1
                    have hgp : (plan.map Int.toNat).getD k 0 = (plan.getD k 0).toNat := by
                      rw [List.getD_eq_getElem?_getD, List.getD_eq_getElem?_getD, List.getElem?_map, List.getElem?_eq_getElem hlt]; rfl
                    have htk2 : bp.take k = (plan.map Int.toNat).take k := by
                      have h := congrArg (List.map Int.toNat) htk
                      rw [← List.map_take, toNat_map, List.map_take] at h
                      exact h
                    have HLA := Lib.hid (lex_at (i := k) HLX.out hltb (by rw [List.length_map]; exact hlt) htk2)
                    rw [hgp] at HLA
                    have HSTEP := Lib.hid (fun h => take_eq_step (l := bp.map Int.ofNat) (l' := plan) (by rw [List.length_map]; exact hltb) hlt htk h)
                    have hg1 : (bp.map Int.ofNat)[k]'(by rw [List.length_map]; exact hltb) = ((bp.getD k 0 : Nat) : Int) := by
                      rw [← map_get, List.getD_eq_getElem?_getD, List.getElem?_eq_getElem (by rw [List.length_map]; exact hltb)]; rfl
                    have hg2 : plan[k] = plan.getD k 0 := by rw [List.getD_eq_getElem?_getD, List.getElem?_eq_getElem hlt]; rfl
                    rw [hg1, hg2] at HSTEP
                    have HBK := Lib.hid hbl
                    have KK := Lib.hid (K.out.next hbl)
                    clear hgp htk htk2 hg1 hg2
                    generalize bp.getD k 0 = x1 at *
                    generalize plan.getD k 0 = y1 at *
                    have hltI : (k : Int) < plan.length := by omega
                    by_cases hxy : (x1 : Int) = y1
                    · have nxy : ((x1 : Int) != y1) = false := by rw [bne_eq_false_iff_eq]; exact hxy
                      have HREL := Lib.hid (fun (W : World) (h : Below wr.heap.size wr W) => (show RBest (bp.map Int.ofNat) plan V8 (.int .i64 ((k + 1 : Nat) : Int)) W from ⟨k + 1, by rw [List.length_map]; omega, rfl, HBK.out.trans (h.mono HBK.out.size), HSTEP.out hxy⟩))
                      clear hxy hbl
                      go_wp2_with fail
                      go_quiet (fail)
                      go_wp2_with fail
                      go_roundw
                      case rel => exact HREL.out _ (below_drewN (Below.refl _ _) _)
                      case measure => simp [intOf]; omega
                    · have nxy : ((x1 : Int) != y1) = true := by rw [bne_iff_ne]; exact hxy
                      have hlt2 : (x1 : Int) < y1 := by
                        have := HLA.out (by omega)
                        omega
                      have dlt : decide ((x1 : Int) < y1) = true := decide_eq_true hlt2
                      have HC := Lib.hid (show ∀ W : World, Below wr.heap.size wr W → (W.cell? ⟨b1, o1 + k, none⟩ = some (.int .i64 (x1 : Int)) ∧ W.cell? ⟨b2, o2 + k, none⟩ = some (.int .i64 y1)) from fun W h => ⟨((bcell h).1 _ _ hb1').trans g1, ((bcell h).1 _ _ hb2').trans g2⟩)
                      clear hxy hlt2 hbl
                      go_wp2_with fail
                      go_quiet (fail)
                      go_wp2_with fail
                      refine wp_region_noPanic ?_
                      refine wp_region_held_drew (S := (fun W => W.cell? ⟨b1, o1 + k, none⟩ = some (.int .i64 (x1 : Int)) ∧ W.cell? ⟨b2, o2 + k, none⟩ = some (.int .i64 y1))) (by kernel_rfl) ?_ (fun hHeld => ?_)
                      · (try dsimp only); exact HC.out _ (below_drewN (Below.refl _ _) _).drew
                      refine htake (i := 0) (v := ?v1) rfl (by kernel_rfl) (by kernel_rfl) (by kernel_rfl) (fun _ _ _ h => h) (Or.inl ⟨by rfl, ?hy1⟩) (by assumption) ?_
                      case hy1 => (intro w hSw; (try dsimp only at hSw); go_simp; try (with_reducible rfl))
                      try simp only [Act.put, List.setIfInBounds_toArray, List.set_cons_zero, List.set_cons_succ]
                      refine htake (i := 1) (v := ?v2) rfl (by kernel_rfl) (by kernel_rfl) (by kernel_rfl) (fun _ _ _ h => h) (Or.inl ⟨by rfl, ?hy2⟩) (by assumption) ?_
                      case hy2 => (intro w hSw; (try dsimp only at hSw); go_simp; try (with_reducible rfl))
                      try simp only [Act.put, List.setIfInBounds_toArray, List.set_cons_zero, List.set_cons_succ]
                      refine htake (i := 2) (v := ?v3) rfl (by kernel_rfl) (by kernel_rfl) (by kernel_rfl) (fun _ _ _ h => h) (Or.inl ⟨by rfl, ?hy3⟩) (by assumption) ?_
                      case hy3 => (intro w hSw; (try dsimp only at hSw); go_simp; try (with_reducible rfl))
                      try simp only [Act.put, List.setIfInBounds_toArray, List.set_cons_zero, List.set_cons_succ]
                      refine htake (i := 3) (v := ?v4) rfl (by kernel_rfl) (by kernel_rfl) (by kernel_rfl) (fun _ _ _ h => h) (Or.inl ⟨by rfl, ?hy4⟩) (by assumption) ?_
                      case hy4 => (intro w hSw; (try dsimp only at hSw); go_simp; try (with_reducible rfl))
                      try simp only [Act.put, List.setIfInBounds_toArray, List.set_cons_zero, List.set_cons_succ]
                      refine htake (i := 4) (v := ?v5) rfl (by kernel_rfl) (by kernel_rfl) (by kernel_rfl) (fun _ _ _ h => h) (Or.inl ⟨by rfl, ?hy5⟩) (by assumption) ?_
                      case hy5 => (intro w hSw; (try dsimp only at hSw); go_simp; try (with_reducible rfl))
                      try simp only [Act.put, List.setIfInBounds_toArray, List.set_cons_zero, List.set_cons_succ]
                      refine htake (i := 5) (v := ?v6) rfl (by kernel_rfl) (by kernel_rfl) (by kernel_rfl) (fun _ _ _ h => h) (Or.inl ⟨by rfl, ?hy6⟩) (by assumption) ?_
                      case hy6 => (intro w hSw; (try dsimp only at hSw); go_simp; try (with_reducible rfl))
                      try simp only [Act.put, List.setIfInBounds_toArray, List.set_cons_zero, List.set_cons_succ]
                      refine htake (i := 6) (v := ?v7) rfl (by kernel_rfl) (by kernel_rfl) (by kernel_rfl) (fun _ _ _ h => h) (Or.inl ⟨by rfl, ?hy7⟩) (by assumption) ?_
                      case hy7 => (intro w hSw; (try dsimp only at hSw); go_simp; try (with_reducible rfl))
                      try simp only [Act.put, List.setIfInBounds_toArray, List.set_cons_zero, List.set_cons_succ]
                      refine htake (i := 7) (v := ?v8) rfl (by kernel_rfl) (by kernel_rfl) (by kernel_rfl) (fun _ _ _ h => h) (Or.inl ⟨by rfl, ?hy8⟩) (by assumption) ?_
                      case hy8 => (intro w hSw; (try dsimp only at hSw); go_simp; try (with_reducible rfl))
                      try simp only [Act.put, List.setIfInBounds_toArray, List.set_cons_zero, List.set_cons_succ]
                      refine htake (i := 8) (v := ?v9) rfl (by kernel_rfl) (by kernel_rfl) (by kernel_rfl) (fun _ _ _ h => h) (Or.inl ⟨by rfl, ?hy9⟩) (by assumption) ?_
                      case hy9 => (intro w hSw; (try dsimp only at hSw); go_simp; try (with_reducible rfl))
                      try simp only [Act.put, List.setIfInBounds_toArray, List.set_cons_zero, List.set_cons_succ]
                      refine htake (i := 9) (v := ?v10) rfl (by kernel_rfl) (by kernel_rfl) (by kernel_rfl) (fun _ _ _ h => h) (Or.inl ⟨by rfl, ?hy10⟩) (by assumption) ?_
                      case hy10 => (intro w hSw; (try dsimp only at hSw); go_simp; try (with_reducible rfl))
                      try simp only [Act.put, List.setIfInBounds_toArray, List.set_cons_zero, List.set_cons_succ]
                      refine wpAnyH_ready (rs := [10]) (by kernel_rfl) (by simp) ?_
                      refine hcons rfl (fun K hK => ?_) (AllReadyH.nil)
                      go_simp
                      (refine (awake_any _ (KK.out.next (below_drewN (Below.refl _ _) _)).en).mono ?_); rintro e w4 ⟨rfl, hb4⟩; have hc : Below wr.heap.size wr w4 := (below_drewN (Below.refl wr.heap.size wr) _).trans hb4; clear hb4
                      refine hK.out _ _ ?_ (fun hHeld => ?_)
                      · (try dsimp only); exact HC.out _ hc
                      clear hK K
                      try simp only [Act.put, List.setIfInBounds_toArray, List.set_cons_zero, List.set_cons_succ]
                      refine htake (i := 11) (v := ?v11) rfl (by kernel_rfl) (by kernel_rfl) (by kernel_rfl) (fun _ _ _ h => h) (Or.inl ⟨by rfl, ?hy11⟩) (by assumption) ?_
                      case hy11 => (intro w hSw; (try dsimp only at hSw); go_simp; try (with_reducible rfl))
                      try simp only [Act.put, List.setIfInBounds_toArray, List.set_cons_zero, List.set_cons_succ]
                      refine htake (i := 12) (v := ?v12) rfl (by kernel_rfl) (by kernel_rfl) (by kernel_rfl) (fun _ _ _ h => h) (Or.inl ⟨by rfl, ?hy12⟩) (by assumption) ?_
                      case hy12 => (intro w hSw; (try dsimp only at hSw); go_simp; try (with_reducible rfl))
                      try simp only [Act.put, List.setIfInBounds_toArray, List.set_cons_zero, List.set_cons_succ]
                      refine wpAnyH_done (by kernel_rfl) ?_ _
                      refine NoPanic.normal ?_
                      iterate 14 (try clear hHeld)
                      go_wp2_with fail
                      go_ret
                      exact ⟨rfl, HB.out.trans ((HBK.out.trans (hc.mono HBK.out.size)).mono HB.out.size)⟩
                  · go_wp2_with fail
                    refine (awake_any wr (K.out.next hbl).en).mono ?_
                    rintro e V99 ⟨rfl, hb⟩
                    go_wp2_with fail
                    go_ret
                    exact ⟨rfl, HB.out.trans ((hbl.trans (hb.mono hbl.size)).mono HB.out.size)⟩
end Go.Proofs.YtbhkglokdomajaaDoor
