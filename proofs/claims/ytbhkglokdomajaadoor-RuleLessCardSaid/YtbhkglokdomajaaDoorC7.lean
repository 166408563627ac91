import Derived.Test.YtbhkglokdomajaaDoorC1
import Derived.Test.YtbhkglokdomajaaDoorD4
import Derived.Test.YtbhkglokdomajaaDoorT3
namespace Go.Proofs.YtbhkglokdomajaaDoor
open Go.RowKit
/-! The law RuleLess. -/
structure LwL (d : Die) (A : Option Addr) (l : List Stint) (bs : Nat) (W : World) : Prop where
  da : DieAt W W.heap.size d
  la : At W W.heap.size 2 Stint.cells A l
  en : Env W
  bx : Bx W bs (dieL d)
theorem LwL.next {d : Die} {A : Option Addr} {l : List Stint} {bs : Nat} {W W' : World} (h : LwL d A l bs W) (hb : Below W.heap.size W W') : LwL d A l bs W' := ⟨h.da.next hb, h.la.next hb, h.en.next hb, h.bx.next hb⟩
set_option maxRecDepth 100000 in
set_option maxHeartbeats 2000000 in
theorem RuleLess_walk (d : Die) (A : Option Addr) (c : Nat) (l : List Stint) (x2 : Int) (w : World) (hd : DieAt w w.heap.size d) (hdc : d.blades.length ≤ d.c) (hr : At w w.heap.size 2 Stint.cells A l) (hl : l.length ≤ 9223372036854775807) (hlc : l.length ≤ c) (hby : (Lit.int .u8 x2).wf = true) (he : Env w) :
    Calls Tryd.prog 11 #[.agg #[.slice d.A d.blades.length d.c, .int .i64 d.bound, .int .i64 d.stop, .int .i64 d.bend], .slice A l.length c, .int .u8 x2] w (Ret (.bool true) w) := by
  have hx2 : 0 ≤ x2 ∧ x2 < 256 := by simp [Lit.wf, IntKind.min, IntKind.max, IntKind.bits, IntKind.signed] at hby; omega
  clear hby
  have K := Lib.hid (show LwL d A l w.heap.size (w.alloc (.cells #[.slice d.A d.blades.length d.c, .int .i64 d.bound, .int .i64 d.stop, .int .i64 d.bend] 24)) from ⟨hd.next (nxA _ _), hr.next (nxA _ _), he.next (nxA _ _), Bx.new w #[.slice d.A d.blades.length d.c, .int .i64 d.bound, .int .i64 d.stop, .int .i64 d.bend] 24⟩)
  have HB := Lib.hid (nxA w (.cells #[.slice d.A d.blades.length d.c, .int .i64 d.bound, .int .i64 d.stop, .int .i64 d.bend] 24))
  have HL := Lib.hid hl
  have HLC := Lib.hid hlc
  have HDC := Lib.hid hdc
  clear hd hr hl he hdc hlc
  go_enter Tryd.func11, Tryd.ntmps11
  go_wp2_with fail
  generalize (w.alloc (.cells #[.slice d.A d.blades.length d.c, .int .i64 d.bound, .int .i64 d.stop, .int .i64 d.bend] 24)) = V1 at *
  have p0 := K.out.bx.c 0 _ rfl
  have p1 := K.out.bx.c 1 _ rfl
  have p2 := K.out.bx.c 2 _ rfl
  have p3 := K.out.bx.c 3 _ rfl
  go_wp2_with fail
  refine (far_any d A none l.length c 0 0 V1).mono ?_
  rintro e V2 ⟨bf, rfl, hb⟩
  replace K := Lib.hid (K.out.next hb)
  replace HB := Lib.hid (HB.out.trans (hb.mono HB.out.size))
  clear hb p0 p1 p2 p3
  cases bf
  rotate_left
  · go_wp2_with fail
    refine (awake_any V2 K.out.en).mono ?_
    rintro e V99 ⟨rfl, hb⟩
    go_wp2_with fail
    go_ret
    exact ⟨rfl, HB.out.trans (hb.mono HB.out.size)⟩
  · skip
    have p0 := K.out.bx.c 0 _ rfl
    have p1 := K.out.bx.c 1 _ rfl
    have p2 := K.out.bx.c 2 _ rfl
    have p3 := K.out.bx.c 3 _ rfl
    go_wp2_with fail
    refine (heavy_any d A l.length c 32768 V2).mono ?_
    rintro e V3 ⟨bh, rfl, hb⟩
    replace K := Lib.hid (K.out.next hb)
    replace HB := Lib.hid (HB.out.trans (hb.mono HB.out.size))
    clear hb p0 p1 p2 p3
    cases bh
    rotate_left
    · go_wp2_with fail
      refine (awake_any V3 K.out.en).mono ?_
      rintro e V99 ⟨rfl, hb⟩
      go_wp2_with fail
      go_ret
      exact ⟨rfl, HB.out.trans (hb.mono HB.out.size)⟩
    · skip
      have p0 := K.out.bx.c 0 _ rfl
      have p1 := K.out.bx.c 1 _ rfl
      have p2 := K.out.bx.c 2 _ rfl
      have p3 := K.out.bx.c 3 _ rfl
      go_wp2_with fail
      refine (Die_any d V3 K.out.da).mono ?_
      rintro e V4 ⟨rfl, hb⟩
      replace K := Lib.hid (K.out.next hb)
      replace HB := Lib.hid (HB.out.trans (hb.mono HB.out.size))
      clear hb p0 p1 p2 p3
      cases hds : dieS d
      · go_wp2_with fail
        refine (awake_any V4 K.out.en).mono ?_
        rintro e V99 ⟨rfl, hb⟩
        go_wp2_with fail
        go_ret
        exact ⟨rfl, HB.out.trans (hb.mono HB.out.size)⟩
      · skip
        go_wp2_with fail
        refine (Stints_any A c l V4 K.out.la HL.out).mono ?_
        rintro e V5 ⟨rfl, hb⟩
        replace K := Lib.hid (K.out.next hb)
        replace HB := Lib.hid (HB.out.trans (hb.mono HB.out.size))
        clear hb 
        cases hst : stintsS l
        · go_wp2_with fail
          refine (awake_any V5 K.out.en).mono ?_
          rintro e V99 ⟨rfl, hb⟩
          go_wp2_with fail
          go_ret
          exact ⟨rfl, HB.out.trans (hb.mono HB.out.size)⟩
        · skip
          have OK := Lib.hid ((okd_iff d).1 hds)
          have OKL := Lib.hid ((okl_iff l).1 hst)
          have hll := OKL.out.nl
          have hnb := OK.out.nb
          clear hds hst
          have p0 := K.out.bx.c 0 _ rfl
          have p1 := K.out.bx.c 1 _ rfl
          have p2 := K.out.bx.c 2 _ rfl
          have p3 := K.out.bx.c 3 _ rfl
          go_wp2_with fail
          have hcon := (Plan_any d A c l V5 K.out.da K.out.la HL.out K.out.en)
          cases hbs : bestD d l with
          | none =>
            obtain ⟨hps, hpr⟩ := ans_none OK.out OKL.out hbs
            rw [hps] at hcon
            have HPR := Lib.hid hpr
            clear hps hpr hbs
            refine (hcon).mono ?_
            rintro e V6 ⟨AP, cP, rfl, -, hb⟩
            replace K := Lib.hid (K.out.next hb)
            replace HB := Lib.hid (HB.out.trans (hb.mono HB.out.size))
            clear hb p0 p1 p2 p3 hcon
            dsimp only
            have p0 := K.out.bx.c 0 _ rfl
            have p1 := K.out.bx.c 1 _ rfl
            have p2 := K.out.bx.c 2 _ rfl
            have p3 := K.out.bx.c 3 _ rfl
            go_wp2_with fail
            have hcon := (Proof_anyC d A c l V6 K.out.da K.out.la HL.out K.out.en)
            rw [HPR.out] at hcon
            refine (hcon).mono ?_
            rintro e V7 ⟨A1, c1, A2, c2, rfl, -, -, -, hb⟩
            replace K := Lib.hid (K.out.next hb)
            replace HB := Lib.hid (HB.out.trans (hb.mono HB.out.size))
            clear hb p0 p1 p2 p3 hcon
            dsimp only
            go_wp2_with fail
            refine (awake_any V7 K.out.en).mono ?_
            rintro e V99 ⟨rfl, hb⟩
            go_wp2_with fail
            go_ret
            exact ⟨rfl, HB.out.trans (hb.mono HB.out.size)⟩
          | some x =>
            obtain ⟨hps, hpr⟩ := ans_some OK.out OKL.out hbs
            rw [hps] at hcon
            have HPR := Lib.hid hpr
            have HBS := Lib.hid hbs
            obtain ⟨xp, xc⟩ := x
            dsimp only at hcon
            clear hps hpr hbs
            refine (hcon).mono ?_
            rintro e V6 ⟨AP, cP, rfl, -, hb⟩
            replace K := Lib.hid (K.out.next hb)
            replace HB := Lib.hid (HB.out.trans (hb.mono HB.out.size))
            clear hb p0 p1 p2 p3 hcon
            dsimp only
            have p0 := K.out.bx.c 0 _ rfl
            have p1 := K.out.bx.c 1 _ rfl
            have p2 := K.out.bx.c 2 _ rfl
            have p3 := K.out.bx.c 3 _ rfl
            go_wp2_with fail
            have hcon := (Proof_anyC d A c l V6 K.out.da K.out.la HL.out K.out.en)
            rw [HPR.out] at hcon
            have hpl := (proofR_len' d l)
            rw [HPR.out] at hpl
            dsimp only at hpl
            obtain ⟨rs, hrs⟩ : ∃ rs, proofS d.blades d.bound l = rs := ⟨_, rfl⟩
            rw [hrs] at hcon hpl
            have HRS := Lib.hid hrs
            clear hrs HPR
            refine (hcon).mono ?_
            rintro e V7 ⟨A1, c1, A2, c2, rfl, ra, fa, hcc, hb⟩
            replace K := Lib.hid (K.out.next hb)
            replace HB := Lib.hid (HB.out.trans (hb.mono HB.out.size))
            have RA := Lib.hid (show At _ _ 2 spv A1 (spansOf rs) from ra)
            have FA := Lib.hid (show At _ _ 1 icell A2 (firstsOf rs) from fa)
            clear hb p0 p1 p2 p3 hcon ra fa
            dsimp only at hcc ⊢
            go_upto_if 78 with fail
            go_cut [13, 14, 15, 16, 17, 18] (fun s13 s14 s15 s16 s17 s18 wx => Below V7.heap.size V7 wx)
            case first =>
              have BT := Lib.hid (Below.refl V7.heap.size V7)
              by_cases hl0 : l = []
              · have hlz : l.length = 0 := by rw [hl0]; rfl
                go_wp2_with fail
                go_meet
                exact BT.out
              · have hlp : 0 < l.length := List.length_pos_iff.2 hl0
                obtain ⟨l0, z1, x', z, hn0, hl1, hp0, hpc, hpr0, hz, hz1⟩ := end_all' OK.out OKL.out hl0 HBS.out
                obtain ⟨bs, os, eS, -, -⟩ := stint_at K.out.la hlp
                subst eS
                obtain ⟨xp', xc'⟩ := x'
                dsimp only at hpc hp0
                rw [HRS.out] at hz
                obtain ⟨rs0, hrs0⟩ : ∃ rs, proofS d.blades d.bound l0 = rs := ⟨_, rfl⟩
                rw [hrs0] at hz hpr0
                have HZ := Lib.hid hz
                obtain ⟨n0, hm0⟩ : ∃ n0, l0.length = n0 := ⟨_, rfl⟩
                rw [hm0] at hn0
                have LA := Lib.hid (show At V7 V7.heap.size 2 Stint.cells (some ⟨bs, os, none⟩) l0 from K.out.la.pre' hl1)
                have HCON := Lib.hid (show ∀ W : World, Below V7.heap.size V7 W → Calls Tryd.prog 25 #[.agg #[.slice d.A d.blades.length d.c, .int .i64 d.bound, .int .i64 d.stop, .int .i64 d.bend], .slice (some ⟨bs, os, none⟩) n0 c] W (RetPl (xp'.tail, xc', 0) W) from fun W h => by
                  have h1 := Plan_any d (some ⟨bs, os, none⟩) c l0 W (K.out.next h).da (LA.out.next h) (by omega) (K.out.next h).en
                  rw [hm0, hp0] at h1
                  exact h1)
                have HCON2 := Lib.hid (show ∀ W : World, Below V7.heap.size V7 W → Calls Tryd.prog 20 #[.agg #[.slice d.A d.blades.length d.c, .int .i64 d.bound, .int .i64 d.stop, .int .i64 d.bend], .slice (some ⟨bs, os, none⟩) n0 c] W (RetPrC (rs0, 0) W) from fun W h => by
                  have h1 := Proof_anyC d (some ⟨bs, os, none⟩) c l0 W (K.out.next h).da (LA.out.next h) (by omega) (K.out.next h).en
                  rw [hm0, hpr0] at h1
                  exact h1)
                have hlc := HLC.out
                have hrl1 : rs0.length ≤ rs.length := by rw [hz, List.length_append]; omega
                have hrl2 : rs.length ≤ rs0.length + 1 := by rw [hz, List.length_append]; omega
                clear hp0 hpr0 hrs0 hm0 hl1 LA HRS HL HLC hz
                have H4 := Lib.hid (show ∀ W : World, Below V7.heap.size V7 W → (W.cell? ⟨w.heap.size, 0, none⟩ = some (.slice d.A d.blades.length d.c) ∧ W.cell? ⟨w.heap.size, 1, none⟩ = some (.int .i64 d.bound) ∧ W.cell? ⟨w.heap.size, 2, none⟩ = some (.int .i64 d.stop) ∧ W.cell? ⟨w.heap.size, 3, none⟩ = some (.int .i64 d.bend)) from fun W h => ⟨(K.out.next h).bx.c 0 _ rfl, (K.out.next h).bx.c 1 _ rfl, (K.out.next h).bx.c 2 _ rfl, (K.out.next h).bx.c 3 _ rfl⟩)
                have hc : Below V7.heap.size V7 V7.drew := (Below.refl _ _).drew
                have hw1 : IntKind.i64.wrap ((l.length : Int) - 1) = (n0 : Int) := by rw [show (l.length : Int) - 1 = (n0 : Int) by omega]; exact IntWalk.i64_in _ (by omega)
                have hI1 : n0 ≤ c := by omega
                clear hn0
                go_wp2_with fail
                refine wp_region_noPanic ?_
                refine wp_region_held_drew (S := (fun W => W.cell? ⟨w.heap.size, 0, none⟩ = some (.slice d.A d.blades.length d.c) ∧ W.cell? ⟨w.heap.size, 1, none⟩ = some (.int .i64 d.bound) ∧ W.cell? ⟨w.heap.size, 2, none⟩ = some (.int .i64 d.stop) ∧ W.cell? ⟨w.heap.size, 3, none⟩ = some (.int .i64 d.bend))) (by kernel_rfl) ?_ (fun hHeld => ?_)
                · (try dsimp only); exact H4.out _ hc
                refine htake (i := 0) (v := ?v1) rfl (by kernel_rfl) (by kernel_rfl) (by kernel_rfl) (fun _ _ _ h => h) (Or.inl ⟨by rfl, ?hy1⟩) (by assumption) ?_
                case hy1 => (intro w hSw; (try dsimp only at hSw); go_simp; try (with_reducible rfl))
                try simp only [Act.put, List.setIfInBounds_toArray, List.set_cons_zero, List.set_cons_succ]
                refine htake (i := 1) (v := ?v2) rfl (by kernel_rfl) (by kernel_rfl) (by kernel_rfl) (fun _ _ _ h => h) (Or.inl ⟨by rfl, ?hy2⟩) (by assumption) ?_
                case hy2 => (intro w hSw; (try dsimp only at hSw); go_simp; try (with_reducible rfl))
                try simp only [Act.put, List.setIfInBounds_toArray, List.set_cons_zero, List.set_cons_succ]
                refine htake (i := 2) (v := ?v3) rfl (by kernel_rfl) (by kernel_rfl) (by kernel_rfl) (fun _ _ _ h => h) (Or.inl ⟨by rfl, ?hy3⟩) (by assumption) ?_
                case hy3 => (intro w hSw; (try dsimp only at hSw); go_simp; try (with_reducible rfl))
                try simp only [Act.put, List.setIfInBounds_toArray, List.set_cons_zero, List.set_cons_succ]
                refine htake (i := 3) (v := ?v4) rfl (by kernel_rfl) (by kernel_rfl) (by kernel_rfl) (fun _ _ _ h => h) (Or.inl ⟨by rfl, ?hy4⟩) (by assumption) ?_
                case hy4 => (intro w hSw; (try dsimp only at hSw); go_simp; try (with_reducible rfl))
                try simp only [Act.put, List.setIfInBounds_toArray, List.set_cons_zero, List.set_cons_succ]
                refine htake (i := 4) (v := ?v5) rfl (by kernel_rfl) (by kernel_rfl) (by kernel_rfl) (fun _ _ _ h => h) (Or.inl ⟨by rfl, ?hy5⟩) (by assumption) ?_
                case hy5 => (intro w hSw; (try dsimp only at hSw); go_simp; try (with_reducible rfl))
                try simp only [Act.put, List.setIfInBounds_toArray, List.set_cons_zero, List.set_cons_succ]
                refine htake (i := 5) (v := ?v6) rfl (by kernel_rfl) (by kernel_rfl) (by kernel_rfl) (fun _ _ _ h => h) (Or.inl ⟨by rfl, ?hy6⟩) (by assumption) ?_
                case hy6 => (intro w hSw; (try dsimp only at hSw); go_simp; try (with_reducible rfl))
                try simp only [Act.put, List.setIfInBounds_toArray, List.set_cons_zero, List.set_cons_succ]
                refine wpAnyH_ready (rs := [6]) (by kernel_rfl) (by simp) ?_
                refine hcons rfl (fun K hK => ?_) (AllReadyH.nil)
                go_simp
                (with_reducible refine (HCON.out _ hc).mono ?_); rintro e w4 ⟨AP0, cP0, rfl, -, hb4⟩; dsimp only; replace hc := hc.trans (hb4.mono hc.size); clear hb4
                refine hK.out _ _ ?_ (fun hHeld => ?_)
                · (try dsimp only); exact H4.out _ hc
                clear hK K
                try simp only [Act.put, List.setIfInBounds_toArray, List.set_cons_zero, List.set_cons_succ]
                refine htake (i := 7) (v := ?v7) rfl (by kernel_rfl) (by kernel_rfl) (by kernel_rfl) (fun _ _ _ h => h) (Or.inl ⟨by rfl, ?hy7⟩) (by assumption) ?_
                case hy7 => (intro w hSw; (try dsimp only at hSw); go_simp; try (with_reducible rfl))
                try simp only [Act.put, List.setIfInBounds_toArray, List.set_cons_zero, List.set_cons_succ]
                refine htake (i := 8) (v := ?v8) rfl (by kernel_rfl) (by kernel_rfl) (by kernel_rfl) (fun _ _ _ h => h) (Or.inl ⟨by rfl, ?hy8⟩) (by assumption) ?_
                case hy8 => (intro w hSw; (try dsimp only at hSw); go_simp; try (with_reducible rfl))
                try simp only [Act.put, List.setIfInBounds_toArray, List.set_cons_zero, List.set_cons_succ]
                refine htake (i := 9) (v := ?v9) rfl (by kernel_rfl) (by kernel_rfl) (by kernel_rfl) (fun _ _ _ h => h) (Or.inl ⟨by rfl, ?hy9⟩) (by assumption) ?_
                case hy9 => (intro w hSw; (try dsimp only at hSw); go_simp; try (with_reducible rfl))
                try simp only [Act.put, List.setIfInBounds_toArray, List.set_cons_zero, List.set_cons_succ]
                refine htake (i := 10) (v := ?v10) rfl (by kernel_rfl) (by kernel_rfl) (by kernel_rfl) (fun _ _ _ h => h) (Or.inl ⟨by rfl, ?hy10⟩) (by assumption) ?_
                case hy10 => (intro w hSw; (try dsimp only at hSw); go_simp; try (with_reducible rfl))
                try simp only [Act.put, List.setIfInBounds_toArray, List.set_cons_zero, List.set_cons_succ]
                refine htake (i := 11) (v := ?v11) rfl (by kernel_rfl) (by kernel_rfl) (by kernel_rfl) (fun _ _ _ h => h) (Or.inl ⟨by rfl, ?hy11⟩) (by assumption) ?_
                case hy11 => (intro w hSw; (try dsimp only at hSw); go_simp; try (with_reducible rfl))
                try simp only [Act.put, List.setIfInBounds_toArray, List.set_cons_zero, List.set_cons_succ]
                refine htake (i := 12) (v := ?v12) rfl (by kernel_rfl) (by kernel_rfl) (by kernel_rfl) (fun _ _ _ h => h) (Or.inl ⟨by rfl, ?hy12⟩) (by assumption) ?_
                case hy12 => (intro w hSw; (try dsimp only at hSw); go_simp; try (with_reducible rfl))
                try simp only [Act.put, List.setIfInBounds_toArray, List.set_cons_zero, List.set_cons_succ]
                refine htake (i := 13) (v := ?v13) rfl (by kernel_rfl) (by kernel_rfl) (by kernel_rfl) (fun _ _ _ h => h) (Or.inl ⟨by rfl, ?hy13⟩) (by assumption) ?_
                case hy13 => (intro w hSw; (try dsimp only at hSw); go_simp; try (with_reducible rfl))
                try simp only [Act.put, List.setIfInBounds_toArray, List.set_cons_zero, List.set_cons_succ]
                refine wpAnyH_done (by kernel_rfl) ?_ _
                refine NoPanic.normal ?_
                iterate 15 (try clear hHeld)
                have hc8 := hc
                replace hc := hc.drew
                go_wp2_with fail
                refine wp_region_noPanic ?_
                refine wp_region_held_drew (S := (fun W => W.cell? ⟨w.heap.size, 0, none⟩ = some (.slice d.A d.blades.length d.c) ∧ W.cell? ⟨w.heap.size, 1, none⟩ = some (.int .i64 d.bound) ∧ W.cell? ⟨w.heap.size, 2, none⟩ = some (.int .i64 d.stop) ∧ W.cell? ⟨w.heap.size, 3, none⟩ = some (.int .i64 d.bend))) (by kernel_rfl) ?_ (fun hHeld => ?_)
                · (try dsimp only); exact H4.out _ hc
                refine htake (i := 0) (v := ?v14) rfl (by kernel_rfl) (by kernel_rfl) (by kernel_rfl) (fun _ _ _ h => h) (Or.inl ⟨by rfl, ?hy14⟩) (by assumption) ?_
                case hy14 => (intro w hSw; (try dsimp only at hSw); go_simp; try (with_reducible rfl))
                try simp only [Act.put, List.setIfInBounds_toArray, List.set_cons_zero, List.set_cons_succ]
                refine htake (i := 1) (v := ?v15) rfl (by kernel_rfl) (by kernel_rfl) (by kernel_rfl) (fun _ _ _ h => h) (Or.inl ⟨by rfl, ?hy15⟩) (by assumption) ?_
                case hy15 => (intro w hSw; (try dsimp only at hSw); go_simp; try (with_reducible rfl))
                try simp only [Act.put, List.setIfInBounds_toArray, List.set_cons_zero, List.set_cons_succ]
                refine htake (i := 2) (v := ?v16) rfl (by kernel_rfl) (by kernel_rfl) (by kernel_rfl) (fun _ _ _ h => h) (Or.inl ⟨by rfl, ?hy16⟩) (by assumption) ?_
                case hy16 => (intro w hSw; (try dsimp only at hSw); go_simp; try (with_reducible rfl))
                try simp only [Act.put, List.setIfInBounds_toArray, List.set_cons_zero, List.set_cons_succ]
                refine htake (i := 3) (v := ?v17) rfl (by kernel_rfl) (by kernel_rfl) (by kernel_rfl) (fun _ _ _ h => h) (Or.inl ⟨by rfl, ?hy17⟩) (by assumption) ?_
                case hy17 => (intro w hSw; (try dsimp only at hSw); go_simp; try (with_reducible rfl))
                try simp only [Act.put, List.setIfInBounds_toArray, List.set_cons_zero, List.set_cons_succ]
                refine htake (i := 4) (v := ?v18) rfl (by kernel_rfl) (by kernel_rfl) (by kernel_rfl) (fun _ _ _ h => h) (Or.inl ⟨by rfl, ?hy18⟩) (by assumption) ?_
                case hy18 => (intro w hSw; (try dsimp only at hSw); go_simp; try (with_reducible rfl))
                try simp only [Act.put, List.setIfInBounds_toArray, List.set_cons_zero, List.set_cons_succ]
                refine htake (i := 5) (v := ?v19) rfl (by kernel_rfl) (by kernel_rfl) (by kernel_rfl) (fun _ _ _ h => h) (Or.inl ⟨by rfl, ?hy19⟩) (by assumption) ?_
                case hy19 => (intro w hSw; (try dsimp only at hSw); go_simp; try (with_reducible rfl))
                try simp only [Act.put, List.setIfInBounds_toArray, List.set_cons_zero, List.set_cons_succ]
                refine wpAnyH_ready (rs := [6]) (by kernel_rfl) (by simp) ?_
                refine hcons rfl (fun K hK => ?_) (AllReadyH.nil)
                go_simp
                (with_reducible refine (HCON2.out _ hc).mono ?_); rintro e w5 ⟨AR, cR, AK, cK, rfl, ra, ka, hck, hb5⟩; dsimp only; replace hc := hc.trans (hb5.mono hc.size)
                refine hK.out _ _ ?_ (fun hHeld => ?_)
                · (try dsimp only); exact H4.out _ hc
                clear hK K
                try simp only [Act.put, List.setIfInBounds_toArray, List.set_cons_zero, List.set_cons_succ]
                refine htake (i := 7) (v := ?v20) rfl (by kernel_rfl) (by kernel_rfl) (by kernel_rfl) (fun _ _ _ h => h) (Or.inl ⟨by rfl, ?hy20⟩) (by assumption) ?_
                case hy20 => (intro w hSw; (try dsimp only at hSw); go_simp; try (with_reducible rfl))
                try simp only [Act.put, List.setIfInBounds_toArray, List.set_cons_zero, List.set_cons_succ]
                refine htake (i := 8) (v := ?v21) rfl (by kernel_rfl) (by kernel_rfl) (by kernel_rfl) (fun _ _ _ h => h) (Or.inl ⟨by rfl, ?hy21⟩) (by assumption) ?_
                case hy21 => (intro w hSw; (try dsimp only at hSw); go_simp; try (with_reducible rfl))
                try simp only [Act.put, List.setIfInBounds_toArray, List.set_cons_zero, List.set_cons_succ]
                refine htake (i := 9) (v := ?v22) rfl (by kernel_rfl) (by kernel_rfl) (by kernel_rfl) (fun _ _ _ h => h) (Or.inl ⟨by rfl, ?hy22⟩) (by assumption) ?_
                case hy22 => (intro w hSw; (try dsimp only at hSw); go_simp; try (with_reducible rfl))
                try simp only [Act.put, List.setIfInBounds_toArray, List.set_cons_zero, List.set_cons_succ]
                refine htake (i := 10) (v := ?v23) rfl (by kernel_rfl) (by kernel_rfl) (by kernel_rfl) (fun _ _ _ h => h) (Or.inl ⟨by rfl, ?hy23⟩) (by assumption) ?_
                case hy23 => (intro w hSw; (try dsimp only at hSw); go_simp; try (with_reducible rfl))
                try simp only [Act.put, List.setIfInBounds_toArray, List.set_cons_zero, List.set_cons_succ]
                refine htake (i := 11) (v := ?v24) rfl (by kernel_rfl) (by kernel_rfl) (by kernel_rfl) (fun _ _ _ h => h) (Or.inl ⟨by rfl, ?hy24⟩) (by assumption) ?_
                case hy24 => (intro w hSw; (try dsimp only at hSw); go_simp; try (with_reducible rfl))
                try simp only [Act.put, List.setIfInBounds_toArray, List.set_cons_zero, List.set_cons_succ]
                refine htake (i := 12) (v := ?v25) rfl (by kernel_rfl) (by kernel_rfl) (by kernel_rfl) (fun _ _ _ h => h) (Or.inl ⟨by rfl, ?hy25⟩) (by assumption) ?_
                case hy25 => (intro w hSw; (try dsimp only at hSw); go_simp; try (with_reducible rfl))
                try simp only [Act.put, List.setIfInBounds_toArray, List.set_cons_zero, List.set_cons_succ]
                refine htake (i := 13) (v := ?v26) rfl (by kernel_rfl) (by kernel_rfl) (by kernel_rfl) (fun _ _ _ h => h) (Or.inl ⟨by rfl, ?hy26⟩) (by assumption) ?_
                case hy26 => (intro w hSw; (try dsimp only at hSw); go_simp; try (with_reducible rfl))
                try simp only [Act.put, List.setIfInBounds_toArray, List.set_cons_zero, List.set_cons_succ]
                refine wpAnyH_done (by kernel_rfl) ?_ _
                refine NoPanic.normal ?_
                iterate 15 (try clear hHeld)
                have HRA := Lib.hid (show At w5 w5.heap.size 2 spv AR (spansOf rs0) from ra)
                have HKA := Lib.hid (show At w5 w5.heap.size 1 icell AK (firstsOf rs0) from ka)
                have hck1 : rs0.length ≤ cR := hck.1
                have hs0 : (spansOf rs0).length = rs0.length := by unfold spansOf; rw [List.length_map]
                have hf0 : (firstsOf rs0).length = rs0.length := by unfold firstsOf; rw [List.length_map]
                have HC3 := Lib.hid (show Calls Tryd.prog 22 #[.slice AR rs0.length cR, .slice A1 rs0.length c1] w5 (Ret (.bool true) w5) from by
                  have h1 := Spans_any (spansOf rs0) (spansOf rs0) AR A1 cR c1 w5 HRA.out ((RA.out.next hc).pre' (show spansOf rs = spansOf rs0 ++ spansOf z from by rw [HZ.out]; unfold spansOf; rw [List.map_append])) (by omega) (by omega)
                  rw [hs0, decide_eq_true rfl] at h1
                  exact h1)
                have HC4 := Lib.hid (show ∀ W : World, Below w5.heap.size w5 W → Calls Tryd.prog 23 #[.slice AK rs0.length cK, .slice A2 rs0.length c2] W (Ret (.bool true) W) from fun W h => by
                  have h1 := Ints_any (firstsOf rs0) (firstsOf rs0) AK A2 cK c2 W (HKA.out.next h) (((FA.out.next hc).next h).pre' (show firstsOf rs = firstsOf rs0 ++ firstsOf z from by rw [HZ.out]; unfold firstsOf; rw [List.map_append])) (by omega) (by omega)
                  rw [hf0, decide_eq_true rfl] at h1
                  exact h1)
                have hcc1 : rs0.length ≤ c1 := by omega
                have hcc2 : rs0.length ≤ c2 := by omega
                have e1 : decide (xc < xc') = false := decide_eq_false (by omega)
                have e2 : decide ((rs.length : Int) < rs0.length) = false := decide_eq_false (by omega)
                have e3 : decide ((rs0.length : Int) < (rs.length : Int) - 1) = false := decide_eq_false (by omega)
                replace BT := Lib.hid hc
                clear ra ka hck hc hc8 hb5 HCON HCON2 hw1 hI1 H4
                go_wp2_with fail
                refine HC3.out.mono ?_
                rintro e w6 ⟨rfl, hb6⟩
                go_wp2_with fail
                refine (HC4.out _ hb6).mono ?_
                rintro e w7 ⟨rfl, hb7⟩
                go_wp2_with fail
                go_meet
                exact BT.out.trans ((hb6.trans (hb7.mono hb6.size)).mono BT.out.size)
            case rest =>
              have hb := hcut
              replace K := Lib.hid (K.out.next hb)
              replace HB := Lib.hid (HB.out.trans (hb.mono HB.out.size))
              clear hb hcut RA FA hcc
              generalize wc = V8 at *
              by_cases hn2 : (d.blades.length : Int) < 2
              · have p0 := K.out.bx.c 0 _ rfl
                go_wp2_with fail
                refine (awake_any V8 K.out.en).mono ?_
                rintro e V99 ⟨rfl, hb⟩
                go_wp2_with fail
                go_ret
                exact ⟨rfl, HB.out.trans (hb.mono HB.out.size)⟩
              · obtain ⟨wn, hwn, hm1, hm2⟩ := rem_of (n := d.blades.length) (by omega) hx2.1
                have hx3 : IntKind.i64.wrap x2 = x2 := IntWalk.i64_in _ (by omega)
                have hnz : ¬ (d.blades.length : Int) = 0 := by omega
                have p0 := K.out.bx.c 0 _ rfl
                have p1 := K.out.bx.c 1 _ rfl
                have p2 := K.out.bx.c 2 _ rfl
                have p3 := K.out.bx.c 3 _ rfl
                go_upto_region 16 with fail
                clear p0 p1 p2 p3
                have hwb := K.out.bx.lt
                have K8 := K
                have HB8 := HB
                have hA := nxA V8 (.cells #[.slice d.A d.blades.length d.c, .int .i64 d.bound, .int .i64 d.stop, .int .i64 d.bend] 24)
                replace K := Lib.hid (K.out.next hA)
                replace HB := Lib.hid (HB.out.trans (hA.mono HB.out.size))
                have SB := Lib.hid (Bx.new V8 #[.slice d.A d.blades.length d.c, .int .i64 d.bound, .int .i64 d.stop, .int .i64 d.bend] 24)
                clear hA
                have B8 := Lib.hid (nxA V8 (.cells #[.slice d.A d.blades.length d.c, .int .i64 d.bound, .int .i64 d.stop, .int .i64 d.bend] 24))
                generalize (V8.alloc (.cells #[.slice d.A d.blades.length d.c, .int .i64 d.bound, .int .i64 d.stop, .int .i64 d.bend] 24)) = V9 at *
                obtain ⟨ob, oo, eA, hob, -⟩ := K.out.da.at (k := 0) (by omega)
                have H4 := Lib.hid (show ∀ W : World, Below V9.heap.size V9 W → (W.cell? ⟨w.heap.size, 0, none⟩ = some (.slice d.A d.blades.length d.c)) from fun W h => ((K.out.next h).bx.c 0 _ rfl))
                have hc : Below V9.heap.size V9 V9.drew := (Below.refl _ _).drew
                have hdc := HDC.out
                have hI1 : wn ≤ d.c := by omega
                have hI2 : wn + 1 ≤ d.c := by omega
                have hI3 : wn + 1 ≤ d.blades.length := by omega
                have hw1 : IntKind.i64.wrap (wn : Int) = (wn : Int) := IntWalk.i64_in _ (by omega)
                have hw2 : IntKind.i64.wrap ((wn : Int) + 1) = ((wn + 1 : Nat) : Int) := by rw [show (wn : Int) + 1 = ((wn + 1 : Nat) : Int) by omega]; exact IntWalk.i64_in _ (by omega)
                
                have hI5 : 0 ≤ (wn : Int) + 1 := by omega
                have hI6 : (wn : Int) + 1 ≤ (d.blades.length : Int) := by omega
                obtain ⟨ad, had⟩ : ∃ ad : Addr, (if d.c = wn + 1 then some (⟨ob, oo, none⟩ : Addr) else some ⟨ob, oo + (wn + 1) * 4, none⟩) = some ad := by split <;> exact ⟨_, rfl⟩
                obtain ⟨ib, gi, gz0, gz1, gz2⟩ := info_parts blade_sinfo
                have hbl4 : ∀ x : Blade, x.cells.length = 4 := fun _ => rfl
                have HD := Lib.hid (show ∀ W : World, Below V9.heap.size V9 W → At W W.heap.size 4 Blade.cells (some ⟨ob, oo, none⟩) d.blades from fun W h => by have := (K.out.next h).da.bl; rw [eA] at this; exact this)
                have N1 := Lib.hid (show ∀ W : World, Below V9.heap.size V9 W → ∀ j u, ((d.blades.take wn).flatMap Blade.cells)[j]? = some u → W.cell? ((⟨ob, oo, none⟩ : Addr).add j) = some u from fun W h => ((HD.out W h).pre' (List.take_append_drop wn d.blades).symm).news hbl4)
                have N2 := Lib.hid (show ∀ W : World, Below V9.heap.size V9 W → ∀ j u, ((d.blades.drop (wn + 1)).flatMap Blade.cells)[j]? = some u → W.cell? (ad.add j) = some u from fun W h j u hu => by
                  by_cases e : d.c = wn + 1
                  · have e2 : d.blades.drop (wn + 1) = [] := List.drop_eq_nil_of_le (by omega)
                    rw [e2] at hu
                    simp at hu
                  · rw [if_neg e] at had
                    injection had with had
                    subst had
                    exact ((HD.out W h).drop (wn + 1)).news hbl4 j u hu)
                have l1 : (d.blades.take wn).length = wn := by rw [List.length_take]; omega
                have l2 : (d.blades.drop (wn + 1)).length = d.blades.length - (wn + 1) := List.length_drop
                have L1 := Lib.hid (show ((d.blades.take wn).flatMap Blade.cells).length = wn * 4 from by rw [flat_len hbl4, l1])
                have L2 := Lib.hid (show ((d.blades.drop (wn + 1)).flatMap Blade.cells).length = (d.blades.length - (wn + 1)) * 4 from by rw [flat_len hbl4, l2])
                have hlb : (d.blades.take wn ++ d.blades.drop (wn + 1)).length = wn + (d.blades.length - (wn + 1)) := by rw [List.length_append, l1, l2]
                have HLB := Lib.hid hlb
                have hb4 := SB.out.lt
                have EA := Lib.hid eA
                clear hlb l1 l2
                refine wp_region_noPanic ?_
                refine wp_region_held_drew (S := (fun W => W.cell? ⟨w.heap.size, 0, none⟩ = some (.slice d.A d.blades.length d.c))) (by kernel_rfl) ?_ (fun hHeld => ?_)
                · (try dsimp only); exact H4.out _ hc
                refine htake (i := 1) (v := ?v27) rfl (by kernel_rfl) (by kernel_rfl) (by kernel_rfl) (fun _ _ _ h => h) (Or.inl ⟨by rfl, ?hy27⟩) (by assumption) ?_
                case hy27 => (intro w hSw; (try dsimp only at hSw); go_simp; try (with_reducible rfl))
                try simp only [Act.put, List.setIfInBounds_toArray, List.set_cons_zero, List.set_cons_succ]
                refine htake (i := 2) (v := ?v28) rfl (by kernel_rfl) (by kernel_rfl) (by kernel_rfl) (fun _ _ _ h => h) (Or.inl ⟨by rfl, ?hy28⟩) (by assumption) ?_
                case hy28 => (intro w hSw; (try dsimp only at hSw); go_simp; try (with_reducible rfl))
                try simp only [Act.put, List.setIfInBounds_toArray, List.set_cons_zero, List.set_cons_succ]
                refine htake (i := 3) (v := ?v29) rfl (by kernel_rfl) (by kernel_rfl) (by kernel_rfl) (fun _ _ _ h => h) (Or.inl ⟨by rfl, ?hy29⟩) (by assumption) ?_
                case hy29 => (intro w hSw; (try dsimp only at hSw); go_simp; try (with_reducible rfl))
                try simp only [Act.put, List.setIfInBounds_toArray, List.set_cons_zero, List.set_cons_succ]
                refine htake (i := 4) (v := ?v30) rfl (by kernel_rfl) (by kernel_rfl) (by kernel_rfl) (fun _ _ _ h => h) (Or.inl ⟨by rfl, ?hy30⟩) (by assumption) ?_
                case hy30 => (intro w hSw; (try dsimp only at hSw); go_simp; try (with_reducible rfl))
                try simp only [Act.put, List.setIfInBounds_toArray, List.set_cons_zero, List.set_cons_succ]
                refine htake (i := 6) (v := ?v31) rfl (by kernel_rfl) (by kernel_rfl) (by kernel_rfl) (fun _ _ _ h => h) (Or.inl ⟨by rfl, ?hy31⟩) (by assumption) ?_
                case hy31 => (intro w hSw; (try dsimp only at hSw); go_simp; try (with_reducible rfl))
                try simp only [Act.put, List.setIfInBounds_toArray, List.set_cons_zero, List.set_cons_succ]
                refine htake (i := 7) (v := ?v32) rfl (by kernel_rfl) (by kernel_rfl) (by kernel_rfl) (fun _ _ _ h => h) (Or.inl ⟨by rfl, ?hy32⟩) (by assumption) ?_
                case hy32 => (intro w hSw; (try dsimp only at hSw); go_simp; try (with_reducible rfl))
                try simp only [Act.put, List.setIfInBounds_toArray, List.set_cons_zero, List.set_cons_succ]
                refine htake (i := 8) (v := ?v33) rfl (by kernel_rfl) (by kernel_rfl) (by kernel_rfl) (fun _ _ _ h => h) (Or.inl ⟨by rfl, ?hy33⟩) (by assumption) ?_
                case hy33 => (intro w hSw; (try dsimp only at hSw); go_simp; try (with_reducible rfl))
                try simp only [Act.put, List.setIfInBounds_toArray, List.set_cons_zero, List.set_cons_succ]
                refine htake (i := 9) (v := ?v34) rfl (by kernel_rfl) (by kernel_rfl) (by kernel_rfl) (fun _ _ _ h => h) (Or.inl ⟨by rfl, ?hy34⟩) (by assumption) ?_
                case hy34 => (intro w hSw; (try dsimp only at hSw); go_simp; try (with_reducible rfl))
                try simp only [Act.put, List.setIfInBounds_toArray, List.set_cons_zero, List.set_cons_succ]
                refine htake (i := 10) (v := ?v35) rfl (by kernel_rfl) (by kernel_rfl) (by kernel_rfl) (fun _ _ _ h => h) (Or.inl ⟨by rfl, ?hy35⟩) (by assumption) ?_
                case hy35 => (intro w hSw; (try dsimp only at hSw); go_simp; try (with_reducible rfl))
                try simp only [Act.put, List.setIfInBounds_toArray, List.set_cons_zero, List.set_cons_succ]
                refine wpAnyH_ready (rs := [0]) (by kernel_rfl) (by simp) ?_
                refine hcons rfl (fun K hK => ?_) (AllReadyH.nil)
                go_simp
                have h16 := heap_alloc_new V9 (.cells #[] 53); replace hc := hc.alloc hc.size (.cells #[] 53)
                refine hK.out _ _ ?_ (fun hHeld => ?_)
                · (try dsimp only); exact H4.out _ hc
                clear hK K
                try simp only [Act.put, List.setIfInBounds_toArray, List.set_cons_zero, List.set_cons_succ]
                refine wpAnyH_ready (rs := [5]) (by kernel_rfl) (by simp) ?_
                refine hcons rfl (fun K hK => ?_) (AllReadyH.nil)
                refine step_append_any rfl (.tmp 171) (.tmp 175) 22 rfl V9.heap.size 53 ib (.agg #[.int .i64 0, .int .i64 0, .int .i64 0, .int .i64 0]) 4 32 Tryd.underlying22 gi gz0 gz1 gz2 rfl (by decide) _ 0 [] rfl (own_empty h16 (Nat.le_refl _)) ⟨ob, oo, none⟩ wn d.c ((d.blades.take wn).flatMap Blade.cells) rfl L1.out (N1.out _ hc) blade_one (by unfold maxLen; omega) (by omega) hc.size ?_; intro v5 w5 ho5 hg5; replace hc := grown_from hc hg5 hc.size (fun g e => by injection e with e; subst e; exact Nat.le_refl _)
                refine hK.out _ _ ?_ (fun hHeld => ?_)
                · (try dsimp only); exact H4.out _ hc
                clear hK K
                try simp only [Act.put, List.setIfInBounds_toArray, List.set_cons_zero, List.set_cons_succ]
                refine wpAnyH_ready (rs := [11]) (by kernel_rfl) (by simp) ?_
                refine hcons rfl (fun K hK => ?_) (AllReadyH.nil)
                refine step_append_any rfl (.tmp 176) (.tmp 181) 22 rfl V9.heap.size 53 ib (.agg #[.int .i64 0, .int .i64 0, .int .i64 0, .int .i64 0]) 4 32 Tryd.underlying22 gi gz0 gz1 gz2 rfl (by decide) v5 (0 + wn) ([] ++ (d.blades.take wn).flatMap Blade.cells) rfl ho5 ad (d.blades.length - (wn + 1)) (d.c - (wn + 1)) ((d.blades.drop (wn + 1)).flatMap Blade.cells) rfl L2.out (N2.out _ hc) blade_one (by unfold maxLen; omega) (by omega) hc.size ?_; intro v6 w6 ho6 hg6; replace hc := grown_from hc hg6 hc.size (fun g e => (ho5.lt g e).1); obtain ⟨A9, c9, rfl, -⟩ := own_form ho6
                refine hK.out _ _ ?_ (fun hHeld => ?_)
                · (try dsimp only); exact H4.out _ hc
                clear hK K
                try simp only [Act.put, List.setIfInBounds_toArray, List.set_cons_zero, List.set_cons_succ]
                refine htake (i := 12) (v := ?v36) rfl (by kernel_rfl) (by kernel_rfl) (by kernel_rfl) (fun _ _ _ h => h) (Or.inl ⟨by rfl, ?hy36⟩) (by assumption) ?_
                case hy36 => (intro w hSw; (try dsimp only at hSw); go_simp; try (with_reducible rfl))
                try simp only [Act.put, List.setIfInBounds_toArray, List.set_cons_zero, List.set_cons_succ]
                refine wpAnyH_ready (rs := [13]) (by kernel_rfl) (by simp) ?_
                refine hcons rfl (fun K hK => ?_) (AllReadyH.nil)
                have z0 := (SB.out.next hc).c 0 _ rfl; have z2 := (SB.out.next hc).fr 0; go_simp
                refine hK.out _ _ ?_ (fun hHeld => ?_)
                · (try dsimp only); exact (World.cell?_setCell_other _ _ _ _ (by intro e; injection e with e; omega)).trans (H4.out _ hc)
                clear hK K
                try simp only [Act.put]
                refine wpAnyH_done (by kernel_rfl) ?_ _
                refine NoPanic.normal ?_
                iterate 15 (try clear hHeld)
                obtain ⟨bl', hbl'⟩ : ∃ b, d.blades.take wn ++ d.blades.drop (wn + 1) = b := ⟨_, rfl⟩
                have hlb := HLB.out
                rw [hbl'] at hlb
                rw [← hlb]
                rw [Nat.zero_add, List.nil_append, ← List.flatMap_append, hbl', ← hlb] at ho6
                obtain ⟨A8, c8, e8, at8⟩ := own_at (size := 4) (fun _ => rfl) (by omega) (own_setCells hb4 [.slice A9 bl'.length c9] 0 ho6)
                injection e8 with e8 e9 e10
                subst e8 e10
                have SB8 := Lib.hid (show Bx (w6.setCell ⟨V8.heap.size, 0, none⟩ (.slice A9 bl'.length c9)) V8.heap.size [.slice A9 bl'.length c9, .int .i64 d.bound, .int .i64 d.stop, .int .i64 d.bend] from (SB.out.next hc).set1 (k := 0) (by simp) _)
                have hb8 : Below V8.heap.size V8 (w6.setCell ⟨V8.heap.size, 0, none⟩ (.slice A9 bl'.length c9)) := (B8.out.trans (hc.mono (by omega))).setCell (p := ⟨V8.heap.size, 0, none⟩) (Nat.le_refl _) _
                obtain ⟨d', hd'⟩ : ∃ d' : Die, (⟨bl', d.bound, d.stop, d.bend, A9, c9⟩ : Die) = d' := ⟨_, rfl⟩
                have DA := Lib.hid (show DieAt (w6.setCell ⟨V8.heap.size, 0, none⟩ (.slice A9 bl'.length c9)) (w6.setCell ⟨V8.heap.size, 0, none⟩ (.slice A9 bl'.length c9)).heap.size d' from by rw [← hd']; exact ⟨at8, by show bl'.length ≤ _; omega⟩)
                obtain ⟨ok', ⟨x', hx', hxc⟩, hal', hrl'⟩ := less_blade (d' := d') OK.out OKL.out hwn (by omega) (by rw [← hd']; exact hbl'.symm) (by rw [← hd']) (by rw [← hd']) (by rw [← hd']) HBS.out
                obtain ⟨hps', hpr'⟩ := ans_some ok' OKL.out hx'
                obtain ⟨xp', xc'⟩ := x'
                dsimp only at hps' hxc
                rw [HRS.out] at hrl'
                obtain ⟨rs', hrs'⟩ : ∃ rs, proofS d'.blades d'.bound l = rs := ⟨_, rfl⟩
                rw [hrs'] at hpr' hrl'
                have HPS := Lib.hid hps'
                have HPR := Lib.hid hpr'
                replace K := Lib.hid (K8.out.next hb8)
                replace HB := Lib.hid (HB8.out.trans (hb8.mono HB8.out.size))
                have eL : bl'.length = d'.blades.length := by rw [← hd']
                have eS := Lib.hid (show ∀ W : World, Bx W V8.heap.size [.slice A9 bl'.length c9, .int .i64 d.bound, .int .i64 d.stop, .int .i64 d.bend] → Bx W V8.heap.size (dieL d') from fun W h => by rw [← hd']; exact h)
                clear ho6 hg6 at8 hb8 hps' hpr' hrs' hal' hx' ok' h16 ho5 hg5 z0 z2 hc N1 N2 L1 L2 HD H4 SB B8 K8 HB8 gi gz0 gz1 gz2 had hw1 hw2 hI1 hI2 hI3 hI5 hI6 HLB
                generalize (w6.setCell ⟨V8.heap.size, 0, none⟩ (.slice A9 bl'.length c9)) = V10 at *
                have SX := Lib.hid (eS.out _ SB8.out)
                clear SB8 eS
                have p0 := SX.out.c 0 _ rfl
                have p1 := SX.out.c 1 _ rfl
                have p2 := SX.out.c 2 _ rfl
                have p3 := SX.out.c 3 _ rfl
                go_wp2_with fail
                have hcon := (Plan_any d' A c l V10 DA.out K.out.la HL.out K.out.en)
                rw [HPS.out] at hcon
                refine (hcon).mono ?_
                rintro e V11 ⟨AQ, cQ, rfl, -, hb⟩
                replace DA := Lib.hid (DA.out.next hb)
                replace SX := Lib.hid (SX.out.next hb)
                replace K := Lib.hid (K.out.next hb)
                replace HB := Lib.hid (HB.out.trans (hb.mono HB.out.size))
                clear hb p0 p1 p2 p3 hcon
                dsimp only
                have p0 := SX.out.c 0 _ rfl
                have p1 := SX.out.c 1 _ rfl
                have p2 := SX.out.c 2 _ rfl
                have p3 := SX.out.c 3 _ rfl
                go_wp2_with fail
                have hcon := (Proof_anyC d' A c l V11 DA.out K.out.la HL.out K.out.en)
                rw [HPR.out] at hcon
                refine (hcon).mono ?_
                rintro e V12 ⟨A3, c3, A4, c4, rfl, -, -, -, hb⟩
                replace DA := Lib.hid (DA.out.next hb)
                replace SX := Lib.hid (SX.out.next hb)
                replace K := Lib.hid (K.out.next hb)
                replace HB := Lib.hid (HB.out.trans (hb.mono HB.out.size))
                clear hb p0 p1 p2 p3 hcon
                dsimp only
                have e1 : decide (xc' ≤ xc) = true := decide_eq_true hxc
                have e2 : decide ((rs'.length : Int) ≤ rs.length) = true := decide_eq_true (by omega)
                go_wp2_with fail
                refine (awake_any V12 K.out.en).mono ?_
                rintro e V99 ⟨rfl, hb⟩
                go_wp2_with fail
                go_ret
                exact ⟨rfl, HB.out.trans (hb.mono HB.out.size)⟩
end Go.Proofs.YtbhkglokdomajaaDoor
