import Derived.Test.YtbhkglokdomajaaDoorC1
import Derived.Test.YtbhkglokdomajaaDoorT0
import Derived.Test.YtbhkglokdomajaaDoorT4
import Derived.Deep.DeepCutAuto
namespace Go.Proofs.YtbhkglokdomajaaDoor
open Go.RowKit
/-! The law RuleMore. -/
structure LwM (d : Die) (A : Option Addr) (l : List Stint) (bs : Nat) (W : World) : Prop where
  da : DieAt W W.heap.size d
  la : At W W.heap.size 2 Stint.cells A l
  en : Env W
  bx : Bx W bs (dieL d)
theorem LwM.next {d : Die} {A : Option Addr} {l : List Stint} {bs : Nat} {W W' : World} (h : LwM d A l bs W) (hb : Below W.heap.size W W') : LwM d A l bs W' := ⟨h.da.next hb, h.la.next hb, h.en.next hb, h.bx.next hb⟩
def R17M (x y : Int) (l : List Stint) (g : Nat) (V : World) (iv : Value) (W : World) : Prop := ∃ i : Nat, i ≤ l.length ∧ iv = .int .i64 i ∧ LBlk Stint.cells 2 W g (moreL x y i l) ∧ Below V.heap.size V W
def R22M (V : World) (iv : Value) (W : World) : Prop := ∃ i : Nat, i ≤ 3 ∧ iv = .int .i64 i ∧ Below V.heap.size V W
def mask17m : List (Option Nat) := [none, none, none, none, none, none, none, none, none, none, none, none, none, none, none, none, none, none, none, some 19, none, none, none, none, none, none, none, none, none, none, none, none, none, none, none, none, none, none, none, none, none, none, none, none, none, none, none, none, none, none, none, none, none, none, none, none, none, none, none, none, none, none, none, none, none, none, none, none, none, none, none, none, none, none, none, none, none, none, none, none, none, none, none, none, none, none, none, none, none, none, none, none, none, none, none, none, none, none, none, none, none, none, none, none, none, none, none, none, none, none, none, none, none, none, none, none, none, none, none, none, none, none, none, none, none, none, none, none, none, none, none, none, none, none, none, none, none, none, none, none, none, none, none, none, none, none, none, none, none, none, none, none, none, none, none, none, none, some 157, some 158, some 159, some 160, some 161, some 162, some 163, some 164, some 165, some 166, some 167, some 168, some 169, some 170, some 171, some 172, some 173, some 174, some 175, some 176, some 177, some 178, some 179, some 180, some 181, some 182, some 183, some 184, some 185, some 186, some 187, some 188, some 189, some 190, none, none, none, none, none, none, none, none, none, none, none, none, none, none, none, none, none, none, none, none, none, none, none, none, none, none, none, none, none, none, none, none, none, none, none, none, none, none, none, none, none, none, none, none, none, none, none, none, none, none, none, none, none, none, none, none, none, none, none, none, none, none, none, none, none]
def mask22m : List (Option Nat) := [none, none, none, none, none, none, none, none, some 8, none, none, none, none, none, none, none, none, none, none, none, some 20, some 21, some 22, some 23, some 24, some 25, some 26, some 27, some 28, some 29, some 30, some 31, some 32, none, none, none, none, none, none, none, none, none, none, none, none, none, none, none, none, none, none, none, none, none, none, none, none, none, none, none, none, none, none, none, none, none, none, none, none, none, none, none, none, none, none, none, none, none, none, none, none, none, none, none, none, none, none, none, none, none, none, none, none, none, none, none, none, none, none, none, none, none, none, none, none, none, none, none, none, none, none, none, none, none, none, none, none, none, none, none, none, none, none, none, none, none, none, none, none, none, none, none, none, none, none, none, none, none, none, none, none, none, none, none, none, none, none, none, none, none, none, none, none, none, none, none, none, none, none, none, none, none, none, none, none, none, none, none, none, none, none, none, none, none, none, none, none, none, none, none, none, none, none, none, none, none, none, none, none, none, none, some 191, some 192, some 193, some 194, some 195, some 196, some 197, some 198, some 199, some 200, some 201, some 202, some 203, some 204, some 205, some 206, some 207, some 208, some 209, some 210, some 211, some 212, some 213, some 214, some 215, some 216, some 217, some 218, some 219, some 220, some 221, some 222, some 223, some 224, some 225, some 226, some 227, some 228, some 229, some 230, some 231, some 232, some 233, some 234, some 235, some 236, some 237, some 238, some 239, some 240, some 241, some 242, some 243, some 244, some 245, some 246, some 247, some 248, some 249, some 250, some 251, some 252, some 253, some 254, none]
set_option maxRecDepth 100000 in
set_option maxHeartbeats 4000000 in
theorem RuleMore_walk (d : Die) (A : Option Addr) (c : Nat) (l : List Stint) (x2 y2 : Int) (w : World) (hd : DieAt w w.heap.size d) (hr : At w w.heap.size 2 Stint.cells A l) (hl : l.length ≤ 9223372036854775807) (hbx : (Lit.int .u8 x2).wf = true) (hby : (Lit.int .u8 y2).wf = true) (he : Env w) :
    Calls Tryd.prog 10 #[.agg #[.slice d.A d.blades.length d.c, .int .i64 d.bound, .int .i64 d.stop, .int .i64 d.bend], .slice A l.length c, .int .u8 x2, .int .u8 y2] w (Ret (.bool true) w) := by
  have hx2 : 0 ≤ x2 ∧ x2 < 256 := by simp [Lit.wf, IntKind.min, IntKind.max, IntKind.bits, IntKind.signed] at hbx; omega
  have hy2 : 0 ≤ y2 ∧ y2 < 256 := by simp [Lit.wf, IntKind.min, IntKind.max, IntKind.bits, IntKind.signed] at hby; omega
  clear hbx hby
  have K := Lib.hid (show LwM d A l w.heap.size (w.alloc (.cells #[.slice d.A d.blades.length d.c, .int .i64 d.bound, .int .i64 d.stop, .int .i64 d.bend] 24)) from ⟨hd.next (nxA _ _), hr.next (nxA _ _), he.next (nxA _ _), Bx.new w #[.slice d.A d.blades.length d.c, .int .i64 d.bound, .int .i64 d.stop, .int .i64 d.bend] 24⟩)
  have HB := Lib.hid (nxA w (.cells #[.slice d.A d.blades.length d.c, .int .i64 d.bound, .int .i64 d.stop, .int .i64 d.bend] 24))
  have HL := Lib.hid hl
  clear hd hr hl he
  go_enter Tryd.func10, Tryd.ntmps10
  go_wp2_with fail
  generalize (w.alloc (.cells #[.slice d.A d.blades.length d.c, .int .i64 d.bound, .int .i64 d.stop, .int .i64 d.bend] 24)) = V1 at *
  have p0 := K.out.bx.c 0 _ rfl
  have p1 := K.out.bx.c 1 _ rfl
  have p2 := K.out.bx.c 2 _ rfl
  have p3 := K.out.bx.c 3 _ rfl
  go_wp2_with fail
  refine (far_any d A none l.length c 0 0 V1).mono ?_
  rintro e V2 ⟨bf, rfl, hb⟩
  replace K := Lib.hid (K.out.next hb)
  replace HB := Lib.hid (HB.out.trans (hb.mono HB.out.size))
  clear hb p0 p1 p2 p3
  cases bf
  rotate_left
  · go_wp2_with fail
    refine (awake_any V2 K.out.en).mono ?_
    rintro e V99 ⟨rfl, hb⟩
    go_wp2_with fail
    go_ret
    exact ⟨rfl, HB.out.trans (hb.mono HB.out.size)⟩
  · skip
    have p0 := K.out.bx.c 0 _ rfl
    have p1 := K.out.bx.c 1 _ rfl
    have p2 := K.out.bx.c 2 _ rfl
    have p3 := K.out.bx.c 3 _ rfl
    go_wp2_with fail
    refine (heavy_any d A l.length c 32768 V2).mono ?_
    rintro e V3 ⟨bh, rfl, hb⟩
    replace K := Lib.hid (K.out.next hb)
    replace HB := Lib.hid (HB.out.trans (hb.mono HB.out.size))
    clear hb p0 p1 p2 p3
    cases bh
    rotate_left
    · go_wp2_with fail
      refine (awake_any V3 K.out.en).mono ?_
      rintro e V99 ⟨rfl, hb⟩
      go_wp2_with fail
      go_ret
      exact ⟨rfl, HB.out.trans (hb.mono HB.out.size)⟩
    · skip
      have p0 := K.out.bx.c 0 _ rfl
      have p1 := K.out.bx.c 1 _ rfl
      have p2 := K.out.bx.c 2 _ rfl
      have p3 := K.out.bx.c 3 _ rfl
      go_wp2_with fail
      refine (Die_any d V3 K.out.da).mono ?_
      rintro e V4 ⟨rfl, hb⟩
      replace K := Lib.hid (K.out.next hb)
      replace HB := Lib.hid (HB.out.trans (hb.mono HB.out.size))
      clear hb p0 p1 p2 p3
      cases hds : dieS d
      · go_wp2_with fail
        refine (awake_any V4 K.out.en).mono ?_
        rintro e V99 ⟨rfl, hb⟩
        go_wp2_with fail
        go_ret
        exact ⟨rfl, HB.out.trans (hb.mono HB.out.size)⟩
      · skip
        go_wp2_with fail
        refine (Stints_any A c l V4 K.out.la HL.out).mono ?_
        rintro e V5 ⟨rfl, hb⟩
        replace K := Lib.hid (K.out.next hb)
        replace HB := Lib.hid (HB.out.trans (hb.mono HB.out.size))
        clear hb 
        cases hst : stintsS l
        · go_wp2_with fail
          refine (awake_any V5 K.out.en).mono ?_
          rintro e V99 ⟨rfl, hb⟩
          go_wp2_with fail
          go_ret
          exact ⟨rfl, HB.out.trans (hb.mono HB.out.size)⟩
        · skip
          have OK := Lib.hid ((okd_iff d).1 hds)
          have OKL := Lib.hid ((okl_iff l).1 hst)
          have hll := OKL.out.nl
          have hnb := OK.out.nb
          clear hds hst
          have p0 := K.out.bx.c 0 _ rfl
          have p1 := K.out.bx.c 1 _ rfl
          have p2 := K.out.bx.c 2 _ rfl
          have p3 := K.out.bx.c 3 _ rfl
          go_wp2_with fail
          have hcon := (Plan_any d A c l V5 K.out.da K.out.la HL.out K.out.en)
          cases hbs : bestD d l with
          | none =>
            obtain ⟨hps, hpr⟩ := ans_none OK.out OKL.out hbs
            rw [hps] at hcon
            have HPR := Lib.hid hpr
            clear hps hpr hbs
            refine (hcon).mono ?_
            rintro e V6 ⟨AP, cP, rfl, -, hb⟩
            replace K := Lib.hid (K.out.next hb)
            replace HB := Lib.hid (HB.out.trans (hb.mono HB.out.size))
            clear hb p0 p1 p2 p3 hcon
            dsimp only
            have p0 := K.out.bx.c 0 _ rfl
            have p1 := K.out.bx.c 1 _ rfl
            have p2 := K.out.bx.c 2 _ rfl
            have p3 := K.out.bx.c 3 _ rfl
            go_wp2_with fail
            have hcon := (Proof_any d A c l V6 K.out.da K.out.la HL.out K.out.en)
            rw [HPR.out] at hcon
            refine (hcon).mono ?_
            rintro e V7 ⟨A1, c1, A2, c2, rfl, -, -, hb⟩
            replace K := Lib.hid (K.out.next hb)
            replace HB := Lib.hid (HB.out.trans (hb.mono HB.out.size))
            clear hb p0 p1 p2 p3 hcon
            dsimp only
            go_wp2_with fail
            refine (awake_any V7 K.out.en).mono ?_
            rintro e V99 ⟨rfl, hb⟩
            go_wp2_with fail
            go_ret
            exact ⟨rfl, HB.out.trans (hb.mono HB.out.size)⟩
          | some x =>
            obtain ⟨hps, hpr⟩ := ans_some OK.out OKL.out hbs
            rw [hps] at hcon
            have HPR := Lib.hid hpr
            have HBS := Lib.hid hbs
            obtain ⟨xp, xc⟩ := x
            dsimp only at hcon
            clear hps hpr hbs
            refine (hcon).mono ?_
            rintro e V6 ⟨AP, cP, rfl, hp, hb⟩
            replace K := Lib.hid (K.out.next hb)
            replace HB := Lib.hid (HB.out.trans (hb.mono HB.out.size))
            have P1 := Lib.hid (hp)
            clear hb p0 p1 p2 p3 hcon
            clear hp
            dsimp only at P1 ⊢
            have p0 := K.out.bx.c 0 _ rfl
            have p1 := K.out.bx.c 1 _ rfl
            have p2 := K.out.bx.c 2 _ rfl
            have p3 := K.out.bx.c 3 _ rfl
            go_wp2_with fail
            have hcon := (Proof_any d A c l V6 K.out.da K.out.la HL.out K.out.en)
            rw [HPR.out] at hcon
            have hpl := (proofR_len' d l)
            rw [HPR.out] at hpl
            dsimp only at hpl
            obtain ⟨rs, hrs⟩ : ∃ rs, proofS d.blades d.bound l = rs := ⟨_, rfl⟩
            rw [hrs] at hcon hpl
            have HRS := Lib.hid hrs
            clear hrs HPR
            refine (hcon).mono ?_
            rintro e V7 ⟨A1, c1, A2, c2, rfl, -, -, hb⟩
            replace P1 := Lib.hid (P1.out.next hb)
            replace K := Lib.hid (K.out.next hb)
            replace HB := Lib.hid (HB.out.trans (hb.mono HB.out.size))
            clear hb p0 p1 p2 p3 hcon
            dsimp only
            have p0 := K.out.bx.c 0 _ rfl
            have p1 := K.out.bx.c 1 _ rfl
            have p2 := K.out.bx.c 2 _ rfl
            have p3 := K.out.bx.c 3 _ rfl
            go_upto_region 9 with fail
            clear p0 p1 p2 p3
            have H4 := Lib.hid (show ∀ W : World, Below V7.heap.size V7 W → (W.cell? ⟨w.heap.size, 0, none⟩ = some (.slice d.A d.blades.length d.c) ∧ W.cell? ⟨w.heap.size, 1, none⟩ = some (.int .i64 d.bound) ∧ W.cell? ⟨w.heap.size, 2, none⟩ = some (.int .i64 d.stop) ∧ W.cell? ⟨w.heap.size, 3, none⟩ = some (.int .i64 d.bend)) from fun W h => ⟨(K.out.next h).bx.c 0 _ rfl, (K.out.next h).bx.c 1 _ rfl, (K.out.next h).bx.c 2 _ rfl, (K.out.next h).bx.c 3 _ rfl⟩)
            have hc : Below V7.heap.size V7 V7.drew := (Below.refl _ _).drew
            go_cut [15, 16] (fun s15 s16 wx => ∃ g1 g2 : Nat, s15 = .pointer (some ⟨g1, 0, none⟩) ∧ s16 = .pointer (some ⟨g2, 0, none⟩) ∧ g1 ≠ g2 ∧ V7.heap.size ≤ g1 ∧ V7.heap.size ≤ g2 ∧ Bx wx g1 (dieL d) ∧ Bx wx g2 (dieL d) ∧ Below V7.heap.size V7 wx)
            case first =>
              refine wp_region_noPanic ?_
              refine wp_region_held_drew (S := (fun W => W.cell? ⟨w.heap.size, 0, none⟩ = some (.slice d.A d.blades.length d.c) ∧ W.cell? ⟨w.heap.size, 1, none⟩ = some (.int .i64 d.bound) ∧ W.cell? ⟨w.heap.size, 2, none⟩ = some (.int .i64 d.stop) ∧ W.cell? ⟨w.heap.size, 3, none⟩ = some (.int .i64 d.bend))) (by kernel_rfl) ?_ (fun hHeld => ?_)
              · (try dsimp only); first | exact H4.out _ (Below.refl _ _).drew | exact H4.out _ ((Below.refl _ _).alloc (Nat.le_refl _) _) | exact H4.out _ ((Below.refl _ _).alloc (Nat.le_refl _) _).drew | exact H4.out _ (((Below.refl _ _).alloc (Nat.le_refl _) _).alloc (by simp) _) | exact H4.out _ (((Below.refl _ _).alloc (Nat.le_refl _) _).alloc (by simp) _).drew
              refine htake (i := 0) (v := ?v1) rfl (by kernel_rfl) (by kernel_rfl) (by kernel_rfl) (fun _ _ _ h => h) (Or.inl ⟨by rfl, ?hy1⟩) (by assumption) ?_
              case hy1 => (intro w hSw; (try dsimp only at hSw); go_simp; try (with_reducible rfl))
              try simp only [Act.put, List.setIfInBounds_toArray, List.set_cons_zero, List.set_cons_succ]
              refine htake (i := 1) (v := ?v2) rfl (by kernel_rfl) (by kernel_rfl) (by kernel_rfl) (fun _ _ _ h => h) (Or.inl ⟨by rfl, ?hy2⟩) (by assumption) ?_
              case hy2 => (intro w hSw; (try dsimp only at hSw); go_simp; try (with_reducible rfl))
              try simp only [Act.put, List.setIfInBounds_toArray, List.set_cons_zero, List.set_cons_succ]
              refine wpAnyH_ready (rs := [2, 3]) (by kernel_rfl) (by simp) ?_
              refine hcons rfl (fun K hK => ?_) (hcons rfl (fun K hK => ?_) (AllReadyH.nil))
              go_simp
              refine hK.out _ _ ?_ (fun hHeld => ?_)
              · (try dsimp only); first | exact H4.out _ (Below.refl _ _).drew | exact H4.out _ ((Below.refl _ _).alloc (Nat.le_refl _) _) | exact H4.out _ ((Below.refl _ _).alloc (Nat.le_refl _) _).drew | exact H4.out _ (((Below.refl _ _).alloc (Nat.le_refl _) _).alloc (by simp) _) | exact H4.out _ (((Below.refl _ _).alloc (Nat.le_refl _) _).alloc (by simp) _).drew
              clear hK K
              try simp only [Act.put, List.setIfInBounds_toArray, List.set_cons_zero, List.set_cons_succ]
              refine wpAnyH_ready (rs := [3]) (by kernel_rfl) (by simp) ?_
              refine hcons rfl (fun K hK => ?_) (AllReadyH.nil)
              go_simp
              refine hK.out _ _ ?_ (fun hHeld => ?_)
              · (try dsimp only); first | exact H4.out _ (Below.refl _ _).drew | exact H4.out _ ((Below.refl _ _).alloc (Nat.le_refl _) _) | exact H4.out _ ((Below.refl _ _).alloc (Nat.le_refl _) _).drew | exact H4.out _ (((Below.refl _ _).alloc (Nat.le_refl _) _).alloc (by simp) _) | exact H4.out _ (((Below.refl _ _).alloc (Nat.le_refl _) _).alloc (by simp) _).drew
              clear hK K
              try simp only [Act.put, List.setIfInBounds_toArray, List.set_cons_zero, List.set_cons_succ]
              refine wpAnyH_ready (rs := [4]) (by kernel_rfl) (by simp) ?_
              refine hcons rfl (fun K hK => ?_) (AllReadyH.nil)
              go_simp
              refine hK.out _ _ ?_ (fun hHeld => ?_)
              · (try dsimp only); first | exact H4.out _ (Below.refl _ _).drew | exact H4.out _ ((Below.refl _ _).alloc (Nat.le_refl _) _) | exact H4.out _ ((Below.refl _ _).alloc (Nat.le_refl _) _).drew | exact H4.out _ (((Below.refl _ _).alloc (Nat.le_refl _) _).alloc (by simp) _) | exact H4.out _ (((Below.refl _ _).alloc (Nat.le_refl _) _).alloc (by simp) _).drew
              clear hK K
              try simp only [Act.put, List.setIfInBounds_toArray, List.set_cons_zero, List.set_cons_succ]
              refine wpAnyH_ready (rs := [5]) (by kernel_rfl) (by simp) ?_
              refine hcons rfl (fun K hK => ?_) (AllReadyH.nil)
              go_simp
              refine hK.out _ _ ?_ (fun hHeld => ?_)
              · (try dsimp only); first | exact H4.out _ (Below.refl _ _).drew | exact H4.out _ ((Below.refl _ _).alloc (Nat.le_refl _) _) | exact H4.out _ ((Below.refl _ _).alloc (Nat.le_refl _) _).drew | exact H4.out _ (((Below.refl _ _).alloc (Nat.le_refl _) _).alloc (by simp) _) | exact H4.out _ (((Below.refl _ _).alloc (Nat.le_refl _) _).alloc (by simp) _).drew
              clear hK K
              try simp only [Act.put, List.setIfInBounds_toArray, List.set_cons_zero, List.set_cons_succ]
              refine wpAnyH_done (by kernel_rfl) ?_ _
              refine NoPanic.normal ?_
              rotate_left
              go_simp
              refine hK.out _ _ ?_ (fun hHeld => ?_)
              · (try dsimp only); first | exact H4.out _ (Below.refl _ _).drew | exact H4.out _ ((Below.refl _ _).alloc (Nat.le_refl _) _) | exact H4.out _ ((Below.refl _ _).alloc (Nat.le_refl _) _).drew | exact H4.out _ (((Below.refl _ _).alloc (Nat.le_refl _) _).alloc (by simp) _) | exact H4.out _ (((Below.refl _ _).alloc (Nat.le_refl _) _).alloc (by simp) _).drew
              clear hK K
              try simp only [Act.put, List.setIfInBounds_toArray, List.set_cons_zero, List.set_cons_succ]
              refine wpAnyH_ready (rs := [2]) (by kernel_rfl) (by simp) ?_
              refine hcons rfl (fun K hK => ?_) (AllReadyH.nil)
              go_simp
              refine hK.out _ _ ?_ (fun hHeld => ?_)
              · (try dsimp only); first | exact H4.out _ (Below.refl _ _).drew | exact H4.out _ ((Below.refl _ _).alloc (Nat.le_refl _) _) | exact H4.out _ ((Below.refl _ _).alloc (Nat.le_refl _) _).drew | exact H4.out _ (((Below.refl _ _).alloc (Nat.le_refl _) _).alloc (by simp) _) | exact H4.out _ (((Below.refl _ _).alloc (Nat.le_refl _) _).alloc (by simp) _).drew
              clear hK K
              try simp only [Act.put, List.setIfInBounds_toArray, List.set_cons_zero, List.set_cons_succ]
              refine wpAnyH_ready (rs := [4]) (by kernel_rfl) (by simp) ?_
              refine hcons rfl (fun K hK => ?_) (AllReadyH.nil)
              go_simp
              refine hK.out _ _ ?_ (fun hHeld => ?_)
              · (try dsimp only); first | exact H4.out _ (Below.refl _ _).drew | exact H4.out _ ((Below.refl _ _).alloc (Nat.le_refl _) _) | exact H4.out _ ((Below.refl _ _).alloc (Nat.le_refl _) _).drew | exact H4.out _ (((Below.refl _ _).alloc (Nat.le_refl _) _).alloc (by simp) _) | exact H4.out _ (((Below.refl _ _).alloc (Nat.le_refl _) _).alloc (by simp) _).drew
              clear hK K
              try simp only [Act.put, List.setIfInBounds_toArray, List.set_cons_zero, List.set_cons_succ]
              refine wpAnyH_ready (rs := [5]) (by kernel_rfl) (by simp) ?_
              refine hcons rfl (fun K hK => ?_) (AllReadyH.nil)
              go_simp
              refine hK.out _ _ ?_ (fun hHeld => ?_)
              · (try dsimp only); first | exact H4.out _ (Below.refl _ _).drew | exact H4.out _ ((Below.refl _ _).alloc (Nat.le_refl _) _) | exact H4.out _ ((Below.refl _ _).alloc (Nat.le_refl _) _).drew | exact H4.out _ (((Below.refl _ _).alloc (Nat.le_refl _) _).alloc (by simp) _) | exact H4.out _ (((Below.refl _ _).alloc (Nat.le_refl _) _).alloc (by simp) _).drew
              clear hK K
              try simp only [Act.put, List.setIfInBounds_toArray, List.set_cons_zero, List.set_cons_succ]
              refine wpAnyH_done (by kernel_rfl) ?_ _
              refine NoPanic.normal ?_
              iterate 7 (try clear hHeld)
              all_goals (go_wp2_with fail; go_meet)
              · exact ⟨_, _, rfl, rfl, by omega, by omega, by omega, (two_box V7 #[.slice d.A d.blades.length d.c, .int .i64 d.bound, .int .i64 d.stop, .int .i64 d.bend] 24).2.1.drew, (two_box V7 #[.slice d.A d.blades.length d.c, .int .i64 d.bound, .int .i64 d.stop, .int .i64 d.bend] 24).1.drew, (two_box V7 #[.slice d.A d.blades.length d.c, .int .i64 d.bound, .int .i64 d.stop, .int .i64 d.bend] 24).2.2.drew⟩
              · exact ⟨_, _, rfl, rfl, by omega, by omega, by omega, (two_box V7 #[.slice d.A d.blades.length d.c, .int .i64 d.bound, .int .i64 d.stop, .int .i64 d.bend] 24).1.drew, (two_box V7 #[.slice d.A d.blades.length d.c, .int .i64 d.bound, .int .i64 d.stop, .int .i64 d.bend] 24).2.1.drew, (two_box V7 #[.slice d.A d.blades.length d.c, .int .i64 d.bound, .int .i64 d.stop, .int .i64 d.bend] 24).2.2.drew⟩
            case rest =>
              obtain ⟨g1, g2, rfl, rfl, hg12, hg1, hg2, hx1, hx2', hw⟩ := hcut
              have X1 := Lib.hid hx1
              have X2 := Lib.hid hx2'
              have HW := Lib.hid hw
              have hV8 := hx1.lt
              have hV9 := hx2'.lt
              clear hx1 hx2' hw H4 hc
              generalize wc = V8 at *
              obtain ⟨wn, hwn, hm1, hm2⟩ := rem_of (n := d.blades.length) (by omega) hx2.1
              have hx3 : IntKind.i64.wrap x2 = x2 := IntWalk.i64_in _ (by omega)
              have hy3 : IntKind.i64.wrap y2 = y2 := IntWalk.i64_in _ (by omega)
              have hnz : ¬ (d.blades.length : Int) = 0 := by omega
              obtain ⟨ob, oo, eA, hob, -⟩ := (K.out.next HW.out).da.at (k := 0) (by omega)
              obtain ⟨ib, gi, gz0, gz1, gz2⟩ := info_parts blade_sinfo
              have hbl4 : ∀ x : Blade, x.cells.length = 4 := fun _ => rfl
              have hown := World.ownsRow_lit (base := V8.heap.size) (e := 53) (size := 4) V8 #[] 0 (Nat.le_refl _) (by decide) rfl
              have hnews : ∀ j u, (d.blades.flatMap Blade.cells)[j]? = some u → (V8.alloc (.cells #[] 53)).cell? ((⟨ob, oo, none⟩ : Addr).add j) = some u := by
                have := ((K.out.next HW.out).da.next (nxA V8 (.cells #[] 53))).bl
                rw [eA] at this
                exact this.news hbl4
              have L1 := Lib.hid (flat_len hbl4 d.blades)
              have EA := Lib.hid eA
              have p0 := (K.out.next HW.out).bx.c 0 _ rfl
              have hwlt := (K.out.next HW.out).bx.lt
              go_wp2_with (at_builtin; refine wpList_append_own_at _ rfl (.tmp 95) (.tmp 97) 22 rfl V8.heap.size 53 ib (.agg #[.int .i64 0, .int .i64 0, .int .i64 0, .int .i64 0]) 4 32 Tryd.underlying22 gi gz0 gz1 gz2 rfl (by decide) _ 0 [] rfl hown ⟨ob, oo, none⟩ d.blades.length d.c (d.blades.flatMap Blade.cells) rfl L1.out hnews blade_one (by unfold maxLen; omega) (by omega) (by simp) ?_; intro v9 w9 ho9 hg9 hn9 _; rw [Nat.zero_add, List.nil_append] at ho9; obtain ⟨gB, cB, rfl, hgB, hLB⟩ := own_lblk hbl4 (by omega) ho9 rfl (fun e => by injection (show (Value.slice (some ⟨V8.heap.size, 0, none⟩) 0 0 : Value) = .slice none 0 0 from (hn9.1 e).1) with e1; cases e1); have hb9 := grown_from (nxA V8 (.cells #[] 53)) hg9 (nxA V8 (.cells #[] 53)).size (fun g e => by injection e with e; subst e; exact Nat.le_refl _); have z0 := (X1.out.next hb9).c 0 _ rfl; have z2 := (X1.out.next hb9).fr 0)
              have X1' := Lib.hid (show Bx (w9.setCell ⟨g1, 0, none⟩ (.slice (some ⟨gB, 0, none⟩) d.blades.length cB)) g1 [(.slice (some ⟨gB, 0, none⟩) d.blades.length cB), .int .i64 d.bound, .int .i64 d.stop, .int .i64 d.bend] from (X1.out.next hb9).set1 (k := 0) (by simp [dieL]) _)
              have X2' := Lib.hid ((X2.out.next hb9).far (k := 0) hg12 (.slice (some ⟨gB, 0, none⟩) d.blades.length cB))
              have LB := Lib.hid (hLB.far (g := g1) (k := 0) (by omega) (.slice (some ⟨gB, 0, none⟩) d.blades.length cB))
              have HW' := Lib.hid ((HW.out.trans (hb9.mono HW.out.size)).setCell (p := ⟨g1, 0, none⟩) hg1 (.slice (some ⟨gB, 0, none⟩) d.blades.length cB))
              have hgBn : g1 ≠ gB ∧ g2 ≠ gB := by omega
              have hgB7 : V7.heap.size ≤ gB := by have := HW.out.size; omega
              clear X1 X2 HW hb9 hLB ho9 hg9 hn9 z0 z2 hnews hown L1 hV8 hV9 hgB hwlt hob gi gz0 gz1 gz2 p0
              generalize (w9.setCell ⟨g1, 0, none⟩ (.slice (some ⟨gB, 0, none⟩) d.blades.length cB)) = V10 at *
              have x0 := X1'.out.c 0 _ rfl
              have p0 := (K.out.next HW'.out).bx.c 0 _ rfl
              have hwI : (wn : Int) < d.blades.length := by omega
              go_quiet (fail)
              go_wp2_with fail
              clear x0 p0 hwI
              have hb := below_drewN (Below.refl V10.heap.size V10) nq
              replace X1' := Lib.hid (X1'.out.next hb)
              replace X2' := Lib.hid (X2'.out.next hb)
              replace LB := Lib.hid (LB.out.next hb)
              replace HW' := Lib.hid (HW'.out.trans (hb.mono HW'.out.size))
              clear hb
              generalize V10.drewN nq = V11 at *
              have hbx := bladeAt_get hwn
              have hBk := OK.out.at hwn
              obtain ⟨b0, hb0⟩ : ∃ b0, bladeAt d wn = b0 := ⟨_, rfl⟩
              rw [hb0] at hbx hBk
              obtain ⟨fl, fh, wl, wh⟩ := b0
              have HB0 := Lib.hid hb0
              have HBX := Lib.hid hbx
              obtain ⟨⟨hf1, hf2, hf3⟩, hw1, hw2, hw3⟩ := hBk
              dsimp only at hf1 hf2 hf3 hw1 hw2 hw3
              obtain ⟨r5, hr5⟩ : ∃ r, y2 % 5 = r := ⟨_, rfl⟩
              have hr5t : Int.tmod y2 5 = r5 := by rw [Int.tmod_eq_emod_of_nonneg hy2.1]; exact hr5
              obtain ⟨r3, hr3⟩ : ∃ r, y2 % 3 = r := ⟨_, rfl⟩
              have hr3t : Int.tmod y2 3 = r3 := by rw [Int.tmod_eq_emod_of_nonneg hy2.1]; exact hr3
              have hrb : 0 ≤ r5 ∧ r5 < 5 ∧ 0 ≤ r3 ∧ r3 < 3 := by omega
              have hws : IntKind.i64.wrap (fh - r5) = fh - r5 := IntWalk.i64_in _ (by omega)
              have hws3 : IntKind.i64.wrap (wh - r3) = wh - r3 := IntWalk.i64_in _ (by omega)
              have HL4 := Lib.hid (show ∀ W : World, Below V11.heap.size V11 W → (W.cell? ⟨gB, wn * 4, none⟩ = some (.int .i64 fl) ∧ W.cell? ⟨gB, wn * 4 + 1, none⟩ = some (.int .i64 fh) ∧ W.frozen? ⟨gB, wn * 4 + 1, none⟩ = false) from fun W h => ⟨(LB.out.next h).cell hbx (j := 0) rfl, (LB.out.next h).cell hbx (j := 1) rfl, (LB.out.next h).fr _⟩)
              have hc : Below V11.heap.size V11 V11.drew := (Below.refl _ _).drew
              clear hbx hb0 eA
              refine wp_region_noPanic ?_
              refine wp_region_held_drew (S := (fun W => W.cell? ⟨gB, wn * 4, none⟩ = some (.int .i64 fl))) (by kernel_rfl) ?_ (fun hHeld => ?_)
              · (try dsimp only); exact (HL4.out _ hc).1
              refine htake (i := 0) (v := ?v3) rfl (by kernel_rfl) (by kernel_rfl) (by kernel_rfl) (fun _ _ _ h => h) (Or.inl ⟨by rfl, ?hy3⟩) (by assumption) ?_
              case hy3 => (intro w hSw; (try dsimp only at hSw); go_simp; try (with_reducible rfl))
              try simp only [Act.put, List.setIfInBounds_toArray, List.set_cons_zero, List.set_cons_succ]
              refine htake (i := 1) (v := ?v4) rfl (by kernel_rfl) (by kernel_rfl) (by kernel_rfl) (fun _ _ _ h => h) (Or.inl ⟨by rfl, ?hy4⟩) (by assumption) ?_
              case hy4 => (intro w hSw; (try dsimp only at hSw); go_simp; try (with_reducible rfl))
              try simp only [Act.put, List.setIfInBounds_toArray, List.set_cons_zero, List.set_cons_succ]
              refine htake (i := 2) (v := ?v5) rfl (by kernel_rfl) (by kernel_rfl) (by kernel_rfl) (fun _ _ _ h => h) (Or.inl ⟨by rfl, ?hy5⟩) (by assumption) ?_
              case hy5 => (intro w hSw; (try dsimp only at hSw); go_simp; try (with_reducible rfl))
              try simp only [Act.put, List.setIfInBounds_toArray, List.set_cons_zero, List.set_cons_succ]
              refine htake (i := 3) (v := ?v6) rfl (by kernel_rfl) (by kernel_rfl) (by kernel_rfl) (fun _ _ _ h => h) (Or.inl ⟨by rfl, ?hy6⟩) (by assumption) ?_
              case hy6 => (intro w hSw; (try dsimp only at hSw); go_simp; try (with_reducible rfl))
              try simp only [Act.put, List.setIfInBounds_toArray, List.set_cons_zero, List.set_cons_succ]
              refine htake (i := 4) (v := ?v7) rfl (by kernel_rfl) (by kernel_rfl) (by kernel_rfl) (fun _ _ _ h => h) (Or.inl ⟨by rfl, ?hy7⟩) (by assumption) ?_
              case hy7 => (intro w hSw; (try dsimp only at hSw); go_simp; try (with_reducible rfl))
              try simp only [Act.put, List.setIfInBounds_toArray, List.set_cons_zero, List.set_cons_succ]
              refine htake (i := 5) (v := ?v8) rfl (by kernel_rfl) (by kernel_rfl) (by kernel_rfl) (fun _ _ _ h => h) (Or.inl ⟨by rfl, ?hy8⟩) (by assumption) ?_
              case hy8 => (intro w hSw; (try dsimp only at hSw); go_simp; try (with_reducible rfl))
              try simp only [Act.put, List.setIfInBounds_toArray, List.set_cons_zero, List.set_cons_succ]
              refine htake (i := 6) (v := ?v9) rfl (by kernel_rfl) (by kernel_rfl) (by kernel_rfl) (fun _ _ _ h => h) (Or.inl ⟨by rfl, ?hy9⟩) (by assumption) ?_
              case hy9 => (intro w hSw; (try dsimp only at hSw); go_simp; try (with_reducible rfl))
              try simp only [Act.put, List.setIfInBounds_toArray, List.set_cons_zero, List.set_cons_succ]
              refine htake (i := 7) (v := ?v10) rfl (by kernel_rfl) (by kernel_rfl) (by kernel_rfl) (fun _ _ _ h => h) (Or.inl ⟨by rfl, ?hy10⟩) (by assumption) ?_
              case hy10 => (intro w hSw; (try dsimp only at hSw); go_simp; try (with_reducible rfl))
              try simp only [Act.put, List.setIfInBounds_toArray, List.set_cons_zero, List.set_cons_succ]
              refine htake (i := 8) (v := ?v11) rfl (by kernel_rfl) (by kernel_rfl) (by kernel_rfl) (fun _ _ _ h => h) (Or.inl ⟨by rfl, ?hy11⟩) (by assumption) ?_
              case hy11 => (intro w hSw; (try dsimp only at hSw); go_simp; try (with_reducible rfl))
              try simp only [Act.put, List.setIfInBounds_toArray, List.set_cons_zero, List.set_cons_succ]
              refine htake (i := 9) (v := ?v12) rfl (by kernel_rfl) (by kernel_rfl) (by kernel_rfl) (fun _ _ _ h => h) (Or.inl ⟨by rfl, ?hy12⟩) (by assumption) ?_
              case hy12 => (intro w hSw; (try dsimp only at hSw); go_simp; try (with_reducible rfl))
              try simp only [Act.put, List.setIfInBounds_toArray, List.set_cons_zero, List.set_cons_succ]
              refine htake (i := 11) (v := ?v13) rfl (by kernel_rfl) (by kernel_rfl) (by kernel_rfl) (fun _ _ _ h => h) (Or.inl ⟨by rfl, ?hy13⟩) (by assumption) ?_
              case hy13 => (intro w hSw; (try dsimp only at hSw); go_simp; try (with_reducible rfl))
              try simp only [Act.put, List.setIfInBounds_toArray, List.set_cons_zero, List.set_cons_succ]
              refine htake (i := 12) (v := ?v14) rfl (by kernel_rfl) (by kernel_rfl) (by kernel_rfl) (fun _ _ _ h => h) (Or.inl ⟨by rfl, ?hy14⟩) (by assumption) ?_
              case hy14 => (intro w hSw; (try dsimp only at hSw); go_simp; try (with_reducible rfl))
              try simp only [Act.put, List.setIfInBounds_toArray, List.set_cons_zero, List.set_cons_succ]
              refine htake (i := 13) (v := ?v15) rfl (by kernel_rfl) (by kernel_rfl) (by kernel_rfl) (fun _ _ _ h => h) (Or.inl ⟨by rfl, ?hy15⟩) (by assumption) ?_
              case hy15 => (intro w hSw; (try dsimp only at hSw); go_simp; try (with_reducible rfl))
              try simp only [Act.put, List.setIfInBounds_toArray, List.set_cons_zero, List.set_cons_succ]
              refine wpAnyH_ready (rs := [10]) (by kernel_rfl) (by simp) ?_
              refine hcons rfl (fun K hK => ?_) (AllReadyH.nil)
              have z1 := (HL4.out _ hc).2.1; go_simp
              refine hK.out _ _ ?_ (fun hHeld => ?_)
              · (try dsimp only); exact (HL4.out _ hc).1
              clear hK K
              try simp only [Act.put, List.setIfInBounds_toArray, List.set_cons_zero, List.set_cons_succ]
              refine htake (i := 14) (v := ?v16) rfl (by kernel_rfl) (by kernel_rfl) (by kernel_rfl) (fun _ _ _ h => h) (Or.inl ⟨by rfl, ?hy16⟩) (by assumption) ?_
              case hy16 => (intro w hSw; (try dsimp only at hSw); go_simp; try (with_reducible rfl))
              try simp only [Act.put, List.setIfInBounds_toArray, List.set_cons_zero, List.set_cons_succ]
              refine htake (i := 15) (v := ?v17) rfl (by kernel_rfl) (by kernel_rfl) (by kernel_rfl) (fun _ _ _ h => h) (Or.inl ⟨by rfl, ?hy17⟩) (by assumption) ?_
              case hy17 => (intro w hSw; (try dsimp only at hSw); go_simp; try (with_reducible rfl))
              try simp only [Act.put, List.setIfInBounds_toArray, List.set_cons_zero, List.set_cons_succ]
              refine htake (i := 16) (v := ?v18) rfl (by kernel_rfl) (by kernel_rfl) (by kernel_rfl) (fun _ _ _ h => h) (Or.inl ⟨by rfl, ?hy18⟩) (by assumption) ?_
              case hy18 => (intro w hSw; (try dsimp only at hSw); go_simp; try (with_reducible rfl))
              try simp only [Act.put, List.setIfInBounds_toArray, List.set_cons_zero, List.set_cons_succ]
              refine htake (i := 17) (v := ?v19) rfl (by kernel_rfl) (by kernel_rfl) (by kernel_rfl) (fun _ _ _ h => h) (Or.inl ⟨by rfl, ?hy19⟩) (by assumption) ?_
              case hy19 => (intro w hSw; (try dsimp only at hSw); go_simp; try (with_reducible rfl))
              try simp only [Act.put, List.setIfInBounds_toArray, List.set_cons_zero, List.set_cons_succ]
              refine htake (i := 18) (v := ?v20) rfl (by kernel_rfl) (by kernel_rfl) (by kernel_rfl) (fun _ _ _ h => h) (Or.inl ⟨by rfl, ?hy20⟩) (by assumption) ?_
              case hy20 => (intro w hSw; (try dsimp only at hSw); go_simp; try (with_reducible rfl))
              try simp only [Act.put, List.setIfInBounds_toArray, List.set_cons_zero, List.set_cons_succ]
              refine wpAnyH_ready (rs := [19]) (by kernel_rfl) (by simp) ?_
              refine hcons rfl (fun K hK => ?_) (AllReadyH.nil)
              have z2 := (HL4.out _ hc).2.2; have z1 := (HL4.out _ hc).2.1; go_simp
              refine hK.out _ _ ?_ (fun hHeld => ?_)
              · (try dsimp only); exact (World.cell?_setCell_other _ _ _ _ (by intro e; injection e with _ e; omega)).trans (HL4.out _ hc).1
              clear hK K
              try simp only [Act.put]
              refine wpAnyH_done (by kernel_rfl) ?_ _
              refine NoPanic.normal ?_
              iterate 21 (try clear hHeld)
              obtain ⟨M1, hM1⟩ : ∃ m : Int, m = (if fl < fh - r5 then fh - r5 else fl) := ⟨_, rfl⟩
              rw [← hM1]
              have hM1b : M1 = max fl (fh - r5) := by rw [hM1]; split <;> omega
              have hM1c : 0 ≤ M1 ∧ M1 ≤ 10000 := by omega
              clear hM1 HL4 hc hws
              have LB2 := Lib.hid (show LBlk Blade.cells 4 (V11.setCell ⟨gB, wn * 4 + 1, none⟩ (.int .i64 M1)).drew gB (d.blades.set wn ⟨fl, M1, wl, wh⟩) from (LB.out.set hbl4 HBX.out (j := 1) (x' := ⟨fl, M1, wl, wh⟩) (by omega) rfl).drew)
              have X3 := Lib.hid ((X1'.out.far (k := wn * 4 + 1) hgBn.1.symm (.int .i64 M1)).drew)
              have X4 := Lib.hid ((X2'.out.far (k := wn * 4 + 1) hgBn.2.symm (.int .i64 M1)).drew)
              have HW2 := Lib.hid ((HW'.out.setCell (p := ⟨gB, wn * 4 + 1, none⟩) hgB7 (.int .i64 M1)).drew)
              clear LB X1' X2' HW'
              generalize (V11.setCell ⟨gB, wn * 4 + 1, none⟩ (.int .i64 M1)).drew = V12 at *
              go_upto_region 13 with fail
              have hbx2 : (d.blades.set wn ⟨fl, M1, wl, wh⟩)[wn]? = some ⟨fl, M1, wl, wh⟩ := List.getElem?_set_self hwn
              have HL4 := Lib.hid (show ∀ W : World, Below V12.heap.size V12 W → (W.cell? ⟨gB, wn * 4 + 2, none⟩ = some (.int .i64 wl) ∧ W.cell? ⟨gB, wn * 4 + 3, none⟩ = some (.int .i64 wh) ∧ W.frozen? ⟨gB, wn * 4 + 3, none⟩ = false) from fun W h => ⟨(LB2.out.next h).cell hbx2 (j := 2) rfl, (LB2.out.next h).cell hbx2 (j := 3) rfl, (LB2.out.next h).fr _⟩)
              have HBX2 := Lib.hid hbx2
              clear hbx2
              have hc : Below V12.heap.size V12 V12.drew := (Below.refl _ _).drew
              refine wp_region_noPanic ?_
              refine wp_region_held_drew (S := (fun W => W.cell? ⟨gB, wn * 4 + 2, none⟩ = some (.int .i64 wl))) (by kernel_rfl) ?_ (fun hHeld => ?_)
              · (try dsimp only); exact (HL4.out _ hc).1
              refine htake (i := 0) (v := ?v21) rfl (by kernel_rfl) (by kernel_rfl) (by kernel_rfl) (fun _ _ _ h => h) (Or.inl ⟨by rfl, ?hy21⟩) (by assumption) ?_
              case hy21 => (intro w hSw; (try dsimp only at hSw); go_simp; try (with_reducible rfl))
              try simp only [Act.put, List.setIfInBounds_toArray, List.set_cons_zero, List.set_cons_succ]
              refine htake (i := 1) (v := ?v22) rfl (by kernel_rfl) (by kernel_rfl) (by kernel_rfl) (fun _ _ _ h => h) (Or.inl ⟨by rfl, ?hy22⟩) (by assumption) ?_
              case hy22 => (intro w hSw; (try dsimp only at hSw); go_simp; try (with_reducible rfl))
              try simp only [Act.put, List.setIfInBounds_toArray, List.set_cons_zero, List.set_cons_succ]
              refine htake (i := 2) (v := ?v23) rfl (by kernel_rfl) (by kernel_rfl) (by kernel_rfl) (fun _ _ _ h => h) (Or.inl ⟨by rfl, ?hy23⟩) (by assumption) ?_
              case hy23 => (intro w hSw; (try dsimp only at hSw); go_simp; try (with_reducible rfl))
              try simp only [Act.put, List.setIfInBounds_toArray, List.set_cons_zero, List.set_cons_succ]
              refine htake (i := 3) (v := ?v24) rfl (by kernel_rfl) (by kernel_rfl) (by kernel_rfl) (fun _ _ _ h => h) (Or.inl ⟨by rfl, ?hy24⟩) (by assumption) ?_
              case hy24 => (intro w hSw; (try dsimp only at hSw); go_simp; try (with_reducible rfl))
              try simp only [Act.put, List.setIfInBounds_toArray, List.set_cons_zero, List.set_cons_succ]
              refine htake (i := 4) (v := ?v25) rfl (by kernel_rfl) (by kernel_rfl) (by kernel_rfl) (fun _ _ _ h => h) (Or.inl ⟨by rfl, ?hy25⟩) (by assumption) ?_
              case hy25 => (intro w hSw; (try dsimp only at hSw); go_simp; try (with_reducible rfl))
              try simp only [Act.put, List.setIfInBounds_toArray, List.set_cons_zero, List.set_cons_succ]
              refine htake (i := 5) (v := ?v26) rfl (by kernel_rfl) (by kernel_rfl) (by kernel_rfl) (fun _ _ _ h => h) (Or.inl ⟨by rfl, ?hy26⟩) (by assumption) ?_
              case hy26 => (intro w hSw; (try dsimp only at hSw); go_simp; try (with_reducible rfl))
              try simp only [Act.put, List.setIfInBounds_toArray, List.set_cons_zero, List.set_cons_succ]
              refine htake (i := 6) (v := ?v27) rfl (by kernel_rfl) (by kernel_rfl) (by kernel_rfl) (fun _ _ _ h => h) (Or.inl ⟨by rfl, ?hy27⟩) (by assumption) ?_
              case hy27 => (intro w hSw; (try dsimp only at hSw); go_simp; try (with_reducible rfl))
              try simp only [Act.put, List.setIfInBounds_toArray, List.set_cons_zero, List.set_cons_succ]
              refine htake (i := 7) (v := ?v28) rfl (by kernel_rfl) (by kernel_rfl) (by kernel_rfl) (fun _ _ _ h => h) (Or.inl ⟨by rfl, ?hy28⟩) (by assumption) ?_
              case hy28 => (intro w hSw; (try dsimp only at hSw); go_simp; try (with_reducible rfl))
              try simp only [Act.put, List.setIfInBounds_toArray, List.set_cons_zero, List.set_cons_succ]
              refine htake (i := 8) (v := ?v29) rfl (by kernel_rfl) (by kernel_rfl) (by kernel_rfl) (fun _ _ _ h => h) (Or.inl ⟨by rfl, ?hy29⟩) (by assumption) ?_
              case hy29 => (intro w hSw; (try dsimp only at hSw); go_simp; try (with_reducible rfl))
              try simp only [Act.put, List.setIfInBounds_toArray, List.set_cons_zero, List.set_cons_succ]
              refine htake (i := 9) (v := ?v30) rfl (by kernel_rfl) (by kernel_rfl) (by kernel_rfl) (fun _ _ _ h => h) (Or.inl ⟨by rfl, ?hy30⟩) (by assumption) ?_
              case hy30 => (intro w hSw; (try dsimp only at hSw); go_simp; try (with_reducible rfl))
              try simp only [Act.put, List.setIfInBounds_toArray, List.set_cons_zero, List.set_cons_succ]
              refine htake (i := 11) (v := ?v31) rfl (by kernel_rfl) (by kernel_rfl) (by kernel_rfl) (fun _ _ _ h => h) (Or.inl ⟨by rfl, ?hy31⟩) (by assumption) ?_
              case hy31 => (intro w hSw; (try dsimp only at hSw); go_simp; try (with_reducible rfl))
              try simp only [Act.put, List.setIfInBounds_toArray, List.set_cons_zero, List.set_cons_succ]
              refine htake (i := 12) (v := ?v32) rfl (by kernel_rfl) (by kernel_rfl) (by kernel_rfl) (fun _ _ _ h => h) (Or.inl ⟨by rfl, ?hy32⟩) (by assumption) ?_
              case hy32 => (intro w hSw; (try dsimp only at hSw); go_simp; try (with_reducible rfl))
              try simp only [Act.put, List.setIfInBounds_toArray, List.set_cons_zero, List.set_cons_succ]
              refine htake (i := 13) (v := ?v33) rfl (by kernel_rfl) (by kernel_rfl) (by kernel_rfl) (fun _ _ _ h => h) (Or.inl ⟨by rfl, ?hy33⟩) (by assumption) ?_
              case hy33 => (intro w hSw; (try dsimp only at hSw); go_simp; try (with_reducible rfl))
              try simp only [Act.put, List.setIfInBounds_toArray, List.set_cons_zero, List.set_cons_succ]
              refine wpAnyH_ready (rs := [10]) (by kernel_rfl) (by simp) ?_
              refine hcons rfl (fun K hK => ?_) (AllReadyH.nil)
              have z1 := (HL4.out _ hc).2.1; go_simp
              refine hK.out _ _ ?_ (fun hHeld => ?_)
              · (try dsimp only); exact (HL4.out _ hc).1
              clear hK K
              try simp only [Act.put, List.setIfInBounds_toArray, List.set_cons_zero, List.set_cons_succ]
              refine htake (i := 14) (v := ?v34) rfl (by kernel_rfl) (by kernel_rfl) (by kernel_rfl) (fun _ _ _ h => h) (Or.inl ⟨by rfl, ?hy34⟩) (by assumption) ?_
              case hy34 => (intro w hSw; (try dsimp only at hSw); go_simp; try (with_reducible rfl))
              try simp only [Act.put, List.setIfInBounds_toArray, List.set_cons_zero, List.set_cons_succ]
              refine htake (i := 15) (v := ?v35) rfl (by kernel_rfl) (by kernel_rfl) (by kernel_rfl) (fun _ _ _ h => h) (Or.inl ⟨by rfl, ?hy35⟩) (by assumption) ?_
              case hy35 => (intro w hSw; (try dsimp only at hSw); go_simp; try (with_reducible rfl))
              try simp only [Act.put, List.setIfInBounds_toArray, List.set_cons_zero, List.set_cons_succ]
              refine htake (i := 16) (v := ?v36) rfl (by kernel_rfl) (by kernel_rfl) (by kernel_rfl) (fun _ _ _ h => h) (Or.inl ⟨by rfl, ?hy36⟩) (by assumption) ?_
              case hy36 => (intro w hSw; (try dsimp only at hSw); go_simp; try (with_reducible rfl))
              try simp only [Act.put, List.setIfInBounds_toArray, List.set_cons_zero, List.set_cons_succ]
              refine htake (i := 17) (v := ?v37) rfl (by kernel_rfl) (by kernel_rfl) (by kernel_rfl) (fun _ _ _ h => h) (Or.inl ⟨by rfl, ?hy37⟩) (by assumption) ?_
              case hy37 => (intro w hSw; (try dsimp only at hSw); go_simp; try (with_reducible rfl))
              try simp only [Act.put, List.setIfInBounds_toArray, List.set_cons_zero, List.set_cons_succ]
              refine htake (i := 18) (v := ?v38) rfl (by kernel_rfl) (by kernel_rfl) (by kernel_rfl) (fun _ _ _ h => h) (Or.inl ⟨by rfl, ?hy38⟩) (by assumption) ?_
              case hy38 => (intro w hSw; (try dsimp only at hSw); go_simp; try (with_reducible rfl))
              try simp only [Act.put, List.setIfInBounds_toArray, List.set_cons_zero, List.set_cons_succ]
              refine wpAnyH_ready (rs := [19]) (by kernel_rfl) (by simp) ?_
              refine hcons rfl (fun K hK => ?_) (AllReadyH.nil)
              have z2 := (HL4.out _ hc).2.2; have z1 := (HL4.out _ hc).2.1; go_simp
              refine hK.out _ _ ?_ (fun hHeld => ?_)
              · (try dsimp only); exact (World.cell?_setCell_other _ _ _ _ (by intro e; injection e with _ e; omega)).trans (HL4.out _ hc).1
              clear hK K
              try simp only [Act.put]
              refine wpAnyH_done (by kernel_rfl) ?_ _
              refine NoPanic.normal ?_
              iterate 21 (try clear hHeld)
              obtain ⟨M2, hM2⟩ : ∃ m : Int, m = (if wl < wh - r3 then wh - r3 else wl) := ⟨_, rfl⟩
              rw [← hM2]
              have hM2b : M2 = max wl (wh - r3) := by rw [hM2]; split <;> omega
              have hM2c : 0 ≤ M2 ∧ M2 ≤ 10000 := by omega
              clear hM2 HL4 hc hws3
              have LB3 := Lib.hid (show LBlk Blade.cells 4 (V12.setCell ⟨gB, wn * 4 + 3, none⟩ (.int .i64 M2)).drew gB (d.blades.set wn ⟨fl, M1, wl, M2⟩) from by
                have := (LB2.out.set hbl4 HBX2.out (j := 3) (x' := ⟨fl, M1, wl, M2⟩) (v := .int .i64 M2) (by omega) rfl).drew
                rw [List.set_set] at this
                exact this)
              have X5 := Lib.hid ((X3.out.far (k := wn * 4 + 3) hgBn.1.symm (.int .i64 M2)).drew)
              have X6 := Lib.hid ((X4.out.far (k := wn * 4 + 3) hgBn.2.symm (.int .i64 M2)).drew)
              have HW3 := Lib.hid ((HW2.out.setCell (p := ⟨gB, wn * 4 + 3, none⟩) hgB7 (.int .i64 M2)).drew)
              clear LB2 X3 X4 HW2 HBX HBX2
              generalize (V12.setCell ⟨gB, wn * 4 + 3, none⟩ (.int .i64 M2)).drew = V13 at *
              go_upto_region 14 with fail
              have p1 := (K.out.next HW3.out).bx.c 1 _ rfl
              have z1 := X6.out.c 1 _ rfl
              have z2 := X6.out.fr 1
              have hbd := OK.out.bound
              go_cut [16] (fun s16 wx => s16 = .pointer (some ⟨g2, 0, none⟩) ∧ ∃ bd : Int, bd = min 100000 (d.bound + y2) ∧ wx = V13.setCell ⟨g2, 1, none⟩ (.int .i64 bd))
              case first =>
                go_wp2_with fail
                all_goals go_meet
                all_goals (refine ⟨rfl, _, ?_, rfl⟩; omega)
              case rest =>
                obtain ⟨rfl, bd, hbd2, rfl⟩ := hcut
                obtain ⟨d1, hd1⟩ : ∃ d1 : Die, (⟨d.blades.set wn ⟨fl, M1, wl, M2⟩, d.bound, d.stop, d.bend, some ⟨gB, 0, none⟩, cB⟩ : Die) = d1 := ⟨_, rfl⟩
                obtain ⟨d2, hd2⟩ : ∃ d2 : Die, (⟨d.blades, bd, d.stop, d.bend, d.A, d.c⟩ : Die) = d2 := ⟨_, rfl⟩
                have mr1 := mor_all (sharp_mor (d' := d1) OK.out OKL.out hwn (y := y2) (by rw [← hd1, HB0.out]; show d.blades.set wn ⟨fl, M1, wl, M2⟩ = d.blades.set wn ⟨fl, max fl (fh - y2 % 5), wl, max wl (wh - y2 % 3)⟩; rw [hr5, hr3, hM1b, hM2b]) (by rw [← hd1]) (by rw [← hd1]) (by rw [← hd1])) HBS.out
                have mr2 := mor_all (loose_mor (d' := d2) OK.out OKL.out (y := y2) hy2.1 (by rw [← hd2]) (by rw [← hd2]; exact hbd2) (by rw [← hd2]) (by rw [← hd2])) HBS.out
                have mr3 := mor_all (short_mor OK.out OKL.out (x := x2) (y := y2)) HBS.out
                rw [HRS.out] at mr1 mr2 mr3
                have S1 := Lib.hid (show Bx (V13.setCell ⟨g2, 1, none⟩ (.int .i64 bd)) g1 (dieL d1) from by rw [← hd1]; unfold dieL; rw [List.length_set]; exact X5.out.far (k := 1) hg12.symm (.int .i64 bd))
                have S2 := Lib.hid (show Bx (V13.setCell ⟨g2, 1, none⟩ (.int .i64 bd)) g2 (dieL d2) from by rw [← hd2]; exact X6.out.set1 (k := 1) (by simp [dieL]) (.int .i64 bd))
                have hlb4 := LB3.out.far (g := g2) (k := 1) hgBn.2 (.int .i64 bd)
                have hw4 := HW3.out.setCell (p := ⟨g2, 1, none⟩) hg2 (.int .i64 bd)
                have D1 := Lib.hid (show DieAt (V13.setCell ⟨g2, 1, none⟩ (.int .i64 bd)) (V13.setCell ⟨g2, 1, none⟩ (.int .i64 bd)).heap.size d1 from by rw [← hd1]; exact ⟨hlb4.at_, by show (d.blades.set wn _).length ≤ _; rw [List.length_set]; omega⟩)
                have D2 := Lib.hid (show DieAt (V13.setCell ⟨g2, 1, none⟩ (.int .i64 bd)) (V13.setCell ⟨g2, 1, none⟩ (.int .i64 bd)).heap.size d2 from by rw [← hd2]; exact ⟨(K.out.next hw4).da.bl, (K.out.next hw4).da.l1⟩)
                replace K := Lib.hid (K.out.next hw4)
                replace P1 := Lib.hid (P1.out.next hw4)
                replace HB := Lib.hid (HB.out.trans (hw4.mono HB.out.size))
                clear LB3 X5 X6 HW3 hlb4 hw4 p1 z1 z2 hd1 hd2 hM1b hM2b hM1c hM2c hr5t hr3t hr5 hr3 hrb hbd2 HB0 hgBn hgB7 hf1 hf2 hf3 hw1 hw2 hw3 hm1 hm2 hnz EA
                generalize (V13.setCell ⟨g2, 1, none⟩ (.int .i64 bd)) = V14 at *
                obtain ⟨ist, gi, gz0, gz1, gz2⟩ := info_parts stint_sinfo
                have hst2 : ∀ x : Stint, x.cells.length = 2 := fun _ => rfl
                have hown := World.ownsRow_lit (base := V14.heap.size) (e := 58) (size := 2) V14 #[] 0 (Nat.le_refl _) (by decide) rfl
                go_upto_region 15 with fail
                go_cut [18] (fun s18 wx => ∃ gS cS : Nat, s18 = .slice (some ⟨gS, 0, none⟩) l.length cS ∧ V14.heap.size ≤ gS ∧ LBlk Stint.cells 2 wx gS l ∧ Below V14.heap.size V14 wx)
                case first =>
                 as_aux_lemma =>
                  rcases at_split hst2 K.out.la with ⟨hA, hl0⟩ | ⟨ad, hA, hnw⟩
                  · have HA := Lib.hid hA
                    have HL0 := Lib.hid hl0
                    clear hA hl0
                    go_wp2_with (at_builtin; refine wpList_append_none rfl (.tmp 154) (.tmp 155) 33 rfl 58 ist Tryd.underlying33 gi V14.heap.size c rfl (by show Value.slice A l.length c = _; rw [HA.out, HL0.out]; rfl) ?_)
                    go_meet
                    exact ⟨V14.heap.size, 0, by rw [HL0.out]; rfl, Nat.le_refl _, ⟨by simp, by rw [HL0.out]; exact At.nil, fun j => by simp [go_sem]⟩, nxA _ _⟩
                  · have HA := Lib.hid hA
                    clear hA
                    have hnews := hnw _ _ (K.out.la.next (nxA V14 (.cells #[] 58)))
                    have L1 := Lib.hid (flat_len hst2 l)
                    clear hnw
                    go_wp2_with (at_builtin; refine wpList_append_own_at _ rfl (.tmp 154) (.tmp 155) 33 rfl V14.heap.size 58 ist (.agg #[.int .i64 0, .int .i64 0]) 2 16 Tryd.underlying33 gi gz0 gz1 gz2 rfl (by decide) _ 0 [] rfl hown ad l.length c (l.flatMap Stint.cells) (by show Value.slice A l.length c = _; rw [HA.out]) L1.out hnews stint_one (by unfold maxLen; omega) (by omega) (by simp) ?_; intro v9 w9 ho9 hg9 hn9 _; rw [Nat.zero_add, List.nil_append] at ho9; obtain ⟨gS, cS, rfl, hgS, hLS⟩ := own_lblk hst2 (by omega) ho9 rfl (fun e => by injection (show (Value.slice (some ⟨V14.heap.size, 0, none⟩) 0 0 : Value) = .slice none 0 0 from (hn9.1 e).1) with e1; cases e1); have hb9 := grown_from (nxA V14 (.cells #[] 58)) hg9 (nxA V14 (.cells #[] 58)).size (fun g e => by injection e with e; subst e; exact Nat.le_refl _))
                    go_meet
                    exact ⟨_, _, rfl, hgS, hLS, hb9⟩
                case rest =>
                  obtain ⟨gS, cS, rfl, hgS, hLS, hb⟩ := hcut
                  have LS := Lib.hid hLS
                  have BV := Lib.hid hb
                  clear hLS hb hown gi gz0 gz1 gz2
                  generalize wc = V15 at *
                  go_wp2_with fail
                  refine wp_loopM mask17m (fun g W => R17M x2 y2 l gS V14 (g 19) W) (fun g _ => l.length - (intOf (g 19)).toNat) (by kernel_rfl) ?_ ?_
                  · exact ⟨0, by omega, slotF_at rfl, by rw [moreL_zero]; exact LS.out, BV.out⟩
                  clear LS BV
                  intro f wr hrel
                  obtain ⟨i, hi, e19, hls, hb2⟩ := hrel
                  simp only [mask17m, mixF, e19]
                  have E19 := Lib.hid e19
                  clear e19
                  by_cases hlt : i < l.length
                  · have hx := moreL_get (x := x2) (y := y2) hlt
                    have t0 := hls.cell hx (j := 0) rfl
                    have t1 := hls.cell hx (j := 1) rfl
                    have z0 := hls.fr (i * 2)
                    have z1 := hls.fr (i * 2 + 1)
                    have htk := OKL.out.st (l.getD i ⟨0, 0⟩) (by rw [List.getD_eq_getElem?_getD, List.getElem?_eq_getElem hlt]; exact List.getElem_mem hlt)
                    have hset := moreL_set (x := x2) (y := y2) hlt
                    have HREL := Lib.hid (fun (a b : Int) (iv : Value) (ha : a = max 1 ((l.getD i ⟨0, 0⟩).n - y2 % 4)) (hb : b = min 100000 ((l.getD i ⟨0, 0⟩).more + x2 % 6)) (hiv : iv = .int .i64 ((i + 1 : Nat) : Int)) => (show R17M x2 y2 l gS V14 iv ((wr.setCell ⟨gS, i * 2, none⟩ (.int .i64 a)).setCell ⟨gS, i * 2 + 1, none⟩ (.int .i64 b)) from ⟨i + 1, by omega, hiv, by
                      have h1 := stint_set hls hx a b
                      rw [show (⟨a, b⟩ : Stint) = moreT x2 y2 (l.getD i ⟨0, 0⟩) by rw [ha, hb]; rfl, hset] at h1
                      exact h1, (hb2.setCell (p := ⟨gS, i * 2, none⟩) hgS _).setCell (p := ⟨gS, i * 2 + 1, none⟩) hgS _⟩))
                    clear hset hx hls hb2
                    generalize l.getD i ⟨0, 0⟩ = t at *
                    obtain ⟨n, m⟩ := t
                    obtain ⟨r4, hr4⟩ : ∃ r, y2 % 4 = r := ⟨_, rfl⟩
                    have hr4t : Int.tmod y2 4 = r4 := by rw [Int.tmod_eq_emod_of_nonneg hy2.1]; exact hr4
                    obtain ⟨r6, hr6⟩ : ∃ r, x2 % 6 = r := ⟨_, rfl⟩
                    have hr6t : Int.tmod x2 6 = r6 := by rw [Int.tmod_eq_emod_of_nonneg hx2.1]; exact hr6
                    have hrb : 0 ≤ r4 ∧ r4 < 4 ∧ 0 ≤ r6 ∧ r6 < 6 := by omega
                    rw [hr4, hr6] at HREL
                    dsimp only at htk HREL
                    have t0 : wr.cell? ⟨gS, i * 2, none⟩ = some (.int .i64 n) := t0
                    have t1 : wr.cell? ⟨gS, i * 2 + 1, none⟩ = some (.int .i64 m) := t1
                    go_wp2_with fail
                    all_goals
                      refine endM (by kernel_rfl) (by kernel_rfl) ?_ ?_
                      · refine HREL.out _ _ _ ?_ ?_ ?_
                        · omega
                        · omega
                        · exact (slotF_at rfl).trans (by go_num)
                      · (simp [slotF, intOf, E19.out]; try omega)
                  · obtain rfl : i = l.length := by omega
                    rw [moreL_all] at hls
                    have L3 := Lib.hid hls.at_
                    replace K := Lib.hid (K.out.next hb2)
                    replace P1 := Lib.hid (P1.out.next hb2)
                    replace S1 := Lib.hid (S1.out.next hb2)
                    replace S2 := Lib.hid (S2.out.next hb2)
                    replace D1 := Lib.hid (D1.out.next hb2)
                    replace D2 := Lib.hid (D2.out.next hb2)
                    replace HB := Lib.hid (HB.out.trans (hb2.mono HB.out.size))
                    clear hls hb2 E19 hgS
                    generalize wr = V16 at *
                    obtain ⟨l', hl'⟩ : ∃ l', l.map (moreT x2 y2) = l' := ⟨_, rfl⟩
                    rw [hl'] at mr3 L3
                    have hln' : l'.length = l.length := by rw [← hl', List.length_map]
                    clear hl'
                    have hpn : (List.map Int.ofNat xp.tail).length = xp.length - 1 := by simp
                    obtain ⟨pl, hpm⟩ : ∃ pl, List.map Int.ofNat xp.tail = pl := ⟨_, rfl⟩
                    (try dsimp only at mr1 mr2 mr3)
                    rw [hpm] at mr1 mr2 mr3 P1 hpn
                    clear hpm
                    have hpl7 : pl.length ≤ 9223372036854775807 := by
                      have := (planOk_iff.1 (follow_good mr3.1).2.1).2
                      omega
                    have MR1 := Lib.hid mr1
                    have MR2 := Lib.hid mr2
                    have MR3 := Lib.hid mr3
                    clear mr1 mr2 mr3
                    go_wp2_with fail
                    refine wp_loopM mask22m (fun g W => R22M V16 (g 20) W) (fun g _ => 3 - (intOf (g 20)).toNat) (by kernel_rfl) ?_ ?_
                    · exact ⟨0, by omega, slotF_at rfl, Below.refl _ _⟩
                    intro f wr hrel
                    obtain ⟨i, hi3, e20, hb2⟩ := hrel
                    replace K := Lib.hid (K.out.next hb2)
                    replace P1 := Lib.hid (P1.out.next hb2)
                    replace S1 := Lib.hid (S1.out.next hb2)
                    replace S2 := Lib.hid (S2.out.next hb2)
                    replace D1 := Lib.hid (D1.out.next hb2)
                    replace D2 := Lib.hid (D2.out.next hb2)
                    replace L3 := Lib.hid (L3.out.next hb2)
                    have BT := Lib.hid hb2
                    clear hb2
                    generalize wr = V20 at *
                    have h4 : i = 0 ∨ i = 1 ∨ i = 2 ∨ i = 3 := by omega
                    rcases h4 with rfl | rfl | rfl | rfl
                    rotate_left
                    rotate_left
                    rotate_left
                    · replace e20 : f 20 = .int .i64 3 := e20
                      simp only [mask22m, mixF, e20]
                      have E20 := Lib.hid e20
                      clear e20
                      go_wp2_with fail
                      refine (awake_any V20 K.out.en).mono ?_
                      rintro e V99 ⟨rfl, hb⟩
                      go_wp2_with fail
                      go_ret
                      exact ⟨rfl, HB.out.trans ((BT.out.trans (hb.mono BT.out.size)).mono HB.out.size)⟩
                    · replace e20 : f 20 = .int .i64 0 := e20
                      simp only [mask22m, mixF, e20]
                      have E20 := Lib.hid e20
                      clear e20
                      obtain ⟨hfo, ⟨xp', xc'⟩, hps, hxc, hpr, hrr⟩ := MR1.out
                      dsimp only at hps hxc
                      obtain ⟨rs', hrs'⟩ : ∃ rs, proofS d1.blades d1.bound l = rs := ⟨_, rfl⟩
                      rw [hrs'] at hpr hrr
                      have HFO := Lib.hid hfo
                      have HPS := Lib.hid hps
                      have HPR := Lib.hid hpr
                      clear hfo hps hpr hrs'
                      have hix := fun a0 a1 a2 a3 a4 a5 a6 a7 a8 a9 a10 a11 W => index_three0 a0 a1 a2 a3 a4 a5 a6 a7 a8 a9 a10 a11 W
                      have p0 := K.out.bx.c 0 _ rfl
                      have p1 := K.out.bx.c 1 _ rfl
                      have p2 := K.out.bx.c 2 _ rfl
                      have p3 := K.out.bx.c 3 _ rfl
                      have s0 := S1.out.c 0 _ rfl
                      have s1 := S1.out.c 1 _ rfl
                      have s2 := S1.out.c 2 _ rfl
                      have s3 := S1.out.c 3 _ rfl
                      have q0 := S2.out.c 0 _ rfl
                      have q1 := S2.out.c 1 _ rfl
                      have q2 := S2.out.c 2 _ rfl
                      have q3 := S2.out.c 3 _ rfl
                      go_upto_region 25 with fail
                      clear hix p0 p1 p2 p3 s0 s1 s2 s3 q0 q1 q2 q3
                      have hA := nxA V20 (.cells #[.slice d1.A d1.blades.length d1.c, .int .i64 d1.bound, .int .i64 d1.stop, .int .i64 d1.bend] 24)
                      replace P1 := Lib.hid (P1.out.next hA)
                      replace S1 := Lib.hid (S1.out.next hA)
                      replace S2 := Lib.hid (S2.out.next hA)
                      replace D1 := Lib.hid (D1.out.next hA)
                      replace D2 := Lib.hid (D2.out.next hA)
                      replace L3 := Lib.hid (L3.out.next hA)
                      replace K := Lib.hid (K.out.next hA)
                      replace BT := Lib.hid (BT.out.trans (hA.mono BT.out.size))
                      have SX := Lib.hid (Bx.new V20 #[.slice d1.A d1.blades.length d1.c, .int .i64 d1.bound, .int .i64 d1.stop, .int .i64 d1.bend] 24)
                      clear hA
                      generalize (V20.alloc (.cells #[.slice d1.A d1.blades.length d1.c, .int .i64 d1.bound, .int .i64 d1.stop, .int .i64 d1.bend] 24)) = V21 at *
                      generalize V20.heap.size = bX0 at *
                      have p0 := SX.out.c 0 _ rfl
                      have p1 := SX.out.c 1 _ rfl
                      have p2 := SX.out.c 2 _ rfl
                      have p3 := SX.out.c 3 _ rfl
                      go_wp2_with fail
                      have hcon := (Follow_any d1 A c l AP cP pl V21 D1.out K.out.la (by omega) P1.out hpl7 K.out.en)
                      rw [HFO.out, hpn] at hcon
                      refine (hcon).mono ?_
                      rintro e V22 ⟨rfl, hb⟩
                      replace P1 := Lib.hid (P1.out.next hb)
                      replace S1 := Lib.hid (S1.out.next hb)
                      replace S2 := Lib.hid (S2.out.next hb)
                      replace D1 := Lib.hid (D1.out.next hb)
                      replace D2 := Lib.hid (D2.out.next hb)
                      replace L3 := Lib.hid (L3.out.next hb)
                      replace SX := Lib.hid (SX.out.next hb)
                      replace K := Lib.hid (K.out.next hb)
                      replace BT := Lib.hid (BT.out.trans (hb.mono BT.out.size))
                      clear hb p0 p1 p2 p3 hcon
                      dsimp only [foV]
                      have p0 := SX.out.c 0 _ rfl
                      have p1 := SX.out.c 1 _ rfl
                      have p2 := SX.out.c 2 _ rfl
                      have p3 := SX.out.c 3 _ rfl
                      go_wp2_with fail
                      have hcon := (Plan_any d1 A c l V22 D1.out K.out.la (by omega) K.out.en)
                      rw [HPS.out] at hcon
                      refine (hcon).mono ?_
                      rintro e V23 ⟨AQ, cQ, rfl, -, hb⟩
                      replace P1 := Lib.hid (P1.out.next hb)
                      replace S1 := Lib.hid (S1.out.next hb)
                      replace S2 := Lib.hid (S2.out.next hb)
                      replace D1 := Lib.hid (D1.out.next hb)
                      replace D2 := Lib.hid (D2.out.next hb)
                      replace L3 := Lib.hid (L3.out.next hb)
                      replace SX := Lib.hid (SX.out.next hb)
                      replace K := Lib.hid (K.out.next hb)
                      replace BT := Lib.hid (BT.out.trans (hb.mono BT.out.size))
                      clear hb p0 p1 p2 p3 hcon
                      dsimp only
                      have p0 := SX.out.c 0 _ rfl
                      have p1 := SX.out.c 1 _ rfl
                      have p2 := SX.out.c 2 _ rfl
                      have p3 := SX.out.c 3 _ rfl
                      go_wp2_with fail
                      have hcon := (Proof_any d1 A c l V23 D1.out K.out.la (by omega) K.out.en)
                      rw [HPR.out] at hcon
                      refine (hcon).mono ?_
                      rintro e V24 ⟨A3, c3, A4, c4, rfl, -, -, hb⟩
                      replace P1 := Lib.hid (P1.out.next hb)
                      replace S1 := Lib.hid (S1.out.next hb)
                      replace S2 := Lib.hid (S2.out.next hb)
                      replace D1 := Lib.hid (D1.out.next hb)
                      replace D2 := Lib.hid (D2.out.next hb)
                      replace L3 := Lib.hid (L3.out.next hb)
                      replace SX := Lib.hid (SX.out.next hb)
                      replace K := Lib.hid (K.out.next hb)
                      replace BT := Lib.hid (BT.out.trans (hb.mono BT.out.size))
                      clear hb p0 p1 p2 p3 hcon
                      dsimp only
                      have e1 : decide (xc < xc') = false := decide_eq_false (by omega)
                      have e2 : decide ((rs.length : Int) < rs'.length) = false := decide_eq_false (by omega)
                      go_wp2_with fail
                      refine endM (by kernel_rfl) (by kernel_rfl) ?_ ?_
                      · exact ⟨1, by omega, (slotF_at rfl).trans (by go_num), BT.out⟩
                      · (simp [slotF, intOf, E20.out])
                    · replace e20 : f 20 = .int .i64 1 := e20
                      simp only [mask22m, mixF, e20]
                      have E20 := Lib.hid e20
                      clear e20
                      obtain ⟨hfo, ⟨xp', xc'⟩, hps, hxc, hpr, hrr⟩ := MR2.out
                      dsimp only at hps hxc
                      obtain ⟨rs', hrs'⟩ : ∃ rs, proofS d2.blades d2.bound l = rs := ⟨_, rfl⟩
                      rw [hrs'] at hpr hrr
                      have HFO := Lib.hid hfo
                      have HPS := Lib.hid hps
                      have HPR := Lib.hid hpr
                      clear hfo hps hpr hrs'
                      have hix := fun a0 a1 a2 a3 a4 a5 a6 a7 a8 a9 a10 a11 W => index_three1 a0 a1 a2 a3 a4 a5 a6 a7 a8 a9 a10 a11 W
                      have p0 := K.out.bx.c 0 _ rfl
                      have p1 := K.out.bx.c 1 _ rfl
                      have p2 := K.out.bx.c 2 _ rfl
                      have p3 := K.out.bx.c 3 _ rfl
                      have s0 := S1.out.c 0 _ rfl
                      have s1 := S1.out.c 1 _ rfl
                      have s2 := S1.out.c 2 _ rfl
                      have s3 := S1.out.c 3 _ rfl
                      have q0 := S2.out.c 0 _ rfl
                      have q1 := S2.out.c 1 _ rfl
                      have q2 := S2.out.c 2 _ rfl
                      have q3 := S2.out.c 3 _ rfl
                      go_upto_region 25 with fail
                      clear hix p0 p1 p2 p3 s0 s1 s2 s3 q0 q1 q2 q3
                      have hA := nxA V20 (.cells #[.slice d2.A d2.blades.length d2.c, .int .i64 d2.bound, .int .i64 d2.stop, .int .i64 d2.bend] 24)
                      replace P1 := Lib.hid (P1.out.next hA)
                      replace S1 := Lib.hid (S1.out.next hA)
                      replace S2 := Lib.hid (S2.out.next hA)
                      replace D1 := Lib.hid (D1.out.next hA)
                      replace D2 := Lib.hid (D2.out.next hA)
                      replace L3 := Lib.hid (L3.out.next hA)
                      replace K := Lib.hid (K.out.next hA)
                      replace BT := Lib.hid (BT.out.trans (hA.mono BT.out.size))
                      have SX := Lib.hid (Bx.new V20 #[.slice d2.A d2.blades.length d2.c, .int .i64 d2.bound, .int .i64 d2.stop, .int .i64 d2.bend] 24)
                      clear hA
                      generalize (V20.alloc (.cells #[.slice d2.A d2.blades.length d2.c, .int .i64 d2.bound, .int .i64 d2.stop, .int .i64 d2.bend] 24)) = V21 at *
                      generalize V20.heap.size = bX1 at *
                      have p0 := SX.out.c 0 _ rfl
                      have p1 := SX.out.c 1 _ rfl
                      have p2 := SX.out.c 2 _ rfl
                      have p3 := SX.out.c 3 _ rfl
                      go_wp2_with fail
                      have hcon := (Follow_any d2 A c l AP cP pl V21 D2.out K.out.la (by omega) P1.out hpl7 K.out.en)
                      rw [HFO.out, hpn] at hcon
                      refine (hcon).mono ?_
                      rintro e V22 ⟨rfl, hb⟩
                      replace P1 := Lib.hid (P1.out.next hb)
                      replace S1 := Lib.hid (S1.out.next hb)
                      replace S2 := Lib.hid (S2.out.next hb)
                      replace D1 := Lib.hid (D1.out.next hb)
                      replace D2 := Lib.hid (D2.out.next hb)
                      replace L3 := Lib.hid (L3.out.next hb)
                      replace SX := Lib.hid (SX.out.next hb)
                      replace K := Lib.hid (K.out.next hb)
                      replace BT := Lib.hid (BT.out.trans (hb.mono BT.out.size))
                      clear hb p0 p1 p2 p3 hcon
                      dsimp only [foV]
                      have p0 := SX.out.c 0 _ rfl
                      have p1 := SX.out.c 1 _ rfl
                      have p2 := SX.out.c 2 _ rfl
                      have p3 := SX.out.c 3 _ rfl
                      go_wp2_with fail
                      have hcon := (Plan_any d2 A c l V22 D2.out K.out.la (by omega) K.out.en)
                      rw [HPS.out] at hcon
                      refine (hcon).mono ?_
                      rintro e V23 ⟨AQ, cQ, rfl, -, hb⟩
                      replace P1 := Lib.hid (P1.out.next hb)
                      replace S1 := Lib.hid (S1.out.next hb)
                      replace S2 := Lib.hid (S2.out.next hb)
                      replace D1 := Lib.hid (D1.out.next hb)
                      replace D2 := Lib.hid (D2.out.next hb)
                      replace L3 := Lib.hid (L3.out.next hb)
                      replace SX := Lib.hid (SX.out.next hb)
                      replace K := Lib.hid (K.out.next hb)
                      replace BT := Lib.hid (BT.out.trans (hb.mono BT.out.size))
                      clear hb p0 p1 p2 p3 hcon
                      dsimp only
                      have p0 := SX.out.c 0 _ rfl
                      have p1 := SX.out.c 1 _ rfl
                      have p2 := SX.out.c 2 _ rfl
                      have p3 := SX.out.c 3 _ rfl
                      go_wp2_with fail
                      have hcon := (Proof_any d2 A c l V23 D2.out K.out.la (by omega) K.out.en)
                      rw [HPR.out] at hcon
                      refine (hcon).mono ?_
                      rintro e V24 ⟨A3, c3, A4, c4, rfl, -, -, hb⟩
                      replace P1 := Lib.hid (P1.out.next hb)
                      replace S1 := Lib.hid (S1.out.next hb)
                      replace S2 := Lib.hid (S2.out.next hb)
                      replace D1 := Lib.hid (D1.out.next hb)
                      replace D2 := Lib.hid (D2.out.next hb)
                      replace L3 := Lib.hid (L3.out.next hb)
                      replace SX := Lib.hid (SX.out.next hb)
                      replace K := Lib.hid (K.out.next hb)
                      replace BT := Lib.hid (BT.out.trans (hb.mono BT.out.size))
                      clear hb p0 p1 p2 p3 hcon
                      dsimp only
                      have e1 : decide (xc < xc') = false := decide_eq_false (by omega)
                      have e2 : decide ((rs.length : Int) < rs'.length) = false := decide_eq_false (by omega)
                      go_wp2_with fail
                      refine endM (by kernel_rfl) (by kernel_rfl) ?_ ?_
                      · exact ⟨2, by omega, (slotF_at rfl).trans (by go_num), BT.out⟩
                      · (simp [slotF, intOf, E20.out])
                    · replace e20 : f 20 = .int .i64 2 := e20
                      simp only [mask22m, mixF, e20]
                      have E20 := Lib.hid e20
                      clear e20
                      obtain ⟨hfo, ⟨xp', xc'⟩, hps, hxc, hpr, hrr⟩ := MR3.out
                      dsimp only at hps hxc
                      obtain ⟨rs', hrs'⟩ : ∃ rs, proofS d.blades d.bound l' = rs := ⟨_, rfl⟩
                      rw [hrs'] at hpr hrr
                      have HFO := Lib.hid hfo
                      have HPS := Lib.hid hps
                      have HPR := Lib.hid hpr
                      clear hfo hps hpr hrs'
                      have hix := fun a0 a1 a2 a3 a4 a5 a6 a7 a8 a9 a10 a11 W => index_three2 a0 a1 a2 a3 a4 a5 a6 a7 a8 a9 a10 a11 W
                      have p0 := K.out.bx.c 0 _ rfl
                      have p1 := K.out.bx.c 1 _ rfl
                      have p2 := K.out.bx.c 2 _ rfl
                      have p3 := K.out.bx.c 3 _ rfl
                      have s0 := S1.out.c 0 _ rfl
                      have s1 := S1.out.c 1 _ rfl
                      have s2 := S1.out.c 2 _ rfl
                      have s3 := S1.out.c 3 _ rfl
                      have q0 := S2.out.c 0 _ rfl
                      have q1 := S2.out.c 1 _ rfl
                      have q2 := S2.out.c 2 _ rfl
                      have q3 := S2.out.c 3 _ rfl
                      go_upto_region 25 with fail
                      clear hix p0 p1 p2 p3 s0 s1 s2 s3 q0 q1 q2 q3
                      have hA := nxA V20 (.cells #[.slice d.A d.blades.length d.c, .int .i64 d.bound, .int .i64 d.stop, .int .i64 d.bend] 24)
                      replace P1 := Lib.hid (P1.out.next hA)
                      replace S1 := Lib.hid (S1.out.next hA)
                      replace S2 := Lib.hid (S2.out.next hA)
                      replace D1 := Lib.hid (D1.out.next hA)
                      replace D2 := Lib.hid (D2.out.next hA)
                      replace L3 := Lib.hid (L3.out.next hA)
                      replace K := Lib.hid (K.out.next hA)
                      replace BT := Lib.hid (BT.out.trans (hA.mono BT.out.size))
                      have SX := Lib.hid (Bx.new V20 #[.slice d.A d.blades.length d.c, .int .i64 d.bound, .int .i64 d.stop, .int .i64 d.bend] 24)
                      clear hA
                      generalize (V20.alloc (.cells #[.slice d.A d.blades.length d.c, .int .i64 d.bound, .int .i64 d.stop, .int .i64 d.bend] 24)) = V21 at *
                      generalize V20.heap.size = bX2 at *
                      have p0 := SX.out.c 0 _ rfl
                      have p1 := SX.out.c 1 _ rfl
                      have p2 := SX.out.c 2 _ rfl
                      have p3 := SX.out.c 3 _ rfl
                      go_wp2_with fail
                      have hcon := (Follow_any d (some ⟨gS, 0, none⟩) cS l' AP cP pl V21 K.out.da L3.out (by omega) P1.out hpl7 K.out.en)
                      rw [HFO.out, hpn, hln'] at hcon
                      refine (hcon).mono ?_
                      rintro e V22 ⟨rfl, hb⟩
                      replace P1 := Lib.hid (P1.out.next hb)
                      replace S1 := Lib.hid (S1.out.next hb)
                      replace S2 := Lib.hid (S2.out.next hb)
                      replace D1 := Lib.hid (D1.out.next hb)
                      replace D2 := Lib.hid (D2.out.next hb)
                      replace L3 := Lib.hid (L3.out.next hb)
                      replace SX := Lib.hid (SX.out.next hb)
                      replace K := Lib.hid (K.out.next hb)
                      replace BT := Lib.hid (BT.out.trans (hb.mono BT.out.size))
                      clear hb p0 p1 p2 p3 hcon
                      dsimp only [foV]
                      have p0 := SX.out.c 0 _ rfl
                      have p1 := SX.out.c 1 _ rfl
                      have p2 := SX.out.c 2 _ rfl
                      have p3 := SX.out.c 3 _ rfl
                      go_wp2_with fail
                      have hcon := (Plan_any d (some ⟨gS, 0, none⟩) cS l' V22 K.out.da L3.out (by omega) K.out.en)
                      rw [HPS.out, hln'] at hcon
                      refine (hcon).mono ?_
                      rintro e V23 ⟨AQ, cQ, rfl, -, hb⟩
                      replace P1 := Lib.hid (P1.out.next hb)
                      replace S1 := Lib.hid (S1.out.next hb)
                      replace S2 := Lib.hid (S2.out.next hb)
                      replace D1 := Lib.hid (D1.out.next hb)
                      replace D2 := Lib.hid (D2.out.next hb)
                      replace L3 := Lib.hid (L3.out.next hb)
                      replace SX := Lib.hid (SX.out.next hb)
                      replace K := Lib.hid (K.out.next hb)
                      replace BT := Lib.hid (BT.out.trans (hb.mono BT.out.size))
                      clear hb p0 p1 p2 p3 hcon
                      dsimp only
                      have p0 := SX.out.c 0 _ rfl
                      have p1 := SX.out.c 1 _ rfl
                      have p2 := SX.out.c 2 _ rfl
                      have p3 := SX.out.c 3 _ rfl
                      go_wp2_with fail
                      have hcon := (Proof_any d (some ⟨gS, 0, none⟩) cS l' V23 K.out.da L3.out (by omega) K.out.en)
                      rw [HPR.out, hln'] at hcon
                      refine (hcon).mono ?_
                      rintro e V24 ⟨A3, c3, A4, c4, rfl, -, -, hb⟩
                      replace P1 := Lib.hid (P1.out.next hb)
                      replace S1 := Lib.hid (S1.out.next hb)
                      replace S2 := Lib.hid (S2.out.next hb)
                      replace D1 := Lib.hid (D1.out.next hb)
                      replace D2 := Lib.hid (D2.out.next hb)
                      replace L3 := Lib.hid (L3.out.next hb)
                      replace SX := Lib.hid (SX.out.next hb)
                      replace K := Lib.hid (K.out.next hb)
                      replace BT := Lib.hid (BT.out.trans (hb.mono BT.out.size))
                      clear hb p0 p1 p2 p3 hcon
                      dsimp only
                      have e1 : decide (xc < xc') = false := decide_eq_false (by omega)
                      have e2 : decide ((rs.length : Int) < rs'.length) = false := decide_eq_false (by omega)
                      go_wp2_with fail
                      refine endM (by kernel_rfl) (by kernel_rfl) ?_ ?_
                      · exact ⟨3, by omega, (slotF_at rfl).trans (by go_num), BT.out⟩
                      · (simp [slotF, intOf, E20.out])
end Go.Proofs.YtbhkglokdomajaaDoor
