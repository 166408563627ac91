import Derived.Test.YtjlicbdnppodgaaA3
import Derived.Test.YtjlicbdnppodgaaEul
import Derived.BigQuiet
namespace Go.Proofs.Ytjlicbdnppodgaa
open Go.RowKit
/-! The law's own functions: join, draw. -/
theorem BBlk.gk {W W' : World} {row : Option Nat} {g n : Nat} {f : Nat → Bool} (h : BBlk W g n f) (hg : W.grownBy W' row) (hr : ∀ r, row = some r → g ≠ r) : BBlk W' g n f := by
  have hk := hg.block g h.lt (fun e => hr g e.symm rfl)
  exact ⟨Nat.lt_of_lt_of_le h.lt hg.size, fun j hj => (World.cell?_of_block (a := ⟨g, j, none⟩) hk).trans (h.cell j hj), fun j => (World.frozen?_of_block (a := ⟨g, j, none⟩) hk).trans (h.free j)⟩
theorem grown_cellS (w : World) (b o : Nat) (u : Value) : w.grownBy (w.setCell ⟨b, o, none⟩ u) (some b) := ⟨rfl, rfl, rfl, by rw [World.size_setCell]; exact Nat.le_refl _, fun i _ hi => blkSet (fun e => hi (by rw [e])) _ _⟩
theorem grown_dn (w : World) (k : Nat) (row : Option Nat) : w.grownBy (w.drewN k) row := ⟨rfl, rfl, rfl, Nat.le_refl _, fun _ _ _ => rfl⟩
theorem below_of {B : Nat} {w w' : World} {row : Option Nat} (h : w.grownBy w' row) (hr : ∀ r, row = some r → B ≤ r) (hB : B ≤ w.heap.size) : Below B w w' := ⟨h.os, h.tape, h.output, h.size, fun k hk => h.block k (by omega) (fun e => by have := hr k e.symm; omega)⟩
def lI (L : Nat → Nat) (j : Nat) : Int := (L j : Int)
def jnM : List (Option Nat) := [none, none, none, none, none, none, none, none, some 8, none, none, none, none, none, none, none, none, none, none, some 19, some 20, some 21, some 22, some 23, some 24, some 25, some 26, some 27, some 28, some 29, some 30, some 31, some 32]
set_option maxRecDepth 100000 in
set_option maxHeartbeats 2000000 in
theorem join_any (L : Nat → Nat) (g n a b : Nat) (w : World) (hp : IBlk w g n (lI L)) (ha : a < n) (hb : b < n) (hn : n ≤ 1000) :
    Calls Try.prog 33 #[.slice (some ⟨g, 0, none⟩) n n, .int .i64 (a : Int), .int .i64 (b : Int)] w (fun e w' => (∃ v, e = .returned v) ∧ IBlk w' g n (lI (jnF L (a, b))) ∧ w.grownBy w' (some g)) := by
  have y0 := hp.cell a ha
  have y1 := hp.cell b hb
  have HP := Lib.hid hp
  have hi1 : (a : Int) < (n : Int) := by omega
  have hi2 : (b : Int) < (n : Int) := by omega
  clear hp
  unfold lI at y0 y1
  go_enter Try.func33, Try.ntmps33
  go_wp2_with (go_quiet (fail))
  refine wp_loopM jnM (fun f V => ∃ i : Nat, i ≤ n ∧ f 19 = .int .i64 (i : Int) ∧ IBlk V g n (fun j => if j < i then lI (jnF L (a, b)) j else lI L j) ∧ w.grownBy V (some g)) (fun f _ => n - (intOf (f 19)).toNat) (by kernel_rfl) ⟨0, by omega, slotF_at rfl, (HP.out.drewN).congr (fun j => by rw [if_neg (by omega)]), grown_dn _ _ _⟩ ?_
  intro f V hrel
  obtain ⟨i, hi, e19, hib, hgr⟩ := hrel
  simp only [jnM, mixF, e19]
  have HE := Lib.hid e19
  have HI := Lib.hid hib
  have HG := Lib.hid hgr
  clear e19 hib hgr y0 y1
  by_cases hin : i < n
  · have hiI : (i : Int) < (n : Int) := by omega
    have z0 := HI.out.cell i hin
    rw [if_neg (by omega)] at z0
    unfold lI at z0
    have z1 := HI.out.free i
    have hw1 : IntKind.i64.wrap ((i : Int) + 1) = (i : Int) + 1 := IntWalk.i64_in _ (by omega)
    have HMU := Lib.hid (show n - (i + 1) < n - i from by omega)
    by_cases he : L i = L a
    · have e1 : (((L i : Nat) : Int) == ((L a : Nat) : Int)) = true := by simp [he]
      have HS := Lib.hid (show IBlk (V.setCell ⟨g, i, none⟩ (.int .i64 (L b : Int))) g n (fun j => if j < i + 1 then lI (jnF L (a, b)) j else lI L j) from HI.out.set_ hin (by
        show (if i < i + 1 then lI (jnF L (a, b)) i else lI L i) = _
        rw [if_pos (by omega)]
        unfold lI jnF
        rw [if_pos he]) (fun j hj => by
        show (if j < i + 1 then _ else _) = (if j < i then _ else _)
        by_cases h1 : j < i
        · rw [if_pos h1, if_pos (by omega)]
        · rw [if_neg h1, if_neg (by omega)]))
      clear he
      go_wp2_with fail
      refine endM (by kernel_rfl) (by kernel_rfl) ⟨i + 1, by omega, slotF_at rfl, HS.out, grown_trans HG.out (grown_cellS _ _ _ _)⟩ ?_
      show n - (intOf (slotF _ 19)).toNat < n - (intOf (f 19)).toNat
      rw [slotF_at rfl, HE.out]
      have := HMU.out
      simp [intOf]
      omega
    · have e1 : (((L i : Nat) : Int) == ((L a : Nat) : Int)) = false := by simp; omega
      have HS := Lib.hid (show IBlk V g n (fun j => if j < i + 1 then lI (jnF L (a, b)) j else lI L j) from HI.out.congr fun j => by
        by_cases h1 : j < i
        · rw [if_pos h1, if_pos (by omega)]
        · by_cases h2 : j = i
          · subst h2
            rw [if_neg h1, if_pos (by omega)]
            unfold lI jnF
            rw [if_neg he]
          · rw [if_neg h1, if_neg (by omega)])
      clear he
      go_wp2_with fail
      refine endM (by kernel_rfl) (by kernel_rfl) ⟨i + 1, by omega, slotF_at rfl, HS.out, HG.out⟩ ?_
      show n - (intOf (slotF _ 19)).toNat < n - (intOf (f 19)).toNat
      rw [slotF_at rfl, HE.out]
      have := HMU.out
      simp [intOf]
      omega
  · have hiI : ¬ (i : Int) < (n : Int) := by omega
    go_wp2_with fail
    ((try simp only [Exit.inBlock, Exit.then]); first | refine bodyPost_end (results_none rfl _ _ _) rfl ?_ | refine bodyPost_ret (results_none rfl _ _ _) rfl ?_)
    exact ⟨⟨_, rfl⟩, HI.out.congr' (fun j hj => by rw [if_pos (by omega)]), HG.out⟩
structure EuM (Bd ge bu bp gu gp n : Nat) (m : Int) (U : Nat → Bool) (L : Nat → Nat) (V : World) : Prop where
  xe : Bx V ge [.int .i64 m]
  xu : Bx V bu [.slice (some ⟨gu, 0, none⟩) n n]
  xp : Bx V bp [.slice (some ⟨gp, 0, none⟩) n n]
  u : BBlk V gu n U
  p : IBlk V gp n (lI L)
  d : (ge ≠ bu ∧ ge ≠ bp ∧ ge ≠ gu ∧ ge ≠ gp) ∧ (gu ≠ bu ∧ gu ≠ bp ∧ gu ≠ gp) ∧ gp ≠ bu ∧ gp ≠ bp
  hb : Bd ≤ ge ∧ Bd ≤ gu ∧ Bd ≤ gp ∧ Bd ≤ V.heap.size
def useU (U : Nat → Bool) (a b j : Nat) : Bool := U j || (decide (j = a) || decide (j = b))
theorem BBlk.two {V : World} {gu n a b : Nat} {U : Nat → Bool} (h : BBlk V gu n U) (ha : a < n) (hb : b < n) : BBlk ((V.setCell ⟨gu, a, none⟩ (.bool true)).setCell ⟨gu, b, none⟩ (.bool true)) gu n (useU U a b) := by
  have h1 : BBlk (V.setCell ⟨gu, a, none⟩ (.bool true)) gu n (fun j => U j || decide (j = a)) := h.set_ ha (by simp) (fun i hi => by simp [hi])
  exact h1.set_ hb (by unfold useU; simp) (fun i hi => by unfold useU; simp [hi])
theorem useU_comm (U : Nat → Bool) (a b : Nat) : useU U a b = useU U b a := funext fun j => by unfold useU; rw [Bool.or_comm (decide (j = a))]
set_option maxRecDepth 100000 in
set_option maxHeartbeats 2000000 in
theorem draw_any (Bd ge bu bp gu gp n a b : Nat) (m : Int) (U : Nat → Bool) (L : Nat → Nat) (w : World) (h : EuM Bd ge bu bp gu gp n m U L w) (ha : a < n) (hb : b < n) (hn : n ≤ 1000) (hm : 0 ≤ m ∧ m ≤ 100000) :
    Calls Try.prog 32 #[.int .i64 (a : Int), .int .i64 (b : Int), .pointer (some ⟨ge, 0, none⟩), .pointer (some ⟨bu, 0, none⟩), .pointer (some ⟨bp, 0, none⟩)] w (fun e w' => (∃ v, e = .returned v) ∧ EuM Bd ge bu bp gu gp n (m + 1) (useU U a b) (jnF L (a, b)) w' ∧ Below Bd w w') := by
  obtain ⟨⟨d1, d2, d3, d4⟩, ⟨d5, d6, d7⟩, d8, d9⟩ := h.d
  obtain ⟨hb1, hb2, hb3, hb4⟩ := h.hb
  have c0 := h.xe.c 0 _ rfl
  have f0 := h.xe.fr 0
  have hw1 : IntKind.i64.wrap (m + 1) = m + 1 := IntWalk.i64_in _ (by omega)
  have hi1 : (a : Int) < (n : Int) := by omega
  have hi2 : (b : Int) < (n : Int) := by omega
  have HH := Lib.hid h
  have HD := Lib.hid h.d
  clear h
  go_enter Try.func32, Try.ntmps32
  go_upto_region 1 with fail
  obtain ⟨V1, hV1⟩ : ∃ V, V = w.setCell ⟨ge, 0, none⟩ (.int .i64 (m + 1)) := ⟨_, rfl⟩
  have G1 := Lib.hid (show w.grownBy V1 (some ge) from by rw [hV1]; exact grown_cellS _ _ _ _)
  have XE := Lib.hid (show Bx V1 ge [.int .i64 (m + 1)] from by rw [hV1]; exact HH.out.xe.set (k := 0) (by simp) _)
  have XU := Lib.hid (HH.out.xu.gk G1.out (fun r e => by injection e with e; omega))
  have XP := Lib.hid (HH.out.xp.gk G1.out (fun r e => by injection e with e; omega))
  have UU := Lib.hid (HH.out.u.gk G1.out (fun r e => by injection e with e; omega))
  have PP := Lib.hid (HH.out.p.gk G1.out (fun r e => by injection e with e; omega))
  rw [← hV1]
  clear hV1 c0 f0 HH
  have s0 := XU.out.c 0 _ rfl
  have q0 := UU.out.cell a ha
  have q1 := UU.out.cell b hb
  have r0 := UU.out.free a
  have r1 := UU.out.free b
  have t0 : (V1.setCell ⟨gu, b, none⟩ (.bool true)).cell? ⟨gu, a, none⟩ = some (.bool (U a || decide (a = b))) := (show BBlk (V1.setCell ⟨gu, b, none⟩ (.bool true)) gu n (fun j => U j || decide (j = b)) from UU.out.set_ hb (by simp) (fun i hi => by simp [hi])).cell a ha
  have t1 : (V1.setCell ⟨gu, a, none⟩ (.bool true)).cell? ⟨gu, b, none⟩ = some (.bool (U b || decide (b = a))) := (show BBlk (V1.setCell ⟨gu, a, none⟩ (.bool true)) gu n (fun j => U j || decide (j = a)) from UU.out.set_ ha (by simp) (fun i hi => by simp [hi])).cell b hb
  have HNE := Lib.hid d5
  have oth : ∀ (V : World) (o : Nat), (V.setCell ⟨gu, o, none⟩ (.bool true)).cell? ⟨bu, 0, none⟩ = V.cell? ⟨bu, 0, none⟩ := fun V o => World.cell?_setCell_other _ _ _ _ (by intro e; injection e with e; exact HNE.out e)
  have HO := Lib.hid oth
  clear oth
  refine wp_region_noPanic ?_
  refine wp_region_held_drew (S := (fun V => V.cell? ⟨bu, 0, none⟩ = some (.slice (some ⟨gu, 0, none⟩) n n))) (by kernel_rfl) ?_ (fun hHeld => ?_)
  · (try dsimp only); first | exact s0 | exact (HO.out _ _).trans s0 | exact (HO.out _ _).trans ((HO.out _ _).trans s0)
  refine htake (i := 0) (v := ?v1) rfl (by kernel_rfl) (by kernel_rfl) (by kernel_rfl) (fun _ _ _ h => h) (Or.inl ⟨by rfl, ?hy1⟩) (by assumption) ?_
  case hy1 => (intro w hSw; (try dsimp only at hSw); go_simp; try (with_reducible rfl))
  try simp only [Act.put, List.setIfInBounds_toArray, List.set_cons_zero, List.set_cons_succ]
  refine htake (i := 1) (v := ?v2) rfl (by kernel_rfl) (by kernel_rfl) (by kernel_rfl) (fun _ _ _ h => h) (Or.inl ⟨by rfl, ?hy2⟩) (by assumption) ?_
  case hy2 => (intro w hSw; (try dsimp only at hSw); go_simp; try (with_reducible rfl))
  try simp only [Act.put, List.setIfInBounds_toArray, List.set_cons_zero, List.set_cons_succ]
  refine htake (i := 2) (v := ?v3) rfl (by kernel_rfl) (by kernel_rfl) (by kernel_rfl) (fun _ _ _ h => h) (Or.inl ⟨by rfl, ?hy3⟩) (by assumption) ?_
  case hy3 => (intro w hSw; (try dsimp only at hSw); go_simp; try (with_reducible rfl))
  try simp only [Act.put, List.setIfInBounds_toArray, List.set_cons_zero, List.set_cons_succ]
  refine htake (i := 3) (v := ?v4) rfl (by kernel_rfl) (by kernel_rfl) (by kernel_rfl) (fun _ _ _ h => h) (Or.inl ⟨by rfl, ?hy4⟩) (by assumption) ?_
  case hy4 => (intro w hSw; (try dsimp only at hSw); go_simp; try (with_reducible rfl))
  try simp only [Act.put, List.setIfInBounds_toArray, List.set_cons_zero, List.set_cons_succ]
  refine htake (i := 4) (v := ?v5) rfl (by kernel_rfl) (by kernel_rfl) (by kernel_rfl) (fun _ _ _ h => h) (Or.inl ⟨by rfl, ?hy5⟩) (by assumption) ?_
  case hy5 => (intro w hSw; (try dsimp only at hSw); go_simp; try (with_reducible rfl))
  try simp only [Act.put, List.setIfInBounds_toArray, List.set_cons_zero, List.set_cons_succ]
  refine wpAnyH_ready (rs := [5]) (by kernel_rfl) (by simp) ?_
  refine hcons rfl (fun K hK => ?_) (AllReadyH.nil)
  go_simp
  refine hK.out _ _ ?_ (fun hHeld => ?_)
  · (try dsimp only); first | exact s0 | exact (HO.out _ _).trans s0 | exact (HO.out _ _).trans ((HO.out _ _).trans s0)
  clear hK K
  try simp only [Act.put, List.setIfInBounds_toArray, List.set_cons_zero, List.set_cons_succ]
  refine htake (i := 6) (v := ?v6) rfl (by kernel_rfl) (by kernel_rfl) (by kernel_rfl) (fun _ _ _ h => h) (Or.inl ⟨by rfl, ?hy6⟩) (by assumption) ?_
  case hy6 => (intro w hSw; (try dsimp only at hSw); go_simp; try (with_reducible rfl))
  try simp only [Act.put, List.setIfInBounds_toArray, List.set_cons_zero, List.set_cons_succ]
  refine wpAnyH_ready (rs := [7]) (by kernel_rfl) (by simp) ?_
  refine hcons rfl (fun K hK => ?_) (AllReadyH.nil)
  go_simp
  refine hK.out _ _ ?_ (fun hHeld => ?_)
  · (try dsimp only); first | exact s0 | exact (HO.out _ _).trans s0 | exact (HO.out _ _).trans ((HO.out _ _).trans s0)
  clear hK K
  try simp only [Act.put, List.setIfInBounds_toArray, List.set_cons_zero, List.set_cons_succ]
  refine wpAnyH_done (by kernel_rfl) ?_ _
  refine NoPanic.normal ?_
  iterate 9 (try clear hHeld)
  have HB2 := Lib.hid (UU.out.two ha hb)
  obtain ⟨V2, hV2⟩ : ∃ V, V = ((V1.setCell ⟨gu, a, none⟩ (.bool true)).setCell ⟨gu, b, none⟩ (.bool true)).drew := ⟨_, rfl⟩
  have G2 := Lib.hid (show V1.grownBy V2 (some gu) from by rw [hV2]; exact grown_trans (grown_trans (grown_cellS _ _ _ _) (grown_cellS _ _ _ _)) (grown_dn _ 1 _))
  have U2 := Lib.hid (show BBlk V2 gu n (useU U a b) from by rw [hV2]; exact HB2.out.drewN (k := 1))
  have XE2 := Lib.hid (XE.out.gk G2.out (fun r e => by injection e with e; omega))
  have XU2 := Lib.hid (XU.out.gk G2.out (fun r e => by injection e with e; omega))
  have XP2 := Lib.hid (XP.out.gk G2.out (fun r e => by injection e with e; omega))
  have PP2 := Lib.hid (PP.out.gk G2.out (fun r e => by injection e with e; omega))
  rw [← hV2]
  clear hV2 t0 t1 q0 q1 r0 r1 s0
  have s0 := XP2.out.c 0 _ rfl
  go_wp2_with fail
  refine (join_any L gp n a b V2 PP2.out ha hb hn).mono ?_
  rintro e V3 ⟨⟨v, rfl⟩, hp3, hg3⟩
  have P3 := Lib.hid hp3
  have G3 := Lib.hid hg3
  clear hp3 hg3 s0
  go_wp2_with fail
  ((try simp only [Exit.inBlock, Exit.then]); first | refine bodyPost_end (results_none rfl _ _ _) rfl ?_ | refine bodyPost_ret (results_none rfl _ _ _) rfl ?_)
  have hs1 := G1.out.size
  have hs2 := G2.out.size
  refine ⟨⟨_, rfl⟩, ⟨XE2.out.gk G3.out (fun r e => by injection e with e; omega), XU2.out.gk G3.out (fun r e => by injection e with e; omega), XP2.out.gk G3.out (fun r e => by injection e with e; omega), U2.out.gk G3.out (fun r e => by injection e with e; omega), P3.out, HD.out, hb1, hb2, hb3, by have := G3.out.size; omega⟩, ?_⟩
  exact (below_of G1.out (fun r e => by injection e with e; omega) hb4).trans ((below_of G2.out (fun r e => by injection e with e; omega) (by omega)).trans (below_of G3.out (fun r e => by injection e with e; omega) (by omega)))
end Go.Proofs.Ytjlicbdnppodgaa
