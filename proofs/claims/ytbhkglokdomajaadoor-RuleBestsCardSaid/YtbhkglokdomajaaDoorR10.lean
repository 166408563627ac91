import Derived.Test.YtbhkglokdomajaaDoorR9
import Derived.Test.YtbhkglokdomajaaDoorP12
namespace Go.Proofs.YtbhkglokdomajaaDoor
open Go.RowKit
/-! The reference: Proof. -/
def RP1 (d : Die) (l : List Stint) (V : World) (i : Value) (W : World) : Prop := ∃ k : Nat, k ≤ l.length ∧ i = .int .i64 k ∧ Below V.heap.size V W ∧ (l.take k).all (fun t => (badX d.blades d.bound t t.n).isNone) = true
structure RP2 (d : Die) (l : List Stint) (V : World) (B0 : Nat) (i v1 v2 fr : Value) (W : World) (k a : Nat) (rs : List (Nat × Nat × Nat)) : Prop where
  k1 : 1 ≤ k
  hk : k ≤ l.length ∨ k = 1
  i : i = .int .i64 k
  fr : fr = .int .i64 a
  ak : a < k
  o1 : W.ownsRow B0 28 2 v1 rs.length ((spansOf rs).flatMap spv)
  o2 : W.ownsRow B0 3 1 v2 rs.length ((firstsOf rs).flatMap icell)
  b : Below B0 V W
  rl : rs.length < k
  pf : refGo d.blades d.bound l (l.length - 1) 1 0 = rs ++ refGo d.blades d.bound l (l.length - k) k a
def RP2E (d : Die) (l : List Stint) (V : World) (B0 : Nat) (i v1 v2 fr : Value) (W : World) : Prop := ∃ k a rs, RP2 d l V B0 i v1 v2 fr W k a rs
theorem refGo_at {bl : List Blade} {bound : Int} {l : List Stint} {k a : Nat} (hk : k < l.length) : refGo bl bound l (l.length - k) k a = match stuckS bl bound l a k with
    | none => refGo bl bound l (l.length - (k + 1)) (k + 1) a
    | some x => (a, k, x) :: refGo bl bound l (l.length - (k + 1)) (k + 1) k := by
  rw [show l.length - k = (l.length - (k + 1)) + 1 by omega]; rfl
set_option maxRecDepth 100000 in
set_option maxHeartbeats 1000000 in
theorem refProof_any (d : Die) (A : Option Addr) (c : Nat) (l : List Stint) (w : World) (hd : DieAt w w.heap.size d) (hr : At w w.heap.size 2 Stint.cells A l) (hl : l.length ≤ 9223372036854775807) :
    Calls Tryd.prog 21 #[.agg #[.slice d.A d.blades.length d.c, .int .i64 d.bound, .int .i64 d.stop, .int .i64 d.bend], .slice A l.length c] w (RetPr (proofR d l) w) := by
  obtain ⟨i0, hi, hz0, hz1, hz2⟩ := info_parts span_info
  obtain ⟨i1, gi, gz0, gz1, gz2⟩ := info_parts int_info
  have HF := Lib.hid (show proofR d l = if checkS d l ≠ 0 then ([], checkS d l) else if alonesS d.blades d.bound l = false then ([], 4) else (proofS d.blades d.bound l, 0) from rfl)
  have hb0 := nxA w (.cells #[.slice d.A d.blades.length d.c, .int .i64 d.bound, .int .i64 d.stop, .int .i64 d.bend] 24)
  have B0 := Lib.hid hb0
  have D0 := Lib.hid (hd.next hb0)
  have S0 := Lib.hid (hr.next hb0)
  have X0 := Lib.hid (Bx.new w #[.slice d.A d.blades.length d.c, .int .i64 d.bound, .int .i64 d.stop, .int .i64 d.bend] 24)
  have HL := Lib.hid hl
  clear hd hr hb0 hl
  go_enter Tryd.func21, Tryd.ntmps21
  go_upto_region 1 with fail
  generalize w.alloc (.cells #[.slice d.A d.blades.length d.c, .int .i64 d.bound, .int .i64 d.stop, .int .i64 d.bend] 24) = V at *
  have p0 := X0.out.c 0 _ rfl
  have p1 := X0.out.c 1 _ rfl
  have p2 := X0.out.c 2 _ rfl
  have p3 := X0.out.c 3 _ rfl
  go_wp2_with fail
  refine (check_any d A c l V D0.out S0.out HL.out).mono ?_
  rintro e V1 ⟨rfl, hb⟩
  replace B0 := Lib.hid (B0.out.trans (hb.mono B0.out.size))
  replace D0 := Lib.hid (D0.out.next hb)
  replace S0 := Lib.hid (S0.out.next hb)
  replace X0 := Lib.hid (X0.out.next hb)
  clear hb p0 p1 p2 p3
  by_cases hch : checkS d l = 0
  · rw [hch]
    rw [if_neg (show ¬ checkS d l ≠ 0 from fun h => h hch)] at HF
    have hdl := check_zero.1 hch
    have OK := Lib.hid ((okd_iff d).1 hdl.1)
    have OKL := Lib.hid ((okl_iff l).1 hdl.2)
    have hll := OKL.out.nl
    clear hch hdl
    go_wp2_with fail
    go_loopw [8] (fun i wr => RP1 d l V1 i wr) (fun i _ => l.length - (intOf i).toNat)
    case atStart => exact ⟨0, by omega, rfl, Below.refl _ _, rfl⟩
    case round =>
      obtain ⟨k, hk, rfl, hbl, hall⟩ := hrel
      have hx := X0.out.next hbl
      have p0 := hx.c 0 _ rfl
      have p1 := hx.c 1 _ rfl
      have p2 := hx.c 2 _ rfl
      have p3 := hx.c 3 _ rfl
      by_cases hlt : k < l.length
      · have HCS := Lib.hid (Stuck_any d A c l k k wr OK.out OKL.out (by omega) hlt (D0.out.next hbl) (S0.out.next hbl))
        rw [stuckS_self d.blades d.bound l hlt] at HCS
        have HAF := Lib.hid (fun k0 h => alone_fail (bl := d.blades) (bound := d.bound) (k := k0) hlt h)
        have HAL := Lib.hid (fun h => all_step (p := fun t : Stint => (badX d.blades d.bound t t.n).isNone) hlt hall h)
        have hgk : l[k] = l.getD k ⟨0, 0⟩ := by rw [List.getD_eq_getElem?_getD, List.getElem?_eq_getElem hlt]; rfl
        rw [hgk] at HAL
        have HBL := Lib.hid hbl
        clear hgk hall hx hbl
        generalize badX d.blades d.bound (l.getD k ⟨0, 0⟩) (l.getD k ⟨0, 0⟩).n = q at *
        go_wp2_with fail
        refine HCS.out.mono ?_
        rintro e W2 ⟨rfl, hb⟩
        replace HBL := Lib.hid (HBL.out.trans (hb.mono HBL.out.size))
        clear hb p0 p1 p2 p3
        cases q with
        | some x =>
          have E2 := Lib.hid (show proofR d l = ([], 4) by rw [HF.out, if_pos (HAF.out x (by trivial))])
          dsimp only [stuckV]
          go_wp2_with fail
          go_ret3
          rw [E2.out]
          exact retPr_nil (B0.out.trans (HBL.out.mono B0.out.size))
        | none =>
          dsimp only [stuckV]
          go_wp2_with fail
          go_roundw
          case rel => exact ⟨k + 1, by omega, rfl, HBL.out, HAL.out (by trivial)⟩
          case measure => simp [intOf]; omega
      · obtain rfl : k = l.length := by omega
        have hal : alonesS d.blades d.bound l = true := by rw [List.take_length] at hall; exact hall
        have HR := Lib.hid (show proofR d l = (refGo d.blades d.bound l (l.length - 1) 1 0, 0) by rw [HF.out, if_neg (by rw [hal]; simp), proof_same d.blades d.bound l hal])
        have HBL := Lib.hid (B0.out.trans (hbl.mono B0.out.size))
        have D1 := Lib.hid (D0.out.next hbl)
        have S1 := Lib.hid (S0.out.next hbl)
        have X1 := Lib.hid hx
        clear hal hall hbl hx p0 p1 p2 p3 D0 S0 X0 B0
        go_wp2_with fail
        generalize wr = U1 at *
        go_loopw [11, 12, 13, 14] (fun v1 v2 fr i wr' => RP2E d l U1 U1.heap.size i v1 v2 fr wr') (fun _ _ _ i _ => l.length - (intOf i).toNat)
        case atStart => exact ⟨1, 0, [], Nat.le_refl _, .inr rfl, rfl, rfl, by omega, World.ownsRow_nil _ _ _ _, World.ownsRow_nil _ _ _ _, Below.refl _ _, by simp, rfl⟩
        case round =>
          obtain ⟨k, a, rs, hR⟩ := hrel
          have hk1 := hR.k1
          have hka := hR.ak
          have hrl := hR.rl
          obtain rfl := hR.i
          obtain rfl := hR.fr
          have hx := X1.out.next hR.b
          have p0 := hx.c 0 _ rfl
          have p1 := hx.c 1 _ rfl
          have p2 := hx.c 2 _ rfl
          have p3 := hx.c 3 _ rfl
          by_cases hlt : k < l.length
          · have HCS := Lib.hid (Stuck_any d A c l a k wr OK.out OKL.out (by omega) hlt (D1.out.next hR.b) (S1.out.next hR.b))
            have HGA := Lib.hid (refGo_at (bl := d.blades) (bound := d.bound) (a := a) hlt)
            have HR2 := Lib.hid hR
            have hzz := hR.b.size
            clear hR hx
            generalize stuckS d.blades d.bound l a k = q at *
            go_wp2_with fail
            refine HCS.out.mono ?_
            rintro e W2 ⟨rfl, hb⟩
            have O1 := Lib.hid (own_below HR2.out.o1 hb)
            have O2 := Lib.hid (own_below HR2.out.o2 hb)
            have BB := Lib.hid (HR2.out.b.trans (hb.mono hzz))
            have HPF := Lib.hid HR2.out.pf
            have hzW := hb.size
            clear hb p0 p1 p2 p3 HR2
            cases q with
            | none =>
              dsimp only [stuckV]
              go_wp2_with fail
              go_roundw
              case rel => exact ⟨k + 1, a, rs, by omega, by omega, rfl, rfl, by omega, O1.out, O2.out, BB.out, by omega, by rw [HPF.out, HGA.out]⟩
              case measure => simp [intOf]; omega
            | some x =>
              dsimp only [stuckV]
              have HK2 := Lib.hid (fun (o : Obj) (wa : World) (hg : (W2.alloc o).grownBy wa (Value.ownBlock _)) => (O2.out.alloc o).kept hg (own_apart (O2.out.alloc o) (O1.out.alloc o) (by decide)))
              have HX := Lib.hid (fun (o o2 : Obj) (wa wb : World) (va : Value) (howna : wa.ownsRow U1.heap.size 28 2 va (rs.length + 1) ((spansOf rs).flatMap spv ++ [.int .i64 (a : Int), .int .i64 (k : Int)])) (hga : (W2.alloc o).grownBy wa (Value.ownBlock _)) (hgb : (wa.alloc o2).grownBy wb (Value.ownBlock _)) =>
                And.intro ((howna.alloc o2).kept hgb (own_apart (howna.alloc o2) ((HK2.out o wa hga).alloc o2) (by decide)))
                  ((((BB.out.alloc BB.out.size o).grown hga (by have := BB.out.size; simp; omega) (fun q hq => by have := (O1.out.alloc o).lt q hq; omega)).alloc (by have := BB.out.size; have := hga.size; simp at this; omega) o2).grown hgb (by have := BB.out.size; have := hga.size; simp at this ⊢; omega) (fun q hq => by have := ((HK2.out o wa hga).alloc o2).lt q hq; omega)))
              have HREL := Lib.hid (fun (W : World) (v1 v2 : Value) (o1 : W.ownsRow U1.heap.size 28 2 v1 (rs.length + 1) ((spansOf rs).flatMap spv ++ [.int .i64 (a : Int), .int .i64 (k : Int)])) (o2 : W.ownsRow U1.heap.size 3 1 v2 (rs.length + 1) ((firstsOf rs).flatMap icell ++ [.int .i64 (x : Int)])) (b : Below U1.heap.size U1 W) =>
                (show RP2E d l U1 U1.heap.size (.int .i64 ((k + 1 : Nat) : Int)) v1 v2 (.int .i64 k) W from
                  ⟨k + 1, k, rs ++ [(a, k, x)], by omega, by omega, rfl, rfl, by omega, by rw [spans_add, List.length_append]; exact o1, by rw [firsts_add, List.length_append]; exact o2, b, by rw [List.length_append]; show rs.length + 1 < k + 1; omega, by rw [HPF.out, HGA.out]; simp⟩))
              go_wp2_with (first
                | (at_builtin; refine wpList_append_own _ rfl (.tmp 53) (.tmp 57) 37 rfl U1.heap.size 28 i0 (.agg #[.int .i64 0, .int .i64 0]) 2 16 Tryd.underlying37 hi hz0 hz1 hz2 rfl (by decide) _ _ _ rfl (O1.out.alloc _) ⟨W2.heap.size, 0, none⟩ 1 1 [.int .i64 (a : Int), .int .i64 (k : Int)] rfl rfl (cell_two_new _ _ _ _) (by simp [Value.oneCell']) (by unfold maxLen; omega) (by omega) (by simp; omega) ?_; intro va wa howna hgrowa _)
                | (at_builtin; refine wpList_append_own _ rfl (.tmp 59) (.tmp 61) 34 rfl U1.heap.size 3 i1 (.int .i64 0) 1 8 Tryd.underlying34 gi gz0 gz1 gz2 rfl (by decide) _ _ _ rfl ((HK2.out _ _ hgrowa).alloc _) ⟨wa.heap.size, 0, none⟩ 1 1 [.int .i64 (x : Int)] rfl rfl (cell_one_new _ _ _) (by simp [Value.oneCell']) (by unfold maxLen; omega) (by omega) (by have := hgrowa.size; simp at this ⊢; omega) ?_; intro vb wb hownb hgrowb _; have HX5 := Lib.hid (HX.out _ _ _ _ _ howna hgrowa hgrowb); have Hownb := Lib.hid hownb; clear howna hgrowa hownb hgrowb))
              all_goals exact ⟨HREL.out _ _ _ HX5.out.1 Hownb.out HX5.out.2, by simp [intOf]; omega⟩
          · have hpf := hR.pf
            rw [show l.length - k = 0 by omega] at hpf
            have E3 := Lib.hid (show proofR d l = (rs, 0) by rw [HR.out, hpf]; simp [refGo])
            clear hpf hx
            go_wp2_with fail
            go_ret3
            rw [E3.out]
            exact retPr_own hR.o1 hR.o2 (HBL.out.trans (hR.b.mono HBL.out.size))
  · have E1 := Lib.hid (show proofR d l = ([], checkS d l) by rw [HF.out, if_pos hch])
    have dne : (checkS d l != 0) = true := by rw [bne_iff_ne]; exact hch
    generalize checkS d l = x at *
    clear hch
    go_wp2_with fail
    go_ret3
    rw [E1.out]
    exact retPr_nil B0.out
end Go.Proofs.YtbhkglokdomajaaDoor
