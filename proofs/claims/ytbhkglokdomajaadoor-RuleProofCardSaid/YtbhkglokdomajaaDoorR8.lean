import Derived.Test.YtbhkglokdomajaaDoorR6
import Derived.Test.YtbhkglokdomajaaDoorP11
namespace Go.Proofs.YtbhkglokdomajaaDoor
open Go.RowKit
/-! The reference: Bad. -/
theorem IBlk.congr {W : World} {g n : Nat} {f f' : Nat → Int} (h : IBlk W g n f) (e : ∀ k, f' k = f k) : IBlk W g n f' := ⟨h.lt, fun j hj => by rw [e j]; exact h.cell j hj, h.free⟩
theorem IBlk.congr' {W : World} {g n : Nat} {f f' : Nat → Int} (h : IBlk W g n f) (e : ∀ k, k < n → f' k = f k) : IBlk W g n f' := ⟨h.lt, fun j hj => by rw [e j hj]; exact h.cell j hj, h.free⟩
def badV (o : Option (Nat × Nat)) : Value := match o with
  | some x => .tuple #[.int .i64 (x.1 : Int), .int .i64 (x.2 : Int), .bool true]
  | none => .tuple #[.int .i64 0, .int .i64 0, .bool false]
def RBo (d : Die) (l : List Stint) (sets : List Nat) (B g : Nat) (V : World) (i : Value) (W : World) : Prop := ∃ s : Nat, s ≤ l.length ∧ i = .int .i64 s ∧ IBlk W g d.blades.length (ranAt d.blades.length l sets (fun _ => 0) s) ∧ Below B V W ∧
  badP d.blades d.bound l (fun _ => 0) sets 0 = badP d.blades d.bound (l.drop s) (ranAt d.blades.length l sets (fun _ => 0) s) (sets.drop s) s
def RBi (d : Die) (r r' : Nat → Int) (B g : Nat) (V : World) (i : Value) (W : World) : Prop := ∃ k : Nat, k ≤ d.blades.length ∧ i = .int .i64 k ∧ IBlk W g d.blades.length (fun q => if q < k then r' q else r q) ∧ Below B V W
def RBj (d : Die) (lim : Int) (r : Nat → Int) (B g : Nat) (V : World) (i : Value) (W : World) : Prop := ∃ k : Nat, k ≤ d.blades.length ∧ i = .int .i64 k ∧ IBlk W g d.blades.length r ∧ Below B V W ∧ badTo d.blades lim r k = none
set_option maxRecDepth 100000 in
set_option maxHeartbeats 2000000 in
theorem Bad_any (d : Die) (A : Option Addr) (c : Nat) (l : List Stint) (A3 : Option Addr) (c3 : Nat) (plan : List Int) (w : World) (ok : OkD d) (okl : OkL l) (hpo : planOk d.blades.length l plan = true) (hd : DieAt w w.heap.size d) (hr : At w w.heap.size 2 Stint.cells A l) (hp : At w w.heap.size 1 icell A3 plan) :
    Calls Tryd.prog 29 #[.agg #[.slice d.A d.blades.length d.c, .int .i64 d.bound, .int .i64 d.stop, .int .i64 d.bend], .slice A l.length c, .slice A3 plan.length c3] w (Ret (badV (badP d.blades d.bound l (fun _ => 0) (setsOf plan) 0)) w) := by
  have hnb := ok.nb
  have hnl := okl.nl
  have hbo := ok.bound
  obtain ⟨i0, hi, hz0, hz1, hz2⟩ := info_parts int_info
  have hmk : ∀ W : World, (Instr.makeSlice 34 (.int .i64 (d.blades.length : Int)) (.int .i64 (d.blades.length : Int))).run Tryd.prog W = .ok (.slice (some ⟨W.heap.size, 0, none⟩) d.blades.length d.blades.length) (W.alloc (.cells (zeros d.blades.length) 3)) := fun W => by
    have := run_make (P := Tryd.prog) W 34 3 i0 (.int .i64 0) Tryd.underlying34 hi hz0 .i64 .i64 d.blades.length d.blades.length (by omega) (by omega) (by rw [hz2]; omega) (by omega)
    rw [hz1] at this
    simpa [zeros, Value.cells] using this
  have B0 := Lib.hid (nxA w (.cells #[.slice d.A d.blades.length d.c, .int .i64 d.bound, .int .i64 d.stop, .int .i64 d.bend] 24))
  have X0 := Lib.hid (Bx.new w #[.slice d.A d.blades.length d.c, .int .i64 d.bound, .int .i64 d.stop, .int .i64 d.bend] 24)
  have OK := Lib.hid ok
  have OL := Lib.hid okl
  have HPO := Lib.hid hpo
  have HDw := Lib.hid hd
  have HRw := Lib.hid hr
  have HPw := Lib.hid hp
  have HSA := Lib.hid (sets_at hpo)
  have HPL := Lib.hid (planOk_iff.1 hpo).2
  obtain ⟨sets, hsets⟩ : ∃ sets, sets = setsOf plan := ⟨_, rfl⟩
  rw [← hsets] at HSA ⊢
  clear ok okl hd hr hp hpo hi hz0 hz1 hz2 hsets
  go_enter Tryd.func29, Tryd.ntmps29
  go_upto_region 1 with fail
  have HZ := Lib.hid (show (w.alloc (.cells #[.slice d.A d.blades.length d.c, .int .i64 d.bound, .int .i64 d.stop, .int .i64 d.bend] 24)).heap.size = w.heap.size + 1 by simp)
  generalize w.alloc (.cells #[.slice d.A d.blades.length d.c, .int .i64 d.bound, .int .i64 d.stop, .int .i64 d.bend] 24) = V at *
  have hzV : V.heap.size = w.heap.size + 1 := by have := X0.out.lt; exact HZ.out
  have c0 := X0.out.c 0 _ rfl
  have Z0 := Lib.hid (IBlk.zeros V d.blades.length 3)
  have BV := Lib.hid (nxA V (.cells (zeros d.blades.length) 3))
  go_wp2_with fail
  clear hmk
  generalize V.alloc (.cells (zeros d.blades.length) 3) = U at *
  go_loopw [10] (fun i wr => RBo d l sets (w.heap.size + 1) (w.heap.size + 1) V i wr) (fun i _ => l.length - (intOf i).toNat)
  case atStart => exact ⟨0, by omega, rfl, by have := Z0.out; rw [hzV] at this; exact this, by have := BV.out; rw [hzV] at this; exact this, rfl⟩
  case round =>
    obtain ⟨s, hs, rfl, hblk, hbl, hbp⟩ := hrel
    by_cases hlt : s < l.length
    · have hset0 := (HSA.out (by omega))
      obtain ⟨hsl, hs0, hsp, hsq⟩ := hset0
      have hBA := badP_at (bl := d.blades) (bound := d.bound) (r := fun _ => 0) hlt (show s < sets.length by omega)
      have hrb := ran_bd (nb := d.blades.length) (sets := sets) (l := l) (fun t ht => by have := OL.out.st t ht; omega) s
      have hrb1 := ran_bd (nb := d.blades.length) (sets := sets) (l := l) (fun t ht => by have := OL.out.st t ht; omega) (s + 1)
      have hstep : ranAt d.blades.length l sets (fun _ => 0) (s + 1) = runR d.blades.length (ranAt d.blades.length l sets (fun _ => 0) s) (sets.getD s 0) (l.getD s ⟨0, 0⟩).n := rfl
      have htm : l.getD s ⟨0, 0⟩ ∈ l := by rw [List.getD_eq_getElem?_getD, List.getElem?_eq_getElem hlt]; exact List.getElem_mem hlt
      have htk := OL.out.st _ htm
      have hset2 := hsp s
      have hset32 : sets.getD s 0 < 32 := Nat.lt_of_lt_of_le hset2 (Nat.pow_le_pow_right (by omega) OK.out.nb.2 : 2 ^ d.blades.length ≤ 2 ^ 5)
      have hsk : ∀ q, s = q + 1 → plan.getD q 0 = ((sets.getD s 0 : Nat) : Int) := fun q e => by subst e; exact hsq q hlt
      have hs0' : s = 0 → sets.getD s 0 = 0 := fun e => by subst e; exact hs0
      have HREL := Lib.hid (fun (W : World) (h : badS d.blades (d.bound + (l.getD s ⟨0, 0⟩).more) (ranAt d.blades.length l sets (fun _ => 0) (s + 1)) = none) (h1 : IBlk W (w.heap.size + 1) d.blades.length (ranAt d.blades.length l sets (fun _ => 0) (s + 1))) (h3 : Below (w.heap.size + 1) V W) =>
        (show RBo d l sets (w.heap.size + 1) (w.heap.size + 1) V (.int .i64 ((s + 1 : Nat) : Int)) W from ⟨s + 1, by omega, rfl, h1, h3, by rw [hbp, hBA, h]⟩))
      have HEND := Lib.hid (fun (k : Nat) (h : badS d.blades (d.bound + (l.getD s ⟨0, 0⟩).more) (ranAt d.blades.length l sets (fun _ => 0) (s + 1)) = some k) => (show badP d.blades d.bound l (fun _ => 0) sets 0 = some (s, k) by rw [hbp, hBA, h]))
      have HSK := Lib.hid hsk
      have HS0 := Lib.hid hs0'
      have HST := Lib.hid hstep
      have HBL := Lib.hid hbl
      have HBK := Lib.hid hblk
      obtain ⟨bs, os, eS, -, -⟩ := stint_at HRw.out hlt
      have ES := Lib.hid eS
      have hx := (X0.out.below hbl (by omega))
      have c0 := hx.c 0 _ rfl
      have hzr := hx.lt
      clear hsp hsq hBA hstep htm hsk hs0' hbp hx hbl hblk hset2 eS
      generalize ranAt d.blades.length l sets (fun _ => 0) (s + 1) = r' at *
      generalize ranAt d.blades.length l sets (fun _ => 0) s = r at *
      generalize sets.getD s 0 = set at *
      obtain ⟨n, hn⟩ : ∃ n, n = (l.getD s ⟨0, 0⟩).n := ⟨_, rfl⟩
      obtain ⟨more, hmore⟩ : ∃ n, n = (l.getD s ⟨0, 0⟩).more := ⟨_, rfl⟩
      rw [← hn] at HST htk
      rw [← hmore] at HREL HEND htk
      have HN := Lib.hid hn
      have HM := Lib.hid hmore
      clear hn hmore
      obtain ⟨S, hS⟩ : ∃ S : Int, S = (s : Int) := ⟨_, rfl⟩
      rw [← hS]
      have hS0 : 0 ≤ S ∧ S < l.length := by omega
      have hSN : S.toNat = s := by omega
      have HSS := Lib.hid hS
      clear hS
      go_wp2_with fail
      go_loopw [11] (fun i wr => RBi d r r' (w.heap.size + 1) (w.heap.size + 1) V i wr) (fun i _ => d.blades.length - (intOf i).toNat)
      case atStart => exact ⟨0, by omega, rfl, HBK.out.congr fun _ => by simp, HBL.out⟩
      case round =>
        clear c0 hzr
        obtain ⟨k, hk, rfl, hblk, hbl⟩ := hrel
        have hx := (X0.out.below hbl (by omega))
        have c0 := hx.c 0 _ rfl
        by_cases hlk : k < d.blades.length
        · have hbw := B0.out.trans (hbl.mono (by omega))
          obtain ⟨b2, o2, e3, hbs, g0, g1⟩ := stint_at (HRw.out.below hbw) hlt
          subst e3
          rw [← HN.out] at g0
          have rk := hblk.cell k hlk
          rw [if_neg (Nat.lt_irrefl k)] at rk
          have fk := hblk.free k
          have hrk := hrb k
          have hne2 : b2 ≠ w.heap.size + 1 := by omega
          have hgz := hblk.lt
          have HBK3 := Lib.hid hblk
          have HBL3 := Lib.hid hbl
          have HR' := Lib.hid (show r' k = (if has set k then 0 else r k) + n by rw [HST.out]; unfold runR; rw [if_pos hlk])
          have hb2z : b2 < wr.heap.size := by have := hbl.size; omega
          clear hblk hbl hx
          have HRELi := Lib.hid (fun (W : World) (h1 : IBlk W (w.heap.size + 1) d.blades.length (fun q => if q < k + 1 then r' q else r q)) (h3 : Below (w.heap.size + 1) V W) => (show RBi d r r' (w.heap.size + 1) (w.heap.size + 1) V (.int .i64 ((k + 1 : Nat) : Int)) W from ⟨k + 1, by omega, rfl, h1, h3⟩))
          have HSET := Lib.hid (fun (v : Int) (hv : r' k = v) => (HBK3.out.set_ (f' := fun q => if q < k + 1 then r' q else r q) (j := k) (x := v) hlk (by rw [if_pos (by omega)]; exact hv) (fun q hq => by
            by_cases h : q < k
            · rw [if_pos h, if_pos (by omega)]
            · rw [if_neg h, if_neg (by omega)])))
          have HSET0 := Lib.hid (fun (v : Int) (hv : r' k = v) => ((HBK3.out.set_ (f' := fun q => if q = k then 0 else if q < k then r' q else r q) (j := k) (x := 0) hlk (by rw [if_pos rfl]) (fun q hq => by rw [if_neg hq])).set_ (f' := fun q => if q < k + 1 then r' q else r q) (j := k) (x := v) hlk (by rw [if_pos (by omega)]; exact hv) (fun q hq => by
            rw [if_neg hq]
            by_cases h : q < k
            · rw [if_pos h, if_pos (by omega)]
            · rw [if_neg h, if_neg (by omega)])))
          by_cases hs1 : S ≤ 0
          · have hz0 := HS0.out (by have := HSS.out; omega)
            subst hz0
            have hh0 : has 0 k = false := by simp [has]
            rw [hh0] at HR'
            have HR1 := Lib.hid (show r' k = r k + n by rw [HR'.out]; simp)
            go_wp2_with fail
            go_region
            go_wp2_with fail
            go_roundw
            case rel => exact HRELi.out _ (HSET.out _ HR1.out).drew (HBL3.out.setCell (p := ⟨w.heap.size + 1, k, none⟩) (by simp) _).drew
            case measure => simp [intOf]; omega
          · obtain ⟨u, hu⟩ : ∃ u, s = u + 1 := ⟨s - 1, by have := HSS.out; omega⟩
            obtain ⟨b3, o3, e4, hb3, gp⟩ := int_at (HPw.out.below hbw) (k := u) (by have := HPL.out; omega)
            subst e4
            rw [HSK.out u hu] at gp
            have hI2 : (0 ≤ S - 1 ∧ S - 1 < (plan.length : Int)) = True := by have := HPL.out; have := HSS.out; simp; omega
            have hI3 : (S - 1).toNat = u := by have := HSS.out; omega
            have hpos : 0 < S := by omega
            have hI4 : 1 ≤ S := by omega
            have hI5 : S - 1 < (plan.length : Int) := by have := HPL.out; have := HSS.out; omega
            clear hu hs1
            cases hh : has set k
            · rw [hh] at HR'
              have HR1 := Lib.hid (show r' k = r k + n by rw [HR'.out]; simp)
              go_wp2_with (go_at_call 33; (with_reducible refine (has_any set k (by omega) (by omega) _).mono ?_); rintro e w' ⟨rfl, rfl⟩)
              go_region
              go_wp2_with fail
              go_roundw
              case rel => exact HRELi.out _ (HSET.out _ HR1.out).drew (HBL3.out.setCell (p := ⟨w.heap.size + 1, k, none⟩) (by simp) _).drew
              case measure => simp [intOf]; omega
            · rw [hh] at HR'
              go_wp2_with (go_at_call 33; (with_reducible refine (has_any set k (by omega) (by omega) _).mono ?_); rintro e w' ⟨rfl, rfl⟩)
              have HR1 := Lib.hid (show r' k = n by rw [HR'.out]; simp)
              go_region
              go_wp2_with fail
              go_roundw
              case rel => exact HRELi.out _ (HSET0.out _ HR1.out).drew ((HBL3.out.setCell (p := ⟨w.heap.size + 1, k, none⟩) (by simp) _).setCell (p := ⟨w.heap.size + 1, k, none⟩) (by simp) _).drew
              case measure => simp [intOf]; omega
        · obtain rfl : k = d.blades.length := by omega
          have HBK2 := Lib.hid (hblk.congr' (f' := r') fun q hq => by rw [if_pos hq])
          have HBL2 := Lib.hid hbl
          clear hblk hbl hx
          go_wp2_with fail
          go_loopw [12] (fun i wr => RBj d (d.bound + more) r' (w.heap.size + 1) (w.heap.size + 1) V i wr) (fun i _ => d.blades.length - (intOf i).toNat)
          case atStart => exact ⟨0, by omega, rfl, HBK2.out, HBL2.out, rfl⟩
          case round =>
            clear c0
            obtain ⟨k, hk, rfl, hblk, hbl, hnone⟩ := hrel
            have hx := (X0.out.below hbl (by omega))
            have c0 := hx.c 0 _ rfl
            by_cases hlk : k < d.blades.length
            · have hbw := B0.out.trans (hbl.mono (by omega))
              obtain ⟨b2, o2, e3, hbs, g0, g1⟩ := stint_at (HRw.out.below hbw) hlt
              subst e3
              rw [← HM.out] at g1
              have rk := hblk.cell k hlk
              have hrk := hrb1 k
              have hc0 := hx.c 0 _ rfl
              have HW := Lib.hid (fun W h => Worst_any d k (r' k) W OK.out hlk (by omega) h)
              have DN := Lib.hid ((HDw.out.below hbw).more hbw.size)
              have HX := Lib.hid hx
              have HBK3 := Lib.hid hblk
              have HBL3 := Lib.hid hbl
              have HNO := Lib.hid (badTo_none.1 hnone)
              have HSU := Lib.hid (badTo_succ d.blades (d.bound + more) r' k)
              rw [hnone, show d.blades.getD k ⟨0, 0, 0, 0⟩ = bladeAt d k from rfl] at HSU
              have hb2z : b2 < wr.heap.size := by have := hbw.size; omega
              have H9 := Lib.hid (show ∀ W : World, Below wr.heap.size wr W → (W.cell? ⟨w.heap.size, 0, none⟩ = some (.slice d.A d.blades.length d.c) ∧ W.cell? ⟨w.heap.size, 1, none⟩ = some (.int .i64 d.bound) ∧ W.cell? ⟨w.heap.size, 2, none⟩ = some (.int .i64 d.stop) ∧ W.cell? ⟨w.heap.size, 3, none⟩ = some (.int .i64 d.bend) ∧ W.cell? ⟨b2, o2 + s * 2 + 1, none⟩ = some (.int .i64 more) ∧ W.cell? ⟨w.heap.size + 1, k, none⟩ = some (.int .i64 (r' k))) from fun W h =>
                ⟨(HX.out.next h).c 0 _ rfl, (HX.out.next h).c 1 _ rfl, (HX.out.next h).c 2 _ rfl, (HX.out.next h).c 3 _ rfl, ((bcell h).1 _ _ hb2z).trans g1, (HBK3.out.next h).cell k hlk⟩)
              have w2 : IntKind.i64.wrap (d.bound + more) = d.bound + more := IntWalk.i64_in _ (by omega)
              clear hx hblk hbl hnone
              have hwk : d.bound + more < worstS (d.blades.getD k ⟨0, 0, 0, 0⟩) (r' k) ↔ d.bound + more < worstS (bladeAt d k) (r' k) := Iff.rfl
              have HWK := Lib.hid hwk
              clear hwk
              by_cases hX : d.bound + more < worstS (bladeAt d k) (r' k)
              · have HIT := Lib.hid (HEND.out k (badTo_eq hlk (HWK.out.2 hX) HNO.out))
                generalize worstS (bladeAt d k) (r' k) = X at *
                generalize r' k = xk at *
                have dX : decide (d.bound + more < X) = true := decide_eq_true hX
                clear hX
                go_wp2_with fail
                have hc : Below wr.heap.size wr wr.drew := (Below.refl _ _).drew
                refine wp_region_noPanic ?_
                refine wp_region_held_drew (S := (fun W => W.cell? ⟨w.heap.size, 0, none⟩ = some (.slice d.A d.blades.length d.c) ∧ W.cell? ⟨w.heap.size, 1, none⟩ = some (.int .i64 d.bound) ∧ W.cell? ⟨w.heap.size, 2, none⟩ = some (.int .i64 d.stop) ∧ W.cell? ⟨w.heap.size, 3, none⟩ = some (.int .i64 d.bend) ∧ W.cell? ⟨b2, o2 + s * 2 + 1, none⟩ = some (.int .i64 more) ∧ W.cell? ⟨w.heap.size + 1, k, none⟩ = some (.int .i64 xk))) (by kernel_rfl) ?_ (fun hHeld => ?_)
                · (try dsimp only); exact H9.out _ hc
                refine htake (i := 0) (v := ?v1) rfl (by kernel_rfl) (by kernel_rfl) (by kernel_rfl) (fun _ _ _ h => h) (Or.inl ⟨by rfl, ?hy1⟩) (by assumption) ?_
                case hy1 => (intro w hSw; (try dsimp only at hSw); go_simp; try (with_reducible rfl))
                try simp only [Act.put, List.setIfInBounds_toArray, List.set_cons_zero, List.set_cons_succ]
                refine htake (i := 1) (v := ?v2) rfl (by kernel_rfl) (by kernel_rfl) (by kernel_rfl) (fun _ _ _ h => h) (Or.inl ⟨by rfl, ?hy2⟩) (by assumption) ?_
                case hy2 => (intro w hSw; (try dsimp only at hSw); go_simp; try (with_reducible rfl))
                try simp only [Act.put, List.setIfInBounds_toArray, List.set_cons_zero, List.set_cons_succ]
                refine htake (i := 2) (v := ?v3) rfl (by kernel_rfl) (by kernel_rfl) (by kernel_rfl) (fun _ _ _ h => h) (Or.inl ⟨by rfl, ?hy3⟩) (by assumption) ?_
                case hy3 => (intro w hSw; (try dsimp only at hSw); go_simp; try (with_reducible rfl))
                try simp only [Act.put, List.setIfInBounds_toArray, List.set_cons_zero, List.set_cons_succ]
                refine htake (i := 3) (v := ?v4) rfl (by kernel_rfl) (by kernel_rfl) (by kernel_rfl) (fun _ _ _ h => h) (Or.inl ⟨by rfl, ?hy4⟩) (by assumption) ?_
                case hy4 => (intro w hSw; (try dsimp only at hSw); go_simp; try (with_reducible rfl))
                try simp only [Act.put, List.setIfInBounds_toArray, List.set_cons_zero, List.set_cons_succ]
                refine htake (i := 4) (v := ?v5) rfl (by kernel_rfl) (by kernel_rfl) (by kernel_rfl) (fun _ _ _ h => h) (Or.inl ⟨by rfl, ?hy5⟩) (by assumption) ?_
                case hy5 => (intro w hSw; (try dsimp only at hSw); go_simp; try (with_reducible rfl))
                try simp only [Act.put, List.setIfInBounds_toArray, List.set_cons_zero, List.set_cons_succ]
                refine htake (i := 5) (v := ?v6) rfl (by kernel_rfl) (by kernel_rfl) (by kernel_rfl) (fun _ _ _ h => h) (Or.inl ⟨by rfl, ?hy6⟩) (by assumption) ?_
                case hy6 => (intro w hSw; (try dsimp only at hSw); go_simp; try (with_reducible rfl))
                try simp only [Act.put, List.setIfInBounds_toArray, List.set_cons_zero, List.set_cons_succ]
                refine htake (i := 7) (v := ?v7) rfl (by kernel_rfl) (by kernel_rfl) (by kernel_rfl) (fun _ _ _ h => h) (Or.inl ⟨by rfl, ?hy7⟩) (by assumption) ?_
                case hy7 => (intro w hSw; (try dsimp only at hSw); go_simp; try (with_reducible rfl))
                try simp only [Act.put, List.setIfInBounds_toArray, List.set_cons_zero, List.set_cons_succ]
                refine htake (i := 8) (v := ?v8) rfl (by kernel_rfl) (by kernel_rfl) (by kernel_rfl) (fun _ _ _ h => h) (Or.inl ⟨by rfl, ?hy8⟩) (by assumption) ?_
                case hy8 => (intro w hSw; (try dsimp only at hSw); go_simp; try (with_reducible rfl))
                try simp only [Act.put, List.setIfInBounds_toArray, List.set_cons_zero, List.set_cons_succ]
                refine htake (i := 9) (v := ?v9) rfl (by kernel_rfl) (by kernel_rfl) (by kernel_rfl) (fun _ _ _ h => h) (Or.inl ⟨by rfl, ?hy9⟩) (by assumption) ?_
                case hy9 => (intro w hSw; (try dsimp only at hSw); go_simp; try (with_reducible rfl))
                try simp only [Act.put, List.setIfInBounds_toArray, List.set_cons_zero, List.set_cons_succ]
                refine htake (i := 10) (v := ?v10) rfl (by kernel_rfl) (by kernel_rfl) (by kernel_rfl) (fun _ _ _ h => h) (Or.inl ⟨by rfl, ?hy10⟩) (by assumption) ?_
                case hy10 => (intro w hSw; (try dsimp only at hSw); go_simp; try (with_reducible rfl))
                try simp only [Act.put, List.setIfInBounds_toArray, List.set_cons_zero, List.set_cons_succ]
                refine htake (i := 11) (v := ?v11) rfl (by kernel_rfl) (by kernel_rfl) (by kernel_rfl) (fun _ _ _ h => h) (Or.inl ⟨by rfl, ?hy11⟩) (by assumption) ?_
                case hy11 => (intro w hSw; (try dsimp only at hSw); go_simp; try (with_reducible rfl))
                try simp only [Act.put, List.setIfInBounds_toArray, List.set_cons_zero, List.set_cons_succ]
                refine htake (i := 12) (v := ?v12) rfl (by kernel_rfl) (by kernel_rfl) (by kernel_rfl) (fun _ _ _ h => h) (Or.inl ⟨by rfl, ?hy12⟩) (by assumption) ?_
                case hy12 => (intro w hSw; (try dsimp only at hSw); go_simp; try (with_reducible rfl))
                try simp only [Act.put, List.setIfInBounds_toArray, List.set_cons_zero, List.set_cons_succ]
                refine htake (i := 13) (v := ?v13) rfl (by kernel_rfl) (by kernel_rfl) (by kernel_rfl) (fun _ _ _ h => h) (Or.inl ⟨by rfl, ?hy13⟩) (by assumption) ?_
                case hy13 => (intro w hSw; (try dsimp only at hSw); go_simp; try (with_reducible rfl))
                try simp only [Act.put, List.setIfInBounds_toArray, List.set_cons_zero, List.set_cons_succ]
                refine htake (i := 14) (v := ?v14) rfl (by kernel_rfl) (by kernel_rfl) (by kernel_rfl) (fun _ _ _ h => h) (Or.inl ⟨by rfl, ?hy14⟩) (by assumption) ?_
                case hy14 => (intro w hSw; (try dsimp only at hSw); go_simp; try (with_reducible rfl))
                try simp only [Act.put, List.setIfInBounds_toArray, List.set_cons_zero, List.set_cons_succ]
                refine wpAnyH_ready (rs := [6]) (by kernel_rfl) (by simp) ?_
                refine hcons rfl (fun K hK => ?_) (AllReadyH.nil)
                go_simp
                (with_reducible refine (HW.out _ (DN.out.next hc)).mono ?_); rintro e w4 ⟨rfl, hb4⟩; replace hc := hc.trans (hb4.mono hc.size); clear hb4
                refine hK.out _ _ ?_ (fun hHeld => ?_)
                · (try dsimp only); exact H9.out _ hc
                clear hK K
                try simp only [Act.put, List.setIfInBounds_toArray, List.set_cons_zero, List.set_cons_succ]
                refine htake (i := 15) (v := ?v15) rfl (by kernel_rfl) (by kernel_rfl) (by kernel_rfl) (fun _ _ _ h => h) (Or.inl ⟨by rfl, ?hy15⟩) (by assumption) ?_
                case hy15 => (intro w hSw; (try dsimp only at hSw); go_simp; try (with_reducible rfl))
                try simp only [Act.put, List.setIfInBounds_toArray, List.set_cons_zero, List.set_cons_succ]
                refine wpAnyH_done (by kernel_rfl) ?_ _
                refine NoPanic.normal ?_
                iterate 17 (try clear hHeld)
                go_wp2_with fail
                go_ret3
                rw [HIT.out]
                exact ⟨by rw [HSS.out]; rfl, B0.out.trans ((HBL3.out.trans (hc.mono (by have := HBL3.out.size; omega))).mono (by omega))⟩
              · have HNX := Lib.hid (show badTo d.blades (d.bound + more) r' (k + 1) = none by rw [HSU.out, if_neg hX]; rfl)
                have HRELj := Lib.hid (fun (W : World) (h : Below wr.heap.size wr W) => (show RBj d (d.bound + more) r' (w.heap.size + 1) (w.heap.size + 1) V (.int .i64 ((k + 1 : Nat) : Int)) W from ⟨k + 1, by omega, rfl, HBK3.out.next h, HBL3.out.trans (h.mono (by have := HBL3.out.size; omega)), HNX.out⟩))
                have dX : decide (d.bound + more < worstS (bladeAt d k) (r' k)) = false := decide_eq_false hX
                clear hX HSU HNO
                generalize worstS (bladeAt d k) (r' k) = X at *
                generalize r' k = xk at *
                go_wp2_with fail
                have hc : Below wr.heap.size wr wr.drew := (Below.refl _ _).drew
                refine wp_region_noPanic ?_
                refine wp_region_held_drew (S := (fun W => W.cell? ⟨w.heap.size, 0, none⟩ = some (.slice d.A d.blades.length d.c) ∧ W.cell? ⟨w.heap.size, 1, none⟩ = some (.int .i64 d.bound) ∧ W.cell? ⟨w.heap.size, 2, none⟩ = some (.int .i64 d.stop) ∧ W.cell? ⟨w.heap.size, 3, none⟩ = some (.int .i64 d.bend) ∧ W.cell? ⟨b2, o2 + s * 2 + 1, none⟩ = some (.int .i64 more) ∧ W.cell? ⟨w.heap.size + 1, k, none⟩ = some (.int .i64 xk))) (by kernel_rfl) ?_ (fun hHeld => ?_)
                · (try dsimp only); exact H9.out _ hc
                refine htake (i := 0) (v := ?v16) rfl (by kernel_rfl) (by kernel_rfl) (by kernel_rfl) (fun _ _ _ h => h) (Or.inl ⟨by rfl, ?hy16⟩) (by assumption) ?_
                case hy16 => (intro w hSw; (try dsimp only at hSw); go_simp; try (with_reducible rfl))
                try simp only [Act.put, List.setIfInBounds_toArray, List.set_cons_zero, List.set_cons_succ]
                refine htake (i := 1) (v := ?v17) rfl (by kernel_rfl) (by kernel_rfl) (by kernel_rfl) (fun _ _ _ h => h) (Or.inl ⟨by rfl, ?hy17⟩) (by assumption) ?_
                case hy17 => (intro w hSw; (try dsimp only at hSw); go_simp; try (with_reducible rfl))
                try simp only [Act.put, List.setIfInBounds_toArray, List.set_cons_zero, List.set_cons_succ]
                refine htake (i := 2) (v := ?v18) rfl (by kernel_rfl) (by kernel_rfl) (by kernel_rfl) (fun _ _ _ h => h) (Or.inl ⟨by rfl, ?hy18⟩) (by assumption) ?_
                case hy18 => (intro w hSw; (try dsimp only at hSw); go_simp; try (with_reducible rfl))
                try simp only [Act.put, List.setIfInBounds_toArray, List.set_cons_zero, List.set_cons_succ]
                refine htake (i := 3) (v := ?v19) rfl (by kernel_rfl) (by kernel_rfl) (by kernel_rfl) (fun _ _ _ h => h) (Or.inl ⟨by rfl, ?hy19⟩) (by assumption) ?_
                case hy19 => (intro w hSw; (try dsimp only at hSw); go_simp; try (with_reducible rfl))
                try simp only [Act.put, List.setIfInBounds_toArray, List.set_cons_zero, List.set_cons_succ]
                refine htake (i := 4) (v := ?v20) rfl (by kernel_rfl) (by kernel_rfl) (by kernel_rfl) (fun _ _ _ h => h) (Or.inl ⟨by rfl, ?hy20⟩) (by assumption) ?_
                case hy20 => (intro w hSw; (try dsimp only at hSw); go_simp; try (with_reducible rfl))
                try simp only [Act.put, List.setIfInBounds_toArray, List.set_cons_zero, List.set_cons_succ]
                refine htake (i := 5) (v := ?v21) rfl (by kernel_rfl) (by kernel_rfl) (by kernel_rfl) (fun _ _ _ h => h) (Or.inl ⟨by rfl, ?hy21⟩) (by assumption) ?_
                case hy21 => (intro w hSw; (try dsimp only at hSw); go_simp; try (with_reducible rfl))
                try simp only [Act.put, List.setIfInBounds_toArray, List.set_cons_zero, List.set_cons_succ]
                refine htake (i := 7) (v := ?v22) rfl (by kernel_rfl) (by kernel_rfl) (by kernel_rfl) (fun _ _ _ h => h) (Or.inl ⟨by rfl, ?hy22⟩) (by assumption) ?_
                case hy22 => (intro w hSw; (try dsimp only at hSw); go_simp; try (with_reducible rfl))
                try simp only [Act.put, List.setIfInBounds_toArray, List.set_cons_zero, List.set_cons_succ]
                refine htake (i := 8) (v := ?v23) rfl (by kernel_rfl) (by kernel_rfl) (by kernel_rfl) (fun _ _ _ h => h) (Or.inl ⟨by rfl, ?hy23⟩) (by assumption) ?_
                case hy23 => (intro w hSw; (try dsimp only at hSw); go_simp; try (with_reducible rfl))
                try simp only [Act.put, List.setIfInBounds_toArray, List.set_cons_zero, List.set_cons_succ]
                refine htake (i := 9) (v := ?v24) rfl (by kernel_rfl) (by kernel_rfl) (by kernel_rfl) (fun _ _ _ h => h) (Or.inl ⟨by rfl, ?hy24⟩) (by assumption) ?_
                case hy24 => (intro w hSw; (try dsimp only at hSw); go_simp; try (with_reducible rfl))
                try simp only [Act.put, List.setIfInBounds_toArray, List.set_cons_zero, List.set_cons_succ]
                refine htake (i := 10) (v := ?v25) rfl (by kernel_rfl) (by kernel_rfl) (by kernel_rfl) (fun _ _ _ h => h) (Or.inl ⟨by rfl, ?hy25⟩) (by assumption) ?_
                case hy25 => (intro w hSw; (try dsimp only at hSw); go_simp; try (with_reducible rfl))
                try simp only [Act.put, List.setIfInBounds_toArray, List.set_cons_zero, List.set_cons_succ]
                refine htake (i := 11) (v := ?v26) rfl (by kernel_rfl) (by kernel_rfl) (by kernel_rfl) (fun _ _ _ h => h) (Or.inl ⟨by rfl, ?hy26⟩) (by assumption) ?_
                case hy26 => (intro w hSw; (try dsimp only at hSw); go_simp; try (with_reducible rfl))
                try simp only [Act.put, List.setIfInBounds_toArray, List.set_cons_zero, List.set_cons_succ]
                refine htake (i := 12) (v := ?v27) rfl (by kernel_rfl) (by kernel_rfl) (by kernel_rfl) (fun _ _ _ h => h) (Or.inl ⟨by rfl, ?hy27⟩) (by assumption) ?_
                case hy27 => (intro w hSw; (try dsimp only at hSw); go_simp; try (with_reducible rfl))
                try simp only [Act.put, List.setIfInBounds_toArray, List.set_cons_zero, List.set_cons_succ]
                refine htake (i := 13) (v := ?v28) rfl (by kernel_rfl) (by kernel_rfl) (by kernel_rfl) (fun _ _ _ h => h) (Or.inl ⟨by rfl, ?hy28⟩) (by assumption) ?_
                case hy28 => (intro w hSw; (try dsimp only at hSw); go_simp; try (with_reducible rfl))
                try simp only [Act.put, List.setIfInBounds_toArray, List.set_cons_zero, List.set_cons_succ]
                refine htake (i := 14) (v := ?v29) rfl (by kernel_rfl) (by kernel_rfl) (by kernel_rfl) (fun _ _ _ h => h) (Or.inl ⟨by rfl, ?hy29⟩) (by assumption) ?_
                case hy29 => (intro w hSw; (try dsimp only at hSw); go_simp; try (with_reducible rfl))
                try simp only [Act.put, List.setIfInBounds_toArray, List.set_cons_zero, List.set_cons_succ]
                refine wpAnyH_ready (rs := [6]) (by kernel_rfl) (by simp) ?_
                refine hcons rfl (fun K hK => ?_) (AllReadyH.nil)
                go_simp
                (with_reducible refine (HW.out _ (DN.out.next hc)).mono ?_); rintro e w4 ⟨rfl, hb4⟩; replace hc := hc.trans (hb4.mono hc.size); clear hb4
                refine hK.out _ _ ?_ (fun hHeld => ?_)
                · (try dsimp only); exact H9.out _ hc
                clear hK K
                try simp only [Act.put, List.setIfInBounds_toArray, List.set_cons_zero, List.set_cons_succ]
                refine htake (i := 15) (v := ?v30) rfl (by kernel_rfl) (by kernel_rfl) (by kernel_rfl) (fun _ _ _ h => h) (Or.inl ⟨by rfl, ?hy30⟩) (by assumption) ?_
                case hy30 => (intro w hSw; (try dsimp only at hSw); go_simp; try (with_reducible rfl))
                try simp only [Act.put, List.setIfInBounds_toArray, List.set_cons_zero, List.set_cons_succ]
                refine wpAnyH_done (by kernel_rfl) ?_ _
                refine NoPanic.normal ?_
                iterate 17 (try clear hHeld)
                go_wp2_with fail
                go_roundw
                case rel => exact HRELj.out _ hc
                case measure => simp [intOf]; omega
            · obtain rfl : k = d.blades.length := by omega
              go_wp2_with fail
              rw [show S + 1 = ((s + 1 : Nat) : Int) by rw [HSS.out]; rfl]
              go_roundw
              case rel => exact HREL.out _ hnone hblk hbl
              case measure => simp [intOf]; omega
    · obtain rfl : s = l.length := by omega
      rw [List.drop_of_length_le (Nat.le_refl _)] at hbp
      have E2 := Lib.hid (show badP d.blades d.bound l (fun _ => 0) sets 0 = none by rw [hbp]; rfl)
      clear hbp
      go_wp2_with fail
      go_ret3
      rw [E2.out]
      exact ⟨rfl, B0.out.trans (hbl.mono (by omega))⟩
end Go.Proofs.YtbhkglokdomajaaDoor
