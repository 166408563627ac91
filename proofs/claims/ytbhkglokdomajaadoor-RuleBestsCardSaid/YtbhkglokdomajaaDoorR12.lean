import Derived.Test.YtbhkglokdomajaaDoorR11
namespace Go.Proofs.YtbhkglokdomajaaDoor
open Go.RowKit
/-! The reference: plans. -/
theorem ext_len (n : Nat) : ∀ (m : Nat) (p : List Nat), (extS n m p).length = n ^ m
  | 0, p => by rw [extS_zero]; rfl
  | m + 1, p => by
    rw [extS_succ, List.length_flatMap, List.map_congr_left (g := fun _ => n ^ m) (fun s _ => ext_len n m (p ++ [s]))]
    rw [List.map_const', List.sum_replicate_nat, List.length_range, Nat.pow_succ, Nat.mul_comm]
theorem pre_len (n m q : Nat) (p : List Nat) : ((List.range q).flatMap fun s => extS n m (p ++ [s])).length = q * n ^ m := by
  rw [List.length_flatMap, List.map_congr_left (g := fun _ => n ^ m) (fun s _ => ext_len n m (p ++ [s]))]
  rw [List.map_const', List.sum_replicate_nat, List.length_range]
def RetAll (n m : Nat) (p : List Nat) (B0 : Nat) (v : Value) (k : Nat) (xs : List Value) (W : World) (e : Ending) (W' : World) : Prop := ∃ v' ys, e = .returned v' ∧ W'.ownsRow B0 34 1 v' (k + n ^ m) (xs ++ ys) ∧ RowsAt W' ys (extS n m p) ∧ Grew W v W' v'
def RAll (n m : Nat) (p : List Nat) (B0 : Nat) (v : Value) (k : Nat) (xs : List Value) (W : World) (s v' : Value) (W' : World) : Prop := ∃ q ys, q ≤ n ∧ s = .int .i64 (q : Nat) ∧ W'.ownsRow B0 34 1 v' (k + q * n ^ m) (xs ++ ys) ∧ RowsAt W' ys ((List.range q).flatMap fun s => extS n m (p ++ [s])) ∧ Grew W v W' v'
theorem rows_info : (Tryd.prog.info? 34).map (fun i => (i.zero, i.size, i.bytes)) = some (some (.slice none 0 0), 1, 24) := by kernel_rfl
set_option maxRecDepth 100000 in
set_option maxHeartbeats 2000000 in
theorem plans_any (many n : Nat) (hn : n ≤ 32) (hmany : many ≤ 6) (B0 : Nat) (m : Nat) : ∀ (p : List Nat) (x v : Value) (k : Nat) (xs : List Value) (W : World), p.length + m = many → (∀ s ∈ p, s < 32) → RowAt W x p → W.ownsRow B0 34 1 v k xs → B0 ≤ W.heap.size → k + n ^ m ≤ 1073741824 →
    Calls Tryd.prog 56 #[.int .i64 many, .int .i64 n, x, v] W (RetAll n m p B0 v k xs W) := by
  obtain ⟨i0, hi, hz0, hz1, hz2⟩ := info_parts rows_info
  obtain ⟨i1, gi, gz0, gz1, gz2⟩ := info_parts int_info
  induction m with
  | zero =>
    intro p x v k xs W hpm hps hx hown hB hk
    have hpl : p.length = many := by omega
    have HX := Lib.hid hx
    have HO := Lib.hid hown
    have hone := hx.one
    rw [Nat.pow_zero] at hk
    have hnews := cell_one_new W x 34
    obtain ⟨A, c, rfl, hpA⟩ : ∃ A c, x = .slice A p.length c ∧ True := by
      rcases hx with ⟨h1, h2⟩ | ⟨-, b, c, -, -, h2, -⟩
      · subst h1; exact ⟨none, 0, h2, trivial⟩
      · exact ⟨_, c, h2, trivial⟩
    rw [hpl] at *
    clear hx hown hpA hpl
    go_enter Tryd.func56, Tryd.ntmps56
    go_wp2_with (at_builtin; refine wpList_append_lies _ rfl (.tmp 14) (.tmp 16) 104 rfl B0 34 i0 (.slice none 0 0) 1 24 Tryd.underlying104 hi hz0 hz1 hz2 rfl (by decide) _ _ _ rfl (HO.out.alloc _) ⟨W.heap.size, 0, none⟩ 1 1 [.slice A many c] rfl rfl hnews (by intro u hu; rw [List.mem_singleton] at hu; subst hu; exact hone) (by omega) (by unfold maxLen; omega) (by omega) (by simp; omega) _ rfl ?_; intro g cap w' hown' hgrow hgg hlt')
    go_ret
    refine ⟨_, [.slice A many c], rfl, by rw [Nat.pow_zero]; exact hown', ?_, grown_trans (only_of_below (nxA W (.cells #[.slice A many c] 34)) v.ownBlock) hgrow, fun j hj => ?_⟩
    · rw [extS_zero]
      refine ⟨rfl, fun i y q hy hq => ?_⟩
      match i, hy, hq with
      | 0, hy, hq =>
        injection hy with hy
        injection hq with hq
        subst hy hq
        exact (HX.out.next (nxA W (.cells #[.slice A many c] 34))).grow (HO.out.alloc _) hgrow
    · injection hj with hj
      simp only at hj
      subst hj
      rcases hgg with h | h
      · exact .inl h
      · exact .inr (by rw [h]; simp)
  | succ m ih =>
    intro p x v k xs W hpm hps hx hown hB hk
    have IH := Lib.hid ih
    clear ih
    have hne : ((p.length : Int) == (many : Int)) = false := by rw [beq_eq_false_iff_ne]; omega
    have HX := Lib.hid hx
    have HO := Lib.hid hown
    have hpl : p.length ≤ 6 := by omega
    have hpos : ∀ q, q < n → k + q * n ^ m + n ^ m ≤ 1073741824 := fun q hq => by
      have h1 : (q + 1) * n ^ m ≤ n * n ^ m := Nat.mul_le_mul_right _ (by omega)
      rw [Nat.pow_succ, Nat.mul_comm (n ^ m)] at hk
      rw [Nat.add_mul, Nat.one_mul] at h1
      omega
    have HPOS := Lib.hid hpos
    clear hpos
    rcases hx with ⟨hp0, hxe⟩ | ⟨hp0, b, c, cur, fr, hxe, hh, hcells⟩
    · subst hp0 hxe
      have hne0 : ((0 : Int) == (many : Int)) = false := by rw [beq_eq_false_iff_ne]; simp at hpm; omega
      clear hown
      go_enter Tryd.func56, Tryd.ntmps56
      go_wp2_with fail
      go_loopw [3, 9] (fun v' s wr => RAll n m ([] : List Nat) B0 v k xs W s v' wr) (fun _ i _ => n - (intOf i).toNat)
      case atStart => exact ⟨0, [], by omega, rfl, by simpa using HO.out, ⟨rfl, fun i y q hy hq => by simp at hy⟩, Grew.refl _ _⟩
      case round =>
        obtain ⟨q, ys, hq, rfl, hown, hrows, hgr⟩ := hrel
        by_cases hlt : (q : Int) < n
        · have hqn : q < n := by omega
          have hB1 : B0 ≤ wr.heap.size := Nat.le_trans hB hgr.g.size
          have hkk := HPOS.out q hqn
          have hl0 := World.ownsRow_lit (base := wr.heap.size) (e := 3) (size := 1) wr #[] 0 (Nat.le_refl _) (by decide) rfl
          have HO2 := Lib.hid hown
          have HR2 := Lib.hid hrows
          have HG2 := Lib.hid hgr
          clear hown hrows hgr
          go_wp2_with (at_builtin; refine wpList_append_own _ rfl (.tmp 27) (.tmp 29) 34 rfl wr.heap.size 3 i1 (.int .i64 0) 1 8 Tryd.underlying34 gi gz0 gz1 gz2 rfl (by decide) _ 0 [] rfl (hl0.alloc _) ⟨wr.heap.size + 1, 0, none⟩ 1 1 [.int .i64 (q : Nat)] rfl rfl (by have h := cell_one_new (wr.alloc (.cells #[] 3)) (.int .i64 (q : Nat)) 3; rw [World.size_alloc] at h; exact h) (by simp [Value.oneCell']) (by decide) (by decide) (by simp; omega) ?_; intro v2 w2 hown2 hgrow2 _; have hbw : Below wr.heap.size wr w2 := (((Below.refl wr.heap.size wr).alloc (Nat.le_refl _) (.cells #[] 3)).alloc (by simp) (.cells #[.int .i64 (q : Nat)] 3)).grown hgrow2 (by simp; omega) (fun j hj => by have := (hl0.lt j hj).1; omega); have hrow2 : RowAt w2 v2 ([] ++ [q]) := RowAt.of_own (by simp) (by simpa using hown2); have howno := ((HO2.out.alloc (.cells #[] 3)).alloc (.cells #[.int .i64 (q : Nat)] 3)).kept hgrow2 (own_apart ((HO2.out.alloc (.cells #[] 3)).alloc (.cells #[.int .i64 (q : Nat)] 3)) (hl0.alloc (.cells #[.int .i64 (q : Nat)] 3)) (by decide)); clear hown2 hgrow2 hl0)
          have HBW := Lib.hid hbw
          have HV2 := Lib.hid hrow2
          have HO3 := Lib.hid howno
          clear hbw hrow2 howno
          go_wp2_with fail
          refine (IH.out (([] : List Nat) ++ [q]) v2 u3 (k + q * n ^ m) (xs ++ ys) w2 (by have := hpm; simp at this ⊢; omega) (fun s hs => by
            rcases List.mem_append.1 hs with h | h
            · exact hps s h
            · rw [List.mem_singleton] at h; omega) HV2.out HO3.out (Nat.le_trans hB1 HBW.out.size) hkk).mono ?_
          rintro e W3 ⟨v3, zs, rfl, hown3, hrows3, hgr3⟩
          have HREL := Lib.hid (show RAll n m ([] : List Nat) B0 v k xs W (.int .i64 ((q + 1 : Nat) : Int)) v3 W3 from
            ⟨q + 1, ys ++ zs, by omega, rfl, by rw [Nat.add_mul, Nat.one_mul, ← Nat.add_assoc, ← List.append_assoc]; exact hown3, by
              rw [List.range_succ, List.flatMap_append, List.flatMap_singleton]
              exact ((HR2.out.imp fun y p h => h.next HBW.out).imp fun y p h => h.grow HO3.out hgr3.g).app hrows3, (HG2.out.trans (Grew.of_below HBW.out _)).trans hgr3⟩)
          clear hown3 hrows3 hgr3
          go_wp2_with fail
          go_roundw
          case rel => exact HREL.out
          case measure => simp [intOf]; omega
        · obtain rfl : q = n := by omega
          go_wp2_with fail
          go_ret
          refine ⟨_, ys, rfl, ?_, ?_, hgr⟩
          · rw [Nat.pow_succ, Nat.mul_comm]; exact hown
          · rw [extS_succ]; exact hrows
    · subst hxe
      clear hown hh hcells
      go_enter Tryd.func56, Tryd.ntmps56
      go_wp2_with fail
      go_loopw [3, 9] (fun v' s wr => RAll n m p B0 v k xs W s v' wr) (fun _ i _ => n - (intOf i).toNat)
      case atStart => exact ⟨0, [], by omega, rfl, by simpa using HO.out, ⟨rfl, fun i y q hy hq => by simp at hy⟩, Grew.refl _ _⟩
      case round =>
        obtain ⟨q, ys, hq, rfl, hown, hrows, hgr⟩ := hrel
        by_cases hlt : (q : Int) < n
        · have hqn : q < n := by omega
          have hB1 : B0 ≤ wr.heap.size := Nat.le_trans hB hgr.g.size
          have hkk := HPOS.out q hqn
          have hl0 := World.ownsRow_lit (base := wr.heap.size) (e := 3) (size := 1) wr #[] 0 (Nat.le_refl _) (by decide) rfl
          have HO2 := Lib.hid hown
          have HR2 := Lib.hid hrows
          have HG2 := Lib.hid hgr
          clear hown hrows hgr
          have hRw := (HX.out.grow HO.out HG2.out.g)
          obtain ⟨hbz, hcl⟩ : b < wr.heap.size ∧ ∀ j, j < p.length → wr.cell? ⟨b, j, none⟩ = some (.int .i64 ((p.getD j 0 : Nat) : Int)) := by
            rcases hRw with ⟨h1, -⟩ | ⟨-, b', c', cur', fr', e', hh', hc'⟩
            · exact absurd h1 hp0
            · injection e' with e1
              injection e1 with e1
              injection e1 with e1
              subst e1
              exact ⟨(Array.getElem?_eq_some_iff.1 hh').1, hc'⟩
          have hnews : ∀ j u, (p.map fun x => Value.int .i64 ((x : Nat) : Int))[j]? = some u → (wr.alloc (.cells #[] 3)).cell? ((⟨b, 0, none⟩ : Addr).add j) = some u := by
            intro j u hu
            have hj : j < p.length := by have := (List.getElem?_eq_some_iff.1 hu).1; simpa using this
            rw [show ((⟨b, 0, none⟩ : Addr).add j) = ⟨b, j, none⟩ by unfold Addr.add; split <;> simp_all, World.cell?_alloc_lt _ _ _ hbz, hcl j hj]
            rw [List.getElem?_map, List.getElem?_eq_getElem hj] at hu
            rw [List.getD_eq_getElem?_getD, List.getElem?_eq_getElem hj]
            exact hu
          clear hRw hcl
          go_wp2_with (first
            | (at_builtin; refine wpList_append_own _ rfl (.tmp 25) (.tmp 26) 34 rfl wr.heap.size 3 i1 (.int .i64 0) 1 8 Tryd.underlying34 gi gz0 gz1 gz2 rfl (by decide) _ 0 [] rfl hl0 ⟨b, 0, none⟩ p.length c (p.map fun x => Value.int .i64 ((x : Nat) : Int)) rfl (by simp) hnews (by simp [Value.oneCell']) (by unfold maxLen; omega) (by omega) (by simp) ?_; intro v1 w1 hown1 hgrow1 _; have hbw1 : Below wr.heap.size wr w1 := ((Below.refl wr.heap.size wr).alloc (Nat.le_refl _) (.cells #[] 3)).grown hgrow1 (by simp) (fun j hj => by have := (hl0.lt j hj).1; omega); have howno1 := (HO2.out.alloc (.cells #[] 3)).kept hgrow1 (own_apart (HO2.out.alloc (.cells #[] 3)) hl0 (by decide)); have hown1' : w1.ownsRow wr.heap.size 3 1 v1 p.length (p.map fun x => Value.int .i64 ((x : Nat) : Int)) := (by simpa using hown1))
            | (at_builtin; refine wpList_append_own _ rfl (.tmp 27) (.tmp 29) 34 rfl wr.heap.size 3 i1 (.int .i64 0) 1 8 Tryd.underlying34 gi gz0 gz1 gz2 rfl (by decide) _ p.length (p.map fun x => Value.int .i64 ((x : Nat) : Int)) rfl (hown1'.alloc _) ⟨w1.heap.size, 0, none⟩ 1 1 [.int .i64 (q : Nat)] rfl rfl (cell_one_new _ _ _) (by simp [Value.oneCell']) (by unfold maxLen; omega) (by omega) (by have := hbw1.size; simp; omega) ?_; intro v2 w2 hown2 hgrow2 _; have hbw : Below wr.heap.size wr w2 := (hbw1.alloc hbw1.size (.cells #[.int .i64 (q : Nat)] 3)).grown hgrow2 (by have := hbw1.size; simp; omega) (fun j hj => by have := (hown1'.lt j hj).1; omega); have hrow2 : RowAt w2 v2 (p ++ [q]) := RowAt.of_own (by simp) (by simpa using hown2); have howno := (howno1.alloc (.cells #[.int .i64 (q : Nat)] 3)).kept hgrow2 (own_apart (howno1.alloc (.cells #[.int .i64 (q : Nat)] 3)) (hown1'.alloc (.cells #[.int .i64 (q : Nat)] 3)) (by decide)); clear hown2 hgrow2 hl0 hown1 hown1' hgrow1 howno1 hbw1 hnews))
          have HBW := Lib.hid hbw
          have HV2 := Lib.hid hrow2
          have HO3 := Lib.hid howno
          clear hbw hrow2 howno
          go_wp2_with fail
          refine (IH.out (p ++ [q]) v2 u3 (k + q * n ^ m) (xs ++ ys) w2 (by have := hpm; simp at this ⊢; omega) (fun s hs => by
            rcases List.mem_append.1 hs with h | h
            · exact hps s h
            · rw [List.mem_singleton] at h; omega) HV2.out HO3.out (Nat.le_trans hB1 HBW.out.size) hkk).mono ?_
          rintro e W3 ⟨v3, zs, rfl, hown3, hrows3, hgr3⟩
          have HREL := Lib.hid (show RAll n m p B0 v k xs W (.int .i64 ((q + 1 : Nat) : Int)) v3 W3 from
            ⟨q + 1, ys ++ zs, by omega, rfl, by rw [Nat.add_mul, Nat.one_mul, ← Nat.add_assoc, ← List.append_assoc]; exact hown3, by
              rw [List.range_succ, List.flatMap_append, List.flatMap_singleton]
              exact ((HR2.out.imp fun y p h => h.next HBW.out).imp fun y p h => h.grow HO3.out hgr3.g).app hrows3, (HG2.out.trans (Grew.of_below HBW.out _)).trans hgr3⟩)
          clear hown3 hrows3 hgr3
          go_wp2_with fail
          go_roundw
          case rel => exact HREL.out
          case measure => simp [intOf]; omega
        · obtain rfl : q = n := by omega
          go_wp2_with fail
          go_ret
          refine ⟨_, ys, rfl, ?_, ?_, hgr⟩
          · rw [Nat.pow_succ, Nat.mul_comm]; exact hown
          · rw [extS_succ]; exact hrows
end Go.Proofs.YtbhkglokdomajaaDoor
