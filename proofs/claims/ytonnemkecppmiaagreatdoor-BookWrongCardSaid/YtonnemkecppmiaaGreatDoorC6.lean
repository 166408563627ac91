import Derived.Test.YtonnemkecppmiaaGreatDoorC1
import Derived.Test.YtonnemkecppmiaaGreatDoorWx
import Derived.Test.YtonnemkecppmiaaGreatDoorR5
namespace Go.Proofs.YtonnemkecppmiaaGreatDoor
open Go.RowKit
/-! The law BookWrong. -/
theorem rem_nat {n : Nat} (h : 0 < n) {x : Int} (h0 : 0 ≤ x) : ∃ k : Nat, k < n ∧ Int.tmod x (n : Int) = (k : Int) ∧ x % (n : Int) = (k : Int) := by
  obtain ⟨m, rfl⟩ := Int.eq_ofNat_of_zero_le h0
  exact ⟨m % n, Nat.mod_lt _ h, by rw [Int.tmod_eq_emod_of_nonneg (by omega)]; rfl, rfl⟩
theorem bs_own {W : World} {base g cap n : Nat} {t : Tx} (h : W.ownsRow base 5 1 (.slice (some ⟨g, 0, none⟩) n cap) n (Lib.byteCells t)) (hg : g < W.heap.size) : BsAt W W.heap.size (some ⟨g, 0, none⟩) t := fun k x hx => by
  refine ⟨g, 0, rfl, hg, fun j u hu => ?_⟩
  rcases j with _ | j
  · have hu' : u8v x = u := Option.some.inj (show some (u8v x) = some u from hu)
    subst hu'
    have := h.cells (g := g) rfl k (u8v x) (by unfold Lib.byteCells; rw [List.getElem?_map, hx]; rfl)
    rw [show (⟨g, 0, none⟩ : Addr).add k = ⟨g, k, none⟩ by unfold Addr.add; split <;> simp_all] at this
    rw [Nat.zero_add, Nat.mul_one, Nat.add_zero]
    exact this
  · cases hu
theorem own_cap {W : World} {base g cap n : Nat} {e : TypeId} {xs : List Value} (h : W.ownsRow base e 1 (.slice (some ⟨g, 0, none⟩) n cap) n xs) : n ≤ cap := by
  rcases h.2 with ⟨h', _⟩ | ⟨g', cap', cur, hv, _, _, hn, _⟩
  · simp at h'
  · injection hv with _ _ h3
    subst h3
    exact hn
theorem bs_set {W : World} {g k : Nat} {t : Tx} {y : UInt8} (h : BsAt W W.heap.size (some ⟨g, 0, none⟩) t) (hk : k < t.length) : BsAt (W.setCell ⟨g, k, none⟩ (u8v y)) (W.setCell ⟨g, k, none⟩ (u8v y)).heap.size (some ⟨g, 0, none⟩) (t.set k y) := fun j x hx => by
  obtain ⟨q, off, e, hq, hc⟩ := h k _ (List.getElem?_eq_getElem hk)
  injection e with e
  injection e with e1 e2 _
  subst e1 e2
  refine ⟨g, 0, rfl, by rw [World.size_setCell]; exact hq, fun i u hu => ?_⟩
  rcases i with _ | i
  · have hu' : u8v x = u := Option.some.inj (show some (u8v x) = some u from hu)
    subst hu'
    rw [Nat.zero_add, Nat.mul_one, Nat.add_zero]
    rw [List.getElem?_set] at hx
    split at hx
    · rename_i e
      subst e
      injection hx with hx
      subst hx
      exact World.cell?_setCell_same' _ _ _ (by have := hc 0 _ rfl; rw [Nat.zero_add, Nat.mul_one, Nat.add_zero] at this; rw [this]; rfl)
    · rename_i hne
      obtain ⟨q', off', e', -, hc'⟩ := h j x hx
      injection e' with e'
      injection e' with e1 e2 _
      subst e1 e2
      rw [World.cell?_setCell_other _ _ _ _ (by intro e; injection e with _ e2; exact hne e2)]
      have := hc' 0 _ rfl
      rw [Nat.zero_add, Nat.mul_one, Nat.add_zero] at this
      exact this
  · cases hu
set_option maxRecDepth 100000 in
set_option maxHeartbeats 4000000 in
theorem BookWrong_walk (d : Mp) (A : Option Addr) (c : Nat) (l : List Pc) (x z : Int) (w : World) (hE : Env w) (hp : PuAt w w.heap.size d) (h0 : At w w.heap.size 28 Pc.cells A l) (n0 : l.length ≤ 9223372036854775807) (_ : l.length ≤ c) (hx : (Lit.int .u16 x).wf = true) (hz : (Lit.int .u8 z).wf = true) : Calls Tryz.prog 8 #[.agg #[.int .i64 d.d.play.len, .int .i64 d.d.play.slack, .int .i64 d.d.play.loose, .int .i64 d.d.play.damp.lo, .int .i64 d.d.play.damp.hi, .int .i64 d.d.wide, .int .i64 d.d.high, .bool d.d.turn, .slice d.A d.d.pieces.length d.c], .slice A l.length c, .int .u16 x, .int .u8 z] w (Ret (.bool true) w) := by
  simp [Lit.wf, IntKind.min, IntKind.max, IntKind.bits, IntKind.signed] at hx
  obtain ⟨y, rfl⟩ := byte_of hz
  clear hz
  have HWD := Lib.hid (fun (W : World) (h1 : Env W) (h2 : PuAt W W.heap.size d) => WriteDrawing_any d W h1 h2)
  have HWS := Lib.hid (fun (W : World) (h1 : At W W.heap.size 28 Pc.cells A l) => WriteScans_any A c l W h1 n0)
  have HOS := Lib.hid (wrS_ok (l := l))
  have HOD := Lib.hid (wrD_ok (d := d.d))
  generalize (wrS l).1 = t at HWS HOS
  generalize (wrS l).2 = e1 at HWS HOS
  generalize (wrD d.d).1 = s at HWD HOD
  generalize (wrD d.d).2 = e2 at HWD HOD
  have hq := nxA w (.cells #[.int .i64 d.d.play.len, .int .i64 d.d.play.slack, .int .i64 d.d.play.loose, .int .i64 d.d.play.damp.lo, .int .i64 d.d.play.damp.hi, .int .i64 d.d.wide, .int .i64 d.d.high, .bool d.d.turn, .slice d.A d.d.pieces.length d.c] 28)
  have HX := Lib.hid (Bx.new w #[.int .i64 d.d.play.len, .int .i64 d.d.play.slack, .int .i64 d.d.play.loose, .int .i64 d.d.play.damp.lo, .int .i64 d.d.play.damp.hi, .int .i64 d.d.wide, .int .i64 d.d.high, .bool d.d.turn, .slice d.A d.d.pieces.length d.c] 28)
  have HE := Lib.hid (hE.next hq)
  have HB := Lib.hid hq
  have HM := Lib.hid (hp.next hq)
  have HL := Lib.hid (h0.next hq)
  clear hE hp h0 hq n0
  go_enter Tryz.func8, Tryz.ntmps8
  go_upto_region 1 with fail
  generalize (w.alloc (.cells #[.int .i64 d.d.play.len, .int .i64 d.d.play.slack, .int .i64 d.d.play.loose, .int .i64 d.d.play.damp.lo, .int .i64 d.d.play.damp.hi, .int .i64 d.d.wide, .int .i64 d.d.high, .bool d.d.turn, .slice d.A d.d.pieces.length d.c] 28)) = V at *
  obtain ⟨b, hb⟩ : ∃ b, b = w.heap.size := ⟨_, rfl⟩
  rw [← hb] at HX ⊢
  clear hb
  have p0 := HX.out.c 0 _ rfl
  have p1 := HX.out.c 1 _ rfl
  have p2 := HX.out.c 2 _ rfl
  have p3 := HX.out.c 3 _ rfl
  have p4 := HX.out.c 4 _ rfl
  have p5 := HX.out.c 5 _ rfl
  have p6 := HX.out.c 6 _ rfl
  have p7 := HX.out.c 7 _ rfl
  have p8 := HX.out.c 8 _ rfl
  go_upto_region 1 with fail
  go_cut [35] (fun s wx => (∃ far : Bool, s = .bool far) ∧ wx = V)
  case first =>
    go_wp2_with fail
    all_goals
      go_meet
      exact ⟨⟨_, rfl⟩, rfl⟩
  case rest =>
    obtain ⟨⟨far, rfl⟩, hw⟩ := hcut
    have hw2 := hw.symm
    clear hw
    subst hw2
    cases far
    rotate_left
    ·
      go_wp2_with fail
      refine (alive_any V HE.out).mono ?_
      rintro e W99 ⟨rfl, hb⟩
      go_wp2_with fail
      go_ret
      exact ret_bool rfl (HB.out.trans (hb.mono HB.out.size))
    · skip
      clear p0 p1 p2 p3 p4 p5 p6 p7 p8
      go_wp2_with fail
      refine (HWS.out V HL.out).mono ?_
      rintro e W0 ⟨v, rfl, ho, hb⟩
      replace HE := Lib.hid (HE.out.next hb)
      replace HB := Lib.hid (HB.out.trans (hb.mono HB.out.size))
      replace HM := Lib.hid (HM.out.next hb)
      replace HL := Lib.hid (HL.out.next hb)
      replace HX := Lib.hid (HX.out.next hb)
      have HO := Lib.hid ho
      clear ho
      clear hb
      go_upto_if 43 with fail
      go_cut [] (fun wx => Below W0.heap.size W0 wx)
      case first =>
        by_cases g1 : e1 = 0
        rotate_left
        · have g1' : (e1 == 0) = false := by simpa using g1
          go_wp2_with fail
          go_meet
          exact Below.refl _ _
        · skip
          obtain ⟨n12, hok, ht⟩ := HOS.out g1
          subst g1
          have HOK := Lib.hid hok
          have HN12 := Lib.hid n12
          have HLEN := Lib.hid (scanB_len hok n12)
          clear hok n12
          subst ht
          obtain ⟨g, cap, e, -, hg⟩ := HO.out.form (by have := HLEN.out; omega)
          subst e
          obtain ⟨hl1, hl2⟩ := HLEN.out
          obtain ⟨k, hk, hk1, hk2⟩ := rem_nat (n := (scanB l).length) (by omega) hx.1
          have HKK := Lib.hid hk
          have HRW := Lib.hid (rs_wrong HOK.out HN12.out hk y)
          have HRC := Lib.hid (rs_cut HOK.out HN12.out hk)
          have HRM := Lib.hid (rs_more HOK.out HN12.out y)
          have HBT := Lib.hid (bs_own HO.out hg)
          have HCK := Lib.hid (show k ≤ cap by have := own_cap HO.out; omega)
          generalize scanB l = t at *
          have ht2 : ¬ (t.length : Int) < 2 := by omega
          obtain ⟨i0, hi, hz0, hz1, hz2⟩ := info_parts byte_info
          have HN := Lib.hid (nxA W0 (.cells #[] 5))
          have HN1 := Lib.hid (own_new (w := W0) (base := W0.heap.size) (e := 5) #[] rfl (Nat.le_refl _) (by decide))
          have hzero : 0 + t.length = t.length := Nat.zero_add _
          have HON := Lib.hid (own_below HO.out HN.out)
          have HSN := Lib.hid (show ∀ (j : Nat) u, (Lib.byteCells t)[j]? = some u → (W0.alloc (.cells #[] 5)).cell? ((⟨g, 0, none⟩ : Addr).add j) = some u from fun j u hu => HON.out.cells (g := g) rfl j u hu)
          go_wp2_with (at_builtin; refine wpList_append_own _ rfl (.tmp 52) (.tmp 53) 37 rfl W0.heap.size 5 i0 (.int .u8 0) 1 1 Tryz.underlying37 hi hz0 hz1 hz2 rfl (by decide) _ 0 _ rfl HN1.out ⟨g, 0, none⟩ t.length cap (Lib.byteCells t) rfl (by rw [Lib.byteCells_length, Nat.mul_one]) HSN.out (by exact Lib.byteCells_one t) (by unfold maxLen; omega) (by omega) (HN.out.size) ?_; intro v1 W1 hown hgrow _)
          have HBW := Lib.hid (Below.grown HN.out hgrow HN.out.size (fun j hj => (HN1.out.lt j hj).1))
          have HO1 := Lib.hid (show W1.ownsRow W0.heap.size 5 1 v1 t.length (Lib.byteCells t) by rw [hzero] at hown; exact hown)
          clear hown hgrow HN1 HSN HON
          obtain ⟨g1, cap1, e, hglo, hg1⟩ := HO1.out.form (by omega)
          subst e
          have HB1 := Lib.hid (bs_own HO1.out hg1)
          have hfr := HO1.out.frozenAt k
          have hcl : W1.cell? ⟨g1, k, none⟩ = some (.int .u8 ((t[k]).toNat : Int)) := by
            obtain ⟨q, off, e, -, hc⟩ := HB1.out k _ (List.getElem?_eq_getElem hk)
            injection e with e
            injection e with e1 e2 _
            subst e1 e2
            have := hc 0 _ rfl
            rw [Nat.zero_add, Nat.mul_one, Nat.add_zero] at this
            exact this
          have hadd := u8_add t[k] y
          have HST := Lib.hid (bs_set (y := t[k] + y) HB1.out hk)
          have HGD := Lib.hid (show t.getD k 0 = t[k] by rw [List.getD_eq_getElem?_getD, List.getElem?_eq_getElem hk]; rfl)
          rw [HGD.out] at HRW
          clear HGD
          generalize t[k] = a at *
          generalize hay : a + y = ay at *
          clear hay
          replace HBW := Lib.hid (HBW.out.setCell (p := ⟨g1, k, none⟩) hglo (.int .u8 (ay.toNat : Int)))
          replace HST := Lib.hid (show BsAt (W1.setCell ⟨g1, k, none⟩ (.int .u8 (ay.toNat : Int))) (W1.setCell ⟨g1, k, none⟩ (.int .u8 (ay.toNat : Int))).heap.size (some ⟨g1, 0, none⟩) (t.set k ay) from HST.out)
          have HLS := Lib.hid (show (t.set k ay).length = t.length from List.length_set ..)
          have hix : (0 ≤ (k : Int) ∧ (k : Int) < (t.length : Int)) = True := eq_true ⟨by omega, by omega⟩
          clear hk1 hk2
          go_simp
          go_wp2_with fail
          have HRS := (by have := ReadScans_any (some ⟨g1, 0, none⟩) cap1 (t.set k ay) _ (HE.out.next HBW.out) HST.out; rw [HLS.out] at this; exact this : Calls Tryz.prog 20 #[.slice (some ⟨g1, 0, none⟩) t.length cap1] (W1.setCell ⟨g1, k, none⟩ (.int .u8 (ay.toNat : Int))) (RetRs (t.set k ay) (W1.setCell ⟨g1, k, none⟩ (.int .u8 (ay.toNat : Int)))))
          refine HRS.mono ?_
          rintro e W2 ⟨v2, rfl, ho, hb⟩
          replace HBW := Lib.hid (HBW.out.trans (hb.mono HBW.out.size))
          obtain ⟨A2, c2, e, -⟩ := own_at pc_len (by decide) ho
          subst e
          clear HRS ho hb HST hcl hfr hadd HB1 HO1 HLS
          generalize rsE (t.set k ay) = E at *
          generalize rsV (t.set k ay) = L at *
          go_upto_region 11 with fail
          go_cut [84] (fun s wx => s = .bool false ∧ wx = W2)
          case first =>
            by_cases hy : y = 0
            · have z : ((y.toNat : Int) == 0) = true := by rw [hy]; rfl
              obtain rfl := HRW.out.1 hy
              clear hy
              go_wp2_with fail
              all_goals
                go_meet
                exact ⟨rfl, rfl⟩
            · have z : ((y.toNat : Int) == 0) = false := by
                have : y.toNat ≠ 0 := fun e => hy (UInt8.toNat_inj.1 e)
                simpa using this
              obtain ⟨rfl, rfl⟩ := HRW.out.2 hy
              clear hy
              go_wp2_with fail
              all_goals
                go_meet
                exact ⟨rfl, rfl⟩
          case rest =>
            obtain ⟨rfl, hw⟩ := hcut
            have hw2 := hw.symm
            clear hw
            subst hw2
            have hck := HCK.out
            go_wp2_with fail
            clear HRW
            have HTL := Lib.hid (show (t.take k).length = k by rw [List.length_take]; have := HKK.out; omega)
            have HRT := (by have := ReadScans_any (some ⟨g, 0, none⟩) cap (t.take k) _ (HE.out.next HBW.out) ((HBT.out.next HBW.out).take k); rw [HTL.out] at this; exact this : Calls Tryz.prog 20 #[.slice (some ⟨g, 0, none⟩) k cap] W2 (RetRs (t.take k) W2))
            refine HRT.mono ?_
            rintro e W3 ⟨v3, rfl, -, hb⟩
            replace HBW := Lib.hid (HBW.out.trans (hb.mono HBW.out.size))
            clear HRT hb HTL
            have hrc := HRC.out
            generalize rsE (t.take k) = G at *
            clear HRC HBT
            have HO3 := Lib.hid (own_below HO.out HBW.out)
            have HN3 := Lib.hid (nxA W3 (.cells #[] 5))
            have HP3 := Lib.hid (own_new (w := W3) (base := W3.heap.size) (e := 5) #[] rfl (Nat.le_refl _) (by decide))
            have HON := Lib.hid (own_below HO3.out HN3.out)
            have HSN := Lib.hid (show ∀ (j : Nat) u, (Lib.byteCells t)[j]? = some u → (W3.alloc (.cells #[] 5)).cell? ((⟨g, 0, none⟩ : Addr).add j) = some u from fun j u hu => HON.out.cells (g := g) rfl j u hu)
            obtain ⟨ny, hny⟩ : ∃ ny : UInt8, 0 - y = ny := ⟨_, rfl⟩
            have hs1 : (0 - (y.toNat : Int)) % 256 = (ny.toNat : Int) := by rw [← hny, UInt8.toNat_sub]; have := y.toNat_lt; show _ = (((256 - _ + 0) % 256 : Nat) : Int); omega
            have hs2 : (-(y.toNat : Int)) % 256 = (ny.toNat : Int) := by rw [← hs1]; congr 1; omega
            rw [hny] at HRM
            clear hny
            go_wp2_with (first | (at_builtin; refine wpList_append_own _ rfl (.tmp 93) (.tmp 94) 37 rfl W3.heap.size 5 i0 (.int .u8 0) 1 1 Tryz.underlying37 hi hz0 hz1 hz2 rfl (by decide) _ 0 _ rfl HP3.out ⟨g, 0, none⟩ t.length cap (Lib.byteCells t) rfl (by rw [Lib.byteCells_length, Nat.mul_one]) HSN.out (by exact Lib.byteCells_one t) (by unfold maxLen; omega) (by omega) (HN3.out.size) ?_; intro v4 W4 hown hgrow _; have HB4 := Lib.hid (Below.grown HN3.out hgrow HN3.out.size (fun j hj => (HP3.out.lt j hj).1)); have HO4 := Lib.hid (show W4.ownsRow W3.heap.size 5 1 v4 t.length (Lib.byteCells t) by rw [hzero] at hown; exact hown); clear hown hgrow HP3 HSN HON; have HN5 := Lib.hid (nxA W4 (.cells #[.int .u8 (y.toNat : Int), .int .u8 (ny.toNat : Int)] 5)); have HX5 := Lib.hid (Bx.new W4 #[.int .u8 (y.toNat : Int), .int .u8 (ny.toNat : Int)] 5); have HO5 := Lib.hid (own_below HO4.out HN5.out); have HB5 := Lib.hid (HB4.out.trans (HN5.out.mono HB4.out.size))) | (at_builtin; refine wpList_append_own _ rfl (.tmp 95) (.tmp 99) 37 rfl W3.heap.size 5 i0 (.int .u8 0) 1 1 Tryz.underlying37 hi hz0 hz1 hz2 rfl (by decide) _ t.length _ rfl HO5.out ⟨W4.heap.size, 0, none⟩ 2 2 (Lib.byteCells [y, ny]) rfl (by rfl) HX5.out.news (by exact Lib.byteCells_one [y, ny]) (by unfold maxLen; omega) (by omega) (Nat.le_trans HB4.out.size HN5.out.size) ?_; intro v5 W5 hown hgrow _))
            have HB6 := Lib.hid (Below.grown HB5.out hgrow HB5.out.size (fun j hj => (HO5.out.lt j hj).1))
            replace HBW := Lib.hid (HBW.out.trans (HB6.out.mono HBW.out.size))
            have HO6 := Lib.hid (show W5.ownsRow W3.heap.size 5 1 v5 (t ++ [y, ny]).length (Lib.byteCells (t ++ [y, ny])) by rw [Lib.byteCells_append, List.length_append]; exact hown)
            have HLL := Lib.hid (show (t ++ [y, ny]).length = t.length + 2 from List.length_append ..)
            clear hown hgrow HX5 HO5 HB5 HN5 HB4 HO4
            obtain ⟨g6, cap6, e, -, hg6⟩ := HO6.out.form (by rw [HLL.out]; omega)
            subst e
            have HRF := (by have := ReadScans_any (some ⟨g6, 0, none⟩) cap6 (t ++ [y, ny]) _ (HE.out.next HBW.out) (bs_own HO6.out hg6); rw [HLL.out] at this; exact this : Calls Tryz.prog 20 #[.slice (some ⟨g6, 0, none⟩) (t.length + 2) cap6] W5 (RetRs (t ++ [y, ny]) W5))
            rw [HLL.out]
            refine HRF.mono ?_
            rintro e W6 ⟨v6, rfl, -, hb⟩
            replace HBW := Lib.hid (HBW.out.trans (hb.mono HBW.out.size))
            clear hb HRF HO6 HLL
            rw [HRM.out]
            go_wp2_with fail
            go_meet
            exact HBW.out
      case rest =>
        have hb : Below W0.heap.size W0 wc := hcut
        clear hcut HOS HWS HO HL
        replace HE := Lib.hid (HE.out.next hb)
        replace HB := Lib.hid (HB.out.trans (hb.mono HB.out.size))
        replace HM := Lib.hid (HM.out.next hb)
        replace HX := Lib.hid (HX.out.next hb)
        clear hb
        have p0 := HX.out.c 0 _ rfl
        have p1 := HX.out.c 1 _ rfl
        have p2 := HX.out.c 2 _ rfl
        have p3 := HX.out.c 3 _ rfl
        have p4 := HX.out.c 4 _ rfl
        have p5 := HX.out.c 5 _ rfl
        have p6 := HX.out.c 6 _ rfl
        have p7 := HX.out.c 7 _ rfl
        have p8 := HX.out.c 8 _ rfl
        go_wp2_with fail
        refine (HWD.out wc HE.out HM.out).mono ?_
        rintro e W7 ⟨rfl, hb⟩
        replace HE := Lib.hid (HE.out.next hb)
        replace HB := Lib.hid (HB.out.trans (hb.mono HB.out.size))
        replace HM := Lib.hid (HM.out.next hb)
        replace HX := Lib.hid (HX.out.next hb)
        clear hb
        clear p0 p1 p2 p3 p4 p5 p6 p7 p8
        by_cases g2 : e2 = 0
        rotate_left
        · have g2' : (e2 != 0) = true := by simpa using g2
          go_wp2_with fail
          refine (alive_any W7 HE.out).mono ?_
          rintro e W99 ⟨rfl, hb⟩
          go_wp2_with fail
          go_ret
          exact ret_bool rfl (HB.out.trans (hb.mono HB.out.size))
        · skip
          obtain ⟨hok, hs⟩ := HOD.out g2
          subst g2
          subst hs
          have hpos := List.length_pos_of_mem (dText_nl (d := d.d))
          obtain ⟨k, hk, hk1, hk2⟩ := rem_nat (n := (dText d.d).length) hpos hx.1
          have HR1 := Lib.hid (rd_cut hok hk)
          have HR2 := Lib.hid (rd_nl hok)
          have HR3 := Lib.hid (rd_twice hok)
          have hsm := dText_len hok
          generalize dText d.d = s at *
          have hp1 : (⟨s.toArray⟩ : ByteArray) ++ ⟨#[10]⟩ = ⟨(s ++ [10]).toArray⟩ := ByteArray.ext (by simp)
          have hp2 : (⟨s.toArray⟩ : ByteArray) ++ ⟨s.toArray⟩ = ⟨(s ++ s).toArray⟩ := ByteArray.ext (by simp)
          have hsl : ((s.length : Int) == 0) = false := by
            simp only [beq_eq_false_iff_ne]
            omega
          have hex : (⟨s.toArray⟩ : ByteArray).extract 0 k = ⟨(s.take k).toArray⟩ := by have := ext_mid s 0 k; simpa using this
          clear hok hpos
          go_wp2_with fail
          clear HX HM
          refine (ReadDrawing_any (s.take k) W7 HE.out).mono ?_
          rintro e W8 ⟨m1, -, rfl, -, -, hb⟩
          replace HE := Lib.hid (HE.out.next hb)
          replace HB := Lib.hid (HB.out.trans (hb.mono HB.out.size))
          rw [HR1.out]
          clear hb
          have HN := Lib.hid (nxA W8 (.cells #[.int .i64 m1.d.play.len, .int .i64 m1.d.play.slack, .int .i64 m1.d.play.loose, .int .i64 m1.d.play.damp.lo, .int .i64 m1.d.play.damp.hi, .int .i64 m1.d.wide, .int .i64 m1.d.high, .bool m1.d.turn, .slice m1.A m1.d.pieces.length m1.c] 28))
          have HX1 := Lib.hid (Bx.new W8 #[.int .i64 m1.d.play.len, .int .i64 m1.d.play.slack, .int .i64 m1.d.play.loose, .int .i64 m1.d.play.damp.lo, .int .i64 m1.d.play.damp.hi, .int .i64 m1.d.wide, .int .i64 m1.d.high, .bool m1.d.turn, .slice m1.A m1.d.pieces.length m1.c] 28)
          go_upto_region 23 with fail
          generalize (W8.alloc (.cells #[.int .i64 m1.d.play.len, .int .i64 m1.d.play.slack, .int .i64 m1.d.play.loose, .int .i64 m1.d.play.damp.lo, .int .i64 m1.d.play.damp.hi, .int .i64 m1.d.wide, .int .i64 m1.d.high, .bool m1.d.turn, .slice m1.A m1.d.pieces.length m1.c] 28)) = V1 at *
          obtain ⟨b1, hb1⟩ : ∃ b, b = W8.heap.size := ⟨_, rfl⟩
          rw [← hb1] at HX1 ⊢
          have hb := HN.out
          replace HE := Lib.hid (HE.out.next hb)
          replace HB := Lib.hid (HB.out.trans (hb.mono HB.out.size))
          clear hb hb1 HN
          clear HX1
          clear hex hsl hk1 hk2
          go_wp2_with fail
          (try rw [hp1])
          refine (ReadDrawing_any (s ++ [10]) V1 HE.out).mono ?_
          rintro e W9 ⟨m2, -, rfl, -, -, hb⟩
          replace HE := Lib.hid (HE.out.next hb)
          replace HB := Lib.hid (HB.out.trans (hb.mono HB.out.size))
          rw [HR2.out]
          clear hb
          have HN := Lib.hid (nxA W9 (.cells #[.int .i64 m2.d.play.len, .int .i64 m2.d.play.slack, .int .i64 m2.d.play.loose, .int .i64 m2.d.play.damp.lo, .int .i64 m2.d.play.damp.hi, .int .i64 m2.d.wide, .int .i64 m2.d.high, .bool m2.d.turn, .slice m2.A m2.d.pieces.length m2.c] 28))
          have HX2 := Lib.hid (Bx.new W9 #[.int .i64 m2.d.play.len, .int .i64 m2.d.play.slack, .int .i64 m2.d.play.loose, .int .i64 m2.d.play.damp.lo, .int .i64 m2.d.play.damp.hi, .int .i64 m2.d.wide, .int .i64 m2.d.high, .bool m2.d.turn, .slice m2.A m2.d.pieces.length m2.c] 28)
          go_upto_region 24 with fail
          generalize (W9.alloc (.cells #[.int .i64 m2.d.play.len, .int .i64 m2.d.play.slack, .int .i64 m2.d.play.loose, .int .i64 m2.d.play.damp.lo, .int .i64 m2.d.play.damp.hi, .int .i64 m2.d.wide, .int .i64 m2.d.high, .bool m2.d.turn, .slice m2.A m2.d.pieces.length m2.c] 28)) = V2 at *
          obtain ⟨b2, hb2⟩ : ∃ b, b = W9.heap.size := ⟨_, rfl⟩
          rw [← hb2] at HX2 ⊢
          have hb := HN.out
          replace HE := Lib.hid (HE.out.next hb)
          replace HB := Lib.hid (HB.out.trans (hb.mono HB.out.size))
          clear hb hb2 HN
          clear HX2
          go_wp2_with fail
          (try rw [hp2])
          refine (ReadDrawing_any (s ++ s) V2 HE.out).mono ?_
          rintro e W10 ⟨m3, -, rfl, -, -, hb⟩
          replace HE := Lib.hid (HE.out.next hb)
          replace HB := Lib.hid (HB.out.trans (hb.mono HB.out.size))
          rw [HR3.out]
          clear hb
          have HN := Lib.hid (nxA W10 (.cells #[.int .i64 m3.d.play.len, .int .i64 m3.d.play.slack, .int .i64 m3.d.play.loose, .int .i64 m3.d.play.damp.lo, .int .i64 m3.d.play.damp.hi, .int .i64 m3.d.wide, .int .i64 m3.d.high, .bool m3.d.turn, .slice m3.A m3.d.pieces.length m3.c] 28))
          have HX3 := Lib.hid (Bx.new W10 #[.int .i64 m3.d.play.len, .int .i64 m3.d.play.slack, .int .i64 m3.d.play.loose, .int .i64 m3.d.play.damp.lo, .int .i64 m3.d.play.damp.hi, .int .i64 m3.d.wide, .int .i64 m3.d.high, .bool m3.d.turn, .slice m3.A m3.d.pieces.length m3.c] 28)
          go_upto_region 25 with fail
          generalize (W10.alloc (.cells #[.int .i64 m3.d.play.len, .int .i64 m3.d.play.slack, .int .i64 m3.d.play.loose, .int .i64 m3.d.play.damp.lo, .int .i64 m3.d.play.damp.hi, .int .i64 m3.d.wide, .int .i64 m3.d.high, .bool m3.d.turn, .slice m3.A m3.d.pieces.length m3.c] 28)) = V3 at *
          obtain ⟨b3, hb3⟩ : ∃ b, b = W10.heap.size := ⟨_, rfl⟩
          rw [← hb3] at HX3 ⊢
          have hb := HN.out
          replace HE := Lib.hid (HE.out.next hb)
          replace HB := Lib.hid (HB.out.trans (hb.mono HB.out.size))
          clear hb hb3 HN
          clear HX3
          go_wp2_with fail
          refine (alive_any V3 HE.out).mono ?_
          rintro e W99 ⟨rfl, hb⟩
          go_wp2_with fail
          go_ret
          exact ret_bool rfl (HB.out.trans (hb.mono HB.out.size))
end Go.Proofs.YtonnemkecppmiaaGreatDoor
