import Derived.Test.YtjlicbdnppodgaaP10
import Derived.Test.YtjlicbdnppodgaaSd
import Derived.Maps.AppendAt
namespace Go.Proofs.Ytjlicbdnppodgaa
open Go.RowKit
/-! The program: Sides. -/
/-- Between two rounds of Sides. -/
structure RSd (c : Cut) (piece : Int) (be : Nat) (w W0 : World) (v kv : Value) (W : World) (n : Nat) : Prop where
  hn : n ≤ (greatS c).toNat + 2
  k : kv = .int .i64 (numK n)
  own : W.ownsRow W0.heap.size 54 2 v (sideTo c piece n).length ((sideTo c piece n).flatMap sideC)
  ed : MapIs Try.prog 84 kv2 vvI be (edgO c) W
  b : Below W0.heap.size W0 W
set_option maxRecDepth 100000 in
set_option maxHeartbeats 2000000 in
theorem SidesP_any (c : Cut) (piece : Int) (w : World) (hp : I64 piece) (hr : CutAt w w.heap.size c) : Calls Try.prog 16 #[.agg #[.int .i64 c.wide, .int .i64 c.high, .slice c.A c.piece.length c.c], .int .i64 piece] w (RetSides c piece w) := by
  obtain ⟨i0, hi, hz0, hz1, hz2⟩ := info_parts side_info
  have HX := Lib.hid (Bx.new w #[.int .i64 c.wide, .int .i64 c.high, .slice c.A c.piece.length c.c] 24)
  have HB := Lib.hid (nxA w (.cells #[.int .i64 c.wide, .int .i64 c.high, .slice c.A c.piece.length c.c] 24))
  have HR := Lib.hid (hr.next HB.out)
  have HP := Lib.hid hp
  clear hr hp
  go_enter Try.func16, Try.ntmps16
  go_upto_region 1 with fail
  generalize (w.alloc (.cells #[.int .i64 c.wide, .int .i64 c.high, .slice c.A c.piece.length c.c] 24)) = V at *
  have c0 := HX.out.c 0 _ rfl
  have c1 := HX.out.c 1 _ rfl
  have c2 := HX.out.c 2 _ rfl
  go_wp2_with fail
  refine (open_any c piece V HR.out).mono ?_
  rintro e W ⟨ho | ho, hb⟩
  · obtain ⟨h0, rfl⟩ := ho
    have HB2 := Lib.hid (HB.out.trans (hb.mono HB.out.size))
    have HL := Lib.hid (show sidesL c piece = [] from by unfold sidesL; rw [if_neg h0])
    have H0 := Lib.hid h0
    have e0 : (openE c piece == 0) = false := by simp [h0]
    clear h0 hb c0 c1 c2
    generalize hx : openE c piece = x at *
    have HXX := Lib.hid hx
    clear hx
    go_wp2_with fail
    go_ret2
    refine ⟨none, 0, by rw [HL.out, HXX.out]; rfl, by rw [HL.out]; exact At.nil, ?_⟩
    exact HB2.out.trans ((nxA W _).mono HB2.out.size)
  · obtain ⟨h0, bm, rfl, hbm, hpic⟩ := ho
    have HG := Lib.hid (openE_good h0)
    have HB2 := Lib.hid (HB.out.trans (hb.mono HB.out.size))
    have HL := Lib.hid (show sidesL c piece = sidesS c piece from by unfold sidesL; rw [if_pos h0])
    have H0 := Lib.hid h0
    have hn := nxA W (.cells #[.int .i64 c.wide, .int .i64 c.high, .slice c.A c.piece.length c.c, .map (some (bm))] 71)
    have HB3 := Lib.hid (HB2.out.trans (hn.mono HB2.out.size))
    have HPM := Lib.hid (MapIs.next hpic hn)
    have hgr := great_bd HG.out.ok
    have HXP := Lib.hid (Bx.new W #[.int .i64 c.wide, .int .i64 c.high, .slice c.A c.piece.length c.c, .map (some (bm))] 71)
    clear h0 hb c0 c1 c2 hbm hpic hn
    go_upto_region 2 with fail
    generalize W.alloc (.cells #[.int .i64 c.wide, .int .i64 c.high, .slice c.A c.piece.length c.c, .map (some (bm))] 71) = W1 at *
    have q0 := HXP.out.c 0 _ rfl
    have q1 := HXP.out.c 1 _ rfl
    have q2 := HXP.out.c 2 _ rfl
    have q3 := HXP.out.c 3 _ rfl
    go_wp2_with fail
    refine (edges_any c bm W1 HG.out.ok HPM.out).mono ?_
    rintro e W2 ⟨be, rfl, hbe, hme, hb2⟩
    have HBE := Lib.hid (HB3.out.trans (hb2.mono HB3.out.size))
    have HME := Lib.hid hme
    clear hme hb2 hbe q0 q1 q2 q3
    go_wp2_with fail
    go_loopw [4, 9] (fun v kv wr => ∃ n, RSd c piece be w W2 v kv wr n) (fun _ kv _ => ((greatS c) + 1 - intOf kv).toNat)
    case atStart => exact ⟨0, by omega, rfl, World.ownsRow_nil _ _ _ _, HME.out, Below.refl _ _⟩
    case round =>
      obtain ⟨n, hr⟩ := hrel
      have hn := hr.hn
      have HR1 := Lib.hid hr
      obtain rfl := hr.k
      have hnk : numK n = (n : Int) - 1 := rfl
      have hpb := HG.out.pc
      obtain ⟨l, hl⟩ := pair_key (numK n) piece (by omega) (by omega)
      have hlk := (MapIs.look (p := ((numK n, piece) : Pt)) hr.ed pair_keyed kv2_inj mapP_und zero_int hl).1
      have hg0 := edgO_get c (numK n, piece)
      rw [show ((edgO c (numK n, piece)).elim (vvI 0) vvI) = .int .i64 ((edgO c (numK n, piece)).getD 0) by cases edgO c (numK n, piece) <;> rfl, hg0] at hlk
      unfold kv2 at hlk
      dsimp only at hlk
      have hown := hr.own
      have hlen := sideTo_len c piece n
      have HADD := Lib.hid (fun h => sideTo_add (c := c) (piece := piece) (n := n) h)
      have HSK := Lib.hid (fun h => sideTo_skip (c := c) (piece := piece) (n := n) h)
      have hnn := edgesR_nn c piece (numK n)
      have helt := edges_lt HG.out.ok piece (numK n)
      clear hr hl hg0
      by_cases hlt : n < (greatS c).toNat + 2
      · by_cases hcd : numK n ≠ piece ∧ 0 < edgesR c piece (numK n)
        · have HS := Lib.hid (HADD.out hcd)
          obtain ⟨h1, h2⟩ := hcd
          rw [if_pos h1] at hlk
          clear HADD HSK h1
          obtain ⟨ev, hev⟩ : ∃ ev, ev = edgesR c piece (numK n) := ⟨_, rfl⟩
          rw [← hev] at HS hlk hnn helt h2
          obtain ⟨kz, hkz⟩ : ∃ kz, kz = numK n := ⟨_, rfl⟩
          rw [← hkz] at HS hlk ⊢
          have HKZ := Lib.hid hkz
          have hkb : -1 ≤ kz ∧ kz < greatS c + 1 := by omega
          have HK1 := Lib.hid (show kz + 1 = numK (n + 1) from by rw [hkz]; unfold numK; omega)
          have HMU := Lib.hid (show (greatS c + 1 - (kz + 1)).toNat < (greatS c + 1 - kz).toNat from by omega)
          have hw1 : IntKind.i64.wrap (kz + 1) = kz + 1 := IntWalk.i64_in _ (by omega)
          clear hev hkz hnk
          go_wp2_with (at_builtin; refine wpList_append_own _ rfl (.tmp 35) (.tmp 39) 30 rfl W2.heap.size 54 i0 (.agg #[.int .i64 0, .int .i64 0]) 2 16 Try.underlying30 hi hz0 hz1 hz2 rfl (by decide) _ _ _ rfl (hown.alloc _) ⟨wr.heap.size, 0, none⟩ 1 1 [.int .i64 kz, .int .i64 ev] rfl rfl (cell_two_new _ _ _ _) (by simp [Value.oneCell']) (by unfold maxLen; omega) (by omega) (by have := HR1.out.b.size; simp; omega) ?_; intro v' w' hown' hgrow _)
          have hlo := hown.lt
          have hbe := HME.out.lt
          have hz1' := HR1.out.b.size
          refine ⟨⟨n + 1, by omega, by rw [HK1.out], ?_, (HR1.out.ed.grown (World.grownBy_alloc _ _ none) (by simp)).grown hgrow (fun e => by have := hlo be e.symm; omega), (HR1.out.b.alloc HR1.out.b.size _).grown hgrow (by simp; omega) (fun k hk => by have := hlo k hk; omega)⟩, HMU.out⟩
          rw [HS.out, List.length_append, List.flatMap_append]
          exact hown'
        · have HS := Lib.hid (HSK.out hcd)
          have hnp : ¬ 0 < (if numK n ≠ piece then edgesR c piece (numK n) else 0) := by
            split
            · rename_i h; exact fun h' => hcd ⟨h, h'⟩
            · omega
          have hnp2 : 0 ≤ (if numK n ≠ piece then edgesR c piece (numK n) else 0) := by
            split <;> omega
          obtain ⟨ev, hev⟩ : ∃ ev, ev = (if numK n ≠ piece then edgesR c piece (numK n) else 0) := ⟨_, rfl⟩
          rw [← hev] at hlk hnp hnp2
          obtain ⟨kz, hkz⟩ : ∃ kz, kz = numK n := ⟨_, rfl⟩
          rw [← hkz] at hlk ⊢
          have HKZ := Lib.hid hkz
          have hkb : -1 ≤ kz ∧ kz < greatS c + 1 := by omega
          have HK1 := Lib.hid (show kz + 1 = numK (n + 1) from by rw [hkz]; unfold numK; omega)
          have HMU := Lib.hid (show (greatS c + 1 - (kz + 1)).toNat < (greatS c + 1 - kz).toNat from by omega)
          have hw1 : IntKind.i64.wrap (kz + 1) = kz + 1 := IntWalk.i64_in _ (by omega)
          clear hev hkz hnk HADD HSK hcd hnn helt hown
          go_wp2_with fail
          go_roundw
          case rel => exact ⟨n + 1, by omega, by rw [HK1.out], by rw [HS.out]; exact HR1.out.own, HR1.out.ed, HR1.out.b⟩
          case measure => exact HMU.out
      · obtain rfl : n = (greatS c).toNat + 2 := by omega
        obtain ⟨kz, hkz⟩ : ∃ kz, kz = numK ((greatS c).toNat + 2) := ⟨_, rfl⟩
        rw [← hkz] at hlk ⊢
        have hkb : ¬ kz < greatS c + 1 := by omega
        clear hkz hnk HADD HSK hnn helt hown hlk
        go_wp2_with fail
        go_ret2
        obtain ⟨A, cap, rfl, hA⟩ := own_at sideC_len (by omega) HR1.out.own
        exact ⟨A, cap, by rw [HL.out, H0.out]; rfl, by rw [HL.out]; exact hA, HBE.out.trans (HR1.out.b.mono HBE.out.size)⟩
end Go.Proofs.Ytjlicbdnppodgaa
