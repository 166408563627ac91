import Derived.Test.YtjlicbdnppodgaaR6
import Derived.Test.YtjlicbdnppodgaaSd
import Derived.Maps.AppendAt
namespace Go.Proofs.Ytjlicbdnppodgaa
open Go.RowKit
/-! The reference: check, Sides. -/
set_option maxHeartbeats 1000000 in
theorem checkR_any (c : Cut) (piece : Int) (w : World) (hr : CutAt w w.heap.size c) : Calls Try.prog 52 #[.agg #[.int .i64 c.wide, .int .i64 c.high, .slice c.A c.piece.length c.c], .int .i64 piece] w (Ret (.int .i64 (openE c piece)) w) := by
  have HX := Lib.hid (Bx.new w #[.int .i64 c.wide, .int .i64 c.high, .slice c.A c.piece.length c.c] 24)
  have HB := Lib.hid (nxA w (.cells #[.int .i64 c.wide, .int .i64 c.high, .slice c.A c.piece.length c.c] 24))
  have HR := Lib.hid (hr.next HB.out)
  have HO := Lib.hid (show openE c piece = if (checkS c).2 ≠ 0 then (checkS c).2 else if inS piece 0 (greatS c) = true then 0 else 2 from rfl)
  clear hr
  go_enter Try.func52, Try.ntmps52
  go_upto_region 1 with fail
  generalize (w.alloc (.cells #[.int .i64 c.wide, .int .i64 c.high, .slice c.A c.piece.length c.c] 24)) = V at *
  have c0 := HX.out.c 0 _ rfl
  have c1 := HX.out.c 1 _ rfl
  have c2 := HX.out.c 2 _ rfl
  go_wp2_with fail
  refine (Check_any c V HR.out).mono ?_
  rintro e W ⟨rfl, hb⟩
  have HB2 := Lib.hid (HB.out.trans (hb.mono HB.out.size))
  clear c0 c1 c2 hb
  unfold checkV
  by_cases h1 : (checkS c).2 = 0
  · obtain ⟨a1, a2, a3, a4⟩ := check_ok h1
    rw [a2]
    have h2 := great_bd ((okc_iff c).1 a1)
    have hw1 : IntKind.i64.wrap (greatS c + 1 - 1) = greatS c := by rw [Int.add_sub_cancel]; exact IntWalk.i64_in _ (by omega)
    have hw2 : IntKind.i64.wrap (greatS c) = greatS c := IntWalk.i64_in _ (by omega)
    have A2 := Lib.hid a2
    clear a1 a2 a3 a4 h1
    cases h3 : inS piece 0 (greatS c)
    · have HE := Lib.hid (show openE c piece = 2 from by rw [HO.out, A2.out, h3]; rfl)
      go_wp2_with (go_at_call 61; (with_reducible refine (in_any _ _ _ _).mono ?_); rintro e w' ⟨rfl, rfl⟩)
      go_ret
      exact ⟨by rw [HE.out]; rfl, HB2.out⟩
    · have HE := Lib.hid (show openE c piece = 0 from by rw [HO.out, A2.out, h3]; rfl)
      go_wp2_with (go_at_call 61; (with_reducible refine (in_any _ _ _ _).mono ?_); rintro e w' ⟨rfl, rfl⟩)
      go_ret
      exact ⟨by rw [HE.out]; rfl, HB2.out⟩
  · have HE := Lib.hid (show openE c piece = (checkS c).2 from by rw [HO.out, if_pos h1])
    have e1 : ((checkS c).2 == 0) = false := by simp [h1]
    clear h1
    generalize checkS c = x at *
    go_wp2_with fail
    go_ret
    exact ⟨by rw [HE.out]; rfl, HB2.out⟩
/-- Between two rounds of Sides. -/
structure RSr (c : Cut) (piece : Int) (w W0 : World) (v kv : Value) (W : World) (n : Nat) : Prop where
  hn : n ≤ (greatS c).toNat + 2
  k : kv = .int .i64 (numK n)
  own : W.ownsRow W0.heap.size 54 2 v (sideTo c piece n).length ((sideTo c piece n).flatMap sideC)
  b : Below W0.heap.size W0 W
set_option maxRecDepth 100000 in
set_option maxHeartbeats 2000000 in
theorem SidesR_any (c : Cut) (piece : Int) (w : World) (hr : CutAt w w.heap.size c) : Calls Try.prog 17 #[.agg #[.int .i64 c.wide, .int .i64 c.high, .slice c.A c.piece.length c.c], .int .i64 piece] w (RetSides c piece w) := by
  obtain ⟨i0, hi, hz0, hz1, hz2⟩ := info_parts side_info
  have HX := Lib.hid (Bx.new w #[.int .i64 c.wide, .int .i64 c.high, .slice c.A c.piece.length c.c] 24)
  have HB := Lib.hid (nxA w (.cells #[.int .i64 c.wide, .int .i64 c.high, .slice c.A c.piece.length c.c] 24))
  have HR := Lib.hid (hr.next HB.out)
  clear hr
  go_enter Try.func17, Try.ntmps17
  go_upto_region 1 with fail
  generalize (w.alloc (.cells #[.int .i64 c.wide, .int .i64 c.high, .slice c.A c.piece.length c.c] 24)) = V at *
  have c0 := HX.out.c 0 _ rfl
  have c1 := HX.out.c 1 _ rfl
  have c2 := HX.out.c 2 _ rfl
  go_wp2_with fail
  refine (checkR_any c piece V HR.out).mono ?_
  rintro e W ⟨rfl, hb⟩
  clear c0 c1 c2
  have HX2 := Lib.hid (HX.out.next hb)
  have HR2 := Lib.hid (HR.out.next hb)
  have HB2 := Lib.hid (HB.out.trans (hb.mono HB.out.size))
  clear HX HR HB hb
  by_cases h0 : openE c piece = 0
  · have HG := Lib.hid (openE_good h0)
    have HL := Lib.hid (show sidesL c piece = sidesS c piece from by unfold sidesL; rw [if_pos h0])
    have H0 := Lib.hid h0
    rw [h0]
    have hgr := great_bd HG.out.ok
    clear h0
    go_wp2_with fail
    go_loopw [7, 8] (fun v kv wr => ∃ n, RSr c piece w W v kv wr n) (fun _ kv _ => ((greatS c) + 1 - intOf kv).toNat)
    case atStart => exact ⟨0, by omega, rfl, World.ownsRow_nil _ _ _ _, Below.refl _ _⟩
    case round =>
      obtain ⟨n, hr⟩ := hrel
      have hn := hr.hn
      obtain rfl := hr.k
      have HR1 := Lib.hid hr
      have hnk : numK n = (n : Int) - 1 := rfl
      have hpb := HG.out.pc
      have c0 := (HX2.out.next hr.b).c 0 _ rfl
      have c1 := (HX2.out.next hr.b).c 1 _ rfl
      have c2 := (HX2.out.next hr.b).c 2 _ rfl
      have hlen := sideTo_len c piece n
      have HADD := Lib.hid (fun h => sideTo_add (c := c) (piece := piece) (n := n) h)
      have HSK := Lib.hid (fun h => sideTo_skip (c := c) (piece := piece) (n := n) h)
      have hnn := edgesR_nn c piece (numK n)
      have helt := edges_lt HG.out.ok piece (numK n)
      clear hr
      obtain ⟨kz, hkz⟩ : ∃ kz, kz = numK n := ⟨_, rfl⟩
      rw [← hkz] at hnn helt ⊢
      have HKZ := Lib.hid hkz
      have hkb : -1 ≤ kz ∧ kz ≤ greatS c + 1 := by omega
      have HK1 := Lib.hid (show kz + 1 = numK (n + 1) from by rw [hkz]; unfold numK; omega)
      have HMU := Lib.hid (show n < (greatS c).toNat + 2 → (greatS c + 1 - (kz + 1)).toNat < (greatS c + 1 - kz).toNat from by omega)
      have hw1 : IntKind.i64.wrap (kz + 1) = kz + 1 := IntWalk.i64_in _ (by omega)
      go_wp2_with fail
      refine (Greatest_any c wr (HR2.out.next HR1.out.b)).mono ?_
      rintro e W3 ⟨rfl, hb3⟩
      have HB3 := Lib.hid (HR1.out.b.trans (hb3.mono HR1.out.b.size))
      have hown3 := own_below HR1.out.own hb3
      clear hb3 c0 c1 c2
      by_cases hlt : n < (greatS c).toNat + 2
      · have hle : kz ≤ greatS c := by omega
        have c0 := (HX2.out.next HB3.out).c 0 _ rfl
        have c1 := (HX2.out.next HB3.out).c 1 _ rfl
        have c2 := (HX2.out.next HB3.out).c 2 _ rfl
        clear hnk hkz
        go_wp2_with fail
        refine (Edges_any c piece kz W3 HG.out.ok (HR2.out.next HB3.out)).mono ?_
        rintro e W4 ⟨rfl, hb4⟩
        have HB4 := Lib.hid (HB3.out.trans (hb4.mono HB3.out.size))
        have hown := own_below hown3 hb4
        clear hb4 c0 c1 c2 hown3
        by_cases hcd : numK n ≠ piece ∧ 0 < edgesR c piece (numK n)
        · have HS := Lib.hid (HADD.out hcd)
          rw [← HKZ.out] at HS hcd
          obtain ⟨h1, h2⟩ := hcd
          have e1 : (kz == piece) = false := by simp [h1]
          have e1' : (kz != piece) = true := by simp [h1]
          clear HADD HSK
          generalize edgesR c piece kz = ev at *
          go_wp2_with (at_builtin; refine wpList_append_own _ rfl (.tmp 33) (.tmp 37) 30 rfl W.heap.size 54 i0 (.agg #[.int .i64 0, .int .i64 0]) 2 16 Try.underlying30 hi hz0 hz1 hz2 rfl (by decide) _ _ _ rfl (hown.alloc _) ⟨W4.heap.size, 0, none⟩ 1 1 [.int .i64 kz, .int .i64 ev] rfl rfl (cell_two_new _ _ _ _) (by simp [Value.oneCell']) (by unfold maxLen; omega) (by omega) (by have := HB4.out.size; simp; omega) ?_; intro v' w' hown' hgrow _)
          have hlo := hown.lt
          have hz1' := HB4.out.size
          refine ⟨⟨n + 1, by omega, by rw [HK1.out], ?_, (HB4.out.alloc HB4.out.size _).grown hgrow (by simp; omega) (fun k hk => by have := hlo k hk; omega)⟩, HMU.out hlt⟩
          rw [HS.out, List.length_append, List.flatMap_append]
          exact hown'
        · have HS := Lib.hid (HSK.out hcd)
          rw [← HKZ.out] at hcd
          have HO := Lib.hid hown
          clear HADD HSK hown
          by_cases h1 : kz = piece
          · have e1 : (kz == piece) = true := by simp [h1]
            have e1' : (kz != piece) = false := by simp [h1]
            have HU := Lib.hid (show RSr c piece w W _ (.int .i64 (kz + 1)) W4 (n + 1) from ⟨by omega, by rw [HK1.out], by rw [HS.out]; exact HO.out, HB4.out⟩)
            clear h1 hcd
            generalize edgesR c piece kz = ev at *
            go_wp2_with fail
            exact ⟨⟨n + 1, HU.out⟩, HMU.out hlt⟩
          · have e1 : (kz == piece) = false := by simp [h1]
            have e1' : (kz != piece) = true := by simp [h1]
            have h2 : ¬ 0 < edgesR c piece kz := fun h => hcd ⟨h1, h⟩
            have HU := Lib.hid (show RSr c piece w W _ (.int .i64 (kz + 1)) W4 (n + 1) from ⟨by omega, by rw [HK1.out], by rw [HS.out]; exact HO.out, HB4.out⟩)
            clear h1 hcd
            generalize edgesR c piece kz = ev at *
            go_wp2_with fail
            exact ⟨⟨n + 1, HU.out⟩, HMU.out hlt⟩
      · have hle : ¬ kz ≤ greatS c := by omega
        obtain rfl : n = (greatS c).toNat + 2 := by omega
        have HO := Lib.hid hown3
        clear hnk hkz hown3 HADD HSK
        go_wp2_with fail
        go_ret2
        obtain ⟨A, cap, rfl, hA⟩ := own_at sideC_len (by omega) HO.out
        exact ⟨A, cap, by rw [HL.out, H0.out]; rfl, by rw [HL.out]; exact hA, HB2.out.trans (HB3.out.mono HB2.out.size)⟩
  · have HL := Lib.hid (show sidesL c piece = [] from by unfold sidesL; rw [if_neg h0])
    have e0 : (openE c piece == 0) = false := by simp [h0]
    clear h0
    generalize hx : openE c piece = x at *
    have HXX := Lib.hid hx
    clear hx
    go_wp2_with fail
    go_ret2
    exact ⟨none, 0, by rw [HL.out, HXX.out]; rfl, by rw [HL.out]; exact At.nil, HB2.out⟩
end Go.Proofs.Ytjlicbdnppodgaa
