import Derived.Test.YtjlicbdnppodgaaHalfM
import Derived.Deep.AppendLies
import Derived.BigQuiet
import Derived.Test.YtjlicbdnppodgaaC7F
namespace Go.Proofs.Ytjlicbdnppodgaa
open Go.RowKit
/-! The law CutSawn, walked: upright lines. -/
set_option maxRecDepth 100000 in
set_option maxHeartbeats 8000000 in
theorem CutSawn_walkT (c : Cut) (ak : Int) (w : World) (hc : CutAt w w.heap.size c) (hak : 0 ≤ ak ∧ ak ≤ 255) : Calls Try.prog 9 #[.agg #[.int .i64 c.wide, .int .i64 c.high, .slice c.A c.piece.length c.c], .int .u8 ak, .bool true] w (Ret (.bool true) w) := by
  have hb := nxA w (.cells #[.int .i64 c.wide, .int .i64 c.high, .slice c.A c.piece.length c.c] 24)
  have HX := Lib.hid (Bx.new w #[.int .i64 c.wide, .int .i64 c.high, .slice c.A c.piece.length c.c] 24)
  have HC := Lib.hid (hc.next hb)
  have HB := Lib.hid hb
  clear hc hb
  go_enter Try.func9, Try.ntmps9
  go_upto_region 1 with fail
  generalize (w.alloc (.cells #[.int .i64 c.wide, .int .i64 c.high, .slice c.A c.piece.length c.c] 24)) = V0 at *
  have c0 := HX.out.c 0 _ rfl
  have c1 := HX.out.c 1 _ rfl
  have c2 := HX.out.c 2 _ rfl
  go_wp2_with fail
  refine (Cut_any c V0 HC.out).mono ?_
  rintro e V1 ⟨rfl, hb⟩
  replace HX := Lib.hid (HX.out.next hb)
  replace HC := Lib.hid (HC.out.next hb)
  replace HB := Lib.hid (HB.out.trans (hb.mono HB.out.size))
  clear hb c0 c1 c2
  cases hcs : cutS c
  · clear hcs
    go_wp2_with fail
    refine (awake_any V1).mono ?_
    rintro e V2 ⟨rfl, hb⟩
    go_wp2_with fail
    go_ret
    exact ⟨rfl, HB.out.trans (hb.mono HB.out.size)⟩
  · have OK := Lib.hid ((okc_iff c).1 hcs)
    clear hcs
    have c0 := HX.out.c 0 _ rfl
    have c1 := HX.out.c 1 _ rfl
    have c2 := HX.out.c 2 _ rfl
    go_wp2_with fail
    refine (SawP_any c V1 HC.out).mono ?_
    rintro e V2 ⟨A, k1, rfl, hs, hb⟩
    have HL := Lib.hid hs
    clear hs
    replace HX := Lib.hid (HX.out.next hb)
    replace HC := Lib.hid (HC.out.next hb)
    replace HB := Lib.hid (HB.out.trans (hb.mono HB.out.size))
    clear hb c0 c1 c2
    have c0 := HX.out.c 0 _ rfl
    have c1 := HX.out.c 1 _ rfl
    have c2 := HX.out.c 2 _ rfl
    go_wp2_with fail
    refine (CheckP_any c V2 HC.out).mono ?_
    rintro e V3 ⟨rfl, hb⟩
    replace HX := Lib.hid (HX.out.next hb)
    replace HC := Lib.hid (HC.out.next hb)
    replace HB := Lib.hid (HB.out.trans (hb.mono HB.out.size))
    replace HL := Lib.hid (HL.out.next hb)
    clear hb c0 c1 c2
    unfold checkV
    rcases sawE_cases c with ⟨h0, h1, h2⟩ | ⟨h0, hor⟩
    · have GC := Lib.hid (GoodC.of h1)
      have hg := great_bd OK.out
      have hwd := OK.out.w
      have hhd := OK.out.h
      have hsn := sawn_ok OK.out 24 (.all OK.out) h2
      have hcn := saw_count OK.out 24 (.all OK.out) h2
      have HSB := Lib.hid ((saw_able OK.out 24 (.all OK.out)).1 h2)
      rw [hasN_all OK.out fun k hk => (has_cell OK.out).2 (GC.out.cells k (by omega) hk)] at hcn
      have hle : (sawF c 24 0 0 c.wide c.high).1 = sawL c := by unfold sawL; rw [if_pos h0]
      rw [hle] at hsn hcn
      rw [GC.out.check, h0]
      dsimp only
      obtain ⟨l, hl⟩ : ∃ l, l = sawL c := ⟨_, rfl⟩
      rw [← hl] at hsn hcn HL ⊢
      have HSN := Lib.hid hsn
      have hw1 : IntKind.i64.wrap (greatS c + 1 - 1) = greatS c := by rw [Int.add_sub_cancel]; exact IntWalk.i64_in _ (by omega)
      have hw1' : IntKind.i64.wrap (greatS c) = greatS c := IntWalk.i64_in _ (by omega)
      have e1 : ((l.length : Int) == greatS c) = true := by simp; omega
      have e1' : ((l.length : Int) != greatS c) = false := by simp; omega
      have HM := Lib.hid (show SwM c A l w V3 from ⟨HX.out, HC.out, HL.out, HB.out⟩)
      have hll : l.length ≤ 40 := by omega
      clear hsn hcn hle hl h0 h1 h2 HX HC HL HB
      go_wp2_with fail
      obtain ⟨tw, htw⟩ : ∃ n : Nat, (n : Int) = c.wide := ⟨c.wide.toNat, by omega⟩
      obtain ⟨th, hth⟩ : ∃ n : Nat, (n : Int) = c.high := ⟨c.high.toNat, by omega⟩
      have HTI := Lib.hid (show (tw : Int) = c.wide ∧ (th : Int) = c.high from ⟨htw, hth⟩)
      clear htw hth hw1 hw1' e1 e1'
      refine wp_loopM snY (fun f V => ∃ y : Nat, y ≤ th ∧ f 11 = .int .i64 (y : Int) ∧ SwM c A l w V) (fun f _ => th - (intOf (f 11)).toNat) (by kernel_rfl) ⟨0, by omega, slotF_at rfl, HM.out⟩ ?_
      clear HM
      intro f Va hrel
      obtain ⟨y, hy, e11, hm⟩ := hrel
      simp only [snY, mixF, e11]
      have HE11 := Lib.hid e11
      have HM := Lib.hid hm
      clear e11 hm
      have hti := HTI.out
      have c0 := HM.out.x.c 0 _ rfl
      have c1 := HM.out.x.c 1 _ rfl
      have c2 := HM.out.x.c 2 _ rfl
      by_cases hyt : y < th
      · have hyI : (y : Int) < c.high := by omega
        have hw2 : IntKind.i64.wrap ((y : Int) + 1) = (y : Int) + 1 := IntWalk.i64_in _ (by omega)
        have HMU := Lib.hid (show th - (y + 1) < th - y from by omega)
        clear hti
        go_wp2_with fail
        refine wp_loopM snX (fun f V => ∃ x : Nat, x ≤ tw ∧ f 12 = .int .i64 (x : Int) ∧ SwM c A l w V) (fun f _ => tw - (intOf (f 12)).toNat) (by kernel_rfl) ⟨0, by omega, slotF_at rfl, HM.out⟩ ?_
        clear HM c0 c1 c2
        intro f2 Vb hrel
        obtain ⟨x, hx, e12, hm⟩ := hrel
        simp only [snX, mixF, e12]
        have HE12 := Lib.hid e12
        have HM := Lib.hid hm
        clear e12 hm
        have hti := HTI.out
        have c0 := HM.out.x.c 0 _ rfl
        have c1 := HM.out.x.c 1 _ rfl
        have c2 := HM.out.x.c 2 _ rfl
        by_cases hxt : x < tw
        · have hxI : (x : Int) < c.wide := by omega
          have hw3 : IntKind.i64.wrap ((x : Int) + 1) = (x : Int) + 1 := IntWalk.i64_in _ (by omega)
          have HMU2 := Lib.hid (show tw - (x + 1) < tw - x from by omega)
          have HXY := Lib.hid (show (0 ≤ (x : Int) ∧ (x : Int) < c.wide) ∧ 0 ≤ (y : Int) ∧ (y : Int) < c.high from by omega)
          clear hti
          go_wp2_with fail
          refine (At_any c (x : Int) (y : Int) _ OK.out HM.out.cc).mono ?_
          rintro e Vc ⟨rfl, hb⟩
          replace HM := Lib.hid (HM.out.next hb)
          clear hb c0 c1 c2
          obtain ⟨own, hown⟩ : ∃ o, o = at2 c (x : Int) (y : Int) := ⟨_, rfl⟩
          rw [← hown]
          have HOWN := Lib.hid hown
          clear hown
          go_wp2_with fail
          refine wp_loopM snL (fun f V => ∃ t : Nat, t ≤ l.length ∧ f 96 = .int .i64 (t : Int) ∧ f 14 = .bool (lowB (l.take t) (x : Int) (y : Int)) ∧ f 15 = .bool (rigB (l.take t) (x : Int) (y : Int)) ∧ SwM c A l w V) (fun f _ => l.length - (intOf (f 96)).toNat) (by kernel_rfl) ⟨0, by omega, slotF_at rfl, slotF_at rfl, slotF_at rfl, HM.out⟩ ?_
          clear HM
          intro f3 Vd hrel
          obtain ⟨t, ht, e96, e14, e15, hm⟩ := hrel
          simp only [snL, mixF, e96, e14, e15]
          have HE96 := Lib.hid e96
          have HM := Lib.hid hm
          clear e96 e14 e15 hm
          by_cases htl : t < l.length
          · have htI : (t : Int) < (l.length : Int) := by omega
            obtain ⟨q, hq⟩ : ∃ q, q = l[t] := ⟨_, rfl⟩
            have hxq : l[t]? = some q := by rw [hq]; exact List.getElem?_eq_getElem htl
            obtain ⟨pb, off, eA, hpb, hcell⟩ := HM.out.a t q hxq
            have HT1 := Lib.hid (lowB_take htl (x : Int) (y : Int))
            have HT2 := Lib.hid (rigB_take htl (x : Int) (y : Int))
            rw [← hq] at HT1 HT2
            obtain ⟨qu, qa, qf, qt⟩ := q
            have z0 : Vd.cell? ⟨pb, off + t * 4, none⟩ = some (.bool qu) := hcell 0 _ rfl
            have z1 : Vd.cell? ⟨pb, off + t * 4 + 1, none⟩ = some (.int .i64 qa) := hcell 1 _ rfl
            have z2 : Vd.cell? ⟨pb, off + t * 4 + 2, none⟩ = some (.int .i64 qf) := hcell 2 _ rfl
            have z3 : Vd.cell? ⟨pb, off + t * 4 + 3, none⟩ = some (.int .i64 qt) := hcell 3 _ rfl
            have hw4 : IntKind.i64.wrap ((t : Int) + 1) = (t : Int) + 1 := IntWalk.i64_in _ (by omega)
            have HMU3 := Lib.hid (show l.length - (t + 1) < l.length - t from by omega)
            have n16 := nxA Vd (.cells #[.bool qu, .int .i64 qa, .int .i64 qf, .int .i64 qt] 61)
            have HMI := Lib.hid (HM.out.next n16)
            clear hxq hq hcell n16 hpb HM
            subst eA
            unfold lowQ at HT1
            unfold rigQ at HT2
            dsimp only at HT1 HT2
            generalize lowB (l.take t) (x : Int) (y : Int) = lb at *
            generalize rigB (l.take t) (x : Int) (y : Int) = rb at *
            cases qu
            · cases lb
              · cases rb
                · skip
                  by_cases g1 : qa = (y : Int) + 1
                  · have g1' : (qa == (y : Int) + 1) = true := by simp [g1]
                    clear g1
                    by_cases g2 : qf ≤ (x : Int)
                    · by_cases g3 : (x : Int) < qt
                      · skip
                        go_wp2_with fail
                        refine endM (by kernel_rfl) (by kernel_rfl) ⟨t + 1, by omega, slotF_at rfl, by rw [slotF_at rfl, HT1.out]; (simp [*]) <;> omega, by rw [slotF_at rfl, HT2.out]; (simp [*]) <;> omega, HMI.out⟩ ?_
                        show l.length - (intOf (slotF _ 96)).toNat < l.length - (intOf (f3 96)).toNat
                        rw [slotF_at rfl, HE96.out]
                        have := HMU3.out
                        simp [intOf]
                        omega
                      · skip
                        go_wp2_with fail
                        refine endM (by kernel_rfl) (by kernel_rfl) ⟨t + 1, by omega, slotF_at rfl, by rw [slotF_at rfl, HT1.out]; (simp [*]) <;> omega, by rw [slotF_at rfl, HT2.out]; (simp [*]) <;> omega, HMI.out⟩ ?_
                        show l.length - (intOf (slotF _ 96)).toNat < l.length - (intOf (f3 96)).toNat
                        rw [slotF_at rfl, HE96.out]
                        have := HMU3.out
                        simp [intOf]
                        omega
                    · skip
                      go_wp2_with fail
                      refine endM (by kernel_rfl) (by kernel_rfl) ⟨t + 1, by omega, slotF_at rfl, by rw [slotF_at rfl, HT1.out]; (simp [*]) <;> omega, by rw [slotF_at rfl, HT2.out]; (simp [*]) <;> omega, HMI.out⟩ ?_
                      show l.length - (intOf (slotF _ 96)).toNat < l.length - (intOf (f3 96)).toNat
                      rw [slotF_at rfl, HE96.out]
                      have := HMU3.out
                      simp [intOf]
                      omega
                  · have g1' : (qa == (y : Int) + 1) = false := by simp [g1]
                    clear g1
                    go_wp2_with fail
                    refine endM (by kernel_rfl) (by kernel_rfl) ⟨t + 1, by omega, slotF_at rfl, by rw [slotF_at rfl, HT1.out]; (simp [*]) <;> omega, by rw [slotF_at rfl, HT2.out]; (simp [*]) <;> omega, HMI.out⟩ ?_
                    show l.length - (intOf (slotF _ 96)).toNat < l.length - (intOf (f3 96)).toNat
                    rw [slotF_at rfl, HE96.out]
                    have := HMU3.out
                    simp [intOf]
                    omega
                · skip
                  by_cases g1 : qa = (y : Int) + 1
                  · have g1' : (qa == (y : Int) + 1) = true := by simp [g1]
                    clear g1
                    by_cases g2 : qf ≤ (x : Int)
                    · by_cases g3 : (x : Int) < qt
                      · skip
                        go_wp2_with fail
                        refine endM (by kernel_rfl) (by kernel_rfl) ⟨t + 1, by omega, slotF_at rfl, by rw [slotF_at rfl, HT1.out]; (simp [*]) <;> omega, by rw [slotF_at rfl, HT2.out]; (simp [*]) <;> omega, HMI.out⟩ ?_
                        show l.length - (intOf (slotF _ 96)).toNat < l.length - (intOf (f3 96)).toNat
                        rw [slotF_at rfl, HE96.out]
                        have := HMU3.out
                        simp [intOf]
                        omega
                      · skip
                        go_wp2_with fail
                        refine endM (by kernel_rfl) (by kernel_rfl) ⟨t + 1, by omega, slotF_at rfl, by rw [slotF_at rfl, HT1.out]; (simp [*]) <;> omega, by rw [slotF_at rfl, HT2.out]; (simp [*]) <;> omega, HMI.out⟩ ?_
                        show l.length - (intOf (slotF _ 96)).toNat < l.length - (intOf (f3 96)).toNat
                        rw [slotF_at rfl, HE96.out]
                        have := HMU3.out
                        simp [intOf]
                        omega
                    · skip
                      go_wp2_with fail
                      refine endM (by kernel_rfl) (by kernel_rfl) ⟨t + 1, by omega, slotF_at rfl, by rw [slotF_at rfl, HT1.out]; (simp [*]) <;> omega, by rw [slotF_at rfl, HT2.out]; (simp [*]) <;> omega, HMI.out⟩ ?_
                      show l.length - (intOf (slotF _ 96)).toNat < l.length - (intOf (f3 96)).toNat
                      rw [slotF_at rfl, HE96.out]
                      have := HMU3.out
                      simp [intOf]
                      omega
                  · have g1' : (qa == (y : Int) + 1) = false := by simp [g1]
                    clear g1
                    go_wp2_with fail
                    refine endM (by kernel_rfl) (by kernel_rfl) ⟨t + 1, by omega, slotF_at rfl, by rw [slotF_at rfl, HT1.out]; (simp [*]) <;> omega, by rw [slotF_at rfl, HT2.out]; (simp [*]) <;> omega, HMI.out⟩ ?_
                    show l.length - (intOf (slotF _ 96)).toNat < l.length - (intOf (f3 96)).toNat
                    rw [slotF_at rfl, HE96.out]
                    have := HMU3.out
                    simp [intOf]
                    omega
              · cases rb
                · skip
                  go_wp2_with fail
                  refine endM (by kernel_rfl) (by kernel_rfl) ⟨t + 1, by omega, slotF_at rfl, by rw [slotF_at rfl, HT1.out]; (simp [*]) <;> omega, by rw [slotF_at rfl, HT2.out]; (simp [*]) <;> omega, HMI.out⟩ ?_
                  show l.length - (intOf (slotF _ 96)).toNat < l.length - (intOf (f3 96)).toNat
                  rw [slotF_at rfl, HE96.out]
                  have := HMU3.out
                  simp [intOf]
                  omega
                · skip
                  go_wp2_with fail
                  refine endM (by kernel_rfl) (by kernel_rfl) ⟨t + 1, by omega, slotF_at rfl, by rw [slotF_at rfl, HT1.out]; (simp [*]) <;> omega, by rw [slotF_at rfl, HT2.out]; (simp [*]) <;> omega, HMI.out⟩ ?_
                  show l.length - (intOf (slotF _ 96)).toNat < l.length - (intOf (f3 96)).toNat
                  rw [slotF_at rfl, HE96.out]
                  have := HMU3.out
                  simp [intOf]
                  omega
            · cases lb
              · cases rb
                · skip
                  by_cases g1 : qa = (x : Int) + 1
                  · have g1' : (qa == (x : Int) + 1) = true := by simp [g1]
                    clear g1
                    by_cases g2 : qf ≤ (y : Int)
                    · by_cases g3 : (y : Int) < qt
                      · skip
                        go_wp2_with fail
                        refine endM (by kernel_rfl) (by kernel_rfl) ⟨t + 1, by omega, slotF_at rfl, by rw [slotF_at rfl, HT1.out]; (simp [*]) <;> omega, by rw [slotF_at rfl, HT2.out]; (simp [*]) <;> omega, HMI.out⟩ ?_
                        show l.length - (intOf (slotF _ 96)).toNat < l.length - (intOf (f3 96)).toNat
                        rw [slotF_at rfl, HE96.out]
                        have := HMU3.out
                        simp [intOf]
                        omega
                      · skip
                        go_wp2_with fail
                        refine endM (by kernel_rfl) (by kernel_rfl) ⟨t + 1, by omega, slotF_at rfl, by rw [slotF_at rfl, HT1.out]; (simp [*]) <;> omega, by rw [slotF_at rfl, HT2.out]; (simp [*]) <;> omega, HMI.out⟩ ?_
                        show l.length - (intOf (slotF _ 96)).toNat < l.length - (intOf (f3 96)).toNat
                        rw [slotF_at rfl, HE96.out]
                        have := HMU3.out
                        simp [intOf]
                        omega
                    · skip
                      go_wp2_with fail
                      refine endM (by kernel_rfl) (by kernel_rfl) ⟨t + 1, by omega, slotF_at rfl, by rw [slotF_at rfl, HT1.out]; (simp [*]) <;> omega, by rw [slotF_at rfl, HT2.out]; (simp [*]) <;> omega, HMI.out⟩ ?_
                      show l.length - (intOf (slotF _ 96)).toNat < l.length - (intOf (f3 96)).toNat
                      rw [slotF_at rfl, HE96.out]
                      have := HMU3.out
                      simp [intOf]
                      omega
                  · have g1' : (qa == (x : Int) + 1) = false := by simp [g1]
                    clear g1
                    go_wp2_with fail
                    refine endM (by kernel_rfl) (by kernel_rfl) ⟨t + 1, by omega, slotF_at rfl, by rw [slotF_at rfl, HT1.out]; (simp [*]) <;> omega, by rw [slotF_at rfl, HT2.out]; (simp [*]) <;> omega, HMI.out⟩ ?_
                    show l.length - (intOf (slotF _ 96)).toNat < l.length - (intOf (f3 96)).toNat
                    rw [slotF_at rfl, HE96.out]
                    have := HMU3.out
                    simp [intOf]
                    omega
                · skip
                  go_wp2_with fail
                  refine endM (by kernel_rfl) (by kernel_rfl) ⟨t + 1, by omega, slotF_at rfl, by rw [slotF_at rfl, HT1.out]; (simp [*]) <;> omega, by rw [slotF_at rfl, HT2.out]; (simp [*]) <;> omega, HMI.out⟩ ?_
                  show l.length - (intOf (slotF _ 96)).toNat < l.length - (intOf (f3 96)).toNat
                  rw [slotF_at rfl, HE96.out]
                  have := HMU3.out
                  simp [intOf]
                  omega
              · cases rb
                · skip
                  by_cases g1 : qa = (x : Int) + 1
                  · have g1' : (qa == (x : Int) + 1) = true := by simp [g1]
                    clear g1
                    by_cases g2 : qf ≤ (y : Int)
                    · by_cases g3 : (y : Int) < qt
                      · skip
                        go_wp2_with fail
                        refine endM (by kernel_rfl) (by kernel_rfl) ⟨t + 1, by omega, slotF_at rfl, by rw [slotF_at rfl, HT1.out]; (simp [*]) <;> omega, by rw [slotF_at rfl, HT2.out]; (simp [*]) <;> omega, HMI.out⟩ ?_
                        show l.length - (intOf (slotF _ 96)).toNat < l.length - (intOf (f3 96)).toNat
                        rw [slotF_at rfl, HE96.out]
                        have := HMU3.out
                        simp [intOf]
                        omega
                      · skip
                        go_wp2_with fail
                        refine endM (by kernel_rfl) (by kernel_rfl) ⟨t + 1, by omega, slotF_at rfl, by rw [slotF_at rfl, HT1.out]; (simp [*]) <;> omega, by rw [slotF_at rfl, HT2.out]; (simp [*]) <;> omega, HMI.out⟩ ?_
                        show l.length - (intOf (slotF _ 96)).toNat < l.length - (intOf (f3 96)).toNat
                        rw [slotF_at rfl, HE96.out]
                        have := HMU3.out
                        simp [intOf]
                        omega
                    · skip
                      go_wp2_with fail
                      refine endM (by kernel_rfl) (by kernel_rfl) ⟨t + 1, by omega, slotF_at rfl, by rw [slotF_at rfl, HT1.out]; (simp [*]) <;> omega, by rw [slotF_at rfl, HT2.out]; (simp [*]) <;> omega, HMI.out⟩ ?_
                      show l.length - (intOf (slotF _ 96)).toNat < l.length - (intOf (f3 96)).toNat
                      rw [slotF_at rfl, HE96.out]
                      have := HMU3.out
                      simp [intOf]
                      omega
                  · have g1' : (qa == (x : Int) + 1) = false := by simp [g1]
                    clear g1
                    go_wp2_with fail
                    refine endM (by kernel_rfl) (by kernel_rfl) ⟨t + 1, by omega, slotF_at rfl, by rw [slotF_at rfl, HT1.out]; (simp [*]) <;> omega, by rw [slotF_at rfl, HT2.out]; (simp [*]) <;> omega, HMI.out⟩ ?_
                    show l.length - (intOf (slotF _ 96)).toNat < l.length - (intOf (f3 96)).toNat
                    rw [slotF_at rfl, HE96.out]
                    have := HMU3.out
                    simp [intOf]
                    omega
                · skip
                  go_wp2_with fail
                  refine endM (by kernel_rfl) (by kernel_rfl) ⟨t + 1, by omega, slotF_at rfl, by rw [slotF_at rfl, HT1.out]; (simp [*]) <;> omega, by rw [slotF_at rfl, HT2.out]; (simp [*]) <;> omega, HMI.out⟩ ?_
                  show l.length - (intOf (slotF _ 96)).toNat < l.length - (intOf (f3 96)).toNat
                  rw [slotF_at rfl, HE96.out]
                  have := HMU3.out
                  simp [intOf]
                  omega
          · have htI : ¬ (t : Int) < (l.length : Int) := by omega
            have hte : l.take t = l := List.take_of_length_le (by omega)
            rw [hte]
            have HLO := Lib.hid (fun (h : (y : Int) + 1 < c.high) => (show lowB l (x : Int) (y : Int) = (at2 c (x : Int) ((y : Int) + 1) != own) from by
              have := HXY.out
              rw [HOWN.out, Bool.eq_iff_iff, lowB_iff, bne_iff_ne]
              exact HSN.out.low _ _ (by omega) (by omega) (by omega) h))
            have HRI := Lib.hid (fun (h : (x : Int) + 1 < c.wide) => (show rigB l (x : Int) (y : Int) = (at2 c ((x : Int) + 1) (y : Int) != own) from by
              have := HXY.out
              rw [HOWN.out, Bool.eq_iff_iff, rigB_iff, bne_iff_ne]
              exact HSN.out.right _ _ (by omega) h (by omega) (by omega)))
            clear hte htl ht HE96
            obtain ⟨n1, hn1⟩ : ∃ n, n = at2 c (x : Int) ((y : Int) + 1) := ⟨_, rfl⟩
            obtain ⟨n2, hn2⟩ : ∃ n, n = at2 c ((x : Int) + 1) (y : Int) := ⟨_, rfl⟩
            rw [← hn1] at HLO
            rw [← hn2] at HRI
            have HN1 := Lib.hid hn1
            have HN2 := Lib.hid hn2
            clear hn1 hn2
            generalize lowB l (x : Int) (y : Int) = lb at *
            generalize rigB l (x : Int) (y : Int) = rb at *
            have c0 := HM.out.x.c 0 _ rfl
            have c1 := HM.out.x.c 1 _ rfl
            have c2 := HM.out.x.c 2 _ rfl
            by_cases hy1 : (y : Int) + 1 < c.high
            · rw [HLO.out hy1]
              by_cases q1 : n1 = own
              · have p1 : (n1 == own) = true := by simp [q1]
                have p1' : (n1 != own) = false := by simp [q1]
                rw [p1']
                clear q1
                go_wp2_with fail
                refine (At_any c (x : Int) ((y : Int) + 1) _ OK.out HM.out.cc).mono ?_
                rintro e Vz ⟨rfl, hb⟩
                rw [← HN1.out]
                replace HM := Lib.hid (HM.out.next hb)
                clear hb c0 c1 c2
                have c0 := HM.out.x.c 0 _ rfl
                have c1 := HM.out.x.c 1 _ rfl
                have c2 := HM.out.x.c 2 _ rfl
                by_cases hx1 : (x : Int) + 1 < c.wide
                · rw [HRI.out hx1]
                  by_cases q2 : n2 = own
                  · have p2 : (n2 == own) = true := by simp [q2]
                    have p2' : (n2 != own) = false := by simp [q2]
                    rw [p2']
                    clear q2
                    go_wp2_with fail
                    refine (At_any c ((x : Int) + 1) (y : Int) _ OK.out HM.out.cc).mono ?_
                    rintro e Vy ⟨rfl, hb⟩
                    rw [← HN2.out]
                    replace HM := Lib.hid (HM.out.next hb)
                    clear hb c0 c1 c2
                    go_wp2_with fail
                    refine endM (by kernel_rfl) (by kernel_rfl) ⟨x + 1, by omega, slotF_at rfl, HM.out⟩ ?_
                    show tw - (intOf (slotF _ 12)).toNat < tw - (intOf (f2 12)).toNat
                    rw [slotF_at rfl, HE12.out]
                    have := HMU2.out
                    simp [intOf]
                    omega
                  · have p2 : (n2 == own) = false := by simp [q2]
                    have p2' : (n2 != own) = true := by simp [q2]
                    rw [p2']
                    clear q2
                    go_wp2_with fail
                    refine (At_any c ((x : Int) + 1) (y : Int) _ OK.out HM.out.cc).mono ?_
                    rintro e Vy ⟨rfl, hb⟩
                    rw [← HN2.out]
                    replace HM := Lib.hid (HM.out.next hb)
                    clear hb c0 c1 c2
                    go_wp2_with fail
                    refine endM (by kernel_rfl) (by kernel_rfl) ⟨x + 1, by omega, slotF_at rfl, HM.out⟩ ?_
                    show tw - (intOf (slotF _ 12)).toNat < tw - (intOf (f2 12)).toNat
                    rw [slotF_at rfl, HE12.out]
                    have := HMU2.out
                    simp [intOf]
                    omega
                · skip
                  go_wp2_with fail
                  refine endM (by kernel_rfl) (by kernel_rfl) ⟨x + 1, by omega, slotF_at rfl, HM.out⟩ ?_
                  show tw - (intOf (slotF _ 12)).toNat < tw - (intOf (f2 12)).toNat
                  rw [slotF_at rfl, HE12.out]
                  have := HMU2.out
                  simp [intOf]
                  omega
              · have p1 : (n1 == own) = false := by simp [q1]
                have p1' : (n1 != own) = true := by simp [q1]
                rw [p1']
                clear q1
                go_wp2_with fail
                refine (At_any c (x : Int) ((y : Int) + 1) _ OK.out HM.out.cc).mono ?_
                rintro e Vz ⟨rfl, hb⟩
                rw [← HN1.out]
                replace HM := Lib.hid (HM.out.next hb)
                clear hb c0 c1 c2
                have c0 := HM.out.x.c 0 _ rfl
                have c1 := HM.out.x.c 1 _ rfl
                have c2 := HM.out.x.c 2 _ rfl
                by_cases hx1 : (x : Int) + 1 < c.wide
                · rw [HRI.out hx1]
                  by_cases q2 : n2 = own
                  · have p2 : (n2 == own) = true := by simp [q2]
                    have p2' : (n2 != own) = false := by simp [q2]
                    rw [p2']
                    clear q2
                    go_wp2_with fail
                    refine (At_any c ((x : Int) + 1) (y : Int) _ OK.out HM.out.cc).mono ?_
                    rintro e Vy ⟨rfl, hb⟩
                    rw [← HN2.out]
                    replace HM := Lib.hid (HM.out.next hb)
                    clear hb c0 c1 c2
                    go_wp2_with fail
                    refine endM (by kernel_rfl) (by kernel_rfl) ⟨x + 1, by omega, slotF_at rfl, HM.out⟩ ?_
                    show tw - (intOf (slotF _ 12)).toNat < tw - (intOf (f2 12)).toNat
                    rw [slotF_at rfl, HE12.out]
                    have := HMU2.out
                    simp [intOf]
                    omega
                  · have p2 : (n2 == own) = false := by simp [q2]
                    have p2' : (n2 != own) = true := by simp [q2]
                    rw [p2']
                    clear q2
                    go_wp2_with fail
                    refine (At_any c ((x : Int) + 1) (y : Int) _ OK.out HM.out.cc).mono ?_
                    rintro e Vy ⟨rfl, hb⟩
                    rw [← HN2.out]
                    replace HM := Lib.hid (HM.out.next hb)
                    clear hb c0 c1 c2
                    go_wp2_with fail
                    refine endM (by kernel_rfl) (by kernel_rfl) ⟨x + 1, by omega, slotF_at rfl, HM.out⟩ ?_
                    show tw - (intOf (slotF _ 12)).toNat < tw - (intOf (f2 12)).toNat
                    rw [slotF_at rfl, HE12.out]
                    have := HMU2.out
                    simp [intOf]
                    omega
                · skip
                  go_wp2_with fail
                  refine endM (by kernel_rfl) (by kernel_rfl) ⟨x + 1, by omega, slotF_at rfl, HM.out⟩ ?_
                  show tw - (intOf (slotF _ 12)).toNat < tw - (intOf (f2 12)).toNat
                  rw [slotF_at rfl, HE12.out]
                  have := HMU2.out
                  simp [intOf]
                  omega
            · skip
              by_cases hx1 : (x : Int) + 1 < c.wide
              · rw [HRI.out hx1]
                by_cases q2 : n2 = own
                · have p2 : (n2 == own) = true := by simp [q2]
                  have p2' : (n2 != own) = false := by simp [q2]
                  rw [p2']
                  clear q2
                  go_wp2_with fail
                  refine (At_any c ((x : Int) + 1) (y : Int) _ OK.out HM.out.cc).mono ?_
                  rintro e Vy ⟨rfl, hb⟩
                  rw [← HN2.out]
                  replace HM := Lib.hid (HM.out.next hb)
                  clear hb c0 c1 c2
                  go_wp2_with fail
                  refine endM (by kernel_rfl) (by kernel_rfl) ⟨x + 1, by omega, slotF_at rfl, HM.out⟩ ?_
                  show tw - (intOf (slotF _ 12)).toNat < tw - (intOf (f2 12)).toNat
                  rw [slotF_at rfl, HE12.out]
                  have := HMU2.out
                  simp [intOf]
                  omega
                · have p2 : (n2 == own) = false := by simp [q2]
                  have p2' : (n2 != own) = true := by simp [q2]
                  rw [p2']
                  clear q2
                  go_wp2_with fail
                  refine (At_any c ((x : Int) + 1) (y : Int) _ OK.out HM.out.cc).mono ?_
                  rintro e Vy ⟨rfl, hb⟩
                  rw [← HN2.out]
                  replace HM := Lib.hid (HM.out.next hb)
                  clear hb c0 c1 c2
                  go_wp2_with fail
                  refine endM (by kernel_rfl) (by kernel_rfl) ⟨x + 1, by omega, slotF_at rfl, HM.out⟩ ?_
                  show tw - (intOf (slotF _ 12)).toNat < tw - (intOf (f2 12)).toNat
                  rw [slotF_at rfl, HE12.out]
                  have := HMU2.out
                  simp [intOf]
                  omega
              · skip
                go_wp2_with fail
                refine endM (by kernel_rfl) (by kernel_rfl) ⟨x + 1, by omega, slotF_at rfl, HM.out⟩ ?_
                show tw - (intOf (slotF _ 12)).toNat < tw - (intOf (f2 12)).toNat
                rw [slotF_at rfl, HE12.out]
                have := HMU2.out
                simp [intOf]
                omega
        · have hxI : ¬ (x : Int) < c.wide := by omega
          clear hti
          go_wp2_with fail
          refine endM (by kernel_rfl) (by kernel_rfl) ⟨y + 1, by omega, slotF_at rfl, HM.out⟩ ?_
          show th - (intOf (slotF _ 11)).toNat < th - (intOf (f 11)).toNat
          rw [slotF_at rfl, HE11.out]
          have := HMU.out
          simp [intOf]
          omega
      · have hyI : ¬ (y : Int) < c.high := by omega
        clear hti hyt hy
        go_wp2_with fail
        refine wp_loopM snB (fun f V => ∃ t : Nat, t ≤ l.length ∧ f 186 = .int .i64 (t : Int) ∧ SwM c A l w V) (fun f _ => l.length - (intOf (f 186)).toNat) (by kernel_rfl) ⟨0, by omega, slotF_at rfl, HM.out⟩ ?_
        clear HM c0 c1 c2 hyI HE11
        intro f2 Vb hrel
        obtain ⟨t, ht, e186, hm⟩ := hrel
        simp only [snB, mixF, e186]
        have HE186 := Lib.hid e186
        have HM := Lib.hid hm
        clear e186 hm
        by_cases htl : t < l.length
        · have htI : (t : Int) < (l.length : Int) := by omega
          obtain ⟨q, hq⟩ : ∃ q, q = l[t] := ⟨_, rfl⟩
          have hxq : l[t]? = some q := by rw [hq]; exact List.getElem?_eq_getElem htl
          obtain ⟨pb, off, eA, hpb, hcell⟩ := HM.out.a t q hxq
          have hbt := HSN.out.bt q (by rw [hq]; exact List.getElem_mem htl)
          have hbf := HSN.out.bf q (by rw [hq]; exact List.getElem_mem htl)
          obtain ⟨qu, qa, qf, qt⟩ := q
          dsimp only at hbt hbf
          have z0 : Vb.cell? ⟨pb, off + t * 4, none⟩ = some (.bool qu) := hcell 0 _ rfl
          have z1 : Vb.cell? ⟨pb, off + t * 4 + 1, none⟩ = some (.int .i64 qa) := hcell 1 _ rfl
          have z2 : Vb.cell? ⟨pb, off + t * 4 + 2, none⟩ = some (.int .i64 qf) := hcell 2 _ rfl
          have z3 : Vb.cell? ⟨pb, off + t * 4 + 3, none⟩ = some (.int .i64 qt) := hcell 3 _ rfl
          have hw4 : IntKind.i64.wrap ((t : Int) + 1) = (t : Int) + 1 := IntWalk.i64_in _ (by omega)
          have HMU3 := Lib.hid (show l.length - (t + 1) < l.length - t from by omega)
          have n16 := nxA Vb (.cells #[.bool qu, .int .i64 qa, .int .i64 qf, .int .i64 qt] 61)
          have HMI := Lib.hid (HM.out.next n16)
          have c0 := HMI.out.x.c 0 _ rfl
          have c1 := HMI.out.x.c 1 _ rfl
          clear hxq hq hcell n16 hpb HM
          subst eA
          cases qu
          · have hb := hbf rfl
            have hd1 : ¬ qa < 1 := by omega
            have hd2 : ¬ qf < 0 := by omega
            have hd3 : ¬ qt ≤ qf := by omega
            have hd4 : ¬ c.high ≤ qa := by omega
            have hd5 : ¬ c.wide < qt := by omega
            clear hbt hbf hb
            go_wp2_with fail
            refine endM (by kernel_rfl) (by kernel_rfl) ⟨t + 1, by omega, slotF_at rfl, HMI.out⟩ ?_
            show l.length - (intOf (slotF _ 186)).toNat < l.length - (intOf (f2 186)).toNat
            rw [slotF_at rfl, HE186.out]
            have := HMU3.out
            simp [intOf]
            omega
          · have hb := hbt rfl
            have hd1 : ¬ qa < 1 := by omega
            have hd2 : ¬ qf < 0 := by omega
            have hd3 : ¬ qt ≤ qf := by omega
            have hd4 : ¬ c.wide ≤ qa := by omega
            have hd5 : ¬ c.high < qt := by omega
            clear hbt hbf hb
            go_wp2_with fail
            refine endM (by kernel_rfl) (by kernel_rfl) ⟨t + 1, by omega, slotF_at rfl, HMI.out⟩ ?_
            show l.length - (intOf (slotF _ 186)).toNat < l.length - (intOf (f2 186)).toNat
            rw [slotF_at rfl, HE186.out]
            have := HMU3.out
            simp [intOf]
            omega
        · have htI : ¬ (t : Int) < (l.length : Int) := by omega
          clear ht htl HE186
          have c0 := HM.out.x.c 0 _ rfl
          have c1 := HM.out.x.c 1 _ rfl
          have c2 := HM.out.x.c 2 _ rfl
          obtain ⟨m, hm⟩ : ∃ m, m = Int.tmod ak c.wide := ⟨_, rfl⟩
          have hm2 : Int.tmod ak c.wide = m := hm.symm
          have hmb : 0 ≤ m ∧ m < c.wide := by
            rw [hm, Int.tmod_eq_emod_of_nonneg hak.1]
            exact ⟨Int.emod_nonneg _ (by omega), Int.emod_lt_of_pos _ (by omega)⟩
          have hw1 : IntKind.i64.wrap ak = ak := IntWalk.i64_in _ (by omega)
          have hw2 : IntKind.i64.wrap m = m := IntWalk.i64_in _ (by omega)
          have hw3 : IntKind.i64.wrap (1 + m) = 1 + m := IntWalk.i64_in _ (by omega)
          have hsz0 : (c.wide == 0) = false := by simp; omega
          have hsz1 : ¬ c.wide = 0 := by omega
          clear hm
          by_cases hk : c.wide ≤ 1 + m
          · go_wp2_with fail
            refine (awake_any Vb).mono ?_
            rintro e Vz ⟨rfl, hb⟩
            go_wp2_with fail
            go_ret
            exact ⟨rfl, HM.out.b.trans (hb.mono HM.out.b.size)⟩
          · go_wp2_with fail
            refine (Goes_any c 0 0 c.wide c.high true (1 + m) Vb OK.out (by omega) (by omega) HM.out.cc).mono ?_
            rintro e Vc ⟨rfl, hb⟩
            replace HM := Lib.hid (HM.out.next hb)
            clear hb c0 c1 c2
            cases hgo : goesB c 0 0 c.wide c.high true (1 + m)
            · go_wp2_with fail
              refine (awake_any Vc).mono ?_
              rintro e Vz ⟨rfl, hb⟩
              go_wp2_with fail
              go_ret
              exact ⟨rfl, HM.out.b.trans (hb.mono HM.out.b.size)⟩
            · have HGO := Lib.hid (((col_all) OK.out (.all OK.out) (by omega)).1 hgo)
              obtain ⟨k, hke⟩ : ∃ k, k = 1 + m := ⟨_, rfl⟩
              rw [← hke] at HGO hk hw3 ⊢
              have hkb : 1 ≤ k ∧ k < c.wide := by omega
              have HM2 := Lib.hid (show SwM2 c w Vc from ⟨HM.out.x, HM.out.cc, HM.out.b⟩)
              clear hgo hke hm2 hmb hw1 hw2 hw3 hsz0 hsz1 hk HM HSN
              go_wp2_with fail
              refine wp_loopM snS (fun f' V' => ∃ s : Int, (s = 0 ∨ s = 1 ∨ s = 2) ∧ f' 22 = .int .i64 s ∧ SwM2 c w V') (fun f' _ => (2 - intOf (f' 22)).toNat) (by kernel_rfl) ⟨0, by omega, slotF_at rfl, HM2.out⟩ ?_
              clear HM2
              intro f5 Va hrel
              obtain ⟨s, hs, e22, hm⟩ := hrel
              simp only [snS, mixF, e22]
              have HE22 := Lib.hid e22
              have HM := Lib.hid hm
              clear e22 hm
              rcases hs with rfl | rfl | rfl
              · skip
                have hxo := Bx.new Va #[.int .i64 c.wide, .int .i64 k, .slice none 0 0] 24
                have hbv := nxA Va (.cells #[.int .i64 c.wide, .int .i64 k, .slice none 0 0] 24)
                have hwk1 : IntKind.i64.wrap (c.high - k) = c.high - k := IntWalk.i64_in _ (by omega)
                have hwk2 : IntKind.i64.wrap (c.wide - k) = c.wide - k := IntWalk.i64_in _ (by omega)
                have RC := Lib.hid (show RcC c 0 0 k c.high from ⟨by omega, by omega⟩)
                have HSP := Lib.hid (show ∀ p q : Pt, inG c p → inG c q → InR 0 0 k c.high p → ¬ InR 0 0 k c.high q → pcOf c p ≠ pcOf c q from fun p q hp hq h1 h2 => by
                  rw [inG_bd] at hp hq
                  exact HGO.out p q (by unfold InR at *; omega) (by unfold InR at *; omega))
                have HSW := Lib.hid (fun (A : Option Addr) (cap : Nat) => half_saw (A := A) (cap := cap) GC.out HSB.out RC.out HSP.out)
                have d0 := HM.out.x.c 0 _ rfl
                have d1 := HM.out.x.c 1 _ rfl
                go_upto_region 41 with fail
                have HMA := Lib.hid HM.out
                have hgl := HM.out.x.lt
                obtain ⟨go, hgo⟩ : ∃ g, g = Va.heap.size := ⟨_, rfl⟩
                have hz1 : (Va.alloc (.cells #[.int .i64 c.wide, .int .i64 k, .slice none 0 0] 24)).heap.size = go + 1 := by simp [hgo]
                rw [← hgo] at hxo hbv hgl ⊢
                have HCG := Lib.hid (show CutAt Va go c from by rw [hgo]; exact HM.out.cc)
                have d0 := (HM.out.x.next (hgo ▸ hbv)).c 0 _ rfl
                have d1 := (HM.out.x.next (hgo ▸ hbv)).c 1 _ rfl
                generalize (Va.alloc (.cells #[.int .i64 c.wide, .int .i64 k, .slice none 0 0] 24)) = V1 at *
                have q0 := hxo.c 0 _ rfl
                have q1 := hxo.c 1 _ rfl
                have q2 := hxo.c 2 _ rfl
                have p0 := hxo.fr 0
                have p1 := hxo.fr 1
                have p2 := hxo.fr 2
                have hne : ¬ w.heap.size = go := by omega
                clear hgo
                have HXO := Lib.hid hxo
                have HBV := Lib.hid hbv
                clear hxo hbv
                go_upto_region 47 with fail
                have hxo := HXO.out
                have hbv := HBV.out
                clear q0 q1 q2 p0 p1 p2 d0 d1 HXO HBV
                have hxo := hxo.setAll [.int .i64 (k), .int .i64 (c.high), .slice none 0 0] rfl
                have hbv := below_setCells (b := go) (B := go) (Nat.le_refl _) [.int .i64 (k), .int .i64 (c.high), .slice none 0 0] 0 hbv
                obtain ⟨V2, hV2⟩ : ∃ V, V = (((V1.setCell ⟨go, 0, none⟩ (.int .i64 (k))).setCell ⟨go, 1, none⟩ (.int .i64 (c.high))).setCell ⟨go, 2, none⟩ (.slice none 0 0)) := ⟨_, rfl⟩
                have hz2 : V2.heap.size = go + 1 := by rw [hV2]; simp [hz1]
                rw [← hV2]
                replace hxo : Bx V2 go [.int .i64 k, .int .i64 c.high, .slice none 0 0] := by rw [hV2]; exact hxo
                replace hbv : Below go Va V2 := by rw [hV2]; exact hbv
                have HZ2 := Lib.hid hz2
                clear hV2 hz1 hz2
                go_upto_region 50 with fail
                have hz2 := HZ2.out
                have hn4 := nxA V2 (.cells (zeros 40) 50)
                obtain ⟨gn, hgn⟩ : ∃ g, g = V2.heap.size := ⟨_, rfl⟩
                obtain ⟨V3b, hV3⟩ : ∃ V, V = V2.alloc (.cells (zeros 40) 50) := ⟨_, rfl⟩
                have hz3 : V3b.heap.size = gn + 1 := by rw [hV3, hgn]; simp
                have HN0 := Lib.hid (show H6 c 0 0 k c.high k c.high go gn (gn + 1) w V3b 0 0 from by
                  have hb4 : Below go Va V3b := by rw [hV3]; exact hbv.trans (hn4.mono (by omega))
                  refine ⟨HMA.out.x.below hb4 hgl, HCG.out.below hb4, HMA.out.b.trans (hb4.mono (by omega)), ?_, ⟨.slice none 0 0, World.ownsRow_nil _ _ _ _, ?_⟩, by omega, by omega⟩
                  · rw [hV3, hgn]; exact (IBlk.zeros V2 40 _).congr (fun _ => rfl)
                  · rw [hV3]; exact hxo.next hn4)
                rw [zeros40L] at hV3
                rw [← hV3, ← hgn]
                clear hV3 hgn hn4 hxo hbv hz2 hz3 hgl hne HMA HCG
                obtain ⟨i0, hi0, hz0, hz1, hz2⟩ := info_parts int_info
                have hplen : c.piece.length ≤ 1000 := by
                  have h1 := OK.out.len
                  have := Int.mul_le_mul hwd.2 hhd.2 (by omega) (by omega)
                  omega
                refine wp_loopM snI (fun f' V' => ∃ i : Nat, i ≤ c.piece.length ∧ f' 26 = .int .i64 (i : Int) ∧ f' 25 = .int .i64 (nmS c 0 0 k c.high i).2 ∧ H6 c 0 0 k c.high k c.high go gn (gn + 1) w V' i i) (fun f' _ => c.piece.length - (intOf (f' 26)).toNat) (by kernel_rfl) ⟨0, by omega, slotF_at rfl, slotF_at rfl, HN0.out⟩ ?_
                clear HN0
                intro f6 Vf hrel
                obtain ⟨i, hi, e26, e25, hh⟩ := hrel
                simp only [snI, mixF, e26, e25]
                have HE26 := Lib.hid e26
                have HH := Lib.hid hh
                clear e26 e25 hh
                have c0 := HH.out.xc.c 0 _ rfl
                have c2 := HH.out.xc.c 2 _ rfl
                have hwi : IntKind.i64.wrap ((i : Int) + 1) = (i : Int) + 1 := IntWalk.i64_in _ (by omega)
                by_cases hil : i < c.piece.length
                · have hiI : (i : Int) < (c.piece.length : Int) := by omega
                  have HMI := Lib.hid (show c.piece.length - (i + 1) < c.piece.length - i from by omega)
                  have hcell := OK.out.cell hil
                  have hqf := quo_facts OK.out hil
                  have hq1 : Int.tmod (i : Int) c.wide = colI c i := hqf.1
                  have hq2 : Int.tdiv (i : Int) c.wide = rowI c i := hqf.2.1
                  have hNM := nm_ok OK.out 0 0 k c.high i (by omega)
                  have hNM1 := nm_ok OK.out 0 0 k c.high (i + 1) (by omega)
                  have hHL := hl_add OK.out (x0 := 0) (y0 := 0) (x1 := k) (y1 := c.high) hil
                  have hST : nmS c 0 0 k c.high (i + 1) = nmStep c 0 0 k c.high (nmS c 0 0 k c.high i) i := rfl
                  have hRL : (hlL c 0 0 k c.high i).length ≤ c.piece.length := by
                    rw [hl_len]
                    unfold rlL
                    rw [List.length_map]
                    have := List.length_filter_le (fun i => insR c i 0 0 k c.high) (List.range i)
                    rw [List.length_range] at this
                    omega
                  have hpb := at_pc OK.out hil
                  have hpe : c.piece.getD i 0 = atI c i := rfl
                  obtain ⟨pb, po, ec, hbk, g0⟩ := int_at HH.out.cc.pa hil
                  rw [hpe] at g0
                  rw [ec] at c2
                  obtain ⟨p, hp⟩ : ∃ p : Nat, (p : Int) = atI c i := ⟨(atI c i).toNat, by omega⟩
                  have hp40 : p < 40 := by omega
                  have hpt : (atI c i).toNat = p := by omega
                  rw [hpt] at hHL
                  have hST2 : nmS c 0 0 k c.high (i + 1) = if insR c i 0 0 k c.high = true ∧ (nmS c 0 0 k c.high i).1 p = 0 then (fun q => if q = p then (nmS c 0 0 k c.high i).2 + 1 else (nmS c 0 0 k c.high i).1 q, (nmS c 0 0 k c.high i).2 + 1) else nmS c 0 0 k c.high i := by
                    rw [hST]; unfold nmStep; rw [hpt]
                  rw [← hp] at g0
                  have HPP := Lib.hid hp
                  have hmb := hNM.many
                  have hmb1 := hNM1.many
                  have hnb := hNM.b p
                  have hnb1 := hNM1.b p
                  have y0 := HH.out.nm.cell p hp40
                  have y1 := HH.out.nm.free p
                  clear hST hpe ec hpt hqf hpb hp
                  have hr0 : 0 ≤ colI c i ∧ colI c i ≤ 12 := by omega
                  have hr1 : 0 ≤ rowI c i ∧ rowI c i ≤ 12 := by omega
                  by_cases hin : insR c i 0 0 k c.high = true
                  · have hpl : (colI c i) < k := by
                      unfold insR inS at hin
                      simp only [Bool.and_eq_true, decide_eq_true_eq] at hin
                      omega
                    rw [if_pos hin] at hHL
                    have hwr1 : IntKind.i64.wrap (colI c i) = colI c i := IntWalk.i64_in _ (by omega)
                    have hwr2 : IntKind.i64.wrap (rowI c i) = rowI c i := IntWalk.i64_in _ (by omega)
                    have hpl2 : ¬ k ≤ colI c i := by omega
                    generalize colI c i = cl at *
                    generalize rowI c i = rw_ at *
                    by_cases hn0 : (nmS c 0 0 k c.high i).1 p = 0
                    · have hnm : nmS c 0 0 k c.high (i + 1) = (fun q => if q = p then (nmS c 0 0 k c.high i).2 + 1 else (nmS c 0 0 k c.high i).1 q, (nmS c 0 0 k c.high i).2 + 1) := by rw [hST2, if_pos ⟨hin, hn0⟩]
                      have HH1 := Lib.hid (HH.out.name (p := p) (m := (nmS c 0 0 k c.high i).2 + 1) hp40 (by rw [hnm]; exact if_pos rfl) (fun q hq => by rw [hnm]; exact if_neg hq))
                      have hv1 : (nmS c 0 0 k c.high (i + 1)).1 p = (nmS c 0 0 k c.high i).2 + 1 := by rw [hnm]; exact if_pos rfl
                      have hv2 : (nmS c 0 0 k c.high (i + 1)).2 = (nmS c 0 0 k c.high i).2 + 1 := by rw [hnm]
                      rw [hv1] at hHL
                      rw [hn0] at y0
                      have hw7 : IntKind.i64.wrap ((nmS c 0 0 k c.high i).2 + 1) = (nmS c 0 0 k c.high i).2 + 1 := IntWalk.i64_in _ (by omega)
                      have HV2 := Lib.hid hv2
                      clear hnm hv1 hv2 hn0 hST2 hNM hNM1 hnb hnb1 hmb1
                      obtain ⟨mm, hmm⟩ : ∃ m, m = (nmS c 0 0 k c.high i).2 := ⟨_, rfl⟩
                      rw [← hmm] at HV2 HH1 hHL hw7 hmb ⊢
                      have hi1 : (p : Int) < 40 := by omega
                      have hx8 : mm + 1 - 1 = mm := by omega
                      rw [hx8] at hHL
                      clear hmm hx8
                      go_wp2_with fail
                      generalize hWn : (Vf.setCell ⟨gn, p, none⟩ (.int .i64 (mm + 1))) = Wn at *
                      have s2 := HH1.out.nm.cell p hp40
                      rw [show (nmS c 0 0 k c.high (i + 1)).1 p = mm + 1 from by
                        have h9 := World.cell?_setCell_same' Vf ⟨gn, p, none⟩ (.int .i64 (mm + 1)) (by rw [y0]; rfl)
                        rw [hWn, s2] at h9
                        injection h9 with h9
                        injection h9] at s2
                      have hsb : IntKind.i64.wrap (mm + 1 - 1) = mm := by rw [Int.add_sub_cancel]; exact IntWalk.i64_in _ (by omega)
                      have hsb' : IntKind.i64.wrap mm = mm := IntWalk.i64_in _ (by omega)
                      clear hWn y0 y1
                      obtain ⟨v, hown, hox⟩ := HH1.out.ex
                      obtain ⟨A5, cc5, rfl, -⟩ := own_form hown
                      have HOWN := Lib.hid hown
                      have HOX := Lib.hid hox
                      have s0 := HH1.out.xc.c 2 _ rfl
                      obtain ⟨pb2, po2, ec2, hbk2, s1⟩ := int_at HH1.out.cc.pa hil
                      rw [show c.piece.getD i 0 = atI c i from rfl, ← HPP.out] at s1
                      rw [ec2] at s0
                      have HIX := Lib.hid hi1
                      have hz5 := HH1.out.z
                      have ho5 := HH1.out.o
                      have HS := Lib.hid (show ∀ W : World, (∀ bb oo, bb < gn + 1 → W.cell? ⟨bb, oo, none⟩ = Wn.cell? ⟨bb, oo, none⟩) → (W.cell? ⟨w.heap.size, 2, none⟩ = some (.slice (some ⟨pb2, po2, none⟩) c.piece.length c.c) ∧ W.cell? ⟨pb2, po2 + i, none⟩ = some (.int .i64 (p : Int)) ∧ W.cell? ⟨gn, p, none⟩ = some (.int .i64 (mm + 1))) from fun W h => ⟨(h _ _ (by omega)).trans s0, (h _ _ (by omega)).trans s1, (h _ _ (by omega)).trans s2⟩)
                      have hc : Below Wn.heap.size Wn Wn.drew := (Below.refl _ _).drew
                      have HQ0 := Lib.hid (hox.c 2 _ rfl)
                      have HQ1 := Lib.hid ((hox.next (nxA Wn (.cells #[.int .i64 mm] 3))).c 2 _ rfl)
                      have HKB := Lib.hid (fun (W : World) (h : Below Wn.heap.size Wn W) => HS.out W (fun bb oo hb => h.cell (p := ⟨bb, oo, none⟩) (by show bb < Wn.heap.size; omega)))
                      have HGN := Lib.hid (show ¬ go = gn ∧ ¬ go = pb2 ∧ ¬ go = w.heap.size from by omega)
                      clear c0 c2 g0 hox hbk hbk2 ec2
                      refine wp_region_noPanic ?_
                      refine wp_region_held_drew (S := (fun W => W.cell? ⟨w.heap.size, 2, none⟩ = some (.slice (some ⟨pb2, po2, none⟩) c.piece.length c.c) ∧ W.cell? ⟨pb2, po2 + i, none⟩ = some (.int .i64 (p : Int)) ∧ W.cell? ⟨gn, p, none⟩ = some (.int .i64 (mm + 1)))) (by as_aux_lemma => kernel_rfl) ?_ (fun hHeld => ?_)
                      · (try dsimp only); exact HKB.out _ hc
                      refine htake (i := 0) (v := ?v1) rfl (by as_aux_lemma => kernel_rfl) (by as_aux_lemma => kernel_rfl) (by as_aux_lemma => kernel_rfl) (fun _ _ _ h => h) (Or.inl ⟨by rfl, ?hy1⟩) (by assumption) ?_
                      case hy1 => (intro w hSw; (try dsimp only at hSw); go_simp; try (with_reducible rfl))
                      try simp only [Act.put, List.setIfInBounds_toArray, List.set_cons_zero, List.set_cons_succ]
                      refine htake (i := 2) (v := ?v2) rfl (by as_aux_lemma => kernel_rfl) (by as_aux_lemma => kernel_rfl) (by as_aux_lemma => kernel_rfl) (fun _ _ _ h => h) (Or.inl ⟨by rfl, ?hy2⟩) (by assumption) ?_
                      case hy2 => (intro w hSw; (try dsimp only at hSw); go_simp; try (with_reducible rfl))
                      try simp only [Act.put, List.setIfInBounds_toArray, List.set_cons_zero, List.set_cons_succ]
                      refine htake (i := 3) (v := ?v3) rfl (by as_aux_lemma => kernel_rfl) (by as_aux_lemma => kernel_rfl) (by as_aux_lemma => kernel_rfl) (fun _ _ _ h => h) (Or.inl ⟨by rfl, ?hy3⟩) (by assumption) ?_
                      case hy3 => (intro w hSw; (try dsimp only at hSw); go_simp; try (with_reducible rfl))
                      try simp only [Act.put, List.setIfInBounds_toArray, List.set_cons_zero, List.set_cons_succ]
                      refine htake (i := 4) (v := ?v4) rfl (by as_aux_lemma => kernel_rfl) (by as_aux_lemma => kernel_rfl) (by as_aux_lemma => kernel_rfl) (fun _ _ _ h => h) (Or.inl ⟨by rfl, ?hy4⟩) (by assumption) ?_
                      case hy4 => (intro w hSw; (try dsimp only at hSw); go_simp; try (with_reducible rfl))
                      try simp only [Act.put, List.setIfInBounds_toArray, List.set_cons_zero, List.set_cons_succ]
                      refine htake (i := 5) (v := ?v5) rfl (by as_aux_lemma => kernel_rfl) (by as_aux_lemma => kernel_rfl) (by as_aux_lemma => kernel_rfl) (fun _ _ _ h => h) (Or.inl ⟨by rfl, ?hy5⟩) (by assumption) ?_
                      case hy5 => (intro w hSw; (try dsimp only at hSw); go_simp; try (with_reducible rfl))
                      try simp only [Act.put, List.setIfInBounds_toArray, List.set_cons_zero, List.set_cons_succ]
                      refine htake (i := 6) (v := ?v6) rfl (by as_aux_lemma => kernel_rfl) (by as_aux_lemma => kernel_rfl) (by as_aux_lemma => kernel_rfl) (fun _ _ _ h => h) (Or.inl ⟨by rfl, ?hy6⟩) (by assumption) ?_
                      case hy6 => (intro w hSw; (try dsimp only at hSw); go_simp; try (with_reducible rfl))
                      try simp only [Act.put, List.setIfInBounds_toArray, List.set_cons_zero, List.set_cons_succ]
                      refine htake (i := 7) (v := ?v7) rfl (by as_aux_lemma => kernel_rfl) (by as_aux_lemma => kernel_rfl) (by as_aux_lemma => kernel_rfl) (fun _ _ _ h => h) (Or.inl ⟨by rfl, ?hy7⟩) (by assumption) ?_
                      case hy7 => (intro w hSw; (try dsimp only at hSw); go_simp; try (with_reducible rfl))
                      try simp only [Act.put, List.setIfInBounds_toArray, List.set_cons_zero, List.set_cons_succ]
                      refine htake (i := 8) (v := ?v8) rfl (by as_aux_lemma => kernel_rfl) (by as_aux_lemma => kernel_rfl) (by as_aux_lemma => kernel_rfl) (fun _ _ _ h => h) (Or.inl ⟨by rfl, ?hy8⟩) (by assumption) ?_
                      case hy8 => (intro w hSw; (try dsimp only at hSw); go_simp; try (with_reducible rfl))
                      try simp only [Act.put, List.setIfInBounds_toArray, List.set_cons_zero, List.set_cons_succ]
                      refine htake (i := 9) (v := ?v9) rfl (by as_aux_lemma => kernel_rfl) (by as_aux_lemma => kernel_rfl) (by as_aux_lemma => kernel_rfl) (fun _ _ _ h => h) (Or.inl ⟨by rfl, ?hy9⟩) (by assumption) ?_
                      case hy9 => (intro w hSw; (try dsimp only at hSw); go_simp; try (with_reducible rfl))
                      try simp only [Act.put, List.setIfInBounds_toArray, List.set_cons_zero, List.set_cons_succ]
                      refine wpAnyH_ready (rs := [1, 10]) (by as_aux_lemma => kernel_rfl) (by simp) ?_
                      refine hcons rfl (fun K hK => ?_) (hcons rfl (fun K hK => ?_) (AllReadyH.nil))
                      have q0 := HQ0.out; have q1 := HQ1.out; go_simp
                      refine hK.out _ _ ?_ (fun hHeld => ?_)
                      · (try dsimp only); exact HKB.out _ hc
                      clear hK K
                      try simp only [Act.put, List.setIfInBounds_toArray, List.set_cons_zero, List.set_cons_succ]
                      refine wpAnyH_ready (rs := [10]) (by as_aux_lemma => kernel_rfl) (by simp) ?_
                      refine hcons rfl (fun K hK => ?_) (AllReadyH.nil)
                      go_simp
                      replace hc := hc.alloc hc.size (.cells #[.int .i64 mm] 3)
                      refine hK.out _ _ ?_ (fun hHeld => ?_)
                      · (try dsimp only); exact HKB.out _ hc
                      clear hK K
                      try simp only [Act.put, List.setIfInBounds_toArray, List.set_cons_zero, List.set_cons_succ]
                      refine wpAnyH_ready (rs := [11]) (by as_aux_lemma => kernel_rfl) (by simp) ?_
                      refine hcons rfl (fun K hK => ?_) (AllReadyH.nil)
                      refine step_append_lies _ rfl (.tmp 336) (.tmp 345) 22 rfl (gn + 1) 3 i0 (.int .i64 0) 1 8 Try.underlying22 hi0 hz0 hz1 hz2 rfl (by decide) (.slice A5 (hlL c 0 0 k c.high i).length cc5) (hlL c 0 0 k c.high i).length ((hlL c 0 0 k c.high i).map (Value.int .i64)) rfl (own_below HOWN.out hc) ⟨Wn.heap.size, 0, none⟩ 1 1 [.int .i64 mm] rfl rfl (World.news_of_block (heap_alloc_new Wn.drew _)) (by simp [Value.oneCell']) (by decide) (by unfold maxLen; omega) (by omega) (Nat.le_trans hz5 hc.size) _ rfl ?_; intro g6 cap6 w6 ho6 hg6 hv6 _; have hst := HH1.out.app HOWN.out HOX.out hg6 ho6 hHL; have HFIN := Lib.hid hst.1.2.2; have hst1 := hst.1.1; have hst2 := hst.1.2.1; have HCL := Lib.hid hst.2; clear hst
                      refine hK.out _ _ ?_ (fun hHeld => ?_)
                      · (try dsimp only); exact HS.out _ HCL.out
                      clear hK K
                      try simp only [Act.put, List.setIfInBounds_toArray, List.set_cons_zero, List.set_cons_succ]
                      refine htake (i := 12) (v := ?v10) rfl (by as_aux_lemma => kernel_rfl) (by as_aux_lemma => kernel_rfl) (by as_aux_lemma => kernel_rfl) (fun _ _ _ h => h) (Or.inl ⟨by rfl, ?hy10⟩) (by assumption) ?_
                      case hy10 => (intro w hSw; (try dsimp only at hSw); go_simp; try (with_reducible rfl))
                      try simp only [Act.put, List.setIfInBounds_toArray, List.set_cons_zero, List.set_cons_succ]
                      refine wpAnyH_ready (rs := [13]) (by as_aux_lemma => kernel_rfl) (by simp) ?_
                      refine hcons rfl (fun K hK => ?_) (AllReadyH.nil)
                      go_simp
                      refine hK.out _ _ ?_ (fun hHeld => ?_)
                      · (try dsimp only); exact ⟨(World.cell?_setCell_other _ _ _ _ (by intro e'; injection e' with e'; exact HGN.out.2.2 e')).trans (HS.out _ HCL.out).1, (World.cell?_setCell_other _ _ _ _ (by intro e'; injection e' with e'; exact HGN.out.2.1 e')).trans (HS.out _ HCL.out).2.1, (World.cell?_setCell_other _ _ _ _ (by intro e'; injection e' with e'; exact HGN.out.1 e')).trans (HS.out _ HCL.out).2.2⟩
                      clear hK K
                      try simp only [Act.put]
                      refine wpAnyH_done (by as_aux_lemma => kernel_rfl) ?_ _
                      refine NoPanic.normal ?_
                      rotate_left
                      go_simp
                      replace hc := hc.alloc hc.size (.cells #[.int .i64 mm] 3)
                      refine hK.out _ _ ?_ (fun hHeld => ?_)
                      · (try dsimp only); exact HKB.out _ hc
                      clear hK K
                      try simp only [Act.put, List.setIfInBounds_toArray, List.set_cons_zero, List.set_cons_succ]
                      refine wpAnyH_ready (rs := [1]) (by as_aux_lemma => kernel_rfl) (by simp) ?_
                      refine hcons rfl (fun K hK => ?_) (AllReadyH.nil)
                      have q0 := HQ0.out; have q1 := HQ1.out; go_simp
                      refine hK.out _ _ ?_ (fun hHeld => ?_)
                      · (try dsimp only); exact HKB.out _ hc
                      clear hK K
                      try simp only [Act.put, List.setIfInBounds_toArray, List.set_cons_zero, List.set_cons_succ]
                      refine wpAnyH_ready (rs := [11]) (by as_aux_lemma => kernel_rfl) (by simp) ?_
                      refine hcons rfl (fun K hK => ?_) (AllReadyH.nil)
                      refine step_append_lies _ rfl (.tmp 336) (.tmp 345) 22 rfl (gn + 1) 3 i0 (.int .i64 0) 1 8 Try.underlying22 hi0 hz0 hz1 hz2 rfl (by decide) (.slice A5 (hlL c 0 0 k c.high i).length cc5) (hlL c 0 0 k c.high i).length ((hlL c 0 0 k c.high i).map (Value.int .i64)) rfl (own_below HOWN.out hc) ⟨Wn.heap.size, 0, none⟩ 1 1 [.int .i64 mm] rfl rfl (World.news_of_block (heap_alloc_new Wn.drew _)) (by simp [Value.oneCell']) (by decide) (by unfold maxLen; omega) (by omega) (Nat.le_trans hz5 hc.size) _ rfl ?_; intro g6 cap6 w6 ho6 hg6 hv6 _; have hst := HH1.out.app HOWN.out HOX.out hg6 ho6 hHL; have HFIN := Lib.hid hst.1.2.2; have hst1 := hst.1.1; have hst2 := hst.1.2.1; have HCL := Lib.hid hst.2; clear hst
                      refine hK.out _ _ ?_ (fun hHeld => ?_)
                      · (try dsimp only); exact HS.out _ HCL.out
                      clear hK K
                      try simp only [Act.put, List.setIfInBounds_toArray, List.set_cons_zero, List.set_cons_succ]
                      refine htake (i := 12) (v := ?v11) rfl (by as_aux_lemma => kernel_rfl) (by as_aux_lemma => kernel_rfl) (by as_aux_lemma => kernel_rfl) (fun _ _ _ h => h) (Or.inl ⟨by rfl, ?hy11⟩) (by assumption) ?_
                      case hy11 => (intro w hSw; (try dsimp only at hSw); go_simp; try (with_reducible rfl))
                      try simp only [Act.put, List.setIfInBounds_toArray, List.set_cons_zero, List.set_cons_succ]
                      refine wpAnyH_ready (rs := [13]) (by as_aux_lemma => kernel_rfl) (by simp) ?_
                      refine hcons rfl (fun K hK => ?_) (AllReadyH.nil)
                      go_simp
                      refine hK.out _ _ ?_ (fun hHeld => ?_)
                      · (try dsimp only); exact ⟨(World.cell?_setCell_other _ _ _ _ (by intro e'; injection e' with e'; exact HGN.out.2.2 e')).trans (HS.out _ HCL.out).1, (World.cell?_setCell_other _ _ _ _ (by intro e'; injection e' with e'; exact HGN.out.2.1 e')).trans (HS.out _ HCL.out).2.1, (World.cell?_setCell_other _ _ _ _ (by intro e'; injection e' with e'; exact HGN.out.1 e')).trans (HS.out _ HCL.out).2.2⟩
                      clear hK K
                      try simp only [Act.put]
                      refine wpAnyH_done (by as_aux_lemma => kernel_rfl) ?_ _
                      refine NoPanic.normal ?_
                      iterate 15 (try clear hHeld)
                      all_goals (go_wp2_with fail)
                      all_goals (refine endM (by kernel_rfl) (by kernel_rfl) ⟨i + 1, by omega, slotF_at rfl, by rw [slotF_at rfl, HV2.out], HFIN.out⟩ ?_)
                      all_goals (show c.piece.length - (intOf (slotF _ 26)).toNat < c.piece.length - (intOf (f6 26)).toNat; rw [slotF_at rfl, HE26.out]; have := HMI.out; simp [intOf]; omega)
                    · have hnm : nmS c 0 0 k c.high (i + 1) = nmS c 0 0 k c.high i := by rw [hST2, if_neg (fun h => hn0 h.2)]
                      have HH1 := Lib.hid (HH.out.skip hnm)
                      have HV2 := Lib.hid (show (nmS c 0 0 k c.high (i + 1)).2 = (nmS c 0 0 k c.high i).2 from by rw [hnm])
                      rw [hnm] at hHL
                      clear hnm hST2 hNM hNM1 hnb1 hmb1
                      obtain ⟨mm, hmm⟩ : ∃ m, m = (nmS c 0 0 k c.high i).2 := ⟨_, rfl⟩
                      rw [← hmm] at HV2 hmb hnb ⊢
                      obtain ⟨nv, hnv⟩ : ∃ m, m = (nmS c 0 0 k c.high i).1 p := ⟨_, rfl⟩
                      rw [← hnv] at y0 hnb hHL hn0
                      have e0 : (nv == 0) = false := by simp [hn0]
                      have hi1 : (p : Int) < 40 := by omega
                      clear hmm hnv hn0
                      go_wp2_with fail
                      obtain ⟨Wn, hWn⟩ : ∃ W, W = Vf := ⟨_, rfl⟩
                      rw [← hWn] at HH1 y0 ⊢
                      have s2 := y0
                      have hsb : IntKind.i64.wrap (nv - 1) = nv - 1 := IntWalk.i64_in _ (by omega)
                      clear hWn y0 y1
                      obtain ⟨v, hown, hox⟩ := HH1.out.ex
                      obtain ⟨A5, cc5, rfl, -⟩ := own_form hown
                      have HOWN := Lib.hid hown
                      have HOX := Lib.hid hox
                      have s0 := HH1.out.xc.c 2 _ rfl
                      obtain ⟨pb2, po2, ec2, hbk2, s1⟩ := int_at HH1.out.cc.pa hil
                      rw [show c.piece.getD i 0 = atI c i from rfl, ← HPP.out] at s1
                      rw [ec2] at s0
                      have HIX := Lib.hid hi1
                      have hz5 := HH1.out.z
                      have ho5 := HH1.out.o
                      have HS := Lib.hid (show ∀ W : World, (∀ bb oo, bb < gn + 1 → W.cell? ⟨bb, oo, none⟩ = Wn.cell? ⟨bb, oo, none⟩) → (W.cell? ⟨w.heap.size, 2, none⟩ = some (.slice (some ⟨pb2, po2, none⟩) c.piece.length c.c) ∧ W.cell? ⟨pb2, po2 + i, none⟩ = some (.int .i64 (p : Int)) ∧ W.cell? ⟨gn, p, none⟩ = some (.int .i64 nv)) from fun W h => ⟨(h _ _ (by omega)).trans s0, (h _ _ (by omega)).trans s1, (h _ _ (by omega)).trans s2⟩)
                      have hc : Below Wn.heap.size Wn Wn.drew := (Below.refl _ _).drew
                      have HQ0 := Lib.hid (hox.c 2 _ rfl)
                      have HQ1 := Lib.hid ((hox.next (nxA Wn (.cells #[.int .i64 (nv - 1)] 3))).c 2 _ rfl)
                      have HKB := Lib.hid (fun (W : World) (h : Below Wn.heap.size Wn W) => HS.out W (fun bb oo hb => h.cell (p := ⟨bb, oo, none⟩) (by show bb < Wn.heap.size; omega)))
                      have HGN := Lib.hid (show ¬ go = gn ∧ ¬ go = pb2 ∧ ¬ go = w.heap.size from by omega)
                      clear c0 c2 g0 hox hbk hbk2 ec2
                      refine wp_region_noPanic ?_
                      refine wp_region_held_drew (S := (fun W => W.cell? ⟨w.heap.size, 2, none⟩ = some (.slice (some ⟨pb2, po2, none⟩) c.piece.length c.c) ∧ W.cell? ⟨pb2, po2 + i, none⟩ = some (.int .i64 (p : Int)) ∧ W.cell? ⟨gn, p, none⟩ = some (.int .i64 nv))) (by as_aux_lemma => kernel_rfl) ?_ (fun hHeld => ?_)
                      · (try dsimp only); exact HKB.out _ hc
                      refine htake (i := 0) (v := ?v12) rfl (by as_aux_lemma => kernel_rfl) (by as_aux_lemma => kernel_rfl) (by as_aux_lemma => kernel_rfl) (fun _ _ _ h => h) (Or.inl ⟨by rfl, ?hy12⟩) (by assumption) ?_
                      case hy12 => (intro w hSw; (try dsimp only at hSw); go_simp; try (with_reducible rfl))
                      try simp only [Act.put, List.setIfInBounds_toArray, List.set_cons_zero, List.set_cons_succ]
                      refine htake (i := 2) (v := ?v13) rfl (by as_aux_lemma => kernel_rfl) (by as_aux_lemma => kernel_rfl) (by as_aux_lemma => kernel_rfl) (fun _ _ _ h => h) (Or.inl ⟨by rfl, ?hy13⟩) (by assumption) ?_
                      case hy13 => (intro w hSw; (try dsimp only at hSw); go_simp; try (with_reducible rfl))
                      try simp only [Act.put, List.setIfInBounds_toArray, List.set_cons_zero, List.set_cons_succ]
                      refine htake (i := 3) (v := ?v14) rfl (by as_aux_lemma => kernel_rfl) (by as_aux_lemma => kernel_rfl) (by as_aux_lemma => kernel_rfl) (fun _ _ _ h => h) (Or.inl ⟨by rfl, ?hy14⟩) (by assumption) ?_
                      case hy14 => (intro w hSw; (try dsimp only at hSw); go_simp; try (with_reducible rfl))
                      try simp only [Act.put, List.setIfInBounds_toArray, List.set_cons_zero, List.set_cons_succ]
                      refine htake (i := 4) (v := ?v15) rfl (by as_aux_lemma => kernel_rfl) (by as_aux_lemma => kernel_rfl) (by as_aux_lemma => kernel_rfl) (fun _ _ _ h => h) (Or.inl ⟨by rfl, ?hy15⟩) (by assumption) ?_
                      case hy15 => (intro w hSw; (try dsimp only at hSw); go_simp; try (with_reducible rfl))
                      try simp only [Act.put, List.setIfInBounds_toArray, List.set_cons_zero, List.set_cons_succ]
                      refine htake (i := 5) (v := ?v16) rfl (by as_aux_lemma => kernel_rfl) (by as_aux_lemma => kernel_rfl) (by as_aux_lemma => kernel_rfl) (fun _ _ _ h => h) (Or.inl ⟨by rfl, ?hy16⟩) (by assumption) ?_
                      case hy16 => (intro w hSw; (try dsimp only at hSw); go_simp; try (with_reducible rfl))
                      try simp only [Act.put, List.setIfInBounds_toArray, List.set_cons_zero, List.set_cons_succ]
                      refine htake (i := 6) (v := ?v17) rfl (by as_aux_lemma => kernel_rfl) (by as_aux_lemma => kernel_rfl) (by as_aux_lemma => kernel_rfl) (fun _ _ _ h => h) (Or.inl ⟨by rfl, ?hy17⟩) (by assumption) ?_
                      case hy17 => (intro w hSw; (try dsimp only at hSw); go_simp; try (with_reducible rfl))
                      try simp only [Act.put, List.setIfInBounds_toArray, List.set_cons_zero, List.set_cons_succ]
                      refine htake (i := 7) (v := ?v18) rfl (by as_aux_lemma => kernel_rfl) (by as_aux_lemma => kernel_rfl) (by as_aux_lemma => kernel_rfl) (fun _ _ _ h => h) (Or.inl ⟨by rfl, ?hy18⟩) (by assumption) ?_
                      case hy18 => (intro w hSw; (try dsimp only at hSw); go_simp; try (with_reducible rfl))
                      try simp only [Act.put, List.setIfInBounds_toArray, List.set_cons_zero, List.set_cons_succ]
                      refine htake (i := 8) (v := ?v19) rfl (by as_aux_lemma => kernel_rfl) (by as_aux_lemma => kernel_rfl) (by as_aux_lemma => kernel_rfl) (fun _ _ _ h => h) (Or.inl ⟨by rfl, ?hy19⟩) (by assumption) ?_
                      case hy19 => (intro w hSw; (try dsimp only at hSw); go_simp; try (with_reducible rfl))
                      try simp only [Act.put, List.setIfInBounds_toArray, List.set_cons_zero, List.set_cons_succ]
                      refine htake (i := 9) (v := ?v20) rfl (by as_aux_lemma => kernel_rfl) (by as_aux_lemma => kernel_rfl) (by as_aux_lemma => kernel_rfl) (fun _ _ _ h => h) (Or.inl ⟨by rfl, ?hy20⟩) (by assumption) ?_
                      case hy20 => (intro w hSw; (try dsimp only at hSw); go_simp; try (with_reducible rfl))
                      try simp only [Act.put, List.setIfInBounds_toArray, List.set_cons_zero, List.set_cons_succ]
                      refine wpAnyH_ready (rs := [1, 10]) (by as_aux_lemma => kernel_rfl) (by simp) ?_
                      refine hcons rfl (fun K hK => ?_) (hcons rfl (fun K hK => ?_) (AllReadyH.nil))
                      have q0 := HQ0.out; have q1 := HQ1.out; go_simp
                      refine hK.out _ _ ?_ (fun hHeld => ?_)
                      · (try dsimp only); exact HKB.out _ hc
                      clear hK K
                      try simp only [Act.put, List.setIfInBounds_toArray, List.set_cons_zero, List.set_cons_succ]
                      refine wpAnyH_ready (rs := [10]) (by as_aux_lemma => kernel_rfl) (by simp) ?_
                      refine hcons rfl (fun K hK => ?_) (AllReadyH.nil)
                      go_simp
                      replace hc := hc.alloc hc.size (.cells #[.int .i64 (nv - 1)] 3)
                      refine hK.out _ _ ?_ (fun hHeld => ?_)
                      · (try dsimp only); exact HKB.out _ hc
                      clear hK K
                      try simp only [Act.put, List.setIfInBounds_toArray, List.set_cons_zero, List.set_cons_succ]
                      refine wpAnyH_ready (rs := [11]) (by as_aux_lemma => kernel_rfl) (by simp) ?_
                      refine hcons rfl (fun K hK => ?_) (AllReadyH.nil)
                      refine step_append_lies _ rfl (.tmp 336) (.tmp 345) 22 rfl (gn + 1) 3 i0 (.int .i64 0) 1 8 Try.underlying22 hi0 hz0 hz1 hz2 rfl (by decide) (.slice A5 (hlL c 0 0 k c.high i).length cc5) (hlL c 0 0 k c.high i).length ((hlL c 0 0 k c.high i).map (Value.int .i64)) rfl (own_below HOWN.out hc) ⟨Wn.heap.size, 0, none⟩ 1 1 [.int .i64 (nv - 1)] rfl rfl (World.news_of_block (heap_alloc_new Wn.drew _)) (by simp [Value.oneCell']) (by decide) (by unfold maxLen; omega) (by omega) (Nat.le_trans hz5 hc.size) _ rfl ?_; intro g6 cap6 w6 ho6 hg6 hv6 _; have hst := HH1.out.app HOWN.out HOX.out hg6 ho6 hHL; have HFIN := Lib.hid hst.1.2.2; have hst1 := hst.1.1; have hst2 := hst.1.2.1; have HCL := Lib.hid hst.2; clear hst
                      refine hK.out _ _ ?_ (fun hHeld => ?_)
                      · (try dsimp only); exact HS.out _ HCL.out
                      clear hK K
                      try simp only [Act.put, List.setIfInBounds_toArray, List.set_cons_zero, List.set_cons_succ]
                      refine htake (i := 12) (v := ?v21) rfl (by as_aux_lemma => kernel_rfl) (by as_aux_lemma => kernel_rfl) (by as_aux_lemma => kernel_rfl) (fun _ _ _ h => h) (Or.inl ⟨by rfl, ?hy21⟩) (by assumption) ?_
                      case hy21 => (intro w hSw; (try dsimp only at hSw); go_simp; try (with_reducible rfl))
                      try simp only [Act.put, List.setIfInBounds_toArray, List.set_cons_zero, List.set_cons_succ]
                      refine wpAnyH_ready (rs := [13]) (by as_aux_lemma => kernel_rfl) (by simp) ?_
                      refine hcons rfl (fun K hK => ?_) (AllReadyH.nil)
                      go_simp
                      refine hK.out _ _ ?_ (fun hHeld => ?_)
                      · (try dsimp only); exact ⟨(World.cell?_setCell_other _ _ _ _ (by intro e'; injection e' with e'; exact HGN.out.2.2 e')).trans (HS.out _ HCL.out).1, (World.cell?_setCell_other _ _ _ _ (by intro e'; injection e' with e'; exact HGN.out.2.1 e')).trans (HS.out _ HCL.out).2.1, (World.cell?_setCell_other _ _ _ _ (by intro e'; injection e' with e'; exact HGN.out.1 e')).trans (HS.out _ HCL.out).2.2⟩
                      clear hK K
                      try simp only [Act.put]
                      refine wpAnyH_done (by as_aux_lemma => kernel_rfl) ?_ _
                      refine NoPanic.normal ?_
                      rotate_left
                      go_simp
                      replace hc := hc.alloc hc.size (.cells #[.int .i64 (nv - 1)] 3)
                      refine hK.out _ _ ?_ (fun hHeld => ?_)
                      · (try dsimp only); exact HKB.out _ hc
                      clear hK K
                      try simp only [Act.put, List.setIfInBounds_toArray, List.set_cons_zero, List.set_cons_succ]
                      refine wpAnyH_ready (rs := [1]) (by as_aux_lemma => kernel_rfl) (by simp) ?_
                      refine hcons rfl (fun K hK => ?_) (AllReadyH.nil)
                      have q0 := HQ0.out; have q1 := HQ1.out; go_simp
                      refine hK.out _ _ ?_ (fun hHeld => ?_)
                      · (try dsimp only); exact HKB.out _ hc
                      clear hK K
                      try simp only [Act.put, List.setIfInBounds_toArray, List.set_cons_zero, List.set_cons_succ]
                      refine wpAnyH_ready (rs := [11]) (by as_aux_lemma => kernel_rfl) (by simp) ?_
                      refine hcons rfl (fun K hK => ?_) (AllReadyH.nil)
                      refine step_append_lies _ rfl (.tmp 336) (.tmp 345) 22 rfl (gn + 1) 3 i0 (.int .i64 0) 1 8 Try.underlying22 hi0 hz0 hz1 hz2 rfl (by decide) (.slice A5 (hlL c 0 0 k c.high i).length cc5) (hlL c 0 0 k c.high i).length ((hlL c 0 0 k c.high i).map (Value.int .i64)) rfl (own_below HOWN.out hc) ⟨Wn.heap.size, 0, none⟩ 1 1 [.int .i64 (nv - 1)] rfl rfl (World.news_of_block (heap_alloc_new Wn.drew _)) (by simp [Value.oneCell']) (by decide) (by unfold maxLen; omega) (by omega) (Nat.le_trans hz5 hc.size) _ rfl ?_; intro g6 cap6 w6 ho6 hg6 hv6 _; have hst := HH1.out.app HOWN.out HOX.out hg6 ho6 hHL; have HFIN := Lib.hid hst.1.2.2; have hst1 := hst.1.1; have hst2 := hst.1.2.1; have HCL := Lib.hid hst.2; clear hst
                      refine hK.out _ _ ?_ (fun hHeld => ?_)
                      · (try dsimp only); exact HS.out _ HCL.out
                      clear hK K
                      try simp only [Act.put, List.setIfInBounds_toArray, List.set_cons_zero, List.set_cons_succ]
                      refine htake (i := 12) (v := ?v22) rfl (by as_aux_lemma => kernel_rfl) (by as_aux_lemma => kernel_rfl) (by as_aux_lemma => kernel_rfl) (fun _ _ _ h => h) (Or.inl ⟨by rfl, ?hy22⟩) (by assumption) ?_
                      case hy22 => (intro w hSw; (try dsimp only at hSw); go_simp; try (with_reducible rfl))
                      try simp only [Act.put, List.setIfInBounds_toArray, List.set_cons_zero, List.set_cons_succ]
                      refine wpAnyH_ready (rs := [13]) (by as_aux_lemma => kernel_rfl) (by simp) ?_
                      refine hcons rfl (fun K hK => ?_) (AllReadyH.nil)
                      go_simp
                      refine hK.out _ _ ?_ (fun hHeld => ?_)
                      · (try dsimp only); exact ⟨(World.cell?_setCell_other _ _ _ _ (by intro e'; injection e' with e'; exact HGN.out.2.2 e')).trans (HS.out _ HCL.out).1, (World.cell?_setCell_other _ _ _ _ (by intro e'; injection e' with e'; exact HGN.out.2.1 e')).trans (HS.out _ HCL.out).2.1, (World.cell?_setCell_other _ _ _ _ (by intro e'; injection e' with e'; exact HGN.out.1 e')).trans (HS.out _ HCL.out).2.2⟩
                      clear hK K
                      try simp only [Act.put]
                      refine wpAnyH_done (by as_aux_lemma => kernel_rfl) ?_ _
                      refine NoPanic.normal ?_
                      iterate 15 (try clear hHeld)
                      all_goals (go_wp2_with fail)
                      all_goals (refine endM (by kernel_rfl) (by kernel_rfl) ⟨i + 1, by omega, slotF_at rfl, by rw [slotF_at rfl, HV2.out], HFIN.out⟩ ?_)
                      all_goals (show c.piece.length - (intOf (slotF _ 26)).toNat < c.piece.length - (intOf (f6 26)).toNat; rw [slotF_at rfl, HE26.out]; have := HMI.out; simp [intOf]; omega)
                  · have hpl : ¬ ((colI c i) < k) := by
                      intro h
                      refine hin ?_
                      unfold insR inS
                      simp only [Bool.and_eq_true, decide_eq_true_eq]
                      omega
                    rw [if_neg hin] at hHL
                    have hnm : nmS c 0 0 k c.high (i + 1) = nmS c 0 0 k c.high i := by rw [hST2, if_neg (fun h => hin h.1)]
                    have HH1 := Lib.hid ((HH.out.skip hnm).out hHL)
                    have HV2 := Lib.hid (show (nmS c 0 0 k c.high (i + 1)).2 = (nmS c 0 0 k c.high i).2 from by rw [hnm])
                    have hwr1 : IntKind.i64.wrap (colI c i) = colI c i := IntWalk.i64_in _ (by omega)
                    have hwr2 : IntKind.i64.wrap (rowI c i) = rowI c i := IntWalk.i64_in _ (by omega)
                    have hpl2 : k ≤ colI c i := by omega
                    clear hnm hST2 hNM hNM1 hnb hnb1 hmb1 hmb hHL hin hpl
                    generalize colI c i = cl at *
                    generalize rowI c i = rw_ at *
                    go_wp2_with fail
                    refine endM (by kernel_rfl) (by kernel_rfl) ⟨i + 1, by omega, slotF_at rfl, by rw [slotF_at rfl, HV2.out], HH1.out⟩ ?_
                    show c.piece.length - (intOf (slotF _ 26)).toNat < c.piece.length - (intOf (f6 26)).toNat
                    rw [slotF_at rfl, HE26.out]
                    have := HMI.out
                    simp [intOf]
                    omega
                · have hiI : ¬ (i : Int) < (c.piece.length : Int) := by omega
                  obtain rfl : i = c.piece.length := by omega
                  clear hil hwi
                  obtain ⟨v, hown, hox⟩ := HH.out.ex
                  obtain ⟨A5, cc5, rfl, -⟩ := own_form hown
                  have hat : At Vf Vf.heap.size 1 icell A5 (hlL c 0 0 k c.high c.piece.length) := by
                    rw [← flat_icellS] at hown
                    obtain ⟨A2, cc2, ee1, h8⟩ := own_at (cells := icell) (size := 1) (fun _ => rfl) (by omega) hown
                    injection ee1 with ee1
                    rw [ee1]; exact h8
                  have hsw := HSW.out A5 cc5
                  have hhe : halfS c 0 0 k c.high A5 cc5 = ⟨k, c.high, hlL c 0 0 k c.high c.piece.length, A5, cc5⟩ := by
                    unfold halfS
                    rw [show k - 0 = k by omega, show c.high - 0 = c.high by omega]
                  rw [hhe] at hsw
                  have hll2 : (hlL c 0 0 k c.high c.piece.length).length ≤ 1000 := by
                    rw [hl_len]
                    unfold rlL
                    rw [List.length_map]
                    have := List.length_filter_le (fun i => insR c i 0 0 k c.high) (List.range c.piece.length)
                    rw [List.length_range] at this
                    omega
                  obtain ⟨tc, htc⟩ : ∃ t : Cut, t = ⟨k, c.high, hlL c 0 0 k c.high c.piece.length, A5, cc5⟩ := ⟨_, rfl⟩
                  have hct : CutAt Vf Vf.heap.size tc := by rw [htc]; exact ⟨hat, by show (hlL c 0 0 k c.high c.piece.length).length ≤ _; omega⟩
                  have hmm := (nm_ok OK.out 0 0 k c.high c.piece.length (Nat.le_refl _)).many
                  rw [← htc] at hsw
                  obtain ⟨mm, hmmE⟩ : ∃ m, m = (nmS c 0 0 k c.high c.piece.length).2 := ⟨_, rfl⟩
                  rw [← hmmE] at hsw hmm ⊢
                  have o0 := hox.c 0 _ rfl
                  have o1 := hox.c 1 _ rfl
                  have o2 := hox.c 2 _ rfl
                  have HCT := Lib.hid hct
                  have HSWE := Lib.hid hsw
                  have HTC := Lib.hid htc
                  have HSM := Lib.hid (show SwM2 c w Vf from ⟨HH.out.xc, HH.out.cc.more (by have := HH.out.o; have := HH.out.z; omega), HH.out.b⟩)
                  have hw9 : IntKind.i64.wrap (mm - 1) = mm - 1 := IntWalk.i64_in _ (by omega)
                  clear hown hox hat hsw hhe hct htc hmmE HH
                  go_wp2_with fail
                  have hsaw := SawP_any tc Vf HCT.out
                  rw [HTC.out] at hsaw
                  dsimp only at hsaw
                  refine hsaw.mono ?_
                  rintro e Vg ⟨A7, k7, rfl, -, hb⟩
                  rw [← HTC.out, HSWE.out.1]
                  have e8 : (((sawL tc).length : Int) == mm - 1) = true := by rw [HSWE.out.2]; simp
                  have e8' : (((sawL tc).length : Int) != mm - 1) = false := by rw [HSWE.out.2]; simp
                  have HSM2 := Lib.hid (HSM.out.next hb)
                  clear hsaw hb o0 o1 o2
                  generalize (sawL tc).length = sl at *
                  go_wp2_with fail
                  refine endM (by kernel_rfl) (by kernel_rfl) ⟨1, by omega, slotF_at rfl, HSM2.out⟩ ?_
                  show (2 - intOf (slotF _ 22)).toNat < (2 - intOf (f5 22)).toNat
                  rw [slotF_at rfl, HE22.out]
                  decide
              · skip
                have hxo := Bx.new Va #[.int .i64 c.wide, .int .i64 k, .slice none 0 0] 24
                have hbv := nxA Va (.cells #[.int .i64 c.wide, .int .i64 k, .slice none 0 0] 24)
                have hwk1 : IntKind.i64.wrap (c.high - k) = c.high - k := IntWalk.i64_in _ (by omega)
                have hwk2 : IntKind.i64.wrap (c.wide - k) = c.wide - k := IntWalk.i64_in _ (by omega)
                have RC := Lib.hid (show RcC c k 0 c.wide c.high from ⟨by omega, by omega⟩)
                have HSP := Lib.hid (show ∀ p q : Pt, inG c p → inG c q → InR k 0 c.wide c.high p → ¬ InR k 0 c.wide c.high q → pcOf c p ≠ pcOf c q from fun p q hp hq h1 h2 => by
                  rw [inG_bd] at hp hq
                  exact (HGO.out q p (by unfold InR at *; omega) (by unfold InR at *; omega)).symm)
                have HSW := Lib.hid (fun (A : Option Addr) (cap : Nat) => half_saw (A := A) (cap := cap) GC.out HSB.out RC.out HSP.out)
                have d0 := HM.out.x.c 0 _ rfl
                have d1 := HM.out.x.c 1 _ rfl
                go_upto_region 41 with fail
                have HMA := Lib.hid HM.out
                have hgl := HM.out.x.lt
                obtain ⟨go, hgo⟩ : ∃ g, g = Va.heap.size := ⟨_, rfl⟩
                have hz1 : (Va.alloc (.cells #[.int .i64 c.wide, .int .i64 k, .slice none 0 0] 24)).heap.size = go + 1 := by simp [hgo]
                rw [← hgo] at hxo hbv hgl ⊢
                have HCG := Lib.hid (show CutAt Va go c from by rw [hgo]; exact HM.out.cc)
                have d0 := (HM.out.x.next (hgo ▸ hbv)).c 0 _ rfl
                have d1 := (HM.out.x.next (hgo ▸ hbv)).c 1 _ rfl
                generalize (Va.alloc (.cells #[.int .i64 c.wide, .int .i64 k, .slice none 0 0] 24)) = V1 at *
                have q0 := hxo.c 0 _ rfl
                have q1 := hxo.c 1 _ rfl
                have q2 := hxo.c 2 _ rfl
                have p0 := hxo.fr 0
                have p1 := hxo.fr 1
                have p2 := hxo.fr 2
                have hne : ¬ w.heap.size = go := by omega
                clear hgo
                have HXO := Lib.hid hxo
                have HBV := Lib.hid hbv
                clear hxo hbv
                go_upto_region 47 with fail
                have hxo := HXO.out
                have hbv := HBV.out
                clear q0 q1 q2 p0 p1 p2 d0 d1 HXO HBV
                have hxo := hxo.set (k := 1) (by simp) (.int .i64 (c.high - k))
                have hbv := hbv.setCell (p := ⟨go, 1, none⟩) (Nat.le_refl _) (.int .i64 (c.high - k))
                have hxo := hxo.setAll [.int .i64 (c.high - k), .int .i64 (c.high), .slice none 0 0] rfl
                have hbv := below_setCells (b := go) (B := go) (Nat.le_refl _) [.int .i64 (c.high - k), .int .i64 (c.high), .slice none 0 0] 0 hbv
                have hxo := hxo.set (k := 0) (by simp) (.int .i64 (c.wide - k))
                have hbv := hbv.setCell (p := ⟨go, 0, none⟩) (Nat.le_refl _) (.int .i64 (c.wide - k))
                obtain ⟨V2, hV2⟩ : ∃ V, V = (((((V1.setCell ⟨go, 1, none⟩ (.int .i64 (c.high - k))).setCell ⟨go, 0, none⟩ (.int .i64 (c.high - k))).setCell ⟨go, 1, none⟩ (.int .i64 (c.high))).setCell ⟨go, 2, none⟩ (.slice none 0 0)).setCell ⟨go, 0, none⟩ (.int .i64 (c.wide - k))) := ⟨_, rfl⟩
                have hz2 : V2.heap.size = go + 1 := by rw [hV2]; simp [hz1]
                rw [← hV2]
                replace hxo : Bx V2 go [.int .i64 (c.wide - k), .int .i64 c.high, .slice none 0 0] := by rw [hV2]; exact hxo
                replace hbv : Below go Va V2 := by rw [hV2]; exact hbv
                have HZ2 := Lib.hid hz2
                clear hV2 hz1 hz2
                go_upto_region 50 with fail
                have hz2 := HZ2.out
                have hn4 := nxA V2 (.cells (zeros 40) 50)
                obtain ⟨gn, hgn⟩ : ∃ g, g = V2.heap.size := ⟨_, rfl⟩
                obtain ⟨V3b, hV3⟩ : ∃ V, V = V2.alloc (.cells (zeros 40) 50) := ⟨_, rfl⟩
                have hz3 : V3b.heap.size = gn + 1 := by rw [hV3, hgn]; simp
                have HN0 := Lib.hid (show H6 c k 0 c.wide c.high (c.wide - k) c.high go gn (gn + 1) w V3b 0 0 from by
                  have hb4 : Below go Va V3b := by rw [hV3]; exact hbv.trans (hn4.mono (by omega))
                  refine ⟨HMA.out.x.below hb4 hgl, HCG.out.below hb4, HMA.out.b.trans (hb4.mono (by omega)), ?_, ⟨.slice none 0 0, World.ownsRow_nil _ _ _ _, ?_⟩, by omega, by omega⟩
                  · rw [hV3, hgn]; exact (IBlk.zeros V2 40 _).congr (fun _ => rfl)
                  · rw [hV3]; exact hxo.next hn4)
                rw [zeros40L] at hV3
                rw [← hV3, ← hgn]
                clear hV3 hgn hn4 hxo hbv hz2 hz3 hgl hne HMA HCG
                obtain ⟨i0, hi0, hz0, hz1, hz2⟩ := info_parts int_info
                have hplen : c.piece.length ≤ 1000 := by
                  have h1 := OK.out.len
                  have := Int.mul_le_mul hwd.2 hhd.2 (by omega) (by omega)
                  omega
                refine wp_loopM snI (fun f' V' => ∃ i : Nat, i ≤ c.piece.length ∧ f' 26 = .int .i64 (i : Int) ∧ f' 25 = .int .i64 (nmS c k 0 c.wide c.high i).2 ∧ H6 c k 0 c.wide c.high (c.wide - k) c.high go gn (gn + 1) w V' i i) (fun f' _ => c.piece.length - (intOf (f' 26)).toNat) (by kernel_rfl) ⟨0, by omega, slotF_at rfl, slotF_at rfl, HN0.out⟩ ?_
                clear HN0
                intro f6 Vf hrel
                obtain ⟨i, hi, e26, e25, hh⟩ := hrel
                simp only [snI, mixF, e26, e25]
                have HE26 := Lib.hid e26
                have HH := Lib.hid hh
                clear e26 e25 hh
                have c0 := HH.out.xc.c 0 _ rfl
                have c2 := HH.out.xc.c 2 _ rfl
                have hwi : IntKind.i64.wrap ((i : Int) + 1) = (i : Int) + 1 := IntWalk.i64_in _ (by omega)
                by_cases hil : i < c.piece.length
                · have hiI : (i : Int) < (c.piece.length : Int) := by omega
                  have HMI := Lib.hid (show c.piece.length - (i + 1) < c.piece.length - i from by omega)
                  have hcell := OK.out.cell hil
                  have hqf := quo_facts OK.out hil
                  have hq1 : Int.tmod (i : Int) c.wide = colI c i := hqf.1
                  have hq2 : Int.tdiv (i : Int) c.wide = rowI c i := hqf.2.1
                  have hNM := nm_ok OK.out k 0 c.wide c.high i (by omega)
                  have hNM1 := nm_ok OK.out k 0 c.wide c.high (i + 1) (by omega)
                  have hHL := hl_add OK.out (x0 := k) (y0 := 0) (x1 := c.wide) (y1 := c.high) hil
                  have hST : nmS c k 0 c.wide c.high (i + 1) = nmStep c k 0 c.wide c.high (nmS c k 0 c.wide c.high i) i := rfl
                  have hRL : (hlL c k 0 c.wide c.high i).length ≤ c.piece.length := by
                    rw [hl_len]
                    unfold rlL
                    rw [List.length_map]
                    have := List.length_filter_le (fun i => insR c i k 0 c.wide c.high) (List.range i)
                    rw [List.length_range] at this
                    omega
                  have hpb := at_pc OK.out hil
                  have hpe : c.piece.getD i 0 = atI c i := rfl
                  obtain ⟨pb, po, ec, hbk, g0⟩ := int_at HH.out.cc.pa hil
                  rw [hpe] at g0
                  rw [ec] at c2
                  obtain ⟨p, hp⟩ : ∃ p : Nat, (p : Int) = atI c i := ⟨(atI c i).toNat, by omega⟩
                  have hp40 : p < 40 := by omega
                  have hpt : (atI c i).toNat = p := by omega
                  rw [hpt] at hHL
                  have hST2 : nmS c k 0 c.wide c.high (i + 1) = if insR c i k 0 c.wide c.high = true ∧ (nmS c k 0 c.wide c.high i).1 p = 0 then (fun q => if q = p then (nmS c k 0 c.wide c.high i).2 + 1 else (nmS c k 0 c.wide c.high i).1 q, (nmS c k 0 c.wide c.high i).2 + 1) else nmS c k 0 c.wide c.high i := by
                    rw [hST]; unfold nmStep; rw [hpt]
                  rw [← hp] at g0
                  have HPP := Lib.hid hp
                  have hmb := hNM.many
                  have hmb1 := hNM1.many
                  have hnb := hNM.b p
                  have hnb1 := hNM1.b p
                  have y0 := HH.out.nm.cell p hp40
                  have y1 := HH.out.nm.free p
                  clear hST hpe ec hpt hqf hpb hp
                  have hr0 : 0 ≤ colI c i ∧ colI c i ≤ 12 := by omega
                  have hr1 : 0 ≤ rowI c i ∧ rowI c i ≤ 12 := by omega
                  by_cases hin : insR c i k 0 c.wide c.high = true
                  · have hpl : k ≤ colI c i := by
                      unfold insR inS at hin
                      simp only [Bool.and_eq_true, decide_eq_true_eq] at hin
                      omega
                    rw [if_pos hin] at hHL
                    have hwr1 : IntKind.i64.wrap (colI c i) = colI c i := IntWalk.i64_in _ (by omega)
                    have hwr2 : IntKind.i64.wrap (rowI c i) = rowI c i := IntWalk.i64_in _ (by omega)
                    skip
                    generalize colI c i = cl at *
                    generalize rowI c i = rw_ at *
                    by_cases hn0 : (nmS c k 0 c.wide c.high i).1 p = 0
                    · have hnm : nmS c k 0 c.wide c.high (i + 1) = (fun q => if q = p then (nmS c k 0 c.wide c.high i).2 + 1 else (nmS c k 0 c.wide c.high i).1 q, (nmS c k 0 c.wide c.high i).2 + 1) := by rw [hST2, if_pos ⟨hin, hn0⟩]
                      have HH1 := Lib.hid (HH.out.name (p := p) (m := (nmS c k 0 c.wide c.high i).2 + 1) hp40 (by rw [hnm]; exact if_pos rfl) (fun q hq => by rw [hnm]; exact if_neg hq))
                      have hv1 : (nmS c k 0 c.wide c.high (i + 1)).1 p = (nmS c k 0 c.wide c.high i).2 + 1 := by rw [hnm]; exact if_pos rfl
                      have hv2 : (nmS c k 0 c.wide c.high (i + 1)).2 = (nmS c k 0 c.wide c.high i).2 + 1 := by rw [hnm]
                      rw [hv1] at hHL
                      rw [hn0] at y0
                      have hw7 : IntKind.i64.wrap ((nmS c k 0 c.wide c.high i).2 + 1) = (nmS c k 0 c.wide c.high i).2 + 1 := IntWalk.i64_in _ (by omega)
                      have HV2 := Lib.hid hv2
                      clear hnm hv1 hv2 hn0 hST2 hNM hNM1 hnb hnb1 hmb1
                      obtain ⟨mm, hmm⟩ : ∃ m, m = (nmS c k 0 c.wide c.high i).2 := ⟨_, rfl⟩
                      rw [← hmm] at HV2 HH1 hHL hw7 hmb ⊢
                      have hi1 : (p : Int) < 40 := by omega
                      have hx8 : mm + 1 - 1 = mm := by omega
                      rw [hx8] at hHL
                      clear hmm hx8
                      go_wp2_with fail
                      generalize hWn : (Vf.setCell ⟨gn, p, none⟩ (.int .i64 (mm + 1))) = Wn at *
                      have s2 := HH1.out.nm.cell p hp40
                      rw [show (nmS c k 0 c.wide c.high (i + 1)).1 p = mm + 1 from by
                        have h9 := World.cell?_setCell_same' Vf ⟨gn, p, none⟩ (.int .i64 (mm + 1)) (by rw [y0]; rfl)
                        rw [hWn, s2] at h9
                        injection h9 with h9
                        injection h9] at s2
                      have hsb : IntKind.i64.wrap (mm + 1 - 1) = mm := by rw [Int.add_sub_cancel]; exact IntWalk.i64_in _ (by omega)
                      have hsb' : IntKind.i64.wrap mm = mm := IntWalk.i64_in _ (by omega)
                      clear hWn y0 y1
                      obtain ⟨v, hown, hox⟩ := HH1.out.ex
                      obtain ⟨A5, cc5, rfl, -⟩ := own_form hown
                      have HOWN := Lib.hid hown
                      have HOX := Lib.hid hox
                      have s0 := HH1.out.xc.c 2 _ rfl
                      obtain ⟨pb2, po2, ec2, hbk2, s1⟩ := int_at HH1.out.cc.pa hil
                      rw [show c.piece.getD i 0 = atI c i from rfl, ← HPP.out] at s1
                      rw [ec2] at s0
                      have HIX := Lib.hid hi1
                      have hz5 := HH1.out.z
                      have ho5 := HH1.out.o
                      have HS := Lib.hid (show ∀ W : World, (∀ bb oo, bb < gn + 1 → W.cell? ⟨bb, oo, none⟩ = Wn.cell? ⟨bb, oo, none⟩) → (W.cell? ⟨w.heap.size, 2, none⟩ = some (.slice (some ⟨pb2, po2, none⟩) c.piece.length c.c) ∧ W.cell? ⟨pb2, po2 + i, none⟩ = some (.int .i64 (p : Int)) ∧ W.cell? ⟨gn, p, none⟩ = some (.int .i64 (mm + 1))) from fun W h => ⟨(h _ _ (by omega)).trans s0, (h _ _ (by omega)).trans s1, (h _ _ (by omega)).trans s2⟩)
                      have hc : Below Wn.heap.size Wn Wn.drew := (Below.refl _ _).drew
                      have HQ0 := Lib.hid (hox.c 2 _ rfl)
                      have HQ1 := Lib.hid ((hox.next (nxA Wn (.cells #[.int .i64 mm] 3))).c 2 _ rfl)
                      have HKB := Lib.hid (fun (W : World) (h : Below Wn.heap.size Wn W) => HS.out W (fun bb oo hb => h.cell (p := ⟨bb, oo, none⟩) (by show bb < Wn.heap.size; omega)))
                      have HGN := Lib.hid (show ¬ go = gn ∧ ¬ go = pb2 ∧ ¬ go = w.heap.size from by omega)
                      clear c0 c2 g0 hox hbk hbk2 ec2
                      refine wp_region_noPanic ?_
                      refine wp_region_held_drew (S := (fun W => W.cell? ⟨w.heap.size, 2, none⟩ = some (.slice (some ⟨pb2, po2, none⟩) c.piece.length c.c) ∧ W.cell? ⟨pb2, po2 + i, none⟩ = some (.int .i64 (p : Int)) ∧ W.cell? ⟨gn, p, none⟩ = some (.int .i64 (mm + 1)))) (by as_aux_lemma => kernel_rfl) ?_ (fun hHeld => ?_)
                      · (try dsimp only); exact HKB.out _ hc
                      refine htake (i := 0) (v := ?v23) rfl (by as_aux_lemma => kernel_rfl) (by as_aux_lemma => kernel_rfl) (by as_aux_lemma => kernel_rfl) (fun _ _ _ h => h) (Or.inl ⟨by rfl, ?hy23⟩) (by assumption) ?_
                      case hy23 => (intro w hSw; (try dsimp only at hSw); go_simp; try (with_reducible rfl))
                      try simp only [Act.put, List.setIfInBounds_toArray, List.set_cons_zero, List.set_cons_succ]
                      refine htake (i := 2) (v := ?v24) rfl (by as_aux_lemma => kernel_rfl) (by as_aux_lemma => kernel_rfl) (by as_aux_lemma => kernel_rfl) (fun _ _ _ h => h) (Or.inl ⟨by rfl, ?hy24⟩) (by assumption) ?_
                      case hy24 => (intro w hSw; (try dsimp only at hSw); go_simp; try (with_reducible rfl))
                      try simp only [Act.put, List.setIfInBounds_toArray, List.set_cons_zero, List.set_cons_succ]
                      refine htake (i := 3) (v := ?v25) rfl (by as_aux_lemma => kernel_rfl) (by as_aux_lemma => kernel_rfl) (by as_aux_lemma => kernel_rfl) (fun _ _ _ h => h) (Or.inl ⟨by rfl, ?hy25⟩) (by assumption) ?_
                      case hy25 => (intro w hSw; (try dsimp only at hSw); go_simp; try (with_reducible rfl))
                      try simp only [Act.put, List.setIfInBounds_toArray, List.set_cons_zero, List.set_cons_succ]
                      refine htake (i := 4) (v := ?v26) rfl (by as_aux_lemma => kernel_rfl) (by as_aux_lemma => kernel_rfl) (by as_aux_lemma => kernel_rfl) (fun _ _ _ h => h) (Or.inl ⟨by rfl, ?hy26⟩) (by assumption) ?_
                      case hy26 => (intro w hSw; (try dsimp only at hSw); go_simp; try (with_reducible rfl))
                      try simp only [Act.put, List.setIfInBounds_toArray, List.set_cons_zero, List.set_cons_succ]
                      refine htake (i := 5) (v := ?v27) rfl (by as_aux_lemma => kernel_rfl) (by as_aux_lemma => kernel_rfl) (by as_aux_lemma => kernel_rfl) (fun _ _ _ h => h) (Or.inl ⟨by rfl, ?hy27⟩) (by assumption) ?_
                      case hy27 => (intro w hSw; (try dsimp only at hSw); go_simp; try (with_reducible rfl))
                      try simp only [Act.put, List.setIfInBounds_toArray, List.set_cons_zero, List.set_cons_succ]
                      refine htake (i := 6) (v := ?v28) rfl (by as_aux_lemma => kernel_rfl) (by as_aux_lemma => kernel_rfl) (by as_aux_lemma => kernel_rfl) (fun _ _ _ h => h) (Or.inl ⟨by rfl, ?hy28⟩) (by assumption) ?_
                      case hy28 => (intro w hSw; (try dsimp only at hSw); go_simp; try (with_reducible rfl))
                      try simp only [Act.put, List.setIfInBounds_toArray, List.set_cons_zero, List.set_cons_succ]
                      refine htake (i := 7) (v := ?v29) rfl (by as_aux_lemma => kernel_rfl) (by as_aux_lemma => kernel_rfl) (by as_aux_lemma => kernel_rfl) (fun _ _ _ h => h) (Or.inl ⟨by rfl, ?hy29⟩) (by assumption) ?_
                      case hy29 => (intro w hSw; (try dsimp only at hSw); go_simp; try (with_reducible rfl))
                      try simp only [Act.put, List.setIfInBounds_toArray, List.set_cons_zero, List.set_cons_succ]
                      refine htake (i := 8) (v := ?v30) rfl (by as_aux_lemma => kernel_rfl) (by as_aux_lemma => kernel_rfl) (by as_aux_lemma => kernel_rfl) (fun _ _ _ h => h) (Or.inl ⟨by rfl, ?hy30⟩) (by assumption) ?_
                      case hy30 => (intro w hSw; (try dsimp only at hSw); go_simp; try (with_reducible rfl))
                      try simp only [Act.put, List.setIfInBounds_toArray, List.set_cons_zero, List.set_cons_succ]
                      refine htake (i := 9) (v := ?v31) rfl (by as_aux_lemma => kernel_rfl) (by as_aux_lemma => kernel_rfl) (by as_aux_lemma => kernel_rfl) (fun _ _ _ h => h) (Or.inl ⟨by rfl, ?hy31⟩) (by assumption) ?_
                      case hy31 => (intro w hSw; (try dsimp only at hSw); go_simp; try (with_reducible rfl))
                      try simp only [Act.put, List.setIfInBounds_toArray, List.set_cons_zero, List.set_cons_succ]
                      refine wpAnyH_ready (rs := [1, 10]) (by as_aux_lemma => kernel_rfl) (by simp) ?_
                      refine hcons rfl (fun K hK => ?_) (hcons rfl (fun K hK => ?_) (AllReadyH.nil))
                      have q0 := HQ0.out; have q1 := HQ1.out; go_simp
                      refine hK.out _ _ ?_ (fun hHeld => ?_)
                      · (try dsimp only); exact HKB.out _ hc
                      clear hK K
                      try simp only [Act.put, List.setIfInBounds_toArray, List.set_cons_zero, List.set_cons_succ]
                      refine wpAnyH_ready (rs := [10]) (by as_aux_lemma => kernel_rfl) (by simp) ?_
                      refine hcons rfl (fun K hK => ?_) (AllReadyH.nil)
                      go_simp
                      replace hc := hc.alloc hc.size (.cells #[.int .i64 mm] 3)
                      refine hK.out _ _ ?_ (fun hHeld => ?_)
                      · (try dsimp only); exact HKB.out _ hc
                      clear hK K
                      try simp only [Act.put, List.setIfInBounds_toArray, List.set_cons_zero, List.set_cons_succ]
                      refine wpAnyH_ready (rs := [11]) (by as_aux_lemma => kernel_rfl) (by simp) ?_
                      refine hcons rfl (fun K hK => ?_) (AllReadyH.nil)
                      refine step_append_lies _ rfl (.tmp 336) (.tmp 345) 22 rfl (gn + 1) 3 i0 (.int .i64 0) 1 8 Try.underlying22 hi0 hz0 hz1 hz2 rfl (by decide) (.slice A5 (hlL c k 0 c.wide c.high i).length cc5) (hlL c k 0 c.wide c.high i).length ((hlL c k 0 c.wide c.high i).map (Value.int .i64)) rfl (own_below HOWN.out hc) ⟨Wn.heap.size, 0, none⟩ 1 1 [.int .i64 mm] rfl rfl (World.news_of_block (heap_alloc_new Wn.drew _)) (by simp [Value.oneCell']) (by decide) (by unfold maxLen; omega) (by omega) (Nat.le_trans hz5 hc.size) _ rfl ?_; intro g6 cap6 w6 ho6 hg6 hv6 _; have hst := HH1.out.app HOWN.out HOX.out hg6 ho6 hHL; have HFIN := Lib.hid hst.1.2.2; have hst1 := hst.1.1; have hst2 := hst.1.2.1; have HCL := Lib.hid hst.2; clear hst
                      refine hK.out _ _ ?_ (fun hHeld => ?_)
                      · (try dsimp only); exact HS.out _ HCL.out
                      clear hK K
                      try simp only [Act.put, List.setIfInBounds_toArray, List.set_cons_zero, List.set_cons_succ]
                      refine htake (i := 12) (v := ?v32) rfl (by as_aux_lemma => kernel_rfl) (by as_aux_lemma => kernel_rfl) (by as_aux_lemma => kernel_rfl) (fun _ _ _ h => h) (Or.inl ⟨by rfl, ?hy32⟩) (by assumption) ?_
                      case hy32 => (intro w hSw; (try dsimp only at hSw); go_simp; try (with_reducible rfl))
                      try simp only [Act.put, List.setIfInBounds_toArray, List.set_cons_zero, List.set_cons_succ]
                      refine wpAnyH_ready (rs := [13]) (by as_aux_lemma => kernel_rfl) (by simp) ?_
                      refine hcons rfl (fun K hK => ?_) (AllReadyH.nil)
                      go_simp
                      refine hK.out _ _ ?_ (fun hHeld => ?_)
                      · (try dsimp only); exact ⟨(World.cell?_setCell_other _ _ _ _ (by intro e'; injection e' with e'; exact HGN.out.2.2 e')).trans (HS.out _ HCL.out).1, (World.cell?_setCell_other _ _ _ _ (by intro e'; injection e' with e'; exact HGN.out.2.1 e')).trans (HS.out _ HCL.out).2.1, (World.cell?_setCell_other _ _ _ _ (by intro e'; injection e' with e'; exact HGN.out.1 e')).trans (HS.out _ HCL.out).2.2⟩
                      clear hK K
                      try simp only [Act.put]
                      refine wpAnyH_done (by as_aux_lemma => kernel_rfl) ?_ _
                      refine NoPanic.normal ?_
                      rotate_left
                      go_simp
                      replace hc := hc.alloc hc.size (.cells #[.int .i64 mm] 3)
                      refine hK.out _ _ ?_ (fun hHeld => ?_)
                      · (try dsimp only); exact HKB.out _ hc
                      clear hK K
                      try simp only [Act.put, List.setIfInBounds_toArray, List.set_cons_zero, List.set_cons_succ]
                      refine wpAnyH_ready (rs := [1]) (by as_aux_lemma => kernel_rfl) (by simp) ?_
                      refine hcons rfl (fun K hK => ?_) (AllReadyH.nil)
                      have q0 := HQ0.out; have q1 := HQ1.out; go_simp
                      refine hK.out _ _ ?_ (fun hHeld => ?_)
                      · (try dsimp only); exact HKB.out _ hc
                      clear hK K
                      try simp only [Act.put, List.setIfInBounds_toArray, List.set_cons_zero, List.set_cons_succ]
                      refine wpAnyH_ready (rs := [11]) (by as_aux_lemma => kernel_rfl) (by simp) ?_
                      refine hcons rfl (fun K hK => ?_) (AllReadyH.nil)
                      refine step_append_lies _ rfl (.tmp 336) (.tmp 345) 22 rfl (gn + 1) 3 i0 (.int .i64 0) 1 8 Try.underlying22 hi0 hz0 hz1 hz2 rfl (by decide) (.slice A5 (hlL c k 0 c.wide c.high i).length cc5) (hlL c k 0 c.wide c.high i).length ((hlL c k 0 c.wide c.high i).map (Value.int .i64)) rfl (own_below HOWN.out hc) ⟨Wn.heap.size, 0, none⟩ 1 1 [.int .i64 mm] rfl rfl (World.news_of_block (heap_alloc_new Wn.drew _)) (by simp [Value.oneCell']) (by decide) (by unfold maxLen; omega) (by omega) (Nat.le_trans hz5 hc.size) _ rfl ?_; intro g6 cap6 w6 ho6 hg6 hv6 _; have hst := HH1.out.app HOWN.out HOX.out hg6 ho6 hHL; have HFIN := Lib.hid hst.1.2.2; have hst1 := hst.1.1; have hst2 := hst.1.2.1; have HCL := Lib.hid hst.2; clear hst
                      refine hK.out _ _ ?_ (fun hHeld => ?_)
                      · (try dsimp only); exact HS.out _ HCL.out
                      clear hK K
                      try simp only [Act.put, List.setIfInBounds_toArray, List.set_cons_zero, List.set_cons_succ]
                      refine htake (i := 12) (v := ?v33) rfl (by as_aux_lemma => kernel_rfl) (by as_aux_lemma => kernel_rfl) (by as_aux_lemma => kernel_rfl) (fun _ _ _ h => h) (Or.inl ⟨by rfl, ?hy33⟩) (by assumption) ?_
                      case hy33 => (intro w hSw; (try dsimp only at hSw); go_simp; try (with_reducible rfl))
                      try simp only [Act.put, List.setIfInBounds_toArray, List.set_cons_zero, List.set_cons_succ]
                      refine wpAnyH_ready (rs := [13]) (by as_aux_lemma => kernel_rfl) (by simp) ?_
                      refine hcons rfl (fun K hK => ?_) (AllReadyH.nil)
                      go_simp
                      refine hK.out _ _ ?_ (fun hHeld => ?_)
                      · (try dsimp only); exact ⟨(World.cell?_setCell_other _ _ _ _ (by intro e'; injection e' with e'; exact HGN.out.2.2 e')).trans (HS.out _ HCL.out).1, (World.cell?_setCell_other _ _ _ _ (by intro e'; injection e' with e'; exact HGN.out.2.1 e')).trans (HS.out _ HCL.out).2.1, (World.cell?_setCell_other _ _ _ _ (by intro e'; injection e' with e'; exact HGN.out.1 e')).trans (HS.out _ HCL.out).2.2⟩
                      clear hK K
                      try simp only [Act.put]
                      refine wpAnyH_done (by as_aux_lemma => kernel_rfl) ?_ _
                      refine NoPanic.normal ?_
                      iterate 15 (try clear hHeld)
                      all_goals (go_wp2_with fail)
                      all_goals (refine endM (by kernel_rfl) (by kernel_rfl) ⟨i + 1, by omega, slotF_at rfl, by rw [slotF_at rfl, HV2.out], HFIN.out⟩ ?_)
                      all_goals (show c.piece.length - (intOf (slotF _ 26)).toNat < c.piece.length - (intOf (f6 26)).toNat; rw [slotF_at rfl, HE26.out]; have := HMI.out; simp [intOf]; omega)
                    · have hnm : nmS c k 0 c.wide c.high (i + 1) = nmS c k 0 c.wide c.high i := by rw [hST2, if_neg (fun h => hn0 h.2)]
                      have HH1 := Lib.hid (HH.out.skip hnm)
                      have HV2 := Lib.hid (show (nmS c k 0 c.wide c.high (i + 1)).2 = (nmS c k 0 c.wide c.high i).2 from by rw [hnm])
                      rw [hnm] at hHL
                      clear hnm hST2 hNM hNM1 hnb1 hmb1
                      obtain ⟨mm, hmm⟩ : ∃ m, m = (nmS c k 0 c.wide c.high i).2 := ⟨_, rfl⟩
                      rw [← hmm] at HV2 hmb hnb ⊢
                      obtain ⟨nv, hnv⟩ : ∃ m, m = (nmS c k 0 c.wide c.high i).1 p := ⟨_, rfl⟩
                      rw [← hnv] at y0 hnb hHL hn0
                      have e0 : (nv == 0) = false := by simp [hn0]
                      have hi1 : (p : Int) < 40 := by omega
                      clear hmm hnv hn0
                      go_wp2_with fail
                      obtain ⟨Wn, hWn⟩ : ∃ W, W = Vf := ⟨_, rfl⟩
                      rw [← hWn] at HH1 y0 ⊢
                      have s2 := y0
                      have hsb : IntKind.i64.wrap (nv - 1) = nv - 1 := IntWalk.i64_in _ (by omega)
                      clear hWn y0 y1
                      obtain ⟨v, hown, hox⟩ := HH1.out.ex
                      obtain ⟨A5, cc5, rfl, -⟩ := own_form hown
                      have HOWN := Lib.hid hown
                      have HOX := Lib.hid hox
                      have s0 := HH1.out.xc.c 2 _ rfl
                      obtain ⟨pb2, po2, ec2, hbk2, s1⟩ := int_at HH1.out.cc.pa hil
                      rw [show c.piece.getD i 0 = atI c i from rfl, ← HPP.out] at s1
                      rw [ec2] at s0
                      have HIX := Lib.hid hi1
                      have hz5 := HH1.out.z
                      have ho5 := HH1.out.o
                      have HS := Lib.hid (show ∀ W : World, (∀ bb oo, bb < gn + 1 → W.cell? ⟨bb, oo, none⟩ = Wn.cell? ⟨bb, oo, none⟩) → (W.cell? ⟨w.heap.size, 2, none⟩ = some (.slice (some ⟨pb2, po2, none⟩) c.piece.length c.c) ∧ W.cell? ⟨pb2, po2 + i, none⟩ = some (.int .i64 (p : Int)) ∧ W.cell? ⟨gn, p, none⟩ = some (.int .i64 nv)) from fun W h => ⟨(h _ _ (by omega)).trans s0, (h _ _ (by omega)).trans s1, (h _ _ (by omega)).trans s2⟩)
                      have hc : Below Wn.heap.size Wn Wn.drew := (Below.refl _ _).drew
                      have HQ0 := Lib.hid (hox.c 2 _ rfl)
                      have HQ1 := Lib.hid ((hox.next (nxA Wn (.cells #[.int .i64 (nv - 1)] 3))).c 2 _ rfl)
                      have HKB := Lib.hid (fun (W : World) (h : Below Wn.heap.size Wn W) => HS.out W (fun bb oo hb => h.cell (p := ⟨bb, oo, none⟩) (by show bb < Wn.heap.size; omega)))
                      have HGN := Lib.hid (show ¬ go = gn ∧ ¬ go = pb2 ∧ ¬ go = w.heap.size from by omega)
                      clear c0 c2 g0 hox hbk hbk2 ec2
                      refine wp_region_noPanic ?_
                      refine wp_region_held_drew (S := (fun W => W.cell? ⟨w.heap.size, 2, none⟩ = some (.slice (some ⟨pb2, po2, none⟩) c.piece.length c.c) ∧ W.cell? ⟨pb2, po2 + i, none⟩ = some (.int .i64 (p : Int)) ∧ W.cell? ⟨gn, p, none⟩ = some (.int .i64 nv))) (by as_aux_lemma => kernel_rfl) ?_ (fun hHeld => ?_)
                      · (try dsimp only); exact HKB.out _ hc
                      refine htake (i := 0) (v := ?v34) rfl (by as_aux_lemma => kernel_rfl) (by as_aux_lemma => kernel_rfl) (by as_aux_lemma => kernel_rfl) (fun _ _ _ h => h) (Or.inl ⟨by rfl, ?hy34⟩) (by assumption) ?_
                      case hy34 => (intro w hSw; (try dsimp only at hSw); go_simp; try (with_reducible rfl))
                      try simp only [Act.put, List.setIfInBounds_toArray, List.set_cons_zero, List.set_cons_succ]
                      refine htake (i := 2) (v := ?v35) rfl (by as_aux_lemma => kernel_rfl) (by as_aux_lemma => kernel_rfl) (by as_aux_lemma => kernel_rfl) (fun _ _ _ h => h) (Or.inl ⟨by rfl, ?hy35⟩) (by assumption) ?_
                      case hy35 => (intro w hSw; (try dsimp only at hSw); go_simp; try (with_reducible rfl))
                      try simp only [Act.put, List.setIfInBounds_toArray, List.set_cons_zero, List.set_cons_succ]
                      refine htake (i := 3) (v := ?v36) rfl (by as_aux_lemma => kernel_rfl) (by as_aux_lemma => kernel_rfl) (by as_aux_lemma => kernel_rfl) (fun _ _ _ h => h) (Or.inl ⟨by rfl, ?hy36⟩) (by assumption) ?_
                      case hy36 => (intro w hSw; (try dsimp only at hSw); go_simp; try (with_reducible rfl))
                      try simp only [Act.put, List.setIfInBounds_toArray, List.set_cons_zero, List.set_cons_succ]
                      refine htake (i := 4) (v := ?v37) rfl (by as_aux_lemma => kernel_rfl) (by as_aux_lemma => kernel_rfl) (by as_aux_lemma => kernel_rfl) (fun _ _ _ h => h) (Or.inl ⟨by rfl, ?hy37⟩) (by assumption) ?_
                      case hy37 => (intro w hSw; (try dsimp only at hSw); go_simp; try (with_reducible rfl))
                      try simp only [Act.put, List.setIfInBounds_toArray, List.set_cons_zero, List.set_cons_succ]
                      refine htake (i := 5) (v := ?v38) rfl (by as_aux_lemma => kernel_rfl) (by as_aux_lemma => kernel_rfl) (by as_aux_lemma => kernel_rfl) (fun _ _ _ h => h) (Or.inl ⟨by rfl, ?hy38⟩) (by assumption) ?_
                      case hy38 => (intro w hSw; (try dsimp only at hSw); go_simp; try (with_reducible rfl))
                      try simp only [Act.put, List.setIfInBounds_toArray, List.set_cons_zero, List.set_cons_succ]
                      refine htake (i := 6) (v := ?v39) rfl (by as_aux_lemma => kernel_rfl) (by as_aux_lemma => kernel_rfl) (by as_aux_lemma => kernel_rfl) (fun _ _ _ h => h) (Or.inl ⟨by rfl, ?hy39⟩) (by assumption) ?_
                      case hy39 => (intro w hSw; (try dsimp only at hSw); go_simp; try (with_reducible rfl))
                      try simp only [Act.put, List.setIfInBounds_toArray, List.set_cons_zero, List.set_cons_succ]
                      refine htake (i := 7) (v := ?v40) rfl (by as_aux_lemma => kernel_rfl) (by as_aux_lemma => kernel_rfl) (by as_aux_lemma => kernel_rfl) (fun _ _ _ h => h) (Or.inl ⟨by rfl, ?hy40⟩) (by assumption) ?_
                      case hy40 => (intro w hSw; (try dsimp only at hSw); go_simp; try (with_reducible rfl))
                      try simp only [Act.put, List.setIfInBounds_toArray, List.set_cons_zero, List.set_cons_succ]
                      refine htake (i := 8) (v := ?v41) rfl (by as_aux_lemma => kernel_rfl) (by as_aux_lemma => kernel_rfl) (by as_aux_lemma => kernel_rfl) (fun _ _ _ h => h) (Or.inl ⟨by rfl, ?hy41⟩) (by assumption) ?_
                      case hy41 => (intro w hSw; (try dsimp only at hSw); go_simp; try (with_reducible rfl))
                      try simp only [Act.put, List.setIfInBounds_toArray, List.set_cons_zero, List.set_cons_succ]
                      refine htake (i := 9) (v := ?v42) rfl (by as_aux_lemma => kernel_rfl) (by as_aux_lemma => kernel_rfl) (by as_aux_lemma => kernel_rfl) (fun _ _ _ h => h) (Or.inl ⟨by rfl, ?hy42⟩) (by assumption) ?_
                      case hy42 => (intro w hSw; (try dsimp only at hSw); go_simp; try (with_reducible rfl))
                      try simp only [Act.put, List.setIfInBounds_toArray, List.set_cons_zero, List.set_cons_succ]
                      refine wpAnyH_ready (rs := [1, 10]) (by as_aux_lemma => kernel_rfl) (by simp) ?_
                      refine hcons rfl (fun K hK => ?_) (hcons rfl (fun K hK => ?_) (AllReadyH.nil))
                      have q0 := HQ0.out; have q1 := HQ1.out; go_simp
                      refine hK.out _ _ ?_ (fun hHeld => ?_)
                      · (try dsimp only); exact HKB.out _ hc
                      clear hK K
                      try simp only [Act.put, List.setIfInBounds_toArray, List.set_cons_zero, List.set_cons_succ]
                      refine wpAnyH_ready (rs := [10]) (by as_aux_lemma => kernel_rfl) (by simp) ?_
                      refine hcons rfl (fun K hK => ?_) (AllReadyH.nil)
                      go_simp
                      replace hc := hc.alloc hc.size (.cells #[.int .i64 (nv - 1)] 3)
                      refine hK.out _ _ ?_ (fun hHeld => ?_)
                      · (try dsimp only); exact HKB.out _ hc
                      clear hK K
                      try simp only [Act.put, List.setIfInBounds_toArray, List.set_cons_zero, List.set_cons_succ]
                      refine wpAnyH_ready (rs := [11]) (by as_aux_lemma => kernel_rfl) (by simp) ?_
                      refine hcons rfl (fun K hK => ?_) (AllReadyH.nil)
                      refine step_append_lies _ rfl (.tmp 336) (.tmp 345) 22 rfl (gn + 1) 3 i0 (.int .i64 0) 1 8 Try.underlying22 hi0 hz0 hz1 hz2 rfl (by decide) (.slice A5 (hlL c k 0 c.wide c.high i).length cc5) (hlL c k 0 c.wide c.high i).length ((hlL c k 0 c.wide c.high i).map (Value.int .i64)) rfl (own_below HOWN.out hc) ⟨Wn.heap.size, 0, none⟩ 1 1 [.int .i64 (nv - 1)] rfl rfl (World.news_of_block (heap_alloc_new Wn.drew _)) (by simp [Value.oneCell']) (by decide) (by unfold maxLen; omega) (by omega) (Nat.le_trans hz5 hc.size) _ rfl ?_; intro g6 cap6 w6 ho6 hg6 hv6 _; have hst := HH1.out.app HOWN.out HOX.out hg6 ho6 hHL; have HFIN := Lib.hid hst.1.2.2; have hst1 := hst.1.1; have hst2 := hst.1.2.1; have HCL := Lib.hid hst.2; clear hst
                      refine hK.out _ _ ?_ (fun hHeld => ?_)
                      · (try dsimp only); exact HS.out _ HCL.out
                      clear hK K
                      try simp only [Act.put, List.setIfInBounds_toArray, List.set_cons_zero, List.set_cons_succ]
                      refine htake (i := 12) (v := ?v43) rfl (by as_aux_lemma => kernel_rfl) (by as_aux_lemma => kernel_rfl) (by as_aux_lemma => kernel_rfl) (fun _ _ _ h => h) (Or.inl ⟨by rfl, ?hy43⟩) (by assumption) ?_
                      case hy43 => (intro w hSw; (try dsimp only at hSw); go_simp; try (with_reducible rfl))
                      try simp only [Act.put, List.setIfInBounds_toArray, List.set_cons_zero, List.set_cons_succ]
                      refine wpAnyH_ready (rs := [13]) (by as_aux_lemma => kernel_rfl) (by simp) ?_
                      refine hcons rfl (fun K hK => ?_) (AllReadyH.nil)
                      go_simp
                      refine hK.out _ _ ?_ (fun hHeld => ?_)
                      · (try dsimp only); exact ⟨(World.cell?_setCell_other _ _ _ _ (by intro e'; injection e' with e'; exact HGN.out.2.2 e')).trans (HS.out _ HCL.out).1, (World.cell?_setCell_other _ _ _ _ (by intro e'; injection e' with e'; exact HGN.out.2.1 e')).trans (HS.out _ HCL.out).2.1, (World.cell?_setCell_other _ _ _ _ (by intro e'; injection e' with e'; exact HGN.out.1 e')).trans (HS.out _ HCL.out).2.2⟩
                      clear hK K
                      try simp only [Act.put]
                      refine wpAnyH_done (by as_aux_lemma => kernel_rfl) ?_ _
                      refine NoPanic.normal ?_
                      rotate_left
                      go_simp
                      replace hc := hc.alloc hc.size (.cells #[.int .i64 (nv - 1)] 3)
                      refine hK.out _ _ ?_ (fun hHeld => ?_)
                      · (try dsimp only); exact HKB.out _ hc
                      clear hK K
                      try simp only [Act.put, List.setIfInBounds_toArray, List.set_cons_zero, List.set_cons_succ]
                      refine wpAnyH_ready (rs := [1]) (by as_aux_lemma => kernel_rfl) (by simp) ?_
                      refine hcons rfl (fun K hK => ?_) (AllReadyH.nil)
                      have q0 := HQ0.out; have q1 := HQ1.out; go_simp
                      refine hK.out _ _ ?_ (fun hHeld => ?_)
                      · (try dsimp only); exact HKB.out _ hc
                      clear hK K
                      try simp only [Act.put, List.setIfInBounds_toArray, List.set_cons_zero, List.set_cons_succ]
                      refine wpAnyH_ready (rs := [11]) (by as_aux_lemma => kernel_rfl) (by simp) ?_
                      refine hcons rfl (fun K hK => ?_) (AllReadyH.nil)
                      refine step_append_lies _ rfl (.tmp 336) (.tmp 345) 22 rfl (gn + 1) 3 i0 (.int .i64 0) 1 8 Try.underlying22 hi0 hz0 hz1 hz2 rfl (by decide) (.slice A5 (hlL c k 0 c.wide c.high i).length cc5) (hlL c k 0 c.wide c.high i).length ((hlL c k 0 c.wide c.high i).map (Value.int .i64)) rfl (own_below HOWN.out hc) ⟨Wn.heap.size, 0, none⟩ 1 1 [.int .i64 (nv - 1)] rfl rfl (World.news_of_block (heap_alloc_new Wn.drew _)) (by simp [Value.oneCell']) (by decide) (by unfold maxLen; omega) (by omega) (Nat.le_trans hz5 hc.size) _ rfl ?_; intro g6 cap6 w6 ho6 hg6 hv6 _; have hst := HH1.out.app HOWN.out HOX.out hg6 ho6 hHL; have HFIN := Lib.hid hst.1.2.2; have hst1 := hst.1.1; have hst2 := hst.1.2.1; have HCL := Lib.hid hst.2; clear hst
                      refine hK.out _ _ ?_ (fun hHeld => ?_)
                      · (try dsimp only); exact HS.out _ HCL.out
                      clear hK K
                      try simp only [Act.put, List.setIfInBounds_toArray, List.set_cons_zero, List.set_cons_succ]
                      refine htake (i := 12) (v := ?v44) rfl (by as_aux_lemma => kernel_rfl) (by as_aux_lemma => kernel_rfl) (by as_aux_lemma => kernel_rfl) (fun _ _ _ h => h) (Or.inl ⟨by rfl, ?hy44⟩) (by assumption) ?_
                      case hy44 => (intro w hSw; (try dsimp only at hSw); go_simp; try (with_reducible rfl))
                      try simp only [Act.put, List.setIfInBounds_toArray, List.set_cons_zero, List.set_cons_succ]
                      refine wpAnyH_ready (rs := [13]) (by as_aux_lemma => kernel_rfl) (by simp) ?_
                      refine hcons rfl (fun K hK => ?_) (AllReadyH.nil)
                      go_simp
                      refine hK.out _ _ ?_ (fun hHeld => ?_)
                      · (try dsimp only); exact ⟨(World.cell?_setCell_other _ _ _ _ (by intro e'; injection e' with e'; exact HGN.out.2.2 e')).trans (HS.out _ HCL.out).1, (World.cell?_setCell_other _ _ _ _ (by intro e'; injection e' with e'; exact HGN.out.2.1 e')).trans (HS.out _ HCL.out).2.1, (World.cell?_setCell_other _ _ _ _ (by intro e'; injection e' with e'; exact HGN.out.1 e')).trans (HS.out _ HCL.out).2.2⟩
                      clear hK K
                      try simp only [Act.put]
                      refine wpAnyH_done (by as_aux_lemma => kernel_rfl) ?_ _
                      refine NoPanic.normal ?_
                      iterate 15 (try clear hHeld)
                      all_goals (go_wp2_with fail)
                      all_goals (refine endM (by kernel_rfl) (by kernel_rfl) ⟨i + 1, by omega, slotF_at rfl, by rw [slotF_at rfl, HV2.out], HFIN.out⟩ ?_)
                      all_goals (show c.piece.length - (intOf (slotF _ 26)).toNat < c.piece.length - (intOf (f6 26)).toNat; rw [slotF_at rfl, HE26.out]; have := HMI.out; simp [intOf]; omega)
                  · have hpl : ¬ (k ≤ colI c i) := by
                      intro h
                      refine hin ?_
                      unfold insR inS
                      simp only [Bool.and_eq_true, decide_eq_true_eq]
                      omega
                    rw [if_neg hin] at hHL
                    have hnm : nmS c k 0 c.wide c.high (i + 1) = nmS c k 0 c.wide c.high i := by rw [hST2, if_neg (fun h => hin h.1)]
                    have HH1 := Lib.hid ((HH.out.skip hnm).out hHL)
                    have HV2 := Lib.hid (show (nmS c k 0 c.wide c.high (i + 1)).2 = (nmS c k 0 c.wide c.high i).2 from by rw [hnm])
                    have hwr1 : IntKind.i64.wrap (colI c i) = colI c i := IntWalk.i64_in _ (by omega)
                    have hwr2 : IntKind.i64.wrap (rowI c i) = rowI c i := IntWalk.i64_in _ (by omega)
                    have hpl2 : ¬ k ≤ colI c i := by omega
                    clear hnm hST2 hNM hNM1 hnb hnb1 hmb1 hmb hHL hin hpl
                    generalize colI c i = cl at *
                    generalize rowI c i = rw_ at *
                    go_wp2_with fail
                    refine endM (by kernel_rfl) (by kernel_rfl) ⟨i + 1, by omega, slotF_at rfl, by rw [slotF_at rfl, HV2.out], HH1.out⟩ ?_
                    show c.piece.length - (intOf (slotF _ 26)).toNat < c.piece.length - (intOf (f6 26)).toNat
                    rw [slotF_at rfl, HE26.out]
                    have := HMI.out
                    simp [intOf]
                    omega
                · have hiI : ¬ (i : Int) < (c.piece.length : Int) := by omega
                  obtain rfl : i = c.piece.length := by omega
                  clear hil hwi
                  obtain ⟨v, hown, hox⟩ := HH.out.ex
                  obtain ⟨A5, cc5, rfl, -⟩ := own_form hown
                  have hat : At Vf Vf.heap.size 1 icell A5 (hlL c k 0 c.wide c.high c.piece.length) := by
                    rw [← flat_icellS] at hown
                    obtain ⟨A2, cc2, ee1, h8⟩ := own_at (cells := icell) (size := 1) (fun _ => rfl) (by omega) hown
                    injection ee1 with ee1
                    rw [ee1]; exact h8
                  have hsw := HSW.out A5 cc5
                  have hhe : halfS c k 0 c.wide c.high A5 cc5 = ⟨(c.wide - k), c.high, hlL c k 0 c.wide c.high c.piece.length, A5, cc5⟩ := by
                    unfold halfS
                    rw [show c.wide - k = (c.wide - k) by omega, show c.high - 0 = c.high by omega]
                  rw [hhe] at hsw
                  have hll2 : (hlL c k 0 c.wide c.high c.piece.length).length ≤ 1000 := by
                    rw [hl_len]
                    unfold rlL
                    rw [List.length_map]
                    have := List.length_filter_le (fun i => insR c i k 0 c.wide c.high) (List.range c.piece.length)
                    rw [List.length_range] at this
                    omega
                  obtain ⟨tc, htc⟩ : ∃ t : Cut, t = ⟨(c.wide - k), c.high, hlL c k 0 c.wide c.high c.piece.length, A5, cc5⟩ := ⟨_, rfl⟩
                  have hct : CutAt Vf Vf.heap.size tc := by rw [htc]; exact ⟨hat, by show (hlL c k 0 c.wide c.high c.piece.length).length ≤ _; omega⟩
                  have hmm := (nm_ok OK.out k 0 c.wide c.high c.piece.length (Nat.le_refl _)).many
                  rw [← htc] at hsw
                  obtain ⟨mm, hmmE⟩ : ∃ m, m = (nmS c k 0 c.wide c.high c.piece.length).2 := ⟨_, rfl⟩
                  rw [← hmmE] at hsw hmm ⊢
                  have o0 := hox.c 0 _ rfl
                  have o1 := hox.c 1 _ rfl
                  have o2 := hox.c 2 _ rfl
                  have HCT := Lib.hid hct
                  have HSWE := Lib.hid hsw
                  have HTC := Lib.hid htc
                  have HSM := Lib.hid (show SwM2 c w Vf from ⟨HH.out.xc, HH.out.cc.more (by have := HH.out.o; have := HH.out.z; omega), HH.out.b⟩)
                  have hw9 : IntKind.i64.wrap (mm - 1) = mm - 1 := IntWalk.i64_in _ (by omega)
                  clear hown hox hat hsw hhe hct htc hmmE HH
                  go_wp2_with fail
                  have hsaw := SawP_any tc Vf HCT.out
                  rw [HTC.out] at hsaw
                  dsimp only at hsaw
                  refine hsaw.mono ?_
                  rintro e Vg ⟨A7, k7, rfl, -, hb⟩
                  rw [← HTC.out, HSWE.out.1]
                  have e8 : (((sawL tc).length : Int) == mm - 1) = true := by rw [HSWE.out.2]; simp
                  have e8' : (((sawL tc).length : Int) != mm - 1) = false := by rw [HSWE.out.2]; simp
                  have HSM2 := Lib.hid (HSM.out.next hb)
                  clear hsaw hb o0 o1 o2
                  generalize (sawL tc).length = sl at *
                  go_wp2_with fail
                  refine endM (by kernel_rfl) (by kernel_rfl) ⟨2, by omega, slotF_at rfl, HSM2.out⟩ ?_
                  show (2 - intOf (slotF _ 22)).toNat < (2 - intOf (f5 22)).toNat
                  rw [slotF_at rfl, HE22.out]
                  decide
              · skip
                go_wp2_with fail
                refine (awake_any Va).mono ?_
                rintro e Vz ⟨rfl, hb⟩
                go_wp2_with fail
                go_ret
                exact ⟨rfl, HM.out.b.trans (hb.mono HM.out.b.size)⟩
    · have hl : sawL c = [] := by unfold sawL; rw [if_neg h0]
      rw [hl]
      have e0 : (sawE c == 0) = false := by simp [h0]
      rcases hor with ⟨h1, h2⟩ | ⟨h1, h2⟩
      · rw [h2]
        rw [h2] at e0
        have e2 : ((checkS c).2 == (checkS c).2) = true := by simp
        generalize (checkS c).1 = n0 at *
        generalize (checkS c).2 = ee at *
        clear hl h0 h2 h1
        go_wp2_with fail
        refine (awake_any V3).mono ?_
        rintro e V4 ⟨rfl, hb⟩
        go_wp2_with fail
        go_ret
        exact ⟨rfl, HB.out.trans (hb.mono HB.out.size)⟩
      · have hck := (GoodC.of h1).check
        rw [hck, h2]
        dsimp only
        clear e0 hl h0 h1 h2 hck
        go_wp2_with fail
        refine (awake_any V3).mono ?_
        rintro e V4 ⟨rfl, hb⟩
        go_wp2_with fail
        go_ret
        exact ⟨rfl, HB.out.trans (hb.mono HB.out.size)⟩
theorem CutSawn_walk (c : Cut) (ak : Int) (up : Bool) (w : World) (hc : CutAt w w.heap.size c) (hak : 0 ≤ ak ∧ ak ≤ 255) : Calls Try.prog 9 #[.agg #[.int .i64 c.wide, .int .i64 c.high, .slice c.A c.piece.length c.c], .int .u8 ak, .bool up] w (Ret (.bool true) w) := by
  cases up
  · exact CutSawn_walkF c ak w hc hak
  · exact CutSawn_walkT c ak w hc hak
end Go.Proofs.Ytjlicbdnppodgaa
