import Derived.Test.YtfffhbolaimmdaaDoorP14
namespace Go.Proofs.YtfffhbolaimmdaaDoor
open Go.RowKit
def openE (s : Store) (st : Int) (acc : Bool) : Int := if checkS s st = 0 then (if acc = true ∧ 0 ≤ refusedS s st.toNat then 11 else 0) else checkS s st
def openR (s : Store) (st : Int) (acc : Bool) : Int := if openE s st acc = 11 then refusedS s st.toNat else 0
def openB (s : Store) (st : Int) : Value := if checkS s st = 0 then .agg #[.slice s.A1 s.sheets.length s.c1, .slice s.A2 s.lics.length s.c2, .slice s.A3 s.makes.length s.c3, .slice s.A4 s.wishes.length s.c4] else .agg #[.slice none 0 0, .slice none 0 0, .slice none 0 0, .slice none 0 0]
theorem results_cell2 {fn : Func} {p t u : Tmp} {ty : TypeId} (h : fn.results = #[.cell p ty, .tmp t, .tmp u]) {tmps : Array Value} {P : Program} {w : World} {a : Addr} {v : Value} (hp : tmps.getD p undef = .pointer (some a)) (hv : (loadVar ty a).run P w = .ok v w) :
    (results fn tmps).run P w = .ok (.tuple #[v, tmps.getD t undef, tmps.getD u undef]) w := by
  have hp' : tmps[p]?.getD undef = .pointer (some a) := by simpa using hp
  simp [results, h, hp', asAddr, hv, Result.andThen]
theorem load72 {w : World} {b : Nat} {s : Store} (h : SBox w b s) : (loadVar 72 ⟨b, 0, none⟩).run Tryd.prog w = .ok (.agg #[.slice s.A1 s.sheets.length s.c1, .slice s.A2 s.lics.length s.c2, .slice s.A3 s.makes.length s.c3, .slice s.A4 s.wishes.length s.c4]) w := by
  obtain ⟨-, c0, c1, c2, c3⟩ := h
  go_simp
def set4 (W : World) (b : Nat) (u0 u1 u2 u3 : Value) : World := (((W.setCell ⟨b, 0, none⟩ u0).setCell ⟨b, 1, none⟩ u1).setCell ⟨b, 2, none⟩ u2).setCell ⟨b, 3, none⟩ u3
theorem SBox.set4 {W : World} {b : Nat} {t : Store} (h : SBox W b t) (s : Store) : SBox ((((W.setCell ⟨b, 0, none⟩ (.slice s.A1 s.sheets.length s.c1)).setCell ⟨b, 1, none⟩ (.slice s.A2 s.lics.length s.c2)).setCell ⟨b, 2, none⟩ (.slice s.A3 s.makes.length s.c3)).setCell ⟨b, 3, none⟩ (.slice s.A4 s.wishes.length s.c4)) b s := by
  obtain ⟨hl, c0, c1, c2, c3⟩ := h
  refine ⟨by simpa [World.setCell] using hl, ?_, ?_, ?_, ?_⟩
  · rw [World.cell?_setCell_other _ _ _ _ (by simp), World.cell?_setCell_other _ _ _ _ (by simp), World.cell?_setCell_other _ _ _ _ (by simp)]
    exact World.cell?_setCell_same' _ _ _ (by rw [c0]; rfl)
  · rw [World.cell?_setCell_other _ _ _ _ (by simp), World.cell?_setCell_other _ _ _ _ (by simp)]
    exact World.cell?_setCell_same' _ _ _ (by rw [World.cell?_setCell_other _ _ _ _ (by simp), c1]; rfl)
  · rw [World.cell?_setCell_other _ _ _ _ (by simp)]
    exact World.cell?_setCell_same' _ _ _ (by rw [World.cell?_setCell_other _ _ _ _ (by simp), World.cell?_setCell_other _ _ _ _ (by simp), c2]; rfl)
  · exact World.cell?_setCell_same' _ _ _ (by rw [World.cell?_setCell_other _ _ _ _ (by simp), World.cell?_setCell_other _ _ _ _ (by simp), World.cell?_setCell_other _ _ _ _ (by simp), c3]; rfl)
theorem below_set4 {B : Nat} {a W : World} {b : Nat} (h : Below B a W) (hb : B ≤ b) (u0 u1 u2 u3 : Value) : Below B a ((((W.setCell ⟨b, 0, none⟩ u0).setCell ⟨b, 1, none⟩ u1).setCell ⟨b, 2, none⟩ u2).setCell ⟨b, 3, none⟩ u3) :=
  (((h.setCell (p := ⟨b, 0, none⟩) hb u0).setCell (p := ⟨b, 1, none⟩) hb u1).setCell (p := ⟨b, 2, none⟩) hb u2).setCell (p := ⟨b, 3, none⟩) hb u3
def z0 : Store := ⟨[], [], [], [], none, 0, none, 0, none, 0, none, 0⟩
set_option maxRecDepth 100000 in
set_option maxHeartbeats 400000 in
theorem open_any (s : Store) (st : Int) (acc : Bool) (w : World) (hr : StoreAt w w.heap.size s) (he : Env w) :
    Calls Tryd.prog 35 #[.agg #[.slice s.A1 s.sheets.length s.c1, .slice s.A2 s.lics.length s.c2, .slice s.A3 s.makes.length s.c3, .slice s.A4 s.wishes.length s.c4], .int .i64 st, .bool acc] w (Ret (.tuple #[openB s st, .int .i64 (openR s st acc), .int .i64 (openE s st acc)]) w) := by
  have hb0 := ((Below.refl w.heap.size w).alloc (Nat.le_refl _) (.cells #[.slice s.A1 s.sheets.length s.c1, .slice s.A2 s.lics.length s.c2, .slice s.A3 s.makes.length s.c3, .slice s.A4 s.wishes.length s.c4] 27)).alloc (by simp) (.cells #[.slice none 0 0, .slice none 0 0, .slice none 0 0, .slice none 0 0] 72)
  have hr0 := Lib.hid (hr.next hb0)
  have he0 := Lib.hid (he.next hb0)
  have hx0 := Lib.hid ((SBox.new w s 27).next ((Below.refl _ _).alloc (Nat.le_refl _) (.cells #[.slice none 0 0, .slice none 0 0, .slice none 0 0, .slice none 0 0] 72)))
  have Hb0 := Lib.hid hb0
  have HR := Lib.hid hr
  have HE := Lib.hid he
  clear hr he hb0
  go_enter Tryd.func35, Tryd.ntmps35
  have hz0 := Lib.hid (show SBox ((w.alloc (.cells #[.slice s.A1 s.sheets.length s.c1, .slice s.A2 s.lics.length s.c2, .slice s.A3 s.makes.length s.c3, .slice s.A4 s.wishes.length s.c4] 27)).alloc (.cells #[.slice none 0 0, .slice none 0 0, .slice none 0 0, .slice none 0 0] 72)) (w.heap.size + 1) z0 from by
    have := SBox.new (w.alloc (.cells #[.slice s.A1 s.sheets.length s.c1, .slice s.A2 s.lics.length s.c2, .slice s.A3 s.makes.length s.c3, .slice s.A4 s.wishes.length s.c4] 27)) z0 72
    rw [World.size_alloc] at this
    exact this)
  go_wp2_with fail
  refine (isStore_any s _ hr0.out).mono ?_
  rintro e w1 ⟨rfl, hb1⟩
  have hf1 : ∀ o, w1.frozen? ⟨w.heap.size + 1, o, none⟩ = false := fun o => ((bcell hb1).2 _ _ (by simp)).trans (by simp [go_sem])
  have Hx1 := Lib.hid (hx0.out.next hb1)
  have Hz1 := Lib.hid (hz0.out.next hb1)
  have Hr1 := Lib.hid (hr0.out.next hb1)
  have He1 := Lib.hid (he0.out.next hb1)
  have Hb1 := Lib.hid (Hb0.out.trans (hb1.mono Hb0.out.size))
  clear hb1 hr0 he0 hx0 hz0 Hb0
  obtain ⟨hz, k0, k1, k2, k3⟩ := Hx1.out
  obtain ⟨hzz, m0, m1, m2, m3⟩ := Hz1.out
  dsimp only [z0, List.length_nil] at m0 m1 m2 m3
  have f0 := hf1 0
  have f1 := hf1 1
  have f2 := hf1 2
  have f3 := hf1 3
  cases hs : storeS s
  · have E1 := Lib.hid (show checkS s st = 1 by simp [checkS, hs])
    go_wp2
    refine bodyPost_ret (results_cell2 rfl rfl (load72 (Hz1.out.set4 z0))) rfl ?_
    refine ⟨?_, below_set4 Hb1.out (by omega) _ _ _ _⟩
    simp [openB, openR, openE, E1.out, z0]
  · have ok := (ok_iff s).1 hs
    have hn := ok.nw
    have hp9 := powI_bd (n := s.wishes.length) (by omega)
    have hq : wrap64 (wrap64 (2 ^ s.wishes.length) - 1) = powI s.wishes.length - 1 := by
      rw [show ((2 : Int) ^ s.wishes.length) = powI s.wishes.length by unfold powI; rw [Int.natCast_pow]; rfl]
      simp only [wrap64]
      omega
    go_wp2_with fail
    rw [hq]
    refine (within_any _ _ _ _).mono ?_
    rintro e w' ⟨rfl, rfl⟩
    cases hin : inS st 0 (powI s.wishes.length - 1)
    · have E1 := Lib.hid (show checkS s st = 2 by simp [checkS, hs, hin])
      clear hq
      go_wp2
      refine bodyPost_ret (results_cell2 rfl rfl (load72 (Hz1.out.set4 z0))) rfl ?_
      refine ⟨?_, below_set4 Hb1.out (by omega) _ _ _ _⟩
      simp [openB, openR, openE, E1.out, z0]
    · have E1 := Lib.hid (show checkS s st = 0 by simp [checkS, hs, hin])
      have hst : 0 ≤ st ∧ st < powI s.wishes.length := by simp [inS] at hin; omega
      obtain ⟨set, rfl⟩ : ∃ set : Nat, st = (set : Int) := ⟨st.toNat, by omega⟩
      have hlt : set < 2 ^ s.wishes.length := by have := hst.2; unfold powI at this; omega
      clear hq hin
      go_wp2_with fail
      have hbW := below_set4 Hb1.out (b := w.heap.size + 1) (by omega) (.slice s.A1 s.sheets.length s.c1) (.slice s.A2 s.lics.length s.c2) (.slice s.A3 s.makes.length s.c3) (.slice s.A4 s.wishes.length s.c4)
      have hxW := Hz1.out.set4 s
      have hfW : ∀ o, ((((w1.setCell ⟨w.heap.size + 1, 0, none⟩ (.slice s.A1 s.sheets.length s.c1)).setCell ⟨w.heap.size + 1, 1, none⟩ (.slice s.A2 s.lics.length s.c2)).setCell ⟨w.heap.size + 1, 2, none⟩ (.slice s.A3 s.makes.length s.c3)).setCell ⟨w.heap.size + 1, 3, none⟩ (.slice s.A4 s.wishes.length s.c4)).frozen? ⟨w.heap.size + 1, o, none⟩ = false := fun o => by
        simp only [World.frozen?_setCell]; exact hf1 o
      generalize ((((w1.setCell ⟨w.heap.size + 1, 0, none⟩ (.slice s.A1 s.sheets.length s.c1)).setCell ⟨w.heap.size + 1, 1, none⟩ (.slice s.A2 s.lics.length s.c2)).setCell ⟨w.heap.size + 1, 2, none⟩ (.slice s.A3 s.makes.length s.c3)).setCell ⟨w.heap.size + 1, 3, none⟩ (.slice s.A4 s.wishes.length s.c4)) = W at *
      refine (refused_any s set _ ok hlt ((HR.out.below hbW).more hbW.size) (HE.out.next hbW)).mono ?_
      rintro e w2 ⟨rfl, hb2⟩
      rw [refusedL_refusedS s hn hlt]
      have hx2 := hxW.next hb2
      have hlW := hxW.lt
      have hg2 : ∀ o, w2.frozen? ⟨w.heap.size + 1, o, none⟩ = false := fun o => ((bcell hb2).2 _ _ hlW).trans (hfW o)
      have HB := Lib.hid (hbW.trans (hb2.mono hbW.size))
      have HX := Lib.hid hx2
      clear m0 m1 m2 m3 f0 f1 f2 f3 hf1 hfW hxW hx2 hbW hb2 k0 k1 k2 k3
      obtain ⟨-, m0, m1, m2, m3⟩ := HX.out
      have f0 := hg2 0
      have f1 := hg2 1
      have f2 := hg2 2
      have f3 := hg2 3
      clear hg2
      have hE : ∀ b : Bool, acc = true ∧ 0 ≤ refusedS s set ↔ (acc && decide (0 ≤ refusedS s set)) = true := fun b => by simp
      have Hacc := Lib.hid (show openE s set acc = (if (acc && decide (0 ≤ refusedS s set)) = true then 11 else 0) from by
        unfold openE; rw [E1.out, if_pos rfl]; simp only [Int.toNat_natCast]
        by_cases h : acc = true ∧ 0 ≤ refusedS s set
        · rw [if_pos h, if_pos ((hE true).1 h)]
        · rw [if_neg h, if_neg (fun e => h ((hE true).2 e))])
      clear hE
      generalize hRr : refusedS s set = r at *
      have HRr := Lib.hid hRr
      clear hRr
      cases acc
      · go_wp2
        refine bodyPost_ret (results_cell2 rfl rfl (load72 (HX.out.set4 s))) rfl ?_
        refine ⟨?_, below_set4 HB.out (by omega) _ _ _ _⟩
        have := Hacc.out
        simp at this
        simp [openB, openR, this, E1.out]
      · by_cases hr0 : 0 ≤ r
        · go_wp2
          refine bodyPost_ret (results_cell2 rfl rfl (load72 (HX.out.set4 s))) rfl ?_
          refine ⟨?_, below_set4 HB.out (by omega) _ _ _ _⟩
          have := Hacc.out
          simp [hr0] at this
          simp [openB, openR, this, E1.out, HRr.out]
        · go_wp2
          refine bodyPost_ret (results_cell2 rfl rfl (load72 (HX.out.set4 s))) rfl ?_
          refine ⟨?_, below_set4 HB.out (by omega) _ _ _ _⟩
          have h : openE s set true = 0 := by rw [Hacc.out, if_neg (by simpa using hr0)]
          simp [openB, openR, h, E1.out]
end Go.Proofs.YtfffhbolaimmdaaDoor
