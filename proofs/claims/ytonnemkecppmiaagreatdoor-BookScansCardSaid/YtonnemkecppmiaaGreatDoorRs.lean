import Derived.Test.YtonnemkecppmiaaGreatDoorRw
import Derived.Test.YtonnemkecppmiaaGreatDoorQ12
import Derived.Test.YtonnemkecppmiaaGreatDoorFr
import Derived.Deep.MidRow
namespace Go.Proofs.YtonnemkecppmiaaGreatDoor
open Go.RowKit
/-! The reference: ReadScans. -/
def runS : Nat → Ed → Nat → Tx → Ed × Tx
  | 0, e, _, s => (e, s)
  | f + 1, e, m, s => runS f (setS e m (spR s).1) (m + 1) (spR s).2
def runE : Nat → Pc → Nat → Tx → Pc × Tx
  | 0, p, _, s => (p, s)
  | f + 1, p, k, s => runE f (setE p k (edR s).1) (k + 1) (edR s).2
theorem edR_run {s : Tx} (h : (takeR s).1 ≠ 0) : edR s = runS 3 ⟨((takeR s).1 : Int), sp0, sp0, sp0⟩ 0 (takeR s).2 := by
  unfold edR
  rw [if_neg h]
  rfl
theorem edR_flat {s : Tx} (h : (takeR s).1 = 0) : edR s = (ed0, (takeR s).2) := by
  unfold edR
  rw [if_pos h]
theorem pcRd_run (s : Tx) : pcRd s = runE 4 pc0 0 s := rfl
/-- What is left, a slice of what came in. -/
structure LfA (w : World) (A : Option Addr) (c : Nat) (s : Tx) : Prop where
  at_ : BsAt w w.heap.size A s
  n : s.length ≤ 70000
  c : s.length ≤ c
theorem LfA.take {w : World} {A A' : Option Addr} {c c' : Nat} {s : Tx} (h : LfA w A c s) (h1 : ∀ W0 B0, BsAt W0 B0 A s → BsAt W0 B0 A' (takeR s).2) (h2 : (takeR s).2.length ≤ c') : LfA w A' c' (takeR s).2 :=
  ⟨h1 _ _ h.at_, Nat.le_trans (takeR_len s) h.n, h2⟩
theorem take_lf {w W : World} {A : Option Addr} {c : Nat} {s : Tx} (h : LfA w A c s) (hb : Below w.heap.size w W) : Calls Tryz.prog 57 #[.slice A s.length c] W (RetTk A s W) :=
  take_any A c s W ((At.below h.at_ hb).more hb.size) (by have := h.n; omega) h.c
def RP1 (t : Tx) (n : Nat) (s0 : Tx) (w : World) (lf l i : Value) (W : World) : Prop := ∃ (j : Nat) (ps : List Pc) (s : Tx) (A : Option Addr) (c : Nat), j ≤ n ∧ ps.length = j ∧ i = .int .i64 j ∧ lf = .slice A s.length c ∧ LfA w A c s ∧ pcsRd n s0 = ps ++ pcsRd (n - j) s ∧ W.ownsRow w.heap.size 51 28 l ps.length (ps.flatMap Pc.cells) ∧ Below w.heap.size w W
def RP2 (w : World) (s1 : Tx) (bp : Nat) (l : Value) (ps : List Pc) (lf k : Value) (W : World) : Prop := ∃ (j : Nat) (p : Pc) (s : Tx) (A : Option Addr) (c : Nat), j ≤ 4 ∧ k = .int .i64 j ∧ lf = .slice A s.length c ∧ LfA w A c s ∧ pcRd s1 = runE (4 - j) p j s ∧ Bx W bp p.cells ∧ W.ownsRow w.heap.size 51 28 l ps.length (ps.flatMap Pc.cells) ∧ Below w.heap.size w W
def RP3 (w : World) (s2 : Tx) (bp be : Nat) (p : Pc) (l : Value) (ps : List Pc) (lf k : Value) (W : World) : Prop := ∃ (m : Nat) (e : Ed) (s : Tx) (A : Option Addr) (c : Nat), m ≤ 3 ∧ k = .int .i64 m ∧ lf = .slice A s.length c ∧ LfA w A c s ∧ e.kind = ((takeR s2).1 : Int) ∧ ((takeR s2).1 ≠ 0 → edR s2 = runS (3 - m) e m s) ∧ ((takeR s2).1 = 0 → edR s2 = (e, s)) ∧ Bx W be e.cells ∧ Bx W bp p.cells ∧ W.ownsRow w.heap.size 51 28 l ps.length (ps.flatMap Pc.cells) ∧ Below w.heap.size w W
theorem own_wrt {W : World} {base n size b o : Nat} {e : TypeId} {v : Value} {xs : List Value} (h : W.ownsRow base e size v n xs) (hb : v.ownBlock ≠ some b) (u : Value) : (W.setCell ⟨b, o, none⟩ u).ownsRow base e size v n xs :=
  h.kept (w' := W.setCell ⟨b, o, none⟩ u) (row := some b) ⟨rfl, rfl, rfl, by rw [World.size_setCell]; exact Nat.le_refl _, fun k _ hk => blkSet (fun e => hk (by rw [e])) _ _⟩ (.inr hb)
/-- A side laid into a piece. -/
abbrev store7 (W : World) (b o : Nat) (e : Ed) : World := ((((((W.setCell ⟨b, o, none⟩ (.int .i64 e.kind)).setCell ⟨b, o + 1, none⟩ (.int .i64 e.a.lo)).setCell ⟨b, o + 2, none⟩ (.int .i64 e.a.hi)).setCell ⟨b, o + 3, none⟩ (.int .i64 e.w.lo)).setCell ⟨b, o + 4, none⟩ (.int .i64 e.w.hi)).setCell ⟨b, o + 5, none⟩ (.int .i64 e.d.lo)).setCell ⟨b, o + 6, none⟩ (.int .i64 e.d.hi)
theorem Bx.store7 {W : World} {b k : Nat} {p : Pc} (h : Bx W b p.cells) (hk : k < 4) (e : Ed) : Bx (Go.Proofs.YtonnemkecppmiaaGreatDoor.store7 W b (k * 7) e) b (setE p k e).cells := by
  have hl := pc_len p
  have h1 := (((((((h.set (k := k * 7) (by omega) (.int .i64 e.kind)).set (k := k * 7 + 1) (by simp; omega) (.int .i64 e.a.lo)).set (k := k * 7 + 2) (by simp; omega) (.int .i64 e.a.hi)).set (k := k * 7 + 3) (by simp; omega) (.int .i64 e.w.lo)).set (k := k * 7 + 4) (by simp; omega) (.int .i64 e.w.hi)).set (k := k * 7 + 5) (by simp; omega) (.int .i64 e.d.lo)).set (k := k * 7 + 6) (by simp; omega) (.int .i64 e.d.hi))
  have key : ((((((p.cells.set (k * 7) (.int .i64 e.kind)).set (k * 7 + 1) (.int .i64 e.a.lo)).set (k * 7 + 2) (.int .i64 e.a.hi)).set (k * 7 + 3) (.int .i64 e.w.lo)).set (k * 7 + 4) (.int .i64 e.w.hi)).set (k * 7 + 5) (.int .i64 e.d.lo)).set (k * 7 + 6) (.int .i64 e.d.hi) = (setE p k e).cells := by
    clear h h1
    obtain ⟨p0, p1, p2, p3⟩ := p
    match k, hk with
    | 0, _ => rfl
    | 1, _ => rfl
    | 2, _ => rfl
    | 3, _ => rfl
  rw [key] at h1
  exact h1
theorem own_store7 {W : World} {base n size b o : Nat} {t : TypeId} {v : Value} {xs : List Value} (h : W.ownsRow base t size v n xs) (hb : v.ownBlock ≠ some b) (e : Ed) : (store7 W b o e).ownsRow base t size v n xs :=
  own_wrt (own_wrt (own_wrt (own_wrt (own_wrt (own_wrt (own_wrt h hb _) hb _) hb _) hb _) hb _) hb _) hb _
theorem below_store7 {w W : World} {B b o : Nat} (h : Below B w W) (hb : B ≤ b) (e : Ed) : Below B w (store7 W b o e) :=
  ((((((h.setCell (p := ⟨b, o, none⟩) hb _).setCell (p := ⟨b, o + 1, none⟩) hb _).setCell (p := ⟨b, o + 2, none⟩) hb _).setCell (p := ⟨b, o + 3, none⟩) hb _).setCell (p := ⟨b, o + 4, none⟩) hb _).setCell (p := ⟨b, o + 5, none⟩) hb _).setCell (p := ⟨b, o + 6, none⟩) hb _
theorem Bx.span2 {W : World} {b m : Nat} {e : Ed} (h : Bx W b e.cells) (hm : m < 3) (x : Sp) : Bx ((W.setCell ⟨b, 1 + 2 * m, none⟩ (.int .i64 x.lo)).setCell ⟨b, 2 + 2 * m, none⟩ (.int .i64 x.hi)) b (setS e m x).cells := by
  have hl : e.cells.length = 7 := rfl
  have h1 := (h.set (k := 1 + 2 * m) (by omega) (.int .i64 x.lo)).set (k := 2 + 2 * m) (by simp; omega) (.int .i64 x.hi)
  match m, hm, h1 with
  | 0, _, h1 => exact h1
  | 1, _, h1 => exact h1
  | 2, _, h1 => exact h1
theorem setS_kind (e : Ed) (m : Nat) (x : Sp) : (setS e m x).kind = e.kind := by unfold setS; split <;> rfl
set_option maxRecDepth 100000 in
set_option maxHeartbeats 8000000 in
theorem ReadScansR_any (A : Option Addr) (c : Nat) (t : Tx) (w : World) (h : BsAt w w.heap.size A t) (hc : t.length ≤ c) : Calls Tryz.prog 21 #[.slice A t.length c] w (RetRs t w) := by
  have HL := Lib.hid h
  have HCP := Lib.hid hc
  clear h hc
  obtain ⟨i0, hi, hz0, hz1, hz2⟩ := info_parts pc_info
  obtain ⟨R, hR⟩ : ∃ R, RetRs t w = R := ⟨_, rfl⟩
  rw [hR]
  have HRR := Lib.hid hR
  clear hR
  by_cases h1 : 65536 < t.length
  · have hq : ((65536 : Int) < (t.length : Int)) = True := eq_true (by omega)
    have HV := Lib.hid (show rsV t = [] ∧ rsE t = 3 by unfold rsV rsE; rw [if_pos (.inl h1), if_pos h1]; exact ⟨rfl, rfl⟩)
    go_enter Tryz.func21, Tryz.ntmps21
    go_wp2_with fail
    (try go_ret2)
    rw [← HRR.out]
    exact ⟨.slice none 0 0, by rw [HV.out.2]; rfl, by rw [HV.out.1]; exact World.ownsRow_nil _ _ _ _, Below.refl _ _⟩
  have hq1 : ((65536 : Int) < (t.length : Int)) = False := eq_false (by omega)
  by_cases h2 : t = []
  · have hq : ((t.length : Int) == 0) = true := by rw [h2]; rfl
    have HV := Lib.hid (show rsV t = [] ∧ rsE t = 8 by unfold rsV rsE; rw [if_pos (.inr (.inl h2)), if_neg h1, if_pos h2]; exact ⟨rfl, rfl⟩)
    clear h2
    go_enter Tryz.func21, Tryz.ntmps21
    go_wp2_with fail
    (try go_ret2)
    rw [← HRR.out]
    exact ⟨.slice none 0 0, by rw [HV.out.2]; rfl, by rw [HV.out.1]; exact World.ownsRow_nil _ _ _ _, Below.refl _ _⟩
  have hpos := List.length_pos_iff.2 h2
  have hq2 : ((t.length : Int) == 0) = false := by simp only [beq_eq_false_iff_ne]; omega
  have HS := Lib.hid (SumR_any A c t w HL.out (by omega))
  by_cases h3 : sumB t = 0
  rotate_left
  · have HV := Lib.hid (show rsV t = [] ∧ rsE t = 11 by unfold rsV rsE; rw [if_pos (.inr (.inr h3)), if_neg h1, if_neg h2, if_pos h3]; exact ⟨rfl, rfl⟩)
    have hz : ((((sumB t).toNat : Nat) : Int) != 0) = true := by
      have : (sumB t).toNat ≠ 0 := fun e => h3 (UInt8.toNat_inj.1 e)
      simpa using this
    generalize sumB t = S at *
    clear h2 h3
    go_enter Tryz.func21, Tryz.ntmps21
    go_wp2_with fail
    refine HS.out.mono ?_
    rintro e W ⟨rfl, hw⟩
    subst hw
    unfold u8v
    go_wp2_with fail
    (try go_ret2)
    rw [← HRR.out]
    exact ⟨.slice none 0 0, by rw [HV.out.2]; rfl, by rw [HV.out.1]; exact World.ownsRow_nil _ _ _ _, Below.refl _ _⟩
  rw [show u8v (sumB t) = .int .u8 0 by rw [h3]; rfl] at HS
  have HT0 := Lib.hid (show LfA w A c t from ⟨HL.out, by omega, HCP.out⟩)
  have HVE := Lib.hid (show rsV t = (readSR t).getD [] ∧ rsE t = if (readSR t).isSome then 0 else 8 by
    rw [readS_same]
    unfold rsV rsE
    rw [if_neg (fun x => x.elim h1 (fun x => x.elim h2 (fun x => x h3))), if_neg h1, if_neg h2, if_neg (fun x => x h3)]
    exact ⟨rfl, rfl⟩)
  clear h2 h3
  go_enter Tryz.func21, Tryz.ntmps21
  go_wp2_with fail
  refine HS.out.mono ?_
  rintro e W ⟨rfl, hw⟩
  subst hw
  go_wp2_with fail
  refine (take_lf HT0.out (Below.refl _ _)).mono ?_
  rintro e W1 ⟨A1, c1, rfl, hk1, hk2, hk3, hb⟩
  have HLF := Lib.hid (HT0.out.take hk1 hk2)
  have HB := Lib.hid hb
  clear hk1 hk2 hb
  obtain ⟨n, hn0⟩ : ∃ n, (takeR t).1 = n := ⟨_, rfl⟩
  obtain ⟨s0, hs0⟩ : ∃ s0, (takeR t).2 = s0 := ⟨_, rfl⟩
  have HSR := Lib.hid (show readSR t = if 12 < n then none else if okPcs (pcsRd n s0) = true ∧ scanB (pcsRd n s0) = t then some (pcsRd n s0) else none by unfold readSR; rw [hn0, hs0])
  rw [hn0, hs0]
  rw [hs0] at HLF
  clear hn0 hs0 hk3
  by_cases h12 : 12 < n
  · have hq : ((12 : Int) < (n : Int)) = True := eq_true (by omega)
    have HV := Lib.hid (show rsV t = [] ∧ rsE t = 8 by rw [HVE.out.1, HVE.out.2, HSR.out, if_pos h12]; exact ⟨rfl, rfl⟩)
    go_wp2_with fail
    (try go_ret2)
    rw [← HRR.out]
    exact ⟨.slice none 0 0, by rw [HV.out.2]; rfl, by rw [HV.out.1]; exact World.ownsRow_nil _ _ _ _, HB.out⟩
  have hq : ((12 : Int) < (n : Int)) = False := eq_false (by omega)
  rw [if_neg h12] at HSR
  go_wp2_with fail
  go_loopw [5, 6, 7] (fun lf l i wr => RP1 t n s0 w lf l i wr) (fun _ _ i _ => n - (intOf i).toNat)
  case atStart => exact ⟨0, [], s0, A1, c1, by omega, rfl, rfl, rfl, HLF.out, rfl, World.ownsRow_nil _ _ _ _, HB.out⟩
  case round =>
    obtain ⟨j, ps, s1, As, cs, hj, hps, rfl, rfl, hlf, hpc, hown, hb⟩ := hrel
    have HLF1 := Lib.hid hlf
    have HPC := Lib.hid hpc
    have HOW := Lib.hid hown
    have HB1 := Lib.hid hb
    have HPS := Lib.hid hps
    clear hlf hpc hown hb hps HLF HB
    have hwj : IntKind.i64.wrap ((j : Int) + 1) = (j : Int) + 1 := IntWalk.i64_in _ (by omega)
    by_cases hjn : j < n
    · have d1 : ((j : Int) < (n : Int)) = True := eq_true (by omega)
      have HXP := Lib.hid (show Bx (wr.alloc (.cells #[.int .i64 0, .int .i64 0, .int .i64 0, .int .i64 0, .int .i64 0, .int .i64 0, .int .i64 0, .int .i64 0, .int .i64 0, .int .i64 0, .int .i64 0, .int .i64 0, .int .i64 0, .int .i64 0, .int .i64 0, .int .i64 0, .int .i64 0, .int .i64 0, .int .i64 0, .int .i64 0, .int .i64 0, .int .i64 0, .int .i64 0, .int .i64 0, .int .i64 0, .int .i64 0, .int .i64 0, .int .i64 0] 51)) wr.heap.size pc0.cells from Bx.new wr #[.int .i64 0, .int .i64 0, .int .i64 0, .int .i64 0, .int .i64 0, .int .i64 0, .int .i64 0, .int .i64 0, .int .i64 0, .int .i64 0, .int .i64 0, .int .i64 0, .int .i64 0, .int .i64 0, .int .i64 0, .int .i64 0, .int .i64 0, .int .i64 0, .int .i64 0, .int .i64 0, .int .i64 0, .int .i64 0, .int .i64 0, .int .i64 0, .int .i64 0, .int .i64 0, .int .i64 0, .int .i64 0] 51)
      have HNP := Lib.hid (nxA wr (.cells #[.int .i64 0, .int .i64 0, .int .i64 0, .int .i64 0, .int .i64 0, .int .i64 0, .int .i64 0, .int .i64 0, .int .i64 0, .int .i64 0, .int .i64 0, .int .i64 0, .int .i64 0, .int .i64 0, .int .i64 0, .int .i64 0, .int .i64 0, .int .i64 0, .int .i64 0, .int .i64 0, .int .i64 0, .int .i64 0, .int .i64 0, .int .i64 0, .int .i64 0, .int .i64 0, .int .i64 0, .int .i64 0] 51))
      go_upto_region 15 with fail
      generalize (wr.alloc (.cells #[.int .i64 0, .int .i64 0, .int .i64 0, .int .i64 0, .int .i64 0, .int .i64 0, .int .i64 0, .int .i64 0, .int .i64 0, .int .i64 0, .int .i64 0, .int .i64 0, .int .i64 0, .int .i64 0, .int .i64 0, .int .i64 0, .int .i64 0, .int .i64 0, .int .i64 0, .int .i64 0, .int .i64 0, .int .i64 0, .int .i64 0, .int .i64 0, .int .i64 0, .int .i64 0, .int .i64 0, .int .i64 0] 51)) = V2 at *
      obtain ⟨bp, hbp⟩ : ∃ bp, bp = wr.heap.size := ⟨_, rfl⟩
      have HOB := Lib.hid (show ∀ g, u6.ownBlock = some g → g < bp from fun g hg => by rw [hbp]; exact (HOW.out.lt g hg).2)
      have HPB := Lib.hid (show w.heap.size ≤ bp by rw [hbp]; exact HB1.out.size)
      rw [← hbp] at HXP ⊢
      have HOW2 := Lib.hid (own_below HOW.out HNP.out)
      have HB2 := Lib.hid (HB1.out.trans (HNP.out.mono HB1.out.size))
      clear hbp HNP HOW HB1
      go_wp2_with fail
      go_loopw [5, 9] (fun lf k wx => RP2 w s1 bp u6 ps lf k wx) (fun _ k _ => 4 - (intOf k).toNat)
      case atStart => exact ⟨0, pc0, s1, As, cs, by omega, rfl, rfl, HLF1.out, pcRd_run s1, HXP.out, HOW2.out, HB2.out⟩
      case round =>
        obtain ⟨k, p, s2, Ak, ck, hk4, rfl, rfl, hlf, hpe, hbx, hown, hb⟩ := hrel
        have HLF2 := Lib.hid hlf
        have HPE := Lib.hid hpe
        have HX2 := Lib.hid hbx
        have HOW3 := Lib.hid hown
        have HB3 := Lib.hid hb
        clear hlf hpe hbx hown hb HOW2 HB2 HXP
        have hwk : IntKind.i64.wrap ((k : Int) + 1) = (k : Int) + 1 := IntWalk.i64_in _ (by omega)
        by_cases hk : k < 4
        · have d2 : ((k : Int) < 4) = True := eq_true (by omega)
          have HXE := Lib.hid (show Bx (wr.alloc (.cells #[.int .i64 0, .int .i64 0, .int .i64 0, .int .i64 0, .int .i64 0, .int .i64 0, .int .i64 0] 48)) wr.heap.size ed0.cells from Bx.new wr #[.int .i64 0, .int .i64 0, .int .i64 0, .int .i64 0, .int .i64 0, .int .i64 0, .int .i64 0] 48)
          have HNE := Lib.hid (nxA wr (.cells #[.int .i64 0, .int .i64 0, .int .i64 0, .int .i64 0, .int .i64 0, .int .i64 0, .int .i64 0] 48))
          go_upto_region 19 with fail
          generalize (wr.alloc (.cells #[.int .i64 0, .int .i64 0, .int .i64 0, .int .i64 0, .int .i64 0, .int .i64 0, .int .i64 0] 48)) = V4 at *
          obtain ⟨be, hbe⟩ : ∃ be, be = wr.heap.size := ⟨_, rfl⟩
          have HEB := Lib.hid (show bp < be by rw [hbe]; exact HX2.out.lt)
          rw [← hbe] at HXE ⊢
          have HX4 := Lib.hid (HX2.out.next HNE.out)
          have HOW4 := Lib.hid (own_below HOW3.out HNE.out)
          have HB4 := Lib.hid (HB3.out.trans (HNE.out.mono HB3.out.size))
          clear hbe HNE HX2 HOW3 HB3
          have hbw : w.heap.size ≤ be := by have := HPB.out; have := HEB.out; omega
          have hbne : be ≠ bp := by have := HEB.out; omega
          have hobe : u6.ownBlock ≠ some be := fun e => by have := HOB.out _ e; have := HEB.out; omega
          go_wp2_with fail
          refine (take_lf HLF2.out HB4.out).mono ?_
          rintro e W5 ⟨A5, c5, rfl, hk1, hk2, hk3, hb⟩
          have HLF5 := Lib.hid (HLF2.out.take hk1 hk2)
          have HXE5 := Lib.hid (HXE.out.next hb)
          have HX5 := Lib.hid (HX4.out.next hb)
          have HOW5 := Lib.hid (own_below HOW4.out hb)
          have HB5 := Lib.hid (HB4.out.trans (hb.mono HB4.out.size))
          have HED := Lib.hid (edR_flat (s := s2))
          have HER := Lib.hid (edR_run (s := s2))
          obtain ⟨K, hK⟩ : ∃ K, (takeR s2).1 = K := ⟨_, rfl⟩
          rw [hK] at hk3 HED HER ⊢
          have HKK := Lib.hid hK
          have e0 := HXE5.out.c 0 _ rfl
          have f0 := HXE5.out.fr 0
          have HXE6 := Lib.hid (show Bx (W5.setCell ⟨be, 0, none⟩ (.int .i64 (K : Int))) be (Ed.cells ⟨(K : Int), sp0, sp0, sp0⟩) from HXE5.out.set (k := 0) (by decide) (.int .i64 (K : Int)))
          have HX6 := Lib.hid (HX5.out.other hbne.symm 0 (.int .i64 (K : Int)))
          have HOW6 := Lib.hid (own_wrt (o := 0) HOW5.out hobe (.int .i64 (K : Int)))
          have HB6 := Lib.hid (HB5.out.setCell (p := ⟨be, 0, none⟩) hbw (.int .i64 (K : Int)))
          clear hk1 hk2 hb hK HXE HX4 HOW4 HB4 HXE5 HX5 HOW5 HB5
          go_upto_region 20 with fail
          generalize W5.setCell ⟨be, 0, none⟩ (.int .i64 (K : Int)) = W6 at *
          clear e0 f0
          go_wp2_with fail
          go_loopw [5, 11] (fun lf m wx => RP3 w s2 bp be p u6 ps lf m wx) (fun _ m _ => 3 - (intOf m).toNat)
          case atStart => exact ⟨0, ⟨(K : Int), sp0, sp0, sp0⟩, (takeR s2).2, A5, c5, by omega, rfl, rfl, HLF5.out, by rw [HKK.out], by rw [HKK.out]; exact HER.out, by rw [HKK.out]; intro h; rw [HED.out h, h]; rfl, HXE6.out, HX6.out, HOW6.out, HB6.out⟩
          case round =>
            obtain ⟨m, e, s3, A6, c6, hm3, rfl, rfl, hlf, hek, her, hed, hbx, hbp, hown, hb⟩ := hrel
            rw [HKK.out] at hek her hed
            have HLF6 := Lib.hid hlf
            have HER6 := Lib.hid her
            have HED6 := Lib.hid hed
            have HXE7 := Lib.hid hbx
            have HX7 := Lib.hid hbp
            have HOW7 := Lib.hid hown
            have HB7 := Lib.hid hb
            have HEK := Lib.hid hek
            clear hlf her hed hbx hbp hown hb HXE6 HX6 HOW6 HB6 hek
            have hwm : IntKind.i64.wrap ((m : Int) + 1) = (m : Int) + 1 := IntWalk.i64_in _ (by omega)
            have e0 := HXE7.out.c 0 _ rfl
            go_upto_region 21 with fail
            go_cut [54] (fun s wx => s = .bool (decide (m < 3 ∧ K ≠ 0)) ∧ wx = wr)
            case first =>
              rw [HEK.out] at e0
              by_cases g1 : m < 3
              · have d3 : ((m : Int) < 3) = True := eq_true (by omega)
                by_cases g2 : K = 0
                · have d4 : ((K : Int) != 0) = false := by simp [g2]
                  go_wp2_with fail
                  go_meet
                  exact ⟨by rw [show decide (m < 3 ∧ K ≠ 0) = false from decide_eq_false (fun h => h.2 g2)], rfl⟩
                · have d4 : ((K : Int) != 0) = true := by simpa using g2
                  go_wp2_with fail
                  go_meet
                  exact ⟨by rw [show decide (m < 3 ∧ K ≠ 0) = true from decide_eq_true ⟨g1, g2⟩], rfl⟩
              · have d3 : ((m : Int) < 3) = False := eq_false (by omega)
                go_wp2_with fail
                go_meet
                exact ⟨by rw [show decide (m < 3 ∧ K ≠ 0) = false from decide_eq_false (fun h => g1 h.1)], rfl⟩
            case rest =>
              obtain ⟨rfl, hw⟩ := hcut
              have hw2 := hw.symm
              clear hw
              subst hw2
              by_cases hgo : m < 3 ∧ K ≠ 0
              · rw [decide_eq_true hgo]
                obtain ⟨hm, hK0⟩ := hgo
                have HER8 := Lib.hid (show edR s2 = runS (3 - (m + 1)) (setS e m (spR s3).1) (m + 1) (spR s3).2 by
                  rw [HER6.out hK0, show 3 - m = (3 - (m + 1)) + 1 by omega]
                  rfl)
                have HEK8 := Lib.hid (show (setS e m (spR s3).1).kind = (K : Int) by rw [setS_kind, HEK.out])
                have HSP := Lib.hid (show spR s3 = (⟨((takeR s3).1 : Int), ((takeR s3).1 : Int) + ((takeR (takeR s3).2).1 : Int)⟩, (takeR (takeR s3).2).2) from rfl)
                clear e0 HER6 HED6
                go_wp2_with fail
                refine (take_lf HLF6.out HB7.out).mono ?_
                rintro x W8 ⟨A8, c8, rfl, k1, k2, k3, hb⟩
                have HLF8 := Lib.hid (HLF6.out.take k1 k2)
                have HXE8 := Lib.hid (HXE7.out.next hb)
                have HX8 := Lib.hid (HX7.out.next hb)
                have HOW8 := Lib.hid (own_below HOW7.out hb)
                have HB8 := Lib.hid (HB7.out.trans (hb.mono HB7.out.size))
                clear k1 k2 hb HXE7 HX7 HOW7 HB7
                go_wp2_with fail
                refine (take_lf HLF8.out HB8.out).mono ?_
                rintro x W9 ⟨A9, c9, rfl, k1, k2, k4, hb⟩
                have HLF9 := Lib.hid (HLF8.out.take k1 k2)
                obtain ⟨lo, hlo⟩ : ∃ lo, (takeR s3).1 = lo := ⟨_, rfl⟩
                obtain ⟨more, hmo⟩ : ∃ more, (takeR (takeR s3).2).1 = more := ⟨_, rfl⟩
                rw [hlo, hmo] at HSP
                rw [hmo] at k4 ⊢
                rw [hlo] at k3 ⊢
                have hws : IntKind.i64.wrap ((lo : Int) + (more : Int)) = (lo : Int) + (more : Int) := IntWalk.i64_in _ (by omega)
                have HXE9 := Lib.hid (HXE8.out.next hb)
                have HX9 := Lib.hid (HX8.out.next hb)
                have HOW9 := Lib.hid (own_below HOW8.out hb)
                have HB9 := Lib.hid (HB8.out.trans (hb.mono HB8.out.size))
                rw [HSP.out] at HER8 HEK8
                rw [show (takeR (takeR s3).2).2 = (spR s3).2 from rfl] at HLF9 ⊢
                obtain ⟨s4, hs4⟩ : ∃ s4, (spR s3).2 = s4 := ⟨_, rfl⟩
                have HS4 := Lib.hid (show (takeR (takeR s3).2).2 = s4 from hs4)
                rw [hs4] at HLF9 ⊢
                rw [HS4.out] at HER8
                have HXS := Lib.hid (Bx.new W9 #[.int .i64 (lo : Int), .int .i64 ((lo : Int) + (more : Int))] 23)
                have HNS := Lib.hid (nxA W9 (.cells #[.int .i64 (lo : Int), .int .i64 ((lo : Int) + (more : Int))] 23))
                clear k1 k2 hb HXE8 HX8 HOW8 HB8 hlo hmo hs4 HSP
                go_upto_region 27 with fail
                generalize (W9.alloc (.cells #[.int .i64 (lo : Int), .int .i64 ((lo : Int) + (more : Int))] 23)) = V10 at *
                obtain ⟨bs, hbs⟩ : ∃ bs, bs = W9.heap.size := ⟨_, rfl⟩
                rw [← hbs] at HXS ⊢
                have HXE10 := Lib.hid (HXE9.out.next HNS.out)
                have HX10 := Lib.hid (HX9.out.next HNS.out)
                have HOW10 := Lib.hid (own_below HOW9.out HNS.out)
                have HB10 := Lib.hid (HB9.out.trans (HNS.out.mono HB9.out.size))
                clear HXE9 HX9 HOW9 HB9 HNS hbs
                have HXE11 := Lib.hid (HXE10.out.span2 hm ⟨(lo : Int), (lo : Int) + (more : Int)⟩)
                have HX11 := Lib.hid ((HX10.out.other hbne.symm (1 + 2 * m) (.int .i64 (lo : Int))).other hbne.symm (2 + 2 * m) (.int .i64 ((lo : Int) + (more : Int))))
                have HOW11 := Lib.hid (own_wrt (o := 2 + 2 * m) (own_wrt (o := 1 + 2 * m) HOW10.out hobe (.int .i64 (lo : Int))) hobe (.int .i64 ((lo : Int) + (more : Int))))
                have HB11 := Lib.hid ((HB10.out.setCell (p := ⟨be, 1 + 2 * m, none⟩) hbw (.int .i64 (lo : Int))).setCell (p := ⟨be, 2 + 2 * m, none⟩) hbw (.int .i64 ((lo : Int) + (more : Int))))
                have b0 := HXS.out.c 0 _ rfl
                have b1 := HXS.out.c 1 _ rfl
                have x1 := HXE10.out.c 1 _ rfl
                have x2 := HXE10.out.c 2 _ rfl
                have x3 := HXE10.out.c 3 _ rfl
                have x4 := HXE10.out.c 4 _ rfl
                have x5 := HXE10.out.c 5 _ rfl
                have x6 := HXE10.out.c 6 _ rfl
                have z1 := HXE10.out.fr 1
                have z2 := HXE10.out.fr 2
                have z3 := HXE10.out.fr 3
                have z4 := HXE10.out.fr 4
                have z5 := HXE10.out.fr 5
                have z6 := HXE10.out.fr 6
                rcases (show m = 0 ∨ m = 1 ∨ m = 2 by omega) with rfl | rfl | rfl
                · go_wp2_with fail
                  exact ⟨⟨1, setS e 0 ⟨(lo : Int), (lo : Int) + (more : Int)⟩, s4, A9, c9, by omega, rfl, rfl, HLF9.out, by rw [HKK.out]; exact HEK8.out, fun _ => HER8.out, fun h => absurd (HKK.out.symm.trans h) hK0, HXE11.out, HX11.out, HOW11.out, HB11.out⟩, by simp [intOf]⟩
                · go_wp2_with fail
                  exact ⟨⟨2, setS e 1 ⟨(lo : Int), (lo : Int) + (more : Int)⟩, s4, A9, c9, by omega, rfl, rfl, HLF9.out, by rw [HKK.out]; exact HEK8.out, fun _ => HER8.out, fun h => absurd (HKK.out.symm.trans h) hK0, HXE11.out, HX11.out, HOW11.out, HB11.out⟩, by simp [intOf]⟩
                · go_wp2_with fail
                  exact ⟨⟨3, setS e 2 ⟨(lo : Int), (lo : Int) + (more : Int)⟩, s4, A9, c9, by omega, rfl, rfl, HLF9.out, by rw [HKK.out]; exact HEK8.out, fun _ => HER8.out, fun h => absurd (HKK.out.symm.trans h) hK0, HXE11.out, HX11.out, HOW11.out, HB11.out⟩, by simp [intOf]⟩
              · rw [decide_eq_false hgo]
                have HFN := Lib.hid (show edR s2 = (e, s3) by
                  by_cases g2 : K = 0
                  · exact HED6.out g2
                  · obtain rfl : m = 3 := by omega
                    exact HER6.out g2)
                have x1 := HXE7.out.c 1 _ rfl
                have x2 := HXE7.out.c 2 _ rfl
                have x3 := HXE7.out.c 3 _ rfl
                have x4 := HXE7.out.c 4 _ rfl
                have x5 := HXE7.out.c 5 _ rfl
                have x6 := HXE7.out.c 6 _ rfl
                have hy := edge_at (o := 0) (fun j u hu => by rw [Nat.zero_add]; exact HX7.out.c j u hu) hk
                simp only [Nat.zero_add] at hy
                obtain ⟨y0, y1, y2, y3, y4, y5, y6⟩ := hy
                have z0 := HX7.out.fr (k * 7)
                have z1 := HX7.out.fr (k * 7 + 1)
                have z2 := HX7.out.fr (k * 7 + 2)
                have z3 := HX7.out.fr (k * 7 + 3)
                have z4 := HX7.out.fr (k * 7 + 4)
                have z5 := HX7.out.fr (k * 7 + 5)
                have z6 := HX7.out.fr (k * 7 + 6)
                have HX8 := Lib.hid (HX7.out.store7 hk e)
                have HOW8 := Lib.hid (own_store7 (o := k * 7) HOW7.out (fun h => by have := HOB.out _ h; omega : u6.ownBlock ≠ some bp) e)
                have HB8 := Lib.hid (below_store7 (o := k * 7) HB7.out HPB.out e)
                have HPE8 := Lib.hid (show pcRd s1 = runE (4 - (k + 1)) (setE p k e) (k + 1) s3 by
                  rw [HPE.out, show 4 - k = (4 - (k + 1)) + 1 by omega]
                  show runE (4 - (k + 1)) (setE p k (edR s2).1) (k + 1) (edR s2).2 = _
                  rw [HFN.out])
                clear HED6 HER6 HFN
                go_wp2_with fail
                (first | (refine ⟨?_, ?_⟩; (unfold RP2; exact ⟨k + 1, setE p k e, s3, A6, c6, by omega, by go_num, rfl, HLF6.out, HPE8.out, HX8.out, HOW8.out, HB8.out⟩); (simp [intOf]; omega)) | (go_roundw; (case rel => (unfold RP2; exact ⟨k + 1, setE p k e, s3, A6, c6, by omega, by go_num, rfl, HLF6.out, HPE8.out, HX8.out, HOW8.out, HB8.out⟩)); (case measure => (simp [intOf]; omega))) | (go_round; (case rel => (unfold RP2; exact ⟨k + 1, setE p k e, s3, A6, c6, by omega, by go_num, rfl, HLF6.out, HPE8.out, HX8.out, HOW8.out, HB8.out⟩)); (case measure => (simp [intOf]; omega))))
        · obtain rfl : k = 4 := by omega
          have d2 : (((4 : Nat) : Int) < 4) = False := eq_false (by omega)
          have HFC := Lib.hid (show (ps ++ [p]).flatMap Pc.cells = ps.flatMap Pc.cells ++ p.cells by rw [List.flatMap_append]; simp)
          have HPC2 := Lib.hid (show pcsRd n s0 = (ps ++ [p]) ++ pcsRd (n - (j + 1)) s2 by
            rw [HPC.out, show n - j = (n - (j + 1)) + 1 by omega, List.append_assoc]
            show ps ++ ((pcRd s1).1 :: pcsRd (n - (j + 1)) (pcRd s1).2) = _
            rw [HPE.out]
            rfl)
          have hLN := pc_len p
          have HPO := Lib.hid (pc_one p)
          obtain ⟨q0, q1, q2, q3, q4, q5, q6, q7, q8, q9, q10, q11, q12, q13, q14, q15, q16, q17, q18, q19, q20, q21, q22, q23, q24, q25, q26, q27, hL⟩ : ∃ q0 q1 q2 q3 q4 q5 q6 q7 q8 q9 q10 q11 q12 q13 q14 q15 q16 q17 q18 q19 q20 q21 q22 q23 q24 q25 q26 q27 : Value, p.cells = [q0, q1, q2, q3, q4, q5, q6, q7, q8, q9, q10, q11, q12, q13, q14, q15, q16, q17, q18, q19, q20, q21, q22, q23, q24, q25, q26, q27] := ⟨_, _, _, _, _, _, _, _, _, _, _, _, _, _, _, _, _, _, _, _, _, _, _, _, _, _, _, _, rfl⟩
          rw [hL] at HX2 hLN HPO HFC
          have HRG := Lib.hid HX2.out.range
          have HS1 := Lib.hid (show (Tryz.prog.info? 51).map (·.size) = some [q0, q1, q2, q3, q4, q5, q6, q7, q8, q9, q10, q11, q12, q13, q14, q15, q16, q17, q18, q19, q20, q21, q22, q23, q24, q25, q26, q27].length by rw [hLN]; exact pc_size)
          have HXA := Lib.hid (Bx.new wr #[q0, q1, q2, q3, q4, q5, q6, q7, q8, q9, q10, q11, q12, q13, q14, q15, q16, q17, q18, q19, q20, q21, q22, q23, q24, q25, q26, q27] 51)
          have HNA := Lib.hid (nxA wr (.cells #[q0, q1, q2, q3, q4, q5, q6, q7, q8, q9, q10, q11, q12, q13, q14, q15, q16, q17, q18, q19, q20, q21, q22, q23, q24, q25, q26, q27] 51))
          have HOWA := Lib.hid (own_below HOW3.out HNA.out)
          have HBA := Lib.hid (HB3.out.trans (HNA.out.mono HB3.out.size))
          have hpl : ps.length ≤ 12 := by rw [HPS.out]; omega
          clear hL hLN HPE
          go_wp2_with (first | (refine wpList_load_mid rfl 51 (.tmp 8) rfl bp 0 rfl [q0, q1, q2, q3, q4, q5, q6, q7, q8, q9, q10, q11, q12, q13, q14, q15, q16, q17, q18, q19, q20, q21, q22, q23, q24, q25, q26, q27] _ HRG.out pc_und rfl HS1.out ?_) | (at_builtin; refine wpList_append_own _ rfl (.tmp 88) (.tmp 90) 26 rfl w.heap.size 51 i0 _ 28 224 Tryz.underlying26 hi hz0 hz1 hz2 rfl (by decide) _ ps.length _ rfl HOWA.out ⟨wr.heap.size, 0, none⟩ 1 1 [q0, q1, q2, q3, q4, q5, q6, q7, q8, q9, q10, q11, q12, q13, q14, q15, q16, q17, q18, q19, q20, q21, q22, q23, q24, q25, q26, q27] rfl rfl HXA.out.news HPO.out (by unfold maxLen; omega) (by omega) HBA.out.size ?_; intro v' w' hown' hgrow _))
          have HF := Lib.hid (show RP1 t n s0 w (.slice Ak s2.length ck) v' (.int .i64 ((j : Int) + 1)) w' from ⟨j + 1, ps ++ [p], s2, Ak, ck, by omega, by rw [List.length_append, HPS.out]; rfl, by go_num, rfl, HLF2.out, HPC2.out, by rw [HFC.out, List.length_append]; exact hown', Below.grown HBA.out hgrow HBA.out.size (fun g hg => (HOWA.out.lt g hg).1)⟩)
          exact ⟨HF.out, by simp [intOf]; omega⟩
    · obtain rfl : j = n := by omega
      have d1 : ((j : Int) < (j : Int)) = False := eq_false (by omega)
      have hpc := HPC.out
      rw [Nat.sub_self] at hpc
      rw [show pcsRd j s0 = ps by rw [hpc]; exact List.append_nil _] at HSR
      obtain ⟨Ap, cp, e, hap⟩ := own_at pc_len (by decide) HOW.out
      subst e
      have HAP := Lib.hid hap
      have hl12 : ps.length ≤ 12 := by rw [HPS.out]; omega
      have HPI := Lib.hid (Pieces_any Ap cp ps _ ((HAP.out.next (Below.refl wr.heap.size wr).drew)) (by omega))
      have hcv : ∀ W' : World, Below w.heap.size w W' → (convert 37 9 (.slice A t.length c)).run Tryz.prog W' = .ok (tx t) W' := fun W' h => cv_bs (At.below HL.out h)
      have HBD := Lib.hid (show Below w.heap.size w wr.drew from HB1.out.drew)
      clear hpc hap
      go_upto_region 35 with fail
      cases hok : okPcs ps
      · have HV := Lib.hid (show rsV t = [] ∧ rsE t = 8 by rw [HVE.out.1, HVE.out.2, HSR.out, if_neg (fun h => by rw [hok] at h; cases h.1)]; exact ⟨rfl, rfl⟩)
        rw [hok] at HPI
        clear hok
        refine wp_region_noPanic ?_
        refine wp_region_held_drew (S := (fun W' => Below w.heap.size w W')) (by kernel_rfl) ?_ (fun hHeld => ?_)
        · (try dsimp only); exact HBD.out
        refine htake (i := 0) (v := ?v1) rfl (by kernel_rfl) (by kernel_rfl) (by kernel_rfl) (fun _ _ _ h => h) (Or.inl ⟨by rfl, ?hy1⟩) (by assumption) ?_
        case hy1 => (intro w hSw; (try dsimp only at hSw); go_simp; try (with_reducible rfl))
        try simp only [Act.put, List.setIfInBounds_toArray, List.set_cons_zero, List.set_cons_succ]
        refine wpAnyH_ready (rs := [1]) (by kernel_rfl) (by simp) ?_
        refine hcons rfl (fun K hK => ?_) (AllReadyH.nil)
        go_simp
        refine HPI.out.mono ?_; rintro x W5 ⟨rfl, hb⟩; replace HBD := Lib.hid (HBD.out.trans (hb.mono HBD.out.size)); clear hb
        refine hK.out _ _ ?_ (fun hHeld => ?_)
        · (try dsimp only); exact HBD.out
        clear hK K
        try simp only [Act.put, List.setIfInBounds_toArray, List.set_cons_zero, List.set_cons_succ]
        refine htake (i := 2) (v := ?v2) rfl (by kernel_rfl) (by kernel_rfl) (by kernel_rfl) (fun _ _ _ h => h) (Or.inl ⟨by rfl, ?hy2⟩) (by assumption) ?_
        case hy2 => (intro w hSw; (try dsimp only at hSw); go_simp; try (with_reducible rfl))
        try simp only [Act.put, List.setIfInBounds_toArray, List.set_cons_zero, List.set_cons_succ]
        refine htake (i := 3) (v := ?v3) rfl (by kernel_rfl) (by kernel_rfl) (by kernel_rfl) (fun _ _ _ h => h) (Or.inl ⟨by rfl, ?hy3⟩) (by assumption) ?_
        case hy3 => (intro w hSw; (try dsimp only at hSw); go_simp; try (with_reducible rfl))
        try simp only [Act.put, List.setIfInBounds_toArray, List.set_cons_zero, List.set_cons_succ]
        refine htake (i := 4) rfl (by kernel_rfl) (by kernel_rfl) (by kernel_rfl) (fun _ _ _ h => h) (Or.inr ⟨by rfl, rfl⟩) (by assumption) ?_
        try simp only [Act.put, List.setIfInBounds_toArray, List.set_cons_zero, List.set_cons_succ]
        refine htake (i := 5) rfl (by kernel_rfl) (by kernel_rfl) (by kernel_rfl) (fun _ _ _ h => h) (Or.inr ⟨by rfl, rfl⟩) (by assumption) ?_
        try simp only [Act.put, List.setIfInBounds_toArray, List.set_cons_zero, List.set_cons_succ]
        refine htake (i := 6) rfl (by kernel_rfl) (by kernel_rfl) (by kernel_rfl) (fun _ _ _ h => h) (Or.inr ⟨by rfl, rfl⟩) (by assumption) ?_
        try simp only [Act.put, List.setIfInBounds_toArray, List.set_cons_zero, List.set_cons_succ]
        refine htake (i := 7) rfl (by kernel_rfl) (by kernel_rfl) (by kernel_rfl) (fun _ _ _ h => h) (Or.inr ⟨by rfl, rfl⟩) (by assumption) ?_
        try simp only [Act.put, List.setIfInBounds_toArray, List.set_cons_zero, List.set_cons_succ]
        refine htake (i := 8) rfl (by kernel_rfl) (by kernel_rfl) (by kernel_rfl) (fun _ _ _ h => h) (Or.inr ⟨by rfl, rfl⟩) (by assumption) ?_
        try simp only [Act.put, List.setIfInBounds_toArray, List.set_cons_zero, List.set_cons_succ]
        refine htake (i := 9) rfl (by kernel_rfl) (by kernel_rfl) (by kernel_rfl) (fun _ _ _ h => h) (Or.inr ⟨by rfl, rfl⟩) (by assumption) ?_
        try simp only [Act.put, List.setIfInBounds_toArray, List.set_cons_zero, List.set_cons_succ]
        refine htake (i := 10) (v := ?v4) rfl (by kernel_rfl) (by kernel_rfl) (by kernel_rfl) (fun _ _ _ h => h) (Or.inl ⟨by rfl, ?hy4⟩) (by assumption) ?_
        case hy4 => (intro w hSw; (try dsimp only at hSw); go_simp; try (with_reducible rfl))
        try simp only [Act.put, List.setIfInBounds_toArray, List.set_cons_zero, List.set_cons_succ]
        refine wpAnyH_done (by kernel_rfl) ?_ _
        refine NoPanic.normal ?_
        go_wp2_with fail
        (try go_ret2)
        rw [← HRR.out]
        exact ⟨.slice none 0 0, by rw [HV.out.2]; rfl, by rw [HV.out.1]; exact World.ownsRow_nil _ _ _ _, HBD.out⟩
      · rw [hok] at HPI
        have HOK := Lib.hid hok
        clear hok
        refine wp_region_noPanic ?_
        refine wp_region_held_drew (S := (fun W' => Below w.heap.size w W')) (by kernel_rfl) ?_ (fun hHeld => ?_)
        · (try dsimp only); exact HBD.out
        refine htake (i := 0) (v := ?v5) rfl (by kernel_rfl) (by kernel_rfl) (by kernel_rfl) (fun _ _ _ h => h) (Or.inl ⟨by rfl, ?hy5⟩) (by assumption) ?_
        case hy5 => (intro w hSw; (try dsimp only at hSw); go_simp; try (with_reducible rfl))
        try simp only [Act.put, List.setIfInBounds_toArray, List.set_cons_zero, List.set_cons_succ]
        refine wpAnyH_ready (rs := [1]) (by kernel_rfl) (by simp) ?_
        refine hcons rfl (fun K hK => ?_) (AllReadyH.nil)
        go_simp
        refine HPI.out.mono ?_; rintro x W5 ⟨rfl, hb⟩; replace HBD := Lib.hid (HBD.out.trans (hb.mono HBD.out.size)); replace HAP := Lib.hid (HAP.out.next ((Below.refl wr.heap.size wr).drew.trans (show Below wr.heap.size wr.drew W5 from hb))); replace HOW := Lib.hid (own_below HOW.out ((Below.refl wr.heap.size wr).drew.trans (show Below wr.heap.size wr.drew W5 from hb))); clear hb
        refine hK.out _ _ ?_ (fun hHeld => ?_)
        · (try dsimp only); exact HBD.out
        clear hK K
        try simp only [Act.put, List.setIfInBounds_toArray, List.set_cons_zero, List.set_cons_succ]
        refine htake (i := 2) (v := ?v6) rfl (by kernel_rfl) (by kernel_rfl) (by kernel_rfl) (fun _ _ _ h => h) (Or.inl ⟨by rfl, ?hy6⟩) (by assumption) ?_
        case hy6 => (intro w hSw; (try dsimp only at hSw); go_simp; try (with_reducible rfl))
        try simp only [Act.put, List.setIfInBounds_toArray, List.set_cons_zero, List.set_cons_succ]
        refine htake (i := 3) (v := ?v7) rfl (by kernel_rfl) (by kernel_rfl) (by kernel_rfl) (fun _ _ _ h => h) (Or.inl ⟨by rfl, ?hy7⟩) (by assumption) ?_
        case hy7 => (intro w hSw; (try dsimp only at hSw); go_simp; try (with_reducible rfl))
        try simp only [Act.put, List.setIfInBounds_toArray, List.set_cons_zero, List.set_cons_succ]
        refine htake (i := 4) (v := ?v8) rfl (by kernel_rfl) (by kernel_rfl) (by kernel_rfl) (fun _ _ _ h => h) (Or.inl ⟨by rfl, ?hy8⟩) (by assumption) ?_
        case hy8 => (intro w hSw; (try dsimp only at hSw); go_simp; try (with_reducible rfl))
        try simp only [Act.put, List.setIfInBounds_toArray, List.set_cons_zero, List.set_cons_succ]
        refine htake (i := 7) (v := ?v9) rfl (by kernel_rfl) (by kernel_rfl) (by kernel_rfl) (fun _ _ _ h => h) (Or.inl ⟨by rfl, ?hy9⟩) (by assumption) ?_
        case hy9 => (intro w hSw; (try dsimp only at hSw); go_simp; try (with_reducible rfl))
        try simp only [Act.put, List.setIfInBounds_toArray, List.set_cons_zero, List.set_cons_succ]
        refine htake (i := 8) (v := ?v10) rfl (by kernel_rfl) (by kernel_rfl) (by kernel_rfl) (fun _ _ _ h => h) (Or.inl ⟨by rfl, ?hy10⟩) (by assumption) ?_
        case hy10 => (intro w hSw; (try dsimp only at hSw); go_simp; try (with_reducible rfl))
        try simp only [Act.put, List.setIfInBounds_toArray, List.set_cons_zero, List.set_cons_succ]
        refine wpAnyH_ready (rs := [5]) (by kernel_rfl) (by simp) ?_
        refine hcons rfl (fun K hK => ?_) (AllReadyH.nil)
        go_simp
        refine (bytesR_any Ap cp ps W5 HAP.out HOK.out hl12).mono ?_; rintro x W6 ⟨v6, rfl, ho, hb⟩; replace HBD := Lib.hid (HBD.out.trans (hb.mono HBD.out.size)); replace HOW := Lib.hid (own_below HOW.out hb); have hc6 := cv_row ho; clear hb ho
        refine hK.out _ _ ?_ (fun hHeld => ?_)
        · (try dsimp only); exact HBD.out
        clear hK K
        try simp only [Act.put, List.setIfInBounds_toArray, List.set_cons_zero, List.set_cons_succ]
        refine wpAnyH_ready (rs := [6]) (by kernel_rfl) (by simp) ?_
        refine hcons rfl (fun K hK => ?_) (AllReadyH.nil)
        go_simp
        refine hK.out _ _ ?_ (fun hHeld => ?_)
        · (try dsimp only); exact HBD.out
        clear hK K
        try simp only [Act.put, List.setIfInBounds_toArray, List.set_cons_zero, List.set_cons_succ]
        refine htake (i := 9) (v := ?v11) rfl (by kernel_rfl) (by kernel_rfl) (by kernel_rfl) (fun _ _ _ h => h) (Or.inl ⟨by rfl, ?hy11⟩) (by assumption) ?_
        case hy11 => (intro w hSw; (try dsimp only at hSw); go_simp; try (with_reducible rfl))
        try simp only [Act.put, List.setIfInBounds_toArray, List.set_cons_zero, List.set_cons_succ]
        refine htake (i := 10) (v := ?v12) rfl (by kernel_rfl) (by kernel_rfl) (by kernel_rfl) (fun _ _ _ h => h) (Or.inl ⟨by rfl, ?hy12⟩) (by assumption) ?_
        case hy12 => (intro w hSw; (try dsimp only at hSw); go_simp; try (with_reducible rfl))
        try simp only [Act.put, List.setIfInBounds_toArray, List.set_cons_zero, List.set_cons_succ]
        refine wpAnyH_done (by kernel_rfl) ?_ _
        refine NoPanic.normal ?_
        go_wp2_with fail
        · rename_i h
          have hst : ¬ scanB ps = t := by simpa using h
          have HV := Lib.hid (show rsV t = [] ∧ rsE t = 8 by rw [HVE.out.1, HVE.out.2, HSR.out, if_neg (fun h => hst h.2)]; exact ⟨rfl, rfl⟩)
          (try go_ret2)
          rw [← HRR.out]
          exact ⟨.slice none 0 0, by rw [HV.out.2]; rfl, by rw [HV.out.1]; exact World.ownsRow_nil _ _ _ _, HBD.out⟩
        · rename_i h
          have hst : scanB ps = t := by simpa using h
          have HV := Lib.hid (show rsV t = ps ∧ rsE t = 0 by rw [HVE.out.1, HVE.out.2, HSR.out, if_pos ⟨HOK.out, hst⟩]; exact ⟨rfl, rfl⟩)
          (try go_ret2)
          rw [← HRR.out]
          exact ⟨_, by rw [HV.out.2]; rfl, by rw [HV.out.1]; exact HOW.out, HBD.out⟩
end Go.Proofs.YtonnemkecppmiaaGreatDoor
