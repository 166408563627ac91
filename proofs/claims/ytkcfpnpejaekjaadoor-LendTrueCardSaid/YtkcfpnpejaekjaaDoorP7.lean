import Derived.Test.YtkcfpnpejaekjaaDoorP6
import Derived.Test.YtkcfpnpejaekjaaDoorMat
namespace Go.Proofs.YtkcfpnpejaekjaaDoor
open Go.RowKit
/-! The program: matched (its closure, which calls itself). -/
def ncell (s : Nat) : List Value := [.int .i64 s]
structure RowsAt (w : World) (B : Nat) (A : Option Addr) (R : List (List Nat)) : Prop where
  row : ∀ r l, R[r]? = some l → ∃ b off A' c', A = some ⟨b, off, none⟩ ∧ b < B ∧ w.cell? ⟨b, off + r, none⟩ = some (.slice A' l.length c') ∧ At w B 1 ncell A' l
theorem RowsAt.below {w w' : World} {B : Nat} {A : Option Addr} {R : List (List Nat)} (h : RowsAt w B A R) (hb : Below B w w') : RowsAt w' B A R := ⟨fun r l hl => by
  obtain ⟨b, off, A', c', e, hlt, hc, hat⟩ := h.row r l hl
  exact ⟨b, off, A', c', e, hlt, (hb.cell (p := ⟨b, off + r, none⟩) hlt).trans hc, hat.below hb⟩⟩
theorem RowsAt.more {w : World} {B B' : Nat} {A : Option Addr} {R : List (List Nat)} (h : RowsAt w B A R) (hB : B ≤ B') : RowsAt w B' A R := ⟨fun r l hl => by
  obtain ⟨b, off, A', c', e, hlt, hc, hat⟩ := h.row r l hl
  exact ⟨b, off, A', c', e, by omega, hc, hat.more hB⟩⟩
theorem RowsAt.next {w w' : World} {A : Option Addr} {R : List (List Nat)} (h : RowsAt w w.heap.size A R) (hb : Below w.heap.size w w') : RowsAt w' w'.heap.size A R := (h.below hb).more hb.size
def rowF (R : List (List Nat)) (r : Nat) : List Nat := R.getD r []
theorem rowF_get {R : List (List Nat)} {r : Nat} (h : r < R.length) : R[r]? = some (rowF R r) := by
  unfold rowF; rw [List.getD_eq_getElem?_getD, List.getElem?_eq_getElem h]; rfl
theorem rowF_lt {R : List (List Nat)} {r s : Nat} (h : s ∈ rowF R r) : r < R.length := Classical.byContradiction fun hn => by
  unfold rowF at h; rw [List.getD_eq_getElem?_getD, List.getElem?_eq_none (by omega)] at h; cases h
structure RowsOk (R : List (List Nat)) (n : Nat) : Prop where
  len : R.length ≤ 16
  n96 : n ≤ 96
  row : ∀ l ∈ R, l.length ≤ 96 ∧ ∀ s ∈ l, s < n
theorem RowsOk.at {R : List (List Nat)} {n r : Nat} (h : RowsOk R n) (hr : r < R.length) : (rowF R r).length ≤ 96 ∧ ∀ s ∈ rowF R r, s < n := h.row _ (List.mem_of_getElem? (rowF_get hr))
def tkI (v : Option Nat) : Int := match v with | some r => (r : Int) | none => -1
structure VBlk (w : World) (g n : Nat) (f : Nat → Value) : Prop where
  lt : g < w.heap.size
  cell : ∀ j, j < n → w.cell? ⟨g, j, none⟩ = some (f j)
  free : ∀ j, w.frozen? ⟨g, j, none⟩ = false
theorem VBlk.below {w w' : World} {B g n : Nat} {f : Nat → Value} (h : VBlk w g n f) (hb : Below B w w') (hg : g < B) : VBlk w' g n f :=
  ⟨Nat.lt_of_lt_of_le h.lt hb.size, fun j hj => (hb.cell (p := ⟨g, j, none⟩) hg).trans (h.cell j hj), fun j => (hb.frozen (p := ⟨g, j, none⟩) hg).trans (h.free j)⟩
theorem VBlk.next {w w' : World} {g n : Nat} {f : Nat → Value} (h : VBlk w g n f) (hb : Below w.heap.size w w') : VBlk w' g n f := h.below hb h.lt
theorem VBlk.set_ {w : World} {g n : Nat} {f f' : Nat → Value} (h : VBlk w g n f) {j : Nat} {x : Value} (hj : j < n) (hx : f' j = x) (ho : ∀ i, i ≠ j → f' i = f i) : VBlk (w.setCell ⟨g, j, none⟩ x) g n f' := by
  refine ⟨by simpa [World.setCell] using h.lt, fun i hi => ?_, fun i => by rw [World.frozen?_setCell]; exact h.free i⟩
  by_cases e : i = j
  · subst e
    rw [hx]
    exact World.cell?_setCell_same' _ _ _ (by rw [h.cell i hi]; rfl)
  · rw [World.cell?_setCell_other _ _ _ _ (by intro e'; injection e' with _ e2; exact e e2.symm), h.cell i hi, ho i e]
theorem VBlk.other {w : World} {g b n : Nat} {f : Nat → Value} (h : VBlk w g n f) (hne : b ≠ g) (j : Nat) (x : Value) : VBlk (w.setCell ⟨b, j, none⟩ x) g n f := by
  refine ⟨by simpa [World.setCell] using h.lt, fun i hi => ?_, fun i => by rw [World.frozen?_setCell]; exact h.free i⟩
  rw [World.cell?_setCell_other _ _ _ _ (by intro e'; injection e' with e2; exact hne e2)]; exact h.cell i hi
theorem VBlk.drewN {w : World} {g n k : Nat} {f : Nat → Value} (h : VBlk w g n f) : VBlk (w.drewN k) g n f := ⟨h.lt, h.cell, h.free⟩
theorem VBlk.drew {w : World} {g n : Nat} {f : Nat → Value} (h : VBlk w g n f) : VBlk w.drew g n f := ⟨h.lt, h.cell, h.free⟩
/-- How many slots were not seen. -/
def unS (S : Nat → Bool) : Nat → Nat
  | 0 => 0
  | n + 1 => unS S n + if S n then 0 else 1
theorem unS_mono {S S' : Nat → Bool} (h : ∀ s, S s = true → S' s = true) : ∀ n : Nat, unS S' n ≤ unS S n
  | 0 => Nat.le_refl _
  | n + 1 => by
    have ih := unS_mono h n
    show unS S' n + (if S' n then 0 else 1) ≤ unS S n + if S n then 0 else 1
    cases hs : S n
    · split <;> simp <;> omega
    · rw [h n hs]; exact Nat.add_le_add ih (Nat.le_refl _)
theorem unS_lt {S S' : Nat → Bool} (h : ∀ s, S s = true → S' s = true) {s : Nat} (h0 : S s = false) (h1 : S' s = true) : ∀ {n : Nat}, s < n → unS S' n < unS S n
  | n + 1, hs => by
    show unS S' n + (if S' n then 0 else 1) < unS S n + if S n then 0 else 1
    by_cases e : s = n
    · subst e
      have := unS_mono h s
      rw [h0, h1]; simp; omega
    · have := unS_lt h h0 h1 (n := n) (by omega)
      cases hs : S n
      · split <;> simp <;> omega
      · rw [h n hs]; simp; exact this
structure GD (B br bs bt bg gt gs : Nat) : Prop where
  b1 : B ≤ gt
  b2 : B ≤ gs
  t1 : gt ≠ br
  t2 : gt ≠ bs
  t3 : gt ≠ bt
  t4 : gt ≠ bg
  t5 : gt ≠ gs
  s1 : gs ≠ br
  s2 : gs ≠ bs
  s3 : gs ≠ bt
  s4 : gs ≠ bg
structure GW (V : World) (R : List (List Nat)) (A : Option Addr) (c n br bs bt bg gt gs : Nat) (T : Tk) (S : Nat → Bool) (w : World) : Prop where
  b : Below V.heap.size V w
  xr : Bx w br [.slice A R.length c]
  xs : Bx w bs [.slice (some ⟨gs, 0, none⟩) n n]
  xt : Bx w bt [.slice (some ⟨gt, 0, none⟩) n n]
  xg : Bx w bg [.func (.func 72) #[] #[.pointer (some ⟨br, 0, none⟩), .pointer (some ⟨bs, 0, none⟩), .pointer (some ⟨bt, 0, none⟩), .pointer (some ⟨bg, 0, none⟩)]]
  vt : VBlk w gt n (fun s => .int .i64 (tkI (T s)))
  vs : VBlk w gs n (fun s => .bool (S s))
theorem GW.setT {V : World} {R : List (List Nat)} {A : Option Addr} {c n br bs bt bg gt gs : Nat} {T : Tk} {S : Nat → Bool} {w : World} (h : GW V R A c n br bs bt bg gt gs T S w) (hD : GD V.heap.size br bs bt bg gt gs) {s row : Nat} (hs : s < n) :
    GW V R A c n br bs bt bg gt gs (updT T s (some row)) S (w.setCell ⟨gt, s, none⟩ (.int .i64 row)) :=
  ⟨h.b.setCell (p := ⟨gt, s, none⟩) hD.b1 _, h.xr.other (Ne.symm hD.t1) _ _, h.xs.other (Ne.symm hD.t2) _ _, h.xt.other (Ne.symm hD.t3) _ _, h.xg.other (Ne.symm hD.t4) _ _,
    h.vt.set_ hs (by unfold updT; rw [if_pos rfl]; rfl) (fun i hi => by unfold updT; rw [if_neg hi]), h.vs.other hD.t5 _ _⟩
theorem GW.setS {V : World} {R : List (List Nat)} {A : Option Addr} {c n br bs bt bg gt gs : Nat} {T : Tk} {S : Nat → Bool} {w : World} (h : GW V R A c n br bs bt bg gt gs T S w) (hD : GD V.heap.size br bs bt bg gt gs) {s : Nat} (hs : s < n) :
    GW V R A c n br bs bt bg gt gs T (markS S s) (w.setCell ⟨gs, s, none⟩ (.bool true)) :=
  ⟨h.b.setCell (p := ⟨gs, s, none⟩) hD.b2 _, h.xr.other (Ne.symm hD.s1) _ _, h.xs.other (Ne.symm hD.s2) _ _, h.xt.other (Ne.symm hD.s3) _ _, h.xg.other (Ne.symm hD.s4) _ _,
    h.vt.other (Ne.symm hD.t5) _ _, h.vs.set_ hs (by unfold markS; simp) (fun i hi => by unfold markS; simp [hi])⟩
theorem GW.drewN {V : World} {R : List (List Nat)} {A : Option Addr} {c n br bs bt bg gt gs : Nat} {T : Tk} {S : Nat → Bool} {w : World} (h : GW V R A c n br bs bt bg gt gs T S w) (k : Nat) : GW V R A c n br bs bt bg gt gs T S (w.drewN k) :=
  ⟨below_drewN h.b k, h.xr.drewN, h.xs.drewN, h.xt.drewN, h.xg.drewN, h.vt.drewN, h.vs.drewN⟩
theorem GW.drew {V : World} {R : List (List Nat)} {A : Option Addr} {c n br bs bt bg gt gs : Nat} {T : Tk} {S : Nat → Bool} {w : World} (h : GW V R A c n br bs bt bg gt gs T S w) : GW V R A c n br bs bt bg gt gs T S w.drew :=
  ⟨h.b.drew, h.xr.drew, h.xs.drew, h.xt.drew, h.xg.drew, h.vt.drew, h.vs.drew⟩
def RetG (V : World) (R : List (List Nat)) (A : Option Addr) (c n br bs bt bg gt gs : Nat) (T : Tk) (S : Nat → Bool) (row : Nat) (e : Ending) (w' : World) : Prop :=
  ∃ (b : Bool) (T' : Tk) (S' : Nat → Bool), e = .returned (.bool b) ∧ GW V R A c n br bs bt bg gt gs T' S' w' ∧ (b = true → GiveY (rowF R) T T' S S' row n) ∧ (b = false → T' = T ∧ GiveN (rowF R) T S S' (rowF R row))
structure RGv (V : World) (R : List (List Nat)) (A : Option Addr) (c n br bs bt bg gt gs : Nat) (T : Tk) (S : Nat → Bool) (l : List Nat) (k : Nat) (W : World) : Prop where
  hk : k ≤ l.length
  ex : ∃ S', GiveN (rowF R) T S S' (l.take k) ∧ GW V R A c n br bs bt bg gt gs T S' W
set_option maxRecDepth 100000 in
set_option maxHeartbeats 2000000 in
theorem give_any (V : World) (R : List (List Nat)) (A : Option Addr) (c n br bs bt bg gt gs : Nat) (hD : GD V.heap.size br bs bt bg gt gs) (hR : RowsAt V V.heap.size A R) (ok : RowsOk R n) (m : Nat) :
    ∀ (row : Nat) (T : Tk) (S : Nat → Bool) (w : World), unS S n ≤ m → row < R.length → (∀ s r, T s = some r → s ∈ rowF R r) → GW V R A c n br bs bt bg gt gs T S w →
      Calls Tryd.prog 72 #[.int .i64 row, .pointer (some ⟨br, 0, none⟩), .pointer (some ⟨bs, 0, none⟩), .pointer (some ⟨bt, 0, none⟩), .pointer (some ⟨bg, 0, none⟩)] w (RetG V R A c n br bs bt bg gt gs T S row) := by
  have HD := Lib.hid hD
  have HR := Lib.hid hR
  have OK := Lib.hid ok
  have hn96 := ok.n96
  have hlen := ok.len
  clear hD hR ok
  induction m using Nat.strongRecOn with
  | ind m ih =>
    intro row T S w hm hrow hnm hG
    have IH := Lib.hid ih
    have HG := Lib.hid hG
    have HM := Lib.hid hm
    have HNM := Lib.hid hnm
    obtain ⟨b, off, A', c', e, hb, h0, hat⟩ := HR.out.row row _ (rowF_get hrow)
    have OKL := Lib.hid (OK.out.at hrow)
    have hll := OKL.out.1
    have q0 := hG.xr.c 0 _ rfl
    replace h0 := (hG.b.cell (p := ⟨b, off + row, none⟩) hb).trans h0
    have HAT := Lib.hid hat
    have hbs := Nat.lt_of_lt_of_le hb hG.b.size
    obtain ⟨l, hle⟩ : ∃ l, l = rowF R row := ⟨_, rfl⟩
    rw [← hle] at h0 HAT OKL hll
    have HL := Lib.hid hle
    clear ih hm hnm hG hat hle
    subst e
    go_enter Tryd.func72, Tryd.ntmps72
    go_wp2_with fail
    clear q0 h0
    go_loopw [14] (fun iv wr => ∃ k : Nat, iv = .int .i64 k ∧ RGv V R (some ⟨b, off, none⟩) c n br bs bt bg gt gs T S l k wr) (fun iv _ => l.length - (intOf iv).toNat)
    case atStart => exact ⟨0, rfl, by omega, S, GiveN.start, HG.out⟩
    case round =>
      obtain ⟨k, rfl, hk, S', hN, hI⟩ := hrel
      have HN := Lib.hid hN
      have HI := Lib.hid hI
      clear hN
      by_cases hlt : k < l.length
      · obtain ⟨s, hs⟩ : ∃ s, l[k]? = some s := ⟨_, List.getElem?_eq_getElem hlt⟩
        have hsm : s ∈ l := List.mem_of_getElem? hs
        have hsn : s < n := OKL.out.2 s hsm
        obtain ⟨b2, off2, e2, hb2, hc⟩ := (HAT.out.below hI.b) k s hs
        have g0 := hc 0 _ rfl
        rw [Nat.mul_one, Nat.add_zero] at g0
        have htk : l.take (k + 1) = l.take k ++ [s] := by rw [List.take_add_one, hs]; rfl
        have HTK := Lib.hid htk
        have hbs2 := Nat.lt_of_lt_of_le hb2 hI.b.size
        have x2 := hI.xs.c 0 _ rfl
        have v2 := hI.vs.cell s hsn
        have f2 := hI.vs.free s
        have HSM := Lib.hid hsm
        clear hc htk hsm hs hI
        subst e2
        cases hS : S' s
        · rw [hS] at v2
          have HS := Lib.hid hS
          have HI2 := Lib.hid (HI.out.setS HD.out hsn)
          clear hS
          go_upto_region 6 with fail
          generalize wr.setCell ⟨gs, s, none⟩ (.bool true) = W2 at *
          have x3 := HI2.out.xt.c 0 _ rfl
          have x4 := HI2.out.xg.c 0 _ rfl
          have v3 := HI2.out.vt.cell s hsn
          have f3 := HI2.out.vt.free s
          cases hT : T s with
          | none =>
            rw [hT] at v3
            replace v3 : W2.cell? ⟨gt, s, none⟩ = some (.int .i64 (-1)) := v3
            have HT := Lib.hid hT
            have HY := Lib.hid (GiveY.free HN.out HS.out hT (by rw [← HL.out]; exact HSM.out) hsn)
            clear hT x2 v2 f2 g0
            go_wp2_with (go_quiet (fail))
            go_ret
            exact ⟨true, _, _, rfl, (HI2.out.drewN _).setT HD.out hsn, fun _ => HY.out, (fun h => by cases h)⟩
          | some r =>
            rw [hT] at v3
            replace v3 : W2.cell? ⟨gt, s, none⟩ = some (.int .i64 r) := v3
            have HT := Lib.hid hT
            have HRR := Lib.hid (HNM.out s r hT)
            have hrl := rowF_lt HRR.out
            clear hT x2 v2 f2 g0
            have HLTu := Lib.hid (show unS (markS S' s) n < m from Nat.lt_of_lt_of_le (unS_lt (S := S') (fun u hu => mark_of hu) HS.out (mark_own _ _) hsn) (Nat.le_trans (unS_mono HN.out.seen n) HM.out))
            have d1 : decide ((r : Int) < 0) = false := decide_eq_false (by omega)
            refine wp_region_noPanic ?_
            refine wp_region_held_drew (S := (fun W => W.cell? ⟨bt, 0, none⟩ = some (.slice (some ⟨gt, 0, none⟩) n n) ∧ W.cell? ⟨bg, 0, none⟩ = some (.func (.func 72) #[] #[.pointer (some ⟨br, 0, none⟩), .pointer (some ⟨bs, 0, none⟩), .pointer (some ⟨bt, 0, none⟩), .pointer (some ⟨bg, 0, none⟩)]) ∧ W.cell? ⟨gt, s, none⟩ = some (.int .i64 r))) (by kernel_rfl) ?_ (fun hHeld => ?_)
            · (try dsimp only); exact ⟨x3, x4, v3⟩
            refine htake (i := 0) (v := ?v1) rfl (by kernel_rfl) (by kernel_rfl) (by kernel_rfl) (fun _ _ _ h => h) (Or.inl ⟨by rfl, ?hy1⟩) (by assumption) ?_
            case hy1 => (intro w hSw; (try dsimp only at hSw); go_simp; try (with_reducible rfl))
            try simp only [Act.put, List.setIfInBounds_toArray, List.set_cons_zero, List.set_cons_succ]
            refine htake (i := 1) (v := ?v2) rfl (by kernel_rfl) (by kernel_rfl) (by kernel_rfl) (fun _ _ _ h => h) (Or.inl ⟨by rfl, ?hy2⟩) (by assumption) ?_
            case hy2 => (intro w hSw; (try dsimp only at hSw); go_simp; try (with_reducible rfl))
            try simp only [Act.put, List.setIfInBounds_toArray, List.set_cons_zero, List.set_cons_succ]
            refine htake (i := 2) (v := ?v3) rfl (by kernel_rfl) (by kernel_rfl) (by kernel_rfl) (fun _ _ _ h => h) (Or.inl ⟨by rfl, ?hy3⟩) (by assumption) ?_
            case hy3 => (intro w hSw; (try dsimp only at hSw); go_simp; try (with_reducible rfl))
            try simp only [Act.put, List.setIfInBounds_toArray, List.set_cons_zero, List.set_cons_succ]
            refine htake (i := 3) (v := ?v4) rfl (by kernel_rfl) (by kernel_rfl) (by kernel_rfl) (fun _ _ _ h => h) (Or.inl ⟨by rfl, ?hy4⟩) (by assumption) ?_
            case hy4 => (intro w hSw; (try dsimp only at hSw); go_simp; try (with_reducible rfl))
            try simp only [Act.put, List.setIfInBounds_toArray, List.set_cons_zero, List.set_cons_succ]
            refine htake (i := 4) (v := ?v5) rfl (by kernel_rfl) (by kernel_rfl) (by kernel_rfl) (fun _ _ _ h => h) (Or.inl ⟨by rfl, ?hy5⟩) (by assumption) ?_
            case hy5 => (intro w hSw; (try dsimp only at hSw); go_simp; try (with_reducible rfl))
            try simp only [Act.put, List.setIfInBounds_toArray, List.set_cons_zero, List.set_cons_succ]
            refine htake (i := 5) (v := ?v6) rfl (by kernel_rfl) (by kernel_rfl) (by kernel_rfl) (fun _ _ _ h => h) (Or.inl ⟨by rfl, ?hy6⟩) (by assumption) ?_
            case hy6 => (intro w hSw; (try dsimp only at hSw); go_simp; try (with_reducible rfl))
            try simp only [Act.put, List.setIfInBounds_toArray, List.set_cons_zero, List.set_cons_succ]
            refine htake (i := 6) (v := ?v7) rfl (by kernel_rfl) (by kernel_rfl) (by kernel_rfl) (fun _ _ _ h => h) (Or.inl ⟨by rfl, ?hy7⟩) (by assumption) ?_
            case hy7 => (intro w hSw; (try dsimp only at hSw); go_simp; try (with_reducible rfl))
            try simp only [Act.put, List.setIfInBounds_toArray, List.set_cons_zero, List.set_cons_succ]
            refine htake (i := 7) (v := ?v8) rfl (by kernel_rfl) (by kernel_rfl) (by kernel_rfl) (fun _ _ _ h => h) (Or.inl ⟨by rfl, ?hy8⟩) (by assumption) ?_
            case hy8 => (intro w hSw; (try dsimp only at hSw); go_simp; try (with_reducible rfl))
            try simp only [Act.put, List.setIfInBounds_toArray, List.set_cons_zero, List.set_cons_succ]
            refine htake (i := 8) (v := ?v9) rfl (by kernel_rfl) (by kernel_rfl) (by kernel_rfl) (fun _ _ _ h => h) (Or.inl ⟨by rfl, ?hy9⟩) (by assumption) ?_
            case hy9 => (intro w hSw; (try dsimp only at hSw); go_simp; try (with_reducible rfl))
            try simp only [Act.put, List.setIfInBounds_toArray, List.set_cons_zero, List.set_cons_succ]
            refine htake (i := 9) (v := ?v10) rfl (by kernel_rfl) (by kernel_rfl) (by kernel_rfl) (fun _ _ _ h => h) (Or.inl ⟨by rfl, ?hy10⟩) (by assumption) ?_
            case hy10 => (intro w hSw; (try dsimp only at hSw); go_simp; try (with_reducible rfl))
            try simp only [Act.put, List.setIfInBounds_toArray, List.set_cons_zero, List.set_cons_succ]
            refine htake (i := 10) (v := ?v11) rfl (by kernel_rfl) (by kernel_rfl) (by kernel_rfl) (fun _ _ _ h => h) (Or.inl ⟨by rfl, ?hy11⟩) (by assumption) ?_
            case hy11 => (intro w hSw; (try dsimp only at hSw); go_simp; try (with_reducible rfl))
            try simp only [Act.put, List.setIfInBounds_toArray, List.set_cons_zero, List.set_cons_succ]
            refine wpAnyH_ready (rs := [11]) (by kernel_rfl) (by simp) ?_
            refine hcons rfl (fun K hK => ?_) (AllReadyH.nil)
            go_simp
            (with_reducible refine (IH.out (unS (markS S' s) n) HLTu.out r T (markS S' s) _ (Nat.le_refl _) hrl HNM.out ?_).mono ?_); (exact HI2.out.drew); rintro e w3 ⟨y, T', S'', rfl, hI3, hy, hn⟩; have hTs : T' s = some r := (by cases y; exact ((hn rfl).1 ▸ HT.out); exact ((hy rfl).keep s (mark_own _ _)).trans HT.out)
            refine hK.out _ _ ?_ (fun hHeld => ?_)
            · (try dsimp only); exact ⟨hI3.xt.c 0 _ rfl, hI3.xg.c 0 _ rfl, by have := hI3.vt.cell s hsn; rw [hTs] at this; exact this⟩
            clear hK K
            try simp only [Act.put, List.setIfInBounds_toArray, List.set_cons_zero, List.set_cons_succ]
            refine htake (i := 12) (v := ?v12) rfl (by kernel_rfl) (by kernel_rfl) (by kernel_rfl) (fun _ _ _ h => h) (Or.inl ⟨by rfl, ?hy12⟩) (by assumption) ?_
            case hy12 => (intro w hSw; (try dsimp only at hSw); go_simp; try (with_reducible rfl))
            try simp only [Act.put, List.setIfInBounds_toArray, List.set_cons_zero, List.set_cons_succ]
            refine wpAnyH_done (by kernel_rfl) ?_ _
            refine NoPanic.normal ?_
            iterate 14 (try clear hHeld)
            have HI3 := Lib.hid hI3
            clear x3 x4 v3 f3
            cases y
            · have HE := Lib.hid (hn rfl)
              have HF := Lib.hid (show RGv V R (some ⟨b, off, none⟩) c n br bs bt bg gt gs T S l (k + 1) w3 from ⟨by omega, S'', by rw [HTK.out]; exact HN.out.go HT.out HE.out.2, by have := HI3.out; rw [HE.out.1] at this; exact this⟩)
              clear hy hn hI3 hTs
              go_wp2_with fail
              exact ⟨⟨k + 1, by go_num, HF.out⟩, by simp [intOf]; omega⟩
            · have HY := Lib.hid (GiveY.move HN.out HS.out HT.out (show s ∈ rowF R row by rw [← HL.out]; exact HSM.out) hsn (hy rfl))
              have x3 := hI3.xt.c 0 _ rfl
              have v3 := hI3.vt.cell s hsn
              have f3 := hI3.vt.free s
              clear hy hn hI3 hTs
              go_wp2_with fail
              go_ret
              exact ⟨true, _, _, rfl, HI3.out.setT HD.out hsn, fun _ => HY.out, (fun h => by cases h)⟩
        · rw [hS] at v2
          have HF := Lib.hid (show RGv V R (some ⟨b, off, none⟩) c n br bs bt bg gt gs T S l (k + 1) wr from ⟨by omega, S', by rw [HTK.out]; exact HN.out.skip hS, HI.out⟩)
          clear hS
          go_wp2_with fail
          exact ⟨⟨k + 1, by go_num, HF.out⟩, by simp [intOf]; omega⟩
      · have hkl : k = l.length := by omega
        have HF := Lib.hid (show GiveN (rowF R) T S S' (rowF R row) from by have := HN.out; rw [hkl, List.take_length, HL.out] at this; exact this)
        clear hkl hI
        go_wp2_with fail
        go_ret
        exact ⟨false, _, _, rfl, HI.out, (fun h => by cases h), fun _ => ⟨rfl, HF.out⟩⟩
end Go.Proofs.YtkcfpnpejaekjaaDoor
