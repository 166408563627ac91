import Derived.Test.YtkcfpnpejaekjaaDoorS1
import Derived.Test.YtkcfpnpejaekjaaDoorFts
import Derived.Deep.MidRow
namespace Go.Proofs.YtkcfpnpejaekjaaDoor
open Go.RowKit
/-! The program: fits. -/
def gI (g : Nat → Nat) (i : Nat) : Int := ((g i : Nat) : Int)
theorem gI_eq (g : Nat → Nat) (i : Nat) : gI g i = ((g i : Nat) : Int) := rfl
structure OkBk (m : Mt) (g : Nat → Nat) : Prop where
  n0 : 0 ≤ m.t.n
  n2 : m.t.n ≤ 16
  h6 : m.t.admits.length ≤ 6
  adm : ∀ x ∈ m.t.admits, -1 ≤ x ∧ x ≤ 16
  lt : ∀ k, g k < 256
  ok : ∀ k, k < m.t.n.toNat → OkB m.t.admits.length (g k)
def bkA (m : Mt) (g : Nat → Nat) : Array Value := #[.int .i64 m.t.n, .slice m.A1 m.t.loans.length m.c1, .slice m.A2 m.t.looks.length m.c2, .slice m.A3 m.t.admits.length m.c3, .int .i64 (gI g 0), .int .i64 (gI g 1), .int .i64 (gI g 2), .int .i64 (gI g 3), .int .i64 (gI g 4), .int .i64 (gI g 5), .int .i64 (gI g 6), .int .i64 (gI g 7), .int .i64 (gI g 8), .int .i64 (gI g 9), .int .i64 (gI g 10), .int .i64 (gI g 11), .int .i64 (gI g 12), .int .i64 (gI g 13), .int .i64 (gI g 14), .int .i64 (gI g 15)]
theorem can_at (m : Mt) (g : Nat → Nat) {k : Nat} (hk : k < 16) : (bkA m g).toList[4 + k]? = some (.int .i64 ((g k : Nat) : Int)) := by
  have : k = 0 ∨ k = 1 ∨ k = 2 ∨ k = 3 ∨ k = 4 ∨ k = 5 ∨ k = 6 ∨ k = 7 ∨ k = 8 ∨ k = 9 ∨ k = 10 ∨ k = 11 ∨ k = 12 ∨ k = 13 ∨ k = 14 ∨ k = 15 := by omega
  rcases this with rfl | rfl | rfl | rfl | rfl | rfl | rfl | rfl | rfl | rfl | rfl | rfl | rfl | rfl | rfl | rfl <;> rfl
theorem bk_und : Tryd.prog.underlying 69 = some (.struct (Tryd.prog.fieldsOf 69)) := by kernel_rfl
theorem bk_size : (Tryd.prog.info? 69).map (·.size) = some 20 := by kernel_rfl
theorem Bx.range {W : World} {b : Nat} {L : List Value} (h : Bx W b L) : W.rangeAt b 0 L := fun j v hv => by rw [Nat.zero_add]; exact h.c j v hv
theorem free_bk (m : Mt) (g : Nat → Nat) (w : World) (hr : TaleAt w w.heap.size m) (h6 : m.t.admits.length ≤ 6) : Calls Tryd.prog 64 #[.agg (bkA m g)] w (Ret (.int .i64 (freeN m.t.admits m.t.admits.length)) w) := free_any m (gI g) w hr h6
def natV (l : List Nat) : List Value := l.map fun k => Value.int .i64 ((k : Nat) : Int)
structure RF1 (V W : World) (sv : Value) (l : List Nat) : Prop where
  b : Below V.heap.size V W
  own : W.ownsRow V.heap.size 3 1 sv l.length (natV l)
theorem RF1.app {V W W' : World} {sv sv' : Value} {l : List Nat} {x : Nat} (h : RF1 V W sv l) (t : TypeId) (ho : W'.ownsRow V.heap.size 3 1 sv' (l.length + 1) (natV l ++ [.int .i64 x])) (hg : (W.alloc (.cells #[.int .i64 x] t)).grownBy W' sv.ownBlock) : RF1 V W' sv' (l ++ [x]) :=
  ⟨(h.b.alloc h.b.size _).grown hg (by have := h.b.size; simp; omega) (fun k hk => (h.own.lt k hk).1), by unfold natV at *; rw [List.length_append, List.map_append]; exact ho⟩
theorem RF1.eq {V W : World} {sv : Value} {l l' : List Nat} (h : RF1 V W sv l) (e : l = l') : RF1 V W sv l' := e ▸ h
def bitB (x p : Nat) : Bool := x.testBit p
theorem natV_flat (l : List Nat) : natV l = l.flatMap ncell := by
  unfold natV ncell; induction l with
  | nil => rfl
  | cons x l ih => rw [List.map_cons, List.flatMap_cons, ih]; rfl
theorem slice_info : (Tryd.prog.info? 24).map (fun i => (i.zero, i.size, i.bytes)) = some (some (.slice none 0 0), 1, 24) := by kernel_rfl
/-- Two lists of lists that a call makes. -/
structure RF3 (V W : World) (mv av : Value) (Lm La : List (List Nat)) : Prop where
  b : Below V.heap.size V W
  ap : ∀ k, mv.ownBlock = some k → av.ownBlock ≠ some k
  xm : ∃ xs, W.ownsRow V.heap.size 24 1 mv Lm.length xs ∧ RwsAt W xs Lm
  xa : ∃ xs, W.ownsRow V.heap.size 24 1 av La.length xs ∧ RwsAt W xs La
theorem RF3.swap {V W : World} {mv av : Value} {Lm La : List (List Nat)} (h : RF3 V W mv av Lm La) : RF3 V W av mv La Lm := ⟨h.b, fun k hk hm => h.ap k hm hk, h.xa, h.xm⟩
theorem RF3.next {V W W' : World} {mv av : Value} {Lm La : List (List Nat)} (h : RF3 V W mv av Lm La) (hb : Below W.heap.size W W') : RF3 V W' mv av Lm La := by
  obtain ⟨xs, h1, h2⟩ := h.xm
  obtain ⟨ys, h3, h4⟩ := h.xa
  exact ⟨h.b.trans (hb.mono h.b.size), h.ap, ⟨xs, own_below h1 hb, h2.imp fun x p h => h.next hb⟩, ⟨ys, own_below h3 hb, h4.imp fun x p h => h.next hb⟩⟩
theorem RF3.app {V W W' : World} {mv av av' x : Value} {Lm La : List (List Nat)} {l : List Nat} (h : RF3 V W mv av Lm La) (hx : RwAt W x l) {xs : List Value} (ho : W.ownsRow V.heap.size 24 1 av La.length xs) (hr : RwsAt W xs La) (t : TypeId)
    (ho' : W'.ownsRow V.heap.size 24 1 av' (La.length + 1) (xs ++ [x])) (hg : (W.alloc (.cells #[x] t)).grownBy W' av.ownBlock) (hk : ∀ k, av'.ownBlock = some k → av.ownBlock = some k ∨ (W.alloc (.cells #[x] t)).heap.size ≤ k) : RF3 V W' mv av' Lm (La ++ [l]) := by
  obtain ⟨ys, h1, h2⟩ := h.xm
  have hb1 := nxA W (.cells #[x] t)
  have hb := h.b.trans (hb1.mono h.b.size)
  have h1' := own_below h1 hb1
  have ho1 := own_below ho hb1
  have hne : mv.ownBlock = none ∨ mv.ownBlock ≠ av.ownBlock := by
    cases e : mv.ownBlock with
    | none => exact .inl rfl
    | some k => exact .inr (fun e2 => h.ap k e e2.symm)
  refine ⟨hb.grown hg hb.size (fun k e => (ho.lt k e).1), fun k e e2 => ?_, ⟨ys, h1'.kept hg hne, (h2.imp fun x p h => h.next hb1).imp fun x p h => h.grow ho1 hg⟩, ⟨xs ++ [x], by rw [List.length_append]; exact ho', ?_⟩⟩
  · rcases hk k e2 with h3 | h3
    · exact h.ap k e h3
    · have := (h1'.lt k e).2; omega
  · exact ((hr.imp fun x p h => h.next hb1).imp fun x p h => h.grow ho1 hg).app ⟨rfl, fun i y p hy hp => by
      cases i with
      | zero => simp at hy hp; subst hy; subst hp; exact (hx.next hb1).grow ho1 hg
      | succ i => simp at hy⟩
theorem RF3.start (V : World) : RF3 V V (.slice none 0 0) (.slice none 0 0) [] [] := ⟨Below.refl _ _, (fun k h => by cases h), ⟨[], World.ownsRow_nil _ _ _ _, rfl, fun i x p h => by simp at h⟩, ⟨[], World.ownsRow_nil _ _ _ _, rfl, fun i x p h => by simp at h⟩⟩
theorem rw_at {W : World} {x : Value} {l : List Nat} (h : RwAt W x l) : ∃ A c, x = .slice A l.length c ∧ At W W.heap.size 1 ncell A l := by
  rcases h with ⟨rfl, rfl⟩ | ⟨h0, b, c, cur, fr, rfl, hh, hc⟩
  · exact ⟨none, 0, rfl, At.nil⟩
  · refine ⟨_, c, rfl, fun k s hs => ⟨b, 0, rfl, (Array.getElem?_eq_some_iff.1 hh).1, fun j u hu => ?_⟩⟩
    have hk := (List.getElem?_eq_some_iff.1 hs).1
    cases j with
    | zero =>
      have hu : some (Value.int .i64 s) = some u := hu
      injection hu with hu
      rw [Nat.zero_add, Nat.mul_one, Nat.add_zero, hc k hk, ← hu, List.getD_eq_getElem?_getD, hs]; rfl
    | succ j => simp [ncell] at hu
theorem rows_at {V W : World} {v : Value} {L : List (List Nat)} {xs : List Value} (h : W.ownsRow V.heap.size 24 1 v L.length xs) (hr : RwsAt W xs L) : ∃ A c, v = .slice A L.length c ∧ RowsAt W W.heap.size A L := by
  obtain ⟨A, c, rfl, hc⟩ := own_form h
  refine ⟨A, c, rfl, ⟨fun r l hl => ?_⟩⟩
  have hlt : r < xs.length := by rw [hr.1]; exact (List.getElem?_eq_some_iff.1 hl).1
  have hx : xs[r]? = some xs[r] := List.getElem?_eq_getElem hlt
  obtain ⟨b, e, -, hb, hcell⟩ := hc r _ hx
  obtain ⟨A', c', e2, hat⟩ := rw_at (hr.2 r _ l hx hl)
  rw [e2] at hcell
  exact ⟨b, 0, A', c', e, hb, by rw [Nat.zero_add]; exact hcell, hat⟩
theorem rw_own {V W : World} {v : Value} {l : List Nat} (h : RF1 V W v l) (hv : l = [] → v = .slice none 0 0) : RwAt W v l := by
  by_cases hl : l = []
  · exact .inl ⟨hl, hv hl⟩
  · exact RwAt.of_own hl h.own
/-- A row, made so far. -/
structure RF4 (V W : World) (lv : Value) (l : List Nat) : Prop where
  r : RF1 V W lv l
  nil : l = [] → lv = .slice none 0 0
set_option maxRecDepth 100000 in
set_option maxHeartbeats 4000000 in
theorem fits_any (m : Mt) (g : Nat → Nat) (w : World) (hr : TaleAt w w.heap.size m) (ok : OkBk m g) : Calls Tryd.prog 48 #[.agg #[.int .i64 m.t.n, .slice m.A1 m.t.loans.length m.c1, .slice m.A2 m.t.looks.length m.c2, .slice m.A3 m.t.admits.length m.c3, .int .i64 (gI g 0), .int .i64 (gI g 1), .int .i64 (gI g 2), .int .i64 (gI g 3), .int .i64 (gI g 4), .int .i64 (gI g 5), .int .i64 (gI g 6), .int .i64 (gI g 7), .int .i64 (gI g 8), .int .i64 (gI g 9), .int .i64 (gI g 10), .int .i64 (gI g 11), .int .i64 (gI g 12), .int .i64 (gI g 13), .int .i64 (gI g 14), .int .i64 (gI g 15)]] w (fun e w' => ∃ b : Bool, e = .returned (.bool b) ∧ Below w.heap.size w w' ∧ (b = true ↔ Fit m.t.n.toNat (fun k p => has (g k) p) (admA m.t.admits))) := by
  obtain ⟨i0, hi, hz0, hz1, hz2⟩ := info_parts int_info
  obtain ⟨i1, hi1, hy0, hy1, hy2⟩ := info_parts slice_info
  have B0 := Lib.hid (nxA w (.cells #[.int .i64 m.t.n, .slice m.A1 m.t.loans.length m.c1, .slice m.A2 m.t.looks.length m.c2, .slice m.A3 m.t.admits.length m.c3, .int .i64 (gI g 0), .int .i64 (gI g 1), .int .i64 (gI g 2), .int .i64 (gI g 3), .int .i64 (gI g 4), .int .i64 (gI g 5), .int .i64 (gI g 6), .int .i64 (gI g 7), .int .i64 (gI g 8), .int .i64 (gI g 9), .int .i64 (gI g 10), .int .i64 (gI g 11), .int .i64 (gI g 12), .int .i64 (gI g 13), .int .i64 (gI g 14), .int .i64 (gI g 15)] 69))
  have HX : Bx (w.alloc (.cells #[.int .i64 m.t.n, .slice m.A1 m.t.loans.length m.c1, .slice m.A2 m.t.looks.length m.c2, .slice m.A3 m.t.admits.length m.c3, .int .i64 (gI g 0), .int .i64 (gI g 1), .int .i64 (gI g 2), .int .i64 (gI g 3), .int .i64 (gI g 4), .int .i64 (gI g 5), .int .i64 (gI g 6), .int .i64 (gI g 7), .int .i64 (gI g 8), .int .i64 (gI g 9), .int .i64 (gI g 10), .int .i64 (gI g 11), .int .i64 (gI g 12), .int .i64 (gI g 13), .int .i64 (gI g 14), .int .i64 (gI g 15)] 69)) w.heap.size (bkA m g).toList := Bx.new w #[.int .i64 m.t.n, .slice m.A1 m.t.loans.length m.c1, .slice m.A2 m.t.looks.length m.c2, .slice m.A3 m.t.admits.length m.c3, .int .i64 (gI g 0), .int .i64 (gI g 1), .int .i64 (gI g 2), .int .i64 (gI g 3), .int .i64 (gI g 4), .int .i64 (gI g 5), .int .i64 (gI g 6), .int .i64 (gI g 7), .int .i64 (gI g 8), .int .i64 (gI g 9), .int .i64 (gI g 10), .int .i64 (gI g 11), .int .i64 (gI g 12), .int .i64 (gI g 13), .int .i64 (gI g 14), .int .i64 (gI g 15)] 69
  have HR := Lib.hid (hr.next B0.out)
  have OK := Lib.hid ok
  have h6 := ok.h6
  have hsz : (w.alloc (.cells #[.int .i64 m.t.n, .slice m.A1 m.t.loans.length m.c1, .slice m.A2 m.t.looks.length m.c2, .slice m.A3 m.t.admits.length m.c3, .int .i64 (gI g 0), .int .i64 (gI g 1), .int .i64 (gI g 2), .int .i64 (gI g 3), .int .i64 (gI g 4), .int .i64 (gI g 5), .int .i64 (gI g 6), .int .i64 (gI g 7), .int .i64 (gI g 8), .int .i64 (gI g 9), .int .i64 (gI g 10), .int .i64 (gI g 11), .int .i64 (gI g 12), .int .i64 (gI g 13), .int .i64 (gI g 14), .int .i64 (gI g 15)] 69)).heap.size = w.heap.size + 1 := by simp
  clear hr ok
  go_enter Tryd.func48, Tryd.ntmps48
  go_upto_region 2 with fail
  generalize w.alloc (.cells #[.int .i64 m.t.n, .slice m.A1 m.t.loans.length m.c1, .slice m.A2 m.t.looks.length m.c2, .slice m.A3 m.t.admits.length m.c3, .int .i64 (gI g 0), .int .i64 (gI g 1), .int .i64 (gI g 2), .int .i64 (gI g 3), .int .i64 (gI g 4), .int .i64 (gI g 5), .int .i64 (gI g 6), .int .i64 (gI g 7), .int .i64 (gI g 8), .int .i64 (gI g 9), .int .i64 (gI g 10), .int .i64 (gI g 11), .int .i64 (gI g 12), .int .i64 (gI g 13), .int .i64 (gI g 14), .int .i64 (gI g 15)] 69) = V at *
  have c3 := HX.c 3 (.slice m.A3 m.t.admits.length m.c3) rfl
  have HXH := Lib.hid HX
  have HSZ := Lib.hid hsz
  have H16 := Lib.hid (fun x hx => (OK.out.adm x hx))
  clear HX hsz
  go_wp2_with fail
  clear c3
  go_loopw [3, 17] (fun sv iv wr => ∃ p : Nat, iv = .int .i64 p ∧ p ≤ m.t.admits.length ∧ RF1 V wr sv (slotsL m.t.admits p)) (fun _ iv _ => m.t.admits.length - (intOf iv).toNat)
  case atStart => exact ⟨0, rfl, by omega, Below.refl _ _, World.ownsRow_nil _ _ _ _⟩
  case round =>
    obtain ⟨p, rfl, hp, hrf⟩ := hrel
    have HRF := Lib.hid hrf
    clear hrf
    by_cases hlt : p < m.t.admits.length
    · obtain ⟨b, off, e, hb, h0⟩ := int_at (HR.out.ad.below HRF.out.b) hlt
      have hbs := Nat.lt_of_lt_of_le hb HRF.out.b.size
      have hx := H16.out (m.t.admits.getD p 0) (getD_mem hlt)
      have HL := Lib.hid (show slotsL m.t.admits (p + 1) = slotsL m.t.admits p ++ List.replicate (m.t.admits.getD p 0).toNat p from rfl)
      have hln := slots_len (fun x hx => (H16.out x hx).2) p
      generalize m.t.admits.getD p 0 = x at *
      generalize slotsL m.t.admits p = sl at *
      generalize m.A3 = A3 at *
      subst e
      go_wp2_with fail
      clear h0
      go_loopw [3, 23] (fun sv iv wi => ∃ j : Nat, iv = .int .i64 j ∧ j ≤ x.toNat ∧ RF1 V wi sv (sl ++ List.replicate j p)) (fun _ iv _ => x.toNat - (intOf iv).toNat)
      case atStart => exact ⟨0, rfl, by omega, by rw [List.replicate_zero, List.append_nil]; exact HRF.out⟩
      case round =>
        obtain ⟨j, rfl, hj, hri⟩ := hrel
        have HRI := Lib.hid hri
        have hown := hri.own
        have hln2 : (sl ++ List.replicate j p).length ≤ 96 := by rw [List.length_append, List.length_replicate]; omega
        have hrep : sl ++ List.replicate (j + 1) p = (sl ++ List.replicate j p) ++ [p] := by rw [List.append_assoc, ← List.replicate_succ']
        have HREP := Lib.hid hrep
        have HEND := Lib.hid (fun (h : j = x.toNat) => hri.eq (show _ = slotsL m.t.admits (p + 1) by rw [HL.out, ← h]))
        generalize sl ++ List.replicate j p = cur at *
        clear hri hrep
        by_cases hjl : j < x.toNat
        · have hjx : (j : Int) < x := by omega
          go_wp2_with (at_builtin; refine wpList_append_own _ rfl (.tmp 25) (.tmp 27) 24 rfl V.heap.size 3 i0 (.int .i64 0) 1 8 Tryd.underlying24 hi hz0 hz1 hz2 rfl (by decide) _ _ _ rfl (hown.alloc _) ⟨wr.heap.size, 0, none⟩ 1 1 [.int .i64 (p : Int)] rfl rfl (cell_one_new _ _ _) (by simp [Value.oneCell']) (by unfold maxLen; omega) (by omega) (by have := HRI.out.b.size; simp; omega) ?_; intro v2 w2 hown' hgrow _)
          have HF := Lib.hid (HRI.out.app 3 hown' hgrow)
          clear hown' hgrow hown
          go_wp2_with fail
          exact ⟨⟨j + 1, by go_num, by omega, by rw [HREP.out]; exact HF.out⟩, by simp [intOf]; omega⟩
        · have hjx : ¬ ((j : Int) < x) := by omega
          have HF := Lib.hid (HEND.out (by omega))
          clear hown
          go_wp2_with fail
          exact ⟨⟨p + 1, by go_num, by omega, HF.out⟩, by simp [intOf]; omega⟩
    · obtain rfl : p = m.t.admits.length := by omega
      have HXW := Lib.hid (HXH.out.below HRF.out.b (by have := HSZ.out; omega))
      have HRW := Lib.hid ((HR.out.below HRF.out.b).more HRF.out.b.size)
      have hln := slots_len (fun x hx => (H16.out x hx).2) m.t.admits.length
      have HRNG := Lib.hid HXW.out.range
      have HSI := Lib.hid (show (Tryd.prog.info? 69).map (·.size) = some (bkA m g).toList.length from bk_size)
      go_wp2_with (refine wpList_load_mid rfl 69 (.tmp 1) rfl w.heap.size 0 rfl (bkA m g).toList _ HRNG.out bk_und rfl HSI.out ?_)
      refine (free_bk m g wr HRW.out h6).mono ?_
      rintro e W3 ⟨rfl, hb3⟩
      have hfl := freeN_lt m.t.admits m.t.admits.length h6
      have HX3 := Lib.hid (HXW.out.next hb3)
      have HRO := Lib.hid (own_below HRF.out.own hb3)
      have HB3 := Lib.hid (B0.out.trans ((HRF.out.b.trans (hb3.mono HRF.out.b.size)).mono B0.out.size))
      have HNF := Lib.hid (natV_flat (slotsL m.t.admits m.t.admits.length))
      rw [HNF.out] at HRO
      obtain ⟨A3, c3, rfl, hat3⟩ := own_at (size := 1) (cells := ncell) (fun _ => rfl) (by omega) HRO.out
      have HAT := Lib.hid hat3
      have hN : (slotsL m.t.admits m.t.admits.length).length ≤ 96 := by omega
      have HMU := Lib.hid (fun k => show muB g m.t.admits k = decide (g k &&& freeN m.t.admits m.t.admits.length = 0) from rfl)
      have HRP := Lib.hid (fun k => show rowP g m.t.admits k = rowG (fun s => has (g k) (ownP m.t.admits s)) (slotsL m.t.admits m.t.admits.length).length from rfl)
      have HOW := Lib.hid (fun s => show ownP m.t.admits s = (slotsL m.t.admits m.t.admits.length).getD s 0 from rfl)
      have HSL := Lib.hid (fun s (hs : s < (slotsL m.t.admits m.t.admits.length).length) => show ownP m.t.admits s < 6 from by
        have hm : ownP m.t.admits s ∈ slotsL m.t.admits m.t.admits.length := by unfold ownP; rw [List.getD_eq_getElem?_getD, List.getElem?_eq_getElem hs]; exact List.getElem_mem hs
        have := (slots_mem hm).1; omega)
      have HFP := Lib.hid (fun T T' m1 m2 h1 h2 => fits_plain (n := m.t.n.toNat) (g := g) (l := m.t.admits) h6 (fun x hx => (OK.out.adm x hx).1) OK.out.ok (T := T) (T' := T') (m1 := m1) (m2 := m2) h1 h2)
      have HNO := Lib.hid (fun T m1 h1 hne => fits_no (n := m.t.n.toNat) (g := g) (l := m.t.admits) h6 (fun x hx => (OK.out.adm x hx).1) OK.out.ok (T := T) (m1 := m1) h1 hne)
      generalize hslN : slotsL m.t.admits m.t.admits.length = sl at *
      have n0 := OK.out.n0
      have n2 := OK.out.n2
      obtain ⟨n, hn⟩ : ∃ n : Nat, m.t.n = n := ⟨m.t.n.toNat, by omega⟩
      have hnn : m.t.n.toNat = n := by omega
      have HNN := Lib.hid hnn
      have hn16 : n ≤ 16 := by omega
      rw [hnn] at HFP HNO
      have c0 := HX3.out.c 0 (.int .i64 n) (by rw [← hn]; rfl)
      clear hat3 hb3 HRNG HSI HXW HRW HRF HXH HR HSZ hslN hn hnn n0 n2 hln HRO HNF
      generalize freeN m.t.admits m.t.admits.length = F at *
      go_wp2_with fail
      clear c0
      go_loopw [7, 8, 36] (fun mv av iv wr => ∃ k : Nat, iv = .int .i64 k ∧ k ≤ n ∧ RF3 W3 wr mv av (mustL (rowP g m.t.admits) (muB g m.t.admits) k) (mustL (rowP g m.t.admits) (fun _ => true) k)) (fun _ _ iv _ => n - (intOf iv).toNat)
      case atStart => exact ⟨0, rfl, by omega, RF3.start W3⟩
      case round =>
        obtain ⟨k, rfl, hk, hr3⟩ := hrel
        have HR3 := Lib.hid hr3
        clear hr3
        rename World => Wk
        by_cases hlt : k < n
        · have HXk := Lib.hid (HX3.out.below HR3.out.b HX3.out.lt)
          have hck := HXk.out.c _ _ (can_at m g (k := k) (by omega))
          have hgk := OK.out.lt k
          have HCK := Lib.hid hck
          have HLk := Lib.hid (And.intro (show mustL (rowP g m.t.admits) (muB g m.t.admits) (k + 1) = if muB g m.t.admits k then mustL (rowP g m.t.admits) (muB g m.t.admits) k ++ [rowP g m.t.admits k] else mustL (rowP g m.t.admits) (muB g m.t.admits) k from rfl) (show mustL (rowP g m.t.admits) (fun _ => true) (k + 1) = mustL (rowP g m.t.admits) (fun _ => true) k ++ [rowP g m.t.admits k] from if_pos rfl))
          have hll := And.intro (must_len (rowP g m.t.admits) (muB g m.t.admits) k) (all_len (rowP g m.t.admits) k)
          clear hck
          go_wp2_with fail
          go_loopw [10, 41] (fun lv iv wi => ∃ j : Nat, iv = .int .i64 j ∧ j ≤ sl.length ∧ RF4 Wk wi lv (rowG (fun s => has (g k) (ownP m.t.admits s)) j)) (fun _ iv _ => sl.length - (intOf iv).toNat)
          case atStart => exact ⟨0, rfl, by omega, ⟨Below.refl _ _, World.ownsRow_nil _ _ _ _⟩, fun _ => rfl⟩
          case round =>
            obtain ⟨j, rfl, hj, hr4⟩ := hrel
            have HR4 := Lib.hid hr4
            clear hr4
            by_cases hjl : j < sl.length
            · obtain ⟨p, hs⟩ : ∃ p, sl[j]? = some p := ⟨_, List.getElem?_eq_getElem hjl⟩
              have hp : ownP m.t.admits j = p := by rw [HOW.out, List.getD_eq_getElem?_getD, hs]; rfl
              have hp6 := HSL.out j hjl
              rw [hp] at hp6
              have HBW := Lib.hid (HR3.out.b.trans (HR4.out.r.b.mono HR3.out.b.size))
              obtain ⟨b, off, e, hb, hc⟩ := (HAT.out.below HBW.out) j p hs
              have g0 := hc 0 _ rfl
              rw [Nat.mul_one, Nat.add_zero] at g0
              have hbs := Nat.lt_of_lt_of_le hb HBW.out.size
              have HG := Lib.hid (show rowG (fun s => has (g k) (ownP m.t.admits s)) (j + 1) = if has (g k) p then rowG (fun s => has (g k) (ownP m.t.admits s)) j ++ [j] else rowG (fun s => has (g k) (ownP m.t.admits s)) j from by rw [← hp]; rfl)
              have hck := (HXk.out.below HR4.out.r.b HXk.out.lt).c _ _ (can_at m g (k := k) (by omega))
              have hlw : w.heap.size < wr.heap.size := (HXk.out.below HR4.out.r.b HXk.out.lt).lt
              have hand := bit_and (T := g k) (p := p) (by omega)
              have hrl := rowG_len (fun s => has (g k) (ownP m.t.admits s)) j
              have hown := HR4.out.r.own
              have HR := Lib.hid HR4.out.r
              have HN := Lib.hid HR4.out.nil
              generalize g k = G at *
              generalize rowG (fun s => has G (ownP m.t.admits s)) j = cur at *
              clear hp hs hc
              subst e
              cases hG : has G p
              · rw [hG] at hand HG
                rw [if_neg (by decide)] at hand
                have HG2 := Lib.hid (HG.out.trans (if_neg (by decide)))
                clear hG hown
                go_wp2_with fail
                exact ⟨⟨j + 1, by go_num, by omega, by rw [HG2.out]; exact ⟨HR.out, HN.out⟩⟩, by simp [intOf]; omega⟩
              · rw [hG] at hand HG
                rw [if_pos rfl] at hand
                have HG2 := Lib.hid (HG.out.trans (if_pos rfl))
                clear hG
                go_wp2_with (at_builtin; refine wpList_append_own _ rfl (.tmp 54) (.tmp 56) 24 rfl Wk.heap.size 3 i0 (.int .i64 0) 1 8 Tryd.underlying24 hi hz0 hz1 hz2 rfl (by decide) _ _ _ rfl (hown.alloc _) ⟨wr.heap.size, 0, none⟩ 1 1 [.int .i64 (j : Int)] rfl rfl (cell_one_new _ _ _) (by simp [Value.oneCell']) (by unfold maxLen; omega) (by omega) (by have := HR4.out.r.b.size; simp; omega) ?_; intro v2 w2 hown' hgrow _)
                have HF := Lib.hid (HR.out.app 3 hown' hgrow)
                clear hown' hgrow hown
                go_wp2_with fail
                exact ⟨⟨j + 1, by go_num, by omega, by rw [HG2.out]; exact ⟨HF.out, fun h => absurd h (by simp)⟩⟩, by simp [intOf]; omega⟩
            · obtain rfl : j = sl.length := by omega
              have HRW := Lib.hid (show RwAt wr _ (rowP g m.t.admits k) from by rw [HRP.out]; exact rw_own HR4.out.r HR4.out.nil)
              obtain ⟨Al, cl, el, -⟩ := rw_at HRW.out
              subst el
              have HR5 := Lib.hid (HR3.out.next HR4.out.r.b)
              obtain ⟨xa, hown, hra⟩ := HR5.out.xa
              have HOW2 := Lib.hid hown
              have hlen2 := hll.2
              have hln3 : (rowP g m.t.admits k).length ≤ 96 := by have := rowG_len (fun s => has (g k) (ownP m.t.admits s)) sl.length; rw [HRP.out]; omega
              go_upto_region 23 with (at_builtin; refine wpList_append_blk rfl (.tmp 59) (.tmp 61) 92 rfl W3.heap.size 24 i1 (.slice none 0 0) 1 24 Tryd.underlying92 hi1 hy0 hy1 hy2 rfl (by decide) _ _ _ rfl (hown.alloc _) ⟨wr.heap.size, 0, none⟩ 1 1 [.slice Al (rowP g m.t.admits k).length cl] rfl rfl (cell_one_new _ _ _) (by simp [Value.oneCell']) (by unfold maxLen; omega) (by omega) (by have := HR5.out.b.size; simp; omega) (by decide) ?_; intro v2 w2 hown' hgrow hblk)
              have HF := Lib.hid (HR5.out.app HRW.out HOW2.out hra 24 hown' hgrow hblk)
              have HRW2 := Lib.hid (show RwAt w2 (.slice Al (rowP g m.t.admits k).length cl) (rowP g m.t.admits k) from (HRW.out.next (nxA wr (.cells #[.slice Al (rowP g m.t.admits k).length cl] 24))).grow (own_below HOW2.out (nxA wr (.cells #[.slice Al (rowP g m.t.admits k).length cl] 24))) hgrow)
              have hck := (HX3.out.below HF.out.b HX3.out.lt).c _ _ (can_at m g (k := k) (by omega))
              have hlw : w.heap.size < w2.heap.size := (HX3.out.below HF.out.b HX3.out.lt).lt
              have hand : bits BinOp.and IntKind.i64 ((g k : Nat) : Int) ((F : Nat) : Int) = ((g k &&& F : Nat) : Int) := i64_and_nat _ _ (by omega) (by omega)
              obtain ⟨xm, hownm, hrm⟩ := HF.out.xm
              have HOM := Lib.hid hownm
              have hlenm := hll.1
              clear hown hown' hgrow hblk hra HOW2
              have HMk := HMU.out k
              generalize g k &&& F = z at *
              by_cases hz0 : z = 0
              · rw [decide_eq_true hz0] at HMk
                have HL1 := Lib.hid (HLk.out.1.trans (if_pos HMk))
                have d1 : ((z : Int) == 0) = true := by rw [hz0]; rfl
                clear HMk hz0
                go_wp2_with (at_builtin; refine wpList_append_blk rfl (.tmp 70) (.tmp 72) 92 rfl W3.heap.size 24 i1 (.slice none 0 0) 1 24 Tryd.underlying92 hi1 hy0 hy1 hy2 rfl (by decide) _ _ _ rfl (hownm.alloc _) ⟨w2.heap.size, 0, none⟩ 1 1 [.slice Al (rowP g m.t.admits k).length cl] rfl rfl (cell_one_new _ _ _) (by simp [Value.oneCell']) (by unfold maxLen; omega) (by omega) (by have := HF.out.b.size; simp; omega) (by decide) ?_; intro v3 w3 hown' hgrow hblk)
                have HF2 := Lib.hid (HF.out.swap.app HRW2.out HOM.out hrm 24 hown' hgrow hblk).swap
                clear hownm hown' hgrow hblk hrm HOM
                go_wp2_with fail
                exact ⟨⟨k + 1, by go_num, by omega, by rw [HL1.out, HLk.out.2]; exact HF2.out⟩, by simp [intOf]; omega⟩
              · rw [decide_eq_false hz0] at HMk
                have HL1 := Lib.hid (HLk.out.1.trans (if_neg (by rw [HMk]; decide)))
                have d1 : ((z : Int) == 0) = false := by simpa using hz0
                clear HMk hz0
                go_wp2_with fail
                exact ⟨⟨k + 1, by go_num, by omega, by rw [HL1.out, HLk.out.2]; exact HF.out⟩, by simp [intOf]; omega⟩
        · obtain rfl : k = n := by omega
          obtain ⟨xm, hom, hrm⟩ := HR3.out.xm
          obtain ⟨xa, hoa, hra⟩ := HR3.out.xa
          obtain ⟨Am, cm, rfl, hRm⟩ := rows_at hom hrm
          obtain ⟨Aa, ca, rfl, hRa⟩ := rows_at hoa hra
          have HBW := Lib.hid (HB3.out.trans (HR3.out.b.mono HB3.out.size))
          have hlm := must_len (rowP g m.t.admits) (muB g m.t.admits) k
          have hla := all_len (rowP g m.t.admits) k
          have hrow : ∀ l, (∃ q, l = rowP g m.t.admits q) → l.length ≤ 96 ∧ ∀ s ∈ l, s < sl.length := by
            rintro l ⟨q, rfl⟩
            have h1 := rowG_len (fun s => has (g q) (ownP m.t.admits s)) sl.length
            rw [HRP.out]
            exact ⟨by omega, fun s hs => (rowG_mem.1 hs).1⟩
          have OKm := Lib.hid (show RowsOk (mustL (rowP g m.t.admits) (muB g m.t.admits) k) sl.length from ⟨by omega, hN, fun l hl => hrow l (by obtain ⟨q, -, e⟩ := must_mem hl; exact ⟨q, e⟩)⟩)
          have OKa := Lib.hid (show RowsOk (mustL (rowP g m.t.admits) (fun _ => true) k) sl.length from ⟨by omega, hN, fun l hl => hrow l (by obtain ⟨q, -, e⟩ := must_mem hl; exact ⟨q, e⟩)⟩)
          have HRm := Lib.hid hRm
          have HRa := Lib.hid hRa
          have HLA := Lib.hid hla
          clear hRm hRa hom hoa hrm hra hrow hla hlm
          go_wp2_with fail
          refine (matched_any _ Am cm sl.length Wk HRm.out OKm.out).mono ?_
          rintro e W4 ⟨m1, T1, rfl, hm1, hM1, hb4⟩
          have HM1 := Lib.hid hM1
          have HB4 := Lib.hid (HBW.out.trans (hb4.mono HBW.out.size))
          have HRa4 := Lib.hid (HRa.out.next hb4)
          clear hM1 hb4
          by_cases h1 : m1 = (mustL (rowP g m.t.admits) (muB g m.t.admits) k).length
          · have d1 : ((m1 : Int) == ((mustL (rowP g m.t.admits) (muB g m.t.admits) k).length : Int)) = true := by rw [h1]; simp
            have H1 := Lib.hid h1
            clear h1
            go_wp2_with fail
            refine (matched_any _ Aa ca sl.length W4 HRa4.out OKa.out).mono ?_
            rintro e W5 ⟨m2, T2, rfl, hm2, hM2, hb5⟩
            rw [HLA.out] at hM2
            have HB5 := Lib.hid (HB4.out.trans (hb5.mono HB4.out.size))
            have HIFF := Lib.hid (HFP.out T1 T2 m1 m2 HM1.out hM2)
            clear hM2 hb5 d1
            by_cases h2 : m2 = sl.length
            · have d2 : ((m2 : Int) == (sl.length : Int)) = true := by rw [h2]; simp
              have H2 := Lib.hid h2
              clear h2
              go_wp2_with fail
              go_ret
              exact ⟨true, rfl, HB5.out, by rw [HNN.out]; exact ⟨fun _ => HIFF.out.1 ⟨H1.out, H2.out⟩, fun _ => rfl⟩⟩
            · have d2 : ((m2 : Int) == (sl.length : Int)) = false := by simp; omega
              have H2 := Lib.hid h2
              clear h2
              go_wp2_with fail
              go_ret
              exact ⟨false, rfl, HB5.out, by rw [HNN.out]; exact ⟨(fun h => by cases h), fun h => absurd (HIFF.out.2 h).2 H2.out⟩⟩
          · have d1 : ((m1 : Int) == ((mustL (rowP g m.t.admits) (muB g m.t.admits) k).length : Int)) = false := by simp; omega
            have H1 := Lib.hid h1
            clear h1
            go_wp2_with fail
            go_ret
            exact ⟨false, rfl, HB4.out, by rw [HNN.out]; exact ⟨(fun h => by cases h), fun h => absurd h (HNO.out T1 m1 HM1.out H1.out)⟩⟩
end Go.Proofs.YtkcfpnpejaekjaaDoor
