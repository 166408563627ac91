import Derived.Test.YtfffhbolaimmdaaDoorR3

import Derived.BigRegion
import Derived.Handy
namespace Go.Proofs.YtfffhbolaimmdaaDoor
open Go.RowKit
def R38 (s : Store) (set k : Nat) (w0 : World) (o i : Value) (w : World) : Prop := ∃ n : Nat, n ≤ s.wishes.length ∧ i = .int .i64 n ∧ o = .int .i64 (takeTo s set k n) ∧ Below w0.heap.size w0 w ∧ SBox w w0.heap.size s
set_option maxHeartbeats 400000 in
theorem Take_any (s : Store) (set k : Nat) (w : World) (hs : set ≤ 9223372036854775807) (hk : k < s.sheets.length) (ok : Ok s) (hr : StoreAt w w.heap.size s) :
    Calls Tryd.prog 38 #[.agg #[.slice s.A1 s.sheets.length s.c1, .slice s.A2 s.lics.length s.c2, .slice s.A3 s.makes.length s.c3, .slice s.A4 s.wishes.length s.c4], .int .i64 set, .int .i64 k] w (Ret (.int .i64 (takeS s set k)) w) := by
  have h1 := ok.nw
  have h2 := ok.nm
  have h3 := ok.ns
  go_enter Tryd.func38, Tryd.ntmps38
  go_wp2
  go_loopw [7, 8] (fun o i wr => R38 s set k w o i wr) (fun _ i _ => s.wishes.length - (intOf i).toNat)
  case atStart => exact ⟨0, by omega, rfl, rfl, (Below.refl _ _).alloc (Nat.le_refl _) _, SBox.new _ _ _⟩
  case round =>
    obtain ⟨n, hn, rfl, rfl, hb, hbox⟩ := hrel
    have hz := hbox.lt
    have hr' := hr.next hb
    by_cases hlt : n < s.wishes.length
    · obtain ⟨b, off, c3, hbk, w0, w1, -, -, -⟩ := hbox.wishC hr' hlt
      obtain ⟨b2, off2, b3, off3, c2, hbk2, -, m1, hbk3, t0⟩ := hbox.takeC hr' ok hlt hk
      have hw := ok.wishOk hlt
      have hbd := takeTo_bd ok set k (n := n) (by omega)
      have hmul := takeMul_bd ok k hlt
      have Hsum := Lib.hid (show takeTo s set k (n + 1) = takeTo s set k n + (if has set n = true then (wishAt s n).many * takeAt s n k else 0) from rfl)
      have Hbox := Lib.hid hbox
      have t1 : wr.cell? ⟨b3, off3 + k, none⟩ = some (.int .i64 (takeAt s n k)) := t0
      clear hr hr' hbox ok t0
      have hbr : Below wr.heap.size wr wr := Below.refl _ _
      cases hh : has set n
      · go_wp2_with (go_at_call 62; (with_reducible refine (has_any set n (by omega) hs _).mono ?_); rintro e w' ⟨rfl, rfl⟩)
        all_goals (first | (refine ⟨?_, ?_⟩; (unfold R38; exact ⟨n + 1, by omega, by go_num, by rw [Hsum.out, hh]; simp, by go_grown, Hbox.out.next (by go_grown)⟩); (simp [intOf]; omega)) | (go_roundw; (case rel => (unfold R38; exact ⟨n + 1, by omega, by go_num, by rw [Hsum.out, hh]; simp, by go_grown, Hbox.out.next (by go_grown)⟩)); (case measure => (simp [intOf]; omega))) | (go_round; (case rel => (unfold R38; exact ⟨n + 1, by omega, by go_num, by rw [Hsum.out, hh]; simp, by go_grown, Hbox.out.next (by go_grown)⟩)); (case measure => (simp [intOf]; omega))))
      · go_wp2_with (first | (go_at_call 62; (with_reducible refine (has_any set n (by omega) hs _).mono ?_); rintro e w' ⟨rfl, rfl⟩) | go_quiet (fail))
        all_goals (first | (refine ⟨?_, ?_⟩; (unfold R38; exact ⟨n + 1, by omega, by go_num, by rw [Hsum.out, hh]; simp, below_drewN hb _, Hbox.out.next (below_drewN hbr _)⟩); (simp [intOf]; omega)) | (go_roundw; (case rel => (unfold R38; exact ⟨n + 1, by omega, by go_num, by rw [Hsum.out, hh]; simp, below_drewN hb _, Hbox.out.next (below_drewN hbr _)⟩)); (case measure => (simp [intOf]; omega))) | (go_round; (case rel => (unfold R38; exact ⟨n + 1, by omega, by go_num, by rw [Hsum.out, hh]; simp, below_drewN hb _, Hbox.out.next (below_drewN hbr _)⟩)); (case measure => (simp [intOf]; omega))))
    · have c3 := hbox.c3
      go_wp2
      go_ret
      rw [show n = s.wishes.length by omega]
      exact ret_int rfl hb
theorem usedTo_step (s : Store) (set n : Nat) : (has set n = false → usedTo s set (n + 1) = usedTo s set n) ∧
    (has set n = true → usedTo s set (n + 1) (makeAt s n).pic.toNat = usedTo s set n (makeAt s n).pic.toNat + (wishAt s n).many ∧ ∀ i, i ≠ (makeAt s n).pic.toNat → usedTo s set (n + 1) i = usedTo s set n i) := by
  refine ⟨fun h => funext fun p => ?_, fun h => ⟨?_, fun i hi => ?_⟩⟩
  · unfold usedTo; rw [sumTo_split, if_neg (by simp [h])]; omega
  · unfold usedTo; rw [sumTo_split, if_pos h, if_pos rfl]
  · unfold usedTo; rw [sumTo_split, if_pos h, if_neg (Ne.symm hi)]; omega
def R40 (s : Store) (set : Nat) (w0 : World) (i : Value) (w : World) : Prop := ∃ n : Nat, n ≤ s.wishes.length ∧ i = .int .i64 n ∧ refusedTo s set n = -1 ∧ Below w0.heap.size w0 w ∧ SBox w w0.heap.size s ∧ IBlk w (w0.heap.size + 1) s.lics.length (usedTo s set n)
set_option maxHeartbeats 400000 in
theorem Refused_any (s : Store) (set : Nat) (w : World) (hs : set ≤ 9223372036854775807) (ok : Ok s) (hr : StoreAt w w.heap.size s) :
    Calls Tryd.prog 40 #[.agg #[.slice s.A1 s.sheets.length s.c1, .slice s.A2 s.lics.length s.c2, .slice s.A3 s.makes.length s.c3, .slice s.A4 s.wishes.length s.c4], .int .i64 set] w (Ret (.int .i64 (refusedS s set)) w) := by
  have h1 := ok.nw
  have h2 := ok.nm
  have h3 := ok.ns
  have h4 := ok.nl
  obtain ⟨i0, hi, hz0, hz1, hz2⟩ := info_parts (show (Tryd.prog.info? 3).map (fun i => (i.zero, i.size, i.bytes)) = some (some (.int .i64 0), 1, 8) by kernel_rfl)
  have hmk : ∀ W : World, (Instr.makeSlice 30 (.int .i64 (s.lics.length : Int)) (.int .i64 (s.lics.length : Int))).run Tryd.prog W = .ok (.slice (some ⟨W.heap.size, 0, none⟩) s.lics.length s.lics.length) (W.alloc (.cells (zeros s.lics.length) 3)) := fun W => by
    have := run_make (P := Tryd.prog) W 30 3 i0 (.int .i64 0) Tryd.underlying30 hi hz0 .i64 .i64 s.lics.length s.lics.length (by omega) (by omega) (by rw [hz2]; omega) (by omega)
    rw [hz1] at this
    simpa [zeros, Value.cells] using this
  clear hi hz0 hz1 hz2
  go_enter Tryd.func40, Tryd.ntmps40
  go_wp2
  clear hmk
  go_loopw [6] (fun i wr => R40 s set w i wr) (fun i _ => s.wishes.length - (intOf i).toNat)
  case atStart =>
    refine ⟨0, by omega, rfl, rfl, by go_grown, (SBox.new w s 27).next (by go_grown), ?_⟩
    have := IBlk.zeros (w.alloc (.cells #[.slice s.A1 s.sheets.length s.c1, .slice s.A2 s.lics.length s.c2, .slice s.A3 s.makes.length s.c3, .slice s.A4 s.wishes.length s.c4] 27)) s.lics.length 3
    rw [World.size_alloc] at this
    exact this
  case round =>
    obtain ⟨n, hn, rfl, href, hb, hbox, hblk⟩ := hrel
    have hz := hbox.lt
    have hr' := hr.below hb
    by_cases hlt : n < s.wishes.length
    · obtain ⟨b, off, c3, hbk, w0, w1, w2, w3, w4⟩ := hbox.wishC hr' hlt
      obtain ⟨b2, off2, c2, hbk2, m0, -⟩ := hbox.makeC hr' ok hlt
      obtain ⟨b3, off3, c1, hbk3, x0, x1, x2, -⟩ := hbox.licC hr' ok hlt
      have hw := ok.wishOk hlt
      have hm := ok.make _ (makeAt_mem ok hlt)
      have hs1 := Nat.lt_trans hbk hz
      have hs2 := Nat.lt_trans hbk2 hz
      have hs3 := Nat.lt_trans hbk3 hz
      have hp : 0 ≤ (makeAt s n).pic ∧ (makeAt s n).pic < s.lics.length := ⟨hm.1, hm.2.1⟩
      have hbd := usedTo_bd ok set (makeAt s n).pic.toNat (n := n) (by omega)
      have hu := hblk.cell (makeAt s n).pic.toNat (by omega)
      have hf := hblk.free (makeAt s n).pic.toNat
      have Hblk := Lib.hid hblk
      have Hbox := Lib.hid hbox
      have hz2 := hblk.lt
      have Href := Lib.hid href
      have Hat := Lib.hid (fun h1 h2 => refusedTo_at href h1 h2 s.wishes.length hlt)
      have Hstep := Lib.hid (usedTo_step s set n)
      clear hr hr' hbox ok hblk hm href
      have hbr : Below wr.heap.size wr wr := Below.refl _ _
      cases hh : has set n
      · go_wp2_with (go_at_call 62; (with_reducible refine (has_any set n (by omega) hs _).mono ?_); rintro e w' ⟨rfl, rfl⟩)
        all_goals (first | (refine ⟨?_, ?_⟩; (unfold R40; exact ⟨n + 1, by omega, by go_num, refusedTo_step Href.out (by simp [hh]), hb, Hbox.out, by rw [Hstep.out.1 hh]; exact Hblk.out⟩); (simp [intOf]; omega)) | (go_roundw; (case rel => (unfold R40; exact ⟨n + 1, by omega, by go_num, refusedTo_step Href.out (by simp [hh]), hb, Hbox.out, by rw [Hstep.out.1 hh]; exact Hblk.out⟩)); (case measure => (simp [intOf]; omega))) | (go_round; (case rel => (unfold R40; exact ⟨n + 1, by omega, by go_num, refusedTo_step Href.out (by simp [hh]), hb, Hbox.out, by rw [Hstep.out.1 hh]; exact Hblk.out⟩)); (case measure => (simp [intOf]; omega))))
      · go_wp2_with (go_at_call 62; (with_reducible refine (has_any set n (by omega) hs _).mono ?_); rintro e w' ⟨rfl, rfl⟩)
        go_region
        generalize hW : World.drew _ = W
        have hBW : Below (w.heap.size + 1) wr W := by rw [← hW]; go_grown
        have hIW : IBlk W (w.heap.size + 1) s.lics.length (usedTo s set (n + 1)) := by
          rw [← hW]
          refine ((Hblk.out.set_ (f' := usedTo s set (n + 1)) (by omega) ?_ ?_).alloc _).drew
          · rw [(Hstep.out.2 hh).1]
          · exact (Hstep.out.2 hh).2
        have v2 : W.cell? ⟨wr.heap.size, 2, none⟩ = some (.int .i64 (wishAt s n).hour) := by rw [← hW]; simp [go_sem]
        have vu := hIW.cell (makeAt s n).pic.toNat (by omega)
        have k1 := (hBW.cell (p := ⟨w.heap.size, 1, none⟩) (by simp)).trans c1
        have y0 := (hBW.cell (p := ⟨b3, off3 + (makeAt s n).pic.toNat * 4, none⟩) (by simp; omega)).trans x0
        have y1 := (hBW.cell (p := ⟨b3, off3 + (makeAt s n).pic.toNat * 4 + 1, none⟩) (by simp; omega)).trans x1
        have y2 := (hBW.cell (p := ⟨b3, off3 + (makeAt s n).pic.toNat * 4 + 2, none⟩) (by simp; omega)).trans x2
        have Hbox2 := Lib.hid (Hbox.out.below hBW (by omega))
        have HIW := Lib.hid hIW
        have hbW : Below w.heap.size w W := hb.trans (hBW.mono (by omega))
        have Hok := Lib.hid (show okAt s set n = (inS (wishAt s n).hour (licAt s n).lo (licAt s n).hi && decide (usedTo s set (n + 1) (makeAt s n).pic.toNat ≤ (licAt s n).copies)) from rfl)
        clear hW hBW hIW c1 x0 x1 x2 hu hf w0 w1 w2 w3 w4 m0
        generalize usedTo s set (n + 1) (makeAt s n).pic.toNat = U at *
        cases a1 : inS (wishAt s n).hour (licAt s n).lo (licAt s n).hi
        · go_wp2_with (go_quiet ((go_at_call 55; first | exact qq (in_any _ _ _ _) | exact qqa (in_any _ _ _ _))))
          go_ret
          exact ret_int (Hat.out hh (by rw [Hok.out, a1]; rfl)).symm (below_drewN hbW _)
        · by_cases hgt : (licAt s n).copies < U
          · go_wp2_with (go_quiet ((go_at_call 55; first | exact qq (in_any _ _ _ _) | exact qqa (in_any _ _ _ _))))
            go_ret
            exact ret_int (Hat.out hh (by rw [Hok.out, a1]; simp; omega)).symm (below_drewN hbW _)
          · go_wp2_with (go_quiet ((go_at_call 55; first | exact qq (in_any _ _ _ _) | exact qqa (in_any _ _ _ _))))
            all_goals (first | (refine ⟨?_, ?_⟩; (unfold R40; exact ⟨n + 1, by omega, by go_num, refusedTo_step Href.out (fun _ => by rw [Hok.out, a1]; simp; omega), below_drewN hbW _, Hbox2.out.drewN _, HIW.out.drewN⟩); (simp [intOf]; omega)) | (go_roundw; (case rel => (unfold R40; exact ⟨n + 1, by omega, by go_num, refusedTo_step Href.out (fun _ => by rw [Hok.out, a1]; simp; omega), below_drewN hbW _, Hbox2.out.drewN _, HIW.out.drewN⟩)); (case measure => (simp [intOf]; omega))) | (go_round; (case rel => (unfold R40; exact ⟨n + 1, by omega, by go_num, refusedTo_step Href.out (fun _ => by rw [Hok.out, a1]; simp; omega), below_drewN hbW _, Hbox2.out.drewN _, HIW.out.drewN⟩)); (case measure => (simp [intOf]; omega))))
    · have c3 := hbox.c3
      go_wp2
      go_ret
      have e : n = s.wishes.length := by omega
      subst e
      exact ret_int href.symm hb
end Go.Proofs.YtfffhbolaimmdaaDoor
