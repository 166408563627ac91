import Derived.Test.YtkcfpnpejaekjaaDoorP7
import Derived.Laws.EntriesVeiled
namespace Go.Proofs.YtkcfpnpejaekjaaDoor
open Go.RowKit
/-! The program: matched. -/
theorem bool_info : (Tryd.prog.info? 4).map (fun i => (i.zero, i.size, i.bytes)) = some (some (.bool false), 1, 1) := by kernel_rfl
theorem VBlk.made (w : World) (v : Value) (n : Nat) (t : TypeId) : VBlk (w.alloc (.cells (madeCells #[v] n) t)) w.heap.size n (fun _ => v) := by
  refine ⟨by simp, fun j hj => ?_, fun j => by simp [go_sem]⟩
  have h1 : (madeCells #[v] n).toList = List.replicate n v := toList_madeCells_one _ _
  have h2 : (madeCells #[v] n)[j]? = some v := by
    rw [← Array.getElem?_toList, h1, List.getElem?_replicate, if_pos hj]
  rw [← h2]
  exact cell_of_row _ _ _ _ t (0, 0) (heap_alloc_new w _)
theorem VBlk.eq {w : World} {g n : Nat} {f f' : Nat → Value} (h : VBlk w g n f) (e : ∀ s, s < n → f' s = f s) : VBlk w g n f' := ⟨h.lt, fun j hj => by rw [e j hj]; exact h.cell j hj, h.free⟩
theorem sumR_le {f : Nat → Nat} (h : ∀ r, f r ≤ 1) : ∀ n : Nat, sumR f n ≤ n
  | 0 => Nat.le_refl _
  | n + 1 => by have := sumR_le h n; have := h n; show sumR f n + f n ≤ n + 1; omega
def RetM (R : List (List Nat)) (n : Nat) (w : World) (e : Ending) (w' : World) : Prop := ∃ (many : Nat) (T : Tk), e = .returned (.int .i64 many) ∧ many ≤ R.length ∧ MtI (rowF R) T n R.length many ∧ Below w.heap.size w w'
def RMf (w : World) (R : List (List Nat)) (A : Option Addr) (c n : Nat) (i : Value) (W : World) : Prop := ∃ k : Nat, k ≤ n ∧ i = .int .i64 k ∧ Below w.heap.size w W ∧ Bx W w.heap.size [.slice A R.length c] ∧ Bx W (w.heap.size + 1 + 1) [.slice (some ⟨w.heap.size + 1, 0, none⟩) n n] ∧ VBlk W (w.heap.size + 1) n (fun s => .int .i64 (if s < k then -1 else 0))
/-- Between two rows. -/
structure GP (V : World) (R : List (List Nat)) (A : Option Addr) (c n br bs bt bg gt : Nat) (T : Tk) (w : World) : Prop where
  b : Below V.heap.size V w
  xr : Bx w br [.slice A R.length c]
  xs : ∃ v, Bx w bs [v]
  xt : Bx w bt [.slice (some ⟨gt, 0, none⟩) n n]
  xg : Bx w bg [.func (.func 72) #[] #[.pointer (some ⟨br, 0, none⟩), .pointer (some ⟨bs, 0, none⟩), .pointer (some ⟨bt, 0, none⟩), .pointer (some ⟨bg, 0, none⟩)]]
  vt : VBlk w gt n (fun s => .int .i64 (tkI (T s)))
def RMm (V : World) (R : List (List Nat)) (A : Option Addr) (c n br bs bt bg gt : Nat) (mv i : Value) (W : World) : Prop := ∃ (k many : Nat) (T : Tk), k ≤ R.length ∧ i = .int .i64 k ∧ mv = .int .i64 many ∧ MtI (rowF R) T n k many ∧ GP V R A c n br bs bt bg gt T W
theorem GW.gp {V : World} {R : List (List Nat)} {A : Option Addr} {c n br bs bt bg gt gs : Nat} {T : Tk} {S : Nat → Bool} {w : World} (h : GW V R A c n br bs bt bg gt gs T S w) : GP V R A c n br bs bt bg gt T w := ⟨h.b, h.xr, ⟨_, h.xs⟩, h.xt, h.xg, h.vt⟩
theorem GP.gw {V : World} {R : List (List Nat)} {A : Option Addr} {c n br bs bt bg gt : Nat} {T : Tk} {w : World} (h : GP V R A c n br bs bt bg gt T w) (t : TypeId) (hs : V.heap.size ≤ bs) (h1 : bs ≠ br) (h2 : bs ≠ bt) (h3 : bs ≠ bg) (h4 : bs ≠ gt) :
    GW V R A c n br bs bt bg gt w.heap.size T (fun _ => false) ((w.setCell ⟨bs, 0, none⟩ (.slice (some ⟨w.heap.size, 0, none⟩) n n)).alloc (.cells (madeCells #[.bool false] n) t)) := by
  obtain ⟨v, hv⟩ := h.xs
  have hb := nxA (w.setCell ⟨bs, 0, none⟩ (.slice (some ⟨w.heap.size, 0, none⟩) n n)) (.cells (madeCells #[.bool false] n) t)
  have hm := VBlk.made (w.setCell ⟨bs, 0, none⟩ (.slice (some ⟨w.heap.size, 0, none⟩) n n)) (.bool false) n t
  rw [World.size_setCell] at hm
  have hb0 := h.b.setCell (p := ⟨bs, 0, none⟩) hs (.slice (some ⟨w.heap.size, 0, none⟩) n n)
  exact ⟨hb0.trans (hb.mono hb0.size), (h.xr.other h1.symm _ _).next hb, (hv.set (k := 0) (by simp) _).next hb, (h.xt.other h2.symm _ _).next hb, (h.xg.other h3.symm _ _).next hb, (h.vt.other h4 _ _).next hb, hm⟩
set_option maxRecDepth 100000 in
set_option maxHeartbeats 2000000 in
theorem matched_any (R : List (List Nat)) (A : Option Addr) (c n : Nat) (w : World) (hR : RowsAt w w.heap.size A R) (ok : RowsOk R n) : Calls Tryd.prog 65 #[.slice A R.length c, .int .i64 n] w (RetM R n w) := by
  have hn96 := ok.n96
  have hlen := ok.len
  have HR := Lib.hid hR
  have OK := Lib.hid ok
  obtain ⟨i0, hi0, hz0, hz1, hz2⟩ := info_parts int_info
  obtain ⟨i1, hi1, hy0, hy1, hy2⟩ := info_parts bool_info
  have hmk : ∀ W : World, (Instr.makeSlice 24 (.int .i64 (n : Int)) (.int .i64 (n : Int))).run Tryd.prog W = .ok (.slice (some ⟨W.heap.size, 0, none⟩) n n) (W.alloc (.cells (zeros n) 3)) := fun W => by
    have := run_make (P := Tryd.prog) W 24 3 i0 (.int .i64 0) Tryd.underlying24 hi0 hz0 .i64 .i64 n n (by omega) (by omega) (by rw [hz2]; omega) (by omega)
    simpa [zeros, Value.cells, hz1] using this
  have hmb : ∀ W : World, (Instr.makeSlice 102 (.int .i64 (n : Int)) (.int .i64 (n : Int))).run Tryd.prog W = .ok (.slice (some ⟨W.heap.size, 0, none⟩) n n) (W.alloc (.cells (madeCells #[.bool false] n) 4)) := fun W => by
    have := run_make (P := Tryd.prog) W 102 4 i1 (.bool false) Tryd.underlying102 hi1 hy0 .i64 .i64 n n (by omega) (by omega) (by rw [hy2]; omega) (by omega)
    simpa [Value.cells, hy1] using this
  have HMB := Lib.hid hmb
  clear hmb hR ok hi0 hz0 hz1 hz2 hi1 hy0 hy1 hy2
  have n1 := nxA w (.cells #[.slice A R.length c] 92)
  have y1 := Bx.new w #[.slice A R.length c] 92
  have s1 : (w.alloc (.cells #[.slice A R.length c] 92)).heap.size = w.heap.size + 1 := by simp
  go_enter Tryd.func65, Tryd.ntmps65
  go_wp2_with fail
  generalize w.alloc (.cells #[.slice A R.length c] 92) = W1 at *
  have n2 := nxA W1 (.cells (zeros n) 3)
  have y2 : VBlk (W1.alloc (.cells (zeros n) 3)) W1.heap.size n (fun _ => .int .i64 0) := VBlk.made W1 (.int .i64 0) n 3
  have s2 : (W1.alloc (.cells (zeros n) 3)).heap.size = w.heap.size + 1 + 1 := by simp [s1]
  generalize W1.alloc (.cells (zeros n) 3) = W2 at *
  have n3 := nxA W2 (.cells #[.slice (some ⟨w.heap.size + 1, 0, none⟩) n n] 24)
  have y3 := Bx.new W2 #[.slice (some ⟨w.heap.size + 1, 0, none⟩) n n] 24
  have s3 : (W2.alloc (.cells #[.slice (some ⟨w.heap.size + 1, 0, none⟩) n n] 24)).heap.size = w.heap.size + 1 + 1 + 1 := by simp [s2]
  generalize W2.alloc (.cells #[.slice (some ⟨w.heap.size + 1, 0, none⟩) n n] 24) = W3 at *
  rw [s1] at y2
  rw [s2] at y3
  have H0 := Lib.hid (show RMf w R A c n (.int .i64 0) W3 from ⟨0, by omega, rfl, n1.trans ((n2.trans (n3.mono n2.size)).mono n1.size), (y1.next n2).next n3, y3, (y2.next n3).eq (fun s _ => by rw [if_neg (by omega)])⟩)
  have HRf := Lib.hid (fun i W => show RMf w R A c n i W ↔ ∃ k : Nat, k ≤ n ∧ i = .int .i64 k ∧ Below w.heap.size w W ∧ Bx W w.heap.size [.slice A R.length c] ∧ Bx W (w.heap.size + 1 + 1) [.slice (some ⟨w.heap.size + 1, 0, none⟩) n n] ∧ VBlk W (w.heap.size + 1) n (fun s => .int .i64 (if s < k then -1 else 0)) from Iff.rfl)
  clear n1 n2 n3 y1 y2 y3 s1 s2 s3 hmk
  go_loopw [14] (fun i wr => RMf w R A c n i wr) (fun i _ => n - (intOf i).toNat)
  case atStart => exact H0.out
  case round =>
    obtain ⟨k, hk, rfl, hb, hx, hy, hv⟩ := (HRf.out _ _).1 hrel
    clear hrel
    have HB := Lib.hid hb
    have HX := Lib.hid hx
    have HY := Lib.hid hy
    have HV := Lib.hid hv
    have c3 := hy.c 0 _ rfl
    have hbz := hb.size
    by_cases hlt : k < n
    · have v0 := hv.cell k hlt
      have f0 := hv.free k
      have HF := Lib.hid (show RMf w R A c n (.int .i64 ((k + 1 : Nat) : Int)) (wr.setCell ⟨w.heap.size + 1, k, none⟩ (.int .i64 (-1))) from
        ⟨k + 1, by omega, rfl, hb.setCell (p := ⟨w.heap.size + 1, k, none⟩) (by show w.heap.size ≤ w.heap.size + 1; omega) _, hx.other (by omega) _ _, hy.other (by omega) _ _, hv.set_ hlt (by rw [if_pos (by omega)]) (fun i hi => by
          by_cases h : i < k
          · rw [if_pos h, if_pos (by omega)]
          · rw [if_neg h, if_neg (by omega)])⟩)
      clear hb hx hy hv
      go_wp2_with fail
      refine ⟨?_, by simp [intOf]; omega⟩
      have := HF.out
      rwa [show ((k : Int) + 1) = ((k + 1 : Nat) : Int) by push_cast; rfl]
    · obtain rfl : k = n := by omega
      have n7 := nxA wr (.cells #[.slice none 0 0] 102)
      have y7 := Bx.new wr #[.slice none 0 0] 102
      have s7 : (wr.alloc (.cells #[.slice none 0 0] 102)).heap.size = wr.heap.size + 1 := by simp
      clear hb hx hy hv
      go_upto_region 9 with fail
      generalize wr.alloc (.cells #[.slice none 0 0] 102) = W7 at *
      have n8 := nxA W7 (.cells #[.nilFunc] 84)
      have y8 := Bx.new W7 #[.nilFunc] 84
      generalize W7.alloc (.cells #[.nilFunc] 84) = W8 at *
      rw [s7] at y8
      have hz8 := y8.lt
      obtain ⟨bs, hbs⟩ : ∃ bs, bs = wr.heap.size := ⟨_, rfl⟩
      have n9 := Lib.hid (n7.trans (n8.mono n7.size))
      have Y7 := Lib.hid (y7.next n8)
      have c8 := y8.c 0 _ rfl
      have f8 := y8.fr 0
      have Y8 := Lib.hid y8
      have hlt1 := HV.out.lt
      have hlt2 := HY.out.lt
      rw [← hbs] at Y7 Y8 c8 f8 hlt1 hlt2 ⊢
      have HBS := Lib.hid hbs
      clear hbs n7 n8 y7 y8 s7 c3
      obtain ⟨fv, hfv⟩ : ∃ fv : Value, fv = .func (.func 72) #[] #[.pointer (some ⟨w.heap.size, 0, none⟩), .pointer (some ⟨bs, 0, none⟩), .pointer (some ⟨w.heap.size + 1 + 1, 0, none⟩), .pointer (some ⟨bs + 1, 0, none⟩)] := ⟨_, rfl⟩
      have HP := Lib.hid (show GP w R A c k w.heap.size bs (w.heap.size + 1 + 1) (bs + 1) (w.heap.size + 1) (fun _ => none) (W8.setCell ⟨bs + 1, 0, none⟩ fv) from by
        have hb := HB.out.trans (n9.out.mono (by rw [← HBS.out]; omega))
        refine ⟨hb.setCell (p := ⟨bs + 1, 0, none⟩) (by show w.heap.size ≤ bs + 1; omega) _, (HX.out.next n9.out).other (by omega) _ _, ⟨_, Y7.out.other (by omega) _ _⟩, (HY.out.next n9.out).other (by omega) _ _, ?_, ?_⟩
        · have := Y8.out.set (k := 0) (by simp) fv
          rw [hfv] at this ⊢
          exact this
        · exact ((HV.out.next n9.out).other (by omega) _ _).eq (fun s hs => by rw [if_pos hs]; rfl))
      rw [hfv] at HP
      clear hfv fv
      go_upto_region 10 with fail
      generalize W8.setCell ⟨bs + 1, 0, none⟩ (.func (.func 72) #[] #[.pointer (some ⟨w.heap.size, 0, none⟩), .pointer (some ⟨bs, 0, none⟩), .pointer (some ⟨w.heap.size + 1 + 1, 0, none⟩), .pointer (some ⟨bs + 1, 0, none⟩)]) = W9 at *
      have r0 := HP.out.xr.c 0 _ rfl
      have H1 := Lib.hid (show RMm w R A c k w.heap.size bs (w.heap.size + 1 + 1) (bs + 1) (w.heap.size + 1) (.int .i64 0) (.int .i64 0) W9 from ⟨0, 0, _, by omega, rfl, rfl, MtI.start k, HP.out⟩)
      clear HP HB HX HY HV HBS H0 HRf n9 Y7 Y8 c8 f8 hlt
      go_wp2_with fail
      clear r0
      go_loopw [4, 24] (fun mv i wr => RMm w R A c k w.heap.size bs (w.heap.size + 1 + 1) (bs + 1) (w.heap.size + 1) mv i wr) (fun _ i _ => R.length - (intOf i).toNat)
      case atStart => exact H1.out
      case round =>
        obtain ⟨q, many, T, hq, rfl, rfl, hM, hG⟩ := hrel
        have HM := Lib.hid hM
        have HG := Lib.hid hG
        have hmq : many ≤ q := by rw [hM.many]; exact sumR_le hM.c1 q
        clear hM
        by_cases hql : q < R.length
        · have hgz := hG.xt.lt
          obtain ⟨sv, hsv⟩ := hG.xs
          have hsl := hsv.lt
          have hgl := hG.vt.lt
          have g1 := hG.xg.lt
          have g2 := hG.xr.lt
          have HGW := Lib.hid (hG.gw 4 (by omega) (by omega) (by omega) (by omega) (by omega))
          have hz := hsv.c 0 _ rfl
          have fz := hsv.fr 0
          have HMB2 := HMB.out
          clear hG
          go_upto_region 14 with fail
          clear HMB2 hz fz hsv
          generalize (wr.setCell ⟨bs, 0, none⟩ (.slice (some ⟨wr.heap.size, 0, none⟩) k k)).alloc (.cells (madeCells #[.bool false] k) 4) = W2 at *
          have hD : GD w.heap.size w.heap.size bs (w.heap.size + 1 + 1) (bs + 1) (w.heap.size + 1) wr.heap.size := ⟨by omega, by omega, by omega, by omega, by omega, by omega, by omega, by omega, by omega, by omega, by omega⟩
          generalize wr.heap.size = gs at *
          have HCALL := Lib.hid (give_any w R A c k w.heap.size bs (w.heap.size + 1 + 1) (bs + 1) (w.heap.size + 1) gs hD HR.out OK.out _ q T (fun _ => false) W2 (Nat.le_refl _) hql HM.out.names HGW.out)
          have x4 := HGW.out.xg.c 0 _ rfl
          clear hD
          go_wp2_with fail
          refine HCALL.out.mono ?_
          rintro e w3 ⟨y, T', S', rfl, hI3, hy, hn⟩
          have HP := Lib.hid hI3.gp
          clear x4 hI3
          cases y
          · have HF := Lib.hid (show RMm w R A c k w.heap.size bs (w.heap.size + 1 + 1) (bs + 1) (w.heap.size + 1) (.int .i64 many) (.int .i64 ((q + 1 : Nat) : Int)) w3 from ⟨q + 1, many, T', by omega, rfl, rfl, by rw [(hn rfl).1]; exact HM.out.no (hn rfl).2, HP.out⟩)
            clear hy hn
            go_wp2_with fail
            refine ⟨?_, by simp [intOf]; omega⟩
            have := HF.out
            rwa [show (((q + 1 : Nat) : Int)) = (q : Int) + 1 by push_cast; rfl] at this
          · have HF := Lib.hid (show RMm w R A c k w.heap.size bs (w.heap.size + 1 + 1) (bs + 1) (w.heap.size + 1) (.int .i64 ((many + 1 : Nat) : Int)) (.int .i64 ((q + 1 : Nat) : Int)) w3 from ⟨q + 1, many + 1, T', by omega, rfl, rfl, HM.out.yes (hy rfl), HP.out⟩)
            clear hy hn
            go_wp2_with fail
            refine ⟨?_, by simp [intOf]; omega⟩
            have := HF.out
            rwa [show (((q + 1 : Nat) : Int)) = (q : Int) + 1 by push_cast; rfl, show (((many + 1 : Nat) : Int)) = (many : Int) + 1 by push_cast; rfl] at this
        · obtain rfl : q = R.length := by omega
          have HB := Lib.hid hG.b
          clear hG
          go_wp2_with fail
          go_ret
          exact ⟨many, T, rfl, hmq, HM.out, HB.out⟩
end Go.Proofs.YtkcfpnpejaekjaaDoor
