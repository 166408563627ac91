import Derived.Test.YtkcfpnpejaekjaaDoorR4
namespace Go.Proofs.YtkcfpnpejaekjaaDoor
open Go.RowKit
/-! The reference: Holder, Window. -/
def holderS (t : Tl) (h : Int) : Int × Int := if okTale t = false then (0, 1) else if inS h 0 1048575 = false then (0, 2) else (holdR t.loans h, 0)
def ret2 (x : Int × Int) : Value := .tuple #[.int .i64 x.1, .int .i64 x.2]
structure WinR where
  lo : Int
  hi : Int
  gone : Bool
  e : Int
def winS (t : Tl) (p : Int) : WinR :=
  if okTale t = false then ⟨0, 0, false, 1⟩ else if inS p 0 (t.n - 1) = false then ⟨0, 0, false, 2⟩ else
  if goneS t.looks p.toNat ≤ seenS t.looks p.toNat then ⟨0, 0, false, 6⟩ else if seenS t.looks p.toNat = mxH then ⟨0, 0, false, 0⟩ else
  ⟨seenS t.looks p.toNat, min (goneS t.looks p.toNat) mxH - 1, decide (goneS t.looks p.toNat ≤ mxH), 0⟩
def retWin (x : WinR) : Value := .tuple #[.agg #[.int .i64 x.lo, .int .i64 x.hi], .bool x.gone, .int .i64 x.e]
theorem results_cell3 {fn : Func} {p t u : Tmp} {ty : TypeId} (h : fn.results = #[.cell p ty, .tmp t, .tmp u]) {tmps : Array Value} {P : Program} {w : World} {a : Addr} {v : Value} (hp : tmps.getD p undef = .pointer (some a)) (hv : (loadVar ty a).run P w = .ok v w) :
    (results fn tmps).run P w = .ok (.tuple #[v, tmps.getD t undef, tmps.getD u undef]) w := by
  have hp' : tmps[p]?.getD undef = .pointer (some a) := by simpa using hp
  simp [results, h, hp', asAddr, hv, Result.andThen]
theorem loadSp {w : World} {b : Nat} {a0 a1 : Value} (h : Bx w b [a0, a1]) : (loadVar 33 ⟨b, 0, none⟩).run Tryd.prog w = .ok (.agg #[a0, a1]) w := by
  have c0 := h.c 0 _ rfl
  have c1 := h.c 1 _ rfl
  clear h
  go_simp
set_option maxHeartbeats 1000000 in
theorem HolderR_any (m : Mt) (h : Int) (w : World) (hr : TaleAt w w.heap.size m) : Calls Tryd.prog 15 #[.agg #[.int .i64 m.t.n, .slice m.A1 m.t.loans.length m.c1, .slice m.A2 m.t.looks.length m.c2, .slice m.A3 m.t.admits.length m.c3], .int .i64 h] w (Ret (ret2 (holderS m.t h)) w) := by
  have B0 := Lib.hid (nxA w (.cells #[.int .i64 m.t.n, .slice m.A1 m.t.loans.length m.c1, .slice m.A2 m.t.looks.length m.c2, .slice m.A3 m.t.admits.length m.c3] 26))
  have HX := Lib.hid (Bx.new w #[.int .i64 m.t.n, .slice m.A1 m.t.loans.length m.c1, .slice m.A2 m.t.looks.length m.c2, .slice m.A3 m.t.admits.length m.c3] 26)
  have HR := Lib.hid (hr.next B0.out)
  clear hr
  have HD := Lib.hid (show holderS m.t h = if okTale m.t = false then (0, 1) else if inS h 0 1048575 = false then (0, 2) else (holdR m.t.loans h, 0) from rfl)
  go_enter Tryd.func15, Tryd.ntmps15
  go_wp2_with fail
  generalize w.alloc (.cells #[.int .i64 m.t.n, .slice m.A1 m.t.loans.length m.c1, .slice m.A2 m.t.looks.length m.c2, .slice m.A3 m.t.admits.length m.c3] 26) = V at *
  refine (Tale_any m _ HR.out).mono ?_
  rintro e w1 ⟨rfl, hb1⟩
  have B1 := Lib.hid (B0.out.trans (hb1.mono B0.out.size))
  have X1 := Lib.hid (HX.out.next hb1)
  have R1 := Lib.hid (HR.out.next hb1)
  have c0 := X1.out.c 0 _ rfl
  have c1 := X1.out.c 1 _ rfl
  have c2 := X1.out.c 2 _ rfl
  have c3 := X1.out.c 3 _ rfl
  have hz := X1.out.lt
  clear hb1
  cases ht : okTale m.t
  · go_wp2
    (try simp only [Exit.inBlock, Exit.then])
    refine bodyPost_ret (results_tmp2 rfl _ _ _) rfl ?_
    exact ⟨by rw [HD.out, ht]; rfl, B1.out⟩
  · cases hi : inS h 0 1048575
    · go_wp2_with (go_at_call 34; (with_reducible refine (in_any _ _ _ _).mono ?_); rintro e w' ⟨rfl, rfl⟩)
      (try simp only [Exit.inBlock, Exit.then])
      refine bodyPost_ret (results_tmp2 rfl _ _ _) rfl ?_
      exact ⟨by rw [HD.out, ht, hi]; rfl, B1.out⟩
    · go_wp2_with (first | (go_at_call 34; (with_reducible refine (in_any _ _ _ _).mono ?_); rintro e w' ⟨rfl, rfl⟩) | fail)
      refine (holderR_any m h _ R1.out).mono ?_
      rintro e w2 ⟨rfl, hb2⟩
      have B2 := Lib.hid (B1.out.trans (hb2.mono B1.out.size))
      clear hb2
      go_wp2
      (try simp only [Exit.inBlock, Exit.then])
      refine bodyPost_ret (results_tmp2 rfl _ _ _) rfl ?_
      exact ⟨by rw [HD.out, ht, hi]; rfl, B2.out⟩
set_option maxHeartbeats 1000000 in
theorem WindowR_any (m : Mt) (p : Int) (w : World) (hr : TaleAt w w.heap.size m) : Calls Tryd.prog 17 #[.agg #[.int .i64 m.t.n, .slice m.A1 m.t.loans.length m.c1, .slice m.A2 m.t.looks.length m.c2, .slice m.A3 m.t.admits.length m.c3], .int .i64 p] w (Ret (retWin (winS m.t p)) w) := by
  have b0 := nxA w (.cells #[.int .i64 m.t.n, .slice m.A1 m.t.loans.length m.c1, .slice m.A2 m.t.looks.length m.c2, .slice m.A3 m.t.admits.length m.c3] 26)
  have x0 := Bx.new w #[.int .i64 m.t.n, .slice m.A1 m.t.loans.length m.c1, .slice m.A2 m.t.looks.length m.c2, .slice m.A3 m.t.admits.length m.c3] 26
  have b1 := nxA (w.alloc (.cells #[.int .i64 m.t.n, .slice m.A1 m.t.loans.length m.c1, .slice m.A2 m.t.looks.length m.c2, .slice m.A3 m.t.admits.length m.c3] 26)) (.cells #[.int .i64 0, .int .i64 0] 33)
  have z0 := Bx.new (w.alloc (.cells #[.int .i64 m.t.n, .slice m.A1 m.t.loans.length m.c1, .slice m.A2 m.t.looks.length m.c2, .slice m.A3 m.t.admits.length m.c3] 26)) #[.int .i64 0, .int .i64 0] 33
  rw [World.size_alloc] at z0
  have B0 := Lib.hid (b0.trans (b1.mono b0.size))
  have HX := Lib.hid (x0.next b1)
  have HZ := Lib.hid z0
  have HR := Lib.hid (hr.next B0.out)
  clear hr b0 x0 b1 z0
  have HD := Lib.hid (show winS m.t p = if okTale m.t = false then ⟨0, 0, false, 1⟩ else if inS p 0 (m.t.n - 1) = false then ⟨0, 0, false, 2⟩ else
    if goneS m.t.looks p.toNat ≤ seenS m.t.looks p.toNat then ⟨0, 0, false, 6⟩ else if seenS m.t.looks p.toNat = mxH then ⟨0, 0, false, 0⟩ else
    ⟨seenS m.t.looks p.toNat, min (goneS m.t.looks p.toNat) mxH - 1, decide (goneS m.t.looks p.toNat ≤ mxH), 0⟩ from rfl)
  go_enter Tryd.func17, Tryd.ntmps17
  go_wp2_with fail
  generalize (w.alloc (.cells #[.int .i64 m.t.n, .slice m.A1 m.t.loans.length m.c1, .slice m.A2 m.t.looks.length m.c2, .slice m.A3 m.t.admits.length m.c3] 26)).alloc (.cells #[.int .i64 0, .int .i64 0] 33) = V at *
  refine (Tale_any m _ HR.out).mono ?_
  rintro e w1 ⟨rfl, hb1⟩
  have B1 := Lib.hid (B0.out.trans (hb1.mono B0.out.size))
  have X1 := Lib.hid (HX.out.next hb1)
  have Z1 := Lib.hid (HZ.out.next hb1)
  have R1 := Lib.hid (HR.out.next hb1)
  have c0 := X1.out.c 0 _ rfl
  have c1 := X1.out.c 1 _ rfl
  have c2 := X1.out.c 2 _ rfl
  have c3 := X1.out.c 3 _ rfl
  have hz := X1.out.lt
  have z0 := Z1.out.c 0 _ rfl
  have z1 := Z1.out.c 1 _ rfl
  have f0 := Z1.out.fr 0
  have f1 := Z1.out.fr 1
  clear hb1
  cases ht : okTale m.t
  · go_wp2
    (try simp only [Exit.inBlock, Exit.then])
    refine bodyPost_ret (results_cell3 rfl rfl (loadSp (Z1.out.setAll [.int .i64 0, .int .i64 0] rfl))) rfl ?_
    exact ⟨by rw [HD.out, ht]; rfl, below_setCells (b := w.heap.size + 1) (by omega) [.int .i64 0, .int .i64 0] 0 B1.out⟩
  · have OK := Lib.hid (okT_of ht)
    have hn1 := OK.out.n1
    have hn2 := OK.out.n2
    have hw : IntKind.i64.wrap (m.t.n - 1) = m.t.n - 1 := IntWalk.i64_in _ (by omega)
    cases hi : inS p 0 (m.t.n - 1)
    · go_wp2_with (go_at_call 34; (with_reducible refine (in_any _ _ _ _).mono ?_); rintro e w' ⟨rfl, rfl⟩)
      (try simp only [Exit.inBlock, Exit.then])
      refine bodyPost_ret (results_cell3 rfl rfl (loadSp (Z1.out.setAll [.int .i64 0, .int .i64 0] rfl))) rfl ?_
      exact ⟨by rw [HD.out, ht, hi]; rfl, below_setCells (b := w.heap.size + 1) (by omega) [.int .i64 0, .int .i64 0] 0 B1.out⟩
    · have hip := inS_iff.1 hi
      obtain ⟨q, hq⟩ : ∃ q : Nat, p = q := ⟨p.toNat, by omega⟩
      subst hq
      have HQ := Lib.hid (show ((q : Int)).toNat = q by omega)
      have hq62 : q ≤ 62 := by omega
      have hs1 := seenS_nonneg m.t.looks q
      have hs2 := seenS_le (l := m.t.looks) (k := q) fun x hx => (OK.out.look x hx).1.2
      have hg1 := goneS_le m.t.looks q
      have hg2 := goneS_nonneg (l := m.t.looks) (k := q) fun x hx => (OK.out.look x hx).1.1
      go_wp2_with (first | (go_at_call 34; (with_reducible refine (in_any _ _ _ _).mono ?_); rintro e w' ⟨rfl, rfl⟩) | fail)
      refine (bounds_any m q _ R1.out OK.out hq62).mono ?_
      rintro e w2 ⟨rfl, hb2⟩
      have B2 := Lib.hid (B1.out.trans (hb2.mono B1.out.size))
      have Z2 := Lib.hid (Z1.out.next hb2)
      have z0 := Z2.out.c 0 _ rfl
      have z1 := Z2.out.c 1 _ rfl
      have f0 := Z2.out.fr 0
      have f1 := Z2.out.fr 1
      have HD2 := Lib.hid (show winS m.t q = if goneS m.t.looks q ≤ seenS m.t.looks q then ⟨0, 0, false, 6⟩ else if seenS m.t.looks q = mxH then ⟨0, 0, false, 0⟩ else
        ⟨seenS m.t.looks q, min (goneS m.t.looks q) mxH - 1, decide (goneS m.t.looks q ≤ mxH), 0⟩ from by rw [HD.out, ht, hi, HQ.out]; rfl)
      clear hb2 HD
      generalize seenS m.t.looks q = sv at *
      generalize goneS m.t.looks q = gv at *
      by_cases h1 : gv ≤ sv
      · go_wp2
        (try simp only [Exit.inBlock, Exit.then])
        refine bodyPost_ret (results_cell3 rfl rfl (loadSp (Z2.out.setAll [.int .i64 0, .int .i64 0] rfl))) rfl ?_
        exact ⟨by rw [HD2.out, if_pos h1]; rfl, below_setCells (b := w.heap.size + 1) (by omega) [.int .i64 0, .int .i64 0] 0 B2.out⟩
      · by_cases h2 : sv = 1048576
        · have H1 := Lib.hid h1
          have H2 := Lib.hid h2
          go_wp2
          (try simp only [Exit.inBlock, Exit.then])
          refine bodyPost_ret (results_cell3 rfl rfl (loadSp (Z2.out.setAll [.int .i64 0, .int .i64 0] rfl))) rfl ?_
          exact ⟨by rw [HD2.out, if_neg (show ¬ gv ≤ sv by have := H1.out; omega), if_pos H2.out]; rfl, below_setCells (b := w.heap.size + 1) (by omega) [.int .i64 0, .int .i64 0] 0 B2.out⟩
        · have hmn : IntKind.i64.wrap (min gv 1048576 - 1) = min gv 1048576 - 1 := IntWalk.i64_in _ (by omega)
          have H1 := Lib.hid h1
          have H2 := Lib.hid h2
          go_wp2
          rotate_left
          · (try simp only [Exit.inBlock, Exit.then])
            refine bodyPost_ret (results_cell3 rfl rfl (loadSp (Z2.out.setAll [.int .i64 sv, .int .i64 (gv - 1)] rfl))) rfl ?_
            refine ⟨?_, below_setCells (b := w.heap.size + 1) (by omega) [.int .i64 sv, .int .i64 (gv - 1)] 0 B2.out⟩
            rw [HD2.out, if_neg (show ¬ gv ≤ sv by have := H1.out; omega), if_neg H2.out]
            show _ = Ending.returned (Value.tuple #[Value.agg #[Value.int .i64 sv, Value.int .i64 (min gv 1048576 - 1)], Value.bool (decide (gv ≤ 1048576)), Value.int .i64 0])
            rw [show min gv 1048576 = gv by omega, decide_eq_true (show gv ≤ 1048576 by omega)]; rfl
          · have hgt : 1048576 < gv := by omega
            (try simp only [Exit.inBlock, Exit.then])
            refine bodyPost_ret (results_cell3 rfl rfl (loadSp (Z2.out.setAll [.int .i64 sv, .int .i64 1048575] rfl))) rfl ?_
            refine ⟨?_, below_setCells (b := w.heap.size + 1) (by omega) [.int .i64 sv, .int .i64 1048575] 0 B2.out⟩
            rw [HD2.out, if_neg (show ¬ gv ≤ sv by have := H1.out; omega), if_neg H2.out]
            show _ = Ending.returned (Value.tuple #[Value.agg #[Value.int .i64 sv, Value.int .i64 (min gv 1048576 - 1)], Value.bool (decide (gv ≤ 1048576)), Value.int .i64 0])
            rw [show min gv 1048576 = 1048576 by omega, decide_eq_false (show ¬ gv ≤ 1048576 by omega)]; rfl
end Go.Proofs.YtkcfpnpejaekjaaDoor
