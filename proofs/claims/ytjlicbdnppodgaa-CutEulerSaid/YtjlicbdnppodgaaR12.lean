import Derived.Test.YtjlicbdnppodgaaR11
import Derived.Test.YtjlicbdnppodgaaApp
namespace Go.Proofs.Ytjlicbdnppodgaa
open Go.RowKit
/-! The reference: saw. -/
/-- What saw of a rectangle hands back. -/
def RetSw (r : List Ln × Bool) (w : World) (e : Ending) (w' : World) : Prop := ∃ A cap, e = .returned (.tuple #[.slice A r.1.length cap, .bool r.2]) ∧ At w' w'.heap.size 4 lineC A r.1 ∧ Below w.heap.size w w'
theorem line_one : ∀ y : Ln, ∀ u ∈ lineC y, u.oneCell' = true := fun y u hu => by
  unfold lineC at hu
  simp only [List.mem_cons, List.not_mem_nil, or_false] at hu
  rcases hu with rfl | rfl | rfl | rfl <;> rfl
/-- Of the first cells: is each in the rectangle of the one piece? -/
def oneTo (c : Cut) (x0 y0 x1 y1 : Int) (n : Nat) : Bool := (List.range n).all fun i => !insR c i x0 y0 x1 y1 || decide (atI c i = at2 c x0 y0)
theorem oneTo_succ (c : Cut) (x0 y0 x1 y1 : Int) (n : Nat) : oneTo c x0 y0 x1 y1 (n + 1) = (oneTo c x0 y0 x1 y1 n && (!insR c n x0 y0 x1 y1 || decide (atI c n = at2 c x0 y0))) := by
  unfold oneTo
  rw [List.range_succ, List.all_append]
  simp
structure RW1 (c : Cut) (x0 y0 x1 y1 : Int) (V W : World) (ov : Value) (n : Nat) : Prop where
  hn : n ≤ c.piece.length
  o : ov = .bool (oneTo c x0 y0 x1 y1 n)
  b : Below V.heap.size V W
structure RW2 (V W : World) (N : Int) (z0 : Int) (g : Nat → Bool) (j : Nat) : Prop where
  al : ∀ t : Nat, t < j → g t = false
  hj : z0 + 1 + (j : Int) ≤ N ∨ j = 0
  b : Below V.heap.size V W
set_option maxRecDepth 100000 in
set_option maxHeartbeats 16000000 in
theorem sawR_any (c : Cut) (ok : OkC c) (w0 : World) (hr0 : CutAt w0 w0.heap.size c) (n : Nat) : ∀ (x0 y0 x1 y1 : Int) (w : World), Below w0.heap.size w0 w → Rec c n x0 y0 x1 y1 →
    Calls Try.prog 58 #[.agg #[.int .i64 c.wide, .int .i64 c.high, .slice c.A c.piece.length c.c], .int .i64 x0, .int .i64 y0, .int .i64 x1, .int .i64 y1] w (RetSw (sawF c n x0 y0 x1 y1) w) := by
  have OK := Lib.hid ok
  have HR0 := Lib.hid hr0
  have hlen : c.piece.length ≤ 144 := by
    have := ok.w
    have := ok.h
    have := Int.mul_le_mul ok.w.2 ok.h.2 (show (0 : Int) ≤ c.high by omega) (show (0 : Int) ≤ 12 by omega)
    have := ok.len
    omega
  clear ok hr0
  induction n with
  | zero =>
    intro x0 y0 x1 y1 w _ hR
    have := hR.n
    have := hR.x
    have := hR.y
    omega
  | succ n ih =>
    intro x0 y0 x1 y1 w hbw hR
    have IH := Lib.hid ih
    have HRC := Lib.hid hR
    have hx := hR.x
    have hy := hR.y
    have hwd := OK.out.w
    have hhd := OK.out.h
    have HX := Lib.hid (Bx.new w #[.int .i64 c.wide, .int .i64 c.high, .slice c.A c.piece.length c.c] 24)
    have HB := Lib.hid (nxA w (.cells #[.int .i64 c.wide, .int .i64 c.high, .slice c.A c.piece.length c.c] 24))
    have HBW := Lib.hid (hbw.trans (HB.out.mono hbw.size))
    have HRV := Lib.hid (fun (W : World) (h : Below w0.heap.size w0 W) => (show CutAt W W.heap.size c from (HR0.out.below h).more h.size))
    have hlines := Lib.hid (fun a b d e (h1 : a < d) (h2 : b < e) => saw_len c n a b d e h1 h2)
    clear ih hR hbw
    go_enter Try.func58, Try.ntmps58
    go_upto_region 1 with fail
    generalize (w.alloc (.cells #[.int .i64 c.wide, .int .i64 c.high, .slice c.A c.piece.length c.c] 24)) = V at *
    have hwV := HX.out.lt
    go_wp2_with fail
    go_loopw [12, 13] (fun ov iv wr => ∃ i : Nat, iv = .int .i64 i ∧ RW1 c x0 y0 x1 y1 V wr ov i) (fun _ iv _ => c.piece.length - (intOf iv).toNat)
    case atStart => exact ⟨0, rfl, by omega, rfl, Below.refl _ _⟩
    case round =>
      obtain ⟨i, rfl, h1⟩ := hrel
      obtain rfl := h1.o
      have hi := h1.hn
      have H1 := Lib.hid h1
      have c0 := (HX.out.next h1.b).c 0 _ rfl
      have c1 := (HX.out.next h1.b).c 1 _ rfl
      have c2 := (HX.out.next h1.b).c 2 _ rfl
      have HB1 := Lib.hid (HBW.out.trans (h1.b.mono HBW.out.size))
      generalize wr = Wi at *
      by_cases hlt : i < c.piece.length
      · have HS := Lib.hid (oneTo_succ c x0 y0 x1 y1 i)
        clear h1
        obtain ⟨b, off, e, hbk, g0⟩ := int_at (HRV.out _ HB1.out).pa hlt
        replace g0 : Wi.cell? ⟨b, off + i, none⟩ = some (.int .i64 (atI c i)) := g0
        rw [e] at c2
        have HE := Lib.hid e
        have H3 := Lib.hid (show ∀ W' : World, Below Wi.heap.size Wi W' → Below Wi.heap.size Wi W' ∧ W'.cell? ⟨w.heap.size, 0, none⟩ = some (.int .i64 c.wide) ∧ W'.cell? ⟨w.heap.size, 1, none⟩ = some (.int .i64 c.high) ∧ W'.cell? ⟨w.heap.size, 2, none⟩ = some (.slice (some ⟨b, off, none⟩) c.piece.length c.c) ∧ W'.cell? ⟨b, off + i, none⟩ = some (.int .i64 (atI c i)) from fun W' h => ⟨h, (h.cell (p := ⟨w.heap.size, 0, none⟩) (by have := (HX.out.next H1.out.b).lt; exact this)).trans c0, (h.cell (p := ⟨w.heap.size, 1, none⟩) (by have := (HX.out.next H1.out.b).lt; exact this)).trans c1, (h.cell (p := ⟨w.heap.size, 2, none⟩) (by have := (HX.out.next H1.out.b).lt; exact this)).trans c2, (h.cell (p := ⟨b, off + i, none⟩) hbk).trans g0⟩)
        have HC1 := Lib.hid (show ∀ W' : World, Calls Try.prog 62 #[.agg #[.int .i64 c.wide, .int .i64 c.high, .slice (some ⟨b, off, none⟩) c.piece.length c.c], .int .i64 i, .int .i64 x0, .int .i64 y0, .int .i64 x1, .int .i64 y1] W' (Ret (.bool (insR c i x0 y0 x1 y1)) W') from fun W' => by rw [← HE.out]; exact inside_any c i x0 y0 x1 y1 W' OK.out hlt (by omega) (by omega))
        have HC2 := Lib.hid (show ∀ W' : World, Below Wi.heap.size Wi W' → Calls Try.prog 34 #[.agg #[.int .i64 c.wide, .int .i64 c.high, .slice (some ⟨b, off, none⟩) c.piece.length c.c], .int .i64 x0, .int .i64 y0] W' (Ret (.int .i64 (at2 c x0 y0)) W') from fun W' h => by rw [← HE.out]; exact At_any c x0 y0 W' OK.out (HRV.out _ (HB1.out.trans (h.mono HB1.out.size))))
        have HNX := Lib.hid (fun (W' : World) (h : Below Wi.heap.size Wi W') (ov : Bool) (ho : oneTo c x0 y0 x1 y1 (i + 1) = ov) => (show RW1 c x0 y0 x1 y1 V W' (.bool ov) (i + 1) from ⟨by omega, by rw [ho], H1.out.b.trans (h.mono H1.out.b.size)⟩))
        clear e g0
        cases ho : oneTo c x0 y0 x1 y1 i
        · have HV := Lib.hid (show oneTo c x0 y0 x1 y1 (i + 1) = false from by rw [HS.out, ho]; rfl)
          clear ho
          go_upto_region 5 with fail
          refine wp_region_noPanic ?_
          refine wp_region_held_drew (S := fun _ => True) (by kernel_rfl) ?_ (fun _ => ?_)
          · trivial
          refine GG.sound (S0 := (fun W' => Below Wi.heap.size Wi W' ∧ W'.cell? ⟨w.heap.size, 0, none⟩ = some (.int .i64 c.wide) ∧ W'.cell? ⟨w.heap.size, 1, none⟩ = some (.int .i64 c.high) ∧ W'.cell? ⟨w.heap.size, 2, none⟩ = some (.slice (some ⟨b, off, none⟩) c.piece.length c.c) ∧ W'.cell? ⟨b, off + i, none⟩ = some (.int .i64 (atI c i)))) _ (fun W' => Below Wi.heap.size Wi W') _ _ (fun W W' h hb => h.trans (hb.mono h.size)) (fun W' h => H3.out W' h) ?_ _ ((Below.refl _ _).drew)
          refine gtake (i := 0) (v := ?v1) rfl (by kernel_rfl) (by kernel_rfl) (by kernel_rfl) (MakesIf.yields (Or.inl ⟨by rfl, ?hy1⟩)) ?_
          case hy1 => (intro w hSw; (try dsimp only at hSw); go_simp; try (with_reducible rfl))
          try simp only [Act.put, List.setIfInBounds_toArray, List.set_cons_zero, List.set_cons_succ]
          refine gtake (i := 1) (v := ?v2) rfl (by kernel_rfl) (by kernel_rfl) (by kernel_rfl) (MakesIf.yields (Or.inl ⟨by rfl, ?hy2⟩)) ?_
          case hy2 => (intro w hSw; (try dsimp only at hSw); go_simp; try (with_reducible rfl))
          try simp only [Act.put, List.setIfInBounds_toArray, List.set_cons_zero, List.set_cons_succ]
          refine gtake (i := 2) (v := undef) rfl (by kernel_rfl) (by kernel_rfl) (by kernel_rfl) (Or.inr ⟨by rfl, rfl⟩) ?_
          try simp only [Act.put, List.setIfInBounds_toArray, List.set_cons_zero, List.set_cons_succ]
          refine gtake (i := 3) (v := undef) rfl (by kernel_rfl) (by kernel_rfl) (by kernel_rfl) (Or.inr ⟨by rfl, rfl⟩) ?_
          try simp only [Act.put, List.setIfInBounds_toArray, List.set_cons_zero, List.set_cons_succ]
          refine gtake (i := 4) (v := undef) rfl (by kernel_rfl) (by kernel_rfl) (by kernel_rfl) (Or.inr ⟨by rfl, rfl⟩) ?_
          try simp only [Act.put, List.setIfInBounds_toArray, List.set_cons_zero, List.set_cons_succ]
          refine gtake (i := 5) (v := undef) rfl (by kernel_rfl) (by kernel_rfl) (by kernel_rfl) (Or.inr ⟨by rfl, rfl⟩) ?_
          try simp only [Act.put, List.setIfInBounds_toArray, List.set_cons_zero, List.set_cons_succ]
          refine gtake (i := 6) (v := undef) rfl (by kernel_rfl) (by kernel_rfl) (by kernel_rfl) (Or.inr ⟨by rfl, rfl⟩) ?_
          try simp only [Act.put, List.setIfInBounds_toArray, List.set_cons_zero, List.set_cons_succ]
          refine gtake (i := 7) (v := undef) rfl (by kernel_rfl) (by kernel_rfl) (by kernel_rfl) (Or.inr ⟨by rfl, rfl⟩) ?_
          try simp only [Act.put, List.setIfInBounds_toArray, List.set_cons_zero, List.set_cons_succ]
          refine gtake (i := 8) (v := undef) rfl (by kernel_rfl) (by kernel_rfl) (by kernel_rfl) (Or.inr ⟨by rfl, rfl⟩) ?_
          try simp only [Act.put, List.setIfInBounds_toArray, List.set_cons_zero, List.set_cons_succ]
          refine gtake (i := 9) (v := undef) rfl (by kernel_rfl) (by kernel_rfl) (by kernel_rfl) (Or.inr ⟨by rfl, rfl⟩) ?_
          try simp only [Act.put, List.setIfInBounds_toArray, List.set_cons_zero, List.set_cons_succ]
          refine gtake (i := 10) (v := undef) rfl (by kernel_rfl) (by kernel_rfl) (by kernel_rfl) (Or.inr ⟨by rfl, rfl⟩) ?_
          try simp only [Act.put, List.setIfInBounds_toArray, List.set_cons_zero, List.set_cons_succ]
          refine gtake (i := 11) (v := undef) rfl (by kernel_rfl) (by kernel_rfl) (by kernel_rfl) (Or.inr ⟨by rfl, rfl⟩) ?_
          try simp only [Act.put, List.setIfInBounds_toArray, List.set_cons_zero, List.set_cons_succ]
          refine gtake (i := 12) (v := undef) rfl (by kernel_rfl) (by kernel_rfl) (by kernel_rfl) (Or.inr ⟨by rfl, rfl⟩) ?_
          try simp only [Act.put, List.setIfInBounds_toArray, List.set_cons_zero, List.set_cons_succ]
          refine gtake (i := 13) (v := undef) rfl (by kernel_rfl) (by kernel_rfl) (by kernel_rfl) (Or.inr ⟨by rfl, rfl⟩) ?_
          try simp only [Act.put, List.setIfInBounds_toArray, List.set_cons_zero, List.set_cons_succ]
          refine gtake (i := 14) (v := undef) rfl (by kernel_rfl) (by kernel_rfl) (by kernel_rfl) (Or.inr ⟨by rfl, rfl⟩) ?_
          try simp only [Act.put, List.setIfInBounds_toArray, List.set_cons_zero, List.set_cons_succ]
          refine gtake (i := 15) (v := undef) rfl (by kernel_rfl) (by kernel_rfl) (by kernel_rfl) (Or.inr ⟨by rfl, rfl⟩) ?_
          try simp only [Act.put, List.setIfInBounds_toArray, List.set_cons_zero, List.set_cons_succ]
          refine gtake (i := 16) (v := undef) rfl (by kernel_rfl) (by kernel_rfl) (by kernel_rfl) (Or.inr ⟨by rfl, rfl⟩) ?_
          try simp only [Act.put, List.setIfInBounds_toArray, List.set_cons_zero, List.set_cons_succ]
          refine gtake (i := 17) (v := undef) rfl (by kernel_rfl) (by kernel_rfl) (by kernel_rfl) (Or.inr ⟨by rfl, rfl⟩) ?_
          try simp only [Act.put, List.setIfInBounds_toArray, List.set_cons_zero, List.set_cons_succ]
          refine gtake (i := 18) (v := undef) rfl (by kernel_rfl) (by kernel_rfl) (by kernel_rfl) (Or.inr ⟨by rfl, rfl⟩) ?_
          try simp only [Act.put, List.setIfInBounds_toArray, List.set_cons_zero, List.set_cons_succ]
          refine gtake (i := 19) (v := undef) rfl (by kernel_rfl) (by kernel_rfl) (by kernel_rfl) (Or.inr ⟨by rfl, rfl⟩) ?_
          try simp only [Act.put, List.setIfInBounds_toArray, List.set_cons_zero, List.set_cons_succ]
          refine gtake (i := 20) (v := undef) rfl (by kernel_rfl) (by kernel_rfl) (by kernel_rfl) (Or.inr ⟨by rfl, rfl⟩) ?_
          try simp only [Act.put, List.setIfInBounds_toArray, List.set_cons_zero, List.set_cons_succ]
          refine gtake (i := 21) (v := undef) rfl (by kernel_rfl) (by kernel_rfl) (by kernel_rfl) (Or.inr ⟨by rfl, rfl⟩) ?_
          try simp only [Act.put, List.setIfInBounds_toArray, List.set_cons_zero, List.set_cons_succ]
          refine gtake (i := 22) (v := ?v3) rfl (by kernel_rfl) (by kernel_rfl) (by kernel_rfl) (MakesIf.yields (Or.inl ⟨by rfl, ?hy3⟩)) ?_
          case hy3 => (intro w hSw; (try dsimp only at hSw); go_simp; try (with_reducible rfl))
          try simp only [Act.put, List.setIfInBounds_toArray, List.set_cons_zero, List.set_cons_succ]
          refine gtake (i := 23) (v := ?v4) rfl (by kernel_rfl) (by kernel_rfl) (by kernel_rfl) (MakesIf.yields (Or.inl ⟨by rfl, ?hy4⟩)) ?_
          case hy4 => (intro w hSw; (try dsimp only at hSw); go_simp; try (with_reducible rfl))
          try simp only [Act.put, List.setIfInBounds_toArray, List.set_cons_zero, List.set_cons_succ]
          refine gdone (by kernel_rfl) (fun w' hT => ?_)
          refine NoPanic.normal ?_
          have HF := Lib.hid (HNX.out _ hT _ HV.out)
          clear hT
          go_wp2_with fail
          exact ⟨⟨i + 1, by go_num, HF.out⟩, by simp [intOf]; omega⟩
        · cases hi1 : insR c i x0 y0 x1 y1
          · rw [hi1] at HC1
            have HV := Lib.hid (show oneTo c x0 y0 x1 y1 (i + 1) = true from by rw [HS.out, ho, hi1]; rfl)
            clear ho hi1
            go_upto_region 5 with fail
            refine wp_region_noPanic ?_
            refine wp_region_held_drew (S := fun _ => True) (by kernel_rfl) ?_ (fun _ => ?_)
            · trivial
            refine GG.sound (S0 := (fun W' => Below Wi.heap.size Wi W' ∧ W'.cell? ⟨w.heap.size, 0, none⟩ = some (.int .i64 c.wide) ∧ W'.cell? ⟨w.heap.size, 1, none⟩ = some (.int .i64 c.high) ∧ W'.cell? ⟨w.heap.size, 2, none⟩ = some (.slice (some ⟨b, off, none⟩) c.piece.length c.c) ∧ W'.cell? ⟨b, off + i, none⟩ = some (.int .i64 (atI c i)))) _ (fun W' => Below Wi.heap.size Wi W') _ _ (fun W W' h hb => h.trans (hb.mono h.size)) (fun W' h => H3.out W' h) ?_ _ ((Below.refl _ _).drew)
            refine gtake (i := 0) (v := ?v5) rfl (by kernel_rfl) (by kernel_rfl) (by kernel_rfl) (MakesIf.yields (Or.inl ⟨by rfl, ?hy5⟩)) ?_
            case hy5 => (intro w hSw; (try dsimp only at hSw); go_simp; try (with_reducible rfl))
            try simp only [Act.put, List.setIfInBounds_toArray, List.set_cons_zero, List.set_cons_succ]
            refine gtake (i := 1) (v := ?v6) rfl (by kernel_rfl) (by kernel_rfl) (by kernel_rfl) (MakesIf.yields (Or.inl ⟨by rfl, ?hy6⟩)) ?_
            case hy6 => (intro w hSw; (try dsimp only at hSw); go_simp; try (with_reducible rfl))
            try simp only [Act.put, List.setIfInBounds_toArray, List.set_cons_zero, List.set_cons_succ]
            refine gtake (i := 2) (v := ?v7) rfl (by kernel_rfl) (by kernel_rfl) (by kernel_rfl) (MakesIf.yields (Or.inl ⟨by rfl, ?hy7⟩)) ?_
            case hy7 => (intro w hSw; (try dsimp only at hSw); go_simp; try (with_reducible rfl))
            try simp only [Act.put, List.setIfInBounds_toArray, List.set_cons_zero, List.set_cons_succ]
            refine gtake (i := 3) (v := ?v8) rfl (by kernel_rfl) (by kernel_rfl) (by kernel_rfl) (MakesIf.yields (Or.inl ⟨by rfl, ?hy8⟩)) ?_
            case hy8 => (intro w hSw; (try dsimp only at hSw); go_simp; try (with_reducible rfl))
            try simp only [Act.put, List.setIfInBounds_toArray, List.set_cons_zero, List.set_cons_succ]
            refine gtake (i := 4) (v := ?v9) rfl (by kernel_rfl) (by kernel_rfl) (by kernel_rfl) (MakesIf.yields (Or.inl ⟨by rfl, ?hy9⟩)) ?_
            case hy9 => (intro w hSw; (try dsimp only at hSw); go_simp; try (with_reducible rfl))
            try simp only [Act.put, List.setIfInBounds_toArray, List.set_cons_zero, List.set_cons_succ]
            refine gtake (i := 5) (v := ?v10) rfl (by kernel_rfl) (by kernel_rfl) (by kernel_rfl) (MakesIf.yields (Or.inl ⟨by rfl, ?hy10⟩)) ?_
            case hy10 => (intro w hSw; (try dsimp only at hSw); go_simp; try (with_reducible rfl))
            try simp only [Act.put, List.setIfInBounds_toArray, List.set_cons_zero, List.set_cons_succ]
            refine gtake (i := 6) (v := ?v11) rfl (by kernel_rfl) (by kernel_rfl) (by kernel_rfl) (MakesIf.yields (Or.inl ⟨by rfl, ?hy11⟩)) ?_
            case hy11 => (intro w hSw; (try dsimp only at hSw); go_simp; try (with_reducible rfl))
            try simp only [Act.put, List.setIfInBounds_toArray, List.set_cons_zero, List.set_cons_succ]
            refine gtake (i := 7) (v := ?v12) rfl (by kernel_rfl) (by kernel_rfl) (by kernel_rfl) (MakesIf.yields (Or.inl ⟨by rfl, ?hy12⟩)) ?_
            case hy12 => (intro w hSw; (try dsimp only at hSw); go_simp; try (with_reducible rfl))
            try simp only [Act.put, List.setIfInBounds_toArray, List.set_cons_zero, List.set_cons_succ]
            refine gtake (i := 8) (v := .bool false) rfl (by kernel_rfl) (by kernel_rfl) (by kernel_rfl) (Or.inl ⟨by rfl, fun W hW => ?_⟩) ?_
            · go_simp; exact HC1.out W
            try simp only [Act.put, List.setIfInBounds_toArray, List.set_cons_zero, List.set_cons_succ]
            refine gtake (i := 9) (v := ?v13) rfl (by kernel_rfl) (by kernel_rfl) (by kernel_rfl) (MakesIf.yields (Or.inl ⟨by rfl, ?hy13⟩)) ?_
            case hy13 => (intro w hSw; (try dsimp only at hSw); go_simp; try (with_reducible rfl))
            try simp only [Act.put, List.setIfInBounds_toArray, List.set_cons_zero, List.set_cons_succ]
            refine gtake (i := 10) (v := ?v14) rfl (by kernel_rfl) (by kernel_rfl) (by kernel_rfl) (MakesIf.yields (Or.inl ⟨by rfl, ?hy14⟩)) ?_
            case hy14 => (intro w hSw; (try dsimp only at hSw); go_simp; try (with_reducible rfl))
            try simp only [Act.put, List.setIfInBounds_toArray, List.set_cons_zero, List.set_cons_succ]
            refine gtake (i := 11) (v := undef) rfl (by kernel_rfl) (by kernel_rfl) (by kernel_rfl) (Or.inr ⟨by rfl, rfl⟩) ?_
            try simp only [Act.put, List.setIfInBounds_toArray, List.set_cons_zero, List.set_cons_succ]
            refine gtake (i := 12) (v := undef) rfl (by kernel_rfl) (by kernel_rfl) (by kernel_rfl) (Or.inr ⟨by rfl, rfl⟩) ?_
            try simp only [Act.put, List.setIfInBounds_toArray, List.set_cons_zero, List.set_cons_succ]
            refine gtake (i := 13) (v := undef) rfl (by kernel_rfl) (by kernel_rfl) (by kernel_rfl) (Or.inr ⟨by rfl, rfl⟩) ?_
            try simp only [Act.put, List.setIfInBounds_toArray, List.set_cons_zero, List.set_cons_succ]
            refine gtake (i := 14) (v := undef) rfl (by kernel_rfl) (by kernel_rfl) (by kernel_rfl) (Or.inr ⟨by rfl, rfl⟩) ?_
            try simp only [Act.put, List.setIfInBounds_toArray, List.set_cons_zero, List.set_cons_succ]
            refine gtake (i := 15) (v := undef) rfl (by kernel_rfl) (by kernel_rfl) (by kernel_rfl) (Or.inr ⟨by rfl, rfl⟩) ?_
            try simp only [Act.put, List.setIfInBounds_toArray, List.set_cons_zero, List.set_cons_succ]
            refine gtake (i := 16) (v := undef) rfl (by kernel_rfl) (by kernel_rfl) (by kernel_rfl) (Or.inr ⟨by rfl, rfl⟩) ?_
            try simp only [Act.put, List.setIfInBounds_toArray, List.set_cons_zero, List.set_cons_succ]
            refine gtake (i := 17) (v := undef) rfl (by kernel_rfl) (by kernel_rfl) (by kernel_rfl) (Or.inr ⟨by rfl, rfl⟩) ?_
            try simp only [Act.put, List.setIfInBounds_toArray, List.set_cons_zero, List.set_cons_succ]
            refine gtake (i := 18) (v := undef) rfl (by kernel_rfl) (by kernel_rfl) (by kernel_rfl) (Or.inr ⟨by rfl, rfl⟩) ?_
            try simp only [Act.put, List.setIfInBounds_toArray, List.set_cons_zero, List.set_cons_succ]
            refine gtake (i := 19) (v := undef) rfl (by kernel_rfl) (by kernel_rfl) (by kernel_rfl) (Or.inr ⟨by rfl, rfl⟩) ?_
            try simp only [Act.put, List.setIfInBounds_toArray, List.set_cons_zero, List.set_cons_succ]
            refine gtake (i := 20) (v := undef) rfl (by kernel_rfl) (by kernel_rfl) (by kernel_rfl) (Or.inr ⟨by rfl, rfl⟩) ?_
            try simp only [Act.put, List.setIfInBounds_toArray, List.set_cons_zero, List.set_cons_succ]
            refine gtake (i := 21) (v := ?v15) rfl (by kernel_rfl) (by kernel_rfl) (by kernel_rfl) (MakesIf.yields (Or.inl ⟨by rfl, ?hy15⟩)) ?_
            case hy15 => (intro w hSw; (try dsimp only at hSw); go_simp; try (with_reducible rfl))
            try simp only [Act.put, List.setIfInBounds_toArray, List.set_cons_zero, List.set_cons_succ]
            refine gtake (i := 22) (v := ?v16) rfl (by kernel_rfl) (by kernel_rfl) (by kernel_rfl) (MakesIf.yields (Or.inl ⟨by rfl, ?hy16⟩)) ?_
            case hy16 => (intro w hSw; (try dsimp only at hSw); go_simp; try (with_reducible rfl))
            try simp only [Act.put, List.setIfInBounds_toArray, List.set_cons_zero, List.set_cons_succ]
            refine gtake (i := 23) (v := ?v17) rfl (by kernel_rfl) (by kernel_rfl) (by kernel_rfl) (MakesIf.yields (Or.inl ⟨by rfl, ?hy17⟩)) ?_
            case hy17 => (intro w hSw; (try dsimp only at hSw); go_simp; try (with_reducible rfl))
            try simp only [Act.put, List.setIfInBounds_toArray, List.set_cons_zero, List.set_cons_succ]
            refine gdone (by kernel_rfl) (fun w' hT => ?_)
            refine NoPanic.normal ?_
            have HF := Lib.hid (HNX.out _ hT _ HV.out)
            clear hT
            go_wp2_with fail
            exact ⟨⟨i + 1, by go_num, HF.out⟩, by simp [intOf]; omega⟩
          · rw [hi1] at HC1
            have HV := Lib.hid (show oneTo c x0 y0 x1 y1 (i + 1) = (atI c i == at2 c x0 y0) from by rw [HS.out, ho, hi1]; simp; rfl)
            clear ho hi1
            go_upto_region 5 with fail
            refine wp_region_noPanic ?_
            refine wp_region_held_drew (S := fun _ => True) (by kernel_rfl) ?_ (fun _ => ?_)
            · trivial
            refine GG.sound (S0 := (fun W' => Below Wi.heap.size Wi W' ∧ W'.cell? ⟨w.heap.size, 0, none⟩ = some (.int .i64 c.wide) ∧ W'.cell? ⟨w.heap.size, 1, none⟩ = some (.int .i64 c.high) ∧ W'.cell? ⟨w.heap.size, 2, none⟩ = some (.slice (some ⟨b, off, none⟩) c.piece.length c.c) ∧ W'.cell? ⟨b, off + i, none⟩ = some (.int .i64 (atI c i)))) _ (fun W' => Below Wi.heap.size Wi W') _ _ (fun W W' h hb => h.trans (hb.mono h.size)) (fun W' h => H3.out W' h) ?_ _ ((Below.refl _ _).drew)
            refine gtake (i := 0) (v := ?v18) rfl (by kernel_rfl) (by kernel_rfl) (by kernel_rfl) (MakesIf.yields (Or.inl ⟨by rfl, ?hy18⟩)) ?_
            case hy18 => (intro w hSw; (try dsimp only at hSw); go_simp; try (with_reducible rfl))
            try simp only [Act.put, List.setIfInBounds_toArray, List.set_cons_zero, List.set_cons_succ]
            refine gtake (i := 1) (v := ?v19) rfl (by kernel_rfl) (by kernel_rfl) (by kernel_rfl) (MakesIf.yields (Or.inl ⟨by rfl, ?hy19⟩)) ?_
            case hy19 => (intro w hSw; (try dsimp only at hSw); go_simp; try (with_reducible rfl))
            try simp only [Act.put, List.setIfInBounds_toArray, List.set_cons_zero, List.set_cons_succ]
            refine gtake (i := 2) (v := ?v20) rfl (by kernel_rfl) (by kernel_rfl) (by kernel_rfl) (MakesIf.yields (Or.inl ⟨by rfl, ?hy20⟩)) ?_
            case hy20 => (intro w hSw; (try dsimp only at hSw); go_simp; try (with_reducible rfl))
            try simp only [Act.put, List.setIfInBounds_toArray, List.set_cons_zero, List.set_cons_succ]
            refine gtake (i := 3) (v := ?v21) rfl (by kernel_rfl) (by kernel_rfl) (by kernel_rfl) (MakesIf.yields (Or.inl ⟨by rfl, ?hy21⟩)) ?_
            case hy21 => (intro w hSw; (try dsimp only at hSw); go_simp; try (with_reducible rfl))
            try simp only [Act.put, List.setIfInBounds_toArray, List.set_cons_zero, List.set_cons_succ]
            refine gtake (i := 4) (v := ?v22) rfl (by kernel_rfl) (by kernel_rfl) (by kernel_rfl) (MakesIf.yields (Or.inl ⟨by rfl, ?hy22⟩)) ?_
            case hy22 => (intro w hSw; (try dsimp only at hSw); go_simp; try (with_reducible rfl))
            try simp only [Act.put, List.setIfInBounds_toArray, List.set_cons_zero, List.set_cons_succ]
            refine gtake (i := 5) (v := ?v23) rfl (by kernel_rfl) (by kernel_rfl) (by kernel_rfl) (MakesIf.yields (Or.inl ⟨by rfl, ?hy23⟩)) ?_
            case hy23 => (intro w hSw; (try dsimp only at hSw); go_simp; try (with_reducible rfl))
            try simp only [Act.put, List.setIfInBounds_toArray, List.set_cons_zero, List.set_cons_succ]
            refine gtake (i := 6) (v := ?v24) rfl (by kernel_rfl) (by kernel_rfl) (by kernel_rfl) (MakesIf.yields (Or.inl ⟨by rfl, ?hy24⟩)) ?_
            case hy24 => (intro w hSw; (try dsimp only at hSw); go_simp; try (with_reducible rfl))
            try simp only [Act.put, List.setIfInBounds_toArray, List.set_cons_zero, List.set_cons_succ]
            refine gtake (i := 7) (v := ?v25) rfl (by kernel_rfl) (by kernel_rfl) (by kernel_rfl) (MakesIf.yields (Or.inl ⟨by rfl, ?hy25⟩)) ?_
            case hy25 => (intro w hSw; (try dsimp only at hSw); go_simp; try (with_reducible rfl))
            try simp only [Act.put, List.setIfInBounds_toArray, List.set_cons_zero, List.set_cons_succ]
            refine gtake (i := 8) (v := .bool true) rfl (by kernel_rfl) (by kernel_rfl) (by kernel_rfl) (Or.inl ⟨by rfl, fun W hW => ?_⟩) ?_
            · go_simp; exact HC1.out W
            try simp only [Act.put, List.setIfInBounds_toArray, List.set_cons_zero, List.set_cons_succ]
            refine gtake (i := 9) (v := ?v26) rfl (by kernel_rfl) (by kernel_rfl) (by kernel_rfl) (MakesIf.yields (Or.inl ⟨by rfl, ?hy26⟩)) ?_
            case hy26 => (intro w hSw; (try dsimp only at hSw); go_simp; try (with_reducible rfl))
            try simp only [Act.put, List.setIfInBounds_toArray, List.set_cons_zero, List.set_cons_succ]
            refine gtake (i := 10) (v := ?v27) rfl (by kernel_rfl) (by kernel_rfl) (by kernel_rfl) (MakesIf.yields (Or.inl ⟨by rfl, ?hy27⟩)) ?_
            case hy27 => (intro w hSw; (try dsimp only at hSw); go_simp; try (with_reducible rfl))
            try simp only [Act.put, List.setIfInBounds_toArray, List.set_cons_zero, List.set_cons_succ]
            refine gtake (i := 11) (v := ?v28) rfl (by kernel_rfl) (by kernel_rfl) (by kernel_rfl) (MakesIf.yields (Or.inl ⟨by rfl, ?hy28⟩)) ?_
            case hy28 => (intro w hSw; (try dsimp only at hSw); go_simp; try (with_reducible rfl))
            try simp only [Act.put, List.setIfInBounds_toArray, List.set_cons_zero, List.set_cons_succ]
            refine gtake (i := 12) (v := ?v29) rfl (by kernel_rfl) (by kernel_rfl) (by kernel_rfl) (MakesIf.yields (Or.inl ⟨by rfl, ?hy29⟩)) ?_
            case hy29 => (intro w hSw; (try dsimp only at hSw); go_simp; try (with_reducible rfl))
            try simp only [Act.put, List.setIfInBounds_toArray, List.set_cons_zero, List.set_cons_succ]
            refine gtake (i := 13) (v := ?v30) rfl (by kernel_rfl) (by kernel_rfl) (by kernel_rfl) (MakesIf.yields (Or.inl ⟨by rfl, ?hy30⟩)) ?_
            case hy30 => (intro w hSw; (try dsimp only at hSw); go_simp; try (with_reducible rfl))
            try simp only [Act.put, List.setIfInBounds_toArray, List.set_cons_zero, List.set_cons_succ]
            refine gtake (i := 14) (v := ?v31) rfl (by kernel_rfl) (by kernel_rfl) (by kernel_rfl) (MakesIf.yields (Or.inl ⟨by rfl, ?hy31⟩)) ?_
            case hy31 => (intro w hSw; (try dsimp only at hSw); go_simp; try (with_reducible rfl))
            try simp only [Act.put, List.setIfInBounds_toArray, List.set_cons_zero, List.set_cons_succ]
            refine gtake (i := 15) (v := ?v32) rfl (by kernel_rfl) (by kernel_rfl) (by kernel_rfl) (MakesIf.yields (Or.inl ⟨by rfl, ?hy32⟩)) ?_
            case hy32 => (intro w hSw; (try dsimp only at hSw); go_simp; try (with_reducible rfl))
            try simp only [Act.put, List.setIfInBounds_toArray, List.set_cons_zero, List.set_cons_succ]
            refine gtake (i := 16) (v := ?v33) rfl (by kernel_rfl) (by kernel_rfl) (by kernel_rfl) (MakesIf.yields (Or.inl ⟨by rfl, ?hy33⟩)) ?_
            case hy33 => (intro w hSw; (try dsimp only at hSw); go_simp; try (with_reducible rfl))
            try simp only [Act.put, List.setIfInBounds_toArray, List.set_cons_zero, List.set_cons_succ]
            refine gtake (i := 17) (v := ?v34) rfl (by kernel_rfl) (by kernel_rfl) (by kernel_rfl) (MakesIf.yields (Or.inl ⟨by rfl, ?hy34⟩)) ?_
            case hy34 => (intro w hSw; (try dsimp only at hSw); go_simp; try (with_reducible rfl))
            try simp only [Act.put, List.setIfInBounds_toArray, List.set_cons_zero, List.set_cons_succ]
            refine gtake (i := 18) (v := ?v35) rfl (by kernel_rfl) (by kernel_rfl) (by kernel_rfl) (MakesIf.yields (Or.inl ⟨by rfl, ?hy35⟩)) ?_
            case hy35 => (intro w hSw; (try dsimp only at hSw); go_simp; try (with_reducible rfl))
            try simp only [Act.put, List.setIfInBounds_toArray, List.set_cons_zero, List.set_cons_succ]
            refine gtake (i := 19) (v := .int .i64 (at2 c x0 y0)) rfl (by kernel_rfl) (by kernel_rfl) (by kernel_rfl) (Or.inl ⟨by rfl, fun W hW => ?_⟩) ?_
            · go_simp; exact HC2.out W hW.1
            try simp only [Act.put, List.setIfInBounds_toArray, List.set_cons_zero, List.set_cons_succ]
            refine gtake (i := 20) (v := ?v36) rfl (by kernel_rfl) (by kernel_rfl) (by kernel_rfl) (MakesIf.yields (Or.inl ⟨by rfl, ?hy36⟩)) ?_
            case hy36 => (intro w hSw; (try dsimp only at hSw); go_simp; try (with_reducible rfl))
            try simp only [Act.put, List.setIfInBounds_toArray, List.set_cons_zero, List.set_cons_succ]
            refine gtake (i := 21) (v := ?v37) rfl (by kernel_rfl) (by kernel_rfl) (by kernel_rfl) (MakesIf.yields (Or.inl ⟨by rfl, ?hy37⟩)) ?_
            case hy37 => (intro w hSw; (try dsimp only at hSw); go_simp; try (with_reducible rfl))
            try simp only [Act.put, List.setIfInBounds_toArray, List.set_cons_zero, List.set_cons_succ]
            refine gtake (i := 22) (v := ?v38) rfl (by kernel_rfl) (by kernel_rfl) (by kernel_rfl) (MakesIf.yields (Or.inl ⟨by rfl, ?hy38⟩)) ?_
            case hy38 => (intro w hSw; (try dsimp only at hSw); go_simp; try (with_reducible rfl))
            try simp only [Act.put, List.setIfInBounds_toArray, List.set_cons_zero, List.set_cons_succ]
            refine gtake (i := 23) (v := ?v39) rfl (by kernel_rfl) (by kernel_rfl) (by kernel_rfl) (MakesIf.yields (Or.inl ⟨by rfl, ?hy39⟩)) ?_
            case hy39 => (intro w hSw; (try dsimp only at hSw); go_simp; try (with_reducible rfl))
            try simp only [Act.put, List.setIfInBounds_toArray, List.set_cons_zero, List.set_cons_succ]
            refine gdone (by kernel_rfl) (fun w' hT => ?_)
            refine NoPanic.normal ?_
            have HF := Lib.hid (HNX.out _ hT _ HV.out)
            clear hT
            go_wp2_with fail
            exact ⟨⟨i + 1, by go_num, HF.out⟩, by simp [intOf]; omega⟩
      · obtain rfl : i = c.piece.length := by omega
        have hone : oneB c x0 y0 x1 y1 = oneTo c x0 y0 x1 y1 c.piece.length := rfl
        clear h1 c2
        cases ho : oneTo c x0 y0 x1 y1 c.piece.length
        · have HON := Lib.hid (show oneB c x0 y0 x1 y1 = false from by rw [hone, ho])
          clear hone ho
          have hw1 : IntKind.i64.wrap (y0 + 1) = y0 + 1 := IntWalk.i64_in _ (by omega)
          obtain ⟨i0, hi0, hz0, hz1, hz2⟩ := info_parts line_info
          have HBi := Lib.hid H1.out.b
          have c2 := (HX.out.next H1.out.b).c 2 _ rfl
          clear H1 c0 c1
          go_wp2_with fail
          clear c2
          go_loopw [14] (fun yv wr => ∃ j : Nat, yv = .int .i64 (y0 + 1 + (j : Int)) ∧ RW2 V wr y1 y0 (fun t => goesB c x0 y0 x1 y1 false (y0 + 1 + (t : Int))) j) (fun yv _ => (y1 - intOf yv).toNat)
          case atStart => exact ⟨0, by simp, fun t ht => by omega, .inr rfl, HBi.out⟩
          case round =>
            obtain ⟨j, rfl, h2⟩ := hrel
            generalize wr = Wj at *
            have HRJ := Lib.hid h2
            have c0 := (HX.out.next h2.b).c 0 _ rfl
            have c1 := (HX.out.next h2.b).c 1 _ rfl
            have c2 := (HX.out.next h2.b).c 2 _ rfl
            have HBj := Lib.hid (HBW.out.trans (h2.b.mono HBW.out.size))
            have hjb := h2.hj
            clear h2
            by_cases hlt : y0 + 1 + (j : Int) < y1
            · obtain ⟨z, hz⟩ : ∃ z : Int, z = y0 + 1 + (j : Int) := ⟨_, rfl⟩
              have HZ := Lib.hid hz
              have hzb : y0 < z ∧ z < y1 := by omega
              have hw2 : IntKind.i64.wrap (z + 1) = z + 1 := IntWalk.i64_in _ (by omega)
              rw [← hz] at hlt ⊢
              clear hz hjb
              go_wp2_with fail
              refine (Goes_any c x0 y0 x1 y1 false z Wj OK.out (by omega) (by omega) (HRV.out _ HBj.out)).mono ?_
              rintro e Wg ⟨rfl, hb3⟩
              have HBg := Lib.hid (HBj.out.trans (hb3.mono HBj.out.size))
              have HVg := Lib.hid (HRJ.out.b.trans (hb3.mono HRJ.out.b.size))
              clear hb3 c0 c1 c2
              have c0 := (HX.out.next HVg.out).c 0 _ rfl
              have c1 := (HX.out.next HVg.out).c 1 _ rfl
              have c2 := (HX.out.next HVg.out).c 2 _ rfl
              cases hg : goesB c x0 y0 x1 y1 false z
              · have HF := Lib.hid (show RW2 V Wg y1 y0 (fun t => goesB c x0 y0 x1 y1 false (y0 + 1 + (t : Int))) (j + 1) from ⟨fun t ht => by
                  by_cases e : t = j
                  · subst e; rw [← HZ.out]; exact hg
                  · exact HRJ.out.al t (by omega), .inl (by have := HZ.out; omega), HVg.out⟩)
                have HZ1 := Lib.hid (show z + 1 = y0 + 1 + ((j + 1 : Nat) : Int) from by have := HZ.out; omega)
                clear hg
                go_wp2_with fail
                go_roundw
                case rel => exact ⟨j + 1, by rw [HZ1.out], HF.out⟩
                case measure => simp [intOf]; omega
              · have HSW := Lib.hid (saw_row (n := n) HON.out (j := j) (by have := HZ.out; omega) (by rw [← HZ.out]; exact hg) HRJ.out.al)
                rw [← HZ.out] at HSW
                obtain ⟨hra, hrb⟩ := HRC.out.row hzb
                clear hg
                go_wp2_with fail
                refine (IH.out x0 y0 x1 z Wg HBg.out hra).mono ?_
                rintro e Wa ⟨Aa, ca, rfl, hata, hba⟩
                have hla := hlines.out x0 y0 x1 z (by omega) (by omega)
                have hlb := hlines.out x0 z x1 y1 (by omega) (by omega)
                have hm1 := Int.mul_le_mul (show x1 - x0 ≤ 12 by omega) (show z - y0 ≤ 12 by omega) (by omega) (by omega)
                have hm2 := Int.mul_le_mul (show x1 - x0 ≤ 12 by omega) (show y1 - z ≤ 12 by omega) (by omega) (by omega)
                have HVa := Lib.hid (HVg.out.trans (hba.mono HVg.out.size))
                have HBa := Lib.hid (HBg.out.trans (hba.mono HBg.out.size))
                have HAT := Lib.hid hata
                generalize sawF c n x0 y0 x1 z = ra at *
                obtain ⟨la, ba⟩ := ra
                clear c0 c1 c2 hba hata
                have c0 := (HX.out.next HVa.out).c 0 _ rfl
                have c1 := (HX.out.next HVa.out).c 1 _ rfl
                have c2 := (HX.out.next HVa.out).c 2 _ rfl
                dsimp only at HAT hla ⊢
                go_wp2_with fail
                refine (IH.out x0 z x1 y1 Wa HBa.out hrb).mono ?_
                rintro e Wb ⟨Ab, cb, rfl, hatb, hbb⟩
                have HVb := Lib.hid (HVa.out.trans (hbb.mono HVa.out.size))
                have HATa := Lib.hid (HAT.out.next hbb)
                have HATb := Lib.hid hatb
                generalize sawF c n x0 z x1 y1 = rb at *
                obtain ⟨lb, bb⟩ := rb
                clear c0 c1 c2 hbb hatb hra hrb HAT
                dsimp only at HATb hlb ⊢
                have hown0 := World.ownsRow_lit (base := Wb.heap.size) (e := 61) (size := 4) Wb #[.bool false, .int .i64 z, .int .i64 x0, .int .i64 x1] 1 (Nat.le_refl _) (by decide) rfl
                have hn0 := nxA Wb (.cells #[.bool false, .int .i64 z, .int .i64 x0, .int .i64 x1] 61)
                have HA1 := Lib.hid (HATa.out.next hn0)
                have HA2 := Lib.hid (HATb.out.next hn0)
                have hns : (Wb.alloc (.cells #[.bool false, .int .i64 z, .int .i64 x0, .int .i64 x1] 61)).heap.size = Wb.heap.size + 1 := World.size_alloc _ _
                have HN0 := Lib.hid hn0
                clear hn0
                cases ba
                all_goals
                  go_wp2_with (first | (at_builtin; refine wpList_append_list rfl (.tmp 91) (.tmp 92) 42 rfl Wb.heap.size 61 i0 (.agg #[.bool false, .int .i64 0, .int .i64 0, .int .i64 0]) 4 32 Try.underlying42 hi0 hz0 hz1 hz2 rfl (by decide) lineC_len line_one _ 1 _ rfl hown0 (Nat.le_refl _) Aa la ca _ rfl HA1.out (by unfold maxLen; omega) (by omega) (by simp) ?_; intro v1 w1 hown1 hgrow1; have hb1 := HN0.out.grown hgrow1 HN0.out.size (fun k e => by have := hown0.lt k e; omega)) | (at_builtin; go_loud (refine wpList_append_list rfl (.tmp 93) (.tmp 94) 42 rfl Wb.heap.size 61 i0 (.agg #[.bool false, .int .i64 0, .int .i64 0, .int .i64 0]) 4 32 Try.underlying42 hi0 hz0 hz1 hz2 rfl (by decide) lineC_len line_one _ _ _ rfl hown1 (by omega) Ab lb cb Wb.heap.size rfl (HATb.out.below hb1) (by unfold maxLen; omega) (by omega) hb1.size ?_); intro v2 w2 hown2 hgrow2; have hb2 := Lib.hid (hb1.grown hgrow2 hb1.size (fun k e => by have := hown1.lt k e; omega)); have HOWN := Lib.hid hown2; clear hown2 hgrow2 hb1 hgrow1 hown1 hown0; obtain ⟨Ac, cc, rfl, -⟩ := own_form HOWN.out))
                  go_ret2
                  have hl : ((false, z, x0, x1) :: (la ++ lb) : List Ln).length = 1 + la.length + lb.length := by rw [List.length_cons, List.length_append]; omega
                  have hf : ((false, z, x0, x1) :: (la ++ lb) : List Ln).flatMap lineC = (#[.bool false, .int .i64 z, .int .i64 x0, .int .i64 x1] : Array Value).toList ++ la.flatMap lineC ++ lb.flatMap lineC := by rw [List.flatMap_cons, List.flatMap_append, List.append_assoc]; rfl
                  obtain ⟨A2, cc2, e1, h8⟩ := own_at lineC_len (by omega) (by rw [hl, hf]; exact HOWN.out)
                  injection e1 with e1
                  rw [← e1] at h8
                  refine ⟨Ac, cc, ?_, by rw [HSW.out]; exact h8, HB.out.trans ((HVb.out.trans (hb2.out.mono HVb.out.size)).mono HB.out.size)⟩
                  rw [HSW.out]
                  unfold joinL
                  dsimp only
                  rw [hl]; rfl
            · have HROW := Lib.hid (show ∀ t : Nat, y0 + 1 + (t : Int) < y1 → goesB c x0 y0 x1 y1 false (y0 + 1 + (t : Int)) = false from fun t ht => HRJ.out.al t (by omega))
              have HVj := Lib.hid HRJ.out.b
              have hw3 : IntKind.i64.wrap (x0 + 1) = x0 + 1 := IntWalk.i64_in _ (by omega)
              clear c0 c1 c2 HRJ hjb
              go_wp2_with fail
              go_loopw [19] (fun xv wr => ∃ j : Nat, xv = .int .i64 (x0 + 1 + (j : Int)) ∧ RW2 V wr x1 x0 (fun t => goesB c x0 y0 x1 y1 true (x0 + 1 + (t : Int))) j) (fun xv _ => (x1 - intOf xv).toNat)
              case atStart => exact ⟨0, by simp, fun t ht => by omega, .inr rfl, HVj.out⟩
              case round =>
                clear HBj HVj hlt
                obtain ⟨j, rfl, h2⟩ := hrel
                generalize wr = Wj at *
                have HRJ := Lib.hid h2
                have c0 := (HX.out.next h2.b).c 0 _ rfl
                have c1 := (HX.out.next h2.b).c 1 _ rfl
                have c2 := (HX.out.next h2.b).c 2 _ rfl
                have HBj := Lib.hid (HBW.out.trans (h2.b.mono HBW.out.size))
                have hjb := h2.hj
                clear h2
                by_cases hlt : x0 + 1 + (j : Int) < x1
                · obtain ⟨z, hz⟩ : ∃ z : Int, z = x0 + 1 + (j : Int) := ⟨_, rfl⟩
                  have HZ := Lib.hid hz
                  have hzb : x0 < z ∧ z < x1 := by omega
                  have hw2 : IntKind.i64.wrap (z + 1) = z + 1 := IntWalk.i64_in _ (by omega)
                  rw [← hz] at hlt ⊢
                  clear hz hjb
                  go_wp2_with fail
                  refine (Goes_any c x0 y0 x1 y1 true z Wj OK.out (by omega) (by omega) (HRV.out _ HBj.out)).mono ?_
                  rintro e Wg ⟨rfl, hb3⟩
                  have HBg := Lib.hid (HBj.out.trans (hb3.mono HBj.out.size))
                  have HVg := Lib.hid (HRJ.out.b.trans (hb3.mono HRJ.out.b.size))
                  clear hb3 c0 c1 c2
                  have c0 := (HX.out.next HVg.out).c 0 _ rfl
                  have c1 := (HX.out.next HVg.out).c 1 _ rfl
                  have c2 := (HX.out.next HVg.out).c 2 _ rfl
                  cases hg : goesB c x0 y0 x1 y1 true z
                  · have HF := Lib.hid (show RW2 V Wg x1 x0 (fun t => goesB c x0 y0 x1 y1 true (x0 + 1 + (t : Int))) (j + 1) from ⟨fun t ht => by
                      by_cases e : t = j
                      · subst e; rw [← HZ.out]; exact hg
                      · exact HRJ.out.al t (by omega), .inl (by have := HZ.out; omega), HVg.out⟩)
                    have HZ1 := Lib.hid (show z + 1 = x0 + 1 + ((j + 1 : Nat) : Int) from by have := HZ.out; omega)
                    clear hg
                    go_wp2_with fail
                    go_roundw
                    case rel => exact ⟨j + 1, by rw [HZ1.out], HF.out⟩
                    case measure => simp [intOf]; omega
                  · have HSW := Lib.hid (saw_col (n := n) HON.out HROW.out (j := j) (by have := HZ.out; omega) (by rw [← HZ.out]; exact hg) HRJ.out.al)
                    rw [← HZ.out] at HSW
                    obtain ⟨hra, hrb⟩ := HRC.out.col hzb
                    clear hg
                    go_wp2_with fail
                    refine (IH.out x0 y0 z y1 Wg HBg.out hra).mono ?_
                    rintro e Wa ⟨Aa, ca, rfl, hata, hba⟩
                    have hla := hlines.out x0 y0 z y1 (by omega) (by omega)
                    have hlb := hlines.out z y0 x1 y1 (by omega) (by omega)
                    have hm1 := Int.mul_le_mul (show z - x0 ≤ 12 by omega) (show y1 - y0 ≤ 12 by omega) (by omega) (by omega)
                    have hm2 := Int.mul_le_mul (show x1 - z ≤ 12 by omega) (show y1 - y0 ≤ 12 by omega) (by omega) (by omega)
                    have HVa := Lib.hid (HVg.out.trans (hba.mono HVg.out.size))
                    have HBa := Lib.hid (HBg.out.trans (hba.mono HBg.out.size))
                    have HAT := Lib.hid hata
                    generalize sawF c n x0 y0 z y1 = ra at *
                    obtain ⟨la, ba⟩ := ra
                    clear c0 c1 c2 hba hata
                    have c0 := (HX.out.next HVa.out).c 0 _ rfl
                    have c1 := (HX.out.next HVa.out).c 1 _ rfl
                    have c2 := (HX.out.next HVa.out).c 2 _ rfl
                    dsimp only at HAT hla ⊢
                    go_wp2_with fail
                    refine (IH.out z y0 x1 y1 Wa HBa.out hrb).mono ?_
                    rintro e Wb ⟨Ab, cb, rfl, hatb, hbb⟩
                    have HVb := Lib.hid (HVa.out.trans (hbb.mono HVa.out.size))
                    have HATa := Lib.hid (HAT.out.next hbb)
                    have HATb := Lib.hid hatb
                    generalize sawF c n z y0 x1 y1 = rb at *
                    obtain ⟨lb, bb⟩ := rb
                    clear c0 c1 c2 hbb hatb hra hrb HAT
                    dsimp only at HATb hlb ⊢
                    have hown0 := World.ownsRow_lit (base := Wb.heap.size) (e := 61) (size := 4) Wb #[.bool true, .int .i64 z, .int .i64 y0, .int .i64 y1] 1 (Nat.le_refl _) (by decide) rfl
                    have hn0 := nxA Wb (.cells #[.bool true, .int .i64 z, .int .i64 y0, .int .i64 y1] 61)
                    have HA1 := Lib.hid (HATa.out.next hn0)
                    have HA2 := Lib.hid (HATb.out.next hn0)
                    have hns : (Wb.alloc (.cells #[.bool true, .int .i64 z, .int .i64 y0, .int .i64 y1] 61)).heap.size = Wb.heap.size + 1 := World.size_alloc _ _
                    have HN0 := Lib.hid hn0
                    clear hn0
                    cases ba
                    all_goals
                      go_wp2_with (first | (at_builtin; refine wpList_append_list rfl (.tmp 136) (.tmp 137) 42 rfl Wb.heap.size 61 i0 (.agg #[.bool false, .int .i64 0, .int .i64 0, .int .i64 0]) 4 32 Try.underlying42 hi0 hz0 hz1 hz2 rfl (by decide) lineC_len line_one _ 1 _ rfl hown0 (Nat.le_refl _) Aa la ca _ rfl HA1.out (by unfold maxLen; omega) (by omega) (by simp) ?_; intro v1 w1 hown1 hgrow1; have hb1 := HN0.out.grown hgrow1 HN0.out.size (fun k e => by have := hown0.lt k e; omega)) | (at_builtin; go_loud (refine wpList_append_list rfl (.tmp 138) (.tmp 139) 42 rfl Wb.heap.size 61 i0 (.agg #[.bool false, .int .i64 0, .int .i64 0, .int .i64 0]) 4 32 Try.underlying42 hi0 hz0 hz1 hz2 rfl (by decide) lineC_len line_one _ _ _ rfl hown1 (by omega) Ab lb cb Wb.heap.size rfl (HATb.out.below hb1) (by unfold maxLen; omega) (by omega) hb1.size ?_); intro v2 w2 hown2 hgrow2; have hb2 := Lib.hid (hb1.grown hgrow2 hb1.size (fun k e => by have := hown1.lt k e; omega)); have HOWN := Lib.hid hown2; clear hown2 hgrow2 hb1 hgrow1 hown1 hown0; obtain ⟨Ac, cc, rfl, -⟩ := own_form HOWN.out))
                      go_ret2
                      have hl : ((true, z, y0, y1) :: (la ++ lb) : List Ln).length = 1 + la.length + lb.length := by rw [List.length_cons, List.length_append]; omega
                      have hf : ((true, z, y0, y1) :: (la ++ lb) : List Ln).flatMap lineC = (#[.bool true, .int .i64 z, .int .i64 y0, .int .i64 y1] : Array Value).toList ++ la.flatMap lineC ++ lb.flatMap lineC := by rw [List.flatMap_cons, List.flatMap_append, List.append_assoc]; rfl
                      obtain ⟨A2, cc2, e1, h8⟩ := own_at lineC_len (by omega) (by rw [hl, hf]; exact HOWN.out)
                      injection e1 with e1
                      rw [← e1] at h8
                      refine ⟨Ac, cc, ?_, by rw [HSW.out]; exact h8, HB.out.trans ((HVb.out.trans (hb2.out.mono HVb.out.size)).mono HB.out.size)⟩
                      rw [HSW.out]
                      unfold joinL
                      dsimp only
                      rw [hl]; rfl
                · have HCOL := Lib.hid (show ∀ t : Nat, x0 + 1 + (t : Int) < x1 → goesB c x0 y0 x1 y1 true (x0 + 1 + (t : Int)) = false from fun t ht => HRJ.out.al t (by omega))
                  have HVj := Lib.hid HRJ.out.b
                  have HSW := Lib.hid (saw_none (n := n) HON.out HROW.out HCOL.out)
                  clear c0 c1 c2 HRJ hjb
                  go_wp2_with fail
                  go_ret2
                  exact ⟨none, 0, by rw [HSW.out]; rfl, by rw [HSW.out]; exact At.nil, HB.out.trans (HVj.out.mono HB.out.size)⟩
        · have HON := Lib.hid (saw_one (n := n) (show oneB c x0 y0 x1 y1 = true from by rw [hone, ho]))
          clear hone ho
          have c2 := (HX.out.next H1.out.b).c 2 _ rfl
          go_wp2_with fail
          go_ret2
          exact ⟨none, 0, by rw [HON.out]; rfl, by rw [HON.out]; exact At.nil, HB.out.trans (H1.out.b.mono HB.out.size)⟩
end Go.Proofs.Ytjlicbdnppodgaa
