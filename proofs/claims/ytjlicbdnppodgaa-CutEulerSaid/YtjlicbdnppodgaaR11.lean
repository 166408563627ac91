import Derived.Test.YtjlicbdnppodgaaSwp
import Derived.Test.YtjlicbdnppodgaaL1
namespace Go.Proofs.Ytjlicbdnppodgaa
open Go.RowKit
/-! The reference: inside, Goes. -/
theorem quo_facts {c : Cut} (ok : OkC c) {i : Nat} (hi : i < c.piece.length) : Int.tmod (i : Int) c.wide = colI c i ∧ Int.tdiv (i : Int) c.wide = rowI c i ∧ (i : Int) % c.wide = colI c i ∧ (i : Int) / c.wide = rowI c i ∧ ¬ c.wide = 0 ∧ IntKind.i64.wrap (rowI c i) = rowI c i := by
  have hw := ok.w
  have h := ok.cell hi
  have hh := ok.h
  exact ⟨Int.tmod_eq_emod_of_nonneg (by omega), Int.tdiv_eq_ediv_of_nonneg (by omega), rfl, rfl, by omega, IntWalk.i64_in _ (by omega)⟩
set_option maxHeartbeats 1000000 in
theorem inside_any (c : Cut) (i : Nat) (x0 y0 x1 y1 : Int) (w : World) (ok : OkC c) (hi : i < c.piece.length) (hx : -100 ≤ x1 ∧ x1 ≤ 100) (hy : -100 ≤ y1 ∧ y1 ≤ 100) : Calls Try.prog 62 #[.agg #[.int .i64 c.wide, .int .i64 c.high, .slice c.A c.piece.length c.c], .int .i64 i, .int .i64 x0, .int .i64 y0, .int .i64 x1, .int .i64 y1] w (Ret (.bool (insR c i x0 y0 x1 y1)) w) := by
  obtain ⟨q1, q2, q3, q4, q5, q6⟩ := quo_facts ok hi
  have HX := Lib.hid (Bx.new w #[.int .i64 c.wide, .int .i64 c.high, .slice c.A c.piece.length c.c] 24)
  have HB := Lib.hid (nxA w (.cells #[.int .i64 c.wide, .int .i64 c.high, .slice c.A c.piece.length c.c] 24))
  have HI := Lib.hid (show insR c i x0 y0 x1 y1 = (inS (colI c i) x0 (x1 - 1) && inS (rowI c i) y0 (y1 - 1)) from rfl)
  have w1 : IntKind.i64.wrap (x1 - 1) = x1 - 1 := IntWalk.i64_in _ (by omega)
  have w2 : IntKind.i64.wrap (y1 - 1) = y1 - 1 := IntWalk.i64_in _ (by omega)
  clear ok hi
  go_enter Try.func62, Try.ntmps62
  go_upto_region 1 with fail
  generalize (w.alloc (.cells #[.int .i64 c.wide, .int .i64 c.high, .slice c.A c.piece.length c.c] 24)) = V at *
  have c0 := HX.out.c 0 _ rfl
  cases h1 : inS (colI c i) x0 (x1 - 1)
  · rw [h1, Bool.false_and] at HI
    go_wp2_with (go_at_call 61; (with_reducible refine (in_any _ _ _ _).mono ?_); rintro e w' ⟨rfl, rfl⟩)
    go_ret
    exact ⟨by rw [HI.out]; rfl, HB.out⟩
  · rw [h1, Bool.true_and] at HI
    go_wp2_with (go_at_call 61; (with_reducible refine (in_any _ _ _ _).mono ?_); rintro e w' ⟨rfl, rfl⟩)
    go_ret
    exact ⟨by rw [HI.out]; rfl, HB.out⟩
def goI (c : Cut) (x0 y0 x1 y1 : Int) (up : Bool) (at_ : Int) (i : Nat) : Bool := (List.range c.piece.length).all fun k => !meetB c x0 y0 x1 y1 up at_ i k
structure RG1 (c : Cut) (x0 y0 x1 y1 : Int) (up : Bool) (at_ : Int) (V W : World) (i : Nat) : Prop where
  hi : i ≤ c.piece.length
  al : ∀ j, j < i → goI c x0 y0 x1 y1 up at_ j = true
  b : Below V.heap.size V W
structure RG2 (c : Cut) (x0 y0 x1 y1 : Int) (up : Bool) (at_ : Int) (V W : World) (i k : Nat) : Prop where
  hk : k ≤ c.piece.length
  al : ∀ j, j < k → meetB c x0 y0 x1 y1 up at_ i j = false
  b : Below V.heap.size V W
theorem goes_no {c : Cut} {x0 y0 x1 y1 : Int} {up : Bool} {at_ : Int} {i k : Nat} (hi : i < c.piece.length) (hk : k < c.piece.length) (h : meetB c x0 y0 x1 y1 up at_ i k = true) : goesB c x0 y0 x1 y1 up at_ = false := by
  unfold goesB
  rw [List.all_eq_false]
  refine ⟨i, List.mem_range.2 hi, ?_⟩
  rw [Bool.not_eq_true, List.all_eq_false]
  exact ⟨k, List.mem_range.2 hk, by rw [h]; simp⟩
theorem goes_yes {c : Cut} {x0 y0 x1 y1 : Int} {up : Bool} {at_ : Int} (h : ∀ j, j < c.piece.length → goI c x0 y0 x1 y1 up at_ j = true) : goesB c x0 y0 x1 y1 up at_ = true := by
  unfold goesB
  rw [List.all_eq_true]
  exact fun i hi => h i (List.mem_range.1 hi)
theorem goI_yes {c : Cut} {x0 y0 x1 y1 : Int} {up : Bool} {at_ : Int} {i : Nat} (h : ∀ j, j < c.piece.length → meetB c x0 y0 x1 y1 up at_ i j = false) : goI c x0 y0 x1 y1 up at_ i = true := by
  unfold goI
  rw [List.all_eq_true]
  exact fun k hk => by rw [h k (List.mem_range.1 hk)]; rfl
set_option maxRecDepth 100000 in
set_option maxHeartbeats 8000000 in
theorem Goes_any (c : Cut) (x0 y0 x1 y1 : Int) (up : Bool) (at_ : Int) (w : World) (ok : OkC c) (hx : -100 ≤ x1 ∧ x1 ≤ 100) (hy : -100 ≤ y1 ∧ y1 ≤ 100) (hr : CutAt w w.heap.size c) :
    Calls Try.prog 35 #[.agg #[.int .i64 c.wide, .int .i64 c.high, .slice c.A c.piece.length c.c], .int .i64 x0, .int .i64 y0, .int .i64 x1, .int .i64 y1, .bool up, .int .i64 at_] w (Ret (.bool (goesB c x0 y0 x1 y1 up at_)) w) := by
  have HX := Lib.hid (Bx.new w #[.int .i64 c.wide, .int .i64 c.high, .slice c.A c.piece.length c.c] 24)
  have HB := Lib.hid (nxA w (.cells #[.int .i64 c.wide, .int .i64 c.high, .slice c.A c.piece.length c.c] 24))
  have HR := Lib.hid (hr.next HB.out)
  have OK := Lib.hid ok
  have hlen : c.piece.length ≤ 144 := by
    have := ok.w
    have := ok.h
    have := Int.mul_le_mul ok.w.2 ok.h.2 (show (0 : Int) ≤ c.high by omega) (show (0 : Int) ≤ 12 by omega)
    have := ok.len
    omega
  clear hr ok
  go_enter Try.func35, Try.ntmps35
  go_upto_region 1 with fail
  generalize (w.alloc (.cells #[.int .i64 c.wide, .int .i64 c.high, .slice c.A c.piece.length c.c] 24)) = V at *
  go_wp2_with fail
  go_loopw [15] (fun iv wr => ∃ i : Nat, iv = .int .i64 i ∧ RG1 c x0 y0 x1 y1 up at_ V wr i) (fun iv _ => c.piece.length - (intOf iv).toNat)
  case atStart => exact ⟨0, rfl, by omega, fun j hj => by omega, Below.refl _ _⟩
  case round =>
    obtain ⟨i, rfl, h1⟩ := hrel
    have H1 := Lib.hid h1
    have hi := h1.hi
    have c0 := (HX.out.next h1.b).c 0 _ rfl
    have c1 := (HX.out.next h1.b).c 1 _ rfl
    have c2 := (HX.out.next h1.b).c 2 _ rfl
    generalize wr = Wo at *
    clear h1
    by_cases hlt : i < c.piece.length
    · go_wp2_with fail
      go_loopw [16] (fun kv wr => ∃ k : Nat, kv = .int .i64 k ∧ RG2 c x0 y0 x1 y1 up at_ V wr i k) (fun kv _ => c.piece.length - (intOf kv).toNat)
      case atStart => exact ⟨0, rfl, by omega, fun j hj => by omega, H1.out.b⟩
      case round =>
        clear c0 c1 c2
        obtain ⟨k, rfl, h2⟩ := hrel
        have H2 := Lib.hid h2
        have hk := h2.hk
        have c0 := (HX.out.next h2.b).c 0 _ rfl
        have c1 := (HX.out.next h2.b).c 1 _ rfl
        have c2 := (HX.out.next h2.b).c 2 _ rfl
        generalize wr = Wi at *
        by_cases hlk : k < c.piece.length
        · obtain ⟨b, off, e, hbk, g0⟩ := int_at (HR.out.next h2.b).pa hlt
          obtain ⟨b', off', e', hbk', g1⟩ := int_at (HR.out.next h2.b).pa hlk
          rw [e] at e'
          injection e' with e'
          injection e' with e1 e2
          subst e1 e2
          replace g0 : Wi.cell? ⟨b, off + i, none⟩ = some (.int .i64 (atI c i)) := g0
          replace g1 : Wi.cell? ⟨b, off + k, none⟩ = some (.int .i64 (atI c k)) := g1
          rw [e] at c2
          have HE := Lib.hid e
          have HBX := Lib.hid h2.b
          have hc2 : Wi.cell? ⟨w.heap.size, 2, none⟩ = some (.slice c.A c.piece.length c.c) := by rw [HE.out]; exact c2
          have H3 := Lib.hid (show ∀ W' : World, Below Wi.heap.size Wi W' → Below Wi.heap.size Wi W' ∧ W'.cell? ⟨w.heap.size, 0, none⟩ = some (.int .i64 c.wide) ∧ W'.cell? ⟨w.heap.size, 1, none⟩ = some (.int .i64 c.high) ∧ W'.cell? ⟨w.heap.size, 2, none⟩ = some (.slice (some ⟨b, off, none⟩) c.piece.length c.c) ∧ W'.cell? ⟨b, off + i, none⟩ = some (.int .i64 (atI c i)) ∧ W'.cell? ⟨b, off + k, none⟩ = some (.int .i64 (atI c k)) from fun W' h => ⟨h, (h.cell (p := ⟨w.heap.size, 0, none⟩) (by have := (HX.out.next HBX.out).lt; exact this)).trans c0, (h.cell (p := ⟨w.heap.size, 1, none⟩) (by have := (HX.out.next HBX.out).lt; exact this)).trans c1, (h.cell (p := ⟨w.heap.size, 2, none⟩) (by have := (HX.out.next HBX.out).lt; exact this)).trans c2, (h.cell (p := ⟨b, off + i, none⟩) hbk).trans g0, (h.cell (p := ⟨b, off + k, none⟩) hbk).trans g1⟩)
          have HM := Lib.hid (show meetB c x0 y0 x1 y1 up at_ i k = (decide (atI c i = atI c k) && insR c i x0 y0 x1 y1 && insR c k x0 y0 x1 y1 && nearB c up at_ i && !nearB c up at_ k) from rfl)
          have HC1 := Lib.hid (show ∀ W' : World, Calls Try.prog 62 #[.agg #[.int .i64 c.wide, .int .i64 c.high, .slice (some ⟨b, off, none⟩) c.piece.length c.c], .int .i64 i, .int .i64 x0, .int .i64 y0, .int .i64 x1, .int .i64 y1] W' (Ret (.bool (insR c i x0 y0 x1 y1)) W') from fun W' => by rw [← HE.out]; exact inside_any c i x0 y0 x1 y1 W' OK.out hlt hx hy)
          have HC2 := Lib.hid (show ∀ W' : World, Calls Try.prog 62 #[.agg #[.int .i64 c.wide, .int .i64 c.high, .slice (some ⟨b, off, none⟩) c.piece.length c.c], .int .i64 k, .int .i64 x0, .int .i64 y0, .int .i64 x1, .int .i64 y1] W' (Ret (.bool (insR c k x0 y0 x1 y1)) W') from fun W' => by rw [← HE.out]; exact inside_any c k x0 y0 x1 y1 W' OK.out hlk hx hy)
          clear h2 e g0 g1 hc2
          have HNX := Lib.hid (fun (hm : meetB c x0 y0 x1 y1 up at_ i k = false) (W' : World) (h : Below Wi.heap.size Wi W') => (show RG2 c x0 y0 x1 y1 up at_ V W' i (k + 1) from ⟨by omega, fun j hj => by
            by_cases e : j = k
            · subst e; exact hm
            · exact H2.out.al j (by omega), HBX.out.trans (h.mono HBX.out.size)⟩))
          by_cases ha : atI c i = atI c k
          · have e1 : (atI c i == atI c k) = true := by simp [ha]
            have e2 : (atI c i != atI c k) = false := by simp [ha]
            rw [decide_eq_true ha, Bool.true_and] at HM
            clear ha
            cases hi1 : insR c i x0 y0 x1 y1
            · rw [hi1] at HC1
              have HMF := Lib.hid (show meetB c x0 y0 x1 y1 up at_ i k = false from by rw [HM.out, hi1]; simp)
              clear hi1
              go_upto_region 7 with fail
              refine wp_region_noPanic ?_
              refine wp_region_held_drew (S := fun _ => True) (by kernel_rfl) ?_ (fun _ => ?_)
              · trivial
              refine GG.sound (S0 := (fun W' => Below Wi.heap.size Wi W' ∧ W'.cell? ⟨w.heap.size, 0, none⟩ = some (.int .i64 c.wide) ∧ W'.cell? ⟨w.heap.size, 1, none⟩ = some (.int .i64 c.high) ∧ W'.cell? ⟨w.heap.size, 2, none⟩ = some (.slice (some ⟨b, off, none⟩) c.piece.length c.c) ∧ W'.cell? ⟨b, off + i, none⟩ = some (.int .i64 (atI c i)) ∧ W'.cell? ⟨b, off + k, none⟩ = some (.int .i64 (atI c k)))) _ (fun W' => Below Wi.heap.size Wi W') _ _ (fun W W' h hb => h.trans (hb.mono h.size)) (fun W' h => H3.out W' h) ?_ _ ((Below.refl _ _).drew)
              refine gtake (i := 0) (v := ?v1) rfl (by kernel_rfl) (by kernel_rfl) (by kernel_rfl) (MakesIf.yields (Or.inl ⟨by rfl, ?hy1⟩)) ?_
              case hy1 => (intro w hSw; (try dsimp only at hSw); go_simp; try (with_reducible rfl))
              try simp only [Act.put, List.setIfInBounds_toArray, List.set_cons_zero, List.set_cons_succ]
              refine gtake (i := 1) (v := ?v2) rfl (by kernel_rfl) (by kernel_rfl) (by kernel_rfl) (MakesIf.yields (Or.inl ⟨by rfl, ?hy2⟩)) ?_
              case hy2 => (intro w hSw; (try dsimp only at hSw); go_simp; try (with_reducible rfl))
              try simp only [Act.put, List.setIfInBounds_toArray, List.set_cons_zero, List.set_cons_succ]
              refine gtake (i := 2) (v := ?v3) rfl (by kernel_rfl) (by kernel_rfl) (by kernel_rfl) (MakesIf.yields (Or.inl ⟨by rfl, ?hy3⟩)) ?_
              case hy3 => (intro w hSw; (try dsimp only at hSw); go_simp; try (with_reducible rfl))
              try simp only [Act.put, List.setIfInBounds_toArray, List.set_cons_zero, List.set_cons_succ]
              refine gtake (i := 3) (v := ?v4) rfl (by kernel_rfl) (by kernel_rfl) (by kernel_rfl) (MakesIf.yields (Or.inl ⟨by rfl, ?hy4⟩)) ?_
              case hy4 => (intro w hSw; (try dsimp only at hSw); go_simp; try (with_reducible rfl))
              try simp only [Act.put, List.setIfInBounds_toArray, List.set_cons_zero, List.set_cons_succ]
              refine gtake (i := 4) (v := ?v5) rfl (by kernel_rfl) (by kernel_rfl) (by kernel_rfl) (MakesIf.yields (Or.inl ⟨by rfl, ?hy5⟩)) ?_
              case hy5 => (intro w hSw; (try dsimp only at hSw); go_simp; try (with_reducible rfl))
              try simp only [Act.put, List.setIfInBounds_toArray, List.set_cons_zero, List.set_cons_succ]
              refine gtake (i := 5) (v := ?v6) rfl (by kernel_rfl) (by kernel_rfl) (by kernel_rfl) (MakesIf.yields (Or.inl ⟨by rfl, ?hy6⟩)) ?_
              case hy6 => (intro w hSw; (try dsimp only at hSw); go_simp; try (with_reducible rfl))
              try simp only [Act.put, List.setIfInBounds_toArray, List.set_cons_zero, List.set_cons_succ]
              refine gtake (i := 6) (v := ?v7) rfl (by kernel_rfl) (by kernel_rfl) (by kernel_rfl) (MakesIf.yields (Or.inl ⟨by rfl, ?hy7⟩)) ?_
              case hy7 => (intro w hSw; (try dsimp only at hSw); go_simp; try (with_reducible rfl))
              try simp only [Act.put, List.setIfInBounds_toArray, List.set_cons_zero, List.set_cons_succ]
              refine gtake (i := 7) (v := ?v8) rfl (by kernel_rfl) (by kernel_rfl) (by kernel_rfl) (MakesIf.yields (Or.inl ⟨by rfl, ?hy8⟩)) ?_
              case hy8 => (intro w hSw; (try dsimp only at hSw); go_simp; try (with_reducible rfl))
              try simp only [Act.put, List.setIfInBounds_toArray, List.set_cons_zero, List.set_cons_succ]
              refine gtake (i := 8) (v := ?v9) rfl (by kernel_rfl) (by kernel_rfl) (by kernel_rfl) (MakesIf.yields (Or.inl ⟨by rfl, ?hy9⟩)) ?_
              case hy9 => (intro w hSw; (try dsimp only at hSw); go_simp; try (with_reducible rfl))
              try simp only [Act.put, List.setIfInBounds_toArray, List.set_cons_zero, List.set_cons_succ]
              refine gtake (i := 9) (v := ?v10) rfl (by kernel_rfl) (by kernel_rfl) (by kernel_rfl) (MakesIf.yields (Or.inl ⟨by rfl, ?hy10⟩)) ?_
              case hy10 => (intro w hSw; (try dsimp only at hSw); go_simp; try (with_reducible rfl))
              try simp only [Act.put, List.setIfInBounds_toArray, List.set_cons_zero, List.set_cons_succ]
              refine gtake (i := 10) (v := ?v11) rfl (by kernel_rfl) (by kernel_rfl) (by kernel_rfl) (MakesIf.yields (Or.inl ⟨by rfl, ?hy11⟩)) ?_
              case hy11 => (intro w hSw; (try dsimp only at hSw); go_simp; try (with_reducible rfl))
              try simp only [Act.put, List.setIfInBounds_toArray, List.set_cons_zero, List.set_cons_succ]
              refine gtake (i := 11) (v := ?v12) rfl (by kernel_rfl) (by kernel_rfl) (by kernel_rfl) (MakesIf.yields (Or.inl ⟨by rfl, ?hy12⟩)) ?_
              case hy12 => (intro w hSw; (try dsimp only at hSw); go_simp; try (with_reducible rfl))
              try simp only [Act.put, List.setIfInBounds_toArray, List.set_cons_zero, List.set_cons_succ]
              refine gtake (i := 12) (v := ?v13) rfl (by kernel_rfl) (by kernel_rfl) (by kernel_rfl) (MakesIf.yields (Or.inl ⟨by rfl, ?hy13⟩)) ?_
              case hy13 => (intro w hSw; (try dsimp only at hSw); go_simp; try (with_reducible rfl))
              try simp only [Act.put, List.setIfInBounds_toArray, List.set_cons_zero, List.set_cons_succ]
              refine gtake (i := 13) (v := ?v14) rfl (by kernel_rfl) (by kernel_rfl) (by kernel_rfl) (MakesIf.yields (Or.inl ⟨by rfl, ?hy14⟩)) ?_
              case hy14 => (intro w hSw; (try dsimp only at hSw); go_simp; try (with_reducible rfl))
              try simp only [Act.put, List.setIfInBounds_toArray, List.set_cons_zero, List.set_cons_succ]
              refine gtake (i := 14) (v := ?v15) rfl (by kernel_rfl) (by kernel_rfl) (by kernel_rfl) (MakesIf.yields (Or.inl ⟨by rfl, ?hy15⟩)) ?_
              case hy15 => (intro w hSw; (try dsimp only at hSw); go_simp; try (with_reducible rfl))
              try simp only [Act.put, List.setIfInBounds_toArray, List.set_cons_zero, List.set_cons_succ]
              refine gtake (i := 15) (v := ?v16) rfl (by kernel_rfl) (by kernel_rfl) (by kernel_rfl) (MakesIf.yields (Or.inl ⟨by rfl, ?hy16⟩)) ?_
              case hy16 => (intro w hSw; (try dsimp only at hSw); go_simp; try (with_reducible rfl))
              try simp only [Act.put, List.setIfInBounds_toArray, List.set_cons_zero, List.set_cons_succ]
              refine gtake (i := 16) (v := ?v17) rfl (by kernel_rfl) (by kernel_rfl) (by kernel_rfl) (MakesIf.yields (Or.inl ⟨by rfl, ?hy17⟩)) ?_
              case hy17 => (intro w hSw; (try dsimp only at hSw); go_simp; try (with_reducible rfl))
              try simp only [Act.put, List.setIfInBounds_toArray, List.set_cons_zero, List.set_cons_succ]
              refine gtake (i := 17) (v := ?v18) rfl (by kernel_rfl) (by kernel_rfl) (by kernel_rfl) (MakesIf.yields (Or.inl ⟨by rfl, ?hy18⟩)) ?_
              case hy18 => (intro w hSw; (try dsimp only at hSw); go_simp; try (with_reducible rfl))
              try simp only [Act.put, List.setIfInBounds_toArray, List.set_cons_zero, List.set_cons_succ]
              refine gtake (i := 18) (v := .bool false) rfl (by kernel_rfl) (by kernel_rfl) (by kernel_rfl) (Or.inl ⟨by rfl, fun W hW => ?_⟩) ?_
              · go_simp; first | exact HC1.out W | exact (HC1.out W).mono fun _ _ h => h
              try simp only [Act.put, List.setIfInBounds_toArray, List.set_cons_zero, List.set_cons_succ]
              refine gtake (i := 19) (v := ?v19) rfl (by kernel_rfl) (by kernel_rfl) (by kernel_rfl) (MakesIf.yields (Or.inl ⟨by rfl, ?hy19⟩)) ?_
              case hy19 => (intro w hSw; (try dsimp only at hSw); go_simp; try (with_reducible rfl))
              try simp only [Act.put, List.setIfInBounds_toArray, List.set_cons_zero, List.set_cons_succ]
              refine gtake (i := 20) (v := ?v20) rfl (by kernel_rfl) (by kernel_rfl) (by kernel_rfl) (MakesIf.yields (Or.inl ⟨by rfl, ?hy20⟩)) ?_
              case hy20 => (intro w hSw; (try dsimp only at hSw); go_simp; try (with_reducible rfl))
              try simp only [Act.put, List.setIfInBounds_toArray, List.set_cons_zero, List.set_cons_succ]
              refine gtake (i := 21) (v := ?v21) rfl (by kernel_rfl) (by kernel_rfl) (by kernel_rfl) (MakesIf.yields (Or.inl ⟨by rfl, ?hy21⟩)) ?_
              case hy21 => (intro w hSw; (try dsimp only at hSw); go_simp; try (with_reducible rfl))
              try simp only [Act.put, List.setIfInBounds_toArray, List.set_cons_zero, List.set_cons_succ]
              refine gtake (i := 22) (v := undef) rfl (by kernel_rfl) (by kernel_rfl) (by kernel_rfl) (Or.inr ⟨by rfl, rfl⟩) ?_
              try simp only [Act.put, List.setIfInBounds_toArray, List.set_cons_zero, List.set_cons_succ]
              refine gtake (i := 23) (v := undef) rfl (by kernel_rfl) (by kernel_rfl) (by kernel_rfl) (Or.inr ⟨by rfl, rfl⟩) ?_
              try simp only [Act.put, List.setIfInBounds_toArray, List.set_cons_zero, List.set_cons_succ]
              refine gtake (i := 24) (v := undef) rfl (by kernel_rfl) (by kernel_rfl) (by kernel_rfl) (Or.inr ⟨by rfl, rfl⟩) ?_
              try simp only [Act.put, List.setIfInBounds_toArray, List.set_cons_zero, List.set_cons_succ]
              refine gtake (i := 25) (v := undef) rfl (by kernel_rfl) (by kernel_rfl) (by kernel_rfl) (Or.inr ⟨by rfl, rfl⟩) ?_
              try simp only [Act.put, List.setIfInBounds_toArray, List.set_cons_zero, List.set_cons_succ]
              refine gtake (i := 26) (v := undef) rfl (by kernel_rfl) (by kernel_rfl) (by kernel_rfl) (Or.inr ⟨by rfl, rfl⟩) ?_
              try simp only [Act.put, List.setIfInBounds_toArray, List.set_cons_zero, List.set_cons_succ]
              refine gtake (i := 27) (v := undef) rfl (by kernel_rfl) (by kernel_rfl) (by kernel_rfl) (Or.inr ⟨by rfl, rfl⟩) ?_
              try simp only [Act.put, List.setIfInBounds_toArray, List.set_cons_zero, List.set_cons_succ]
              refine gtake (i := 28) (v := undef) rfl (by kernel_rfl) (by kernel_rfl) (by kernel_rfl) (Or.inr ⟨by rfl, rfl⟩) ?_
              try simp only [Act.put, List.setIfInBounds_toArray, List.set_cons_zero, List.set_cons_succ]
              refine gtake (i := 29) (v := undef) rfl (by kernel_rfl) (by kernel_rfl) (by kernel_rfl) (Or.inr ⟨by rfl, rfl⟩) ?_
              try simp only [Act.put, List.setIfInBounds_toArray, List.set_cons_zero, List.set_cons_succ]
              refine gtake (i := 30) (v := ?v22) rfl (by kernel_rfl) (by kernel_rfl) (by kernel_rfl) (MakesIf.yields (Or.inl ⟨by rfl, ?hy22⟩)) ?_
              case hy22 => (intro w hSw; (try dsimp only at hSw); go_simp; try (with_reducible rfl))
              try simp only [Act.put, List.setIfInBounds_toArray, List.set_cons_zero, List.set_cons_succ]
              refine gdone (by kernel_rfl) (fun w' hT => ?_)
              refine NoPanic.normal ?_
              have HF := Lib.hid (HNX.out HMF.out _ hT)
              clear hT
              go_wp2_with fail
              exact ⟨⟨k + 1, by go_num, HF.out⟩, by simp [intOf]; omega⟩
            · rw [hi1] at HC1
              cases hi2 : insR c k x0 y0 x1 y1
              · rw [hi2] at HC2
                have HMF := Lib.hid (show meetB c x0 y0 x1 y1 up at_ i k = false from by rw [HM.out, hi2]; simp)
                clear hi1 hi2
                go_upto_region 7 with fail
                refine wp_region_noPanic ?_
                refine wp_region_held_drew (S := fun _ => True) (by kernel_rfl) ?_ (fun _ => ?_)
                · trivial
                refine GG.sound (S0 := (fun W' => Below Wi.heap.size Wi W' ∧ W'.cell? ⟨w.heap.size, 0, none⟩ = some (.int .i64 c.wide) ∧ W'.cell? ⟨w.heap.size, 1, none⟩ = some (.int .i64 c.high) ∧ W'.cell? ⟨w.heap.size, 2, none⟩ = some (.slice (some ⟨b, off, none⟩) c.piece.length c.c) ∧ W'.cell? ⟨b, off + i, none⟩ = some (.int .i64 (atI c i)) ∧ W'.cell? ⟨b, off + k, none⟩ = some (.int .i64 (atI c k)))) _ (fun W' => Below Wi.heap.size Wi W') _ _ (fun W W' h hb => h.trans (hb.mono h.size)) (fun W' h => H3.out W' h) ?_ _ ((Below.refl _ _).drew)
                refine gtake (i := 0) (v := ?v23) rfl (by kernel_rfl) (by kernel_rfl) (by kernel_rfl) (MakesIf.yields (Or.inl ⟨by rfl, ?hy23⟩)) ?_
                case hy23 => (intro w hSw; (try dsimp only at hSw); go_simp; try (with_reducible rfl))
                try simp only [Act.put, List.setIfInBounds_toArray, List.set_cons_zero, List.set_cons_succ]
                refine gtake (i := 1) (v := ?v24) rfl (by kernel_rfl) (by kernel_rfl) (by kernel_rfl) (MakesIf.yields (Or.inl ⟨by rfl, ?hy24⟩)) ?_
                case hy24 => (intro w hSw; (try dsimp only at hSw); go_simp; try (with_reducible rfl))
                try simp only [Act.put, List.setIfInBounds_toArray, List.set_cons_zero, List.set_cons_succ]
                refine gtake (i := 2) (v := ?v25) rfl (by kernel_rfl) (by kernel_rfl) (by kernel_rfl) (MakesIf.yields (Or.inl ⟨by rfl, ?hy25⟩)) ?_
                case hy25 => (intro w hSw; (try dsimp only at hSw); go_simp; try (with_reducible rfl))
                try simp only [Act.put, List.setIfInBounds_toArray, List.set_cons_zero, List.set_cons_succ]
                refine gtake (i := 3) (v := ?v26) rfl (by kernel_rfl) (by kernel_rfl) (by kernel_rfl) (MakesIf.yields (Or.inl ⟨by rfl, ?hy26⟩)) ?_
                case hy26 => (intro w hSw; (try dsimp only at hSw); go_simp; try (with_reducible rfl))
                try simp only [Act.put, List.setIfInBounds_toArray, List.set_cons_zero, List.set_cons_succ]
                refine gtake (i := 4) (v := ?v27) rfl (by kernel_rfl) (by kernel_rfl) (by kernel_rfl) (MakesIf.yields (Or.inl ⟨by rfl, ?hy27⟩)) ?_
                case hy27 => (intro w hSw; (try dsimp only at hSw); go_simp; try (with_reducible rfl))
                try simp only [Act.put, List.setIfInBounds_toArray, List.set_cons_zero, List.set_cons_succ]
                refine gtake (i := 5) (v := ?v28) rfl (by kernel_rfl) (by kernel_rfl) (by kernel_rfl) (MakesIf.yields (Or.inl ⟨by rfl, ?hy28⟩)) ?_
                case hy28 => (intro w hSw; (try dsimp only at hSw); go_simp; try (with_reducible rfl))
                try simp only [Act.put, List.setIfInBounds_toArray, List.set_cons_zero, List.set_cons_succ]
                refine gtake (i := 6) (v := ?v29) rfl (by kernel_rfl) (by kernel_rfl) (by kernel_rfl) (MakesIf.yields (Or.inl ⟨by rfl, ?hy29⟩)) ?_
                case hy29 => (intro w hSw; (try dsimp only at hSw); go_simp; try (with_reducible rfl))
                try simp only [Act.put, List.setIfInBounds_toArray, List.set_cons_zero, List.set_cons_succ]
                refine gtake (i := 7) (v := ?v30) rfl (by kernel_rfl) (by kernel_rfl) (by kernel_rfl) (MakesIf.yields (Or.inl ⟨by rfl, ?hy30⟩)) ?_
                case hy30 => (intro w hSw; (try dsimp only at hSw); go_simp; try (with_reducible rfl))
                try simp only [Act.put, List.setIfInBounds_toArray, List.set_cons_zero, List.set_cons_succ]
                refine gtake (i := 8) (v := ?v31) rfl (by kernel_rfl) (by kernel_rfl) (by kernel_rfl) (MakesIf.yields (Or.inl ⟨by rfl, ?hy31⟩)) ?_
                case hy31 => (intro w hSw; (try dsimp only at hSw); go_simp; try (with_reducible rfl))
                try simp only [Act.put, List.setIfInBounds_toArray, List.set_cons_zero, List.set_cons_succ]
                refine gtake (i := 9) (v := ?v32) rfl (by kernel_rfl) (by kernel_rfl) (by kernel_rfl) (MakesIf.yields (Or.inl ⟨by rfl, ?hy32⟩)) ?_
                case hy32 => (intro w hSw; (try dsimp only at hSw); go_simp; try (with_reducible rfl))
                try simp only [Act.put, List.setIfInBounds_toArray, List.set_cons_zero, List.set_cons_succ]
                refine gtake (i := 10) (v := ?v33) rfl (by kernel_rfl) (by kernel_rfl) (by kernel_rfl) (MakesIf.yields (Or.inl ⟨by rfl, ?hy33⟩)) ?_
                case hy33 => (intro w hSw; (try dsimp only at hSw); go_simp; try (with_reducible rfl))
                try simp only [Act.put, List.setIfInBounds_toArray, List.set_cons_zero, List.set_cons_succ]
                refine gtake (i := 11) (v := ?v34) rfl (by kernel_rfl) (by kernel_rfl) (by kernel_rfl) (MakesIf.yields (Or.inl ⟨by rfl, ?hy34⟩)) ?_
                case hy34 => (intro w hSw; (try dsimp only at hSw); go_simp; try (with_reducible rfl))
                try simp only [Act.put, List.setIfInBounds_toArray, List.set_cons_zero, List.set_cons_succ]
                refine gtake (i := 12) (v := ?v35) rfl (by kernel_rfl) (by kernel_rfl) (by kernel_rfl) (MakesIf.yields (Or.inl ⟨by rfl, ?hy35⟩)) ?_
                case hy35 => (intro w hSw; (try dsimp only at hSw); go_simp; try (with_reducible rfl))
                try simp only [Act.put, List.setIfInBounds_toArray, List.set_cons_zero, List.set_cons_succ]
                refine gtake (i := 13) (v := ?v36) rfl (by kernel_rfl) (by kernel_rfl) (by kernel_rfl) (MakesIf.yields (Or.inl ⟨by rfl, ?hy36⟩)) ?_
                case hy36 => (intro w hSw; (try dsimp only at hSw); go_simp; try (with_reducible rfl))
                try simp only [Act.put, List.setIfInBounds_toArray, List.set_cons_zero, List.set_cons_succ]
                refine gtake (i := 14) (v := ?v37) rfl (by kernel_rfl) (by kernel_rfl) (by kernel_rfl) (MakesIf.yields (Or.inl ⟨by rfl, ?hy37⟩)) ?_
                case hy37 => (intro w hSw; (try dsimp only at hSw); go_simp; try (with_reducible rfl))
                try simp only [Act.put, List.setIfInBounds_toArray, List.set_cons_zero, List.set_cons_succ]
                refine gtake (i := 15) (v := ?v38) rfl (by kernel_rfl) (by kernel_rfl) (by kernel_rfl) (MakesIf.yields (Or.inl ⟨by rfl, ?hy38⟩)) ?_
                case hy38 => (intro w hSw; (try dsimp only at hSw); go_simp; try (with_reducible rfl))
                try simp only [Act.put, List.setIfInBounds_toArray, List.set_cons_zero, List.set_cons_succ]
                refine gtake (i := 16) (v := ?v39) rfl (by kernel_rfl) (by kernel_rfl) (by kernel_rfl) (MakesIf.yields (Or.inl ⟨by rfl, ?hy39⟩)) ?_
                case hy39 => (intro w hSw; (try dsimp only at hSw); go_simp; try (with_reducible rfl))
                try simp only [Act.put, List.setIfInBounds_toArray, List.set_cons_zero, List.set_cons_succ]
                refine gtake (i := 17) (v := ?v40) rfl (by kernel_rfl) (by kernel_rfl) (by kernel_rfl) (MakesIf.yields (Or.inl ⟨by rfl, ?hy40⟩)) ?_
                case hy40 => (intro w hSw; (try dsimp only at hSw); go_simp; try (with_reducible rfl))
                try simp only [Act.put, List.setIfInBounds_toArray, List.set_cons_zero, List.set_cons_succ]
                refine gtake (i := 18) (v := .bool true) rfl (by kernel_rfl) (by kernel_rfl) (by kernel_rfl) (Or.inl ⟨by rfl, fun W hW => ?_⟩) ?_
                · go_simp; first | exact HC1.out W | exact (HC1.out W).mono fun _ _ h => h
                try simp only [Act.put, List.setIfInBounds_toArray, List.set_cons_zero, List.set_cons_succ]
                refine gtake (i := 19) (v := ?v41) rfl (by kernel_rfl) (by kernel_rfl) (by kernel_rfl) (MakesIf.yields (Or.inl ⟨by rfl, ?hy41⟩)) ?_
                case hy41 => (intro w hSw; (try dsimp only at hSw); go_simp; try (with_reducible rfl))
                try simp only [Act.put, List.setIfInBounds_toArray, List.set_cons_zero, List.set_cons_succ]
                refine gtake (i := 20) (v := ?v42) rfl (by kernel_rfl) (by kernel_rfl) (by kernel_rfl) (MakesIf.yields (Or.inl ⟨by rfl, ?hy42⟩)) ?_
                case hy42 => (intro w hSw; (try dsimp only at hSw); go_simp; try (with_reducible rfl))
                try simp only [Act.put, List.setIfInBounds_toArray, List.set_cons_zero, List.set_cons_succ]
                refine gtake (i := 21) (v := ?v43) rfl (by kernel_rfl) (by kernel_rfl) (by kernel_rfl) (MakesIf.yields (Or.inl ⟨by rfl, ?hy43⟩)) ?_
                case hy43 => (intro w hSw; (try dsimp only at hSw); go_simp; try (with_reducible rfl))
                try simp only [Act.put, List.setIfInBounds_toArray, List.set_cons_zero, List.set_cons_succ]
                refine gtake (i := 22) (v := ?v44) rfl (by kernel_rfl) (by kernel_rfl) (by kernel_rfl) (MakesIf.yields (Or.inl ⟨by rfl, ?hy44⟩)) ?_
                case hy44 => (intro w hSw; (try dsimp only at hSw); go_simp; try (with_reducible rfl))
                try simp only [Act.put, List.setIfInBounds_toArray, List.set_cons_zero, List.set_cons_succ]
                refine gtake (i := 23) (v := ?v45) rfl (by kernel_rfl) (by kernel_rfl) (by kernel_rfl) (MakesIf.yields (Or.inl ⟨by rfl, ?hy45⟩)) ?_
                case hy45 => (intro w hSw; (try dsimp only at hSw); go_simp; try (with_reducible rfl))
                try simp only [Act.put, List.setIfInBounds_toArray, List.set_cons_zero, List.set_cons_succ]
                refine gtake (i := 24) (v := ?v46) rfl (by kernel_rfl) (by kernel_rfl) (by kernel_rfl) (MakesIf.yields (Or.inl ⟨by rfl, ?hy46⟩)) ?_
                case hy46 => (intro w hSw; (try dsimp only at hSw); go_simp; try (with_reducible rfl))
                try simp only [Act.put, List.setIfInBounds_toArray, List.set_cons_zero, List.set_cons_succ]
                refine gtake (i := 25) (v := ?v47) rfl (by kernel_rfl) (by kernel_rfl) (by kernel_rfl) (MakesIf.yields (Or.inl ⟨by rfl, ?hy47⟩)) ?_
                case hy47 => (intro w hSw; (try dsimp only at hSw); go_simp; try (with_reducible rfl))
                try simp only [Act.put, List.setIfInBounds_toArray, List.set_cons_zero, List.set_cons_succ]
                refine gtake (i := 26) (v := ?v48) rfl (by kernel_rfl) (by kernel_rfl) (by kernel_rfl) (MakesIf.yields (Or.inl ⟨by rfl, ?hy48⟩)) ?_
                case hy48 => (intro w hSw; (try dsimp only at hSw); go_simp; try (with_reducible rfl))
                try simp only [Act.put, List.setIfInBounds_toArray, List.set_cons_zero, List.set_cons_succ]
                refine gtake (i := 27) (v := ?v49) rfl (by kernel_rfl) (by kernel_rfl) (by kernel_rfl) (MakesIf.yields (Or.inl ⟨by rfl, ?hy49⟩)) ?_
                case hy49 => (intro w hSw; (try dsimp only at hSw); go_simp; try (with_reducible rfl))
                try simp only [Act.put, List.setIfInBounds_toArray, List.set_cons_zero, List.set_cons_succ]
                refine gtake (i := 28) (v := .bool false) rfl (by kernel_rfl) (by kernel_rfl) (by kernel_rfl) (Or.inl ⟨by rfl, fun W hW => ?_⟩) ?_
                · go_simp; first | exact HC2.out W | exact (HC2.out W).mono fun _ _ h => h
                try simp only [Act.put, List.setIfInBounds_toArray, List.set_cons_zero, List.set_cons_succ]
                refine gtake (i := 29) (v := ?v50) rfl (by kernel_rfl) (by kernel_rfl) (by kernel_rfl) (MakesIf.yields (Or.inl ⟨by rfl, ?hy50⟩)) ?_
                case hy50 => (intro w hSw; (try dsimp only at hSw); go_simp; try (with_reducible rfl))
                try simp only [Act.put, List.setIfInBounds_toArray, List.set_cons_zero, List.set_cons_succ]
                refine gtake (i := 30) (v := ?v51) rfl (by kernel_rfl) (by kernel_rfl) (by kernel_rfl) (MakesIf.yields (Or.inl ⟨by rfl, ?hy51⟩)) ?_
                case hy51 => (intro w hSw; (try dsimp only at hSw); go_simp; try (with_reducible rfl))
                try simp only [Act.put, List.setIfInBounds_toArray, List.set_cons_zero, List.set_cons_succ]
                refine gdone (by kernel_rfl) (fun w' hT => ?_)
                refine NoPanic.normal ?_
                have HF := Lib.hid (HNX.out HMF.out _ hT)
                clear hT
                go_wp2_with fail
                exact ⟨⟨k + 1, by go_num, HF.out⟩, by simp [intOf]; omega⟩
              · rw [hi2] at HC2
                rw [hi1, hi2, Bool.true_and, Bool.true_and] at HM
                obtain ⟨p1, p2, p3, p4, p5, p6⟩ := quo_facts OK.out hlt
                obtain ⟨r1, r2, r3, r4, r5, r6⟩ := quo_facts OK.out hlk
                clear hi1 hi2
                go_upto_region 7 with fail
                refine wp_region_noPanic ?_
                refine wp_region_held_drew (S := fun _ => True) (by kernel_rfl) ?_ (fun _ => ?_)
                · trivial
                refine GG.sound (S0 := (fun W' => Below Wi.heap.size Wi W' ∧ W'.cell? ⟨w.heap.size, 0, none⟩ = some (.int .i64 c.wide) ∧ W'.cell? ⟨w.heap.size, 1, none⟩ = some (.int .i64 c.high) ∧ W'.cell? ⟨w.heap.size, 2, none⟩ = some (.slice (some ⟨b, off, none⟩) c.piece.length c.c) ∧ W'.cell? ⟨b, off + i, none⟩ = some (.int .i64 (atI c i)) ∧ W'.cell? ⟨b, off + k, none⟩ = some (.int .i64 (atI c k)))) _ (fun W' => Below Wi.heap.size Wi W') _ _ (fun W W' h hb => h.trans (hb.mono h.size)) (fun W' h => H3.out W' h) ?_ _ ((Below.refl _ _).drew)
                refine gtake (i := 0) (v := ?v52) rfl (by kernel_rfl) (by kernel_rfl) (by kernel_rfl) (MakesIf.yields (Or.inl ⟨by rfl, ?hy52⟩)) ?_
                case hy52 => (intro w hSw; (try dsimp only at hSw); go_simp; try (with_reducible rfl))
                try simp only [Act.put, List.setIfInBounds_toArray, List.set_cons_zero, List.set_cons_succ]
                refine gtake (i := 1) (v := ?v53) rfl (by kernel_rfl) (by kernel_rfl) (by kernel_rfl) (MakesIf.yields (Or.inl ⟨by rfl, ?hy53⟩)) ?_
                case hy53 => (intro w hSw; (try dsimp only at hSw); go_simp; try (with_reducible rfl))
                try simp only [Act.put, List.setIfInBounds_toArray, List.set_cons_zero, List.set_cons_succ]
                refine gtake (i := 2) (v := ?v54) rfl (by kernel_rfl) (by kernel_rfl) (by kernel_rfl) (MakesIf.yields (Or.inl ⟨by rfl, ?hy54⟩)) ?_
                case hy54 => (intro w hSw; (try dsimp only at hSw); go_simp; try (with_reducible rfl))
                try simp only [Act.put, List.setIfInBounds_toArray, List.set_cons_zero, List.set_cons_succ]
                refine gtake (i := 3) (v := ?v55) rfl (by kernel_rfl) (by kernel_rfl) (by kernel_rfl) (MakesIf.yields (Or.inl ⟨by rfl, ?hy55⟩)) ?_
                case hy55 => (intro w hSw; (try dsimp only at hSw); go_simp; try (with_reducible rfl))
                try simp only [Act.put, List.setIfInBounds_toArray, List.set_cons_zero, List.set_cons_succ]
                refine gtake (i := 4) (v := ?v56) rfl (by kernel_rfl) (by kernel_rfl) (by kernel_rfl) (MakesIf.yields (Or.inl ⟨by rfl, ?hy56⟩)) ?_
                case hy56 => (intro w hSw; (try dsimp only at hSw); go_simp; try (with_reducible rfl))
                try simp only [Act.put, List.setIfInBounds_toArray, List.set_cons_zero, List.set_cons_succ]
                refine gtake (i := 5) (v := ?v57) rfl (by kernel_rfl) (by kernel_rfl) (by kernel_rfl) (MakesIf.yields (Or.inl ⟨by rfl, ?hy57⟩)) ?_
                case hy57 => (intro w hSw; (try dsimp only at hSw); go_simp; try (with_reducible rfl))
                try simp only [Act.put, List.setIfInBounds_toArray, List.set_cons_zero, List.set_cons_succ]
                refine gtake (i := 6) (v := ?v58) rfl (by kernel_rfl) (by kernel_rfl) (by kernel_rfl) (MakesIf.yields (Or.inl ⟨by rfl, ?hy58⟩)) ?_
                case hy58 => (intro w hSw; (try dsimp only at hSw); go_simp; try (with_reducible rfl))
                try simp only [Act.put, List.setIfInBounds_toArray, List.set_cons_zero, List.set_cons_succ]
                refine gtake (i := 7) (v := ?v59) rfl (by kernel_rfl) (by kernel_rfl) (by kernel_rfl) (MakesIf.yields (Or.inl ⟨by rfl, ?hy59⟩)) ?_
                case hy59 => (intro w hSw; (try dsimp only at hSw); go_simp; try (with_reducible rfl))
                try simp only [Act.put, List.setIfInBounds_toArray, List.set_cons_zero, List.set_cons_succ]
                refine gtake (i := 8) (v := ?v60) rfl (by kernel_rfl) (by kernel_rfl) (by kernel_rfl) (MakesIf.yields (Or.inl ⟨by rfl, ?hy60⟩)) ?_
                case hy60 => (intro w hSw; (try dsimp only at hSw); go_simp; try (with_reducible rfl))
                try simp only [Act.put, List.setIfInBounds_toArray, List.set_cons_zero, List.set_cons_succ]
                refine gtake (i := 9) (v := ?v61) rfl (by kernel_rfl) (by kernel_rfl) (by kernel_rfl) (MakesIf.yields (Or.inl ⟨by rfl, ?hy61⟩)) ?_
                case hy61 => (intro w hSw; (try dsimp only at hSw); go_simp; try (with_reducible rfl))
                try simp only [Act.put, List.setIfInBounds_toArray, List.set_cons_zero, List.set_cons_succ]
                refine gtake (i := 10) (v := ?v62) rfl (by kernel_rfl) (by kernel_rfl) (by kernel_rfl) (MakesIf.yields (Or.inl ⟨by rfl, ?hy62⟩)) ?_
                case hy62 => (intro w hSw; (try dsimp only at hSw); go_simp; try (with_reducible rfl))
                try simp only [Act.put, List.setIfInBounds_toArray, List.set_cons_zero, List.set_cons_succ]
                refine gtake (i := 11) (v := ?v63) rfl (by kernel_rfl) (by kernel_rfl) (by kernel_rfl) (MakesIf.yields (Or.inl ⟨by rfl, ?hy63⟩)) ?_
                case hy63 => (intro w hSw; (try dsimp only at hSw); go_simp; try (with_reducible rfl))
                try simp only [Act.put, List.setIfInBounds_toArray, List.set_cons_zero, List.set_cons_succ]
                refine gtake (i := 12) (v := ?v64) rfl (by kernel_rfl) (by kernel_rfl) (by kernel_rfl) (MakesIf.yields (Or.inl ⟨by rfl, ?hy64⟩)) ?_
                case hy64 => (intro w hSw; (try dsimp only at hSw); go_simp; try (with_reducible rfl))
                try simp only [Act.put, List.setIfInBounds_toArray, List.set_cons_zero, List.set_cons_succ]
                refine gtake (i := 13) (v := ?v65) rfl (by kernel_rfl) (by kernel_rfl) (by kernel_rfl) (MakesIf.yields (Or.inl ⟨by rfl, ?hy65⟩)) ?_
                case hy65 => (intro w hSw; (try dsimp only at hSw); go_simp; try (with_reducible rfl))
                try simp only [Act.put, List.setIfInBounds_toArray, List.set_cons_zero, List.set_cons_succ]
                refine gtake (i := 14) (v := ?v66) rfl (by kernel_rfl) (by kernel_rfl) (by kernel_rfl) (MakesIf.yields (Or.inl ⟨by rfl, ?hy66⟩)) ?_
                case hy66 => (intro w hSw; (try dsimp only at hSw); go_simp; try (with_reducible rfl))
                try simp only [Act.put, List.setIfInBounds_toArray, List.set_cons_zero, List.set_cons_succ]
                refine gtake (i := 15) (v := ?v67) rfl (by kernel_rfl) (by kernel_rfl) (by kernel_rfl) (MakesIf.yields (Or.inl ⟨by rfl, ?hy67⟩)) ?_
                case hy67 => (intro w hSw; (try dsimp only at hSw); go_simp; try (with_reducible rfl))
                try simp only [Act.put, List.setIfInBounds_toArray, List.set_cons_zero, List.set_cons_succ]
                refine gtake (i := 16) (v := ?v68) rfl (by kernel_rfl) (by kernel_rfl) (by kernel_rfl) (MakesIf.yields (Or.inl ⟨by rfl, ?hy68⟩)) ?_
                case hy68 => (intro w hSw; (try dsimp only at hSw); go_simp; try (with_reducible rfl))
                try simp only [Act.put, List.setIfInBounds_toArray, List.set_cons_zero, List.set_cons_succ]
                refine gtake (i := 17) (v := ?v69) rfl (by kernel_rfl) (by kernel_rfl) (by kernel_rfl) (MakesIf.yields (Or.inl ⟨by rfl, ?hy69⟩)) ?_
                case hy69 => (intro w hSw; (try dsimp only at hSw); go_simp; try (with_reducible rfl))
                try simp only [Act.put, List.setIfInBounds_toArray, List.set_cons_zero, List.set_cons_succ]
                refine gtake (i := 18) (v := .bool true) rfl (by kernel_rfl) (by kernel_rfl) (by kernel_rfl) (Or.inl ⟨by rfl, fun W hW => ?_⟩) ?_
                · go_simp; first | exact HC1.out W | exact (HC1.out W).mono fun _ _ h => h
                try simp only [Act.put, List.setIfInBounds_toArray, List.set_cons_zero, List.set_cons_succ]
                refine gtake (i := 19) (v := ?v70) rfl (by kernel_rfl) (by kernel_rfl) (by kernel_rfl) (MakesIf.yields (Or.inl ⟨by rfl, ?hy70⟩)) ?_
                case hy70 => (intro w hSw; (try dsimp only at hSw); go_simp; try (with_reducible rfl))
                try simp only [Act.put, List.setIfInBounds_toArray, List.set_cons_zero, List.set_cons_succ]
                refine gtake (i := 20) (v := ?v71) rfl (by kernel_rfl) (by kernel_rfl) (by kernel_rfl) (MakesIf.yields (Or.inl ⟨by rfl, ?hy71⟩)) ?_
                case hy71 => (intro w hSw; (try dsimp only at hSw); go_simp; try (with_reducible rfl))
                try simp only [Act.put, List.setIfInBounds_toArray, List.set_cons_zero, List.set_cons_succ]
                refine gtake (i := 21) (v := ?v72) rfl (by kernel_rfl) (by kernel_rfl) (by kernel_rfl) (MakesIf.yields (Or.inl ⟨by rfl, ?hy72⟩)) ?_
                case hy72 => (intro w hSw; (try dsimp only at hSw); go_simp; try (with_reducible rfl))
                try simp only [Act.put, List.setIfInBounds_toArray, List.set_cons_zero, List.set_cons_succ]
                refine gtake (i := 22) (v := ?v73) rfl (by kernel_rfl) (by kernel_rfl) (by kernel_rfl) (MakesIf.yields (Or.inl ⟨by rfl, ?hy73⟩)) ?_
                case hy73 => (intro w hSw; (try dsimp only at hSw); go_simp; try (with_reducible rfl))
                try simp only [Act.put, List.setIfInBounds_toArray, List.set_cons_zero, List.set_cons_succ]
                refine gtake (i := 23) (v := ?v74) rfl (by kernel_rfl) (by kernel_rfl) (by kernel_rfl) (MakesIf.yields (Or.inl ⟨by rfl, ?hy74⟩)) ?_
                case hy74 => (intro w hSw; (try dsimp only at hSw); go_simp; try (with_reducible rfl))
                try simp only [Act.put, List.setIfInBounds_toArray, List.set_cons_zero, List.set_cons_succ]
                refine gtake (i := 24) (v := ?v75) rfl (by kernel_rfl) (by kernel_rfl) (by kernel_rfl) (MakesIf.yields (Or.inl ⟨by rfl, ?hy75⟩)) ?_
                case hy75 => (intro w hSw; (try dsimp only at hSw); go_simp; try (with_reducible rfl))
                try simp only [Act.put, List.setIfInBounds_toArray, List.set_cons_zero, List.set_cons_succ]
                refine gtake (i := 25) (v := ?v76) rfl (by kernel_rfl) (by kernel_rfl) (by kernel_rfl) (MakesIf.yields (Or.inl ⟨by rfl, ?hy76⟩)) ?_
                case hy76 => (intro w hSw; (try dsimp only at hSw); go_simp; try (with_reducible rfl))
                try simp only [Act.put, List.setIfInBounds_toArray, List.set_cons_zero, List.set_cons_succ]
                refine gtake (i := 26) (v := ?v77) rfl (by kernel_rfl) (by kernel_rfl) (by kernel_rfl) (MakesIf.yields (Or.inl ⟨by rfl, ?hy77⟩)) ?_
                case hy77 => (intro w hSw; (try dsimp only at hSw); go_simp; try (with_reducible rfl))
                try simp only [Act.put, List.setIfInBounds_toArray, List.set_cons_zero, List.set_cons_succ]
                refine gtake (i := 27) (v := ?v78) rfl (by kernel_rfl) (by kernel_rfl) (by kernel_rfl) (MakesIf.yields (Or.inl ⟨by rfl, ?hy78⟩)) ?_
                case hy78 => (intro w hSw; (try dsimp only at hSw); go_simp; try (with_reducible rfl))
                try simp only [Act.put, List.setIfInBounds_toArray, List.set_cons_zero, List.set_cons_succ]
                refine gtake (i := 28) (v := .bool true) rfl (by kernel_rfl) (by kernel_rfl) (by kernel_rfl) (Or.inl ⟨by rfl, fun W hW => ?_⟩) ?_
                · go_simp; first | exact HC2.out W | exact (HC2.out W).mono fun _ _ h => h
                try simp only [Act.put, List.setIfInBounds_toArray, List.set_cons_zero, List.set_cons_succ]
                refine gtake (i := 29) (v := ?v79) rfl (by kernel_rfl) (by kernel_rfl) (by kernel_rfl) (MakesIf.yields (Or.inl ⟨by rfl, ?hy79⟩)) ?_
                case hy79 => (intro w hSw; (try dsimp only at hSw); go_simp; try (with_reducible rfl))
                try simp only [Act.put, List.setIfInBounds_toArray, List.set_cons_zero, List.set_cons_succ]
                refine gtake (i := 30) (v := ?v80) rfl (by kernel_rfl) (by kernel_rfl) (by kernel_rfl) (MakesIf.yields (Or.inl ⟨by rfl, ?hy80⟩)) ?_
                case hy80 => (intro w hSw; (try dsimp only at hSw); go_simp; try (with_reducible rfl))
                try simp only [Act.put, List.setIfInBounds_toArray, List.set_cons_zero, List.set_cons_succ]
                refine gdone (by kernel_rfl) (fun w' hT => ?_)
                refine NoPanic.normal ?_
                have k0 := (H3.out _ hT).2.1
                have HT := Lib.hid hT
                clear hT
                cases up
                · have hn1 := Lib.hid (show nearB c false at_ i = decide (rowI c i < at_) from rfl)
                  have hn2 := Lib.hid (show nearB c false at_ k = decide (rowI c k < at_) from rfl)
                  by_cases g1 : rowI c i < at_
                  · by_cases g2 : rowI c k < at_
                    · have g3 : ¬ at_ ≤ rowI c k := by omega
                      have HF := Lib.hid (HNX.out (by rw [HM.out, hn2.out, decide_eq_true g2]; simp) _ HT.out)
                      go_wp2_with fail
                      exact ⟨⟨k + 1, by go_num, HF.out⟩, by simp [intOf]; omega⟩
                    · have g3 : at_ ≤ rowI c k := by omega
                      have HF := Lib.hid (goes_no hlt hlk (show meetB c x0 y0 x1 y1 false at_ i k = true from by rw [HM.out, hn1.out, hn2.out, decide_eq_true g1, decide_eq_false g2]; rfl))
                      go_wp2_with fail
                      go_ret
                      exact ⟨by rw [HF.out]; rfl, HB.out.trans ((HBX.out.trans (HT.out.mono HBX.out.size)).mono HB.out.size)⟩
                  · have HF := Lib.hid (HNX.out (by rw [HM.out, hn1.out, decide_eq_false g1]; simp) _ HT.out)
                    go_wp2_with fail
                    exact ⟨⟨k + 1, by go_num, HF.out⟩, by simp [intOf]; omega⟩
                · have hn1 := Lib.hid (show nearB c true at_ i = decide (colI c i < at_) from rfl)
                  have hn2 := Lib.hid (show nearB c true at_ k = decide (colI c k < at_) from rfl)
                  by_cases g1 : colI c i < at_
                  · by_cases g2 : colI c k < at_
                    · have g3 : ¬ at_ ≤ colI c k := by omega
                      have HF := Lib.hid (HNX.out (by rw [HM.out, hn2.out, decide_eq_true g2]; simp) _ HT.out)
                      go_wp2_with fail
                      exact ⟨⟨k + 1, by go_num, HF.out⟩, by simp [intOf]; omega⟩
                    · have g3 : at_ ≤ colI c k := by omega
                      have HF := Lib.hid (goes_no hlt hlk (show meetB c x0 y0 x1 y1 true at_ i k = true from by rw [HM.out, hn1.out, hn2.out, decide_eq_true g1, decide_eq_false g2]; rfl))
                      go_wp2_with fail
                      go_ret
                      exact ⟨by rw [HF.out]; rfl, HB.out.trans ((HBX.out.trans (HT.out.mono HBX.out.size)).mono HB.out.size)⟩
                  · have HF := Lib.hid (HNX.out (by rw [HM.out, hn1.out, decide_eq_false g1]; simp) _ HT.out)
                    go_wp2_with fail
                    exact ⟨⟨k + 1, by go_num, HF.out⟩, by simp [intOf]; omega⟩
          · have e1 : (atI c i == atI c k) = false := by simp [ha]
            have e2 : (atI c i != atI c k) = true := by simp [ha]
            have HMF := Lib.hid (show meetB c x0 y0 x1 y1 up at_ i k = false from by rw [HM.out, decide_eq_false ha]; simp)
            clear ha
            go_upto_region 7 with fail
            refine wp_region_noPanic ?_
            refine wp_region_held_drew (S := fun _ => True) (by kernel_rfl) ?_ (fun _ => ?_)
            · trivial
            refine GG.sound (S0 := (fun W' => Below Wi.heap.size Wi W' ∧ W'.cell? ⟨w.heap.size, 0, none⟩ = some (.int .i64 c.wide) ∧ W'.cell? ⟨w.heap.size, 1, none⟩ = some (.int .i64 c.high) ∧ W'.cell? ⟨w.heap.size, 2, none⟩ = some (.slice (some ⟨b, off, none⟩) c.piece.length c.c) ∧ W'.cell? ⟨b, off + i, none⟩ = some (.int .i64 (atI c i)) ∧ W'.cell? ⟨b, off + k, none⟩ = some (.int .i64 (atI c k)))) _ (fun W' => Below Wi.heap.size Wi W') _ _ (fun W W' h hb => h.trans (hb.mono h.size)) (fun W' h => H3.out W' h) ?_ _ ((Below.refl _ _).drew)
            refine gtake (i := 0) (v := ?v81) rfl (by kernel_rfl) (by kernel_rfl) (by kernel_rfl) (MakesIf.yields (Or.inl ⟨by rfl, ?hy81⟩)) ?_
            case hy81 => (intro w hSw; (try dsimp only at hSw); go_simp; try (with_reducible rfl))
            try simp only [Act.put, List.setIfInBounds_toArray, List.set_cons_zero, List.set_cons_succ]
            refine gtake (i := 1) (v := ?v82) rfl (by kernel_rfl) (by kernel_rfl) (by kernel_rfl) (MakesIf.yields (Or.inl ⟨by rfl, ?hy82⟩)) ?_
            case hy82 => (intro w hSw; (try dsimp only at hSw); go_simp; try (with_reducible rfl))
            try simp only [Act.put, List.setIfInBounds_toArray, List.set_cons_zero, List.set_cons_succ]
            refine gtake (i := 2) (v := ?v83) rfl (by kernel_rfl) (by kernel_rfl) (by kernel_rfl) (MakesIf.yields (Or.inl ⟨by rfl, ?hy83⟩)) ?_
            case hy83 => (intro w hSw; (try dsimp only at hSw); go_simp; try (with_reducible rfl))
            try simp only [Act.put, List.setIfInBounds_toArray, List.set_cons_zero, List.set_cons_succ]
            refine gtake (i := 3) (v := ?v84) rfl (by kernel_rfl) (by kernel_rfl) (by kernel_rfl) (MakesIf.yields (Or.inl ⟨by rfl, ?hy84⟩)) ?_
            case hy84 => (intro w hSw; (try dsimp only at hSw); go_simp; try (with_reducible rfl))
            try simp only [Act.put, List.setIfInBounds_toArray, List.set_cons_zero, List.set_cons_succ]
            refine gtake (i := 4) (v := ?v85) rfl (by kernel_rfl) (by kernel_rfl) (by kernel_rfl) (MakesIf.yields (Or.inl ⟨by rfl, ?hy85⟩)) ?_
            case hy85 => (intro w hSw; (try dsimp only at hSw); go_simp; try (with_reducible rfl))
            try simp only [Act.put, List.setIfInBounds_toArray, List.set_cons_zero, List.set_cons_succ]
            refine gtake (i := 5) (v := ?v86) rfl (by kernel_rfl) (by kernel_rfl) (by kernel_rfl) (MakesIf.yields (Or.inl ⟨by rfl, ?hy86⟩)) ?_
            case hy86 => (intro w hSw; (try dsimp only at hSw); go_simp; try (with_reducible rfl))
            try simp only [Act.put, List.setIfInBounds_toArray, List.set_cons_zero, List.set_cons_succ]
            refine gtake (i := 6) (v := ?v87) rfl (by kernel_rfl) (by kernel_rfl) (by kernel_rfl) (MakesIf.yields (Or.inl ⟨by rfl, ?hy87⟩)) ?_
            case hy87 => (intro w hSw; (try dsimp only at hSw); go_simp; try (with_reducible rfl))
            try simp only [Act.put, List.setIfInBounds_toArray, List.set_cons_zero, List.set_cons_succ]
            refine gtake (i := 7) (v := ?v88) rfl (by kernel_rfl) (by kernel_rfl) (by kernel_rfl) (MakesIf.yields (Or.inl ⟨by rfl, ?hy88⟩)) ?_
            case hy88 => (intro w hSw; (try dsimp only at hSw); go_simp; try (with_reducible rfl))
            try simp only [Act.put, List.setIfInBounds_toArray, List.set_cons_zero, List.set_cons_succ]
            refine gtake (i := 8) (v := ?v89) rfl (by kernel_rfl) (by kernel_rfl) (by kernel_rfl) (MakesIf.yields (Or.inl ⟨by rfl, ?hy89⟩)) ?_
            case hy89 => (intro w hSw; (try dsimp only at hSw); go_simp; try (with_reducible rfl))
            try simp only [Act.put, List.setIfInBounds_toArray, List.set_cons_zero, List.set_cons_succ]
            refine gtake (i := 9) (v := ?v90) rfl (by kernel_rfl) (by kernel_rfl) (by kernel_rfl) (MakesIf.yields (Or.inl ⟨by rfl, ?hy90⟩)) ?_
            case hy90 => (intro w hSw; (try dsimp only at hSw); go_simp; try (with_reducible rfl))
            try simp only [Act.put, List.setIfInBounds_toArray, List.set_cons_zero, List.set_cons_succ]
            refine gtake (i := 10) (v := ?v91) rfl (by kernel_rfl) (by kernel_rfl) (by kernel_rfl) (MakesIf.yields (Or.inl ⟨by rfl, ?hy91⟩)) ?_
            case hy91 => (intro w hSw; (try dsimp only at hSw); go_simp; try (with_reducible rfl))
            try simp only [Act.put, List.setIfInBounds_toArray, List.set_cons_zero, List.set_cons_succ]
            refine gtake (i := 11) (v := ?v92) rfl (by kernel_rfl) (by kernel_rfl) (by kernel_rfl) (MakesIf.yields (Or.inl ⟨by rfl, ?hy92⟩)) ?_
            case hy92 => (intro w hSw; (try dsimp only at hSw); go_simp; try (with_reducible rfl))
            try simp only [Act.put, List.setIfInBounds_toArray, List.set_cons_zero, List.set_cons_succ]
            refine gtake (i := 12) (v := undef) rfl (by kernel_rfl) (by kernel_rfl) (by kernel_rfl) (Or.inr ⟨by rfl, rfl⟩) ?_
            try simp only [Act.put, List.setIfInBounds_toArray, List.set_cons_zero, List.set_cons_succ]
            refine gtake (i := 13) (v := undef) rfl (by kernel_rfl) (by kernel_rfl) (by kernel_rfl) (Or.inr ⟨by rfl, rfl⟩) ?_
            try simp only [Act.put, List.setIfInBounds_toArray, List.set_cons_zero, List.set_cons_succ]
            refine gtake (i := 14) (v := undef) rfl (by kernel_rfl) (by kernel_rfl) (by kernel_rfl) (Or.inr ⟨by rfl, rfl⟩) ?_
            try simp only [Act.put, List.setIfInBounds_toArray, List.set_cons_zero, List.set_cons_succ]
            refine gtake (i := 15) (v := undef) rfl (by kernel_rfl) (by kernel_rfl) (by kernel_rfl) (Or.inr ⟨by rfl, rfl⟩) ?_
            try simp only [Act.put, List.setIfInBounds_toArray, List.set_cons_zero, List.set_cons_succ]
            refine gtake (i := 16) (v := undef) rfl (by kernel_rfl) (by kernel_rfl) (by kernel_rfl) (Or.inr ⟨by rfl, rfl⟩) ?_
            try simp only [Act.put, List.setIfInBounds_toArray, List.set_cons_zero, List.set_cons_succ]
            refine gtake (i := 17) (v := undef) rfl (by kernel_rfl) (by kernel_rfl) (by kernel_rfl) (Or.inr ⟨by rfl, rfl⟩) ?_
            try simp only [Act.put, List.setIfInBounds_toArray, List.set_cons_zero, List.set_cons_succ]
            refine gtake (i := 18) (v := undef) rfl (by kernel_rfl) (by kernel_rfl) (by kernel_rfl) (Or.inr ⟨by rfl, rfl⟩) ?_
            try simp only [Act.put, List.setIfInBounds_toArray, List.set_cons_zero, List.set_cons_succ]
            refine gtake (i := 19) (v := undef) rfl (by kernel_rfl) (by kernel_rfl) (by kernel_rfl) (Or.inr ⟨by rfl, rfl⟩) ?_
            try simp only [Act.put, List.setIfInBounds_toArray, List.set_cons_zero, List.set_cons_succ]
            refine gtake (i := 20) (v := ?v93) rfl (by kernel_rfl) (by kernel_rfl) (by kernel_rfl) (MakesIf.yields (Or.inl ⟨by rfl, ?hy93⟩)) ?_
            case hy93 => (intro w hSw; (try dsimp only at hSw); go_simp; try (with_reducible rfl))
            try simp only [Act.put, List.setIfInBounds_toArray, List.set_cons_zero, List.set_cons_succ]
            refine gtake (i := 21) (v := ?v94) rfl (by kernel_rfl) (by kernel_rfl) (by kernel_rfl) (MakesIf.yields (Or.inl ⟨by rfl, ?hy94⟩)) ?_
            case hy94 => (intro w hSw; (try dsimp only at hSw); go_simp; try (with_reducible rfl))
            try simp only [Act.put, List.setIfInBounds_toArray, List.set_cons_zero, List.set_cons_succ]
            refine gtake (i := 22) (v := undef) rfl (by kernel_rfl) (by kernel_rfl) (by kernel_rfl) (Or.inr ⟨by rfl, rfl⟩) ?_
            try simp only [Act.put, List.setIfInBounds_toArray, List.set_cons_zero, List.set_cons_succ]
            refine gtake (i := 23) (v := undef) rfl (by kernel_rfl) (by kernel_rfl) (by kernel_rfl) (Or.inr ⟨by rfl, rfl⟩) ?_
            try simp only [Act.put, List.setIfInBounds_toArray, List.set_cons_zero, List.set_cons_succ]
            refine gtake (i := 24) (v := undef) rfl (by kernel_rfl) (by kernel_rfl) (by kernel_rfl) (Or.inr ⟨by rfl, rfl⟩) ?_
            try simp only [Act.put, List.setIfInBounds_toArray, List.set_cons_zero, List.set_cons_succ]
            refine gtake (i := 25) (v := undef) rfl (by kernel_rfl) (by kernel_rfl) (by kernel_rfl) (Or.inr ⟨by rfl, rfl⟩) ?_
            try simp only [Act.put, List.setIfInBounds_toArray, List.set_cons_zero, List.set_cons_succ]
            refine gtake (i := 26) (v := undef) rfl (by kernel_rfl) (by kernel_rfl) (by kernel_rfl) (Or.inr ⟨by rfl, rfl⟩) ?_
            try simp only [Act.put, List.setIfInBounds_toArray, List.set_cons_zero, List.set_cons_succ]
            refine gtake (i := 27) (v := undef) rfl (by kernel_rfl) (by kernel_rfl) (by kernel_rfl) (Or.inr ⟨by rfl, rfl⟩) ?_
            try simp only [Act.put, List.setIfInBounds_toArray, List.set_cons_zero, List.set_cons_succ]
            refine gtake (i := 28) (v := undef) rfl (by kernel_rfl) (by kernel_rfl) (by kernel_rfl) (Or.inr ⟨by rfl, rfl⟩) ?_
            try simp only [Act.put, List.setIfInBounds_toArray, List.set_cons_zero, List.set_cons_succ]
            refine gtake (i := 29) (v := undef) rfl (by kernel_rfl) (by kernel_rfl) (by kernel_rfl) (Or.inr ⟨by rfl, rfl⟩) ?_
            try simp only [Act.put, List.setIfInBounds_toArray, List.set_cons_zero, List.set_cons_succ]
            refine gtake (i := 30) (v := ?v95) rfl (by kernel_rfl) (by kernel_rfl) (by kernel_rfl) (MakesIf.yields (Or.inl ⟨by rfl, ?hy95⟩)) ?_
            case hy95 => (intro w hSw; (try dsimp only at hSw); go_simp; try (with_reducible rfl))
            try simp only [Act.put, List.setIfInBounds_toArray, List.set_cons_zero, List.set_cons_succ]
            refine gdone (by kernel_rfl) (fun w' hT => ?_)
            refine NoPanic.normal ?_
            have HF := Lib.hid (HNX.out HMF.out _ hT)
            clear hT
            go_wp2_with fail
            exact ⟨⟨k + 1, by go_num, HF.out⟩, by simp [intOf]; omega⟩
        · obtain rfl : k = c.piece.length := by omega
          have HF := Lib.hid (show RG1 c x0 y0 x1 y1 up at_ V Wi (i + 1) from ⟨by omega, fun j hj => by
            by_cases e : j = i
            · subst e; exact goI_yes h2.al
            · exact H1.out.al j (by omega), h2.b⟩)
          clear h2
          go_wp2_with fail
          exact ⟨⟨i + 1, by go_num, HF.out⟩, by simp [intOf]; omega⟩
    · obtain rfl : i = c.piece.length := by omega
      go_wp2_with fail
      go_ret
      exact ⟨by rw [goes_yes H1.out.al]; rfl, HB.out.trans (H1.out.b.mono HB.out.size)⟩
end Go.Proofs.Ytjlicbdnppodgaa
