import Derived.Test.YtbhkglokdomajaaDoorP2
import Derived.Test.YtbhkglokdomajaaDoorR3
import Derived.Deep.DeepCutAuto
import Derived.Laws.EntriesVeiled
namespace Go.Proofs.YtbhkglokdomajaaDoor
open Go.RowKit
/-! The program: both ends, by how much a blade is off, how long it lasts. -/
def fnV (f : Nat) : Value := .agg #[.func (.func f) #[] #[]]
theorem enterLo (args : Array Value) (W : World) : (callFunc 62 args).run Tryd.prog W = .ok (.enter 62 args) W := by kernel_rfl
theorem enterHi (args : Array Value) (W : World) : (callFunc 63 args).run Tryd.prog W = .ok (.enter 63 args) W := by kernel_rfl
set_option maxHeartbeats 400000 in
theorem endLo_any (a b : Int) (w : World) : Calls Tryd.prog 62 #[.agg #[.int .i64 a, .int .i64 b]] w (Ret (.int .i64 a) w) := by
  go_enter Tryd.func62, Tryd.ntmps62
  go_wp2
  go_ret
  exact ⟨rfl, nxA _ _⟩
set_option maxHeartbeats 400000 in
theorem endHi_any (a b : Int) (w : World) : Calls Tryd.prog 63 #[.agg #[.int .i64 a, .int .i64 b]] w (Ret (.int .i64 b) w) := by
  go_enter Tryd.func63, Tryd.ntmps63
  go_wp2
  go_ret
  exact ⟨rfl, nxA _ _⟩
theorem loadE {w : World} {b : Nat} {a0 : Value} (h : Bx w b [a0]) : (loadVar 77 ⟨b, 0, none⟩).run Tryd.prog w = .ok (.agg #[a0]) w := by
  have c0 := h.c 0 _ rfl
  clear h
  go_simp
set_option maxHeartbeats 400000 in
theorem ends_any (w : World) : Calls Tryd.prog 41 #[] w (Ret (.tuple #[.agg #[.func (.func 62) #[] #[]], .agg #[.func (.func 63) #[] #[]]]) w) := by
  have hb0 := (nxA w (.cells #[.nilFunc] 77)).trans ((nxA (w.alloc (.cells #[.nilFunc] 77)) (.cells #[.nilFunc] 77)).mono (by simp))
  have X0 := Lib.hid ((Bx.new w #[.nilFunc] 77).next (nxA _ (.cells #[.nilFunc] 77)))
  have Y0 := Lib.hid (show Bx ((w.alloc (.cells #[.nilFunc] 77)).alloc (.cells #[.nilFunc] 77)) (w.heap.size + 1) [.nilFunc] from by
    have := Bx.new (w.alloc (.cells #[.nilFunc] 77)) #[.nilFunc] 77
    rw [World.size_alloc] at this
    exact this)
  have B0 := Lib.hid hb0
  clear hb0
  go_enter Tryd.func41, Tryd.ntmps41
  go_upto_region 1 with fail
  generalize ((w.alloc (.cells #[.nilFunc] 77)).alloc (.cells #[.nilFunc] 77)) = V at *
  have c0 := X0.out.c 0 _ rfl
  have d0 := Y0.out.c 0 _ rfl
  have f0 := X0.out.fr 0
  have g0 := Y0.out.fr 0
  have hne : w.heap.size + 1 ≠ w.heap.size := by omega
  go_wp2

  have X1 := (X0.out.setAll [.func (.func 62) #[] #[]] rfl).setOther (g := w.heap.size + 1) (by omega) [.func (.func 63) #[] #[]] 0
  have Y1 := (Y0.out.setOther (g := w.heap.size) (by omega) [.func (.func 62) #[] #[]] 0).setAll [.func (.func 63) #[] #[]] rfl
  refine bodyPost_ret (results_cells2 rfl rfl rfl (loadE X1) (loadE Y1)) rfl ?_
  exact ⟨rfl, below_setCells (b := w.heap.size + 1) (by omega) [.func (.func 63) #[] #[]] 0 (below_setCells (b := w.heap.size) (Nat.le_refl _) [.func (.func 62) #[] #[]] 0 B0.out)⟩
/-- One end: the function of it, and what it picks. -/
structure EndF (F : Nat) (sel : Int → Int → Int) : Prop where
  e : ∀ args W, (callFunc F args).run Tryd.prog W = .ok (.enter F args) W
  f : ∀ (a b : Int) (W : World), Calls Tryd.prog F #[.agg #[.int .i64 a, .int .i64 b]] W (Ret (.int .i64 (sel a b)) W)
def selLo (a _ : Int) : Int := a
def selHi (_ b : Int) : Int := b
theorem endLo : EndF 62 selLo := ⟨enterLo, endLo_any⟩
theorem endHi : EndF 63 selHi := ⟨enterHi, endHi_any⟩
set_option maxRecDepth 100000 in
set_option maxHeartbeats 400000 in
theorem off_any (F : Nat) (sel : Int → Int → Int) (hF : EndF F sel) (b : Blade) (x : Int) (w : World) (h1 : 0 ≤ sel b.fl b.fh ∧ sel b.fl b.fh ≤ 10000) (h2 : 0 ≤ sel b.wl b.wh * x ∧ sel b.wl b.wh * x ≤ 70000000) :
    Calls Tryd.prog 42 #[.agg #[.func (.func F) #[] #[]], .agg #[.int .i64 b.fl, .int .i64 b.fh, .int .i64 b.wl, .int .i64 b.wh], .int .i64 x] w (Ret (.int .i64 (sel b.fl b.fh + sel b.wl b.wh * x)) w) := by
  have hE := hF.e
  have hb0 := (nxA w (.cells #[.func (.func F) #[] #[]] 77)).trans ((nxA (w.alloc (.cells #[.func (.func F) #[] #[]] 77)) (.cells #[.int .i64 b.fl, .int .i64 b.fh, .int .i64 b.wl, .int .i64 b.wh] 53)).mono (by simp))
  have B0 := Lib.hid hb0
  have X0 := Lib.hid ((Bx.new w #[.func (.func F) #[] #[]] 77).next (nxA _ (.cells #[.int .i64 b.fl, .int .i64 b.fh, .int .i64 b.wl, .int .i64 b.wh] 53)))
  have Y0 := Lib.hid (show Bx ((w.alloc (.cells #[.func (.func F) #[] #[]] 77)).alloc (.cells #[.int .i64 b.fl, .int .i64 b.fh, .int .i64 b.wl, .int .i64 b.wh] 53)) (w.heap.size + 1) b.cells from by
    have := Bx.new (w.alloc (.cells #[.func (.func F) #[] #[]] 77)) #[.int .i64 b.fl, .int .i64 b.fh, .int .i64 b.wl, .int .i64 b.wh] 53
    rw [World.size_alloc] at this
    exact this)
  have HF1 := Lib.hid (fun W => hF.f b.fl b.fh W)
  have HF2 := Lib.hid (fun W => hF.f b.wl b.wh W)
  clear hb0 hF
  generalize sel b.fl b.fh = p at *
  generalize sel b.wl b.wh = q at *
  have w1 : IntKind.i64.wrap (q * x) = q * x := IntWalk.i64_in _ (by omega)
  have w2 : IntKind.i64.wrap (p + q * x) = p + q * x := IntWalk.i64_in _ (by omega)
  go_enter Tryd.func42, Tryd.ntmps42
  go_wp2_with fail
  generalize ((w.alloc (.cells #[.func (.func F) #[] #[]] 77)).alloc (.cells #[.int .i64 b.fl, .int .i64 b.fh, .int .i64 b.wl, .int .i64 b.wh] 53)) = V at *
  have HS := Lib.hid (show ∀ W : World, Below V.heap.size V W → (W.cell? ⟨w.heap.size, 0, none⟩ = some (.func (.func F) #[] #[]) ∧ W.cell? ⟨w.heap.size + 1, 0, none⟩ = some (.int .i64 b.fl) ∧ W.cell? ⟨w.heap.size + 1, 1, none⟩ = some (.int .i64 b.fh) ∧ W.cell? ⟨w.heap.size + 1, 2, none⟩ = some (.int .i64 b.wl) ∧ W.cell? ⟨w.heap.size + 1, 3, none⟩ = some (.int .i64 b.wh)) from fun W h =>
    ⟨(X0.out.next h).c 0 _ rfl, (Y0.out.next h).c 0 _ rfl, (Y0.out.next h).c 1 _ rfl, (Y0.out.next h).c 2 _ rfl, (Y0.out.next h).c 3 _ rfl⟩)
  have hc : Below V.heap.size V V.drew := (Below.refl _ _).drew
  refine wp_region_noPanic ?_
  refine wp_region_held_drew (S := (fun W => W.cell? ⟨w.heap.size, 0, none⟩ = some (.func (.func F) #[] #[]) ∧ W.cell? ⟨w.heap.size + 1, 0, none⟩ = some (.int .i64 b.fl) ∧ W.cell? ⟨w.heap.size + 1, 1, none⟩ = some (.int .i64 b.fh) ∧ W.cell? ⟨w.heap.size + 1, 2, none⟩ = some (.int .i64 b.wl) ∧ W.cell? ⟨w.heap.size + 1, 3, none⟩ = some (.int .i64 b.wh))) (by kernel_rfl) ?_ (fun hHeld => ?_)
  · (try dsimp only); exact HS.out _ hc
  refine htake (i := 0) (v := ?v1) rfl (by kernel_rfl) (by kernel_rfl) (by kernel_rfl) (fun _ _ _ h => h) (Or.inl ⟨by rfl, ?hy1⟩) (by assumption) ?_
  case hy1 => (intro w hSw; (try dsimp only at hSw); go_simp; try (with_reducible rfl))
  try simp only [Act.put, List.setIfInBounds_toArray, List.set_cons_zero, List.set_cons_succ]
  refine htake (i := 1) (v := ?v2) rfl (by kernel_rfl) (by kernel_rfl) (by kernel_rfl) (fun _ _ _ h => h) (Or.inl ⟨by rfl, ?hy2⟩) (by assumption) ?_
  case hy2 => (intro w hSw; (try dsimp only at hSw); go_simp; try (with_reducible rfl))
  try simp only [Act.put, List.setIfInBounds_toArray, List.set_cons_zero, List.set_cons_succ]
  refine htake (i := 2) (v := ?v3) rfl (by kernel_rfl) (by kernel_rfl) (by kernel_rfl) (fun _ _ _ h => h) (Or.inl ⟨by rfl, ?hy3⟩) (by assumption) ?_
  case hy3 => (intro w hSw; (try dsimp only at hSw); go_simp; try (with_reducible rfl))
  try simp only [Act.put, List.setIfInBounds_toArray, List.set_cons_zero, List.set_cons_succ]
  refine htake (i := 3) (v := ?v4) rfl (by kernel_rfl) (by kernel_rfl) (by kernel_rfl) (fun _ _ _ h => h) (Or.inl ⟨by rfl, ?hy4⟩) (by assumption) ?_
  case hy4 => (intro w hSw; (try dsimp only at hSw); go_simp; try (with_reducible rfl))
  try simp only [Act.put, List.setIfInBounds_toArray, List.set_cons_zero, List.set_cons_succ]
  refine htake (i := 5) (v := ?v5) rfl (by kernel_rfl) (by kernel_rfl) (by kernel_rfl) (fun _ _ _ h => h) (Or.inl ⟨by rfl, ?hy5⟩) (by assumption) ?_
  case hy5 => (intro w hSw; (try dsimp only at hSw); go_simp; try (with_reducible rfl))
  try simp only [Act.put, List.setIfInBounds_toArray, List.set_cons_zero, List.set_cons_succ]
  refine htake (i := 6) (v := ?v6) rfl (by kernel_rfl) (by kernel_rfl) (by kernel_rfl) (fun _ _ _ h => h) (Or.inl ⟨by rfl, ?hy6⟩) (by assumption) ?_
  case hy6 => (intro w hSw; (try dsimp only at hSw); go_simp; try (with_reducible rfl))
  try simp only [Act.put, List.setIfInBounds_toArray, List.set_cons_zero, List.set_cons_succ]
  refine htake (i := 7) (v := ?v7) rfl (by kernel_rfl) (by kernel_rfl) (by kernel_rfl) (fun _ _ _ h => h) (Or.inl ⟨by rfl, ?hy7⟩) (by assumption) ?_
  case hy7 => (intro w hSw; (try dsimp only at hSw); go_simp; try (with_reducible rfl))
  try simp only [Act.put, List.setIfInBounds_toArray, List.set_cons_zero, List.set_cons_succ]
  refine htake (i := 8) (v := ?v8) rfl (by kernel_rfl) (by kernel_rfl) (by kernel_rfl) (fun _ _ _ h => h) (Or.inl ⟨by rfl, ?hy8⟩) (by assumption) ?_
  case hy8 => (intro w hSw; (try dsimp only at hSw); go_simp; try (with_reducible rfl))
  try simp only [Act.put, List.setIfInBounds_toArray, List.set_cons_zero, List.set_cons_succ]
  refine htake (i := 10) (v := ?v9) rfl (by kernel_rfl) (by kernel_rfl) (by kernel_rfl) (fun _ _ _ h => h) (Or.inl ⟨by rfl, ?hy9⟩) (by assumption) ?_
  case hy9 => (intro w hSw; (try dsimp only at hSw); go_simp; try (with_reducible rfl))
  try simp only [Act.put, List.setIfInBounds_toArray, List.set_cons_zero, List.set_cons_succ]
  refine wpAnyH_ready (rs := [4]) (by kernel_rfl) (by simp) ?_
  refine hcons rfl (fun K hK => ?_) (AllReadyH.nil)
  go_simp
  (with_reducible refine (HF1.out _).mono ?_); rintro e w3 ⟨rfl, hb3⟩; replace hc := hc.trans (hb3.mono hc.size); clear hb3
  refine hK.out _ _ ?_ (fun hHeld => ?_)
  · (try dsimp only); exact HS.out _ hc
  clear hK K
  try simp only [Act.put, List.setIfInBounds_toArray, List.set_cons_zero, List.set_cons_succ]
  refine wpAnyH_ready (rs := [9]) (by kernel_rfl) (by simp) ?_
  refine hcons rfl (fun K hK => ?_) (AllReadyH.nil)
  go_simp
  (with_reducible refine (HF2.out _).mono ?_); rintro e w4 ⟨rfl, hb4⟩; replace hc := hc.trans (hb4.mono hc.size); clear hb4
  refine hK.out _ _ ?_ (fun hHeld => ?_)
  · (try dsimp only); exact HS.out _ hc
  clear hK K
  try simp only [Act.put, List.setIfInBounds_toArray, List.set_cons_zero, List.set_cons_succ]
  refine htake (i := 11) (v := ?v10) rfl (by kernel_rfl) (by kernel_rfl) (by kernel_rfl) (fun _ _ _ h => h) (Or.inl ⟨by rfl, ?hy10⟩) (by assumption) ?_
  case hy10 => (intro w hSw; (try dsimp only at hSw); go_simp; try (with_reducible rfl))
  try simp only [Act.put, List.setIfInBounds_toArray, List.set_cons_zero, List.set_cons_succ]
  refine htake (i := 12) (v := ?v11) rfl (by kernel_rfl) (by kernel_rfl) (by kernel_rfl) (fun _ _ _ h => h) (Or.inl ⟨by rfl, ?hy11⟩) (by assumption) ?_
  case hy11 => (intro w hSw; (try dsimp only at hSw); go_simp; try (with_reducible rfl))
  try simp only [Act.put, List.setIfInBounds_toArray, List.set_cons_zero, List.set_cons_succ]
  refine htake (i := 13) (v := ?v12) rfl (by kernel_rfl) (by kernel_rfl) (by kernel_rfl) (fun _ _ _ h => h) (Or.inl ⟨by rfl, ?hy12⟩) (by assumption) ?_
  case hy12 => (intro w hSw; (try dsimp only at hSw); go_simp; try (with_reducible rfl))
  try simp only [Act.put, List.setIfInBounds_toArray, List.set_cons_zero, List.set_cons_succ]
  refine wpAnyH_done (by kernel_rfl) ?_ _
  refine NoPanic.normal ?_
  iterate 15 (try clear hHeld)
  all_goals
    go_wp2
    go_ret
    exact ⟨rfl, B0.out.trans (hc.mono B0.out.size)⟩
set_option maxHeartbeats 400000 in
theorem least_any (a b : Int) (g c : Nat) (w : World) (h : w.cell? ⟨g, 0, none⟩ = some (.int .i64 b)) : Calls Tryd.prog 64 #[.int .i64 a, .slice (some ⟨g, 0, none⟩) 1 c] w (RetQ (.int .i64 (min a b)) w) := by
  have hg := cell_lt h
  by_cases hba : b < a
  · have d1 : decide (b < a) = true := decide_eq_true hba
    have E := Lib.hid (show b = min a b by omega)
    go_enter Tryd.func64, Tryd.ntmps64
    go_wp2
    go_loop [9, 0] (fun i o => ∃ k : Nat, k ≤ 1 ∧ i = .int .i64 k ∧ o = .int .i64 (if k = 0 then a else b)) (fun i _ => 1 - (intOf i).toNat)
    case atStart => exact ⟨0, by omega, rfl, rfl⟩
    case round =>
      obtain ⟨k, hk, rfl, rfl⟩ := hrel
      rcases (by omega : k = 0 ∨ k = 1) with rfl | rfl
      · go_wp2
        go_round
        case rel => exact ⟨1, by omega, by go_num, by simp⟩
        case measure => simp [intOf]
      · go_wp2
        go_ret
        exact retq_int (by simpa using E.out)
  · have d1 : decide (b < a) = false := decide_eq_false hba
    have E := Lib.hid (show a = min a b by omega)
    go_enter Tryd.func64, Tryd.ntmps64
    go_wp2
    go_loop [9, 0] (fun i o => ∃ k : Nat, k ≤ 1 ∧ i = .int .i64 k ∧ o = .int .i64 a) (fun i _ => 1 - (intOf i).toNat)
    case atStart => exact ⟨0, by omega, rfl, rfl⟩
    case round =>
      obtain ⟨k, hk, rfl, rfl⟩ := hrel
      rcases (by omega : k = 0 ∨ k = 1) with rfl | rfl
      · go_wp2
        go_round
        case rel => exact ⟨1, by omega, by go_num, rfl⟩
        case measure => simp [intOf]
      · go_wp2
        go_ret
        exact retq_int (by simpa using E.out)
end Go.Proofs.YtbhkglokdomajaaDoor
