import Derived.Test.YtfffhbolaimmdaaDoorP21
namespace Go.Proofs.YtfffhbolaimmdaaDoor
open Go.RowKit
def RetOn (s : Store) (B0 bS bL bO bF : Nat) (f : Nat → Int) (o : Int × Int) (W : World) (e : Ending) (W' : World) : Prop := e = .returned (.tuple #[]) ∧ OnW s B0 bS bL bO bF f o W' ∧ OnK B0 bL bO W W'
set_option maxRecDepth 100000 in
set_option maxHeartbeats 400000 in
theorem on_leaf (s : Store) (ok : Ok s) (B0 bS bL bO bF x : Nat) (o : Int × Int) (g c : Nat) (W : World)
    (h : OnW s B0 bS bL bO bF (leftF s x s.wishes.length) o W) (hb : IBlk W g s.sheets.length (takeS s x)) :
    Calls Tryd.prog 79 #[.int .i64 s.wishes.length, .int .i64 x, .int .i64 (gainTo s x s.wishes.length), .slice (some ⟨g, 0, none⟩) s.sheets.length c, .pointer (some ⟨bS, 0, none⟩), .pointer (some ⟨bO, 0, none⟩), .pointer (some ⟨bF, 0, none⟩), .pointer (some ⟨bL, 0, none⟩)] W
      (RetOn s B0 bS bL bO bF (leftF s x s.wishes.length) (overS s x o) W) := by
  have H := Lib.hid h
  have Hb := Lib.hid hb
  have hB : B0 ≤ W.heap.size := by have := h.lt; have := h.b1; have := h.b2; have := h.b3; have := h.b4; omega
  have hsz : bO < W.heap.size := by have := h.lt; have := h.b4; omega
  have hbO : B0 ≤ bO := by have := h.b1; have := h.b2; have := h.b3; omega
  obtain ⟨-, S0, S1, S2, S3⟩ := id h.box
  have q0 := h.o0
  have q1 := h.o1
  have f0 := h.of 0
  have f1 := h.of 1
  have bd1 := gainTo_bd ok x (Nat.le_refl _)
  have bd2 := costTo_bd ok x (f := fun k => (sheetAt s k).lo) (fun k hk => loAt_bd ok hk) (Nat.le_refl _)
  have HP1 := Lib.hid (fun (W' : World) (h : Below W.heap.size W W') => pays_any s 64 Sheet.lo g 0 c (takeS s x) W' ok (H.out.next h).at_ (fun _ _ => enter64 _ _) (fun x W => few64_any x.lo x.hi W) (fun _ hk => loAt_bd ok hk) (Hb.out.next h).at_ (fun k _ => takeS_bd ok x k))
  rw [pay_cost s Sheet.lo x] at HP1
  have HE := Lib.hid (show overS s x o = overP x (gainTo s x s.wishes.length - costTo s x (fun k => (sheetAt s k).lo) s.sheets.length) o.1 o.2 from rfl)
  generalize gainTo s x s.wishes.length = N at *
  generalize costTo s x (fun k => (sheetAt s k).lo) s.sheets.length = C1 at *
  have wr1 : IntKind.i64.wrap (N - C1) = N - C1 := IntWalk.i64_in _ (by omega)
  clear h hb
  go_enter Tryd.func79, Tryd.ntmps79
  go_wp2_with fail
  refine wp_region_noPanic ?_
  refine wp_region_held_drew (S := (fun W' => W'.cell? ⟨bS, 0, none⟩ = some (.slice s.A1 s.sheets.length s.c1) ∧ W'.cell? ⟨bS, 1, none⟩ = some (.slice s.A2 s.lics.length s.c2) ∧ W'.cell? ⟨bS, 2, none⟩ = some (.slice s.A3 s.makes.length s.c3) ∧ W'.cell? ⟨bS, 3, none⟩ = some (.slice s.A4 s.wishes.length s.c4))) (by kernel_rfl) ?_ (fun hHeld => ?_)
  · (try dsimp only); exact H.out.drew.box.four
  refine htake (i := 0) (v := ?v1) rfl (by kernel_rfl) (by kernel_rfl) (by kernel_rfl) (fun _ _ _ h => h) (Or.inl ⟨by rfl, ?hy1⟩) (by assumption) ?_
  case hy1 => (intro w hSw; (try dsimp only at hSw); go_simp; try (with_reducible rfl))
  try simp only [Act.put, List.setIfInBounds_toArray, List.set_cons_zero, List.set_cons_succ]
  refine htake (i := 1) (v := ?v2) rfl (by kernel_rfl) (by kernel_rfl) (by kernel_rfl) (fun _ _ _ h => h) (Or.inl ⟨by rfl, ?hy2⟩) (by assumption) ?_
  case hy2 => (intro w hSw; (try dsimp only at hSw); go_simp; try (with_reducible rfl))
  try simp only [Act.put, List.setIfInBounds_toArray, List.set_cons_zero, List.set_cons_succ]
  refine htake (i := 2) (v := ?v3) rfl (by kernel_rfl) (by kernel_rfl) (by kernel_rfl) (fun _ _ _ h => h) (Or.inl ⟨by rfl, ?hy3⟩) (by assumption) ?_
  case hy3 => (intro w hSw; (try dsimp only at hSw); go_simp; try (with_reducible rfl))
  try simp only [Act.put, List.setIfInBounds_toArray, List.set_cons_zero, List.set_cons_succ]
  refine htake (i := 3) (v := ?v4) rfl (by kernel_rfl) (by kernel_rfl) (by kernel_rfl) (fun _ _ _ h => h) (Or.inl ⟨by rfl, ?hy4⟩) (by assumption) ?_
  case hy4 => (intro w hSw; (try dsimp only at hSw); go_simp; try (with_reducible rfl))
  try simp only [Act.put, List.setIfInBounds_toArray, List.set_cons_zero, List.set_cons_succ]
  refine wpAnyH_ready (rs := [4, 8]) (by kernel_rfl) (by simp) ?_
  refine hcons rfl (fun K hK => ?_) (hcons rfl (fun K hK => ?_) (AllReadyH.nil))
  go_simp
  (with_reducible refine (few43_any _).mono ?_); rintro e w3 ⟨rfl, hb3⟩; have hk3 : Below W.heap.size W w3 := (Below.refl _ _).drew.trans hb3; have q3 := ((bcell hk3).1 bO 0 (by omega)).trans q0; have q4 := ((bcell hk3).1 bO 1 (by omega)).trans q1
  refine hK.out _ _ ?_ (fun hHeld => ?_)
  · (try dsimp only); exact (H.out.next hk3).box.four
  clear hK K
  try simp only [Act.put, List.setIfInBounds_toArray, List.set_cons_zero, List.set_cons_succ]
  refine wpAnyH_ready (rs := [5, 8]) (by kernel_rfl) (by simp) ?_
  refine hcons rfl (fun K hK => ?_) (hcons rfl (fun K hK => ?_) (AllReadyH.nil))
  go_simp
  (with_reducible refine (HP1.out _ hk3).mono ?_); rintro e w4 ⟨rfl, hb4⟩; have hk4 := below_step hb4 hk3 (Nat.le_refl W.heap.size); have q5 := ((bcell hk4).1 bO 0 (by omega)).trans q0; have q6 := ((bcell hk4).1 bO 1 (by omega)).trans q1
  refine hK.out _ _ ?_ (fun hHeld => ?_)
  · (try dsimp only); exact (H.out.next hk4).box.four
  clear hK K
  try simp only [Act.put, List.setIfInBounds_toArray, List.set_cons_zero, List.set_cons_succ]
  refine htake (i := 6) (v := ?v5) rfl (by kernel_rfl) (by kernel_rfl) (by kernel_rfl) (fun _ _ _ h => h) (Or.inl ⟨by rfl, ?hy5⟩) (by assumption) ?_
  case hy5 => (intro w hSw; (try dsimp only at hSw); go_simp; try (with_reducible rfl))
  try simp only [Act.put, List.setIfInBounds_toArray, List.set_cons_zero, List.set_cons_succ]
  refine htake (i := 7) (v := ?v6) rfl (by kernel_rfl) (by kernel_rfl) (by kernel_rfl) (fun _ _ _ h => h) (Or.inl ⟨by rfl, ?hy6⟩) (by assumption) ?_
  case hy6 => (intro w hSw; (try dsimp only at hSw); go_simp; try (with_reducible rfl))
  try simp only [Act.put, List.setIfInBounds_toArray, List.set_cons_zero, List.set_cons_succ]
  refine wpAnyH_ready (rs := [8]) (by kernel_rfl) (by simp) ?_
  refine hcons rfl (fun K hK => ?_) (AllReadyH.nil)
  go_simp
  refine hK.out _ _ ?_ (fun hHeld => ?_)
  · (try dsimp only); first | exact H.out.drew.box.four | exact (H.out.next hk4).box.four | exact (H.out.next hk3).box.four
  clear hK K
  try simp only [Act.put, List.setIfInBounds_toArray, List.set_cons_zero, List.set_cons_succ]
  refine wpAnyH_ready (rs := [9]) (by kernel_rfl) (by simp) ?_
  refine hcons rfl (fun K hK => ?_) (AllReadyH.nil)
  go_simp
  (with_reducible refine (over_pair _ _ _ _ _).mono ?_); rintro e w5 ⟨rfl, hb5⟩; have hk5 := below_step hb5 hk4 (Nat.le_refl W.heap.size); have q7 := ((bcell hk5).1 bO 0 (by omega)).trans q0; have q8 := ((bcell hk5).1 bO 1 (by omega)).trans q1; have f7 := ((bcell hk5).2 bO 0 (by omega)).trans f0; have f8 := ((bcell hk5).2 bO 1 (by omega)).trans f1; have hzz := hk5.size
  refine hK.out _ _ ?_ (fun hHeld => ?_)
  · (try dsimp only); exact (H.out.next hk5).box.four
  clear hK K
  try simp only [Act.put, List.setIfInBounds_toArray, List.set_cons_zero, List.set_cons_succ]
  refine wpAnyH_ready (rs := [10]) (by kernel_rfl) (by simp) ?_
  refine hcons rfl (fun K hK => ?_) (AllReadyH.nil)
  go_simp
  refine hK.out _ _ ?_ (fun hHeld => ?_)
  · (try dsimp only); exact ((H.out.next hk5).setO _ _).box.four
  clear hK K
  try simp only [Act.put, List.setIfInBounds_toArray, List.set_cons_zero, List.set_cons_succ]
  refine wpAnyH_done (by kernel_rfl) ?_ _
  refine NoPanic.normal ?_
  rotate_left
  go_simp
  refine hK.out _ _ ?_ (fun hHeld => ?_)
  · (try dsimp only); first | exact H.out.drew.box.four | exact (H.out.next hk4).box.four | exact (H.out.next hk3).box.four
  clear hK K
  try simp only [Act.put, List.setIfInBounds_toArray, List.set_cons_zero, List.set_cons_succ]
  refine wpAnyH_ready (rs := [5]) (by kernel_rfl) (by simp) ?_
  refine hcons rfl (fun K hK => ?_) (AllReadyH.nil)
  go_simp
  (with_reducible refine (HP1.out _ hk3).mono ?_); rintro e w4 ⟨rfl, hb4⟩; have hk4 := below_step hb4 hk3 (Nat.le_refl W.heap.size); have q5 := ((bcell hk4).1 bO 0 (by omega)).trans q0; have q6 := ((bcell hk4).1 bO 1 (by omega)).trans q1
  refine hK.out _ _ ?_ (fun hHeld => ?_)
  · (try dsimp only); exact (H.out.next hk4).box.four
  clear hK K
  try simp only [Act.put, List.setIfInBounds_toArray, List.set_cons_zero, List.set_cons_succ]
  refine htake (i := 6) (v := ?v7) rfl (by kernel_rfl) (by kernel_rfl) (by kernel_rfl) (fun _ _ _ h => h) (Or.inl ⟨by rfl, ?hy7⟩) (by assumption) ?_
  case hy7 => (intro w hSw; (try dsimp only at hSw); go_simp; try (with_reducible rfl))
  try simp only [Act.put, List.setIfInBounds_toArray, List.set_cons_zero, List.set_cons_succ]
  refine htake (i := 7) (v := ?v8) rfl (by kernel_rfl) (by kernel_rfl) (by kernel_rfl) (fun _ _ _ h => h) (Or.inl ⟨by rfl, ?hy8⟩) (by assumption) ?_
  case hy8 => (intro w hSw; (try dsimp only at hSw); go_simp; try (with_reducible rfl))
  try simp only [Act.put, List.setIfInBounds_toArray, List.set_cons_zero, List.set_cons_succ]
  refine wpAnyH_ready (rs := [9]) (by kernel_rfl) (by simp) ?_
  refine hcons rfl (fun K hK => ?_) (AllReadyH.nil)
  go_simp
  (with_reducible refine (over_pair _ _ _ _ _).mono ?_); rintro e w5 ⟨rfl, hb5⟩; have hk5 := below_step hb5 hk4 (Nat.le_refl W.heap.size); have q7 := ((bcell hk5).1 bO 0 (by omega)).trans q0; have q8 := ((bcell hk5).1 bO 1 (by omega)).trans q1; have f7 := ((bcell hk5).2 bO 0 (by omega)).trans f0; have f8 := ((bcell hk5).2 bO 1 (by omega)).trans f1; have hzz := hk5.size
  refine hK.out _ _ ?_ (fun hHeld => ?_)
  · (try dsimp only); exact (H.out.next hk5).box.four
  clear hK K
  try simp only [Act.put, List.setIfInBounds_toArray, List.set_cons_zero, List.set_cons_succ]
  refine wpAnyH_ready (rs := [10]) (by kernel_rfl) (by simp) ?_
  refine hcons rfl (fun K hK => ?_) (AllReadyH.nil)
  go_simp
  refine hK.out _ _ ?_ (fun hHeld => ?_)
  · (try dsimp only); exact ((H.out.next hk5).setO _ _).box.four
  clear hK K
  try simp only [Act.put, List.setIfInBounds_toArray, List.set_cons_zero, List.set_cons_succ]
  refine wpAnyH_done (by kernel_rfl) ?_ _
  refine NoPanic.normal ?_
  rotate_left
  go_simp
  refine hK.out _ _ ?_ (fun hHeld => ?_)
  · (try dsimp only); first | exact H.out.drew.box.four | exact (H.out.next hk4).box.four | exact (H.out.next hk3).box.four
  clear hK K
  try simp only [Act.put, List.setIfInBounds_toArray, List.set_cons_zero, List.set_cons_succ]
  refine wpAnyH_ready (rs := [4]) (by kernel_rfl) (by simp) ?_
  refine hcons rfl (fun K hK => ?_) (AllReadyH.nil)
  go_simp
  (with_reducible refine (few43_any _).mono ?_); rintro e w3 ⟨rfl, hb3⟩; have hk3 : Below W.heap.size W w3 := (Below.refl _ _).drew.trans hb3; have q3 := ((bcell hk3).1 bO 0 (by omega)).trans q0; have q4 := ((bcell hk3).1 bO 1 (by omega)).trans q1
  refine hK.out _ _ ?_ (fun hHeld => ?_)
  · (try dsimp only); exact (H.out.next hk3).box.four
  clear hK K
  try simp only [Act.put, List.setIfInBounds_toArray, List.set_cons_zero, List.set_cons_succ]
  refine wpAnyH_ready (rs := [5]) (by kernel_rfl) (by simp) ?_
  refine hcons rfl (fun K hK => ?_) (AllReadyH.nil)
  go_simp
  (with_reducible refine (HP1.out _ hk3).mono ?_); rintro e w4 ⟨rfl, hb4⟩; have hk4 := below_step hb4 hk3 (Nat.le_refl W.heap.size); have q5 := ((bcell hk4).1 bO 0 (by omega)).trans q0; have q6 := ((bcell hk4).1 bO 1 (by omega)).trans q1
  refine hK.out _ _ ?_ (fun hHeld => ?_)
  · (try dsimp only); exact (H.out.next hk4).box.four
  clear hK K
  try simp only [Act.put, List.setIfInBounds_toArray, List.set_cons_zero, List.set_cons_succ]
  refine htake (i := 6) (v := ?v9) rfl (by kernel_rfl) (by kernel_rfl) (by kernel_rfl) (fun _ _ _ h => h) (Or.inl ⟨by rfl, ?hy9⟩) (by assumption) ?_
  case hy9 => (intro w hSw; (try dsimp only at hSw); go_simp; try (with_reducible rfl))
  try simp only [Act.put, List.setIfInBounds_toArray, List.set_cons_zero, List.set_cons_succ]
  refine htake (i := 7) (v := ?v10) rfl (by kernel_rfl) (by kernel_rfl) (by kernel_rfl) (fun _ _ _ h => h) (Or.inl ⟨by rfl, ?hy10⟩) (by assumption) ?_
  case hy10 => (intro w hSw; (try dsimp only at hSw); go_simp; try (with_reducible rfl))
  try simp only [Act.put, List.setIfInBounds_toArray, List.set_cons_zero, List.set_cons_succ]
  refine wpAnyH_ready (rs := [9]) (by kernel_rfl) (by simp) ?_
  refine hcons rfl (fun K hK => ?_) (AllReadyH.nil)
  go_simp
  (with_reducible refine (over_pair _ _ _ _ _).mono ?_); rintro e w5 ⟨rfl, hb5⟩; have hk5 := below_step hb5 hk4 (Nat.le_refl W.heap.size); have q7 := ((bcell hk5).1 bO 0 (by omega)).trans q0; have q8 := ((bcell hk5).1 bO 1 (by omega)).trans q1; have f7 := ((bcell hk5).2 bO 0 (by omega)).trans f0; have f8 := ((bcell hk5).2 bO 1 (by omega)).trans f1; have hzz := hk5.size
  refine hK.out _ _ ?_ (fun hHeld => ?_)
  · (try dsimp only); exact (H.out.next hk5).box.four
  clear hK K
  try simp only [Act.put, List.setIfInBounds_toArray, List.set_cons_zero, List.set_cons_succ]
  refine wpAnyH_ready (rs := [10]) (by kernel_rfl) (by simp) ?_
  refine hcons rfl (fun K hK => ?_) (AllReadyH.nil)
  go_simp
  refine hK.out _ _ ?_ (fun hHeld => ?_)
  · (try dsimp only); exact ((H.out.next hk5).setO _ _).box.four
  clear hK K
  try simp only [Act.put, List.setIfInBounds_toArray, List.set_cons_zero, List.set_cons_succ]
  refine wpAnyH_done (by kernel_rfl) ?_ _
  refine NoPanic.normal ?_
  iterate 12 (try clear hHeld)
  all_goals
    go_wp2
    refine bodyPost_ret (results_none rfl _ _ _) rfl ⟨rfl, ?_, ((OnK.of_below hk5 hB).setO hbO _ _).setO hbO _ _⟩
    rw [HE.out]
    exact (H.out.next hk5).setO _ _
set_option maxRecDepth 100000 in
set_option maxHeartbeats 4000000 in
theorem on_any (s : Store) (ok : Ok s) (B0 bS bL bO bF k : Nat) : ∀ (i x : Nat) (o : Int × Int) (g c : Nat) (W : World), i + k = s.wishes.length → x < 2 ^ i →
    OnW s B0 bS bL bO bF (leftF s x i) o W → IBlk W g s.sheets.length (fun j => takeTo s x j i) → g ≠ bL → g ≠ bO →
    Calls Tryd.prog 79 #[.int .i64 i, .int .i64 x, .int .i64 (gainTo s x i), .slice (some ⟨g, 0, none⟩) s.sheets.length c, .pointer (some ⟨bS, 0, none⟩), .pointer (some ⟨bO, 0, none⟩), .pointer (some ⟨bF, 0, none⟩), .pointer (some ⟨bL, 0, none⟩)] W
      (RetOn s B0 bS bL bO bF (leftF s x i) (dfsS s k i x o) W) := by
  induction k with
  | zero =>
    intro i x o g c W hik hx h hb _ _
    obtain rfl : i = s.wishes.length := by omega
    exact on_leaf s ok B0 bS bL bO bF x o g c W h hb
  | succ k ih =>
    intro i x o g c W hik hx h hb hg1 hg2
    have IH := Lib.hid ih
    clear ih
    have hi : i < s.wishes.length := by omega
    have hn9 := ok.nw
    have hne : ((i : Int) == s.wishes.length) = false := by rw [beq_eq_false_iff_ne]; omega
    have hB : B0 ≤ W.heap.size := by have := h.lt; have := h.b1; have := h.b2; have := h.b3; have := h.b4; omega
    obtain ⟨-, c0, c1, c2, c3⟩ := id h.box
    have fn := h.fn
    have IH1 := Lib.hid (IH.out (i + 1) x o g c W (by omega) (lt_pow_succ hx) (by rw [leftF_skip s hx]; exact h) (hb.congr fun j => takeTo_skip s j hx) hg1 hg2)
    rw [gainTo_skip s hx, leftF_skip s hx] at IH1
    have H := Lib.hid h
    have Hb := Lib.hid hb
    have ED := Lib.hid (show dfsS s (k + 1) i x o = if takeOk s x i = true then dfsS s k (i + 1) (x + 2 ^ i) (dfsS s k (i + 1) x o) else dfsS s k (i + 1) x o from rfl)
    clear h hb
    generalize dfsS s k (i + 1) x o = o1 at *
    go_enter Tryd.func79, Tryd.ntmps79
    go_wp2_with fail
    rw [show ((i : Int) + 1) = ((i + 1 : Nat) : Int) from rfl]
    refine IH1.out.mono ?_
    rintro e W1 ⟨rfl, h1, k1⟩
    obtain ⟨b, off, e4, hbk, w0, w1, w2, w3, w4⟩ := h1.store.wishC hi
    have hmk := h1.store.makeC ok hi
    have hb1 := h1.b1
    have hb2 := h1.b2
    have hb3 := h1.b3
    have hb4 := h1.b4
    have hl1 := h1.lt
    have hS1 : bS < W1.heap.size := by omega
    have hL1 : bL < W1.heap.size := by omega
    have hO1 : bO < W1.heap.size := by omega
    have hw1 : b < W1.heap.size := by omega
    have H1 := Lib.hid h1
    have K1 := Lib.hid k1
    have Hb1 := Lib.hid (Hb.out.onk k1 hg1 hg2)
    have E4 := Lib.hid e4
    have c3' := h1.box.c3
    rw [e4] at c3'
    obtain ⟨-, d0, d1, d2, -⟩ := id h1.box
    clear h1 k1 c0 c1 c2 c3 fn e4
    go_wp2_with fail
    rw [← E4.out]
    have hA := (Below.refl W1.heap.size W1).alloc (Nat.le_refl _) (.cells #[.int .i64 (wishAt s i).puz, .int .i64 (wishAt s i).many, .int .i64 (wishAt s i).hour, .int .i64 (wishAt s i).price, .int .i64 (wishAt s i).ship] 57)
    have hWB := WBox.new (w := W1) rfl (wishAt s i) 57
    refine (licence_any s i _ ok hi (H1.out.next hA).at_).mono ?_
    rintro e W2 ⟨rfl, hb5⟩
    have hA2 := hb5.alloc hb5.size (.cells #[.int .i64 (licAt s i).copies, .int .i64 (licAt s i).lo, .int .i64 (licAt s i).hi, .int .i64 (licAt s i).fee] 59)
    have hA3 := hA.trans (hA2.mono hA.size)
    have hWB2 := hWB.next hA2
    have hLB := LBox.new (w := W2) rfl (licAt s i) 59
    have H2 := Lib.hid (H1.out.next hA3)
    have K2 := Lib.hid (K1.out.trans (OnK.of_below hA3 (by omega)))
    have Hb2 := Lib.hid (Hb1.out.next hA3)
    have hz2 := hA3.size
    have hz1 := hb5.size
    go_wp2_with fail
    have hzV : (W2.alloc (.cells #[.int .i64 (licAt s i).copies, .int .i64 (licAt s i).lo, .int .i64 (licAt s i).hi, .int .i64 (licAt s i).fee] 59)).heap.size = W2.heap.size + 1 := by simp
    have hz12 : W1.heap.size + 1 ≤ W2.heap.size := by simpa using hz1
    generalize (W2.alloc (.cells #[.int .i64 (licAt s i).copies, .int .i64 (licAt s i).lo, .int .i64 (licAt s i).hi, .int .i64 (licAt s i).fee] 59)) = V at *
    obtain ⟨bw, hbw⟩ : ∃ bw, bw = W1.heap.size := ⟨_, rfl⟩
    obtain ⟨bl, hbl⟩ : ∃ bl, bl = W2.heap.size := ⟨_, rfl⟩
    rw [← hbw] at hWB2 ⊢
    rw [← hbl] at hLB ⊢
    have hbwV : bw < V.heap.size := by omega
    have hblV : bl < V.heap.size := by omega
    have hbwO : bO < bw := by omega
    have hbwl : bw < bl := by omega
    have HWB := Lib.hid hWB2
    have HLB := Lib.hid hLB
    have hm := ok.make _ (makeAt_mem ok hi)
    have hwi := ok.wishOk hi
    have hnl := ok.nl
    have g1 : 0 ≤ (makeAt s i).pic := hm.1
    have g3 : (makeAt s i).pic.toNat < s.lics.length := by omega
    have g2 : (makeAt s i).pic.toNat < 5 := by omega
    have g4 : (makeAt s i).pic < 5 := by omega
    have hlv := H2.out.left.cell _ g3
    have hlf := H2.out.left.free (makeAt s i).pic.toNat
    have hub := usedTo_bd ok x (makeAt s i).pic.toNat (n := i) (by omega)
    have hli := ok.lic _ (licAt_mem ok hi)
    have hlb : -9000 ≤ leftF s x i (makeAt s i).pic.toNat ∧ leftF s x i (makeAt s i).pic.toNat ≤ 1000 := by
      unfold leftF; rw [licN_at]; omega
    have hmany : 1 ≤ (wishAt s i).many ∧ (wishAt s i).many ≤ 1000 := by omega
    obtain ⟨-, e0, e1, e2, -, -⟩ := id HWB.out
    obtain ⟨-, y0, y1, y2, -⟩ := id HLB.out
    have HT := Lib.hid (show takeOk s x i = (decide ((wishAt s i).many ≤ leftF s x i (makeAt s i).pic.toNat) && inS (wishAt s i).hour (licAt s i).lo (licAt s i).hi) from rfl)
    have HKV := Lib.hid (OnK.of_below (bL := bL) (bO := bO) (Below.refl V.heap.size V).drew (show B0 ≤ V.heap.size by omega))
    clear w0 w1 w2 w3 w4 hmk c3' d0 d1 d2 hA hA2 hA3 hWB hWB2 hLB hb5 hm hwi hub hli hbw hbl hz1 hz2 hz12
    by_cases hlt : leftF s x i (makeAt s i).pic.toNat < (wishAt s i).many
    · have hd : decide (leftF s x i (makeAt s i).pic.toNat < (wishAt s i).many) = true := by simpa using hlt
      refine wp_region_noPanic ?_
      refine wp_region_held_drew (S := (fun W' => W'.cell? ⟨bL, (makeAt s i).pic.toNat, none⟩ = some (.int .i64 (leftF s x i (makeAt s i).pic.toNat)) ∧ W'.cell? ⟨bw, 1, none⟩ = some (.int .i64 (wishAt s i).many))) (by kernel_rfl) ?_ (fun hHeld => ?_)
      · (try dsimp only); exact ⟨hlv, e1⟩
      refine htake (i := 0) (v := ?v11) rfl (by kernel_rfl) (by kernel_rfl) (by kernel_rfl) (fun _ _ _ h => h) (Or.inl ⟨by rfl, ?hy11⟩) (by assumption) ?_
      case hy11 => (intro w hSw; (try dsimp only at hSw); go_simp; try (with_reducible rfl))
      try simp only [Act.put, List.setIfInBounds_toArray, List.set_cons_zero, List.set_cons_succ]
      refine htake (i := 1) (v := ?v12) rfl (by kernel_rfl) (by kernel_rfl) (by kernel_rfl) (fun _ _ _ h => h) (Or.inl ⟨by rfl, ?hy12⟩) (by assumption) ?_
      case hy12 => (intro w hSw; (try dsimp only at hSw); go_simp; try (with_reducible rfl))
      try simp only [Act.put, List.setIfInBounds_toArray, List.set_cons_zero, List.set_cons_succ]
      refine htake (i := 2) (v := ?v13) rfl (by kernel_rfl) (by kernel_rfl) (by kernel_rfl) (fun _ _ _ h => h) (Or.inl ⟨by rfl, ?hy13⟩) (by assumption) ?_
      case hy13 => (intro w hSw; (try dsimp only at hSw); go_simp; try (with_reducible rfl))
      try simp only [Act.put, List.setIfInBounds_toArray, List.set_cons_zero, List.set_cons_succ]
      refine htake (i := 3) (v := ?v14) rfl (by kernel_rfl) (by kernel_rfl) (by kernel_rfl) (fun _ _ _ h => h) (Or.inl ⟨by rfl, ?hy14⟩) (by assumption) ?_
      case hy14 => (intro w hSw; (try dsimp only at hSw); go_simp; try (with_reducible rfl))
      try simp only [Act.put, List.setIfInBounds_toArray, List.set_cons_zero, List.set_cons_succ]
      refine htake (i := 4) (v := ?v15) rfl (by kernel_rfl) (by kernel_rfl) (by kernel_rfl) (fun _ _ _ h => h) (Or.inl ⟨by rfl, ?hy15⟩) (by assumption) ?_
      case hy15 => (intro w hSw; (try dsimp only at hSw); go_simp; try (with_reducible rfl))
      try simp only [Act.put, List.setIfInBounds_toArray, List.set_cons_zero, List.set_cons_succ]
      refine htake (i := 5) (v := ?v16) rfl (by kernel_rfl) (by kernel_rfl) (by kernel_rfl) (fun _ _ _ h => h) (Or.inl ⟨by rfl, ?hy16⟩) (by assumption) ?_
      case hy16 => (intro w hSw; (try dsimp only at hSw); go_simp; try (with_reducible rfl))
      try simp only [Act.put, List.setIfInBounds_toArray, List.set_cons_zero, List.set_cons_succ]
      refine htake (i := 6) (v := ?v17) rfl (by kernel_rfl) (by kernel_rfl) (by kernel_rfl) (fun _ _ _ h => h) (Or.inl ⟨by rfl, ?hy17⟩) (by assumption) ?_
      case hy17 => (intro w hSw; (try dsimp only at hSw); go_simp; try (with_reducible rfl))
      try simp only [Act.put, List.setIfInBounds_toArray, List.set_cons_zero, List.set_cons_succ]
      refine htake (i := 7) rfl (by kernel_rfl) (by kernel_rfl) (by kernel_rfl) (fun _ _ _ h => h) (Or.inr ⟨by rfl, rfl⟩) (by assumption) ?_
      try simp only [Act.put, List.setIfInBounds_toArray, List.set_cons_zero, List.set_cons_succ]
      refine htake (i := 8) rfl (by kernel_rfl) (by kernel_rfl) (by kernel_rfl) (fun _ _ _ h => h) (Or.inr ⟨by rfl, rfl⟩) (by assumption) ?_
      try simp only [Act.put, List.setIfInBounds_toArray, List.set_cons_zero, List.set_cons_succ]
      refine htake (i := 9) rfl (by kernel_rfl) (by kernel_rfl) (by kernel_rfl) (fun _ _ _ h => h) (Or.inr ⟨by rfl, rfl⟩) (by assumption) ?_
      try simp only [Act.put, List.setIfInBounds_toArray, List.set_cons_zero, List.set_cons_succ]
      refine htake (i := 10) rfl (by kernel_rfl) (by kernel_rfl) (by kernel_rfl) (fun _ _ _ h => h) (Or.inr ⟨by rfl, rfl⟩) (by assumption) ?_
      try simp only [Act.put, List.setIfInBounds_toArray, List.set_cons_zero, List.set_cons_succ]
      refine htake (i := 11) rfl (by kernel_rfl) (by kernel_rfl) (by kernel_rfl) (fun _ _ _ h => h) (Or.inr ⟨by rfl, rfl⟩) (by assumption) ?_
      try simp only [Act.put, List.setIfInBounds_toArray, List.set_cons_zero, List.set_cons_succ]
      refine htake (i := 12) rfl (by kernel_rfl) (by kernel_rfl) (by kernel_rfl) (fun _ _ _ h => h) (Or.inr ⟨by rfl, rfl⟩) (by assumption) ?_
      try simp only [Act.put, List.setIfInBounds_toArray, List.set_cons_zero, List.set_cons_succ]
      refine htake (i := 13) rfl (by kernel_rfl) (by kernel_rfl) (by kernel_rfl) (fun _ _ _ h => h) (Or.inr ⟨by rfl, rfl⟩) (by assumption) ?_
      try simp only [Act.put, List.setIfInBounds_toArray, List.set_cons_zero, List.set_cons_succ]
      refine htake (i := 14) rfl (by kernel_rfl) (by kernel_rfl) (by kernel_rfl) (fun _ _ _ h => h) (Or.inr ⟨by rfl, rfl⟩) (by assumption) ?_
      try simp only [Act.put, List.setIfInBounds_toArray, List.set_cons_zero, List.set_cons_succ]
      refine htake (i := 15) (v := ?v18) rfl (by kernel_rfl) (by kernel_rfl) (by kernel_rfl) (fun _ _ _ h => h) (Or.inl ⟨by rfl, ?hy18⟩) (by assumption) ?_
      case hy18 => (intro w hSw; (try dsimp only at hSw); go_simp; try (with_reducible rfl))
      try simp only [Act.put, List.setIfInBounds_toArray, List.set_cons_zero, List.set_cons_succ]
      refine wpAnyH_done (by kernel_rfl) ?_ _
      refine NoPanic.normal ?_
      iterate 17 (try clear hHeld)
      go_wp2
      refine bodyPost_ret (results_none rfl _ _ _) rfl ⟨rfl, ?_, K2.out.trans HKV.out⟩
      rw [ED.out, if_neg (by rw [HT.out]; simp; intro h; omega)]
      exact H2.out.drew
    · have hd : decide (leftF s x i (makeAt s i).pic.toNat < (wishAt s i).many) = false := by simpa using hlt
      refine wp_region_noPanic ?_
      refine wp_region_held_drew (S := (fun W' => W'.cell? ⟨bL, (makeAt s i).pic.toNat, none⟩ = some (.int .i64 (leftF s x i (makeAt s i).pic.toNat)) ∧ W'.cell? ⟨bw, 1, none⟩ = some (.int .i64 (wishAt s i).many) ∧ W'.cell? ⟨bw, 2, none⟩ = some (.int .i64 (wishAt s i).hour) ∧ W'.cell? ⟨bl, 1, none⟩ = some (.int .i64 (licAt s i).lo) ∧ W'.cell? ⟨bl, 2, none⟩ = some (.int .i64 (licAt s i).hi))) (by kernel_rfl) ?_ (fun hHeld => ?_)
      · (try dsimp only); exact ⟨hlv, e1, e2, y1, y2⟩
      refine htake (i := 0) (v := ?v19) rfl (by kernel_rfl) (by kernel_rfl) (by kernel_rfl) (fun _ _ _ h => h) (Or.inl ⟨by rfl, ?hy19⟩) (by assumption) ?_
      case hy19 => (intro w hSw; (try dsimp only at hSw); go_simp; try (with_reducible rfl))
      try simp only [Act.put, List.setIfInBounds_toArray, List.set_cons_zero, List.set_cons_succ]
      refine htake (i := 1) (v := ?v20) rfl (by kernel_rfl) (by kernel_rfl) (by kernel_rfl) (fun _ _ _ h => h) (Or.inl ⟨by rfl, ?hy20⟩) (by assumption) ?_
      case hy20 => (intro w hSw; (try dsimp only at hSw); go_simp; try (with_reducible rfl))
      try simp only [Act.put, List.setIfInBounds_toArray, List.set_cons_zero, List.set_cons_succ]
      refine htake (i := 2) (v := ?v21) rfl (by kernel_rfl) (by kernel_rfl) (by kernel_rfl) (fun _ _ _ h => h) (Or.inl ⟨by rfl, ?hy21⟩) (by assumption) ?_
      case hy21 => (intro w hSw; (try dsimp only at hSw); go_simp; try (with_reducible rfl))
      try simp only [Act.put, List.setIfInBounds_toArray, List.set_cons_zero, List.set_cons_succ]
      refine htake (i := 3) (v := ?v22) rfl (by kernel_rfl) (by kernel_rfl) (by kernel_rfl) (fun _ _ _ h => h) (Or.inl ⟨by rfl, ?hy22⟩) (by assumption) ?_
      case hy22 => (intro w hSw; (try dsimp only at hSw); go_simp; try (with_reducible rfl))
      try simp only [Act.put, List.setIfInBounds_toArray, List.set_cons_zero, List.set_cons_succ]
      refine htake (i := 4) (v := ?v23) rfl (by kernel_rfl) (by kernel_rfl) (by kernel_rfl) (fun _ _ _ h => h) (Or.inl ⟨by rfl, ?hy23⟩) (by assumption) ?_
      case hy23 => (intro w hSw; (try dsimp only at hSw); go_simp; try (with_reducible rfl))
      try simp only [Act.put, List.setIfInBounds_toArray, List.set_cons_zero, List.set_cons_succ]
      refine htake (i := 5) (v := ?v24) rfl (by kernel_rfl) (by kernel_rfl) (by kernel_rfl) (fun _ _ _ h => h) (Or.inl ⟨by rfl, ?hy24⟩) (by assumption) ?_
      case hy24 => (intro w hSw; (try dsimp only at hSw); go_simp; try (with_reducible rfl))
      try simp only [Act.put, List.setIfInBounds_toArray, List.set_cons_zero, List.set_cons_succ]
      refine htake (i := 6) (v := ?v25) rfl (by kernel_rfl) (by kernel_rfl) (by kernel_rfl) (fun _ _ _ h => h) (Or.inl ⟨by rfl, ?hy25⟩) (by assumption) ?_
      case hy25 => (intro w hSw; (try dsimp only at hSw); go_simp; try (with_reducible rfl))
      try simp only [Act.put, List.setIfInBounds_toArray, List.set_cons_zero, List.set_cons_succ]
      refine htake (i := 7) (v := ?v26) rfl (by kernel_rfl) (by kernel_rfl) (by kernel_rfl) (fun _ _ _ h => h) (Or.inl ⟨by rfl, ?hy26⟩) (by assumption) ?_
      case hy26 => (intro w hSw; (try dsimp only at hSw); go_simp; try (with_reducible rfl))
      try simp only [Act.put, List.setIfInBounds_toArray, List.set_cons_zero, List.set_cons_succ]
      refine htake (i := 8) (v := ?v27) rfl (by kernel_rfl) (by kernel_rfl) (by kernel_rfl) (fun _ _ _ h => h) (Or.inl ⟨by rfl, ?hy27⟩) (by assumption) ?_
      case hy27 => (intro w hSw; (try dsimp only at hSw); go_simp; try (with_reducible rfl))
      try simp only [Act.put, List.setIfInBounds_toArray, List.set_cons_zero, List.set_cons_succ]
      refine htake (i := 9) (v := ?v28) rfl (by kernel_rfl) (by kernel_rfl) (by kernel_rfl) (fun _ _ _ h => h) (Or.inl ⟨by rfl, ?hy28⟩) (by assumption) ?_
      case hy28 => (intro w hSw; (try dsimp only at hSw); go_simp; try (with_reducible rfl))
      try simp only [Act.put, List.setIfInBounds_toArray, List.set_cons_zero, List.set_cons_succ]
      refine htake (i := 10) (v := ?v29) rfl (by kernel_rfl) (by kernel_rfl) (by kernel_rfl) (fun _ _ _ h => h) (Or.inl ⟨by rfl, ?hy29⟩) (by assumption) ?_
      case hy29 => (intro w hSw; (try dsimp only at hSw); go_simp; try (with_reducible rfl))
      try simp only [Act.put, List.setIfInBounds_toArray, List.set_cons_zero, List.set_cons_succ]
      refine htake (i := 11) (v := ?v30) rfl (by kernel_rfl) (by kernel_rfl) (by kernel_rfl) (fun _ _ _ h => h) (Or.inl ⟨by rfl, ?hy30⟩) (by assumption) ?_
      case hy30 => (intro w hSw; (try dsimp only at hSw); go_simp; try (with_reducible rfl))
      try simp only [Act.put, List.setIfInBounds_toArray, List.set_cons_zero, List.set_cons_succ]
      refine htake (i := 12) (v := ?v31) rfl (by kernel_rfl) (by kernel_rfl) (by kernel_rfl) (fun _ _ _ h => h) (Or.inl ⟨by rfl, ?hy31⟩) (by assumption) ?_
      case hy31 => (intro w hSw; (try dsimp only at hSw); go_simp; try (with_reducible rfl))
      try simp only [Act.put, List.setIfInBounds_toArray, List.set_cons_zero, List.set_cons_succ]
      refine wpAnyH_ready (rs := [13]) (by kernel_rfl) (by simp) ?_
      refine hcons rfl (fun K hK => ?_) (AllReadyH.nil)
      go_simp
      (with_reducible refine (within_any _ _ _ _).mono ?_); rintro e w' ⟨rfl, rfl⟩
      refine hK.out _ _ ?_ (fun hHeld => ?_)
      · (try dsimp only); exact ⟨hlv, e1, e2, y1, y2⟩
      clear hK K
      try simp only [Act.put, List.setIfInBounds_toArray, List.set_cons_zero, List.set_cons_succ]
      refine htake (i := 14) (v := ?v32) rfl (by kernel_rfl) (by kernel_rfl) (by kernel_rfl) (fun _ _ _ h => h) (Or.inl ⟨by rfl, ?hy32⟩) (by assumption) ?_
      case hy32 => (intro w hSw; (try dsimp only at hSw); go_simp; try (with_reducible rfl))
      try simp only [Act.put, List.setIfInBounds_toArray, List.set_cons_zero, List.set_cons_succ]
      refine htake (i := 15) (v := ?v33) rfl (by kernel_rfl) (by kernel_rfl) (by kernel_rfl) (fun _ _ _ h => h) (Or.inl ⟨by rfl, ?hy33⟩) (by assumption) ?_
      case hy33 => (intro w hSw; (try dsimp only at hSw); go_simp; try (with_reducible rfl))
      try simp only [Act.put, List.setIfInBounds_toArray, List.set_cons_zero, List.set_cons_succ]
      refine wpAnyH_done (by kernel_rfl) ?_ _
      refine NoPanic.normal ?_
      iterate 17 (try clear hHeld)
      cases hin : inS (wishAt s i).hour (licAt s i).lo (licAt s i).hi
      · go_wp2
        refine bodyPost_ret (results_none rfl _ _ _) rfl ⟨rfl, ?_, K2.out.trans HKV.out⟩
        rw [ED.out, if_neg (by rw [HT.out, hin]; simp)]
        exact H2.out.drew
      · have ht : takeOk s x i = true := by rw [HT.out, hin]; simp; omega
        rw [ht, if_pos rfl] at ED
        have H3 := Lib.hid (H2.out.setL (f' := fun p => leftF s x i p - if (makeAt s i).pic.toNat = p then (wishAt s i).many else 0) (j := (makeAt s i).pic.toNat) (x := leftF s x i (makeAt s i).pic.toNat - (wishAt s i).many) g3 (by simp) (fun p hp => by rw [if_neg (Ne.symm hp)]; omega)).drew.drew
        have K3 := Lib.hid (K2.out.setL (by omega) (makeAt s i).pic.toNat (.int .i64 (leftF s x i (makeAt s i).pic.toNat - (wishAt s i).many))).drew.drew
        have HW3 := Lib.hid (HWB.out.nth (B := bL) (by omega) (makeAt s i).pic.toNat (.int .i64 (leftF s x i (makeAt s i).pic.toNat - (wishAt s i).many))).drew1.drew1
        have hz3 : (V.setCell ⟨bL, (makeAt s i).pic.toNat, none⟩ (.int .i64 (leftF s x i (makeAt s i).pic.toNat - (wishAt s i).many))).drew.drew.heap.size = V.heap.size := by simp [World.setCell]
        have Hb3 := Lib.hid (((Hb2.out.onk ((OnK.of_below (bL := bL) (bO := bO) (B0 := B0) (Below.refl V.heap.size V) (by omega)).setL (by omega) (makeAt s i).pic.toNat (.int .i64 (leftF s x i (makeAt s i).pic.toNat - (wishAt s i).many))) hg1 hg2)).drew).drew
        clear HT ht hin hd
        go_wp2_with fail
        go_region
        generalize (V.setCell ⟨bL, (makeAt s i).pic.toNat, none⟩ (.int .i64 (leftF s x i (makeAt s i).pic.toNat - (wishAt s i).many))).drew.drew = U at *
        clear hlv hlf e0 e1 e2 y0 y1 y2 H2 K2 HKV HWB HLB Hb2 H1 K1 Hb1
        obtain ⟨bm, om, e3, hbm, -, m1⟩ := H3.out.store.makeC ok hi
        obtain ⟨bt, ot, e5, hbt, -⟩ := (H3.out.store.takeC ok hi).int (k := 0) (by rw [(ok.make _ (makeAt_mem ok hi)).2.2.1]; have := ok.ns; omega)
        rw [e5] at m1
        have hAt := H3.out.store.takeC ok hi
        rw [take_tab ok hi, e5] at hAt
        have HAt := Lib.hid hAt
        have E3 := Lib.hid e3
        have hp := ok.puz hi
        have hw0 := ok.wishOk hi
        have p0 : 0 ≤ (wishAt s i).puz := hw0.1
        have p1 : (wishAt s i).puz < s.makes.length := hw0.2.1
        have l3 := H3.out.store.l3
        have q1 := bring_bd ok hi
        have q2 := gainTo_bd ok x (n := i) (by omega)
        have wr1 : IntKind.i64.wrap ((i : Int) + 1) = (i : Int) + 1 := IntWalk.i64_in _ (by omega)
        have wr2 : IntKind.i64.wrap (gainTo s x i + bringS s i) = gainTo s x i + bringS s i := IntWalk.i64_in _ (by unfold bringS; omega)
        have HKS := Lib.hid (show ∀ W', Below U.heap.size U W' → (W'.cell? ⟨bF, 0, none⟩ = some (.func (.func 79) #[] #[.pointer (some ⟨bS, 0, none⟩), .pointer (some ⟨bO, 0, none⟩), .pointer (some ⟨bF, 0, none⟩), .pointer (some ⟨bL, 0, none⟩)]) ∧ W'.cell? ⟨bS, 0, none⟩ = some (.slice s.A1 s.sheets.length s.c1) ∧ W'.cell? ⟨bS, 1, none⟩ = some (.slice s.A2 s.lics.length s.c2) ∧ W'.cell? ⟨bS, 2, none⟩ = some (.slice (some ⟨bm, om, none⟩) s.makes.length s.c3) ∧ W'.cell? ⟨bS, 3, none⟩ = some (.slice s.A4 s.wishes.length s.c4) ∧ W'.cell? ⟨bw, 0, none⟩ = some (.int .i64 (wishAt s i).puz) ∧ W'.cell? ⟨bw, 1, none⟩ = some (.int .i64 (wishAt s i).many) ∧ W'.cell? ⟨bw, 2, none⟩ = some (.int .i64 (wishAt s i).hour) ∧ W'.cell? ⟨bw, 3, none⟩ = some (.int .i64 (wishAt s i).price) ∧ W'.cell? ⟨bw, 4, none⟩ = some (.int .i64 (wishAt s i).ship) ∧ W'.cell? ⟨bm, om + (wishAt s i).puz.toNat * 2 + 1, none⟩ = some (.slice (some ⟨bt, ot, none⟩) s.sheets.length (makeAt s i).c)) from fun W' h => by
          have hx := H3.out.next h
          have hb := HW3.out.next h
          exact ⟨hx.fn, hx.box.c0, hx.box.c1, by rw [← E3.out]; exact hx.box.c2, hx.box.c3, hb.c0, hb.c1, hb.c2, hb.c3, hb.c4, ((bcell h).1 _ _ (by omega)).trans m1⟩)
        have H3' := Lib.hid (show OnW s B0 bS bL bO bF (leftF s (x + 2 ^ i) (i + 1)) o1 U from by rw [funext (leftF_take s hx)]; exact H3.out)
        have orE : bits BinOp.or IntKind.i64 (x : Int) (IntKind.i64.wrap (2 ^ i)) = ((x + 2 ^ i : Nat) : Int) := by
          have hp2 : 2 ^ i ≤ 2 ^ 9 := Nat.pow_le_pow_right (by omega) (by omega)
          have e : IntKind.i64.wrap ((2 : Int) ^ i) = ((2 ^ i : Nat) : Int) := by
            rw [show ((2 : Int) ^ i) = ((2 ^ i : Nat) : Int) by rw [Int.natCast_pow]; rfl]
            exact IntWalk.i64_in _ (by omega)
          rw [e]; exact i64_or_add hx (by omega)
        have HOR := Lib.hid orE
        clear hw0 q1 q2 hAt e3 e5 m1 orE
        go_wp2_with fail
        refine wp_region_noPanic ?_
        refine wp_region_held_drew (S := (fun W' => W'.cell? ⟨bF, 0, none⟩ = some (.func (.func 79) #[] #[.pointer (some ⟨bS, 0, none⟩), .pointer (some ⟨bO, 0, none⟩), .pointer (some ⟨bF, 0, none⟩), .pointer (some ⟨bL, 0, none⟩)]) ∧ W'.cell? ⟨bS, 0, none⟩ = some (.slice s.A1 s.sheets.length s.c1) ∧ W'.cell? ⟨bS, 1, none⟩ = some (.slice s.A2 s.lics.length s.c2) ∧ W'.cell? ⟨bS, 2, none⟩ = some (.slice (some ⟨bm, om, none⟩) s.makes.length s.c3) ∧ W'.cell? ⟨bS, 3, none⟩ = some (.slice s.A4 s.wishes.length s.c4) ∧ W'.cell? ⟨bw, 0, none⟩ = some (.int .i64 (wishAt s i).puz) ∧ W'.cell? ⟨bw, 1, none⟩ = some (.int .i64 (wishAt s i).many) ∧ W'.cell? ⟨bw, 2, none⟩ = some (.int .i64 (wishAt s i).hour) ∧ W'.cell? ⟨bw, 3, none⟩ = some (.int .i64 (wishAt s i).price) ∧ W'.cell? ⟨bw, 4, none⟩ = some (.int .i64 (wishAt s i).ship) ∧ W'.cell? ⟨bm, om + (wishAt s i).puz.toNat * 2 + 1, none⟩ = some (.slice (some ⟨bt, ot, none⟩) s.sheets.length (makeAt s i).c))) (by kernel_rfl) ?_ (fun hHeld => ?_)
        · (try dsimp only); exact HKS.out _ (Below.refl _ _).drew
        refine htake (i := 0) (v := ?v34) rfl (by kernel_rfl) (by kernel_rfl) (by kernel_rfl) (fun _ _ _ h => h) (Or.inl ⟨by rfl, ?hy34⟩) (by assumption) ?_
        case hy34 => (intro w hSw; (try dsimp only at hSw); go_simp; try (with_reducible rfl))
        try simp only [Act.put, List.setIfInBounds_toArray, List.set_cons_zero, List.set_cons_succ]
        refine htake (i := 1) (v := ?v35) rfl (by kernel_rfl) (by kernel_rfl) (by kernel_rfl) (fun _ _ _ h => h) (Or.inl ⟨by rfl, ?hy35⟩) (by assumption) ?_
        case hy35 => (intro w hSw; (try dsimp only at hSw); go_simp; try (with_reducible rfl))
        try simp only [Act.put, List.setIfInBounds_toArray, List.set_cons_zero, List.set_cons_succ]
        refine htake (i := 2) (v := ?v36) rfl (by kernel_rfl) (by kernel_rfl) (by kernel_rfl) (fun _ _ _ h => h) (Or.inl ⟨by rfl, ?hy36⟩) (by assumption) ?_
        case hy36 => (intro w hSw; (try dsimp only at hSw); go_simp; try (with_reducible rfl))
        try simp only [Act.put, List.setIfInBounds_toArray, List.set_cons_zero, List.set_cons_succ]
        refine htake (i := 3) (v := ?v37) rfl (by kernel_rfl) (by kernel_rfl) (by kernel_rfl) (fun _ _ _ h => h) (Or.inl ⟨by rfl, ?hy37⟩) (by assumption) ?_
        case hy37 => (intro w hSw; (try dsimp only at hSw); go_simp; try (with_reducible rfl))
        try simp only [Act.put, List.setIfInBounds_toArray, List.set_cons_zero, List.set_cons_succ]
        refine htake (i := 4) (v := ?v38) rfl (by kernel_rfl) (by kernel_rfl) (by kernel_rfl) (fun _ _ _ h => h) (Or.inl ⟨by rfl, ?hy38⟩) (by assumption) ?_
        case hy38 => (intro w hSw; (try dsimp only at hSw); go_simp; try (with_reducible rfl))
        try simp only [Act.put, List.setIfInBounds_toArray, List.set_cons_zero, List.set_cons_succ]
        refine htake (i := 5) (v := ?v39) rfl (by kernel_rfl) (by kernel_rfl) (by kernel_rfl) (fun _ _ _ h => h) (Or.inl ⟨by rfl, ?hy39⟩) (by assumption) ?_
        case hy39 => (intro w hSw; (try dsimp only at hSw); go_simp; try (with_reducible rfl))
        try simp only [Act.put, List.setIfInBounds_toArray, List.set_cons_zero, List.set_cons_succ]
        refine htake (i := 6) (v := ?v40) rfl (by kernel_rfl) (by kernel_rfl) (by kernel_rfl) (fun _ _ _ h => h) (Or.inl ⟨by rfl, ?hy40⟩) (by assumption) ?_
        case hy40 => (intro w hSw; (try dsimp only at hSw); go_simp; try (with_reducible rfl))
        try simp only [Act.put, List.setIfInBounds_toArray, List.set_cons_zero, List.set_cons_succ]
        refine htake (i := 7) (v := ?v41) rfl (by kernel_rfl) (by kernel_rfl) (by kernel_rfl) (fun _ _ _ h => h) (Or.inl ⟨by rfl, ?hy41⟩) (by assumption) ?_
        case hy41 => (intro w hSw; (try dsimp only at hSw); go_simp; try (with_reducible rfl))
        try simp only [Act.put, List.setIfInBounds_toArray, List.set_cons_zero, List.set_cons_succ]
        refine htake (i := 8) (v := ?v42) rfl (by kernel_rfl) (by kernel_rfl) (by kernel_rfl) (fun _ _ _ h => h) (Or.inl ⟨by rfl, ?hy42⟩) (by assumption) ?_
        case hy42 => (intro w hSw; (try dsimp only at hSw); go_simp; try (with_reducible rfl))
        try simp only [Act.put, List.setIfInBounds_toArray, List.set_cons_zero, List.set_cons_succ]
        refine htake (i := 9) (v := ?v43) rfl (by kernel_rfl) (by kernel_rfl) (by kernel_rfl) (fun _ _ _ h => h) (Or.inl ⟨by rfl, ?hy43⟩) (by assumption) ?_
        case hy43 => (intro w hSw; (try dsimp only at hSw); go_simp; try (with_reducible rfl))
        try simp only [Act.put, List.setIfInBounds_toArray, List.set_cons_zero, List.set_cons_succ]
        refine htake (i := 12) (v := ?v44) rfl (by kernel_rfl) (by kernel_rfl) (by kernel_rfl) (fun _ _ _ h => h) (Or.inl ⟨by rfl, ?hy44⟩) (by assumption) ?_
        case hy44 => (intro w hSw; (try dsimp only at hSw); go_simp; try (with_reducible rfl))
        try simp only [Act.put, List.setIfInBounds_toArray, List.set_cons_zero, List.set_cons_succ]
        refine htake (i := 13) (v := ?v45) rfl (by kernel_rfl) (by kernel_rfl) (by kernel_rfl) (fun _ _ _ h => h) (Or.inl ⟨by rfl, ?hy45⟩) (by assumption) ?_
        case hy45 => (intro w hSw; (try dsimp only at hSw); go_simp; try (with_reducible rfl))
        try simp only [Act.put, List.setIfInBounds_toArray, List.set_cons_zero, List.set_cons_succ]
        refine htake (i := 14) (v := ?v46) rfl (by kernel_rfl) (by kernel_rfl) (by kernel_rfl) (fun _ _ _ h => h) (Or.inl ⟨by rfl, ?hy46⟩) (by assumption) ?_
        case hy46 => (intro w hSw; (try dsimp only at hSw); go_simp; try (with_reducible rfl))
        try simp only [Act.put, List.setIfInBounds_toArray, List.set_cons_zero, List.set_cons_succ]
        refine htake (i := 15) (v := ?v47) rfl (by kernel_rfl) (by kernel_rfl) (by kernel_rfl) (fun _ _ _ h => h) (Or.inl ⟨by rfl, ?hy47⟩) (by assumption) ?_
        case hy47 => (intro w hSw; (try dsimp only at hSw); go_simp; try (with_reducible rfl))
        try simp only [Act.put, List.setIfInBounds_toArray, List.set_cons_zero, List.set_cons_succ]
        refine htake (i := 16) (v := ?v48) rfl (by kernel_rfl) (by kernel_rfl) (by kernel_rfl) (fun _ _ _ h => h) (Or.inl ⟨by rfl, ?hy48⟩) (by assumption) ?_
        case hy48 => (intro w hSw; (try dsimp only at hSw); go_simp; try (with_reducible rfl))
        try simp only [Act.put, List.setIfInBounds_toArray, List.set_cons_zero, List.set_cons_succ]
        refine htake (i := 17) (v := ?v49) rfl (by kernel_rfl) (by kernel_rfl) (by kernel_rfl) (fun _ _ _ h => h) (Or.inl ⟨by rfl, ?hy49⟩) (by assumption) ?_
        case hy49 => (intro w hSw; (try dsimp only at hSw); go_simp; try (with_reducible rfl))
        try simp only [Act.put, List.setIfInBounds_toArray, List.set_cons_zero, List.set_cons_succ]
        refine htake (i := 18) (v := ?v50) rfl (by kernel_rfl) (by kernel_rfl) (by kernel_rfl) (fun _ _ _ h => h) (Or.inl ⟨by rfl, ?hy50⟩) (by assumption) ?_
        case hy50 => (intro w hSw; (try dsimp only at hSw); go_simp; try (with_reducible rfl))
        try simp only [Act.put, List.setIfInBounds_toArray, List.set_cons_zero, List.set_cons_succ]
        refine htake (i := 19) (v := ?v51) rfl (by kernel_rfl) (by kernel_rfl) (by kernel_rfl) (fun _ _ _ h => h) (Or.inl ⟨by rfl, ?hy51⟩) (by assumption) ?_
        case hy51 => (intro w hSw; (try dsimp only at hSw); go_simp; try (with_reducible rfl))
        try simp only [Act.put, List.setIfInBounds_toArray, List.set_cons_zero, List.set_cons_succ]
        refine htake (i := 20) (v := ?v52) rfl (by kernel_rfl) (by kernel_rfl) (by kernel_rfl) (fun _ _ _ h => h) (Or.inl ⟨by rfl, ?hy52⟩) (by assumption) ?_
        case hy52 => (intro w hSw; (try dsimp only at hSw); go_simp; try (with_reducible rfl))
        try simp only [Act.put, List.setIfInBounds_toArray, List.set_cons_zero, List.set_cons_succ]
        refine htake (i := 21) (v := ?v53) rfl (by kernel_rfl) (by kernel_rfl) (by kernel_rfl) (fun _ _ _ h => h) (Or.inl ⟨by rfl, ?hy53⟩) (by assumption) ?_
        case hy53 => (intro w hSw; (try dsimp only at hSw); go_simp; try (with_reducible rfl))
        try simp only [Act.put, List.setIfInBounds_toArray, List.set_cons_zero, List.set_cons_succ]
        refine htake (i := 22) (v := ?v54) rfl (by kernel_rfl) (by kernel_rfl) (by kernel_rfl) (fun _ _ _ h => h) (Or.inl ⟨by rfl, ?hy54⟩) (by assumption) ?_
        case hy54 => (intro w hSw; (try dsimp only at hSw); go_simp; try (with_reducible rfl))
        try simp only [Act.put, List.setIfInBounds_toArray, List.set_cons_zero, List.set_cons_succ]
        refine wpAnyH_ready (rs := [10]) (by kernel_rfl) (by simp) ?_
        refine hcons rfl (fun K hK => ?_) (AllReadyH.nil)
        go_simp
        rw [← E3.out]; (with_reducible refine (brings_any s i _ ok hi ?_).mono ?_); (exact (H3.out.next (Below.refl _ _).drew).at_); rintro e w2 ⟨rfl, hb2⟩; have hk2 : Below U.heap.size U w2 := (Below.refl _ _).drew.trans hb2
        refine hK.out _ _ ?_ (fun hHeld => ?_)
        · (try dsimp only); exact HKS.out _ hk2
        clear hK K
        try simp only [Act.put, List.setIfInBounds_toArray, List.set_cons_zero, List.set_cons_succ]
        refine htake (i := 11) (v := ?v55) rfl (by kernel_rfl) (by kernel_rfl) (by kernel_rfl) (fun _ _ _ h => h) (Or.inl ⟨by rfl, ?hy55⟩) (by assumption) ?_
        case hy55 => (intro w hSw; (try dsimp only at hSw); go_simp; try (with_reducible rfl))
        try simp only [Act.put, List.setIfInBounds_toArray, List.set_cons_zero, List.set_cons_succ]
        refine wpAnyH_ready (rs := [23]) (by kernel_rfl) (by simp) ?_
        refine hcons rfl (fun K hK => ?_) (AllReadyH.nil)
        go_simp
        (with_reducible refine (plus_any g 0 c bt ot (makeAt s i).c s.sheets.length (fun j => takeTo s x j i) (takeAt s i) (wishAt s i).many _ ?_ ?_ ?_ ?_ ?_ ?_).mono ?_); (exact ⟨ok.ns.1, by have := ok.ns; omega⟩); (exact (Hb3.out.next hk2).at_); (exact (HAt.out.below (hk2.mono (by omega))).more (by have := hk2.size; omega)); (exact fun j _ => by have := takeTo_bd ok x j (n := i) (by omega); omega); (exact fun j _ => takeAt_bd ok hi j); (exact by omega); rintro e w3 ⟨g3', c3', rfl, hc3', hg3', hblk3, hb3⟩; have hk3 := below_step hb3 hk2 (Nat.le_refl U.heap.size)
        refine hK.out _ _ ?_ (fun hHeld => ?_)
        · (try dsimp only); exact HKS.out _ hk3
        clear hK K
        try simp only [Act.put, List.setIfInBounds_toArray, List.set_cons_zero, List.set_cons_succ]
        refine wpAnyH_ready (rs := [24]) (by kernel_rfl) (by simp) ?_
        refine hcons rfl (fun K hK => ?_) (AllReadyH.nil)
        go_simp
        rw [HOR.out, ← gainTo_take s hx, show ((i : Int) + 1) = ((i + 1 : Nat) : Int) from rfl]; (with_reducible refine (IH.out (i + 1) (x + 2 ^ i) o1 g3' c3' _ ?_ ?_ ?_ ?_ ?_ ?_).mono ?_); (exact by omega); (exact add_lt_pow hx); (exact H3'.out.next hk3); (exact hblk3.congr (fun j => takeTo_take s j hx)); (exact by have := hk2.size; omega); (exact by have := hk2.size; omega); rintro e w4 ⟨rfl, h4, k4⟩; have hkw3 := hk3.size
        refine hK.out _ _ ?_ (fun hHeld => ?_)
        · (try dsimp only); exact ⟨h4.fn, h4.box.c0, h4.box.c1, by rw [← E3.out]; exact h4.box.c2, h4.box.c3, (((HW3.out.next hk3).onk k4 (by omega) (by omega))).c0, (((HW3.out.next hk3).onk k4 (by omega) (by omega))).c1, (((HW3.out.next hk3).onk k4 (by omega) (by omega))).c2, (((HW3.out.next hk3).onk k4 (by omega) (by omega))).c3, (((HW3.out.next hk3).onk k4 (by omega) (by omega))).c4, by rw [k4.below.cell (p := ⟨bm, om + (wishAt s i).puz.toNat * 2 + 1, none⟩) hbm]; exact (HKS.out _ hk3).2.2.2.2.2.2.2.2.2.2⟩
        clear hK K
        try simp only [Act.put, List.setIfInBounds_toArray, List.set_cons_zero, List.set_cons_succ]
        refine wpAnyH_done (by kernel_rfl) ?_ _
        refine NoPanic.normal ?_
        iterate 26 (try clear hHeld)
        have H4 := Lib.hid h4
        have K4 := Lib.hid (K3.out.trans ((OnK.of_below (bL := bL) (bO := bO) hk3 (by omega)).trans k4))
        have hlv := h4.left.cell _ g3
        rw [leftF_take s hx, if_pos rfl] at hlv
        have hlf := h4.left.free (makeAt s i).pic.toNat
        have hmc := ((HW3.out.next hk3).onk k4 (by omega) (by omega)).c1
        have HLF := Lib.hid (fun p => leftF_take s hx p)
        have hL4 : bL < w4.heap.size := h4.left.lt
        have hwr : IntKind.i64.wrap (leftF s x i (makeAt s i).pic.toNat - (wishAt s i).many + (wishAt s i).many) = leftF s x i (makeAt s i).pic.toNat := by rw [Int.sub_add_cancel]; exact IntWalk.i64_in _ (by omega)
        clear h4 k4 hk2 hk3 hb2 hb3 hblk3 wr1 wr2
        go_wp2_with fail
        go_region
        go_end0
        refine ⟨rfl, ?_, (K4.out.setL (by omega) _ _).drew⟩
        rw [ED.out]
        refine (H4.out.setL (f' := leftF s x i) g3 rfl (fun p hp => ?_)).drew
        rw [HLF.out p, if_neg (Ne.symm hp)]; omega
end Go.Proofs.YtfffhbolaimmdaaDoor
