import Derived.Test.YtkcfpnpejaekjaaDoorM3
namespace Go.Proofs.YtkcfpnpejaekjaaDoor
open Go.RowKit
/-! The law's helper between. -/
def RetBt (m : Mt) (k : Nat) (h : Int) (w : World) (e : Ending) (w' : World) : Prop := ∃ mx : Mt, e = .returned (.agg #[.int .i64 mx.t.n, .slice mx.A1 mx.t.loans.length mx.c1, .slice mx.A2 mx.t.looks.length mx.c2, .slice mx.A3 mx.t.admits.length mx.c3]) ∧ mx.t = btw m.t k h ∧ TaleAt w' w'.heap.size mx ∧ Below w.heap.size w w'
theorem wrap_pow {k : Nat} (hk : k ≤ 62) : IntKind.i64.wrap ((2 : Int) ^ k) = powI k := by
  have := Nat.pow_le_pow_right (n := 2) (by decide) hk
  unfold powI
  rw [show ((2 : Int) ^ k) = ((2 ^ k : Nat) : Int) by push_cast; rfl]
  exact IntWalk.i64_in _ (by generalize 2 ^ k = a at *; omega)
theorem shl_pow {k : Nat} (hk : k ≤ 62) : Op.shift BinOp.shl IntKind.i64 1 IntKind.i64 (k : Int) = pure (.int .i64 (powI k)) := by
  rw [shift_shl _ _ _ _ (by omega) (by show (k : Int) ≤ 64; omega), Int.toNat_natCast, Int.one_mul, wrap_pow hk]
set_option maxRecDepth 100000 in
set_option maxHeartbeats 4000000 in
theorem between_any (m : Mt) (k : Nat) (h : Int) (w : World) (hd : TaleAt w w.heap.size m) (he : Env w) (hk : k ≤ 62) (hh : 0 ≤ h ∧ h ≤ 1048576) (hfl : m.t.looks.length ≤ 25) : Calls Tryd.prog 27 #[.agg #[.int .i64 m.t.n, .slice m.A1 m.t.loans.length m.c1, .slice m.A2 m.t.looks.length m.c2, .slice m.A3 m.t.admits.length m.c3], .int .i64 k, .int .i64 h] w (RetBt m k h w) := by
  have K := Lib.hid (show LwT m w.heap.size (w.alloc (.cells #[.int .i64 m.t.n, .slice m.A1 m.t.loans.length m.c1, .slice m.A2 m.t.looks.length m.c2, .slice m.A3 m.t.admits.length m.c3] 26)) from ⟨hd.next (nxA _ _), he.next (nxA _ _), Bx.new w #[.int .i64 m.t.n, .slice m.A1 m.t.loans.length m.c1, .slice m.A2 m.t.looks.length m.c2, .slice m.A3 m.t.admits.length m.c3] 26⟩)
  have HB := Lib.hid (nxA w (.cells #[.int .i64 m.t.n, .slice m.A1 m.t.loans.length m.c1, .slice m.A2 m.t.looks.length m.c2, .slice m.A3 m.t.admits.length m.c3] 26))
  have h1 : (w.alloc (.cells #[.int .i64 m.t.n, .slice m.A1 m.t.loans.length m.c1, .slice m.A2 m.t.looks.length m.c2, .slice m.A3 m.t.admits.length m.c3] 26)).heap.size = w.heap.size + 1 := by simp
  have hshl := shl_pow hk
  have hsw : IntKind.i64.wrap (2 ^ k) = powI k := wrap_pow hk
  have HD0 := Lib.hid hd
  have hw : IntKind.i64.wrap (h + 1) = h + 1 := IntWalk.i64_in _ (by omega)
  clear hd he
  go_enter Tryd.func27, Tryd.ntmps27
  go_upto_region 1 with fail
  generalize (w.alloc (.cells #[.int .i64 m.t.n, .slice m.A1 m.t.loans.length m.c1, .slice m.A2 m.t.looks.length m.c2, .slice m.A3 m.t.admits.length m.c3] 26)) = V0 at *
  have hA := nxA V0 (.cells #[.int .i64 0, .slice none 0 0, .slice none 0 0, .slice none 0 0] 26)
  replace K := Lib.hid (K.out.next hA)
  replace HB := Lib.hid (HB.out.trans (hA.mono HB.out.size))
  have Y2 := Lib.hid (Bx.new V0 #[.int .i64 0, .slice none 0 0, .slice none 0 0, .slice none 0 0] 26)
  clear hA
  rw [h1] at Y2
  generalize (V0.alloc (.cells #[.int .i64 0, .slice none 0 0, .slice none 0 0, .slice none 0 0] 26)) = V2 at *
  clear h1
  have p0 := K.out.bx.c 0 _ rfl
  have p1 := K.out.bx.c 1 _ rfl
  have p2 := K.out.bx.c 2 _ rfl
  have p3 := K.out.bx.c 3 _ rfl
  go_upto_region 2 with fail
  have NA := Lib.hid (nxA V2 (.cells #[.int .i64 m.t.n, .slice m.A1 m.t.loans.length m.c1, .slice m.A2 m.t.looks.length m.c2, .slice m.A3 m.t.admits.length m.c3] 26))
  have X9 := Lib.hid (Bx.new V2 #[.int .i64 m.t.n, .slice m.A1 m.t.loans.length m.c1, .slice m.A2 m.t.looks.length m.c2, .slice m.A3 m.t.admits.length m.c3] 26)
  have N9 := Lib.hid (show V2.heap.size < (V2.alloc (.cells #[.int .i64 m.t.n, .slice m.A1 m.t.loans.length m.c1, .slice m.A2 m.t.looks.length m.c2, .slice m.A3 m.t.admits.length m.c3] 26)).heap.size from X9.out.lt)
  generalize (V2.alloc (.cells #[.int .i64 m.t.n, .slice m.A1 m.t.loans.length m.c1, .slice m.A2 m.t.looks.length m.c2, .slice m.A3 m.t.admits.length m.c3] 26)) = U at *
  obtain ⟨b9, hb9⟩ : ∃ b, b = V2.heap.size := ⟨_, rfl⟩
  have L9 := Lib.hid (show V2.heap.size ≤ b9 by omega)
  have M9 := Lib.hid (show b9 < U.heap.size by have := N9.out; omega)
  rw [← hb9] at X9 ⊢
  clear hb9 N9
  clear p0 p1 p2 p3
  have hK1 := K.out.bx.lt
  have hY2 := Y2.out.lt
  have HS := Lib.hid (show ∀ W : World, Below U.heap.size U W → (W.cell? ⟨w.heap.size, 2, none⟩ = some (.slice m.A2 m.t.looks.length m.c2)) from fun W h => (K.out.next (NA.out.trans (h.mono NA.out.size))).bx.c 2 _ rfl)
  have HL := Lib.hid (show ∀ W : World, Below U.heap.size U W → At W U.heap.size 3 Look.cells m.A2 m.t.looks from fun W h => ((K.out.next NA.out).ta.lk.below h))
  have hc : Below U.heap.size U U.drew := (Below.refl _ _).drew
  obtain ⟨ib, gi, gz0, gz1, gz2⟩ := info_parts sight_info
  go_cut [] (fun wx => MoreAt V2 b9 m (m.t.looks ++ [⟨h, powI k, 0⟩, ⟨h + 1, 0, powI k⟩]) wx)
  case first =>
    refine wp_region_noPanic ?_
    refine wp_region_held_drew (S := (fun W => W.cell? ⟨w.heap.size, 2, none⟩ = some (.slice m.A2 m.t.looks.length m.c2))) (by kernel_rfl) ?_ (fun hHeld => ?_)
    · (try dsimp only); exact HS.out _ hc
    refine htake (i := 1) (v := ?v1) rfl (by kernel_rfl) (by kernel_rfl) (by kernel_rfl) (fun _ _ _ h => h) (Or.inl ⟨by rfl, ?hy1⟩) (by assumption) ?_
    case hy1 => (intro w hSw; (try dsimp only at hSw); go_simp; try (with_reducible rfl))
    try simp only [Act.put, List.setIfInBounds_toArray, List.set_cons_zero, List.set_cons_succ]
    refine htake (i := 2) (v := ?v2) rfl (by kernel_rfl) (by kernel_rfl) (by kernel_rfl) (fun _ _ _ h => h) (Or.inl ⟨by rfl, ?hy2⟩) (by assumption) ?_
    case hy2 => (intro w hSw; (try dsimp only at hSw); go_simp; try (with_reducible rfl))
    try simp only [Act.put, List.setIfInBounds_toArray, List.set_cons_zero, List.set_cons_succ]
    refine htake (i := 4) (v := ?v3) rfl (by kernel_rfl) (by kernel_rfl) (by kernel_rfl) (fun _ _ _ h => h) (Or.inl ⟨by rfl, ?hy3⟩) (by assumption) ?_
    case hy3 => (intro w hSw; (try dsimp only at hSw); go_simp; try (with_reducible rfl))
    try simp only [Act.put, List.setIfInBounds_toArray, List.set_cons_zero, List.set_cons_succ]
    refine htake (i := 5) (v := ?v4) rfl (by kernel_rfl) (by kernel_rfl) (by kernel_rfl) (fun _ _ _ h => h) (Or.inl ⟨by rfl, ?hy4⟩) (by assumption) ?_
    case hy4 => (intro w hSw; (try dsimp only at hSw); go_simp; try (with_reducible rfl))
    try simp only [Act.put, List.setIfInBounds_toArray, List.set_cons_zero, List.set_cons_succ]
    refine htake (i := 6) (v := ?v5) rfl (by kernel_rfl) (by kernel_rfl) (by kernel_rfl) (fun _ _ _ h => h) (Or.inl ⟨by rfl, ?hy5⟩) (by assumption) ?_
    case hy5 => (intro w hSw; (try dsimp only at hSw); go_simp; try (with_reducible rfl))
    try simp only [Act.put, List.setIfInBounds_toArray, List.set_cons_zero, List.set_cons_succ]
    refine htake (i := 7) (v := ?v6) rfl (by kernel_rfl) (by kernel_rfl) (by kernel_rfl) (fun _ _ _ h => h) (Or.inl ⟨by rfl, ?hy6⟩) (by assumption) ?_
    case hy6 => (intro w hSw; (try dsimp only at hSw); go_simp; try (with_reducible rfl))
    try simp only [Act.put, List.setIfInBounds_toArray, List.set_cons_zero, List.set_cons_succ]
    refine htake (i := 8) (v := ?v7) rfl (by kernel_rfl) (by kernel_rfl) (by kernel_rfl) (fun _ _ _ h => h) (Or.inl ⟨by rfl, ?hy7⟩) (by assumption) ?_
    case hy7 => (intro w hSw; (try dsimp only at hSw); go_simp; try (with_reducible rfl))
    try simp only [Act.put, List.setIfInBounds_toArray, List.set_cons_zero, List.set_cons_succ]
    refine htake (i := 9) (v := ?v8) rfl (by kernel_rfl) (by kernel_rfl) (by kernel_rfl) (fun _ _ _ h => h) (Or.inl ⟨by rfl, ?hy8⟩) (by assumption) ?_
    case hy8 => (intro w hSw; (try dsimp only at hSw); go_simp; try (with_reducible rfl))
    try simp only [Act.put, List.setIfInBounds_toArray, List.set_cons_zero, List.set_cons_succ]
    refine htake (i := 10) (v := ?v9) rfl (by kernel_rfl) (by kernel_rfl) (by kernel_rfl) (fun _ _ _ h => h) (Or.inl ⟨by rfl, ?hy9⟩) (by assumption) ?_
    case hy9 => (intro w hSw; (try dsimp only at hSw); go_simp; try (with_reducible rfl))
    try simp only [Act.put, List.setIfInBounds_toArray, List.set_cons_zero, List.set_cons_succ]
    refine htake (i := 11) (v := ?v10) rfl (by kernel_rfl) (by kernel_rfl) (by kernel_rfl) (fun _ _ _ h => h) (Or.inl ⟨by rfl, ?hy10⟩) (by assumption) ?_
    case hy10 => (intro w hSw; (try dsimp only at hSw); go_simp; try (with_reducible rfl))
    try simp only [Act.put, List.setIfInBounds_toArray, List.set_cons_zero, List.set_cons_succ]
    refine htake (i := 12) (v := ?v11) rfl (by kernel_rfl) (by kernel_rfl) (by kernel_rfl) (fun _ _ _ h => h) (Or.inl ⟨by rfl, ?hy11⟩) (by assumption) ?_
    case hy11 => (intro w hSw; (try dsimp only at hSw); go_simp; try (with_reducible rfl))
    try simp only [Act.put, List.setIfInBounds_toArray, List.set_cons_zero, List.set_cons_succ]
    refine wpAnyH_ready (rs := [0, 13]) (by kernel_rfl) (by simp) ?_
    refine hcons rfl (fun K hK => ?_) (hcons rfl (fun K hK => ?_) (AllReadyH.nil))
    go_simp
    (first | refine hold_alloc (fun wa hq1 hq2 hq3 => ?_) | refine hold_alloc_drew (fun wa hq1 hq2 hq3 => ?_)); have hg0 := hq2.lt; have ho := own_empty (size := 3) (base := U.heap.size) hq3 hc.size; (first | replace hc := hc.trans (hq1.mono hc.size) | replace hc := hq1); (try replace hn := hn.next hq1); clear hq1 hq2 hq3
    refine hK.out _ _ ?_ (fun hHeld => ?_)
    · (try dsimp only); exact HS.out _ hc
    clear hK K
    try simp only [Act.put, List.setIfInBounds_toArray, List.set_cons_zero, List.set_cons_succ]
    refine wpAnyH_ready (rs := [3, 13]) (by kernel_rfl) (by simp) ?_
    refine hcons rfl (fun K hK => ?_) (hcons rfl (fun K hK => ?_) (AllReadyH.nil))
    refine step_append_list rfl (.tmp 9) (.tmp 11) 23 rfl U.heap.size 50 ib (.agg #[.int .i64 0, .int .i64 0, .int .i64 0]) 3 24 Tryd.underlying23 gi gz0 gz1 gz2 rfl (by decide) (fun _ => rfl) sight_one _ 0 [] rfl ho m.A2 m.t.looks m.c2 U.heap.size rfl (HL.out _ hc) (by unfold maxLen; omega) (by omega) hc.size ?_; intro v3 w3 ho3 hg3; (try replace hn := hn.grown hg3 (fun e => by injection e with e; (try simp only at e); omega)); replace hc := grown_from hc hg3 hc.size (fun g e => (ho.lt g e).1); clear hg3
    refine hK.out _ _ ?_ (fun hHeld => ?_)
    · (try dsimp only); exact HS.out _ hc
    clear hK K
    try simp only [Act.put, List.setIfInBounds_toArray, List.set_cons_zero, List.set_cons_succ]
    refine wpAnyH_ready (rs := [13]) (by kernel_rfl) (by simp) ?_
    refine hcons rfl (fun K hK => ?_) (AllReadyH.nil)
    go_simp
    (first | refine hold_alloc (fun wb hq1 hq2 hq3 => ?_) | refine hold_alloc_drew (fun wb hq1 hq2 hq3 => ?_)); have hg5 := hq2.lt; (try replace ho := own_below ho hq1); (try replace ho3 := own_below ho3 hq1); (first | replace hc := hc.trans (hq1.mono hc.size) | replace hc := hq1); have hn := hq2; clear hq1 hq2 hq3
    refine hK.out _ _ ?_ (fun hHeld => ?_)
    · (try dsimp only); exact HS.out _ hc
    clear hK K
    try simp only [Act.put, List.setIfInBounds_toArray, List.set_cons_zero, List.set_cons_succ]
    refine wpAnyH_ready (rs := [14]) (by kernel_rfl) (by simp) ?_
    refine hcons rfl (fun K hK => ?_) (AllReadyH.nil)
    refine step_append_any rfl (.tmp 12) (.tmp 22) 23 rfl U.heap.size 50 ib (.agg #[.int .i64 0, .int .i64 0, .int .i64 0]) 3 24 Tryd.underlying23 gi gz0 gz1 gz2 rfl (by decide) v3 (0 + m.t.looks.length) ([] ++ m.t.looks.flatMap Look.cells) rfl ho3 ⟨_, 0, none⟩ 2 2 (([⟨h, powI k, 0⟩, ⟨h + 1, 0, powI k⟩] : List Look).flatMap Look.cells) rfl rfl hn.news (fun u hu => by obtain ⟨y, -, hy⟩ := List.mem_flatMap.1 hu; exact sight_one y u hy) (by unfold maxLen; omega) (by omega) hc.size ?_; intro v6 w6 ho6 hg6; replace hc := grown_from hc hg6 hc.size (fun g e => (ho3.lt g e).1); clear hg6; rw [Nat.zero_add, List.nil_append] at ho6; obtain ⟨A6, c6, rfl, -⟩ := own_form ho6
    refine hK.out _ _ ?_ (fun hHeld => ?_)
    · (try dsimp only); exact HS.out _ hc
    clear hK K
    try simp only [Act.put, List.setIfInBounds_toArray, List.set_cons_zero, List.set_cons_succ]
    refine htake (i := 15) (v := ?v12) rfl (by kernel_rfl) (by kernel_rfl) (by kernel_rfl) (fun _ _ _ h => h) (Or.inl ⟨by rfl, ?hy12⟩) (by assumption) ?_
    case hy12 => (intro w hSw; (try dsimp only at hSw); go_simp; try (with_reducible rfl))
    try simp only [Act.put, List.setIfInBounds_toArray, List.set_cons_zero, List.set_cons_succ]
    refine wpAnyH_ready (rs := [16]) (by kernel_rfl) (by simp) ?_
    refine hcons rfl (fun K hK => ?_) (AllReadyH.nil)
    have z0 := (X9.out.next hc).c 2 _ rfl; have z1 := (X9.out.next hc).fr 2; go_simp
    refine hK.out _ _ ?_ (fun hHeld => ?_)
    · (try dsimp only); exact (World.cell?_setCell_other _ _ _ _ (by intro e; injection e with e; have := L9.out; have := M9.out; omega)).trans (HS.out _ hc)
    clear hK K
    try simp only [Act.put]
    refine wpAnyH_done (by kernel_rfl) ?_ _
    refine NoPanic.normal ?_
    rotate_left
    go_simp
    (first | refine hold_alloc (fun wb hq1 hq2 hq3 => ?_) | refine hold_alloc_drew (fun wb hq1 hq2 hq3 => ?_)); have hg5 := hq2.lt; (try replace ho := own_below ho hq1); (try replace ho3 := own_below ho3 hq1); (first | replace hc := hc.trans (hq1.mono hc.size) | replace hc := hq1); have hn := hq2; clear hq1 hq2 hq3
    refine hK.out _ _ ?_ (fun hHeld => ?_)
    · (try dsimp only); exact HS.out _ hc
    clear hK K
    try simp only [Act.put, List.setIfInBounds_toArray, List.set_cons_zero, List.set_cons_succ]
    refine wpAnyH_ready (rs := [3]) (by kernel_rfl) (by simp) ?_
    refine hcons rfl (fun K hK => ?_) (AllReadyH.nil)
    refine step_append_list rfl (.tmp 9) (.tmp 11) 23 rfl U.heap.size 50 ib (.agg #[.int .i64 0, .int .i64 0, .int .i64 0]) 3 24 Tryd.underlying23 gi gz0 gz1 gz2 rfl (by decide) (fun _ => rfl) sight_one _ 0 [] rfl ho m.A2 m.t.looks m.c2 U.heap.size rfl (HL.out _ hc) (by unfold maxLen; omega) (by omega) hc.size ?_; intro v3 w3 ho3 hg3; (try replace hn := hn.grown hg3 (fun e => by injection e with e; (try simp only at e); omega)); replace hc := grown_from hc hg3 hc.size (fun g e => (ho.lt g e).1); clear hg3
    refine hK.out _ _ ?_ (fun hHeld => ?_)
    · (try dsimp only); exact HS.out _ hc
    clear hK K
    try simp only [Act.put, List.setIfInBounds_toArray, List.set_cons_zero, List.set_cons_succ]
    refine wpAnyH_ready (rs := [14]) (by kernel_rfl) (by simp) ?_
    refine hcons rfl (fun K hK => ?_) (AllReadyH.nil)
    refine step_append_any rfl (.tmp 12) (.tmp 22) 23 rfl U.heap.size 50 ib (.agg #[.int .i64 0, .int .i64 0, .int .i64 0]) 3 24 Tryd.underlying23 gi gz0 gz1 gz2 rfl (by decide) v3 (0 + m.t.looks.length) ([] ++ m.t.looks.flatMap Look.cells) rfl ho3 ⟨_, 0, none⟩ 2 2 (([⟨h, powI k, 0⟩, ⟨h + 1, 0, powI k⟩] : List Look).flatMap Look.cells) rfl rfl hn.news (fun u hu => by obtain ⟨y, -, hy⟩ := List.mem_flatMap.1 hu; exact sight_one y u hy) (by unfold maxLen; omega) (by omega) hc.size ?_; intro v6 w6 ho6 hg6; replace hc := grown_from hc hg6 hc.size (fun g e => (ho3.lt g e).1); clear hg6; rw [Nat.zero_add, List.nil_append] at ho6; obtain ⟨A6, c6, rfl, -⟩ := own_form ho6
    refine hK.out _ _ ?_ (fun hHeld => ?_)
    · (try dsimp only); exact HS.out _ hc
    clear hK K
    try simp only [Act.put, List.setIfInBounds_toArray, List.set_cons_zero, List.set_cons_succ]
    refine htake (i := 15) (v := ?v13) rfl (by kernel_rfl) (by kernel_rfl) (by kernel_rfl) (fun _ _ _ h => h) (Or.inl ⟨by rfl, ?hy13⟩) (by assumption) ?_
    case hy13 => (intro w hSw; (try dsimp only at hSw); go_simp; try (with_reducible rfl))
    try simp only [Act.put, List.setIfInBounds_toArray, List.set_cons_zero, List.set_cons_succ]
    refine wpAnyH_ready (rs := [16]) (by kernel_rfl) (by simp) ?_
    refine hcons rfl (fun K hK => ?_) (AllReadyH.nil)
    have z0 := (X9.out.next hc).c 2 _ rfl; have z1 := (X9.out.next hc).fr 2; go_simp
    refine hK.out _ _ ?_ (fun hHeld => ?_)
    · (try dsimp only); exact (World.cell?_setCell_other _ _ _ _ (by intro e; injection e with e; have := L9.out; have := M9.out; omega)).trans (HS.out _ hc)
    clear hK K
    try simp only [Act.put]
    refine wpAnyH_done (by kernel_rfl) ?_ _
    refine NoPanic.normal ?_
    rotate_left
    go_simp
    (first | refine hold_alloc (fun wb hq1 hq2 hq3 => ?_) | refine hold_alloc_drew (fun wb hq1 hq2 hq3 => ?_)); have hg5 := hq2.lt; (try replace ho := own_below ho hq1); (try replace ho3 := own_below ho3 hq1); (first | replace hc := hc.trans (hq1.mono hc.size) | replace hc := hq1); have hn := hq2; clear hq1 hq2 hq3
    refine hK.out _ _ ?_ (fun hHeld => ?_)
    · (try dsimp only); exact HS.out _ hc
    clear hK K
    try simp only [Act.put, List.setIfInBounds_toArray, List.set_cons_zero, List.set_cons_succ]
    refine wpAnyH_ready (rs := [0]) (by kernel_rfl) (by simp) ?_
    refine hcons rfl (fun K hK => ?_) (AllReadyH.nil)
    go_simp
    (first | refine hold_alloc (fun wa hq1 hq2 hq3 => ?_) | refine hold_alloc_drew (fun wa hq1 hq2 hq3 => ?_)); have hg0 := hq2.lt; have ho := own_empty (size := 3) (base := U.heap.size) hq3 hc.size; (first | replace hc := hc.trans (hq1.mono hc.size) | replace hc := hq1); (try replace hn := hn.next hq1); clear hq1 hq2 hq3
    refine hK.out _ _ ?_ (fun hHeld => ?_)
    · (try dsimp only); exact HS.out _ hc
    clear hK K
    try simp only [Act.put, List.setIfInBounds_toArray, List.set_cons_zero, List.set_cons_succ]
    refine wpAnyH_ready (rs := [3]) (by kernel_rfl) (by simp) ?_
    refine hcons rfl (fun K hK => ?_) (AllReadyH.nil)
    refine step_append_list rfl (.tmp 9) (.tmp 11) 23 rfl U.heap.size 50 ib (.agg #[.int .i64 0, .int .i64 0, .int .i64 0]) 3 24 Tryd.underlying23 gi gz0 gz1 gz2 rfl (by decide) (fun _ => rfl) sight_one _ 0 [] rfl ho m.A2 m.t.looks m.c2 U.heap.size rfl (HL.out _ hc) (by unfold maxLen; omega) (by omega) hc.size ?_; intro v3 w3 ho3 hg3; (try replace hn := hn.grown hg3 (fun e => by injection e with e; (try simp only at e); omega)); replace hc := grown_from hc hg3 hc.size (fun g e => (ho.lt g e).1); clear hg3
    refine hK.out _ _ ?_ (fun hHeld => ?_)
    · (try dsimp only); exact HS.out _ hc
    clear hK K
    try simp only [Act.put, List.setIfInBounds_toArray, List.set_cons_zero, List.set_cons_succ]
    refine wpAnyH_ready (rs := [14]) (by kernel_rfl) (by simp) ?_
    refine hcons rfl (fun K hK => ?_) (AllReadyH.nil)
    refine step_append_any rfl (.tmp 12) (.tmp 22) 23 rfl U.heap.size 50 ib (.agg #[.int .i64 0, .int .i64 0, .int .i64 0]) 3 24 Tryd.underlying23 gi gz0 gz1 gz2 rfl (by decide) v3 (0 + m.t.looks.length) ([] ++ m.t.looks.flatMap Look.cells) rfl ho3 ⟨_, 0, none⟩ 2 2 (([⟨h, powI k, 0⟩, ⟨h + 1, 0, powI k⟩] : List Look).flatMap Look.cells) rfl rfl hn.news (fun u hu => by obtain ⟨y, -, hy⟩ := List.mem_flatMap.1 hu; exact sight_one y u hy) (by unfold maxLen; omega) (by omega) hc.size ?_; intro v6 w6 ho6 hg6; replace hc := grown_from hc hg6 hc.size (fun g e => (ho3.lt g e).1); clear hg6; rw [Nat.zero_add, List.nil_append] at ho6; obtain ⟨A6, c6, rfl, -⟩ := own_form ho6
    refine hK.out _ _ ?_ (fun hHeld => ?_)
    · (try dsimp only); exact HS.out _ hc
    clear hK K
    try simp only [Act.put, List.setIfInBounds_toArray, List.set_cons_zero, List.set_cons_succ]
    refine htake (i := 15) (v := ?v14) rfl (by kernel_rfl) (by kernel_rfl) (by kernel_rfl) (fun _ _ _ h => h) (Or.inl ⟨by rfl, ?hy14⟩) (by assumption) ?_
    case hy14 => (intro w hSw; (try dsimp only at hSw); go_simp; try (with_reducible rfl))
    try simp only [Act.put, List.setIfInBounds_toArray, List.set_cons_zero, List.set_cons_succ]
    refine wpAnyH_ready (rs := [16]) (by kernel_rfl) (by simp) ?_
    refine hcons rfl (fun K hK => ?_) (AllReadyH.nil)
    have z0 := (X9.out.next hc).c 2 _ rfl; have z1 := (X9.out.next hc).fr 2; go_simp
    refine hK.out _ _ ?_ (fun hHeld => ?_)
    · (try dsimp only); exact (World.cell?_setCell_other _ _ _ _ (by intro e; injection e with e; have := L9.out; have := M9.out; omega)).trans (HS.out _ hc)
    clear hK K
    try simp only [Act.put]
    refine wpAnyH_done (by kernel_rfl) ?_ _
    refine NoPanic.normal ?_
    iterate 18 (try clear hHeld)
    all_goals (go_wp2_with fail; go_meet)
    all_goals (exact more_at (X9.out.next hc) L9.out (NA.out.trans (hc.mono NA.out.size)) (by simp) M9.out (by simp) (own_more ho6))
  case rest =>
    have MA := Lib.hid hcut
    clear hcut hc gi gz0 gz1 gz2 HS HL NA X9 L9 M9
    generalize wc = V3 at *
    obtain ⟨A9, c9, hc9, hX9, hA9, hL9⟩ := MA.out.at_
    have X9 := Lib.hid hX9
    have HA9 := Lib.hid hA9
    have HC9 := Lib.hid hc9
    have HL9 := Lib.hid hL9
    have hb := MA.out.bw
    replace Y2 := Lib.hid (Y2.out.next hb)
    replace K := Lib.hid (K.out.next hb)
    replace HB := Lib.hid (HB.out.trans (hb.mono HB.out.size))
    clear hb hX9 hA9 hc9 hL9 MA
    obtain ⟨L, hL⟩ : ∃ L : List Look, m.t.looks ++ [⟨h, powI k, 0⟩, ⟨h + 1, 0, powI k⟩] = L := ⟨_, rfl⟩
    rw [hL] at X9 HA9 HC9
    have HLEN := Lib.hid (show L.length = m.t.looks.length + 2 by rw [← hL]; simp)
    have HMT := Lib.hid (show ({ m.t with looks := L } : Tl) = btw m.t k h by rw [← hL]; rfl)
    clear hL
    have hX9 := X9.out
    dsimp only [lookM, Mt.cells] at hX9
    have c0 := hX9.c 0 _ rfl
    have c1 := hX9.c 1 _ rfl
    have c2 := hX9.c 2 _ rfl
    have c3 := hX9.c 3 _ rfl
    have d0 := Y2.out.c 0 _ rfl
    have d1 := Y2.out.c 1 _ rfl
    have d2 := Y2.out.c 2 _ rfl
    have d3 := Y2.out.c 3 _ rfl
    have f0 := Y2.out.fr 0
    have f1 := Y2.out.fr 1
    have f2 := Y2.out.fr 2
    have f3 := Y2.out.fr 3
    have hl := X9.out.lt
    have hl2 := Y2.out.lt
    have YN := Lib.hid (Y2.out.setAll [.int .i64 m.t.n, .slice m.A1 m.t.loans.length m.c1, .slice A9 L.length c9, .slice m.A3 m.t.admits.length m.c3] rfl)
    have BN := Lib.hid (below_setCells (b := w.heap.size + 1) (by omega) [.int .i64 m.t.n, .slice m.A1 m.t.loans.length m.c1, .slice A9 L.length c9, .slice m.A3 m.t.admits.length m.c3] 0 HB.out)
    have SZ := Lib.hid (setCells_size (w.heap.size + 1) [.int .i64 m.t.n, .slice m.A1 m.t.loans.length m.c1, .slice A9 L.length c9, .slice m.A3 m.t.admits.length m.c3] 0 V3)
    have TN := Lib.hid (lookM_tale (m := m) (l := L) (A := A9) (c := c9) ((HD0.out.below BN.out).more BN.out.size) (by rw [HLEN.out]; omega) HC9.out ((HA9.out.keepBlk (b := w.heap.size + 1) (fun a ha => by have := HL9.out a ha; omega) 0 [.int .i64 m.t.n, .slice m.A1 m.t.loans.length m.c1, .slice A9 L.length c9, .slice m.A3 m.t.admits.length m.c3]).more (by rw [SZ.out]; exact Nat.le_refl _)))
    clear hX9 hl hl2
    go_wp2_with fail
    (try simp only [Exit.inBlock, Exit.then])
    refine bodyPost_ret (results_cell1 rfl rfl (run_loadVar_mid _ _ _ _ _ _ YN.out.range tale_und rfl tale_size)) rfl ?_
    exact ⟨lookM m L A9 c9, rfl, HMT.out, TN.out, BN.out⟩
end Go.Proofs.YtkcfpnpejaekjaaDoor
