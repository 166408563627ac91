import Derived.Test.YtonnemkecppmiaaGreatDoorP13
namespace Go.Proofs.YtonnemkecppmiaaGreatDoor
open Go.RowKit
/-! The program: sums of bytes; the bytes of a side. -/
def u8v (c : UInt8) : Value := .int .u8 (c.toNat : Int)
def u8c (c : UInt8) : List Value := [u8v c]
/-- A list of bytes at A. -/
abbrev BsAt (w : World) (B : Nat) (A : Option Addr) (t : Tx) : Prop := At w B 1 u8c A t
theorem sumB_snoc (l : Tx) (x : UInt8) : sumB (l ++ [x]) = sumB l + x := by rw [sum_app]; congr 1; show (0 : UInt8) + x = x; simp
theorem u8_add (a b : UInt8) : (((a.toNat : Int) + (b.toNat : Int)) % 256) = (((a + b).toNat : Nat) : Int) := by rw [UInt8.toNat_add]; omega
def RSm (l : Tx) (w0 : World) (v i : Value) (w : World) : Prop := ∃ k : Nat, k ≤ l.length ∧ i = .int .i64 k ∧ v = u8v (sumB (l.take k)) ∧ w = w0
theorem sumB_take {l : Tx} {k : Nat} (hk : k < l.length) : sumB (l.take (k + 1)) = sumB (l.take k) + l[k] := by
  rw [List.take_succ_eq_append_getElem hk, sumB_snoc]
set_option maxRecDepth 100000 in
set_option maxHeartbeats 1000000 in
theorem sum_any (A : Option Addr) (c : Nat) (l : Tx) (w : World) (h : BsAt w w.heap.size A l) (hl : l.length ≤ 1000000) : Calls Tryz.prog 52 #[.slice A l.length c] w (RetQ (u8v (sumB l)) w) := by
  have HL := Lib.hid h
  clear h
  go_enter Tryz.func52, Tryz.ntmps52
  go_wp2
  go_loopw [2, 7] (fun v i wr => RSm l w v i wr) (fun _ i _ => l.length - (intOf i).toNat)
  case atStart => exact ⟨0, by omega, rfl, rfl, rfl⟩
  case round =>
    obtain ⟨k, hk, rfl, rfl, hw⟩ := hrel
    have hw2 := hw.symm
    clear hw
    subst hw2
    by_cases hlt : k < l.length
    · obtain ⟨q, off, hA, hbk, hcs⟩ := HL.out k l[k] (List.getElem?_eq_getElem hlt)
      have hc := hcs 0 _ rfl
      rw [Nat.mul_one, Nat.add_zero] at hc
      have HT := Lib.hid (sumB_take hlt)
      generalize l[k] = x at hc HT
      change _ = some (Value.int .u8 (x.toNat : Int)) at hc
      have hwk : IntKind.i64.wrap ((k : Int) + 1) = (k : Int) + 1 := IntWalk.i64_in _ (by omega)
      have hadd := u8_add (sumB (l.take k)) x
      rw [← HT.out] at hadd
      unfold u8v
      generalize (sumB (l.take k)).toNat = a at hadd ⊢
      have HS := Lib.hid (show (Value.int .u8 ((sumB (l.take (k + 1))).toNat : Int)) = u8v (sumB (l.take (k + 1))) from rfl)
      generalize hb : (sumB (l.take (k + 1))).toNat = b at hadd HS
      have HAD := Lib.hid hadd
      clear hcs hb hadd
      subst hA
      go_wp2_with fail
      (first | (refine ⟨?_, ?_⟩; (unfold RSm; exact ⟨k + 1, by omega, by go_num, by rw [HAD.out]; exact HS.out, rfl⟩); (simp [intOf]; omega)) | (go_roundw; (case rel => (unfold RSm; exact ⟨k + 1, by omega, by go_num, by rw [HAD.out]; exact HS.out, rfl⟩)); (case measure => (simp [intOf]; omega))) | (go_round; (case rel => (unfold RSm; exact ⟨k + 1, by omega, by go_num, by rw [HAD.out]; exact HS.out, rfl⟩)); (case measure => (simp [intOf]; omega))))
    · obtain rfl : k = l.length := by omega
      rw [List.take_length]
      unfold u8v
      go_wp2_with fail
      go_ret
      exact ⟨rfl, rfl⟩
theorem own_new {w : World} {base n : Nat} {e : TypeId} (vs : Array Value) (hn : vs.size = n) (hb : base ≤ w.heap.size) (hm : n ≤ 1000) : (w.alloc (.cells vs e)).ownsRow base e 1 (.slice (some ⟨w.heap.size, 0, none⟩) n n) n vs.toList :=
  ⟨by simp [hn], .inr ⟨w.heap.size, n, vs, rfl, hb, heap_alloc_new w _, Nat.le_refl _, by unfold maxLen; omega, by omega, by subst hn; rw [Nat.mul_one]; exact List.take_of_length_le (by simp)⟩⟩
set_option maxHeartbeats 400000 in
theorem flatBytes_any (w : World) : Calls Tryz.prog 170 #[.agg #[]] w (RetBs [0] w) := by
  go_enter Tryz.func170, Tryz.ntmps170
  go_wp2
  go_ret
  have h1 := own_new (w := w.alloc (.cells #[] 154)) (base := w.heap.size) (n := 1) (e := 5) #[.int .u8 0] rfl (nxA w _).size (by decide)
  rw [World.size_alloc] at h1
  exact ⟨_, rfl, h1, (nxA w _).trans ((nxA _ _).mono (nxA w _).size)⟩
theorem at_bx {α : Type} {w : World} {g : Nat} {f : α → Value} {l : List α} (h : Bx w g (l.map f)) : At w w.heap.size 1 (fun x => [f x]) (some ⟨g, 0, none⟩) l := fun k x hx => by
  refine ⟨g, 0, rfl, h.lt, fun j u hu => ?_⟩
  rcases j with _ | j
  · injection hu with hu
    subst hu
    rw [Nat.zero_add, Nat.mul_one, Nat.add_zero]
    exact h.c k _ (by rw [List.getElem?_map, hx]; rfl)
  · cases hu
theorem sl_bx {w : World} {g : Nat} {t : Tx} {c : Nat} (h : Bx w g (Lib.byteCells t)) : SlAt w w.heap.size ⟨t, g, 0, c⟩ := ⟨h.lt, fun j u hu => by rw [Nat.zero_add]; exact h.c j u hu⟩
theorem sl_own {w : World} {base g cap n : Nat} {t : Tx} (h : w.ownsRow base 5 1 (.slice (some ⟨g, 0, none⟩) n cap) t.length (Lib.byteCells t)) : SlAt w w.heap.size ⟨t, g, 0, cap⟩ :=
  ⟨(h.lt g rfl).2, fun j u hu => by
    have := h.cells (g := g) rfl j u hu
    rw [addr_add] at this
    exact this⟩
theorem sl_two {w : World} {x y : Sl} (hx : SlAt w w.heap.size x) (hy : SlAt w w.heap.size y) : ∀ s ∈ [x, y], SlAt w w.heap.size s := fun s hs => by
  simp only [List.mem_cons, List.not_mem_nil, or_false] at hs
  rcases hs with rfl | rfl
  · exact hx
  · exact hy
theorem own_base {w : World} {base base' : Nat} {e : TypeId} {size : Nat} {v : Value} {n : Nat} {xs : List Value} (h : w.ownsRow base e size v n xs) (hb : base' ≤ base) : w.ownsRow base' e size v n xs :=
  ⟨h.1, h.2.imp id fun ⟨g, cap, cur, h1, h2, h3⟩ => ⟨g, cap, cur, h1, Nat.le_trans hb h2, h3⟩⟩
theorem SlAt.next {w w' : World} {s : Sl} (h : SlAt w w.heap.size s) (hb : Below w.heap.size w w') : SlAt w' w'.heap.size s := ⟨Nat.lt_of_lt_of_le h.1 hb.size, (h.below hb).2⟩
set_option maxRecDepth 100000 in
set_option maxHeartbeats 4000000 in
theorem bowedBytes_core (k a0 a1 b0 b1 c0 c1 : Nat) (hk : k < 256) (h1 : a0 < 100000) (h2 : a1 < 100000) (h3 : b0 < 100000) (h4 : b1 < 100000) (h5 : c0 < 100000) (h6 : c1 < 100000) (w : World) :
    Calls Tryz.prog 172 #[.agg #[.int .i64 k, .int .i64 a0, .int .i64 ((a0 : Int) + a1), .int .i64 b0, .int .i64 ((b0 : Int) + b1), .int .i64 c0, .int .i64 ((c0 : Int) + c1)]] w (RetBs (UInt8.ofNat k :: [a0, a1, b0, b1, c0, c1].flatMap grp) w) := by
  have hkm : IntKind.u8.wrap (k : Int) = (k : Int) := by rw [IntKind.wrap_u8]; omega
  have HU8 := Lib.hid (u8_of hk)
  have HL := Lib.hid (show ∀ x ∈ [a0, a1, b0, b1, c0, c1], x < 2097152 by intro x hx; simp only [List.mem_cons, List.not_mem_nil, or_false] at hx; omega)
  have HGL := Lib.hid (grps_len _ HL.out)
  have HGP := Lib.hid (show 0 < ([a0, a1, b0, b1, c0, c1].flatMap grp).length by have := (grp_len (show a0 < 2097152 by omega)).2; rw [List.flatMap_cons, List.length_append]; omega)
  obtain ⟨L, hL⟩ : ∃ L, [a0, a1, b0, b1, c0, c1].flatMap grp = L := ⟨_, rfl⟩
  rw [hL] at HGP HGL ⊢
  have HLL := Lib.hid hL
  clear hL
  obtain ⟨kb, hkb⟩ : ∃ kb, UInt8.ofNat k = kb := ⟨_, rfl⟩
  rw [hkb] at HU8 ⊢
  clear hkb
  go_enter Tryz.func172, Tryz.ntmps172
  have HB0 := Lib.hid (nxA w (.cells #[.int .i64 k, .int .i64 a0, .int .i64 ((a0 : Int) + a1), .int .i64 b0, .int .i64 ((b0 : Int) + b1), .int .i64 c0, .int .i64 ((c0 : Int) + c1)] 155))
  have HX0 := Lib.hid (Bx.new w #[.int .i64 k, .int .i64 a0, .int .i64 ((a0 : Int) + a1), .int .i64 b0, .int .i64 ((b0 : Int) + b1), .int .i64 c0, .int .i64 ((c0 : Int) + c1)] 155)
  go_upto_region 1 with fail
  generalize (w.alloc (.cells #[.int .i64 k, .int .i64 a0, .int .i64 ((a0 : Int) + a1), .int .i64 b0, .int .i64 ((b0 : Int) + b1), .int .i64 c0, .int .i64 ((c0 : Int) + c1)] 155)) = V at *
  obtain ⟨b, hb⟩ : ∃ b, b = w.heap.size := ⟨_, rfl⟩
  rw [← hb] at HX0 ⊢
  have HBB := Lib.hid hb
  clear hb
  have HS := Lib.hid (show ∀ W : World, Below V.heap.size V W → (W.cell? ⟨b, 0, none⟩ = some (.int .i64 k) ∧ W.cell? ⟨b, 1, none⟩ = some (.int .i64 a0) ∧ W.cell? ⟨b, 2, none⟩ = some (.int .i64 ((a0 : Int) + a1)) ∧ W.cell? ⟨b, 3, none⟩ = some (.int .i64 b0) ∧ W.cell? ⟨b, 4, none⟩ = some (.int .i64 ((b0 : Int) + b1)) ∧ W.cell? ⟨b, 5, none⟩ = some (.int .i64 c0) ∧ W.cell? ⟨b, 6, none⟩ = some (.int .i64 ((c0 : Int) + c1))) from fun W h => ⟨(HX0.out.next h).c 0 _ rfl, (HX0.out.next h).c 1 _ rfl, (HX0.out.next h).c 2 _ rfl, (HX0.out.next h).c 3 _ rfl, (HX0.out.next h).c 4 _ rfl, (HX0.out.next h).c 5 _ rfl, (HX0.out.next h).c 6 _ rfl⟩)
  have hw1 : IntKind.i64.wrap ((a0 : Int) + a1 - a0) = (a1 : Int) := by rw [IntWalk.i64_in _ (by omega)]; omega
  have hw2 : IntKind.i64.wrap ((b0 : Int) + b1 - b0) = (b1 : Int) := by rw [IntWalk.i64_in _ (by omega)]; omega
  have hw3 : IntKind.i64.wrap ((c0 : Int) + c1 - c0) = (c1 : Int) := by rw [IntWalk.i64_in _ (by omega)]; omega
  have HBK := Lib.hid (show ∀ (W : World) (g : Nat), Bx W g #[.int .u8 (k : Int)].toList → Bx W g (Lib.byteCells [kb]) from fun W g h => by
    rw [show Lib.byteCells [kb] = [.int .u8 (kb.toNat : Int)] from rfl, HU8.out]; exact h)
  have HC := Lib.hid ((Below.refl V.heap.size V).drew)
  have HZ := Lib.hid HB0.out.size
  refine wp_region_noPanic ?_
  refine wp_region_held_drew (S := (fun W => W.cell? ⟨b, 0, none⟩ = some (.int .i64 k) ∧ W.cell? ⟨b, 1, none⟩ = some (.int .i64 a0) ∧ W.cell? ⟨b, 2, none⟩ = some (.int .i64 ((a0 : Int) + a1)) ∧ W.cell? ⟨b, 3, none⟩ = some (.int .i64 b0) ∧ W.cell? ⟨b, 4, none⟩ = some (.int .i64 ((b0 : Int) + b1)) ∧ W.cell? ⟨b, 5, none⟩ = some (.int .i64 c0) ∧ W.cell? ⟨b, 6, none⟩ = some (.int .i64 ((c0 : Int) + c1)))) (by kernel_rfl) ?_ (fun hHeld => ?_)
  · (try dsimp only); exact HS.out _ HC.out
  refine htake (i := 0) (v := ?v1) rfl (by kernel_rfl) (by kernel_rfl) (by kernel_rfl) (fun _ _ _ h => h) (Or.inl ⟨by rfl, ?hy1⟩) (by assumption) ?_
  case hy1 => (intro w hSw; (try dsimp only at hSw); go_simp; try (with_reducible rfl))
  try simp only [Act.put, List.setIfInBounds_toArray, List.set_cons_zero, List.set_cons_succ]
  refine htake (i := 1) (v := ?v2) rfl (by kernel_rfl) (by kernel_rfl) (by kernel_rfl) (fun _ _ _ h => h) (Or.inl ⟨by rfl, ?hy2⟩) (by assumption) ?_
  case hy2 => (intro w hSw; (try dsimp only at hSw); go_simp; try (with_reducible rfl))
  try simp only [Act.put, List.setIfInBounds_toArray, List.set_cons_zero, List.set_cons_succ]
  refine htake (i := 2) (v := ?v3) rfl (by kernel_rfl) (by kernel_rfl) (by kernel_rfl) (fun _ _ _ h => h) (Or.inl ⟨by rfl, ?hy3⟩) (by assumption) ?_
  case hy3 => (intro w hSw; (try dsimp only at hSw); go_simp; try (with_reducible rfl))
  try simp only [Act.put, List.setIfInBounds_toArray, List.set_cons_zero, List.set_cons_succ]
  refine htake (i := 4) (v := ?v4) rfl (by kernel_rfl) (by kernel_rfl) (by kernel_rfl) (fun _ _ _ h => h) (Or.inl ⟨by rfl, ?hy4⟩) (by assumption) ?_
  case hy4 => (intro w hSw; (try dsimp only at hSw); go_simp; try (with_reducible rfl))
  try simp only [Act.put, List.setIfInBounds_toArray, List.set_cons_zero, List.set_cons_succ]
  refine htake (i := 5) (v := ?v5) rfl (by kernel_rfl) (by kernel_rfl) (by kernel_rfl) (fun _ _ _ h => h) (Or.inl ⟨by rfl, ?hy5⟩) (by assumption) ?_
  case hy5 => (intro w hSw; (try dsimp only at hSw); go_simp; try (with_reducible rfl))
  try simp only [Act.put, List.setIfInBounds_toArray, List.set_cons_zero, List.set_cons_succ]
  refine htake (i := 6) (v := ?v6) rfl (by kernel_rfl) (by kernel_rfl) (by kernel_rfl) (fun _ _ _ h => h) (Or.inl ⟨by rfl, ?hy6⟩) (by assumption) ?_
  case hy6 => (intro w hSw; (try dsimp only at hSw); go_simp; try (with_reducible rfl))
  try simp only [Act.put, List.setIfInBounds_toArray, List.set_cons_zero, List.set_cons_succ]
  refine htake (i := 7) (v := ?v7) rfl (by kernel_rfl) (by kernel_rfl) (by kernel_rfl) (fun _ _ _ h => h) (Or.inl ⟨by rfl, ?hy7⟩) (by assumption) ?_
  case hy7 => (intro w hSw; (try dsimp only at hSw); go_simp; try (with_reducible rfl))
  try simp only [Act.put, List.setIfInBounds_toArray, List.set_cons_zero, List.set_cons_succ]
  refine htake (i := 8) (v := ?v8) rfl (by kernel_rfl) (by kernel_rfl) (by kernel_rfl) (fun _ _ _ h => h) (Or.inl ⟨by rfl, ?hy8⟩) (by assumption) ?_
  case hy8 => (intro w hSw; (try dsimp only at hSw); go_simp; try (with_reducible rfl))
  try simp only [Act.put, List.setIfInBounds_toArray, List.set_cons_zero, List.set_cons_succ]
  refine htake (i := 9) (v := ?v9) rfl (by kernel_rfl) (by kernel_rfl) (by kernel_rfl) (fun _ _ _ h => h) (Or.inl ⟨by rfl, ?hy9⟩) (by assumption) ?_
  case hy9 => (intro w hSw; (try dsimp only at hSw); go_simp; try (with_reducible rfl))
  try simp only [Act.put, List.setIfInBounds_toArray, List.set_cons_zero, List.set_cons_succ]
  refine htake (i := 10) (v := ?v10) rfl (by kernel_rfl) (by kernel_rfl) (by kernel_rfl) (fun _ _ _ h => h) (Or.inl ⟨by rfl, ?hy10⟩) (by assumption) ?_
  case hy10 => (intro w hSw; (try dsimp only at hSw); go_simp; try (with_reducible rfl))
  try simp only [Act.put, List.setIfInBounds_toArray, List.set_cons_zero, List.set_cons_succ]
  refine htake (i := 11) (v := ?v11) rfl (by kernel_rfl) (by kernel_rfl) (by kernel_rfl) (fun _ _ _ h => h) (Or.inl ⟨by rfl, ?hy11⟩) (by assumption) ?_
  case hy11 => (intro w hSw; (try dsimp only at hSw); go_simp; try (with_reducible rfl))
  try simp only [Act.put, List.setIfInBounds_toArray, List.set_cons_zero, List.set_cons_succ]
  refine htake (i := 12) (v := ?v12) rfl (by kernel_rfl) (by kernel_rfl) (by kernel_rfl) (fun _ _ _ h => h) (Or.inl ⟨by rfl, ?hy12⟩) (by assumption) ?_
  case hy12 => (intro w hSw; (try dsimp only at hSw); go_simp; try (with_reducible rfl))
  try simp only [Act.put, List.setIfInBounds_toArray, List.set_cons_zero, List.set_cons_succ]
  refine htake (i := 13) (v := ?v13) rfl (by kernel_rfl) (by kernel_rfl) (by kernel_rfl) (fun _ _ _ h => h) (Or.inl ⟨by rfl, ?hy13⟩) (by assumption) ?_
  case hy13 => (intro w hSw; (try dsimp only at hSw); go_simp; try (with_reducible rfl))
  try simp only [Act.put, List.setIfInBounds_toArray, List.set_cons_zero, List.set_cons_succ]
  refine htake (i := 14) (v := ?v14) rfl (by kernel_rfl) (by kernel_rfl) (by kernel_rfl) (fun _ _ _ h => h) (Or.inl ⟨by rfl, ?hy14⟩) (by assumption) ?_
  case hy14 => (intro w hSw; (try dsimp only at hSw); go_simp; try (with_reducible rfl))
  try simp only [Act.put, List.setIfInBounds_toArray, List.set_cons_zero, List.set_cons_succ]
  refine htake (i := 15) (v := ?v15) rfl (by kernel_rfl) (by kernel_rfl) (by kernel_rfl) (fun _ _ _ h => h) (Or.inl ⟨by rfl, ?hy15⟩) (by assumption) ?_
  case hy15 => (intro w hSw; (try dsimp only at hSw); go_simp; try (with_reducible rfl))
  try simp only [Act.put, List.setIfInBounds_toArray, List.set_cons_zero, List.set_cons_succ]
  refine htake (i := 16) (v := ?v16) rfl (by kernel_rfl) (by kernel_rfl) (by kernel_rfl) (fun _ _ _ h => h) (Or.inl ⟨by rfl, ?hy16⟩) (by assumption) ?_
  case hy16 => (intro w hSw; (try dsimp only at hSw); go_simp; try (with_reducible rfl))
  try simp only [Act.put, List.setIfInBounds_toArray, List.set_cons_zero, List.set_cons_succ]
  refine htake (i := 17) (v := ?v17) rfl (by kernel_rfl) (by kernel_rfl) (by kernel_rfl) (fun _ _ _ h => h) (Or.inl ⟨by rfl, ?hy17⟩) (by assumption) ?_
  case hy17 => (intro w hSw; (try dsimp only at hSw); go_simp; try (with_reducible rfl))
  try simp only [Act.put, List.setIfInBounds_toArray, List.set_cons_zero, List.set_cons_succ]
  refine htake (i := 18) (v := ?v18) rfl (by kernel_rfl) (by kernel_rfl) (by kernel_rfl) (fun _ _ _ h => h) (Or.inl ⟨by rfl, ?hy18⟩) (by assumption) ?_
  case hy18 => (intro w hSw; (try dsimp only at hSw); go_simp; try (with_reducible rfl))
  try simp only [Act.put, List.setIfInBounds_toArray, List.set_cons_zero, List.set_cons_succ]
  refine htake (i := 19) (v := ?v19) rfl (by kernel_rfl) (by kernel_rfl) (by kernel_rfl) (fun _ _ _ h => h) (Or.inl ⟨by rfl, ?hy19⟩) (by assumption) ?_
  case hy19 => (intro w hSw; (try dsimp only at hSw); go_simp; try (with_reducible rfl))
  try simp only [Act.put, List.setIfInBounds_toArray, List.set_cons_zero, List.set_cons_succ]
  refine htake (i := 20) (v := ?v20) rfl (by kernel_rfl) (by kernel_rfl) (by kernel_rfl) (fun _ _ _ h => h) (Or.inl ⟨by rfl, ?hy20⟩) (by assumption) ?_
  case hy20 => (intro w hSw; (try dsimp only at hSw); go_simp; try (with_reducible rfl))
  try simp only [Act.put, List.setIfInBounds_toArray, List.set_cons_zero, List.set_cons_succ]
  refine htake (i := 21) (v := ?v21) rfl (by kernel_rfl) (by kernel_rfl) (by kernel_rfl) (fun _ _ _ h => h) (Or.inl ⟨by rfl, ?hy21⟩) (by assumption) ?_
  case hy21 => (intro w hSw; (try dsimp only at hSw); go_simp; try (with_reducible rfl))
  try simp only [Act.put, List.setIfInBounds_toArray, List.set_cons_zero, List.set_cons_succ]
  refine htake (i := 22) (v := ?v22) rfl (by kernel_rfl) (by kernel_rfl) (by kernel_rfl) (fun _ _ _ h => h) (Or.inl ⟨by rfl, ?hy22⟩) (by assumption) ?_
  case hy22 => (intro w hSw; (try dsimp only at hSw); go_simp; try (with_reducible rfl))
  try simp only [Act.put, List.setIfInBounds_toArray, List.set_cons_zero, List.set_cons_succ]
  refine htake (i := 23) (v := ?v23) rfl (by kernel_rfl) (by kernel_rfl) (by kernel_rfl) (fun _ _ _ h => h) (Or.inl ⟨by rfl, ?hy23⟩) (by assumption) ?_
  case hy23 => (intro w hSw; (try dsimp only at hSw); go_simp; try (with_reducible rfl))
  try simp only [Act.put, List.setIfInBounds_toArray, List.set_cons_zero, List.set_cons_succ]
  refine htake (i := 24) (v := ?v24) rfl (by kernel_rfl) (by kernel_rfl) (by kernel_rfl) (fun _ _ _ h => h) (Or.inl ⟨by rfl, ?hy24⟩) (by assumption) ?_
  case hy24 => (intro w hSw; (try dsimp only at hSw); go_simp; try (with_reducible rfl))
  try simp only [Act.put, List.setIfInBounds_toArray, List.set_cons_zero, List.set_cons_succ]
  refine htake (i := 25) (v := ?v25) rfl (by kernel_rfl) (by kernel_rfl) (by kernel_rfl) (fun _ _ _ h => h) (Or.inl ⟨by rfl, ?hy25⟩) (by assumption) ?_
  case hy25 => (intro w hSw; (try dsimp only at hSw); go_simp; try (with_reducible rfl))
  try simp only [Act.put, List.setIfInBounds_toArray, List.set_cons_zero, List.set_cons_succ]
  refine htake (i := 26) (v := ?v26) rfl (by kernel_rfl) (by kernel_rfl) (by kernel_rfl) (fun _ _ _ h => h) (Or.inl ⟨by rfl, ?hy26⟩) (by assumption) ?_
  case hy26 => (intro w hSw; (try dsimp only at hSw); go_simp; try (with_reducible rfl))
  try simp only [Act.put, List.setIfInBounds_toArray, List.set_cons_zero, List.set_cons_succ]
  refine htake (i := 27) (v := ?v27) rfl (by kernel_rfl) (by kernel_rfl) (by kernel_rfl) (fun _ _ _ h => h) (Or.inl ⟨by rfl, ?hy27⟩) (by assumption) ?_
  case hy27 => (intro w hSw; (try dsimp only at hSw); go_simp; try (with_reducible rfl))
  try simp only [Act.put, List.setIfInBounds_toArray, List.set_cons_zero, List.set_cons_succ]
  refine htake (i := 28) (v := ?v28) rfl (by kernel_rfl) (by kernel_rfl) (by kernel_rfl) (fun _ _ _ h => h) (Or.inl ⟨by rfl, ?hy28⟩) (by assumption) ?_
  case hy28 => (intro w hSw; (try dsimp only at hSw); go_simp; try (with_reducible rfl))
  try simp only [Act.put, List.setIfInBounds_toArray, List.set_cons_zero, List.set_cons_succ]
  refine htake (i := 29) (v := ?v29) rfl (by kernel_rfl) (by kernel_rfl) (by kernel_rfl) (fun _ _ _ h => h) (Or.inl ⟨by rfl, ?hy29⟩) (by assumption) ?_
  case hy29 => (intro w hSw; (try dsimp only at hSw); go_simp; try (with_reducible rfl))
  try simp only [Act.put, List.setIfInBounds_toArray, List.set_cons_zero, List.set_cons_succ]
  refine htake (i := 30) (v := ?v30) rfl (by kernel_rfl) (by kernel_rfl) (by kernel_rfl) (fun _ _ _ h => h) (Or.inl ⟨by rfl, ?hy30⟩) (by assumption) ?_
  case hy30 => (intro w hSw; (try dsimp only at hSw); go_simp; try (with_reducible rfl))
  try simp only [Act.put, List.setIfInBounds_toArray, List.set_cons_zero, List.set_cons_succ]
  refine htake (i := 31) (v := ?v31) rfl (by kernel_rfl) (by kernel_rfl) (by kernel_rfl) (fun _ _ _ h => h) (Or.inl ⟨by rfl, ?hy31⟩) (by assumption) ?_
  case hy31 => (intro w hSw; (try dsimp only at hSw); go_simp; try (with_reducible rfl))
  try simp only [Act.put, List.setIfInBounds_toArray, List.set_cons_zero, List.set_cons_succ]
  refine htake (i := 32) (v := ?v32) rfl (by kernel_rfl) (by kernel_rfl) (by kernel_rfl) (fun _ _ _ h => h) (Or.inl ⟨by rfl, ?hy32⟩) (by assumption) ?_
  case hy32 => (intro w hSw; (try dsimp only at hSw); go_simp; try (with_reducible rfl))
  try simp only [Act.put, List.setIfInBounds_toArray, List.set_cons_zero, List.set_cons_succ]
  refine htake (i := 33) (v := ?v33) rfl (by kernel_rfl) (by kernel_rfl) (by kernel_rfl) (fun _ _ _ h => h) (Or.inl ⟨by rfl, ?hy33⟩) (by assumption) ?_
  case hy33 => (intro w hSw; (try dsimp only at hSw); go_simp; try (with_reducible rfl))
  try simp only [Act.put, List.setIfInBounds_toArray, List.set_cons_zero, List.set_cons_succ]
  refine wpAnyH_ready (rs := [3, 34]) (by kernel_rfl) (by simp) ?_
  refine hcons rfl (fun K hK => ?_) (hcons rfl (fun K hK => ?_) (AllReadyH.nil))
  go_simp
  (first | refine hold_alloc (fun Wa q1 q2 q3 => ?_) | refine hold_alloc_drew (fun Wa q1 q2 q3 => ?_)); (have HCn : Below V.heap.size V Wa := by first | exact HC.out.trans (q1.mono HC.out.size) | exact q1); (try replace HQ := Lib.hid (HQ.out.next q1)); (try replace HG := Lib.hid (HG.out.next q1)); (have HA := Lib.hid (HBK.out _ _ q2)); replace HC := Lib.hid HCn; clear HCn q1 q2 q3
  refine hK.out _ _ ?_ (fun hHeld => ?_)
  · (try dsimp only); exact HS.out _ HC.out
  clear hK K
  try simp only [Act.put, List.setIfInBounds_toArray, List.set_cons_zero, List.set_cons_succ]
  refine wpAnyH_ready (rs := [34]) (by kernel_rfl) (by simp) ?_
  refine hcons rfl (fun K hK => ?_) (AllReadyH.nil)
  go_simp
  (first | refine hold_alloc (fun Wb q1 q2 q3 => ?_) | refine hold_alloc_drew (fun Wb q1 q2 q3 => ?_)); (have HCn : Below V.heap.size V Wb := by first | exact HC.out.trans (q1.mono HC.out.size) | exact q1); (try replace HA := Lib.hid (HA.out.next q1)); (have HQ := Lib.hid q2); replace HC := Lib.hid HCn; clear HCn q1 q2 q3
  refine hK.out _ _ ?_ (fun hHeld => ?_)
  · (try dsimp only); exact HS.out _ HC.out
  clear hK K
  try simp only [Act.put, List.setIfInBounds_toArray, List.set_cons_zero, List.set_cons_succ]
  refine wpAnyH_ready (rs := [35]) (by kernel_rfl) (by simp) ?_
  refine hcons rfl (fun K hK => ?_) (AllReadyH.nil)
  go_simp
  refine (groups_any (some ⟨_, 0, none⟩) 6 [a0, a1, b0, b1, c0, c1] _ (at_bx (f := fun n : Nat => Value.int .i64 (n : Int)) HQ.out) (by simp) HL.out).mono ?_; rintro e0 V35 ⟨v, rfl, hown, hb⟩; rw [HLL.out] at hown; obtain ⟨g, cap, e0, -⟩ := hown.form HGP.out; subst e0; have HG := Lib.hid (sl_own hown); (try replace HA := Lib.hid (HA.out.next hb)); replace HC := Lib.hid (HC.out.trans (hb.mono HC.out.size)); clear hb hown
  refine hK.out _ _ ?_ (fun hHeld => ?_)
  · (try dsimp only); exact HS.out _ HC.out
  clear hK K
  try simp only [Act.put, List.setIfInBounds_toArray, List.set_cons_zero, List.set_cons_succ]
  refine wpAnyH_ready (rs := [36]) (by kernel_rfl) (by simp) ?_
  refine hcons rfl (fun K hK => ?_) (AllReadyH.nil)
  go_simp
  (first | refine hold_alloc (fun Wc q1 q2 q3 => ?_) | refine hold_alloc_drew (fun Wc q1 q2 q3 => ?_)); replace HA := Lib.hid (HA.out.next q1); replace HG := Lib.hid (HG.out.next q1); (have HQ2 := Lib.hid q2); replace HC := Lib.hid (HC.out.trans (q1.mono HC.out.size)); clear q1 q2 q3
  refine hK.out _ _ ?_ (fun hHeld => ?_)
  · (try dsimp only); exact HS.out _ HC.out
  clear hK K
  try simp only [Act.put, List.setIfInBounds_toArray, List.set_cons_zero, List.set_cons_succ]
  refine wpAnyH_ready (rs := [37]) (by kernel_rfl) (by simp) ?_
  refine hcons rfl (fun K hK => ?_) (AllReadyH.nil)
  go_simp
  refine (concat_any (some ⟨_, 0, none⟩) 2 [⟨[kb], _, 0, 1⟩, ⟨L, g, 0, cap⟩] _ (at_bx (f := Sl.v) HQ2.out) (sl_two (sl_bx HA.out) HG.out) (by simp [catS]) (by have := HGL.out; simp [catS] at this ⊢; omega) (by simp)).mono ?_; rintro e0 V37 ⟨v, rfl, hown, hb⟩; rw [show catS [⟨[kb], _, 0, 1⟩, ⟨L, g, 0, cap⟩] = kb :: L by simp [catS]] at hown; have HOW := Lib.hid (own_base hown (Nat.le_trans HZ.out HC.out.size)); replace HC := Lib.hid (HC.out.trans (hb.mono HC.out.size)); clear hb hown
  refine hK.out _ _ ?_ (fun hHeld => ?_)
  · (try dsimp only); exact HS.out _ HC.out
  clear hK K
  try simp only [Act.put, List.setIfInBounds_toArray, List.set_cons_zero, List.set_cons_succ]
  refine htake (i := 38) (v := ?v34) rfl (by kernel_rfl) (by kernel_rfl) (by kernel_rfl) (fun _ _ _ h => h) (Or.inl ⟨by rfl, ?hy34⟩) (by assumption) ?_
  case hy34 => (intro w hSw; (try dsimp only at hSw); go_simp; try (with_reducible rfl))
  try simp only [Act.put, List.setIfInBounds_toArray, List.set_cons_zero, List.set_cons_succ]
  refine wpAnyH_done (by kernel_rfl) ?_ _
  refine NoPanic.normal ?_
  rotate_left
  go_simp
  (first | refine hold_alloc (fun Wb q1 q2 q3 => ?_) | refine hold_alloc_drew (fun Wb q1 q2 q3 => ?_)); (have HCn : Below V.heap.size V Wb := by first | exact HC.out.trans (q1.mono HC.out.size) | exact q1); (try replace HA := Lib.hid (HA.out.next q1)); (have HQ := Lib.hid q2); replace HC := Lib.hid HCn; clear HCn q1 q2 q3
  refine hK.out _ _ ?_ (fun hHeld => ?_)
  · (try dsimp only); exact HS.out _ HC.out
  clear hK K
  try simp only [Act.put, List.setIfInBounds_toArray, List.set_cons_zero, List.set_cons_succ]
  refine wpAnyH_ready (rs := [3, 35]) (by kernel_rfl) (by simp) ?_
  refine hcons rfl (fun K hK => ?_) (hcons rfl (fun K hK => ?_) (AllReadyH.nil))
  go_simp
  (first | refine hold_alloc (fun Wa q1 q2 q3 => ?_) | refine hold_alloc_drew (fun Wa q1 q2 q3 => ?_)); (have HCn : Below V.heap.size V Wa := by first | exact HC.out.trans (q1.mono HC.out.size) | exact q1); (try replace HQ := Lib.hid (HQ.out.next q1)); (try replace HG := Lib.hid (HG.out.next q1)); (have HA := Lib.hid (HBK.out _ _ q2)); replace HC := Lib.hid HCn; clear HCn q1 q2 q3
  refine hK.out _ _ ?_ (fun hHeld => ?_)
  · (try dsimp only); exact HS.out _ HC.out
  clear hK K
  try simp only [Act.put, List.setIfInBounds_toArray, List.set_cons_zero, List.set_cons_succ]
  refine wpAnyH_ready (rs := [35]) (by kernel_rfl) (by simp) ?_
  refine hcons rfl (fun K hK => ?_) (AllReadyH.nil)
  go_simp
  refine (groups_any (some ⟨_, 0, none⟩) 6 [a0, a1, b0, b1, c0, c1] _ (at_bx (f := fun n : Nat => Value.int .i64 (n : Int)) HQ.out) (by simp) HL.out).mono ?_; rintro e0 V35 ⟨v, rfl, hown, hb⟩; rw [HLL.out] at hown; obtain ⟨g, cap, e0, -⟩ := hown.form HGP.out; subst e0; have HG := Lib.hid (sl_own hown); (try replace HA := Lib.hid (HA.out.next hb)); replace HC := Lib.hid (HC.out.trans (hb.mono HC.out.size)); clear hb hown
  refine hK.out _ _ ?_ (fun hHeld => ?_)
  · (try dsimp only); exact HS.out _ HC.out
  clear hK K
  try simp only [Act.put, List.setIfInBounds_toArray, List.set_cons_zero, List.set_cons_succ]
  refine wpAnyH_ready (rs := [36]) (by kernel_rfl) (by simp) ?_
  refine hcons rfl (fun K hK => ?_) (AllReadyH.nil)
  go_simp
  (first | refine hold_alloc (fun Wc q1 q2 q3 => ?_) | refine hold_alloc_drew (fun Wc q1 q2 q3 => ?_)); replace HA := Lib.hid (HA.out.next q1); replace HG := Lib.hid (HG.out.next q1); (have HQ2 := Lib.hid q2); replace HC := Lib.hid (HC.out.trans (q1.mono HC.out.size)); clear q1 q2 q3
  refine hK.out _ _ ?_ (fun hHeld => ?_)
  · (try dsimp only); exact HS.out _ HC.out
  clear hK K
  try simp only [Act.put, List.setIfInBounds_toArray, List.set_cons_zero, List.set_cons_succ]
  refine wpAnyH_ready (rs := [37]) (by kernel_rfl) (by simp) ?_
  refine hcons rfl (fun K hK => ?_) (AllReadyH.nil)
  go_simp
  refine (concat_any (some ⟨_, 0, none⟩) 2 [⟨[kb], _, 0, 1⟩, ⟨L, g, 0, cap⟩] _ (at_bx (f := Sl.v) HQ2.out) (sl_two (sl_bx HA.out) HG.out) (by simp [catS]) (by have := HGL.out; simp [catS] at this ⊢; omega) (by simp)).mono ?_; rintro e0 V37 ⟨v, rfl, hown, hb⟩; rw [show catS [⟨[kb], _, 0, 1⟩, ⟨L, g, 0, cap⟩] = kb :: L by simp [catS]] at hown; have HOW := Lib.hid (own_base hown (Nat.le_trans HZ.out HC.out.size)); replace HC := Lib.hid (HC.out.trans (hb.mono HC.out.size)); clear hb hown
  refine hK.out _ _ ?_ (fun hHeld => ?_)
  · (try dsimp only); exact HS.out _ HC.out
  clear hK K
  try simp only [Act.put, List.setIfInBounds_toArray, List.set_cons_zero, List.set_cons_succ]
  refine htake (i := 38) (v := ?v35) rfl (by kernel_rfl) (by kernel_rfl) (by kernel_rfl) (fun _ _ _ h => h) (Or.inl ⟨by rfl, ?hy35⟩) (by assumption) ?_
  case hy35 => (intro w hSw; (try dsimp only at hSw); go_simp; try (with_reducible rfl))
  try simp only [Act.put, List.setIfInBounds_toArray, List.set_cons_zero, List.set_cons_succ]
  refine wpAnyH_done (by kernel_rfl) ?_ _
  refine NoPanic.normal ?_
  rotate_left
  go_simp
  refine (groups_any (some ⟨_, 0, none⟩) 6 [a0, a1, b0, b1, c0, c1] _ (at_bx (f := fun n : Nat => Value.int .i64 (n : Int)) HQ.out) (by simp) HL.out).mono ?_; rintro e0 V35 ⟨v, rfl, hown, hb⟩; rw [HLL.out] at hown; obtain ⟨g, cap, e0, -⟩ := hown.form HGP.out; subst e0; have HG := Lib.hid (sl_own hown); (try replace HA := Lib.hid (HA.out.next hb)); replace HC := Lib.hid (HC.out.trans (hb.mono HC.out.size)); clear hb hown
  refine hK.out _ _ ?_ (fun hHeld => ?_)
  · (try dsimp only); exact HS.out _ HC.out
  clear hK K
  try simp only [Act.put, List.setIfInBounds_toArray, List.set_cons_zero, List.set_cons_succ]
  refine wpAnyH_ready (rs := [3]) (by kernel_rfl) (by simp) ?_
  refine hcons rfl (fun K hK => ?_) (AllReadyH.nil)
  go_simp
  (first | refine hold_alloc (fun Wa q1 q2 q3 => ?_) | refine hold_alloc_drew (fun Wa q1 q2 q3 => ?_)); (have HCn : Below V.heap.size V Wa := by first | exact HC.out.trans (q1.mono HC.out.size) | exact q1); (try replace HQ := Lib.hid (HQ.out.next q1)); (try replace HG := Lib.hid (HG.out.next q1)); (have HA := Lib.hid (HBK.out _ _ q2)); replace HC := Lib.hid HCn; clear HCn q1 q2 q3
  refine hK.out _ _ ?_ (fun hHeld => ?_)
  · (try dsimp only); exact HS.out _ HC.out
  clear hK K
  try simp only [Act.put, List.setIfInBounds_toArray, List.set_cons_zero, List.set_cons_succ]
  refine wpAnyH_ready (rs := [36]) (by kernel_rfl) (by simp) ?_
  refine hcons rfl (fun K hK => ?_) (AllReadyH.nil)
  go_simp
  (first | refine hold_alloc (fun Wc q1 q2 q3 => ?_) | refine hold_alloc_drew (fun Wc q1 q2 q3 => ?_)); replace HA := Lib.hid (HA.out.next q1); replace HG := Lib.hid (HG.out.next q1); (have HQ2 := Lib.hid q2); replace HC := Lib.hid (HC.out.trans (q1.mono HC.out.size)); clear q1 q2 q3
  refine hK.out _ _ ?_ (fun hHeld => ?_)
  · (try dsimp only); exact HS.out _ HC.out
  clear hK K
  try simp only [Act.put, List.setIfInBounds_toArray, List.set_cons_zero, List.set_cons_succ]
  refine wpAnyH_ready (rs := [37]) (by kernel_rfl) (by simp) ?_
  refine hcons rfl (fun K hK => ?_) (AllReadyH.nil)
  go_simp
  refine (concat_any (some ⟨_, 0, none⟩) 2 [⟨[kb], _, 0, 1⟩, ⟨L, g, 0, cap⟩] _ (at_bx (f := Sl.v) HQ2.out) (sl_two (sl_bx HA.out) HG.out) (by simp [catS]) (by have := HGL.out; simp [catS] at this ⊢; omega) (by simp)).mono ?_; rintro e0 V37 ⟨v, rfl, hown, hb⟩; rw [show catS [⟨[kb], _, 0, 1⟩, ⟨L, g, 0, cap⟩] = kb :: L by simp [catS]] at hown; have HOW := Lib.hid (own_base hown (Nat.le_trans HZ.out HC.out.size)); replace HC := Lib.hid (HC.out.trans (hb.mono HC.out.size)); clear hb hown
  refine hK.out _ _ ?_ (fun hHeld => ?_)
  · (try dsimp only); exact HS.out _ HC.out
  clear hK K
  try simp only [Act.put, List.setIfInBounds_toArray, List.set_cons_zero, List.set_cons_succ]
  refine htake (i := 38) (v := ?v36) rfl (by kernel_rfl) (by kernel_rfl) (by kernel_rfl) (fun _ _ _ h => h) (Or.inl ⟨by rfl, ?hy36⟩) (by assumption) ?_
  case hy36 => (intro w hSw; (try dsimp only at hSw); go_simp; try (with_reducible rfl))
  try simp only [Act.put, List.setIfInBounds_toArray, List.set_cons_zero, List.set_cons_succ]
  refine wpAnyH_done (by kernel_rfl) ?_ _
  refine NoPanic.normal ?_
  iterate 40 (try clear hHeld)
  all_goals
    go_wp2_with fail
    go_ret
    exact ⟨_, rfl, HOW.out, HB0.out.trans (HC.out.mono HZ.out)⟩
end Go.Proofs.YtonnemkecppmiaaGreatDoor
