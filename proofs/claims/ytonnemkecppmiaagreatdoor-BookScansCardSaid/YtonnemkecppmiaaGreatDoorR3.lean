import Derived.Test.YtonnemkecppmiaaGreatDoorR2
import Derived.Test.YtonnemkecppmiaaGreatDoorP7
namespace Go.Proofs.YtonnemkecppmiaaGreatDoor
open Go.RowKit
/-! The reference: Text, Span, line. -/
theorem cat_tx (a b : Tx) : (⟨a.toArray⟩ : ByteArray) ++ (⟨b.toArray⟩ : ByteArray) = ⟨(a ++ b).toArray⟩ := by
  apply ByteArray.ext; simp [ByteArray.data_append]
theorem enc_dig {u : Nat} (h : u < 10) : Utf8.encode ((48 : Int) + (u : Int)) = ⟨#[UInt8.ofNat (48 + u)]⟩ := by
  match u, h with
  | 0, _ => rfl
  | 1, _ => rfl
  | 2, _ => rfl
  | 3, _ => rfl
  | 4, _ => rfl
  | 5, _ => rfl
  | 6, _ => rfl
  | 7, _ => rfl
  | 8, _ => rfl
  | 9, _ => rfl
attribute [local irreducible] Utf8.encode in
set_option maxRecDepth 100000 in
set_option maxHeartbeats 1000000 in
theorem Text_any : ∀ (n : Nat) (w : World), n < 100000 → Calls Tryz.prog 77 #[.int .i64 n] w (RetQ (tx (Lib.decDigits n)) w) := by
  intro n
  induction n using Nat.strongRecOn with
  | _ n ih =>
  intro w hn
  by_cases h : n < 10
  · have hd := Lib.hid (dec_small h)
    rw [hd.out]
    have h' : (n : Int) < 10 := by omega
    have HE := Lib.hid (enc_dig h)
    go_enter Tryz.func77, Tryz.ntmps77
    go_wp2
    go_ret
    rw [HE.out]
    exact ⟨rfl, rfl⟩
  · have hd := dec_big h
    have hi0 := ih (n / 10) (by omega) w (by omega)
    rw [show ((n / 10 : Nat) : Int) = (n : Int) / 10 by omega] at hi0
    have hl := dec_len (show n / 10 < 100000 by omega)
    rw [hd]
    have hE := enc_dig (show n % 10 < 10 by omega)
    rw [show ((n % 10 : Nat) : Int) = (n : Int) % 10 by omega] at hE
    obtain ⟨c, hc⟩ : ∃ c, UInt8.ofNat (48 + n % 10) = c := ⟨_, rfl⟩
    rw [hc] at hE ⊢
    generalize Lib.decDigits (n / 10) = L at hi0 hl ⊢
    have g1 : ¬ 9223372036854775807 < L.length + 1 := by omega
    have HC := Lib.hid (cat_tx L [c])
    have HI := Lib.hid hi0
    clear ih hc hi0 hd
    go_enter Tryz.func77, Tryz.ntmps77
    go_wp2_with fail
    refine HI.out.mono ?_
    rintro e w' ⟨rfl, rfl⟩
    clear HI
    go_wp2_with fail
    go_ret
    rw [HC.out]
    exact ⟨rfl, rfl⟩
theorem SpanC_any (a b : Int) (La Lb : Tx) (o : Tx) (ho : o = if b = a then La else La ++ (dots ++ Lb)) (ha : La.length ≤ 5) (hb : Lb.length ≤ 5) (w : World) (HA : ∀ W, Calls Tryz.prog 77 #[.int .i64 a] W (RetQ (tx La) W)) (HB : ∀ W, Calls Tryz.prog 77 #[.int .i64 b] W (RetQ (tx Lb) W)) : Calls Tryz.prog 78 #[.agg #[.int .i64 a, .int .i64 b]] w (Ret (tx o) w) := by
  have HX := Lib.hid (Bx.new w #[.int .i64 a, .int .i64 b] 23)
  have HBB := Lib.hid (nxA w (.cells #[.int .i64 a, .int .i64 b] 23))
  have HA' := Lib.hid HA
  have HB' := Lib.hid HB
  have HO := Lib.hid ho
  clear HA HB ho
  go_enter Tryz.func78, Tryz.ntmps78
  go_upto_region 1 with fail
  generalize (w.alloc (.cells #[.int .i64 a, .int .i64 b] 23)) = V at *
  have c0 := HX.out.c 0 _ rfl
  have c1 := HX.out.c 1 _ rfl
  by_cases h : b = a
  · have hq : (a == b) = true := by simp [h]
    rw [if_pos h] at HO
    clear h
    go_wp2_with fail
    refine (HA'.out _).mono ?_
    rintro e w' ⟨rfl, rfl⟩
    go_wp2_with fail
    go_ret
    rw [HO.out]
    exact ⟨rfl, HBB.out⟩
  · have hq : (a == b) = false := by simp; omega
    rw [if_neg h] at HO
    clear h
    have g1 : ¬ 9223372036854775807 < La.length + 2 := by omega
    have g2 : ¬ 9223372036854775807 < La.length + 2 + Lb.length := by omega
    have HC1 := Lib.hid (cat_tx La dots)
    have HC2 := Lib.hid (cat_tx (La ++ dots) Lb)
    go_wp2_with (go_quiet ((go_at_call 77; first | (with_reducible exact qq (HA'.out _)) | (with_reducible exact qqa (HA'.out _)) | (with_reducible exact qq (HB'.out _)) | (with_reducible exact qqa (HB'.out _)))))
    go_ret
    rw [HO.out, show (⟨List.toArray La⟩ ++ (⟨#[46, 46]⟩ : ByteArray) ++ ⟨List.toArray Lb⟩ : ByteArray) = ⟨(La ++ (dots ++ Lb)).toArray⟩ by rw [show (⟨#[46, 46]⟩ : ByteArray) = ⟨dots.toArray⟩ from rfl, HC1.out, HC2.out, List.append_assoc]]
    exact ⟨rfl, below_drewN HBB.out _⟩
theorem TextI_any (n : Int) (w : World) (h0 : 0 ≤ n) (h1 : n < 100000) : Calls Tryz.prog 77 #[.int .i64 n] w (RetQ (tx (Lib.itoa n)) w) := by
  obtain ⟨k, rfl⟩ := Int.eq_ofNat_of_zero_le h0
  rw [itoa_nat]
  exact Text_any k w (by omega)
theorem Span_any (s : Sp) (w : World) (h : (Wd.s s).ok) : Calls Tryz.prog 78 #[.agg #[.int .i64 s.lo, .int .i64 s.hi]] w (Ret (tx (spT s)) w) := by
  obtain ⟨h1, h2, h3, h4⟩ := h
  exact SpanC_any s.lo s.hi (Lib.itoa s.lo) (Lib.itoa s.hi) (spT s) rfl (itoa_len h1 h2) (itoa_len h3 h4) w (fun W => TextI_any _ W h1 h2) (fun W => TextI_any _ W h3 h4)
/-! line. -/
def edLn (e : Ed) : Tx := glue 32 (edW e) ++ [10]
theorem edLn_flat {e : Ed} (h : e.kind = 0) : edLn e = wFlat ++ [10] := by unfold edLn edW; rw [if_pos h]; rfl
theorem edLn_bowed {e : Ed} (h : e.kind ≠ 0) : edLn e = kindW e.kind ++ [32] ++ spT e.a ++ [32] ++ spT e.w ++ [32] ++ spT e.d ++ [10] := by
  unfold edLn edW; rw [if_neg h]; simp [glue]
set_option maxRecDepth 100000 in
set_option maxHeartbeats 2000000 in
theorem lineB1_any (e : Ed) (hk : e.kind = 1) (w : World) (ha : (Wd.s e.a).ok) (hw : (Wd.s e.w).ok) (hd : (Wd.s e.d).ok) : Calls Tryz.prog 79 #[.agg #[.int .i64 e.kind, .int .i64 e.a.lo, .int .i64 e.a.hi, .int .i64 e.w.lo, .int .i64 e.w.hi, .int .i64 e.d.lo, .int .i64 e.d.hi]] w (Ret (tx (edLn e)) w) := by
  have HL := Lib.hid (edLn_bowed (e := e) (by omega))
  obtain ⟨K, hK⟩ : ∃ K, kindW e.kind = K := ⟨_, rfl⟩
  have hKb : (⟨#[116, 97, 98]⟩ : ByteArray) = ⟨K.toArray⟩ := by rw [← hK, hk]; rfl
  have hKl : K.length ≤ 4 := by rw [← hK, hk]; decide
  have lA := wd_len ha
  have lW := wd_len hw
  have lD := wd_len hd
  change (spT e.a).length ≤ 20 at lA
  change (spT e.w).length ≤ 20 at lW
  change (spT e.d).length ≤ 20 at lD
  have HA := Lib.hid (fun W => Span_any e.a W ha)
  have HW := Lib.hid (fun W => Span_any e.w W hw)
  have HD := Lib.hid (fun W => Span_any e.d W hd)
  rw [hK] at HL
  have HX := Lib.hid (Bx.new w #[.int .i64 e.kind, .int .i64 e.a.lo, .int .i64 e.a.hi, .int .i64 e.w.lo, .int .i64 e.w.hi, .int .i64 e.d.lo, .int .i64 e.d.hi] 48)
  have HB := Lib.hid (nxA w (.cells #[.int .i64 e.kind, .int .i64 e.a.lo, .int .i64 e.a.hi, .int .i64 e.w.lo, .int .i64 e.w.hi, .int .i64 e.d.lo, .int .i64 e.d.hi] 48))
  have d1 : (e.kind == 1) = true := by rw [hk]; rfl
  have d2 : (e.kind == 2) = false := by rw [hk]; rfl
  have d0 : (e.kind == 0) = false := by rw [hk]; rfl
  generalize spT e.a = TA at *
  generalize spT e.w = TW at *
  generalize spT e.d = TD at *
  clear hK hk ha hw hd
  go_enter Tryz.func79, Tryz.ntmps79
  go_upto_region 1 with fail
  generalize (w.alloc (.cells #[.int .i64 e.kind, .int .i64 e.a.lo, .int .i64 e.a.hi, .int .i64 e.w.lo, .int .i64 e.w.hi, .int .i64 e.d.lo, .int .i64 e.d.hi] 48)) = V at *
  obtain ⟨b, hb⟩ : ∃ b, b = w.heap.size := ⟨_, rfl⟩
  rw [← hb] at HX ⊢
  clear hb
  have c0 := HX.out.c 0 _ rfl
  go_upto_region 7 with fail
  rw [hKb]
  have g1 : ¬ 9223372036854775807 < K.length + 1 := by omega
  have g2 : ¬ 9223372036854775807 < K.length + 1 + TA.length := by omega
  have g3 : ¬ 9223372036854775807 < K.length + 1 + TA.length + 1 := by omega
  have g4 : ¬ 9223372036854775807 < K.length + 1 + TA.length + 1 + TW.length := by omega
  have g5 : ¬ 9223372036854775807 < K.length + 1 + TA.length + 1 + TW.length + 1 := by omega
  have g6 : ¬ 9223372036854775807 < K.length + 1 + TA.length + 1 + TW.length + 1 + TD.length := by omega
  have g7 : ¬ 9223372036854775807 < K.length + 1 + TA.length + 1 + TW.length + 1 + TD.length + 1 := by omega
  have HS := Lib.hid (show ∀ W : World, Below V.heap.size V W → (W.cell? ⟨b, 1, none⟩ = some (.int .i64 e.a.lo) ∧ W.cell? ⟨b, 2, none⟩ = some (.int .i64 e.a.hi) ∧ W.cell? ⟨b, 3, none⟩ = some (.int .i64 e.w.lo) ∧ W.cell? ⟨b, 4, none⟩ = some (.int .i64 e.w.hi) ∧ W.cell? ⟨b, 5, none⟩ = some (.int .i64 e.d.lo) ∧ W.cell? ⟨b, 6, none⟩ = some (.int .i64 e.d.hi)) from fun W h => ⟨(HX.out.next h).c 1 _ rfl, (HX.out.next h).c 2 _ rfl, (HX.out.next h).c 3 _ rfl, (HX.out.next h).c 4 _ rfl, (HX.out.next h).c 5 _ rfl, (HX.out.next h).c 6 _ rfl⟩)
  have HC := Lib.hid ((Below.refl V.heap.size V).drew)
  have HR := Lib.hid (show (⟨K.toArray⟩ ++ ⟨#[32]⟩ ++ ⟨TA.toArray⟩ ++ ⟨#[32]⟩ ++ ⟨TW.toArray⟩ ++ ⟨#[32]⟩ ++ ⟨TD.toArray⟩ ++ ⟨#[10]⟩ : ByteArray) = ⟨(edLn e).toArray⟩ by rw [HL.out]; apply ByteArray.ext; simp [ByteArray.data_append])
  clear HL c0 lA lW lD hKl
  refine wp_region_noPanic ?_
  refine wp_region_held_drew (S := (fun W => W.cell? ⟨b, 1, none⟩ = some (.int .i64 e.a.lo) ∧ W.cell? ⟨b, 2, none⟩ = some (.int .i64 e.a.hi) ∧ W.cell? ⟨b, 3, none⟩ = some (.int .i64 e.w.lo) ∧ W.cell? ⟨b, 4, none⟩ = some (.int .i64 e.w.hi) ∧ W.cell? ⟨b, 5, none⟩ = some (.int .i64 e.d.lo) ∧ W.cell? ⟨b, 6, none⟩ = some (.int .i64 e.d.hi))) (by kernel_rfl) ?_ (fun hHeld => ?_)
  · (try dsimp only); exact HS.out _ HC.out
  refine htake (i := 0) (v := ?v1) rfl (by kernel_rfl) (by kernel_rfl) (by kernel_rfl) (fun _ _ _ h => h) (Or.inl ⟨by rfl, ?hy1⟩) (by assumption) ?_
  case hy1 => (intro w hSw; (try dsimp only at hSw); go_simp; try (with_reducible rfl))
  try simp only [Act.put, List.setIfInBounds_toArray, List.set_cons_zero, List.set_cons_succ]
  refine htake (i := 1) (v := ?v2) rfl (by kernel_rfl) (by kernel_rfl) (by kernel_rfl) (fun _ _ _ h => h) (Or.inl ⟨by rfl, ?hy2⟩) (by assumption) ?_
  case hy2 => (intro w hSw; (try dsimp only at hSw); go_simp; try (with_reducible rfl))
  try simp only [Act.put, List.setIfInBounds_toArray, List.set_cons_zero, List.set_cons_succ]
  refine htake (i := 2) (v := ?v3) rfl (by kernel_rfl) (by kernel_rfl) (by kernel_rfl) (fun _ _ _ h => h) (Or.inl ⟨by rfl, ?hy3⟩) (by assumption) ?_
  case hy3 => (intro w hSw; (try dsimp only at hSw); go_simp; try (with_reducible rfl))
  try simp only [Act.put, List.setIfInBounds_toArray, List.set_cons_zero, List.set_cons_succ]
  refine htake (i := 3) (v := ?v4) rfl (by kernel_rfl) (by kernel_rfl) (by kernel_rfl) (fun _ _ _ h => h) (Or.inl ⟨by rfl, ?hy4⟩) (by assumption) ?_
  case hy4 => (intro w hSw; (try dsimp only at hSw); go_simp; try (with_reducible rfl))
  try simp only [Act.put, List.setIfInBounds_toArray, List.set_cons_zero, List.set_cons_succ]
  refine htake (i := 7) (v := ?v5) rfl (by kernel_rfl) (by kernel_rfl) (by kernel_rfl) (fun _ _ _ h => h) (Or.inl ⟨by rfl, ?hy5⟩) (by assumption) ?_
  case hy5 => (intro w hSw; (try dsimp only at hSw); go_simp; try (with_reducible rfl))
  try simp only [Act.put, List.setIfInBounds_toArray, List.set_cons_zero, List.set_cons_succ]
  refine htake (i := 8) (v := ?v6) rfl (by kernel_rfl) (by kernel_rfl) (by kernel_rfl) (fun _ _ _ h => h) (Or.inl ⟨by rfl, ?hy6⟩) (by assumption) ?_
  case hy6 => (intro w hSw; (try dsimp only at hSw); go_simp; try (with_reducible rfl))
  try simp only [Act.put, List.setIfInBounds_toArray, List.set_cons_zero, List.set_cons_succ]
  refine htake (i := 12) (v := ?v7) rfl (by kernel_rfl) (by kernel_rfl) (by kernel_rfl) (fun _ _ _ h => h) (Or.inl ⟨by rfl, ?hy7⟩) (by assumption) ?_
  case hy7 => (intro w hSw; (try dsimp only at hSw); go_simp; try (with_reducible rfl))
  try simp only [Act.put, List.setIfInBounds_toArray, List.set_cons_zero, List.set_cons_succ]
  refine htake (i := 13) (v := ?v8) rfl (by kernel_rfl) (by kernel_rfl) (by kernel_rfl) (fun _ _ _ h => h) (Or.inl ⟨by rfl, ?hy8⟩) (by assumption) ?_
  case hy8 => (intro w hSw; (try dsimp only at hSw); go_simp; try (with_reducible rfl))
  try simp only [Act.put, List.setIfInBounds_toArray, List.set_cons_zero, List.set_cons_succ]
  refine wpAnyH_ready (rs := [4]) (by kernel_rfl) (by simp) ?_
  refine hcons rfl (fun K hK => ?_) (AllReadyH.nil)
  go_simp
  refine (HA.out _).mono ?_; rintro e0 V4 ⟨rfl, hb⟩; replace HC := Lib.hid (HC.out.trans (hb.mono HC.out.size)); clear hb
  refine hK.out _ _ ?_ (fun hHeld => ?_)
  · (try dsimp only); exact HS.out _ HC.out
  clear hK K
  try simp only [Act.put, List.setIfInBounds_toArray, List.set_cons_zero, List.set_cons_succ]
  refine htake (i := 5) (v := ?v9) rfl (by kernel_rfl) (by kernel_rfl) (by kernel_rfl) (fun _ _ _ h => h) (Or.inl ⟨by rfl, ?hy9⟩) (by assumption) ?_
  case hy9 => (intro w hSw; (try dsimp only at hSw); go_simp; try (with_reducible rfl))
  try simp only [Act.put, List.setIfInBounds_toArray, List.set_cons_zero, List.set_cons_succ]
  refine htake (i := 6) (v := ?v10) rfl (by kernel_rfl) (by kernel_rfl) (by kernel_rfl) (fun _ _ _ h => h) (Or.inl ⟨by rfl, ?hy10⟩) (by assumption) ?_
  case hy10 => (intro w hSw; (try dsimp only at hSw); go_simp; try (with_reducible rfl))
  try simp only [Act.put, List.setIfInBounds_toArray, List.set_cons_zero, List.set_cons_succ]
  refine wpAnyH_ready (rs := [9]) (by kernel_rfl) (by simp) ?_
  refine hcons rfl (fun K hK => ?_) (AllReadyH.nil)
  go_simp
  refine (HW.out _).mono ?_; rintro e0 V9 ⟨rfl, hb⟩; replace HC := Lib.hid (HC.out.trans (hb.mono HC.out.size)); clear hb
  refine hK.out _ _ ?_ (fun hHeld => ?_)
  · (try dsimp only); exact HS.out _ HC.out
  clear hK K
  try simp only [Act.put, List.setIfInBounds_toArray, List.set_cons_zero, List.set_cons_succ]
  refine htake (i := 10) (v := ?v11) rfl (by kernel_rfl) (by kernel_rfl) (by kernel_rfl) (fun _ _ _ h => h) (Or.inl ⟨by rfl, ?hy11⟩) (by assumption) ?_
  case hy11 => (intro w hSw; (try dsimp only at hSw); go_simp; try (with_reducible rfl))
  try simp only [Act.put, List.setIfInBounds_toArray, List.set_cons_zero, List.set_cons_succ]
  refine htake (i := 11) (v := ?v12) rfl (by kernel_rfl) (by kernel_rfl) (by kernel_rfl) (fun _ _ _ h => h) (Or.inl ⟨by rfl, ?hy12⟩) (by assumption) ?_
  case hy12 => (intro w hSw; (try dsimp only at hSw); go_simp; try (with_reducible rfl))
  try simp only [Act.put, List.setIfInBounds_toArray, List.set_cons_zero, List.set_cons_succ]
  refine wpAnyH_ready (rs := [14]) (by kernel_rfl) (by simp) ?_
  refine hcons rfl (fun K hK => ?_) (AllReadyH.nil)
  go_simp
  refine (HD.out _).mono ?_; rintro e0 V14 ⟨rfl, hb⟩; replace HC := Lib.hid (HC.out.trans (hb.mono HC.out.size)); clear hb
  refine hK.out _ _ ?_ (fun hHeld => ?_)
  · (try dsimp only); exact HS.out _ HC.out
  clear hK K
  try simp only [Act.put, List.setIfInBounds_toArray, List.set_cons_zero, List.set_cons_succ]
  refine htake (i := 15) (v := ?v13) rfl (by kernel_rfl) (by kernel_rfl) (by kernel_rfl) (fun _ _ _ h => h) (Or.inl ⟨by rfl, ?hy13⟩) (by assumption) ?_
  case hy13 => (intro w hSw; (try dsimp only at hSw); go_simp; try (with_reducible rfl))
  try simp only [Act.put, List.setIfInBounds_toArray, List.set_cons_zero, List.set_cons_succ]
  refine htake (i := 16) (v := ?v14) rfl (by kernel_rfl) (by kernel_rfl) (by kernel_rfl) (fun _ _ _ h => h) (Or.inl ⟨by rfl, ?hy14⟩) (by assumption) ?_
  case hy14 => (intro w hSw; (try dsimp only at hSw); go_simp; try (with_reducible rfl))
  try simp only [Act.put, List.setIfInBounds_toArray, List.set_cons_zero, List.set_cons_succ]
  refine wpAnyH_done (by kernel_rfl) ?_ _
  refine NoPanic.normal ?_
  iterate 18 (try clear hHeld)
  all_goals
    go_wp2_with fail
    go_ret
    rw [HR.out]
    exact ⟨rfl, HB.out.trans (HC.out.mono HB.out.size)⟩
set_option maxRecDepth 100000 in
set_option maxHeartbeats 2000000 in
theorem lineB2_any (e : Ed) (hk : e.kind = 2) (w : World) (ha : (Wd.s e.a).ok) (hw : (Wd.s e.w).ok) (hd : (Wd.s e.d).ok) : Calls Tryz.prog 79 #[.agg #[.int .i64 e.kind, .int .i64 e.a.lo, .int .i64 e.a.hi, .int .i64 e.w.lo, .int .i64 e.w.hi, .int .i64 e.d.lo, .int .i64 e.d.hi]] w (Ret (tx (edLn e)) w) := by
  have HL := Lib.hid (edLn_bowed (e := e) (by omega))
  obtain ⟨K, hK⟩ : ∃ K, kindW e.kind = K := ⟨_, rfl⟩
  have hKb : (⟨#[104, 111, 108, 101]⟩ : ByteArray) = ⟨K.toArray⟩ := by rw [← hK, hk]; rfl
  have hKl : K.length ≤ 4 := by rw [← hK, hk]; decide
  have lA := wd_len ha
  have lW := wd_len hw
  have lD := wd_len hd
  change (spT e.a).length ≤ 20 at lA
  change (spT e.w).length ≤ 20 at lW
  change (spT e.d).length ≤ 20 at lD
  have HA := Lib.hid (fun W => Span_any e.a W ha)
  have HW := Lib.hid (fun W => Span_any e.w W hw)
  have HD := Lib.hid (fun W => Span_any e.d W hd)
  rw [hK] at HL
  have HX := Lib.hid (Bx.new w #[.int .i64 e.kind, .int .i64 e.a.lo, .int .i64 e.a.hi, .int .i64 e.w.lo, .int .i64 e.w.hi, .int .i64 e.d.lo, .int .i64 e.d.hi] 48)
  have HB := Lib.hid (nxA w (.cells #[.int .i64 e.kind, .int .i64 e.a.lo, .int .i64 e.a.hi, .int .i64 e.w.lo, .int .i64 e.w.hi, .int .i64 e.d.lo, .int .i64 e.d.hi] 48))
  have d1 : (e.kind == 1) = false := by rw [hk]; rfl
  have d2 : (e.kind == 2) = true := by rw [hk]; rfl
  have d0 : (e.kind == 0) = false := by rw [hk]; rfl
  generalize spT e.a = TA at *
  generalize spT e.w = TW at *
  generalize spT e.d = TD at *
  clear hK hk ha hw hd
  go_enter Tryz.func79, Tryz.ntmps79
  go_upto_region 1 with fail
  generalize (w.alloc (.cells #[.int .i64 e.kind, .int .i64 e.a.lo, .int .i64 e.a.hi, .int .i64 e.w.lo, .int .i64 e.w.hi, .int .i64 e.d.lo, .int .i64 e.d.hi] 48)) = V at *
  obtain ⟨b, hb⟩ : ∃ b, b = w.heap.size := ⟨_, rfl⟩
  rw [← hb] at HX ⊢
  clear hb
  have c0 := HX.out.c 0 _ rfl
  go_upto_region 7 with fail
  rw [hKb]
  have g1 : ¬ 9223372036854775807 < K.length + 1 := by omega
  have g2 : ¬ 9223372036854775807 < K.length + 1 + TA.length := by omega
  have g3 : ¬ 9223372036854775807 < K.length + 1 + TA.length + 1 := by omega
  have g4 : ¬ 9223372036854775807 < K.length + 1 + TA.length + 1 + TW.length := by omega
  have g5 : ¬ 9223372036854775807 < K.length + 1 + TA.length + 1 + TW.length + 1 := by omega
  have g6 : ¬ 9223372036854775807 < K.length + 1 + TA.length + 1 + TW.length + 1 + TD.length := by omega
  have g7 : ¬ 9223372036854775807 < K.length + 1 + TA.length + 1 + TW.length + 1 + TD.length + 1 := by omega
  have HS := Lib.hid (show ∀ W : World, Below V.heap.size V W → (W.cell? ⟨b, 1, none⟩ = some (.int .i64 e.a.lo) ∧ W.cell? ⟨b, 2, none⟩ = some (.int .i64 e.a.hi) ∧ W.cell? ⟨b, 3, none⟩ = some (.int .i64 e.w.lo) ∧ W.cell? ⟨b, 4, none⟩ = some (.int .i64 e.w.hi) ∧ W.cell? ⟨b, 5, none⟩ = some (.int .i64 e.d.lo) ∧ W.cell? ⟨b, 6, none⟩ = some (.int .i64 e.d.hi)) from fun W h => ⟨(HX.out.next h).c 1 _ rfl, (HX.out.next h).c 2 _ rfl, (HX.out.next h).c 3 _ rfl, (HX.out.next h).c 4 _ rfl, (HX.out.next h).c 5 _ rfl, (HX.out.next h).c 6 _ rfl⟩)
  have HC := Lib.hid ((Below.refl V.heap.size V).drew)
  have HR := Lib.hid (show (⟨K.toArray⟩ ++ ⟨#[32]⟩ ++ ⟨TA.toArray⟩ ++ ⟨#[32]⟩ ++ ⟨TW.toArray⟩ ++ ⟨#[32]⟩ ++ ⟨TD.toArray⟩ ++ ⟨#[10]⟩ : ByteArray) = ⟨(edLn e).toArray⟩ by rw [HL.out]; apply ByteArray.ext; simp [ByteArray.data_append])
  clear HL c0 lA lW lD hKl
  refine wp_region_noPanic ?_
  refine wp_region_held_drew (S := (fun W => W.cell? ⟨b, 1, none⟩ = some (.int .i64 e.a.lo) ∧ W.cell? ⟨b, 2, none⟩ = some (.int .i64 e.a.hi) ∧ W.cell? ⟨b, 3, none⟩ = some (.int .i64 e.w.lo) ∧ W.cell? ⟨b, 4, none⟩ = some (.int .i64 e.w.hi) ∧ W.cell? ⟨b, 5, none⟩ = some (.int .i64 e.d.lo) ∧ W.cell? ⟨b, 6, none⟩ = some (.int .i64 e.d.hi))) (by kernel_rfl) ?_ (fun hHeld => ?_)
  · (try dsimp only); exact HS.out _ HC.out
  refine htake (i := 0) (v := ?v15) rfl (by kernel_rfl) (by kernel_rfl) (by kernel_rfl) (fun _ _ _ h => h) (Or.inl ⟨by rfl, ?hy15⟩) (by assumption) ?_
  case hy15 => (intro w hSw; (try dsimp only at hSw); go_simp; try (with_reducible rfl))
  try simp only [Act.put, List.setIfInBounds_toArray, List.set_cons_zero, List.set_cons_succ]
  refine htake (i := 1) (v := ?v16) rfl (by kernel_rfl) (by kernel_rfl) (by kernel_rfl) (fun _ _ _ h => h) (Or.inl ⟨by rfl, ?hy16⟩) (by assumption) ?_
  case hy16 => (intro w hSw; (try dsimp only at hSw); go_simp; try (with_reducible rfl))
  try simp only [Act.put, List.setIfInBounds_toArray, List.set_cons_zero, List.set_cons_succ]
  refine htake (i := 2) (v := ?v17) rfl (by kernel_rfl) (by kernel_rfl) (by kernel_rfl) (fun _ _ _ h => h) (Or.inl ⟨by rfl, ?hy17⟩) (by assumption) ?_
  case hy17 => (intro w hSw; (try dsimp only at hSw); go_simp; try (with_reducible rfl))
  try simp only [Act.put, List.setIfInBounds_toArray, List.set_cons_zero, List.set_cons_succ]
  refine htake (i := 3) (v := ?v18) rfl (by kernel_rfl) (by kernel_rfl) (by kernel_rfl) (fun _ _ _ h => h) (Or.inl ⟨by rfl, ?hy18⟩) (by assumption) ?_
  case hy18 => (intro w hSw; (try dsimp only at hSw); go_simp; try (with_reducible rfl))
  try simp only [Act.put, List.setIfInBounds_toArray, List.set_cons_zero, List.set_cons_succ]
  refine htake (i := 7) (v := ?v19) rfl (by kernel_rfl) (by kernel_rfl) (by kernel_rfl) (fun _ _ _ h => h) (Or.inl ⟨by rfl, ?hy19⟩) (by assumption) ?_
  case hy19 => (intro w hSw; (try dsimp only at hSw); go_simp; try (with_reducible rfl))
  try simp only [Act.put, List.setIfInBounds_toArray, List.set_cons_zero, List.set_cons_succ]
  refine htake (i := 8) (v := ?v20) rfl (by kernel_rfl) (by kernel_rfl) (by kernel_rfl) (fun _ _ _ h => h) (Or.inl ⟨by rfl, ?hy20⟩) (by assumption) ?_
  case hy20 => (intro w hSw; (try dsimp only at hSw); go_simp; try (with_reducible rfl))
  try simp only [Act.put, List.setIfInBounds_toArray, List.set_cons_zero, List.set_cons_succ]
  refine htake (i := 12) (v := ?v21) rfl (by kernel_rfl) (by kernel_rfl) (by kernel_rfl) (fun _ _ _ h => h) (Or.inl ⟨by rfl, ?hy21⟩) (by assumption) ?_
  case hy21 => (intro w hSw; (try dsimp only at hSw); go_simp; try (with_reducible rfl))
  try simp only [Act.put, List.setIfInBounds_toArray, List.set_cons_zero, List.set_cons_succ]
  refine htake (i := 13) (v := ?v22) rfl (by kernel_rfl) (by kernel_rfl) (by kernel_rfl) (fun _ _ _ h => h) (Or.inl ⟨by rfl, ?hy22⟩) (by assumption) ?_
  case hy22 => (intro w hSw; (try dsimp only at hSw); go_simp; try (with_reducible rfl))
  try simp only [Act.put, List.setIfInBounds_toArray, List.set_cons_zero, List.set_cons_succ]
  refine wpAnyH_ready (rs := [4]) (by kernel_rfl) (by simp) ?_
  refine hcons rfl (fun K hK => ?_) (AllReadyH.nil)
  go_simp
  refine (HA.out _).mono ?_; rintro e0 V4 ⟨rfl, hb⟩; replace HC := Lib.hid (HC.out.trans (hb.mono HC.out.size)); clear hb
  refine hK.out _ _ ?_ (fun hHeld => ?_)
  · (try dsimp only); exact HS.out _ HC.out
  clear hK K
  try simp only [Act.put, List.setIfInBounds_toArray, List.set_cons_zero, List.set_cons_succ]
  refine htake (i := 5) (v := ?v23) rfl (by kernel_rfl) (by kernel_rfl) (by kernel_rfl) (fun _ _ _ h => h) (Or.inl ⟨by rfl, ?hy23⟩) (by assumption) ?_
  case hy23 => (intro w hSw; (try dsimp only at hSw); go_simp; try (with_reducible rfl))
  try simp only [Act.put, List.setIfInBounds_toArray, List.set_cons_zero, List.set_cons_succ]
  refine htake (i := 6) (v := ?v24) rfl (by kernel_rfl) (by kernel_rfl) (by kernel_rfl) (fun _ _ _ h => h) (Or.inl ⟨by rfl, ?hy24⟩) (by assumption) ?_
  case hy24 => (intro w hSw; (try dsimp only at hSw); go_simp; try (with_reducible rfl))
  try simp only [Act.put, List.setIfInBounds_toArray, List.set_cons_zero, List.set_cons_succ]
  refine wpAnyH_ready (rs := [9]) (by kernel_rfl) (by simp) ?_
  refine hcons rfl (fun K hK => ?_) (AllReadyH.nil)
  go_simp
  refine (HW.out _).mono ?_; rintro e0 V9 ⟨rfl, hb⟩; replace HC := Lib.hid (HC.out.trans (hb.mono HC.out.size)); clear hb
  refine hK.out _ _ ?_ (fun hHeld => ?_)
  · (try dsimp only); exact HS.out _ HC.out
  clear hK K
  try simp only [Act.put, List.setIfInBounds_toArray, List.set_cons_zero, List.set_cons_succ]
  refine htake (i := 10) (v := ?v25) rfl (by kernel_rfl) (by kernel_rfl) (by kernel_rfl) (fun _ _ _ h => h) (Or.inl ⟨by rfl, ?hy25⟩) (by assumption) ?_
  case hy25 => (intro w hSw; (try dsimp only at hSw); go_simp; try (with_reducible rfl))
  try simp only [Act.put, List.setIfInBounds_toArray, List.set_cons_zero, List.set_cons_succ]
  refine htake (i := 11) (v := ?v26) rfl (by kernel_rfl) (by kernel_rfl) (by kernel_rfl) (fun _ _ _ h => h) (Or.inl ⟨by rfl, ?hy26⟩) (by assumption) ?_
  case hy26 => (intro w hSw; (try dsimp only at hSw); go_simp; try (with_reducible rfl))
  try simp only [Act.put, List.setIfInBounds_toArray, List.set_cons_zero, List.set_cons_succ]
  refine wpAnyH_ready (rs := [14]) (by kernel_rfl) (by simp) ?_
  refine hcons rfl (fun K hK => ?_) (AllReadyH.nil)
  go_simp
  refine (HD.out _).mono ?_; rintro e0 V14 ⟨rfl, hb⟩; replace HC := Lib.hid (HC.out.trans (hb.mono HC.out.size)); clear hb
  refine hK.out _ _ ?_ (fun hHeld => ?_)
  · (try dsimp only); exact HS.out _ HC.out
  clear hK K
  try simp only [Act.put, List.setIfInBounds_toArray, List.set_cons_zero, List.set_cons_succ]
  refine htake (i := 15) (v := ?v27) rfl (by kernel_rfl) (by kernel_rfl) (by kernel_rfl) (fun _ _ _ h => h) (Or.inl ⟨by rfl, ?hy27⟩) (by assumption) ?_
  case hy27 => (intro w hSw; (try dsimp only at hSw); go_simp; try (with_reducible rfl))
  try simp only [Act.put, List.setIfInBounds_toArray, List.set_cons_zero, List.set_cons_succ]
  refine htake (i := 16) (v := ?v28) rfl (by kernel_rfl) (by kernel_rfl) (by kernel_rfl) (fun _ _ _ h => h) (Or.inl ⟨by rfl, ?hy28⟩) (by assumption) ?_
  case hy28 => (intro w hSw; (try dsimp only at hSw); go_simp; try (with_reducible rfl))
  try simp only [Act.put, List.setIfInBounds_toArray, List.set_cons_zero, List.set_cons_succ]
  refine wpAnyH_done (by kernel_rfl) ?_ _
  refine NoPanic.normal ?_
  iterate 18 (try clear hHeld)
  all_goals
    go_wp2_with fail
    go_ret
    rw [HR.out]
    exact ⟨rfl, HB.out.trans (HC.out.mono HB.out.size)⟩
set_option maxRecDepth 100000 in
set_option maxHeartbeats 2000000 in
theorem lineF_any (e : Ed) (hk : e.kind = 0) (w : World) : Calls Tryz.prog 79 #[.agg #[.int .i64 e.kind, .int .i64 e.a.lo, .int .i64 e.a.hi, .int .i64 e.w.lo, .int .i64 e.w.hi, .int .i64 e.d.lo, .int .i64 e.d.hi]] w (Ret (tx (edLn e)) w) := by
  have HL := Lib.hid (edLn_flat hk)
  have HX := Lib.hid (Bx.new w #[.int .i64 e.kind, .int .i64 e.a.lo, .int .i64 e.a.hi, .int .i64 e.w.lo, .int .i64 e.w.hi, .int .i64 e.d.lo, .int .i64 e.d.hi] 48)
  have HB := Lib.hid (nxA w (.cells #[.int .i64 e.kind, .int .i64 e.a.lo, .int .i64 e.a.hi, .int .i64 e.w.lo, .int .i64 e.w.hi, .int .i64 e.d.lo, .int .i64 e.d.hi] 48))
  have d1 : (e.kind == 1) = false := by rw [hk]; rfl
  have d2 : (e.kind == 2) = false := by rw [hk]; rfl
  have d0 : (e.kind == 0) = true := by rw [hk]; rfl
  clear hk
  go_enter Tryz.func79, Tryz.ntmps79
  go_upto_region 1 with fail
  generalize (w.alloc (.cells #[.int .i64 e.kind, .int .i64 e.a.lo, .int .i64 e.a.hi, .int .i64 e.w.lo, .int .i64 e.w.hi, .int .i64 e.d.lo, .int .i64 e.d.hi] 48)) = V at *
  have c0 := HX.out.c 0 _ rfl
  go_wp2_with fail
  go_ret
  rw [HL.out]
  exact ⟨rfl, HB.out⟩
theorem line_any (e : Ed) (h : okEd e = true) (w : World) : Calls Tryz.prog 79 #[.agg #[.int .i64 e.kind, .int .i64 e.a.lo, .int .i64 e.a.hi, .int .i64 e.w.lo, .int .i64 e.w.hi, .int .i64 e.d.lo, .int .i64 e.d.hi]] w (Ret (tx (edLn e)) w) := by
  by_cases hk : e.kind = 0
  · exact lineF_any e hk w
  · obtain ⟨h1, h2, h3, h4⟩ := okE_wd h hk
    rcases h1 with h1 | h1
    · exact lineB1_any e h1 w h2 h3 h4
    · exact lineB2_any e h1 w h2 h3 h4
end Go.Proofs.YtonnemkecppmiaaGreatDoor
