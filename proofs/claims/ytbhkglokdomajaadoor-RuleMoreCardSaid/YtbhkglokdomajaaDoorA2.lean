import Derived.Test.YtbhkglokdomajaaDoorA1
import Derived.Test.YtbhkglokdomajaaDoorP8
import Derived.Test.YtbhkglokdomajaaDoorP10
import Derived.Test.YtbhkglokdomajaaDoorP16
namespace Go.Proofs.YtbhkglokdomajaaDoor
open Go.RowKit
/-! The law's examples (awake): they hold. -/
theorem off_f (A : Option Addr) : offS (smpD A) 0 10 = ((20, 35), 0) := by kernel_rfl
theorem lasts_f (A : Option Addr) : lastsS (smpD A) 1 40 = ((36, 7000), 0) := by kernel_rfl
theorem fol1_f (A : Option Addr) : followS (smpD A) smpL [1, 1, 1] = (39, 4, 0, 0) := by kernel_rfl
theorem fol2_f (A : Option Addr) : followS (smpD A) smpL [1, 0, 1] = (0, 2, 0, 11) := by kernel_rfl
theorem plan_f (A : Option Addr) : planS (smpD A) smpL = ([1, 1, 1], 39, 0) := by kernel_rfl
theorem proof_f (A : Option Addr) : proofR (smpD A) smpL = ([(0, 1, 0), (1, 2, 0), (2, 3, 0)], 0) := by kernel_rfl
theorem off_smp (A : Option Addr) (w : World) (hd : DieAt w w.heap.size (smpD A)) : Calls Tryd.prog 14 #[.agg #[.slice A 2 2, .int .i64 40, .int .i64 10, .int .i64 3], .int .i64 0, .int .i64 10] w (Ret (.tuple #[.agg #[.int .i64 20, .int .i64 35], .int .i64 0]) w) :=
  (Off_any (smpD A) 0 10 w hd).mono fun e w' h => by rw [off_f] at h; exact h
theorem lasts_smp (A : Option Addr) (w : World) (hd : DieAt w w.heap.size (smpD A)) : Calls Tryd.prog 16 #[.agg #[.slice A 2 2, .int .i64 40, .int .i64 10, .int .i64 3], .int .i64 1, .int .i64 40] w (Ret (.tuple #[.agg #[.int .i64 36, .int .i64 7000], .int .i64 0]) w) :=
  (Lasts_any (smpD A) 1 40 w hd).mono fun e w' h => by rw [lasts_f] at h; exact h
theorem fol1_smp (A B P : Option Addr) (w : World) (hd : DieAt w w.heap.size (smpD A)) (hl : At w w.heap.size 2 Stint.cells B smpL) (hp : At w w.heap.size 1 icell P [1, 1, 1]) (he : Env w) : Calls Tryd.prog 18 #[.agg #[.slice A 2 2, .int .i64 40, .int .i64 10, .int .i64 3], .slice B 4 4, .slice P 3 3] w (Ret (.tuple #[.int .i64 39, .int .i64 4, .int .i64 0, .int .i64 0]) w) :=
  (Follow_any (smpD A) B 4 smpL P 3 [1, 1, 1] w hd hl (by decide) hp (by decide) he).mono fun e w' h => by rw [fol1_f] at h; exact h
theorem fol2_smp (A B P : Option Addr) (w : World) (hd : DieAt w w.heap.size (smpD A)) (hl : At w w.heap.size 2 Stint.cells B smpL) (hp : At w w.heap.size 1 icell P [1, 0, 1]) (he : Env w) : Calls Tryd.prog 18 #[.agg #[.slice A 2 2, .int .i64 40, .int .i64 10, .int .i64 3], .slice B 4 4, .slice P 3 3] w (Ret (.tuple #[.int .i64 0, .int .i64 2, .int .i64 0, .int .i64 11]) w) :=
  (Follow_any (smpD A) B 4 smpL P 3 [1, 0, 1] w hd hl (by decide) hp (by decide) he).mono fun e w' h => by rw [fol2_f] at h; exact h
def RetPl3 (w : World) (e : Ending) (w' : World) : Prop := ∃ A c, e = .returned (.tuple #[.slice A 3 c, .int .i64 39, .int .i64 0]) ∧ At w' w'.heap.size 1 icell A [1, 1, 1] ∧ Below w.heap.size w w'
theorem plan_smp (A B : Option Addr) (w : World) (hd : DieAt w w.heap.size (smpD A)) (hl : At w w.heap.size 2 Stint.cells B smpL) (he : Env w) : Calls Tryd.prog 25 #[.agg #[.slice A 2 2, .int .i64 40, .int .i64 10, .int .i64 3], .slice B 4 4] w (RetPl3 w) :=
  (Plan_any (smpD A) B 4 smpL w hd hl (by decide) he).mono fun e w' h => by rw [plan_f] at h; exact h
def RetPr3 (w : World) (e : Ending) (w' : World) : Prop := ∃ A1 c1 A2 c2, e = .returned (.tuple #[.slice A1 3 c1, .slice A2 3 c2, .int .i64 0]) ∧ At w' w'.heap.size 2 spv A1 [(0, 1), (1, 2), (2, 3)] ∧ At w' w'.heap.size 1 icell A2 [0, 0, 0] ∧ Below w.heap.size w w'
theorem proof_smp (A B : Option Addr) (w : World) (hd : DieAt w w.heap.size (smpD A)) (hl : At w w.heap.size 2 Stint.cells B smpL) (he : Env w) : Calls Tryd.prog 20 #[.agg #[.slice A 2 2, .int .i64 40, .int .i64 10, .int .i64 3], .slice B 4 4] w (RetPr3 w) :=
  (Proof_any (smpD A) B 4 smpL w hd hl (by decide) he).mono fun e w' h => by rw [proof_f] at h; exact h
theorem ints_three (x y z : Int) {A A' : Option Addr} {c c' : Nat} {w : World} (h : At w w.heap.size 1 icell A [x, y, z]) (h' : At w w.heap.size 1 icell A' [x, y, z]) : Calls Tryd.prog 23 #[.slice A 3 c, .slice A' 3 c'] w (Ret (.bool true) w) :=
  (Ints_any [x, y, z] [x, y, z] A A' c c' w h h' (by simp) (by simp)).mono fun e w' h => by rw [show decide ([x, y, z] = [x, y, z]) = true by simp] at h; exact h
theorem spans_three (x y z : Int × Int) {A A' : Option Addr} {c c' : Nat} {w : World} (h : At w w.heap.size 2 spv A [x, y, z]) (h' : At w w.heap.size 2 spv A' [x, y, z]) : Calls Tryd.prog 22 #[.slice A 3 c, .slice A' 3 c'] w (Ret (.bool true) w) :=
  (Spans_any [x, y, z] [x, y, z] A A' c c' w h h' (by simp) (by simp)).mono fun e w' h => by rw [show decide ([x, y, z] = [x, y, z]) = true by simp] at h; exact h
theorem span_eql (x1 x2 y1 y2 : Int) (W : World) : (binOp .eql 28 (.agg #[.int .i64 x1, .int .i64 x2]) (.agg #[.int .i64 y1, .int .i64 y2])).run Tryd.prog W = .ok (.bool (x1 == y1 && x2 == y2)) W := by
  rw [run_eql_struct, run_equalIn_struct _ _ _ _ _ span_eq1 span_eq2]
  simp [Op.eqFields, go_sem]
  by_cases h1 : x1 = y1 <;> by_cases h2 : x2 = y2 <;> simp [h1, h2]
theorem at_three_i (w : World) (x y z : Int) (t : TypeId) : At (w.alloc (.cells #[.int .i64 x, .int .i64 y, .int .i64 z] t)) (w.alloc (.cells #[.int .i64 x, .int .i64 y, .int .i64 z] t)).heap.size 1 icell (some ⟨w.heap.size, 0, none⟩) [x, y, z] :=
  (At.new (size := 1) (cells := icell) (fun _ => rfl) [x, y, z] w _ t rfl).more (by simp)
theorem at_three_s (w : World) (a b c d e f : Int) (t : TypeId) : At (w.alloc (.cells #[.int .i64 a, .int .i64 b, .int .i64 c, .int .i64 d, .int .i64 e, .int .i64 f] t)) (w.alloc (.cells #[.int .i64 a, .int .i64 b, .int .i64 c, .int .i64 d, .int .i64 e, .int .i64 f] t)).heap.size 2 spv (some ⟨w.heap.size, 0, none⟩) [(a, b), (c, d), (e, f)] :=
  (At.new (size := 2) (cells := spv) (fun _ => rfl) [(a, b), (c, d), (e, f)] w _ t rfl).more (by simp)
structure AwW (A B : Option Addr) (bs : Nat) (W : World) : Prop where
  d : DieAt W W.heap.size (smpD A)
  l : At W W.heap.size 2 Stint.cells B smpL
  en : Env W
  bx : Bx W bs [.slice A 2 2, .int .i64 40, .int .i64 10, .int .i64 3]
theorem AwW.next {A B : Option Addr} {bs : Nat} {W W' : World} (h : AwW A B bs W) (hb : Below W.heap.size W W') : AwW A B bs W' := ⟨h.d.next hb, h.l.next hb, h.en.next hb, h.bx.next hb⟩
set_option maxRecDepth 100000 in
set_option maxHeartbeats 4000000 in
theorem awake_any (w : World) (he : Env w) : Calls Tryd.prog 13 #[] w (Ret (.bool true) w) := by
  have HE := Lib.hid he
  clear he
  go_enter Tryd.func13, Tryd.ntmps13
  go_wp2_with fail
  refine (sample_any _).mono ?_
  rintro e w1 ⟨A, B, rfl, hd, hl, hb⟩
  have K := Lib.hid (show AwW A B w1.heap.size (w1.alloc (.cells #[.slice A 2 2, .int .i64 40, .int .i64 10, .int .i64 3] 24)) from ⟨hd.next (nxA _ _), hl.next (nxA _ _), (HE.out.next hb).next (nxA _ _), Bx.new w1 #[.slice A 2 2, .int .i64 40, .int .i64 10, .int .i64 3] 24⟩)
  have HB := Lib.hid (hb.alloc hb.size (.cells #[.slice A 2 2, .int .i64 40, .int .i64 10, .int .i64 3] 24))
  clear hd hl hb HE
  go_wp2_with fail
  generalize (w1.alloc (.cells #[.slice A 2 2, .int .i64 40, .int .i64 10, .int .i64 3] 24)) = V1 at *
  generalize w1.heap.size = bs at *
  have p0 := K.out.bx.c 0 _ rfl
  have p1 := K.out.bx.c 1 _ rfl
  have p2 := K.out.bx.c 2 _ rfl
  have p3 := K.out.bx.c 3 _ rfl
  go_wp2_with fail
  refine (off_smp A V1 K.out.d).mono ?_
  rintro e V2 ⟨rfl, hb⟩
  replace K := Lib.hid (K.out.next hb)
  replace HB := Lib.hid (HB.out.trans (hb.mono HB.out.size))
  clear hb p0 p1 p2 p3
  have hA := nxA V2 (.cells #[.int .i64 20, .int .i64 35] 28)
  have S3 := Lib.hid (Bx.new V2 #[.int .i64 20, .int .i64 35] 28)
  replace K := Lib.hid (K.out.next hA)
  replace HB := Lib.hid (HB.out.trans (hA.mono HB.out.size))
  clear hA
  go_upto_region 3 with fail
  generalize (V2.alloc (.cells #[.int .i64 20, .int .i64 35] 28)) = V2b at *
  generalize V2.heap.size = bS3 at *
  have p0 := K.out.bx.c 0 _ rfl
  have p1 := K.out.bx.c 1 _ rfl
  have p2 := K.out.bx.c 2 _ rfl
  have p3 := K.out.bx.c 3 _ rfl
  go_wp2_with fail
  refine (lasts_smp A V2b K.out.d).mono ?_
  rintro e V3 ⟨rfl, hb⟩
  replace S3 := Lib.hid (S3.out.next hb)
  replace K := Lib.hid (K.out.next hb)
  replace HB := Lib.hid (HB.out.trans (hb.mono HB.out.size))
  clear hb p0 p1 p2 p3
  have hA := nxA V3 (.cells #[.int .i64 36, .int .i64 7000] 28)
  replace S3 := Lib.hid (S3.out.next hA)
  have S5 := Lib.hid (Bx.new V3 #[.int .i64 36, .int .i64 7000] 28)
  replace K := Lib.hid (K.out.next hA)
  replace HB := Lib.hid (HB.out.trans (hA.mono HB.out.size))
  clear hA
  go_upto_region 4 with fail
  generalize (V3.alloc (.cells #[.int .i64 36, .int .i64 7000] 28)) = V3b at *
  generalize V3.heap.size = bS5 at *
  have p0 := K.out.bx.c 0 _ rfl
  have p1 := K.out.bx.c 1 _ rfl
  have p2 := K.out.bx.c 2 _ rfl
  have p3 := K.out.bx.c 3 _ rfl
  go_wp2_with fail
  have hA := nxA V3b (.cells #[.int .i64 1, .int .i64 1, .int .i64 1] 3)
  replace S3 := Lib.hid (S3.out.next hA)
  replace S5 := Lib.hid (S5.out.next hA)
  have Q1 := Lib.hid (at_three_i V3b 1 1 1 3)
  replace K := Lib.hid (K.out.next hA)
  replace HB := Lib.hid (HB.out.trans (hA.mono HB.out.size))
  clear hA p0 p1 p2 p3
  generalize (V3b.alloc (.cells #[.int .i64 1, .int .i64 1, .int .i64 1] 3)) = V3a at *
  refine (fol1_smp A B _ V3a K.out.d K.out.l Q1.out K.out.en).mono ?_
  rintro e V4 ⟨rfl, hb⟩
  replace S3 := Lib.hid (S3.out.next hb)
  replace S5 := Lib.hid (S5.out.next hb)
  replace Q1 := Lib.hid (Q1.out.next hb)
  replace K := Lib.hid (K.out.next hb)
  replace HB := Lib.hid (HB.out.trans (hb.mono HB.out.size))
  clear hb
  clear Q1
  have p0 := K.out.bx.c 0 _ rfl
  have p1 := K.out.bx.c 1 _ rfl
  have p2 := K.out.bx.c 2 _ rfl
  have p3 := K.out.bx.c 3 _ rfl
  go_wp2_with fail
  have hA := nxA V4 (.cells #[.int .i64 1, .int .i64 0, .int .i64 1] 3)
  replace S3 := Lib.hid (S3.out.next hA)
  replace S5 := Lib.hid (S5.out.next hA)
  have Q2 := Lib.hid (at_three_i V4 1 0 1 3)
  replace K := Lib.hid (K.out.next hA)
  replace HB := Lib.hid (HB.out.trans (hA.mono HB.out.size))
  clear hA p0 p1 p2 p3
  generalize (V4.alloc (.cells #[.int .i64 1, .int .i64 0, .int .i64 1] 3)) = V4a at *
  refine (fol2_smp A B _ V4a K.out.d K.out.l Q2.out K.out.en).mono ?_
  rintro e V5 ⟨rfl, hb⟩
  replace S3 := Lib.hid (S3.out.next hb)
  replace S5 := Lib.hid (S5.out.next hb)
  replace Q2 := Lib.hid (Q2.out.next hb)
  replace K := Lib.hid (K.out.next hb)
  replace HB := Lib.hid (HB.out.trans (hb.mono HB.out.size))
  clear hb
  clear Q2
  have p0 := K.out.bx.c 0 _ rfl
  have p1 := K.out.bx.c 1 _ rfl
  have p2 := K.out.bx.c 2 _ rfl
  have p3 := K.out.bx.c 3 _ rfl
  go_wp2_with fail
  refine (plan_smp A B V5 K.out.d K.out.l K.out.en).mono ?_
  rintro e V6 ⟨AP, cP, rfl, hp, hb⟩
  replace S3 := Lib.hid (S3.out.next hb)
  replace S5 := Lib.hid (S5.out.next hb)
  replace K := Lib.hid (K.out.next hb)
  replace HB := Lib.hid (HB.out.trans (hb.mono HB.out.size))
  have P1 := Lib.hid (hp)
  clear hb hp p0 p1 p2 p3
  have p0 := K.out.bx.c 0 _ rfl
  have p1 := K.out.bx.c 1 _ rfl
  have p2 := K.out.bx.c 2 _ rfl
  have p3 := K.out.bx.c 3 _ rfl
  go_wp2_with fail
  refine (proof_smp A B V6 K.out.d K.out.l K.out.en).mono ?_
  rintro e V7 ⟨AR, cR, AF, cF, rfl, hr, hf, hb⟩
  replace S3 := Lib.hid (S3.out.next hb)
  replace S5 := Lib.hid (S5.out.next hb)
  replace P1 := Lib.hid (P1.out.next hb)
  replace K := Lib.hid (K.out.next hb)
  replace HB := Lib.hid (HB.out.trans (hb.mono HB.out.size))
  have R1 := Lib.hid (hr)
  have F1 := Lib.hid (hf)
  clear hb hr hf p0 p1 p2 p3
  have HS := Lib.hid (show ∀ W, Below V7.heap.size V7 W → (W.cell? ⟨bS3, 0, none⟩ = some (.int .i64 20) ∧ W.cell? ⟨bS3, 1, none⟩ = some (.int .i64 35) ∧ W.cell? ⟨bS5, 0, none⟩ = some (.int .i64 36) ∧ W.cell? ⟨bS5, 1, none⟩ = some (.int .i64 7000)) from fun W h => ⟨(S3.out.next h).c 0 _ rfl, (S3.out.next h).c 1 _ rfl, (S5.out.next h).c 0 _ rfl, (S5.out.next h).c 1 _ rfl⟩)
  have S0 := HS.out V7 (Below.refl _ _)
  have hq1 := fun W => span_eql 20 35 20 35 W
  have hq2 := fun W => span_eql 36 7000 36 7000 W
  simp only [beq_self_eq_true, Bool.and_self] at hq1 hq2
  have hq3 := span_eq3
  have k0 : Below V7.heap.size V7 V7.drew := (Below.refl _ _).drew
  clear S3 S5 K
  go_wp2_with fail
  refine wp_region_noPanic ?_
  refine wp_region_held_drew (S := (fun W => W.cell? ⟨bS3, 0, none⟩ = some (.int .i64 20) ∧ W.cell? ⟨bS3, 1, none⟩ = some (.int .i64 35) ∧ W.cell? ⟨bS5, 0, none⟩ = some (.int .i64 36) ∧ W.cell? ⟨bS5, 1, none⟩ = some (.int .i64 7000))) (by kernel_rfl) ?_ (fun hHeld => ?_)
  · (try dsimp only); exact HS.out _ k0
  refine htake (i := 0) (v := ?v1) rfl (by kernel_rfl) (by kernel_rfl) (by kernel_rfl) (fun _ _ _ h => h) (Or.inl ⟨by rfl, ?hy1⟩) (by assumption) ?_
  case hy1 => (intro w hSw; (try dsimp only at hSw); go_simp; try (with_reducible rfl))
  try simp only [Act.put, List.setIfInBounds_toArray, List.set_cons_zero, List.set_cons_succ]
  refine wpAnyH_ready (rs := [1]) (by kernel_rfl) (by simp) ?_
  refine hcons rfl (fun K hK => ?_) (AllReadyH.nil)
  go_simp
  (with_reducible refine (span38_any 20 35 _).mono ?_); rintro e W1 ⟨rfl, hb⟩; have k1 := below_step hb (k0) (Nat.le_refl V7.heap.size); clear hb
  refine hK.out _ _ ?_ (fun hHeld => ?_)
  · (try dsimp only); exact HS.out _ k1
  clear hK K
  try simp only [Act.put, List.setIfInBounds_toArray, List.set_cons_zero, List.set_cons_succ]
  refine htake (i := 2) (v := ?v2) rfl (by kernel_rfl) (by kernel_rfl) (by kernel_rfl) (fun _ _ _ h => h) (Or.inl ⟨by rfl, ?hy2⟩) (by assumption) ?_
  case hy2 => (intro w hSw; (try dsimp only at hSw); go_simp; try (with_reducible rfl))
  try simp only [Act.put, List.setIfInBounds_toArray, List.set_cons_zero, List.set_cons_succ]
  refine htake (i := 3) (v := ?v3) rfl (by kernel_rfl) (by kernel_rfl) (by kernel_rfl) (fun _ _ _ h => h) (Or.inl ⟨by rfl, ?hy3⟩) (by assumption) ?_
  case hy3 => (intro w hSw; (try dsimp only at hSw); go_simp; try (with_reducible rfl))
  try simp only [Act.put, List.setIfInBounds_toArray, List.set_cons_zero, List.set_cons_succ]
  refine htake (i := 4) (v := ?v4) rfl (by kernel_rfl) (by kernel_rfl) (by kernel_rfl) (fun _ _ _ h => h) (Or.inl ⟨by rfl, ?hy4⟩) (by assumption) ?_
  case hy4 => (intro w hSw; (try dsimp only at hSw); go_simp; try (with_reducible rfl))
  try simp only [Act.put, List.setIfInBounds_toArray, List.set_cons_zero, List.set_cons_succ]
  refine htake (i := 5) (v := ?v5) rfl (by kernel_rfl) (by kernel_rfl) (by kernel_rfl) (fun _ _ _ h => h) (Or.inl ⟨by rfl, ?hy5⟩) (by assumption) ?_
  case hy5 => (intro w hSw; (try dsimp only at hSw); go_simp; try (with_reducible rfl))
  try simp only [Act.put, List.setIfInBounds_toArray, List.set_cons_zero, List.set_cons_succ]
  refine htake (i := 6) (v := ?v6) rfl (by kernel_rfl) (by kernel_rfl) (by kernel_rfl) (fun _ _ _ h => h) (Or.inl ⟨by rfl, ?hy6⟩) (by assumption) ?_
  case hy6 => (intro w hSw; (try dsimp only at hSw); go_simp; try (with_reducible rfl))
  try simp only [Act.put, List.setIfInBounds_toArray, List.set_cons_zero, List.set_cons_succ]
  refine htake (i := 7) (v := ?v7) rfl (by kernel_rfl) (by kernel_rfl) (by kernel_rfl) (fun _ _ _ h => h) (Or.inl ⟨by rfl, ?hy7⟩) (by assumption) ?_
  case hy7 => (intro w hSw; (try dsimp only at hSw); go_simp; try (with_reducible rfl))
  try simp only [Act.put, List.setIfInBounds_toArray, List.set_cons_zero, List.set_cons_succ]
  refine htake (i := 8) (v := ?v8) rfl (by kernel_rfl) (by kernel_rfl) (by kernel_rfl) (fun _ _ _ h => h) (Or.inl ⟨by rfl, ?hy8⟩) (by assumption) ?_
  case hy8 => (intro w hSw; (try dsimp only at hSw); go_simp; try (with_reducible rfl))
  try simp only [Act.put, List.setIfInBounds_toArray, List.set_cons_zero, List.set_cons_succ]
  refine wpAnyH_ready (rs := [9]) (by kernel_rfl) (by simp) ?_
  refine hcons rfl (fun K hK => ?_) (AllReadyH.nil)
  go_simp
  (with_reducible refine (span38_any 36 7000 _).mono ?_); rintro e W9 ⟨rfl, hb⟩; have k2 := below_step hb (k1) (Nat.le_refl V7.heap.size); clear hb
  refine hK.out _ _ ?_ (fun hHeld => ?_)
  · (try dsimp only); exact HS.out _ k2
  clear hK K
  try simp only [Act.put, List.setIfInBounds_toArray, List.set_cons_zero, List.set_cons_succ]
  refine htake (i := 10) (v := ?v9) rfl (by kernel_rfl) (by kernel_rfl) (by kernel_rfl) (fun _ _ _ h => h) (Or.inl ⟨by rfl, ?hy9⟩) (by assumption) ?_
  case hy9 => (intro w hSw; (try dsimp only at hSw); go_simp; try (with_reducible rfl))
  try simp only [Act.put, List.setIfInBounds_toArray, List.set_cons_zero, List.set_cons_succ]
  refine htake (i := 11) (v := ?v10) rfl (by kernel_rfl) (by kernel_rfl) (by kernel_rfl) (fun _ _ _ h => h) (Or.inl ⟨by rfl, ?hy10⟩) (by assumption) ?_
  case hy10 => (intro w hSw; (try dsimp only at hSw); go_simp; try (with_reducible rfl))
  try simp only [Act.put, List.setIfInBounds_toArray, List.set_cons_zero, List.set_cons_succ]
  refine htake (i := 12) (v := ?v11) rfl (by kernel_rfl) (by kernel_rfl) (by kernel_rfl) (fun _ _ _ h => h) (Or.inl ⟨by rfl, ?hy11⟩) (by assumption) ?_
  case hy11 => (intro w hSw; (try dsimp only at hSw); go_simp; try (with_reducible rfl))
  try simp only [Act.put, List.setIfInBounds_toArray, List.set_cons_zero, List.set_cons_succ]
  refine htake (i := 13) (v := ?v12) rfl (by kernel_rfl) (by kernel_rfl) (by kernel_rfl) (fun _ _ _ h => h) (Or.inl ⟨by rfl, ?hy12⟩) (by assumption) ?_
  case hy12 => (intro w hSw; (try dsimp only at hSw); go_simp; try (with_reducible rfl))
  try simp only [Act.put, List.setIfInBounds_toArray, List.set_cons_zero, List.set_cons_succ]
  refine htake (i := 14) (v := ?v13) rfl (by kernel_rfl) (by kernel_rfl) (by kernel_rfl) (fun _ _ _ h => h) (Or.inl ⟨by rfl, ?hy13⟩) (by assumption) ?_
  case hy13 => (intro w hSw; (try dsimp only at hSw); go_simp; try (with_reducible rfl))
  try simp only [Act.put, List.setIfInBounds_toArray, List.set_cons_zero, List.set_cons_succ]
  refine htake (i := 15) (v := ?v14) rfl (by kernel_rfl) (by kernel_rfl) (by kernel_rfl) (fun _ _ _ h => h) (Or.inl ⟨by rfl, ?hy14⟩) (by assumption) ?_
  case hy14 => (intro w hSw; (try dsimp only at hSw); go_simp; try (with_reducible rfl))
  try simp only [Act.put, List.setIfInBounds_toArray, List.set_cons_zero, List.set_cons_succ]
  refine htake (i := 16) (v := ?v15) rfl (by kernel_rfl) (by kernel_rfl) (by kernel_rfl) (fun _ _ _ h => h) (Or.inl ⟨by rfl, ?hy15⟩) (by assumption) ?_
  case hy15 => (intro w hSw; (try dsimp only at hSw); go_simp; try (with_reducible rfl))
  try simp only [Act.put, List.setIfInBounds_toArray, List.set_cons_zero, List.set_cons_succ]
  refine htake (i := 17) (v := ?v16) rfl (by kernel_rfl) (by kernel_rfl) (by kernel_rfl) (fun _ _ _ h => h) (Or.inl ⟨by rfl, ?hy16⟩) (by assumption) ?_
  case hy16 => (intro w hSw; (try dsimp only at hSw); go_simp; try (with_reducible rfl))
  try simp only [Act.put, List.setIfInBounds_toArray, List.set_cons_zero, List.set_cons_succ]
  refine htake (i := 18) (v := ?v17) rfl (by kernel_rfl) (by kernel_rfl) (by kernel_rfl) (fun _ _ _ h => h) (Or.inl ⟨by rfl, ?hy17⟩) (by assumption) ?_
  case hy17 => (intro w hSw; (try dsimp only at hSw); go_simp; try (with_reducible rfl))
  try simp only [Act.put, List.setIfInBounds_toArray, List.set_cons_zero, List.set_cons_succ]
  refine htake (i := 19) (v := ?v18) rfl (by kernel_rfl) (by kernel_rfl) (by kernel_rfl) (fun _ _ _ h => h) (Or.inl ⟨by rfl, ?hy18⟩) (by assumption) ?_
  case hy18 => (intro w hSw; (try dsimp only at hSw); go_simp; try (with_reducible rfl))
  try simp only [Act.put, List.setIfInBounds_toArray, List.set_cons_zero, List.set_cons_succ]
  refine htake (i := 20) (v := ?v19) rfl (by kernel_rfl) (by kernel_rfl) (by kernel_rfl) (fun _ _ _ h => h) (Or.inl ⟨by rfl, ?hy19⟩) (by assumption) ?_
  case hy19 => (intro w hSw; (try dsimp only at hSw); go_simp; try (with_reducible rfl))
  try simp only [Act.put, List.setIfInBounds_toArray, List.set_cons_zero, List.set_cons_succ]
  refine htake (i := 21) (v := ?v20) rfl (by kernel_rfl) (by kernel_rfl) (by kernel_rfl) (fun _ _ _ h => h) (Or.inl ⟨by rfl, ?hy20⟩) (by assumption) ?_
  case hy20 => (intro w hSw; (try dsimp only at hSw); go_simp; try (with_reducible rfl))
  try simp only [Act.put, List.setIfInBounds_toArray, List.set_cons_zero, List.set_cons_succ]
  refine htake (i := 22) (v := ?v21) rfl (by kernel_rfl) (by kernel_rfl) (by kernel_rfl) (fun _ _ _ h => h) (Or.inl ⟨by rfl, ?hy21⟩) (by assumption) ?_
  case hy21 => (intro w hSw; (try dsimp only at hSw); go_simp; try (with_reducible rfl))
  try simp only [Act.put, List.setIfInBounds_toArray, List.set_cons_zero, List.set_cons_succ]
  refine htake (i := 23) (v := ?v22) rfl (by kernel_rfl) (by kernel_rfl) (by kernel_rfl) (fun _ _ _ h => h) (Or.inl ⟨by rfl, ?hy22⟩) (by assumption) ?_
  case hy22 => (intro w hSw; (try dsimp only at hSw); go_simp; try (with_reducible rfl))
  try simp only [Act.put, List.setIfInBounds_toArray, List.set_cons_zero, List.set_cons_succ]
  refine htake (i := 24) (v := ?v23) rfl (by kernel_rfl) (by kernel_rfl) (by kernel_rfl) (fun _ _ _ h => h) (Or.inl ⟨by rfl, ?hy23⟩) (by assumption) ?_
  case hy23 => (intro w hSw; (try dsimp only at hSw); go_simp; try (with_reducible rfl))
  try simp only [Act.put, List.setIfInBounds_toArray, List.set_cons_zero, List.set_cons_succ]
  refine htake (i := 25) (v := ?v24) rfl (by kernel_rfl) (by kernel_rfl) (by kernel_rfl) (fun _ _ _ h => h) (Or.inl ⟨by rfl, ?hy24⟩) (by assumption) ?_
  case hy24 => (intro w hSw; (try dsimp only at hSw); go_simp; try (with_reducible rfl))
  try simp only [Act.put, List.setIfInBounds_toArray, List.set_cons_zero, List.set_cons_succ]
  refine htake (i := 26) (v := ?v25) rfl (by kernel_rfl) (by kernel_rfl) (by kernel_rfl) (fun _ _ _ h => h) (Or.inl ⟨by rfl, ?hy25⟩) (by assumption) ?_
  case hy25 => (intro w hSw; (try dsimp only at hSw); go_simp; try (with_reducible rfl))
  try simp only [Act.put, List.setIfInBounds_toArray, List.set_cons_zero, List.set_cons_succ]
  refine htake (i := 27) (v := ?v26) rfl (by kernel_rfl) (by kernel_rfl) (by kernel_rfl) (fun _ _ _ h => h) (Or.inl ⟨by rfl, ?hy26⟩) (by assumption) ?_
  case hy26 => (intro w hSw; (try dsimp only at hSw); go_simp; try (with_reducible rfl))
  try simp only [Act.put, List.setIfInBounds_toArray, List.set_cons_zero, List.set_cons_succ]
  refine htake (i := 28) (v := ?v27) rfl (by kernel_rfl) (by kernel_rfl) (by kernel_rfl) (fun _ _ _ h => h) (Or.inl ⟨by rfl, ?hy27⟩) (by assumption) ?_
  case hy27 => (intro w hSw; (try dsimp only at hSw); go_simp; try (with_reducible rfl))
  try simp only [Act.put, List.setIfInBounds_toArray, List.set_cons_zero, List.set_cons_succ]
  refine htake (i := 29) (v := ?v28) rfl (by kernel_rfl) (by kernel_rfl) (by kernel_rfl) (fun _ _ _ h => h) (Or.inl ⟨by rfl, ?hy28⟩) (by assumption) ?_
  case hy28 => (intro w hSw; (try dsimp only at hSw); go_simp; try (with_reducible rfl))
  try simp only [Act.put, List.setIfInBounds_toArray, List.set_cons_zero, List.set_cons_succ]
  refine htake (i := 30) (v := ?v29) rfl (by kernel_rfl) (by kernel_rfl) (by kernel_rfl) (fun _ _ _ h => h) (Or.inl ⟨by rfl, ?hy29⟩) (by assumption) ?_
  case hy29 => (intro w hSw; (try dsimp only at hSw); go_simp; try (with_reducible rfl))
  try simp only [Act.put, List.setIfInBounds_toArray, List.set_cons_zero, List.set_cons_succ]
  refine htake (i := 31) (v := ?v30) rfl (by kernel_rfl) (by kernel_rfl) (by kernel_rfl) (fun _ _ _ h => h) (Or.inl ⟨by rfl, ?hy30⟩) (by assumption) ?_
  case hy30 => (intro w hSw; (try dsimp only at hSw); go_simp; try (with_reducible rfl))
  try simp only [Act.put, List.setIfInBounds_toArray, List.set_cons_zero, List.set_cons_succ]
  refine htake (i := 32) (v := ?v31) rfl (by kernel_rfl) (by kernel_rfl) (by kernel_rfl) (fun _ _ _ h => h) (Or.inl ⟨by rfl, ?hy31⟩) (by assumption) ?_
  case hy31 => (intro w hSw; (try dsimp only at hSw); go_simp; try (with_reducible rfl))
  try simp only [Act.put, List.setIfInBounds_toArray, List.set_cons_zero, List.set_cons_succ]
  refine htake (i := 33) (v := ?v32) rfl (by kernel_rfl) (by kernel_rfl) (by kernel_rfl) (fun _ _ _ h => h) (Or.inl ⟨by rfl, ?hy32⟩) (by assumption) ?_
  case hy32 => (intro w hSw; (try dsimp only at hSw); go_simp; try (with_reducible rfl))
  try simp only [Act.put, List.setIfInBounds_toArray, List.set_cons_zero, List.set_cons_succ]
  refine htake (i := 34) (v := ?v33) rfl (by kernel_rfl) (by kernel_rfl) (by kernel_rfl) (fun _ _ _ h => h) (Or.inl ⟨by rfl, ?hy33⟩) (by assumption) ?_
  case hy33 => (intro w hSw; (try dsimp only at hSw); go_simp; try (with_reducible rfl))
  try simp only [Act.put, List.setIfInBounds_toArray, List.set_cons_zero, List.set_cons_succ]
  refine htake (i := 35) (v := ?v34) rfl (by kernel_rfl) (by kernel_rfl) (by kernel_rfl) (fun _ _ _ h => h) (Or.inl ⟨by rfl, ?hy34⟩) (by assumption) ?_
  case hy34 => (intro w hSw; (try dsimp only at hSw); go_simp; try (with_reducible rfl))
  try simp only [Act.put, List.setIfInBounds_toArray, List.set_cons_zero, List.set_cons_succ]
  refine htake (i := 36) (v := ?v35) rfl (by kernel_rfl) (by kernel_rfl) (by kernel_rfl) (fun _ _ _ h => h) (Or.inl ⟨by rfl, ?hy35⟩) (by assumption) ?_
  case hy35 => (intro w hSw; (try dsimp only at hSw); go_simp; try (with_reducible rfl))
  try simp only [Act.put, List.setIfInBounds_toArray, List.set_cons_zero, List.set_cons_succ]
  refine htake (i := 37) (v := ?v36) rfl (by kernel_rfl) (by kernel_rfl) (by kernel_rfl) (fun _ _ _ h => h) (Or.inl ⟨by rfl, ?hy36⟩) (by assumption) ?_
  case hy36 => (intro w hSw; (try dsimp only at hSw); go_simp; try (with_reducible rfl))
  try simp only [Act.put, List.setIfInBounds_toArray, List.set_cons_zero, List.set_cons_succ]
  refine htake (i := 38) (v := ?v37) rfl (by kernel_rfl) (by kernel_rfl) (by kernel_rfl) (fun _ _ _ h => h) (Or.inl ⟨by rfl, ?hy37⟩) (by assumption) ?_
  case hy37 => (intro w hSw; (try dsimp only at hSw); go_simp; try (with_reducible rfl))
  try simp only [Act.put, List.setIfInBounds_toArray, List.set_cons_zero, List.set_cons_succ]
  refine htake (i := 39) (v := ?v38) rfl (by kernel_rfl) (by kernel_rfl) (by kernel_rfl) (fun _ _ _ h => h) (Or.inl ⟨by rfl, ?hy38⟩) (by assumption) ?_
  case hy38 => (intro w hSw; (try dsimp only at hSw); go_simp; try (with_reducible rfl))
  try simp only [Act.put, List.setIfInBounds_toArray, List.set_cons_zero, List.set_cons_succ]
  refine htake (i := 40) (v := ?v39) rfl (by kernel_rfl) (by kernel_rfl) (by kernel_rfl) (fun _ _ _ h => h) (Or.inl ⟨by rfl, ?hy39⟩) (by assumption) ?_
  case hy39 => (intro w hSw; (try dsimp only at hSw); go_simp; try (with_reducible rfl))
  try simp only [Act.put, List.setIfInBounds_toArray, List.set_cons_zero, List.set_cons_succ]
  refine htake (i := 41) (v := ?v40) rfl (by kernel_rfl) (by kernel_rfl) (by kernel_rfl) (fun _ _ _ h => h) (Or.inl ⟨by rfl, ?hy40⟩) (by assumption) ?_
  case hy40 => (intro w hSw; (try dsimp only at hSw); go_simp; try (with_reducible rfl))
  try simp only [Act.put, List.setIfInBounds_toArray, List.set_cons_zero, List.set_cons_succ]
  refine htake (i := 42) (v := ?v41) rfl (by kernel_rfl) (by kernel_rfl) (by kernel_rfl) (fun _ _ _ h => h) (Or.inl ⟨by rfl, ?hy41⟩) (by assumption) ?_
  case hy41 => (intro w hSw; (try dsimp only at hSw); go_simp; try (with_reducible rfl))
  try simp only [Act.put, List.setIfInBounds_toArray, List.set_cons_zero, List.set_cons_succ]
  refine htake (i := 43) (v := ?v42) rfl (by kernel_rfl) (by kernel_rfl) (by kernel_rfl) (fun _ _ _ h => h) (Or.inl ⟨by rfl, ?hy42⟩) (by assumption) ?_
  case hy42 => (intro w hSw; (try dsimp only at hSw); go_simp; try (with_reducible rfl))
  try simp only [Act.put, List.setIfInBounds_toArray, List.set_cons_zero, List.set_cons_succ]
  refine htake (i := 44) (v := ?v43) rfl (by kernel_rfl) (by kernel_rfl) (by kernel_rfl) (fun _ _ _ h => h) (Or.inl ⟨by rfl, ?hy43⟩) (by assumption) ?_
  case hy43 => (intro w hSw; (try dsimp only at hSw); go_simp; try (with_reducible rfl))
  try simp only [Act.put, List.setIfInBounds_toArray, List.set_cons_zero, List.set_cons_succ]
  refine htake (i := 45) (v := ?v44) rfl (by kernel_rfl) (by kernel_rfl) (by kernel_rfl) (fun _ _ _ h => h) (Or.inl ⟨by rfl, ?hy44⟩) (by assumption) ?_
  case hy44 => (intro w hSw; (try dsimp only at hSw); go_simp; try (with_reducible rfl))
  try simp only [Act.put, List.setIfInBounds_toArray, List.set_cons_zero, List.set_cons_succ]
  refine wpAnyH_ready (rs := [46]) (by kernel_rfl) (by simp) ?_
  refine hcons rfl (fun K hK => ?_) (AllReadyH.nil)
  go_simp
  refine hK.out _ _ ?_ (fun hHeld => ?_)
  · (try dsimp only); exact HS.out _ (k2.alloc k2.size _)
  clear hK K
  try simp only [Act.put, List.setIfInBounds_toArray, List.set_cons_zero, List.set_cons_succ]
  refine wpAnyH_ready (rs := [47]) (by kernel_rfl) (by simp) ?_
  refine hcons rfl (fun K hK => ?_) (AllReadyH.nil)
  go_simp
  (with_reducible refine (ints_three 1 1 1 ?_ ?_).mono ?_); (exact P1.out.next (k2.alloc k2.size _)); (exact (at_three_i _ _ _ _ _)); rintro e W47 ⟨rfl, hb⟩; have k3 := below_step hb (k2.alloc k2.size _) (Nat.le_refl V7.heap.size); clear hb
  refine hK.out _ _ ?_ (fun hHeld => ?_)
  · (try dsimp only); exact HS.out _ k3
  clear hK K
  try simp only [Act.put, List.setIfInBounds_toArray, List.set_cons_zero, List.set_cons_succ]
  refine htake (i := 48) (v := ?v45) rfl (by kernel_rfl) (by kernel_rfl) (by kernel_rfl) (fun _ _ _ h => h) (Or.inl ⟨by rfl, ?hy45⟩) (by assumption) ?_
  case hy45 => (intro w hSw; (try dsimp only at hSw); go_simp; try (with_reducible rfl))
  try simp only [Act.put, List.setIfInBounds_toArray, List.set_cons_zero, List.set_cons_succ]
  refine htake (i := 49) (v := ?v46) rfl (by kernel_rfl) (by kernel_rfl) (by kernel_rfl) (fun _ _ _ h => h) (Or.inl ⟨by rfl, ?hy46⟩) (by assumption) ?_
  case hy46 => (intro w hSw; (try dsimp only at hSw); go_simp; try (with_reducible rfl))
  try simp only [Act.put, List.setIfInBounds_toArray, List.set_cons_zero, List.set_cons_succ]
  refine htake (i := 50) (v := ?v47) rfl (by kernel_rfl) (by kernel_rfl) (by kernel_rfl) (fun _ _ _ h => h) (Or.inl ⟨by rfl, ?hy47⟩) (by assumption) ?_
  case hy47 => (intro w hSw; (try dsimp only at hSw); go_simp; try (with_reducible rfl))
  try simp only [Act.put, List.setIfInBounds_toArray, List.set_cons_zero, List.set_cons_succ]
  refine htake (i := 51) (v := ?v48) rfl (by kernel_rfl) (by kernel_rfl) (by kernel_rfl) (fun _ _ _ h => h) (Or.inl ⟨by rfl, ?hy48⟩) (by assumption) ?_
  case hy48 => (intro w hSw; (try dsimp only at hSw); go_simp; try (with_reducible rfl))
  try simp only [Act.put, List.setIfInBounds_toArray, List.set_cons_zero, List.set_cons_succ]
  refine htake (i := 52) (v := ?v49) rfl (by kernel_rfl) (by kernel_rfl) (by kernel_rfl) (fun _ _ _ h => h) (Or.inl ⟨by rfl, ?hy49⟩) (by assumption) ?_
  case hy49 => (intro w hSw; (try dsimp only at hSw); go_simp; try (with_reducible rfl))
  try simp only [Act.put, List.setIfInBounds_toArray, List.set_cons_zero, List.set_cons_succ]
  refine htake (i := 53) (v := ?v50) rfl (by kernel_rfl) (by kernel_rfl) (by kernel_rfl) (fun _ _ _ h => h) (Or.inl ⟨by rfl, ?hy50⟩) (by assumption) ?_
  case hy50 => (intro w hSw; (try dsimp only at hSw); go_simp; try (with_reducible rfl))
  try simp only [Act.put, List.setIfInBounds_toArray, List.set_cons_zero, List.set_cons_succ]
  refine htake (i := 54) (v := ?v51) rfl (by kernel_rfl) (by kernel_rfl) (by kernel_rfl) (fun _ _ _ h => h) (Or.inl ⟨by rfl, ?hy51⟩) (by assumption) ?_
  case hy51 => (intro w hSw; (try dsimp only at hSw); go_simp; try (with_reducible rfl))
  try simp only [Act.put, List.setIfInBounds_toArray, List.set_cons_zero, List.set_cons_succ]
  refine htake (i := 55) (v := ?v52) rfl (by kernel_rfl) (by kernel_rfl) (by kernel_rfl) (fun _ _ _ h => h) (Or.inl ⟨by rfl, ?hy52⟩) (by assumption) ?_
  case hy52 => (intro w hSw; (try dsimp only at hSw); go_simp; try (with_reducible rfl))
  try simp only [Act.put, List.setIfInBounds_toArray, List.set_cons_zero, List.set_cons_succ]
  refine htake (i := 56) (v := ?v53) rfl (by kernel_rfl) (by kernel_rfl) (by kernel_rfl) (fun _ _ _ h => h) (Or.inl ⟨by rfl, ?hy53⟩) (by assumption) ?_
  case hy53 => (intro w hSw; (try dsimp only at hSw); go_simp; try (with_reducible rfl))
  try simp only [Act.put, List.setIfInBounds_toArray, List.set_cons_zero, List.set_cons_succ]
  refine htake (i := 57) (v := ?v54) rfl (by kernel_rfl) (by kernel_rfl) (by kernel_rfl) (fun _ _ _ h => h) (Or.inl ⟨by rfl, ?hy54⟩) (by assumption) ?_
  case hy54 => (intro w hSw; (try dsimp only at hSw); go_simp; try (with_reducible rfl))
  try simp only [Act.put, List.setIfInBounds_toArray, List.set_cons_zero, List.set_cons_succ]
  refine htake (i := 58) (v := ?v55) rfl (by kernel_rfl) (by kernel_rfl) (by kernel_rfl) (fun _ _ _ h => h) (Or.inl ⟨by rfl, ?hy55⟩) (by assumption) ?_
  case hy55 => (intro w hSw; (try dsimp only at hSw); go_simp; try (with_reducible rfl))
  try simp only [Act.put, List.setIfInBounds_toArray, List.set_cons_zero, List.set_cons_succ]
  refine wpAnyH_ready (rs := [59]) (by kernel_rfl) (by simp) ?_
  refine hcons rfl (fun K hK => ?_) (AllReadyH.nil)
  go_simp
  (with_reducible refine (span38_any 0 1 _).mono ?_); rintro e W59 ⟨rfl, hb⟩; have k4 := below_step hb (k3) (Nat.le_refl V7.heap.size); clear hb
  refine hK.out _ _ ?_ (fun hHeld => ?_)
  · (try dsimp only); exact HS.out _ k4
  clear hK K
  try simp only [Act.put, List.setIfInBounds_toArray, List.set_cons_zero, List.set_cons_succ]
  refine wpAnyH_ready (rs := [60]) (by kernel_rfl) (by simp) ?_
  refine hcons rfl (fun K hK => ?_) (AllReadyH.nil)
  go_simp
  (with_reducible refine (span38_any 1 2 _).mono ?_); rintro e W60 ⟨rfl, hb⟩; have k5 := below_step hb (k4) (Nat.le_refl V7.heap.size); clear hb
  refine hK.out _ _ ?_ (fun hHeld => ?_)
  · (try dsimp only); exact HS.out _ k5
  clear hK K
  try simp only [Act.put, List.setIfInBounds_toArray, List.set_cons_zero, List.set_cons_succ]
  refine wpAnyH_ready (rs := [61]) (by kernel_rfl) (by simp) ?_
  refine hcons rfl (fun K hK => ?_) (AllReadyH.nil)
  go_simp
  (with_reducible refine (span38_any 2 3 _).mono ?_); rintro e W61 ⟨rfl, hb⟩; have k6 := below_step hb (k5) (Nat.le_refl V7.heap.size); clear hb
  refine hK.out _ _ ?_ (fun hHeld => ?_)
  · (try dsimp only); exact HS.out _ k6
  clear hK K
  try simp only [Act.put, List.setIfInBounds_toArray, List.set_cons_zero, List.set_cons_succ]
  refine wpAnyH_ready (rs := [62]) (by kernel_rfl) (by simp) ?_
  refine hcons rfl (fun K hK => ?_) (AllReadyH.nil)
  go_simp
  refine hK.out _ _ ?_ (fun hHeld => ?_)
  · (try dsimp only); exact HS.out _ (k6.alloc k6.size _)
  clear hK K
  try simp only [Act.put, List.setIfInBounds_toArray, List.set_cons_zero, List.set_cons_succ]
  refine wpAnyH_ready (rs := [63]) (by kernel_rfl) (by simp) ?_
  refine hcons rfl (fun K hK => ?_) (AllReadyH.nil)
  go_simp
  (with_reducible refine (spans_three (0, 1) (1, 2) (2, 3) ?_ ?_).mono ?_); (exact R1.out.next (k6.alloc k6.size _)); (exact (at_three_s _ _ _ _ _ _ _ _)); rintro e W63 ⟨rfl, hb⟩; have k7 := below_step hb (k6.alloc k6.size _) (Nat.le_refl V7.heap.size); clear hb
  refine hK.out _ _ ?_ (fun hHeld => ?_)
  · (try dsimp only); exact HS.out _ k7
  clear hK K
  try simp only [Act.put, List.setIfInBounds_toArray, List.set_cons_zero, List.set_cons_succ]
  refine htake (i := 64) (v := ?v56) rfl (by kernel_rfl) (by kernel_rfl) (by kernel_rfl) (fun _ _ _ h => h) (Or.inl ⟨by rfl, ?hy56⟩) (by assumption) ?_
  case hy56 => (intro w hSw; (try dsimp only at hSw); go_simp; try (with_reducible rfl))
  try simp only [Act.put, List.setIfInBounds_toArray, List.set_cons_zero, List.set_cons_succ]
  refine htake (i := 65) (v := ?v57) rfl (by kernel_rfl) (by kernel_rfl) (by kernel_rfl) (fun _ _ _ h => h) (Or.inl ⟨by rfl, ?hy57⟩) (by assumption) ?_
  case hy57 => (intro w hSw; (try dsimp only at hSw); go_simp; try (with_reducible rfl))
  try simp only [Act.put, List.setIfInBounds_toArray, List.set_cons_zero, List.set_cons_succ]
  refine htake (i := 66) (v := ?v58) rfl (by kernel_rfl) (by kernel_rfl) (by kernel_rfl) (fun _ _ _ h => h) (Or.inl ⟨by rfl, ?hy58⟩) (by assumption) ?_
  case hy58 => (intro w hSw; (try dsimp only at hSw); go_simp; try (with_reducible rfl))
  try simp only [Act.put, List.setIfInBounds_toArray, List.set_cons_zero, List.set_cons_succ]
  refine wpAnyH_ready (rs := [67]) (by kernel_rfl) (by simp) ?_
  refine hcons rfl (fun K hK => ?_) (AllReadyH.nil)
  go_simp
  refine hK.out _ _ ?_ (fun hHeld => ?_)
  · (try dsimp only); exact HS.out _ (k7.alloc k7.size _)
  clear hK K
  try simp only [Act.put, List.setIfInBounds_toArray, List.set_cons_zero, List.set_cons_succ]
  refine wpAnyH_ready (rs := [68]) (by kernel_rfl) (by simp) ?_
  refine hcons rfl (fun K hK => ?_) (AllReadyH.nil)
  go_simp
  (with_reducible refine (ints_three 0 0 0 ?_ ?_).mono ?_); (exact F1.out.next (k7.alloc k7.size _)); (exact (at_three_i _ _ _ _ _)); rintro e W68 ⟨rfl, hb⟩; have k8 := below_step hb (k7.alloc k7.size _) (Nat.le_refl V7.heap.size); clear hb
  refine hK.out _ _ ?_ (fun hHeld => ?_)
  · (try dsimp only); exact HS.out _ k8
  clear hK K
  try simp only [Act.put, List.setIfInBounds_toArray, List.set_cons_zero, List.set_cons_succ]
  refine htake (i := 69) (v := ?v59) rfl (by kernel_rfl) (by kernel_rfl) (by kernel_rfl) (fun _ _ _ h => h) (Or.inl ⟨by rfl, ?hy59⟩) (by assumption) ?_
  case hy59 => (intro w hSw; (try dsimp only at hSw); go_simp; try (with_reducible rfl))
  try simp only [Act.put, List.setIfInBounds_toArray, List.set_cons_zero, List.set_cons_succ]
  refine htake (i := 70) (v := ?v60) rfl (by kernel_rfl) (by kernel_rfl) (by kernel_rfl) (fun _ _ _ h => h) (Or.inl ⟨by rfl, ?hy60⟩) (by assumption) ?_
  case hy60 => (intro w hSw; (try dsimp only at hSw); go_simp; try (with_reducible rfl))
  try simp only [Act.put, List.setIfInBounds_toArray, List.set_cons_zero, List.set_cons_succ]
  refine htake (i := 71) (v := ?v61) rfl (by kernel_rfl) (by kernel_rfl) (by kernel_rfl) (fun _ _ _ h => h) (Or.inl ⟨by rfl, ?hy61⟩) (by assumption) ?_
  case hy61 => (intro w hSw; (try dsimp only at hSw); go_simp; try (with_reducible rfl))
  try simp only [Act.put, List.setIfInBounds_toArray, List.set_cons_zero, List.set_cons_succ]
  refine htake (i := 72) (v := ?v62) rfl (by kernel_rfl) (by kernel_rfl) (by kernel_rfl) (fun _ _ _ h => h) (Or.inl ⟨by rfl, ?hy62⟩) (by assumption) ?_
  case hy62 => (intro w hSw; (try dsimp only at hSw); go_simp; try (with_reducible rfl))
  try simp only [Act.put, List.setIfInBounds_toArray, List.set_cons_zero, List.set_cons_succ]
  refine htake (i := 73) (v := ?v63) rfl (by kernel_rfl) (by kernel_rfl) (by kernel_rfl) (fun _ _ _ h => h) (Or.inl ⟨by rfl, ?hy63⟩) (by assumption) ?_
  case hy63 => (intro w hSw; (try dsimp only at hSw); go_simp; try (with_reducible rfl))
  try simp only [Act.put, List.setIfInBounds_toArray, List.set_cons_zero, List.set_cons_succ]
  refine htake (i := 74) (v := ?v64) rfl (by kernel_rfl) (by kernel_rfl) (by kernel_rfl) (fun _ _ _ h => h) (Or.inl ⟨by rfl, ?hy64⟩) (by assumption) ?_
  case hy64 => (intro w hSw; (try dsimp only at hSw); go_simp; try (with_reducible rfl))
  try simp only [Act.put, List.setIfInBounds_toArray, List.set_cons_zero]
  refine wpAnyH_done (by kernel_rfl) ?_ _
  refine NoPanic.normal ?_
  iterate 76 (try clear hHeld)
  have HBZ := Lib.hid (HB.out.trans (k8.mono HB.out.size))
  clear S0 hq1 hq2 hq3 k0 k1 k2 k3 k4 k5 k6 k7 k8
  go_wp2
  go_ret
  exact ⟨rfl, HBZ.out⟩
end Go.Proofs.YtbhkglokdomajaaDoor
