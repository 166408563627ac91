import Derived.Test.YtfffhbolaimmdaaDoorR8
import Derived.Deep.RegionHeld3
namespace Go.Proofs.YtfffhbolaimmdaaDoor
open Go.RowKit
theorem gainS_bd {s : Store} (ok : Ok s) (set : Nat) {f : Nat → Int} (hf : ∀ k, k < s.sheets.length → 0 ≤ f k ∧ f k ≤ 100000) : -8000000000 ≤ gainS s set f ∧ gainS s set f ≤ 8000000000 := by
  have h1 := gainTo_bd ok set (Nat.le_refl _)
  have h2 := costTo_bd ok set hf (Nat.le_refl _)
  unfold gainS; omega
def better (s : Store) (m b : Nat) : Bool := decide (refusedS s m < 0) && decide (gainS s b (loAt s) < gainS s m (loAt s))
def bestTo (s : Store) : Nat → Nat
  | 0 => 0
  | m + 1 => if better s m (bestTo s m) = true then m else bestTo s m
theorem bestTo_le (s : Store) (m : Nat) : bestTo s m ≤ m := by
  induction m with
  | zero => exact Nat.le_refl _
  | succ m ih => unfold bestTo; split <;> omega
def setsN (s : Store) : Nat := 2 ^ s.wishes.length
def bestS (s : Store) : Nat := bestTo s (setsN s)
def acS (s : Store) : Int := if storeS s = true then 0 else 1
def acSet (s : Store) : Int := if storeS s = true then (bestS s : Int) else 0
def acGain (s : Store) : Int := if storeS s = true then gainS s (bestS s) (loAt s) else 0
def R27 (s : Store) (w0 : World) (b i : Value) (w : World) : Prop := ∃ n : Nat, n ≤ setsN s ∧ i = .int .i64 n ∧ b = .int .i64 (bestTo s n) ∧ Below w0.heap.size w0 w ∧ SBox w w0.heap.size s
theorem pow9 {s : Store} (h : s.wishes.length ≤ 9) : setsN s ≤ 512 ∧ powI s.wishes.length = (setsN s : Int) := ⟨by unfold setsN; have : 2 ^ s.wishes.length ≤ 2 ^ 9 := Nat.pow_le_pow_right (by omega) h; omega, rfl⟩
set_option maxHeartbeats 2000000 in
set_option maxRecDepth 100000 in
theorem Accept_any (s : Store) (w : World) (hr : StoreAt w w.heap.size s) : Calls Tryd.prog 27 #[.agg #[.slice s.A1 s.sheets.length s.c1, .slice s.A2 s.lics.length s.c2, .slice s.A3 s.makes.length s.c3, .slice s.A4 s.wishes.length s.c4]] w (Ret3 (.int .i64 (acSet s)) (.int .i64 (acGain s)) (.int .i64 (acS s)) w) := by
  have hr' := Lib.hid (hr.next ((Below.refl _ _).alloc (Nat.le_refl _) (.cells #[.slice s.A1 s.sheets.length s.c1, .slice s.A2 s.lics.length s.c2, .slice s.A3 s.makes.length s.c3, .slice s.A4 s.wishes.length s.c4] 27)))
  have hx := SBox.new w s 27
  have Hr := Lib.hid hr
  clear hr
  go_enter Tryd.func27, Tryd.ntmps27
  go_wp2_with fail
  refine (Store_any s _ hr'.out).mono ?_
  rintro e w1 ⟨rfl, hb1⟩
  have Hx1 := Lib.hid (hx.next hb1)
  have Hbb := Lib.hid (show Below w.heap.size w w1 from ((Below.refl _ _).alloc (Nat.le_refl _) _).trans (hb1.mono (by simp)))
  clear hb1 hx
  cases hs : storeS s
  · have He := Lib.hid (show Ret3 (.int .i64 (acSet s)) (.int .i64 (acGain s)) (.int .i64 (acS s)) w = Ret3 (.int .i64 0) (.int .i64 0) (.int .i64 1) w by simp [acSet, acGain, acS, hs])
    go_wp2
    go_ret3
    rw [He.out]
    exact ⟨rfl, Hbb.out⟩
  · have He := Lib.hid (show Ret3 (.int .i64 (acSet s)) (.int .i64 (acGain s)) (.int .i64 (acS s)) w = Ret3 (.int .i64 (bestS s)) (.int .i64 (gainS s (bestS s) (loAt s))) (.int .i64 0) w by simp [acSet, acGain, acS, hs])
    have ok := (ok_iff s).1 hs
    have h1 := ok.nw
    have h3 := ok.ns
    obtain ⟨hp1, hp2⟩ := pow9 h1
    have Hp2 := Lib.hid hp2
    have Hok := Lib.hid ok
    have Hlo := Lib.hid (fun k (hk : k < s.sheets.length) => loAt_bd ok hk)
    clear ok hs hp2
    go_wp2
    go_loopw [5, 6] (fun b i wr => R27 s w b i wr) (fun _ i _ => setsN s - (intOf i).toNat)
    case atStart => exact ⟨0, by omega, rfl, rfl, Hbb.out, Hx1.out⟩
    case round =>
      obtain ⟨n, hn, rfl, rfl, hb, hbox⟩ := hrel
      have hz := hbox.lt
      obtain ⟨-, c0, c1, c2, c3⟩ := id hbox
      have hble := bestTo_le s n
      have hrr := Hr.out.next hb
      by_cases hlt : n < setsN s
      · have hlt' : (n : Int) < powI s.wishes.length := by rw [Hp2.out]; omega
        have HKS := Lib.hid (show ∀ W, Below wr.heap.size wr W → (Below wr.heap.size wr W ∧ W.cell? ⟨w.heap.size, 0, none⟩ = some (.slice s.A1 s.sheets.length s.c1) ∧ W.cell? ⟨w.heap.size, 1, none⟩ = some (.slice s.A2 s.lics.length s.c2) ∧ W.cell? ⟨w.heap.size, 2, none⟩ = some (.slice s.A3 s.makes.length s.c3) ∧ W.cell? ⟨w.heap.size, 3, none⟩ = some (.slice s.A4 s.wishes.length s.c4)) from fun W h =>
          ⟨h, ((bcell h).1 _ _ hz).trans c0, ((bcell h).1 _ _ hz).trans c1, ((bcell h).1 _ _ hz).trans c2, ((bcell h).1 _ _ hz).trans c3⟩)
        have S0 := HKS.out wr (Below.refl _ _)
        have Hbox := Lib.hid hbox
        have Hb := Lib.hid hb
        have Hrr := Lib.hid hrr
        have Hbt := Lib.hid (show bestTo s (n + 1) = (if better s n (bestTo s n) = true then n else bestTo s n) from rfl)
        have Hbet := Lib.hid (show better s n (bestTo s n) = (decide (refusedS s n < 0) && decide (gainS s (bestTo s n) (loAt s) < gainS s n (loAt s))) from rfl)
        clear hbox hb hrr
        go_wp2_with (go_at_call 54; (with_reducible refine (power_any _ (by omega) _).mono ?_); rintro e w' ⟨rfl, rfl⟩)
        have hd : decide ((n : Int) < powI s.wishes.length) = true := by simpa using hlt'
        by_cases href : refusedS s n < 0
        · go_region_held3 (fun W => Below wr.heap.size wr W ∧ W.cell? ⟨w.heap.size, 0, none⟩ = some (.slice s.A1 s.sheets.length s.c1) ∧ W.cell? ⟨w.heap.size, 1, none⟩ = some (.slice s.A2 s.lics.length s.c2) ∧ W.cell? ⟨w.heap.size, 2, none⟩ = some (.slice s.A3 s.makes.length s.c3) ∧ W.cell? ⟨w.heap.size, 3, none⟩ = some (.slice s.A4 s.wishes.length s.c4))
            (first | exact HKS.out _ (Below.refl _ _).drew | exact HKS.out _ hk1 | exact HKS.out _ hk2 | exact HKS.out _ hk3 | exact HKS.out _ hk4 | exact HKS.out _ hk5 | assumption)
            (first
              | (go_at_call 40; (with_reducible refine (Refused_any s n _ (by omega) Hok.out ?_).mono ?_); (exact Hrr.out.next (Below.refl _ _).drew); rintro e w1 ⟨rfl, hb1⟩; have hk1 : Below wr.heap.size wr w1 := (Below.refl _ _).drew.trans hb1)
              | (go_at_call 50; have _t := hk1; (with_reducible refine (few_any s _ Hok.out ?_).mono ?_); (exact Hrr.out.next (by first | exact hk3 | exact hk1)); rintro e w2 ⟨A2, d2, rfl, hA2, hb2⟩; have hk2 := below_step hb2 (by first | exact hk3 | exact hk1) (Nat.le_refl wr.heap.size))
              | (go_at_call 49; (with_reducible refine (Gain_any s n (loAt s) A2 d2 _ (by omega) Hok.out ?_ Hlo.out hA2).mono ?_); (exact Hrr.out.next hk2); rintro e w3 ⟨rfl, hb3⟩; have hk3 := below_step hb3 hk2 (Nat.le_refl wr.heap.size))
              | (go_at_call 49; (with_reducible refine (Gain_any s (bestTo s n) (loAt s) A2 d2 _ (by omega) Hok.out ?_ Hlo.out hA2).mono ?_); (exact Hrr.out.next hk2); rintro e w5 ⟨rfl, hb5⟩; have hk5 := below_step hb5 hk2 (Nat.le_refl wr.heap.size)))
          have hkk := Lib.hid hk5
          cases hg : decide (gainS s (bestTo s n) (loAt s) < gainS s n (loAt s))
          · go_wp2
            all_goals (first | (refine ⟨?_, ?_⟩; (unfold R27; exact ⟨n + 1, by omega, by go_num, by rw [Hbt.out, if_neg (by rw [Hbet.out, hg]; simp)], Hb.out.trans (hkk.out.mono Hb.out.size), Hbox.out.next hkk.out⟩); (simp [intOf]; omega)) | (go_roundw; (case rel => (unfold R27; exact ⟨n + 1, by omega, by go_num, by rw [Hbt.out, if_neg (by rw [Hbet.out, hg]; simp)], Hb.out.trans (hkk.out.mono Hb.out.size), Hbox.out.next hkk.out⟩)); (case measure => (simp [intOf]; omega))) | (go_round; (case rel => (unfold R27; exact ⟨n + 1, by omega, by go_num, by rw [Hbt.out, if_neg (by rw [Hbet.out, hg]; simp)], Hb.out.trans (hkk.out.mono Hb.out.size), Hbox.out.next hkk.out⟩)); (case measure => (simp [intOf]; omega))))
          · go_wp2
            all_goals (first | (refine ⟨?_, ?_⟩; (unfold R27; exact ⟨n + 1, by omega, by go_num, by rw [Hbt.out, if_pos (by rw [Hbet.out, hg]; simp [href])], Hb.out.trans (hkk.out.mono Hb.out.size), Hbox.out.next hkk.out⟩); (simp [intOf]; omega)) | (go_roundw; (case rel => (unfold R27; exact ⟨n + 1, by omega, by go_num, by rw [Hbt.out, if_pos (by rw [Hbet.out, hg]; simp [href])], Hb.out.trans (hkk.out.mono Hb.out.size), Hbox.out.next hkk.out⟩)); (case measure => (simp [intOf]; omega))) | (go_round; (case rel => (unfold R27; exact ⟨n + 1, by omega, by go_num, by rw [Hbt.out, if_pos (by rw [Hbet.out, hg]; simp [href])], Hb.out.trans (hkk.out.mono Hb.out.size), Hbox.out.next hkk.out⟩)); (case measure => (simp [intOf]; omega))))
        · have hdf : decide (refusedS s n < 0) = false := by simpa using href
          refine wp_region_noPanic ?_
          refine wp_region_held_drew (S := (fun W => Below wr.heap.size wr W ∧ W.cell? ⟨w.heap.size, 0, none⟩ = some (.slice s.A1 s.sheets.length s.c1) ∧ W.cell? ⟨w.heap.size, 1, none⟩ = some (.slice s.A2 s.lics.length s.c2) ∧ W.cell? ⟨w.heap.size, 2, none⟩ = some (.slice s.A3 s.makes.length s.c3) ∧ W.cell? ⟨w.heap.size, 3, none⟩ = some (.slice s.A4 s.wishes.length s.c4))) (by kernel_rfl) ?_ (fun hHeld => ?_)
          · (try dsimp only); exact HKS.out _ (Below.refl _ _).drew
          refine htake (i := 0) (v := ?v1) rfl (by kernel_rfl) (by kernel_rfl) (by kernel_rfl) (fun _ _ _ h => h) (Or.inl ⟨by rfl, ?hy1⟩) (by assumption) ?_
          case hy1 => (intro w hSw; (try dsimp only at hSw); go_simp; try (with_reducible rfl))
          try simp only [Act.put, List.setIfInBounds_toArray, List.set_cons_zero, List.set_cons_succ]
          refine htake (i := 1) (v := ?v2) rfl (by kernel_rfl) (by kernel_rfl) (by kernel_rfl) (fun _ _ _ h => h) (Or.inl ⟨by rfl, ?hy2⟩) (by assumption) ?_
          case hy2 => (intro w hSw; (try dsimp only at hSw); go_simp; try (with_reducible rfl))
          try simp only [Act.put, List.setIfInBounds_toArray, List.set_cons_zero, List.set_cons_succ]
          refine wpAnyH_ready (rs := [2]) (by kernel_rfl) (by simp) ?_
          refine hcons rfl (fun K hK => ?_) (AllReadyH.nil)
          go_simp
          (with_reducible refine (Refused_any s n _ (by omega) Hok.out ?_).mono ?_); (exact Hrr.out.next (Below.refl _ _).drew); rintro e w1 ⟨rfl, hb1⟩; have hk1 : Below wr.heap.size wr w1 := (Below.refl _ _).drew.trans hb1
          refine hK.out _ _ ?_ (fun hHeld => ?_)
          · (try dsimp only); exact HKS.out _ hk1
          clear hK K
          try simp only [Act.put, List.setIfInBounds_toArray, List.set_cons_zero, List.set_cons_succ]
          refine htake (i := 3) (v := ?v3) rfl (by kernel_rfl) (by kernel_rfl) (by kernel_rfl) (fun _ _ _ h => h) (Or.inl ⟨by rfl, ?hy3⟩) (by assumption) ?_
          case hy3 => (intro w hSw; (try dsimp only at hSw); go_simp; try (with_reducible rfl))
          try simp only [Act.put, List.setIfInBounds_toArray, List.set_cons_zero, List.set_cons_succ]
          refine htake (i := 4) (v := ?v4) rfl (by kernel_rfl) (by kernel_rfl) (by kernel_rfl) (fun _ _ _ h => h) (Or.inl ⟨by rfl, ?hy4⟩) (by assumption) ?_
          case hy4 => (intro w hSw; (try dsimp only at hSw); go_simp; try (with_reducible rfl))
          try simp only [Act.put, List.setIfInBounds_toArray, List.set_cons_zero, List.set_cons_succ]
          refine htake (i := 5) rfl (by kernel_rfl) (by kernel_rfl) (by kernel_rfl) (fun _ _ _ h => h) (Or.inr ⟨by rfl, rfl⟩) (by assumption) ?_
          try simp only [Act.put, List.setIfInBounds_toArray, List.set_cons_zero, List.set_cons_succ]
          refine htake (i := 6) rfl (by kernel_rfl) (by kernel_rfl) (by kernel_rfl) (fun _ _ _ h => h) (Or.inr ⟨by rfl, rfl⟩) (by assumption) ?_
          try simp only [Act.put, List.setIfInBounds_toArray, List.set_cons_zero, List.set_cons_succ]
          refine htake (i := 7) rfl (by kernel_rfl) (by kernel_rfl) (by kernel_rfl) (fun _ _ _ h => h) (Or.inr ⟨by rfl, rfl⟩) (by assumption) ?_
          try simp only [Act.put, List.setIfInBounds_toArray, List.set_cons_zero, List.set_cons_succ]
          refine htake (i := 8) rfl (by kernel_rfl) (by kernel_rfl) (by kernel_rfl) (fun _ _ _ h => h) (Or.inr ⟨by rfl, rfl⟩) (by assumption) ?_
          try simp only [Act.put, List.setIfInBounds_toArray, List.set_cons_zero, List.set_cons_succ]
          refine htake (i := 9) rfl (by kernel_rfl) (by kernel_rfl) (by kernel_rfl) (fun _ _ _ h => h) (Or.inr ⟨by rfl, rfl⟩) (by assumption) ?_
          try simp only [Act.put, List.setIfInBounds_toArray, List.set_cons_zero, List.set_cons_succ]
          refine htake (i := 10) rfl (by kernel_rfl) (by kernel_rfl) (by kernel_rfl) (fun _ _ _ h => h) (Or.inr ⟨by rfl, rfl⟩) (by assumption) ?_
          try simp only [Act.put, List.setIfInBounds_toArray, List.set_cons_zero, List.set_cons_succ]
          refine htake (i := 11) rfl (by kernel_rfl) (by kernel_rfl) (by kernel_rfl) (fun _ _ _ h => h) (Or.inr ⟨by rfl, rfl⟩) (by assumption) ?_
          try simp only [Act.put, List.setIfInBounds_toArray, List.set_cons_zero, List.set_cons_succ]
          refine htake (i := 12) rfl (by kernel_rfl) (by kernel_rfl) (by kernel_rfl) (fun _ _ _ h => h) (Or.inr ⟨by rfl, rfl⟩) (by assumption) ?_
          try simp only [Act.put, List.setIfInBounds_toArray, List.set_cons_zero, List.set_cons_succ]
          refine htake (i := 13) rfl (by kernel_rfl) (by kernel_rfl) (by kernel_rfl) (fun _ _ _ h => h) (Or.inr ⟨by rfl, rfl⟩) (by assumption) ?_
          try simp only [Act.put, List.setIfInBounds_toArray, List.set_cons_zero, List.set_cons_succ]
          refine htake (i := 14) rfl (by kernel_rfl) (by kernel_rfl) (by kernel_rfl) (fun _ _ _ h => h) (Or.inr ⟨by rfl, rfl⟩) (by assumption) ?_
          try simp only [Act.put, List.setIfInBounds_toArray, List.set_cons_zero, List.set_cons_succ]
          refine htake (i := 15) rfl (by kernel_rfl) (by kernel_rfl) (by kernel_rfl) (fun _ _ _ h => h) (Or.inr ⟨by rfl, rfl⟩) (by assumption) ?_
          try simp only [Act.put, List.setIfInBounds_toArray, List.set_cons_zero, List.set_cons_succ]
          refine htake (i := 16) (v := ?v5) rfl (by kernel_rfl) (by kernel_rfl) (by kernel_rfl) (fun _ _ _ h => h) (Or.inl ⟨by rfl, ?hy5⟩) (by assumption) ?_
          case hy5 => (intro w hSw; (try dsimp only at hSw); go_simp; try (with_reducible rfl))
          try simp only [Act.put, List.setIfInBounds_toArray, List.set_cons_zero, List.set_cons_succ]
          refine wpAnyH_done (by kernel_rfl) ?_ _
          refine NoPanic.normal ?_
          go_wp2
          all_goals (first | (refine ⟨?_, ?_⟩; (unfold R27; exact ⟨n + 1, by omega, by go_num, by rw [Hbt.out, if_neg (by rw [Hbet.out]; simp [href])], Hb.out.trans (hk1.mono Hb.out.size), Hbox.out.next hk1⟩); (simp [intOf]; omega)) | (go_roundw; (case rel => (unfold R27; exact ⟨n + 1, by omega, by go_num, by rw [Hbt.out, if_neg (by rw [Hbet.out]; simp [href])], Hb.out.trans (hk1.mono Hb.out.size), Hbox.out.next hk1⟩)); (case measure => (simp [intOf]; omega))) | (go_round; (case rel => (unfold R27; exact ⟨n + 1, by omega, by go_num, by rw [Hbt.out, if_neg (by rw [Hbet.out]; simp [href])], Hb.out.trans (hk1.mono Hb.out.size), Hbox.out.next hk1⟩)); (case measure => (simp [intOf]; omega))))
      · have hlt' : ¬ (n : Int) < powI s.wishes.length := by rw [Hp2.out]; omega
        have e : n = setsN s := by omega
        subst e
        go_wp2_with (go_at_call 54; (with_reducible refine (power_any _ (by omega) _).mono ?_); rintro e w' ⟨rfl, rfl⟩)
        have HKS := Lib.hid (show ∀ W, Below wr.heap.size wr W → (Below wr.heap.size wr W ∧ W.cell? ⟨w.heap.size, 0, none⟩ = some (.slice s.A1 s.sheets.length s.c1) ∧ W.cell? ⟨w.heap.size, 1, none⟩ = some (.slice s.A2 s.lics.length s.c2) ∧ W.cell? ⟨w.heap.size, 2, none⟩ = some (.slice s.A3 s.makes.length s.c3) ∧ W.cell? ⟨w.heap.size, 3, none⟩ = some (.slice s.A4 s.wishes.length s.c4)) from fun W h =>
          ⟨h, ((bcell h).1 _ _ hz).trans c0, ((bcell h).1 _ _ hz).trans c1, ((bcell h).1 _ _ hz).trans c2, ((bcell h).1 _ _ hz).trans c3⟩)
        have S0 := HKS.out wr (Below.refl _ _)
        have Hb := Lib.hid hb
        have Hrr := Lib.hid hrr
        clear hbox hb hrr
        go_region_held3 (fun W => Below wr.heap.size wr W ∧ W.cell? ⟨w.heap.size, 0, none⟩ = some (.slice s.A1 s.sheets.length s.c1) ∧ W.cell? ⟨w.heap.size, 1, none⟩ = some (.slice s.A2 s.lics.length s.c2) ∧ W.cell? ⟨w.heap.size, 2, none⟩ = some (.slice s.A3 s.makes.length s.c3) ∧ W.cell? ⟨w.heap.size, 3, none⟩ = some (.slice s.A4 s.wishes.length s.c4))
            (first | exact HKS.out _ (Below.refl _ _).drew | exact HKS.out _ hk2 | exact HKS.out _ hk3 | assumption)
            (first
              | (go_at_call 50; (with_reducible refine (few_any s _ Hok.out ?_).mono ?_); (exact Hrr.out.next (Below.refl _ _).drew); rintro e w2 ⟨A2, d2, rfl, hA2, hb2⟩; have hk2 : Below wr.heap.size wr w2 := (Below.refl _ _).drew.trans hb2)
              | (go_at_call 49; (with_reducible refine (Gain_any s (bestTo s (setsN s)) (loAt s) A2 d2 _ (by omega) Hok.out ?_ Hlo.out hA2).mono ?_); (exact Hrr.out.next hk2); rintro e w3 ⟨rfl, hb3⟩; have hk3 := below_step hb3 hk2 (Nat.le_refl wr.heap.size)))
        go_wp2
        go_ret3
        rw [He.out]
        exact ⟨rfl, Hb.out.trans (hk3.mono Hb.out.size)⟩
end Go.Proofs.YtfffhbolaimmdaaDoor
