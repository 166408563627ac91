import Derived.Test.YtfffhbolaimmdaaDoorR5
import Derived.Deep.RegionHeld3
namespace Go.Proofs.YtfffhbolaimmdaaDoor
open Go.RowKit
def loAt (s : Store) (k : Nat) : Int := (sheetAt s k).lo
def hiAt (s : Store) (k : Nat) : Int := (sheetAt s k).hi
def R50 (s : Store) (f : Nat → Int) (w0 : World) (v i : Value) (w : World) : Prop := ∃ n : Nat, n ≤ s.sheets.length ∧ i = .int .i64 n ∧ w.ownsRow (w0.heap.size + 1) 3 1 v n (tabV n f) ∧ Below w0.heap.size w0 w ∧ SBox w w0.heap.size s
set_option maxHeartbeats 400000 in
theorem few_any (s : Store) (w : World) (ok : Ok s) (hr : StoreAt w w.heap.size s) : Calls Tryd.prog 50 #[.agg #[.slice s.A1 s.sheets.length s.c1, .slice s.A2 s.lics.length s.c2, .slice s.A3 s.makes.length s.c3, .slice s.A4 s.wishes.length s.c4]] w (RetL s.sheets.length (loAt s) w) := by
  obtain ⟨i0, hi, hz0, hz1, hz2⟩ := info_parts int_info
  have h3 := ok.ns
  go_enter Tryd.func50, Tryd.ntmps50
  go_wp2
  go_loopw [3, 4] (fun v i wr => R50 s (loAt s) w v i wr) (fun _ i _ => s.sheets.length - (intOf i).toNat)
  case atStart => exact ⟨0, by omega, rfl, World.ownsRow_nil _ _ _ _, (Below.refl _ _).alloc (Nat.le_refl _) _, SBox.new _ _ _⟩
  case round =>
    obtain ⟨n, hn, rfl, hown, hb, hbox⟩ := hrel
    have hz := hbox.lt
    by_cases hlt : n < s.sheets.length
    · obtain ⟨b, off, c0, hbk, x0, -, -⟩ := hbox.sheetC (hr.below hb) hlt
      have x1 : wr.cell? ⟨b, off + n * 3, none⟩ = some (.int .i64 (loAt s n)) := x0
      have Hbox := Lib.hid hbox
      have Hb := Lib.hid hb
      clear hr ok hbox x0 hb
      go_wp2_with (at_builtin; refine wpList_append_own _ rfl (.tmp 12) (.tmp 20) 30 rfl (w.heap.size + 1) 3 i0 (.int .i64 0) 1 8 Tryd.underlying30 hi hz0 hz1 hz2 rfl (by decide) _ _ _ rfl (hown.alloc _) ⟨wr.heap.size, 0, none⟩ 1 1 [.int .i64 (loAt s n)] rfl rfl (cell_one_new _ _ _) (by simp [Value.oneCell']) (by unfold maxLen; omega) (by omega) (by simp; omega) ?_; intro v' w' hown' hgrow _)
      have hown2 : w'.ownsRow (w.heap.size + 1) 3 1 v' (n + 1) (tabV (n + 1) (loAt s)) := by rw [tabV_succ]; exact hown'
      have hbb : Below w.heap.size w w' := (Hb.out.alloc Hb.out.size _).grown hgrow (by simp; omega) (fun k hk => by have := hown.lt k hk; omega)
      have hbx : SBox w' w.heap.size s := (Hbox.out.next ((Below.refl _ _).alloc (Nat.le_refl _) _)).grown hgrow (fun k hk => by have := hown.lt k hk; omega)
      clear hown hown' hgrow
      go_wp2
      all_goals (first | (refine ⟨?_, ?_⟩; (unfold R50; exact ⟨n + 1, by omega, by go_num, hown2, hbb, hbx⟩); (simp [intOf]; omega)) | (go_roundw; (case rel => (unfold R50; exact ⟨n + 1, by omega, by go_num, hown2, hbb, hbx⟩)); (case measure => (simp [intOf]; omega))) | (go_round; (case rel => (unfold R50; exact ⟨n + 1, by omega, by go_num, hown2, hbb, hbx⟩)); (case measure => (simp [intOf]; omega))))
    · have c0 := hbox.c0
      have e : n = s.sheets.length := by omega
      go_wp2
      go_ret
      subst e
      exact ret_l hown hb
set_option maxHeartbeats 400000 in
theorem all_any (s : Store) (w : World) (ok : Ok s) (hr : StoreAt w w.heap.size s) : Calls Tryd.prog 51 #[.agg #[.slice s.A1 s.sheets.length s.c1, .slice s.A2 s.lics.length s.c2, .slice s.A3 s.makes.length s.c3, .slice s.A4 s.wishes.length s.c4]] w (RetL s.sheets.length (hiAt s) w) := by
  obtain ⟨i0, hi, hz0, hz1, hz2⟩ := info_parts int_info
  have h3 := ok.ns
  go_enter Tryd.func51, Tryd.ntmps51
  go_wp2
  go_loopw [3, 4] (fun v i wr => R50 s (hiAt s) w v i wr) (fun _ i _ => s.sheets.length - (intOf i).toNat)
  case atStart => exact ⟨0, by omega, rfl, World.ownsRow_nil _ _ _ _, (Below.refl _ _).alloc (Nat.le_refl _) _, SBox.new _ _ _⟩
  case round =>
    obtain ⟨n, hn, rfl, hown, hb, hbox⟩ := hrel
    have hz := hbox.lt
    by_cases hlt : n < s.sheets.length
    · obtain ⟨b, off, c0, hbk, -, x0, -⟩ := hbox.sheetC (hr.below hb) hlt
      have x1 : wr.cell? ⟨b, off + n * 3 + 1, none⟩ = some (.int .i64 (hiAt s n)) := x0
      have Hbox := Lib.hid hbox
      have Hb := Lib.hid hb
      clear hr ok hbox x0 hb
      go_wp2_with (at_builtin; refine wpList_append_own _ rfl (.tmp 12) (.tmp 20) 30 rfl (w.heap.size + 1) 3 i0 (.int .i64 0) 1 8 Tryd.underlying30 hi hz0 hz1 hz2 rfl (by decide) _ _ _ rfl (hown.alloc _) ⟨wr.heap.size, 0, none⟩ 1 1 [.int .i64 (hiAt s n)] rfl rfl (cell_one_new _ _ _) (by simp [Value.oneCell']) (by unfold maxLen; omega) (by omega) (by simp; omega) ?_; intro v' w' hown' hgrow _)
      have hown2 : w'.ownsRow (w.heap.size + 1) 3 1 v' (n + 1) (tabV (n + 1) (hiAt s)) := by rw [tabV_succ]; exact hown'
      have hbb : Below w.heap.size w w' := (Hb.out.alloc Hb.out.size _).grown hgrow (by simp; omega) (fun k hk => by have := hown.lt k hk; omega)
      have hbx : SBox w' w.heap.size s := (Hbox.out.next ((Below.refl _ _).alloc (Nat.le_refl _) _)).grown hgrow (fun k hk => by have := hown.lt k hk; omega)
      clear hown hown' hgrow
      go_wp2
      all_goals (first | (refine ⟨?_, ?_⟩; (unfold R50; exact ⟨n + 1, by omega, by go_num, hown2, hbb, hbx⟩); (simp [intOf]; omega)) | (go_roundw; (case rel => (unfold R50; exact ⟨n + 1, by omega, by go_num, hown2, hbb, hbx⟩)); (case measure => (simp [intOf]; omega))) | (go_round; (case rel => (unfold R50; exact ⟨n + 1, by omega, by go_num, hown2, hbb, hbx⟩)); (case measure => (simp [intOf]; omega))))
    · have c0 := hbox.c0
      have e : n = s.sheets.length := by omega
      go_wp2
      go_ret
      subst e
      exact ret_l hown hb
def R15 (s : Store) (set : Nat) (w0 : World) (v i : Value) (w : World) : Prop := ∃ n : Nat, n ≤ s.sheets.length ∧ i = .int .i64 n ∧ w.ownsRow (w0.heap.size + 1) 3 1 v n (tabV n (takeS s set)) ∧ Below w0.heap.size w0 w ∧ SBox w w0.heap.size s
def lenIf (c : Int) (n : Nat) : Nat := if c = 0 then n else 0
set_option maxHeartbeats 400000 in
theorem Takes_any (s : Store) (st : Int) (w : World) (hr : StoreAt w w.heap.size s) : Calls Tryd.prog 15 #[.agg #[.slice s.A1 s.sheets.length s.c1, .slice s.A2 s.lics.length s.c2, .slice s.A3 s.makes.length s.c3, .slice s.A4 s.wishes.length s.c4], .int .i64 st] w (RetL1 (lenIf (checkS s st) s.sheets.length) (takeS s st.toNat) (checkS s st) w) := by
  obtain ⟨i0, hi, hz0, hz1, hz2⟩ := info_parts int_info
  have hr' := Lib.hid (hr.next ((Below.refl _ _).alloc (Nat.le_refl _) (.cells #[.slice s.A1 s.sheets.length s.c1, .slice s.A2 s.lics.length s.c2, .slice s.A3 s.makes.length s.c3, .slice s.A4 s.wishes.length s.c4] 27)))
  have hx := SBox.new w s 27
  have Hr := Lib.hid hr
  clear hr
  go_enter Tryd.func15, Tryd.ntmps15
  go_wp2_with fail
  refine (check_any s st _ hr'.out).mono ?_
  rintro e w1 ⟨rfl, hb1⟩
  have Hx1 := Lib.hid (hx.next hb1)
  have Hbb := Lib.hid (show Below w.heap.size w w1 from ((Below.refl _ _).alloc (Nat.le_refl _) _).trans (hb1.mono (by simp)))
  clear hb1 hx
  by_cases hc : checkS s st = 0
  · obtain ⟨ok, h0, h1⟩ := check_ok hc
    have h2 := powI_bd (n := s.wishes.length) (by have := ok.nw; omega)
    have h3 := ok.ns
    obtain ⟨set, rfl⟩ := Int.eq_ofNat_of_zero_le h0
    have He := Lib.hid (show RetL1 (lenIf (checkS s (set : Int)) s.sheets.length) (takeS s (set : Int).toNat) (checkS s (set : Int)) w = RetL1 s.sheets.length (takeS s set) 0 w by rw [hc]; rfl)
    simp only [hc]
    have Hok := Lib.hid ok
    clear hc ok
    go_wp2
    go_loopw [7, 8] (fun v i wr => R15 s set w v i wr) (fun _ i _ => s.sheets.length - (intOf i).toNat)
    case atStart => exact ⟨0, by omega, rfl, World.ownsRow_nil _ _ _ _, Hbb.out, Hx1.out⟩
    case round =>
      obtain ⟨n, hn, rfl, hown, hb, hbox⟩ := hrel
      obtain ⟨hz, c0, c1, c2, c3⟩ := id hbox
      by_cases hlt : n < s.sheets.length
      · have Hbox := Lib.hid hbox
        have Hb := Lib.hid hb
        have Hown := Lib.hid hown
        clear hbox hb hown
        go_wp2_with fail
        refine (Take_any s set n _ (by omega) hlt Hok.out (Hr.out.next Hb.out)).mono ?_
        rintro e w2 ⟨rfl, hb2⟩
        have hown := own_below Hown.out hb2
        have hz2' := hb2.size
        have hb3 := Lib.hid (Hb.out.trans (hb2.mono Hb.out.size))
        have hx3 := Lib.hid (Hbox.out.next hb2)
        clear hb2
        go_wp2_with (at_builtin; refine wpList_append_own _ rfl (.tmp 22) (.tmp 27) 30 rfl (w.heap.size + 1) 3 i0 (.int .i64 0) 1 8 Tryd.underlying30 hi hz0 hz1 hz2 rfl (by decide) _ _ _ rfl (hown.alloc _) ⟨w2.heap.size, 0, none⟩ 1 1 [.int .i64 (takeS s set n)] rfl rfl (cell_one_new _ _ _) (by simp [Value.oneCell']) (by unfold maxLen; omega) (by omega) (by simp; omega) ?_; intro v' w' hown' hgrow _)
        have hown2 : w'.ownsRow (w.heap.size + 1) 3 1 v' (n + 1) (tabV (n + 1) (takeS s set)) := by rw [tabV_succ]; exact hown'
        have hbb : Below w.heap.size w w' := (hb3.out.alloc hb3.out.size _).grown hgrow (by simp; omega) (fun k hk => by have := hown.lt k hk; omega)
        have hbx : SBox w' w.heap.size s := (hx3.out.next ((Below.refl _ _).alloc (Nat.le_refl _) _)).grown hgrow (fun k hk => by have := hown.lt k hk; omega)
        clear hown hown' hgrow
        go_wp2
        all_goals (first | (refine ⟨?_, ?_⟩; (unfold R15; exact ⟨n + 1, by omega, by go_num, hown2, hbb, hbx⟩); (simp [intOf]; omega)) | (go_roundw; (case rel => (unfold R15; exact ⟨n + 1, by omega, by go_num, hown2, hbb, hbx⟩)); (case measure => (simp [intOf]; omega))) | (go_round; (case rel => (unfold R15; exact ⟨n + 1, by omega, by go_num, hown2, hbb, hbx⟩)); (case measure => (simp [intOf]; omega))))
      · have e : n = s.sheets.length := by omega
        go_wp2
        go_ret2
        subst e
        rw [He.out]
        exact ret_l1 hown hb
  · have hc' : (checkS s st != 0) = true := by simpa using hc
    have He := Lib.hid (show RetL1 (lenIf (checkS s st) s.sheets.length) (takeS s st.toNat) (checkS s st) w = RetL1 0 (takeS s st.toNat) (checkS s st) w by rw [lenIf, if_neg hc])
    go_wp2
    go_ret2
    rw [He.out]
    exact ret_l1_none Hbb.out
def gainTo (s : Store) (set n : Nat) : Int := sumTo n fun i => if has set i = true then (wishAt s i).many * ((wishAt s i).price - (licAt s i).fee) - (wishAt s i).ship else 0
def costTo (s : Store) (set : Nat) (f : Nat → Int) (n : Nat) : Int := sumTo n fun k => (sheetAt s k).cost * lackS s set k (f k)
def gainS (s : Store) (set : Nat) (f : Nat → Int) : Int := gainTo s set s.wishes.length - costTo s set f s.sheets.length
def R49a (s : Store) (set : Nat) (w0 : World) (v i : Value) (w : World) : Prop := ∃ n : Nat, n ≤ s.wishes.length ∧ i = .int .i64 n ∧ v = .int .i64 (gainTo s set n) ∧ Below w0.heap.size w0 w ∧ SBox w w0.heap.size s
def R49b (s : Store) (set : Nat) (f : Nat → Int) (w0 : World) (v i : Value) (w : World) : Prop := ∃ n : Nat, n ≤ s.sheets.length ∧ i = .int .i64 n ∧ v = .int .i64 (gainTo s set s.wishes.length - costTo s set f n) ∧ Below w0.heap.size w0 w ∧ SBox w w0.heap.size s
theorem gain_bd {s : Store} (h : Ok s) {i : Nat} (hi : i < s.wishes.length) :
    -10000000 ≤ (wishAt s i).many * ((wishAt s i).price - (licAt s i).fee) ∧ (wishAt s i).many * ((wishAt s i).price - (licAt s i).fee) ≤ 10000000 := by
  have h1 := h.wishOk hi
  have h2 := h.lic _ (licAt_mem h hi)
  have e1 := mul_bd (a := (wishAt s i).many) (b := (wishAt s i).price) (A := 1000) (B := 10000) (by omega) (by omega) (by omega) (by omega)
  have e2 := mul_bd (a := (wishAt s i).many) (b := (licAt s i).fee) (A := 1000) (B := 10000) (by omega) (by omega) (by omega) (by omega)
  rw [Int.mul_sub]
  omega
theorem gainTo_bd {s : Store} (h : Ok s) (set : Nat) {n : Nat} (hn : n ≤ s.wishes.length) : -90900000 ≤ gainTo s set n ∧ gainTo s set n ≤ 90900000 := by
  have h1 := sumTo_bd (n := n) (f := fun i => if has set i = true then (wishAt s i).many * ((wishAt s i).price - (licAt s i).fee) - (wishAt s i).ship else 0) (lo := -10100000) (hi := 10100000) (fun i hi => by
    have h2 := gain_bd h (i := i) (by omega)
    have h3 := h.wishOk (i := i) (by omega)
    split <;> omega)
  have h9 := h.nw
  unfold gainTo; omega
theorem cost_bd {s : Store} (h : Ok s) (set : Nat) {f : Nat → Int} (hf : ∀ k, k < s.sheets.length → 0 ≤ f k ∧ f k ≤ 100000) {k : Nat} (hk : k < s.sheets.length) :
    0 ≤ (sheetAt s k).cost * lackS s set k (f k) ∧ (sheetAt s k).cost * lackS s set k (f k) ≤ 1800000000 := by
  have h1 := h.sheet _ (sheetAt_mem hk)
  have h2 := lackS_bd h set k (hf k hk).1
  have := mul_bd (a := (sheetAt s k).cost) (b := lackS s set k (f k)) (A := 10000) (B := 180000) (by omega) (by omega) h2.1 h2.2
  omega
theorem costTo_bd {s : Store} (h : Ok s) (set : Nat) {f : Nat → Int} (hf : ∀ k, k < s.sheets.length → 0 ≤ f k ∧ f k ≤ 100000) {n : Nat} (hn : n ≤ s.sheets.length) : 0 ≤ costTo s set f n ∧ costTo s set f n ≤ 7200000000 := by
  have h1 := sumTo_bd (n := n) (f := fun k => (sheetAt s k).cost * lackS s set k (f k)) (lo := 0) (hi := 1800000000) (fun k hk => cost_bd h set hf (by omega))
  have h9 := h.ns
  unfold costTo; omega
set_option maxHeartbeats 1000000 in
set_option maxRecDepth 100000 in
theorem Gain_any (s : Store) (set : Nat) (f : Nat → Int) (A : Option Addr) (c : Nat) (w : World) (hs : set ≤ 9223372036854775807) (ok : Ok s) (hr : StoreAt w w.heap.size s)
    (hf : ∀ k, k < s.sheets.length → 0 ≤ f k ∧ f k ≤ 100000) (ha : At w w.heap.size 1 icell A (tab s.sheets.length f)) :
    Calls Tryd.prog 49 #[.agg #[.slice s.A1 s.sheets.length s.c1, .slice s.A2 s.lics.length s.c2, .slice s.A3 s.makes.length s.c3, .slice s.A4 s.wishes.length s.c4], .int .i64 set, .slice A s.sheets.length c] w (Ret (.int .i64 (gainS s set f)) w) := by
  have h1 := ok.nw
  have h2 := ok.nm
  have h3 := ok.ns
  have h4 := ok.nl
  have Hf := Lib.hid hf
  clear hf
  go_enter Tryd.func49, Tryd.ntmps49
  go_wp2
  go_loopw [7, 8] (fun v i wr => R49a s set w v i wr) (fun _ i _ => s.wishes.length - (intOf i).toNat)
  case atStart => exact ⟨0, by omega, rfl, rfl, (Below.refl _ _).alloc (Nat.le_refl _) _, SBox.new _ _ _⟩
  case round =>
    obtain ⟨n, hn, rfl, rfl, hb, hbox⟩ := hrel
    have hz := hbox.lt
    have hr' := hr.below hb
    have hbd := gainTo_bd ok set (n := n) (by omega)
    by_cases hlt : n < s.wishes.length
    · obtain ⟨b, off, c3, hbk, w0, w1, w2, w3, w4⟩ := hbox.wishC hr' hlt
      obtain ⟨b2, off2, c2, hbk2, m0, -⟩ := hbox.makeC hr' ok hlt
      obtain ⟨b3, off3, c1, hbk3, -, -, -, x3⟩ := hbox.licC hr' ok hlt
      have hw := ok.wishOk hlt
      have hm := ok.make _ (makeAt_mem ok hlt)
      have hl := ok.lic _ (licAt_mem ok hlt)
      have hs1 := Nat.lt_trans hbk hz
      have hs2 := Nat.lt_trans hbk2 hz
      have hs3 := Nat.lt_trans hbk3 hz
      have hp : 0 ≤ (makeAt s n).pic ∧ (makeAt s n).pic < s.lics.length := ⟨hm.1, hm.2.1⟩
      have hg := gain_bd ok hlt
      have Hbox := Lib.hid hbox
      have hbr : Below wr.heap.size wr wr := Below.refl _ _
      have Hsum := Lib.hid (show gainTo s set (n + 1) = gainTo s set n + (if has set n = true then (wishAt s n).many * ((wishAt s n).price - (licAt s n).fee) - (wishAt s n).ship else 0) from rfl)
      clear hr hr' hbox hm ok ha
      cases hh : has set n
      · go_wp2_with (go_at_call 62; (with_reducible refine (has_any set n (by omega) hs _).mono ?_); rintro e w' ⟨rfl, rfl⟩)
        all_goals (first | (refine ⟨?_, ?_⟩; (unfold R49a; exact ⟨n + 1, by omega, by go_num, by rw [Hsum.out, hh]; simp, by go_grown, Hbox.out.next (by go_grown)⟩); (simp [intOf]; omega)) | (go_roundw; (case rel => (unfold R49a; exact ⟨n + 1, by omega, by go_num, by rw [Hsum.out, hh]; simp, by go_grown, Hbox.out.next (by go_grown)⟩)); (case measure => (simp [intOf]; omega))) | (go_round; (case rel => (unfold R49a; exact ⟨n + 1, by omega, by go_num, by rw [Hsum.out, hh]; simp, by go_grown, Hbox.out.next (by go_grown)⟩)); (case measure => (simp [intOf]; omega))))
      · go_wp2_with (first | (go_at_call 62; (with_reducible refine (has_any set n (by omega) hs _).mono ?_); rintro e w' ⟨rfl, rfl⟩) | go_quiet (fail))
        all_goals (first | (refine ⟨?_, ?_⟩; (unfold R49a; exact ⟨n + 1, by omega, by go_num, by rw [Hsum.out, hh, if_pos rfl]; go_num, below_drewN (by go_grown) _, Hbox.out.next (below_drewN (by go_grown) _)⟩); (simp [intOf]; omega)) | (go_roundw; (case rel => (unfold R49a; exact ⟨n + 1, by omega, by go_num, by rw [Hsum.out, hh, if_pos rfl]; go_num, below_drewN (by go_grown) _, Hbox.out.next (below_drewN (by go_grown) _)⟩)); (case measure => (simp [intOf]; omega))) | (go_round; (case rel => (unfold R49a; exact ⟨n + 1, by omega, by go_num, by rw [Hsum.out, hh, if_pos rfl]; go_num, below_drewN (by go_grown) _, Hbox.out.next (below_drewN (by go_grown) _)⟩)); (case measure => (simp [intOf]; omega))))
    · have e : n = s.wishes.length := by omega
      have c3 := hbox.c3
      have hbox' := hbox
      obtain ⟨hz', c0, c1, c2, _⟩ := hbox'
      subst e
      have Ha := Lib.hid ha
      have Hr := Lib.hid hr
      have Hok := Lib.hid ok
      have Hbox := Lib.hid hbox
      clear ha hr ok hbox hr'
      go_wp2
      clear c0 c1 c2 c3
      obtain ⟨wo, hwo⟩ : ∃ wo : World, wo = wr := ⟨_, rfl⟩
      rw [← hwo] at hb Hbox ⊢
      clear hwo hz' hz
      go_loopw [7, 10] (fun v i wq => R49b s set f w v i wq) (fun _ i _ => s.sheets.length - (intOf i).toNat)
      case atStart => exact ⟨0, by omega, rfl, by simp [costTo, sumTo], hb, Hbox.out⟩
      case round =>
        clear hb Hbox
        obtain ⟨n, hn, rfl, rfl, hb, hbox⟩ := hrel
        have hz := hbox.lt
        have hbd2 := costTo_bd Hok.out set Hf.out (n := n) (by omega)
        by_cases hlt : n < s.sheets.length
        · obtain ⟨b, off, e1, hbk, -, -, x2⟩ := (Hr.out.below hb).sheetC hlt
          have c0 := hbox.c0
          rw [e1] at c0
          have E1 := Lib.hid e1
          clear e1
          obtain ⟨ba, offa, hA, hbka, xa⟩ := (Ha.out.below hb).int (k := n) (by rw [length_tab]; exact hlt)
          have eA : (tab s.sheets.length f).getD n 0 = f n := by simp [tab, hlt]
          rw [eA] at xa
          have hcb := cost_bd Hok.out set Hf.out hlt
          have hsh := Hok.out.sheet _ (sheetAt_mem hlt)
          have hfn := Hf.out n hlt
          have hs1 := Nat.lt_trans hbk hz
          have hs2 := Nat.lt_trans hbka hz
          subst hA
          have Hbox := Lib.hid hbox
          have Hrr := Lib.hid (Hr.out.next hb)
          have k1 := hbox.c1
          have k2 := hbox.c2
          have k3 := hbox.c3
          have KS : ∀ W, Below wr.heap.size wr W → (Below wr.heap.size wr W ∧ W.cell? ⟨w.heap.size, 0, none⟩ = some (.slice (some ⟨b, off, none⟩) s.sheets.length s.c1) ∧ W.cell? ⟨w.heap.size, 1, none⟩ = some (.slice s.A2 s.lics.length s.c2) ∧ W.cell? ⟨w.heap.size, 2, none⟩ = some (.slice s.A3 s.makes.length s.c3) ∧ W.cell? ⟨w.heap.size, 3, none⟩ = some (.slice s.A4 s.wishes.length s.c4) ∧ W.cell? ⟨b, off + n * 3 + 2, none⟩ = some (.int .i64 (sheetAt s n).cost) ∧ W.cell? ⟨ba, offa + n, none⟩ = some (.int .i64 (f n))) := fun W h =>
            ⟨h, ((bcell h).1 _ _ hz).trans c0, ((bcell h).1 _ _ hz).trans k1, ((bcell h).1 _ _ hz).trans k2, ((bcell h).1 _ _ hz).trans k3, ((bcell h).1 _ _ hs1).trans x2, ((bcell h).1 _ _ hs2).trans xa⟩
          have HKS := Lib.hid KS
          clear hbox KS eA
          go_wp2_with fail
          have S0 := HKS.out wr (Below.refl _ _)
          go_region_held3 (fun W => Below wr.heap.size wr W ∧ W.cell? ⟨w.heap.size, 0, none⟩ = some (.slice (some ⟨b, off, none⟩) s.sheets.length s.c1) ∧ W.cell? ⟨w.heap.size, 1, none⟩ = some (.slice s.A2 s.lics.length s.c2) ∧ W.cell? ⟨w.heap.size, 2, none⟩ = some (.slice s.A3 s.makes.length s.c3) ∧ W.cell? ⟨w.heap.size, 3, none⟩ = some (.slice s.A4 s.wishes.length s.c4) ∧ W.cell? ⟨b, off + n * 3 + 2, none⟩ = some (.int .i64 (sheetAt s n).cost) ∧ W.cell? ⟨ba, offa + n, none⟩ = some (.int .i64 (f n)))
            (first | exact HKS.out _ (Below.refl _ _).drew | exact HKS.out _ hk1 | assumption)
            (first | (go_at_call 44; go_split_ands; rw [← E1.out]; (with_reducible refine (Lacking_any s set n (f n) _ hs hlt ⟨by omega, by omega⟩ Hok.out ?_).mono ?_); (exact Hrr.out.next (by assumption)); rintro e w1 ⟨rfl, hb1⟩; have hk1 := below_step hb1 (by assumption) (Nat.le_refl wr.heap.size)))
          go_wp2
          all_goals (first | (refine ⟨?_, ?_⟩; (unfold R49b; exact ⟨n + 1, by omega, by go_num, by rw [IntWalk.i64_in ((sheetAt s n).cost * lackS s set n (f n)) (by omega), IntWalk.i64_in _ (by omega)]; exact congrArg (Value.int .i64) (by rw [show costTo s set f (n + 1) = costTo s set f n + (sheetAt s n).cost * lackS s set n (f n) from rfl]; omega), hb.trans (hk1.mono hb.size), Hbox.out.next hk1⟩); (simp [intOf]; omega)) | (go_roundw; (case rel => (unfold R49b; exact ⟨n + 1, by omega, by go_num, by rw [IntWalk.i64_in ((sheetAt s n).cost * lackS s set n (f n)) (by omega), IntWalk.i64_in _ (by omega)]; exact congrArg (Value.int .i64) (by rw [show costTo s set f (n + 1) = costTo s set f n + (sheetAt s n).cost * lackS s set n (f n) from rfl]; omega), hb.trans (hk1.mono hb.size), Hbox.out.next hk1⟩)); (case measure => (simp [intOf]; omega))) | (go_round; (case rel => (unfold R49b; exact ⟨n + 1, by omega, by go_num, by rw [IntWalk.i64_in ((sheetAt s n).cost * lackS s set n (f n)) (by omega), IntWalk.i64_in _ (by omega)]; exact congrArg (Value.int .i64) (by rw [show costTo s set f (n + 1) = costTo s set f n + (sheetAt s n).cost * lackS s set n (f n) from rfl]; omega), hb.trans (hk1.mono hb.size), Hbox.out.next hk1⟩)); (case measure => (simp [intOf]; omega))))
        · have e : n = s.sheets.length := by omega
          have c0 := hbox.c0
          subst e
          go_wp2
          go_ret
          exact ret_int rfl hb
end Go.Proofs.YtfffhbolaimmdaaDoor
