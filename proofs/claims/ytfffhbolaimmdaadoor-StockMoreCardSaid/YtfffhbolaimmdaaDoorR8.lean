import Derived.Test.YtfffhbolaimmdaaDoorR7
import Derived.Deep.RegionHeld3
namespace Go.Proofs.YtfffhbolaimmdaaDoor
open Go.RowKit
def lacksS (s : Store) (set k : Nat) : Int × Int := (lackS s set k (hiAt s k), lackS s set k (loAt s k))
theorem StoreAt.sheetL {w : World} {B : Nat} {s : Store} (h : StoreAt w B s) {k : Nat} (hk : k < s.sheets.length) :
    ∃ b off, s.A1 = some ⟨b, off, none⟩ ∧ b < B ∧ w.cell? ⟨b, off + k * 3, none⟩ = some (.int .i64 (loAt s k)) ∧ w.cell? ⟨b, off + k * 3 + 1, none⟩ = some (.int .i64 (hiAt s k)) ∧ w.cell? ⟨b, off + k * 3 + 2, none⟩ = some (.int .i64 (sheetAt s k).cost) := h.sheetC hk
theorem loAt_bd {s : Store} (ok : Ok s) {k : Nat} (hk : k < s.sheets.length) : 0 ≤ loAt s k ∧ loAt s k ≤ 100000 := by
  have := ok.sheet _ (sheetAt_mem hk); unfold loAt; omega
theorem hiAt_bd {s : Store} (ok : Ok s) {k : Nat} (hk : k < s.sheets.length) : 0 ≤ hiAt s k ∧ hiAt s k ≤ 100000 := by
  have := ok.sheet _ (sheetAt_mem hk); unfold hiAt; omega
def R20 (s : Store) (set : Nat) (w0 : World) (v i : Value) (w : World) : Prop := ∃ n : Nat, n ≤ s.sheets.length ∧ i = .int .i64 n ∧ w.ownsRow (w0.heap.size + 1) 44 2 v n (tab2V n (lacksS s set)) ∧ Below w0.heap.size w0 w ∧ SBox w w0.heap.size s
set_option maxHeartbeats 1000000 in
set_option maxRecDepth 100000 in
theorem Lacks_any (s : Store) (st : Int) (w : World) (hr : StoreAt w w.heap.size s) : Calls Tryd.prog 20 #[.agg #[.slice s.A1 s.sheets.length s.c1, .slice s.A2 s.lics.length s.c2, .slice s.A3 s.makes.length s.c3, .slice s.A4 s.wishes.length s.c4], .int .i64 st] w (RetL2 (lenIf (acceptedS s st) s.sheets.length) (lacksS s st.toNat) (acceptedS s st) w) := by
  obtain ⟨i0, hi, hz0, hz1, hz2⟩ := info_parts span_info
  have hr' := Lib.hid (hr.next ((Below.refl _ _).alloc (Nat.le_refl _) (.cells #[.slice s.A1 s.sheets.length s.c1, .slice s.A2 s.lics.length s.c2, .slice s.A3 s.makes.length s.c3, .slice s.A4 s.wishes.length s.c4] 27)))
  have hx := SBox.new w s 27
  have Hr := Lib.hid hr
  clear hr
  go_enter Tryd.func20, Tryd.ntmps20
  go_wp2_with fail
  refine (accepted_any s st _ hr'.out).mono ?_
  rintro e w1 ⟨rfl, hb1⟩
  have Hx1 := Lib.hid (hx.next hb1)
  have Hbb := Lib.hid (show Below w.heap.size w w1 from ((Below.refl _ _).alloc (Nat.le_refl _) _).trans (hb1.mono (by simp)))
  clear hb1 hx
  by_cases hc : acceptedS s st = 0
  · obtain ⟨ok, h0, h1⟩ := accepted_ok (.inl hc)
    have h2 := powI_bd (n := s.wishes.length) (by have := ok.nw; omega)
    have h3 := ok.ns
    obtain ⟨set, rfl⟩ := Int.eq_ofNat_of_zero_le h0
    have He := Lib.hid (show RetL2 (lenIf (acceptedS s (set : Int)) s.sheets.length) (lacksS s (set : Int).toNat) (acceptedS s (set : Int)) w = RetL2 s.sheets.length (lacksS s set) 0 w by rw [hc]; rfl)
    simp only [hc]
    have Hok := Lib.hid ok
    clear hc ok
    go_wp2
    go_loopw [7, 8] (fun v i wr => R20 s set w v i wr) (fun _ i _ => s.sheets.length - (intOf i).toNat)
    case atStart => exact ⟨0, by omega, rfl, World.ownsRow_nil _ _ _ _, Hbb.out, Hx1.out⟩
    case round =>
      obtain ⟨n, hn, rfl, hown, hb, hbox⟩ := hrel
      have hz := hbox.lt
      by_cases hlt : n < s.sheets.length
      · obtain ⟨b, off, e1, hbk, x0, x1, -⟩ := (Hr.out.below hb).sheetL hlt
        have c0 := hbox.c0
        rw [e1] at c0
        have E1 := Lib.hid e1
        have hs1 := Nat.lt_trans hbk hz
        have hlo := loAt_bd Hok.out hlt
        have hhi := hiAt_bd Hok.out hlt
        have Hbox := Lib.hid hbox
        have Hb := Lib.hid hb
        have Hown := Lib.hid hown
        clear hbox hb hown e1
        go_wp2_with fail
        generalize hV : World.alloc wr _ = V
        have hbV : Below wr.heap.size wr V := by rw [← hV]; go_grown
        have hzV : wr.heap.size < V.heap.size := by rw [← hV]; simp
        have v0 : V.cell? ⟨wr.heap.size, 0, none⟩ = some (.int .i64 (loAt s n)) := by rw [← hV]; simp [go_sem]
        have v1 : V.cell? ⟨wr.heap.size, 1, none⟩ = some (.int .i64 (hiAt s n)) := by rw [← hV]; simp [go_sem]
        have hboxV := Hbox.out.next hbV
        have HownV := Lib.hid (own_below Hown.out hbV)
        have hrow := (own_below Hown.out hbV).lt
        have hrow1 : u7.ownBlock ≠ some w.heap.size := fun e => by have := hrow _ e; omega
        have hrow2 : u7.ownBlock ≠ some wr.heap.size := fun e => by have := Hown.out.lt _ e; omega
        have HrV := Lib.hid (Hr.out.next (Hb.out.trans (hbV.mono Hb.out.size)))
        have hbwV := Lib.hid (Hb.out.trans (hbV.mono Hb.out.size))
        have HKS := Lib.hid (show ∀ W, V.grownBy W u7.ownBlock → (V.grownBy W u7.ownBlock ∧ W.cell? ⟨w.heap.size, 0, none⟩ = some (.slice s.A1 s.sheets.length s.c1) ∧ W.cell? ⟨w.heap.size, 1, none⟩ = some (.slice s.A2 s.lics.length s.c2) ∧ W.cell? ⟨w.heap.size, 2, none⟩ = some (.slice s.A3 s.makes.length s.c3) ∧ W.cell? ⟨w.heap.size, 3, none⟩ = some (.slice s.A4 s.wishes.length s.c4) ∧ W.cell? ⟨wr.heap.size, 0, none⟩ = some (.int .i64 (loAt s n)) ∧ W.cell? ⟨wr.heap.size, 1, none⟩ = some (.int .i64 (hiAt s n))) from fun W h =>
          ⟨h, (grown_cell h hboxV.lt hrow1 _).trans hboxV.c0, (grown_cell h hboxV.lt hrow1 _).trans hboxV.c1, (grown_cell h hboxV.lt hrow1 _).trans hboxV.c2, (grown_cell h hboxV.lt hrow1 _).trans hboxV.c3, (grown_cell h hzV hrow2 _).trans v0, (grown_cell h hzV hrow2 _).trans v1⟩)
        have HboxV := Lib.hid hboxV
        have Hrow := Lib.hid hrow
        have S0 := HKS.out V (only_of_below (Below.refl _ _) _)
        clear hV hboxV v0 v1 hrow hrow1 hrow2 c0 x0 x1 hbV
        go_region_held3 (fun W => V.grownBy W u7.ownBlock ∧ W.cell? ⟨w.heap.size, 0, none⟩ = some (.slice s.A1 s.sheets.length s.c1) ∧ W.cell? ⟨w.heap.size, 1, none⟩ = some (.slice s.A2 s.lics.length s.c2) ∧ W.cell? ⟨w.heap.size, 2, none⟩ = some (.slice s.A3 s.makes.length s.c3) ∧ W.cell? ⟨w.heap.size, 3, none⟩ = some (.slice s.A4 s.wishes.length s.c4) ∧ W.cell? ⟨wr.heap.size, 0, none⟩ = some (.int .i64 (loAt s n)) ∧ W.cell? ⟨wr.heap.size, 1, none⟩ = some (.int .i64 (hiAt s n)))
          (first | exact HKS.out _ (only_of_below (Below.refl _ _).drew _) | exact HKS.out _ (only_of_below hk1 _) | exact HKS.out _ (only_of_below hk2 _) | exact HKS.out _ (only_of_below (hk2.alloc hk2.size _) _) | exact HKS.out _ hgA | assumption)
          (first
            | (go_at_call 44; go_split_ands; (with_reducible refine (Lacking_any s set n (hiAt s n) _ (by omega) hlt ⟨by omega, by omega⟩ Hok.out ?_).mono ?_); (exact HrV.out.next (Below.refl _ _).drew); rintro e w1 ⟨rfl, hb1⟩; have hk1 : Below V.heap.size V w1 := (Below.refl _ _).drew.trans hb1)
            | (go_at_call 44; go_split_ands; (with_reducible refine (Lacking_any s set n (loAt s n) _ (by omega) hlt ⟨by omega, by omega⟩ Hok.out ?_).mono ?_); (exact HrV.out.next hk1); rintro e w2 ⟨rfl, hb2⟩; have hk2 : Below V.heap.size V w2 := hk1.trans (hb2.mono hk1.size))
            | (refine step_append_lies _ rfl (.tmp 29) (.tmp 43) 38 rfl (w.heap.size + 1) 44 i0 (.agg #[.int .i64 0, .int .i64 0]) 2 16 Tryd.underlying38 hi hz0 hz1 hz2 rfl (by decide) u7 n (tab2V n (lacksS s set)) rfl ((own_below HownV.out hk2).alloc _) ⟨w2.heap.size, 0, none⟩ 1 1 [.int .i64 (lackS s set n (hiAt s n)), .int .i64 (lackS s set n (loAt s n))] rfl rfl (cell_two_new _ _ _ _) (by simp [Value.oneCell']) (by omega) (by unfold maxLen; omega) (by omega) (by simp; have := hk2.size; omega) _ rfl ?_; intro g cap w' hown' hgrow hgg hlt'; have hgA : V.grownBy w' u7.ownBlock := grown_trans (only_of_below (hk2.alloc hk2.size _) _) hgrow))
        have hown2 : w'.ownsRow (w.heap.size + 1) 44 2 (.slice (some ⟨g, 0, none⟩) (n + 1) cap) (n + 1) (tab2V (n + 1) (lacksS s set)) := by rw [tab2V_succ]; exact hown'
        have hbb : Below w.heap.size w w' := hbwV.out.grown hgA hbwV.out.size (fun k hk => by have := Hrow.out k hk; omega)
        have hbx : SBox w' w.heap.size s := HboxV.out.grown hgA (fun k hk => by have := Hrow.out k hk; omega)
        clear hown' hgrow hgA
        go_wp2
        all_goals (first | (refine ⟨?_, ?_⟩; (unfold R20; exact ⟨n + 1, by omega, by go_num, hown2, hbb, hbx⟩); (simp [intOf]; omega)) | (go_roundw; (case rel => (unfold R20; exact ⟨n + 1, by omega, by go_num, hown2, hbb, hbx⟩)); (case measure => (simp [intOf]; omega))) | (go_round; (case rel => (unfold R20; exact ⟨n + 1, by omega, by go_num, hown2, hbb, hbx⟩)); (case measure => (simp [intOf]; omega))))
      · have e : n = s.sheets.length := by omega
        have c0 := hbox.c0
        go_wp2
        go_ret2
        subst e
        rw [He.out]
        exact ret_l2 hown hb
  · have hc' : (acceptedS s st != 0) = true := by simpa using hc
    have He := Lib.hid (show RetL2 (lenIf (acceptedS s st) s.sheets.length) (lacksS s st.toNat) (acceptedS s st) w = RetL2 0 (lacksS s st.toNat) (acceptedS s st) w by rw [lenIf, if_neg hc])
    go_wp2
    go_ret2
    rw [He.out]
    exact ret_l2_none Hbb.out
def Ret3 (v u x : Value) (w : World) (e : Ending) (w' : World) : Prop := e = .returned (.tuple #[v, u, x]) ∧ Below w.heap.size w w'
def surelyTo (s : Store) (set n : Nat) : Bool := (tab n fun k => lackS s set k (loAt s k)).all fun x => x == 0
def canTo (s : Store) (set n : Nat) : Bool := (tab n fun k => lackS s set k (hiAt s k)).all fun x => x == 0
theorem surelyTo_succ (s : Store) (set n : Nat) : surelyTo s set (n + 1) = (surelyTo s set n && lackS s set n (loAt s n) == 0) := by simp [surelyTo, tab, List.range_succ]
theorem canTo_succ (s : Store) (set n : Nat) : canTo s set (n + 1) = (canTo s set n && lackS s set n (hiAt s n) == 0) := by simp [canTo, tab, List.range_succ]
def surelyS (s : Store) (st : Int) : Bool := decide (acceptedS s st = 0) && surelyTo s st.toNat s.sheets.length
def canS (s : Store) (st : Int) : Bool := decide (acceptedS s st = 0) && canTo s st.toNat s.sheets.length
def R22 (s : Store) (set : Nat) (w0 : World) (a b i : Value) (w : World) : Prop := ∃ n : Nat, n ≤ s.sheets.length ∧ i = .int .i64 n ∧ a = .bool (surelyTo s set n) ∧ b = .bool (canTo s set n) ∧ w = w0
set_option maxHeartbeats 400000 in
theorem Covered_any (s : Store) (st : Int) (w : World) (hr : StoreAt w w.heap.size s) : Calls Tryd.prog 22 #[.agg #[.slice s.A1 s.sheets.length s.c1, .slice s.A2 s.lics.length s.c2, .slice s.A3 s.makes.length s.c3, .slice s.A4 s.wishes.length s.c4], .int .i64 st] w (Ret3 (.bool (surelyS s st)) (.bool (canS s st)) (.int .i64 (acceptedS s st)) w) := by
  have hr' := Lib.hid (hr.next ((Below.refl _ _).alloc (Nat.le_refl _) (.cells #[.slice s.A1 s.sheets.length s.c1, .slice s.A2 s.lics.length s.c2, .slice s.A3 s.makes.length s.c3, .slice s.A4 s.wishes.length s.c4] 27)))
  clear hr
  go_enter Tryd.func22, Tryd.ntmps22
  go_wp2_with fail
  refine (Lacks_any s st _ hr'.out).mono ?_
  rintro e w1 ⟨A, c, rfl, hat, hb1⟩
  have Hbb := Lib.hid (show Below w.heap.size w w1 from ((Below.refl _ _).alloc (Nat.le_refl _) _).trans (hb1.mono (by simp)))
  have Hat := Lib.hid hat
  clear hb1 hat
  by_cases hc : acceptedS s st = 0
  · obtain ⟨ok, h0, h1⟩ := accepted_ok (.inl hc)
    have h3 := ok.ns
    obtain ⟨set, rfl⟩ := Int.eq_ofNat_of_zero_le h0
    have Hl := Lib.hid (show lenIf (acceptedS s (set : Int)) s.sheets.length = s.sheets.length by rw [hc]; rfl)
    have He := Lib.hid (show Ret3 (.bool (surelyS s (set : Int))) (.bool (canS s (set : Int))) (.int .i64 (acceptedS s (set : Int))) w = Ret3 (.bool (surelyTo s set s.sheets.length)) (.bool (canTo s set s.sheets.length)) (.int .i64 0) w by simp [surelyS, canS, hc])
    rw [Hl.out] at Hat ⊢
    simp only [hc]
    clear hc ok
    go_wp2
    go_loopw [9, 10, 11] (fun a b i wr => R22 s set w1 a b i wr) (fun _ _ i _ => s.sheets.length - (intOf i).toNat)
    case atStart => exact ⟨0, by omega, rfl, rfl, rfl, rfl⟩
    case round =>
      obtain ⟨n, hn, rfl, rfl, rfl, rfl⟩ := hrel
      by_cases hlt : n < s.sheets.length
      · obtain ⟨b, off, e1, hbk, x0, x1⟩ := Hat.out.pair (k := n) (by rw [length_tab2]; exact hlt)
        have ex : (tab2 s.sheets.length (lacksS s set))[n]'(by rw [length_tab2]; exact hlt) = lacksS s set n := by simp [tab2]
        have ex' : tab2 s.sheets.length (lacksS s (Int.toNat (set : Int))) = tab2 s.sheets.length (lacksS s set) := rfl
        simp only [ex', ex, lacksS] at x0 x1
        subst e1
        clear ex ex'
        have Hs := Lib.hid (surelyTo_succ s set n)
        have Hc := Lib.hid (canTo_succ s set n)
        go_wp2
        all_goals (first | (refine ⟨?_, ?_⟩; (unfold R22; exact ⟨n + 1, by omega, by go_num, by rw [Hs.out]; simp [*], by rw [Hc.out]; simp [*], rfl⟩); (simp [intOf]; omega)) | (go_roundw; (case rel => (unfold R22; exact ⟨n + 1, by omega, by go_num, by rw [Hs.out]; simp [*], by rw [Hc.out]; simp [*], rfl⟩)); (case measure => (simp [intOf]; omega))) | (go_round; (case rel => (unfold R22; exact ⟨n + 1, by omega, by go_num, by rw [Hs.out]; simp [*], by rw [Hc.out]; simp [*], rfl⟩)); (case measure => (simp [intOf]; omega))))
      · have e : n = s.sheets.length := by omega
        go_wp2
        go_ret3
        subst e
        rw [He.out]
        exact ⟨rfl, Hbb.out⟩
  · have hc' : (acceptedS s st != 0) = true := by simpa using hc
    have He := Lib.hid (show Ret3 (.bool (surelyS s st)) (.bool (canS s st)) (.int .i64 (acceptedS s st)) w = Ret3 (.bool false) (.bool false) (.int .i64 (acceptedS s st)) w by simp [surelyS, canS, hc])
    go_wp2
    go_ret3
    rw [He.out]
    exact ⟨rfl, Hbb.out⟩
end Go.Proofs.YtfffhbolaimmdaaDoor
