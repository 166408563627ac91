import Derived.Test.YtfffhbolaimmdaaDoorB1
namespace Go.Proofs.YtfffhbolaimmdaaDoor
open Go.RowKit
theorem ints_tab (n : Nat) (f : Nat → Int) {A A' : Option Addr} {c c' : Nat} {w : World} (hn : n ≤ 1000) (h : At w w.heap.size 1 icell A (tab n f)) (h' : At w w.heap.size 1 icell A' (tab n f)) : Calls Tryd.prog 18 #[.slice A n c, .slice A' n c'] w (Ret (.bool true) w) := by
  have := Ints_any (tab n f) (tab n f) A A' c c' w h h' (by rw [length_tab]; omega) (by rw [length_tab]; omega)
  rw [length_tab, show decide (tab n f = tab n f) = true by simp] at this
  exact this
theorem spans_tab (n : Nat) (f : Nat → Int × Int) {A A' : Option Addr} {c c' : Nat} {w : World} (hn : n ≤ 1000) (h : At w w.heap.size 2 spv A (tab2 n f)) (h' : At w w.heap.size 2 spv A' (tab2 n f)) : Calls Tryd.prog 25 #[.slice A n c, .slice A' n c'] w (Ret (.bool true) w) := by
  have := Spans_any (tab2 n f) (tab2 n f) A A' c c' w h h' (by rw [length_tab2]; omega) (by rw [length_tab2]; omega)
  rw [length_tab2, show decide (tab2 n f = tab2 n f) = true by simp] at this
  exact this
theorem far_no {s : Store} (h : farS s = false) : s.sheets.length ≤ 9 ∧ s.lics.length ≤ 10 ∧ s.makes.length ≤ 11 ∧ s.wishes.length ≤ 14 ∧ ∀ m ∈ s.makes, m.takes.length ≤ 9 := by
  simp [farS, farT, longMk] at h
  exact ⟨h.2.1, h.2.2.1, h.2.2.2.1, h.2.2.2.2, h.1⟩
theorem lenIf_le (c : Int) (n : Nat) : lenIf c n ≤ n := by unfold lenIf; split <;> omega
/-- A law's world: the store's box, the store, the table. -/
theorem AwW.start {s : Store} {w : World} (hr : StoreAt w w.heap.size s) (he : Env w) (t : TypeId) : AwW s w.heap.size (w.alloc (.cells #[.slice s.A1 s.sheets.length s.c1, .slice s.A2 s.lics.length s.c2, .slice s.A3 s.makes.length s.c3, .slice s.A4 s.wishes.length s.c4] t)) := ⟨hr.next (nxA _ _), he.next (nxA _ _), SBox.new w s t⟩
set_option maxRecDepth 100000 in
set_option maxHeartbeats 1000000 in
theorem StockTakes_walk (s : Store) (st : Int) (w : World) (hr : StoreAt w w.heap.size s) (he : Env w) : Calls Tryd.prog 3 #[.agg #[.slice s.A1 s.sheets.length s.c1, .slice s.A2 s.lics.length s.c2, .slice s.A3 s.makes.length s.c3, .slice s.A4 s.wishes.length s.c4], .int .i64 st] w (Ret (.bool true) w) := by
  have K := Lib.hid (AwW.start hr he 27)
  have HB := Lib.hid (nxA w (.cells #[.slice s.A1 s.sheets.length s.c1, .slice s.A2 s.lics.length s.c2, .slice s.A3 s.makes.length s.c3, .slice s.A4 s.wishes.length s.c4] 27))
  clear hr he
  go_enter Tryd.func3, Tryd.ntmps3
  go_wp2_with fail
  generalize (w.alloc (.cells #[.slice s.A1 s.sheets.length s.c1, .slice s.A2 s.lics.length s.c2, .slice s.A3 s.makes.length s.c3, .slice s.A4 s.wishes.length s.c4] 27)) = V1 at *
  refine (far_any s V1 K.out.st).mono ?_
  rintro e V2 ⟨rfl, hb⟩
  have K2 := Lib.hid (K.out.next hb)
  have HB2 := Lib.hid (HB.out.trans (hb.mono HB.out.size))
  clear hb K HB
  obtain ⟨-, -, -, p0, p1, p2, p3⟩ := id K2.out
  cases hf : farS s
  · have hn9 := (far_no hf).1
    have hn := lenIf_le (checkS s st) s.sheets.length
    clear hf
    go_wp2_with fail
    refine (Takes14_any s st V2 K2.out.st K2.out.en).mono ?_
    rintro e V3 ⟨A3, c3, rfl, hA, hb⟩
    have K3 := Lib.hid (K2.out.next hb)
    have HB3 := Lib.hid (HB2.out.trans (hb.mono HB2.out.size))
    have T3 := Lib.hid hA
    clear hb K2 HB2 hA p0 p1 p2 p3
    obtain ⟨-, -, -, p0, p1, p2, p3⟩ := id K3.out
    go_wp2_with fail
    refine (Takes_any s st V3 K3.out.st).mono ?_
    rintro e V4 ⟨A4, c4, rfl, hA, hb⟩
    have K4 := Lib.hid (K3.out.next hb)
    have HB4 := Lib.hid (HB3.out.trans (hb.mono HB3.out.size))
    have T4 := Lib.hid (T3.out.nextB hb)
    have U4 := Lib.hid hA
    clear hb K3 HB3 T3 hA p0 p1 p2 p3
    obtain ⟨-, -, -, p0, p1, p2, p3⟩ := id K4.out
    go_wp2_with fail
    refine (May16_any s st V4 K4.out.st K4.out.en).mono ?_
    rintro e V5 ⟨rfl, hb⟩
    have K5 := Lib.hid (K4.out.next hb)
    have HB5 := Lib.hid (HB4.out.trans (hb.mono HB4.out.size))
    have T5 := Lib.hid (T4.out.nextB hb)
    have U5 := Lib.hid (U4.out.nextB hb)
    clear hb K4 HB4 T4 U4 p0 p1 p2 p3
    obtain ⟨-, -, -, p0, p1, p2, p3⟩ := id K5.out
    go_wp2_with fail
    refine (May_any s st V5 K5.out.st).mono ?_
    rintro e V6 ⟨rfl, hb⟩
    have K6 := Lib.hid (K5.out.next hb)
    have HB6 := Lib.hid (HB5.out.trans (hb.mono HB5.out.size))
    have T6 := Lib.hid (T5.out.nextB hb)
    have U6 := Lib.hid (U5.out.nextB hb)
    clear hb K5 HB5 T5 U5 p0 p1 p2 p3
    generalize takeS s st.toNat = f at *
    generalize lenIf (checkS s st) s.sheets.length = n at *
    generalize checkS s st = ck at *
    generalize mayS s st = ma at *
    generalize acceptedS s st = ac at *
    go_wp2_with fail
    refine (ints_tab n f (by omega) T6.out U6.out).mono ?_
    rintro e V7 ⟨rfl, hb⟩
    have HB7 := Lib.hid (HB6.out.trans (hb.mono HB6.out.size))
    have HA := Lib.hid (awake_any V7 (K6.out.next hb).en)
    clear hb K6 HB6 T6 U6
    go_wp2_with fail
    refine HA.out.mono ?_
    rintro e V8 ⟨rfl, hb⟩
    have HB8 := Lib.hid (HB7.out.trans (hb.mono HB7.out.size))
    clear hb HB7 HA
    go_wp2
    go_ret
    exact ⟨rfl, HB8.out⟩
  · go_wp2_with fail
    refine (awake_any V2 K2.out.en).mono ?_
    rintro e V3 ⟨rfl, hb⟩
    have HB3 := Lib.hid (HB2.out.trans (hb.mono HB2.out.size))
    clear hb
    go_wp2
    go_ret
    exact ⟨rfl, HB3.out⟩
end Go.Proofs.YtfffhbolaimmdaaDoor
