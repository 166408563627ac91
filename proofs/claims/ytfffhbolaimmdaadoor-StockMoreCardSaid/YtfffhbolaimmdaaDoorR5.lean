import Derived.Test.YtfffhbolaimmdaaDoorW0
import Derived.Deep.RegionHeld3
namespace Go.Proofs.YtfffhbolaimmdaaDoor
open Go.RowKit
def acceptedS (s : Store) (st : Int) : Int := if checkS s st = 0 then (if 0 ≤ refusedS s st.toNat then 11 else 0) else checkS s st
theorem check_ok {s : Store} {st : Int} (h : checkS s st = 0) : Ok s ∧ 0 ≤ st ∧ st < powI s.wishes.length := by
  unfold checkS at h
  split at h
  · rename_i h1
    split at h
    · rename_i h2
      simp [inS] at h2
      exact ⟨(ok_iff s).1 h1, by omega, by omega⟩
    · omega
  · omega
theorem checkS_cases (s : Store) (st : Int) : checkS s st = 0 ∨ checkS s st = 1 ∨ checkS s st = 2 := by
  unfold checkS; split <;> (try split) <;> simp
set_option maxHeartbeats 400000 in
theorem accepted_any (s : Store) (st : Int) (w : World) (hr : StoreAt w w.heap.size s) : Calls Tryd.prog 39 #[.agg #[.slice s.A1 s.sheets.length s.c1, .slice s.A2 s.lics.length s.c2, .slice s.A3 s.makes.length s.c3, .slice s.A4 s.wishes.length s.c4], .int .i64 st] w (Ret (.int .i64 (acceptedS s st)) w) := by
  have hr' := Lib.hid (hr.next ((Below.refl _ _).alloc (Nat.le_refl _) (.cells #[.slice s.A1 s.sheets.length s.c1, .slice s.A2 s.lics.length s.c2, .slice s.A3 s.makes.length s.c3, .slice s.A4 s.wishes.length s.c4] 27)))
  have hx := SBox.new w s 27
  clear hr
  go_enter Tryd.func39, Tryd.ntmps39
  go_wp2_with fail
  refine (check_any s st _ hr'.out).mono ?_
  rintro e w1 ⟨rfl, hb1⟩
  obtain ⟨hz, c0, c1, c2, c3⟩ := hx.next hb1
  have hbb : Below w.heap.size w w1 := ((Below.refl _ _).alloc (Nat.le_refl _) _).trans (hb1.mono (by simp))
  have Hbb := Lib.hid hbb
  have Hr1 := Lib.hid (hr'.out.next hb1)
  have Hd := Lib.hid (show acceptedS s st = (if checkS s st = 0 then (if 0 ≤ refusedS s st.toNat then 11 else 0) else checkS s st) from rfl)
  clear hb1 hbb hx
  by_cases hc : checkS s st = 0
  · obtain ⟨ok, h0, h1⟩ := check_ok hc
    have h2 := powI_bd (n := s.wishes.length) (by have := ok.nw; omega)
    obtain ⟨n, rfl⟩ := Int.eq_ofNat_of_zero_le h0
    rw [hc] at Hd
    simp only [hc]
    have Hok := Lib.hid ok
    clear hc ok h0
    go_wp2_with fail
    refine (Refused_any s n _ (by omega) Hok.out Hr1.out).mono ?_
    rintro e w2 ⟨rfl, hb2⟩
    have Hb2 := Lib.hid (Hbb.out.trans (hb2.mono Hbb.out.size))
    clear hb2
    by_cases h4 : 0 ≤ refusedS s n
    · go_wp2
      go_ret
      exact ret_int (by rw [Hd.out]; simp [h4]) Hb2.out
    · go_wp2
      go_ret
      exact ret_int (by rw [Hd.out]; simp [h4]) Hb2.out
  · have hc' : (checkS s st == 0) = false := by simpa using hc
    rw [if_neg hc] at Hd
    go_wp2
    go_ret
    exact ret_int (by rw [Hd.out]) Hbb.out
def Ret2 (v u : Value) (w : World) (e : Ending) (w' : World) : Prop := e = .returned (.tuple #[v, u]) ∧ Below w.heap.size w w'
def mayS (s : Store) (st : Int) : Int := if acceptedS s st = 11 then refusedS s st.toNat else 0
theorem accepted_ok {s : Store} {st : Int} (h : acceptedS s st = 0 ∨ acceptedS s st = 11) : Ok s ∧ 0 ≤ st ∧ st < powI s.wishes.length := by
  unfold acceptedS at h
  by_cases hc : checkS s st = 0
  · exact check_ok hc
  · rw [if_neg hc] at h
    have := checkS_cases s st
    omega
set_option maxHeartbeats 400000 in
theorem May_any (s : Store) (st : Int) (w : World) (hr : StoreAt w w.heap.size s) : Calls Tryd.prog 17 #[.agg #[.slice s.A1 s.sheets.length s.c1, .slice s.A2 s.lics.length s.c2, .slice s.A3 s.makes.length s.c3, .slice s.A4 s.wishes.length s.c4], .int .i64 st] w (Ret2 (.int .i64 (mayS s st)) (.int .i64 (acceptedS s st)) w) := by
  have hr' := Lib.hid (hr.next ((Below.refl _ _).alloc (Nat.le_refl _) (.cells #[.slice s.A1 s.sheets.length s.c1, .slice s.A2 s.lics.length s.c2, .slice s.A3 s.makes.length s.c3, .slice s.A4 s.wishes.length s.c4] 27)))
  have hx := SBox.new w s 27
  clear hr
  go_enter Tryd.func17, Tryd.ntmps17
  go_wp2_with fail
  refine (accepted_any s st _ hr'.out).mono ?_
  rintro e w1 ⟨rfl, hb1⟩
  obtain ⟨hz, c0, c1, c2, c3⟩ := hx.next hb1
  have hbb : Below w.heap.size w w1 := ((Below.refl _ _).alloc (Nat.le_refl _) _).trans (hb1.mono (by simp))
  have Hbb := Lib.hid hbb
  have Hr1 := Lib.hid (hr'.out.next hb1)
  have Hd := Lib.hid (show mayS s st = (if acceptedS s st = 11 then refusedS s st.toNat else 0) from rfl)
  clear hb1 hbb hx
  by_cases hc : acceptedS s st = 11
  · obtain ⟨ok, h0, h1⟩ := accepted_ok (.inr hc)
    have h2 := powI_bd (n := s.wishes.length) (by have := ok.nw; omega)
    obtain ⟨n, rfl⟩ := Int.eq_ofNat_of_zero_le h0
    rw [if_pos hc] at Hd
    have Hc := Lib.hid hc
    simp only [hc]
    have Hok := Lib.hid ok
    clear hc ok h0
    go_wp2_with fail
    refine (Refused_any s n _ (by omega) Hok.out Hr1.out).mono ?_
    rintro e w2 ⟨rfl, hb2⟩
    have Hb2 := Lib.hid (Hbb.out.trans (hb2.mono Hbb.out.size))
    clear hb2
    go_wp2
    go_ret2
    exact ⟨by rw [Hd.out, Hc.out]; rfl, Hb2.out⟩
  · have hc' : (acceptedS s st == 11) = false := by simpa using hc
    rw [if_neg hc] at Hd
    go_wp2
    go_ret2
    exact ⟨by rw [Hd.out]; rfl, Hbb.out⟩
def lackS (s : Store) (set k : Nat) (many : Int) : Int := max 0 (takeS s set k - many)
theorem lackS_bd {s : Store} (h : Ok s) (set k : Nat) {many : Int} (hm : 0 ≤ many) : 0 ≤ lackS s set k many ∧ lackS s set k many ≤ 180000 := by
  have := takeTo_bd h set k (Nat.le_refl _)
  unfold lackS takeS
  omega
set_option maxHeartbeats 400000 in
theorem Lacking_any (s : Store) (set k : Nat) (many : Int) (w : World) (hs : set ≤ 9223372036854775807) (hk : k < s.sheets.length) (hm : 0 ≤ many ∧ many ≤ 100000) (ok : Ok s) (hr : StoreAt w w.heap.size s) :
    Calls Tryd.prog 44 #[.agg #[.slice s.A1 s.sheets.length s.c1, .slice s.A2 s.lics.length s.c2, .slice s.A3 s.makes.length s.c3, .slice s.A4 s.wishes.length s.c4], .int .i64 set, .int .i64 k, .int .i64 many] w (Ret (.int .i64 (lackS s set k many)) w) := by
  have hr' := Lib.hid (hr.next ((Below.refl _ _).alloc (Nat.le_refl _) (.cells #[.slice s.A1 s.sheets.length s.c1, .slice s.A2 s.lics.length s.c2, .slice s.A3 s.makes.length s.c3, .slice s.A4 s.wishes.length s.c4] 27)))
  have hbd := takeTo_bd ok set k (Nat.le_refl _)
  change 0 ≤ takeS s set k ∧ takeS s set k ≤ 180000 at hbd
  have Hok := Lib.hid ok
  clear hr ok
  go_enter Tryd.func44, Tryd.ntmps44
  go_wp2_with fail
  refine (Take_any s set k _ hs hk Hok.out hr'.out).mono ?_
  rintro e w1 ⟨rfl, hb1⟩
  have Hbb := Lib.hid (show Below w.heap.size w w1 from ((Below.refl _ _).alloc (Nat.le_refl _) _).trans (hb1.mono (by simp)))
  clear hb1
  go_wp2
  all_goals (go_ret; exact ret_int (by unfold lackS; omega) Hbb.out)
end Go.Proofs.YtfffhbolaimmdaaDoor
