import Derived.Test.YtfffhbolaimmdaaDoorP15
import Derived.Test.YtfffhbolaimmdaaDoorR11
namespace Go.Proofs.YtfffhbolaimmdaaDoor
open Go.RowKit
theorem openE_false (s : Store) (st : Int) : openE s st false = checkS s st := by
  unfold openE; split
  · rename_i h; simp [h]
  · rfl
theorem openE_true (s : Store) (st : Int) : openE s st true = acceptedS s st := by
  unfold openE acceptedS; split
  · simp
  · rfl
theorem openR_true (s : Store) (st : Int) : openR s st true = mayS s st := by unfold openR mayS; rw [openE_true]
theorem openB_yes {s : Store} {st : Int} (h : checkS s st = 0) : openB s st = .agg #[.slice s.A1 s.sheets.length s.c1, .slice s.A2 s.lics.length s.c2, .slice s.A3 s.makes.length s.c3, .slice s.A4 s.wishes.length s.c4] := by unfold openB; rw [if_pos h]
theorem openB_no {s : Store} {st : Int} (h : checkS s st ≠ 0) : openB s st = .agg #[.slice none 0 0, .slice none 0 0, .slice none 0 0, .slice none 0 0] := by unfold openB; rw [if_neg h]
theorem set_lt {s : Store} {set : Nat} (h : (set : Int) < powI s.wishes.length) : set < 2 ^ s.wishes.length := by unfold powI at h; omega
set_option maxHeartbeats 400000 in
theorem Takes14_any (s : Store) (st : Int) (w : World) (hr : StoreAt w w.heap.size s) (he : Env w) :
    Calls Tryd.prog 14 #[.agg #[.slice s.A1 s.sheets.length s.c1, .slice s.A2 s.lics.length s.c2, .slice s.A3 s.makes.length s.c3, .slice s.A4 s.wishes.length s.c4], .int .i64 st] w (RetL1 (lenIf (checkS s st) s.sheets.length) (takeS s st.toNat) (checkS s st) w) := by
  have hb0 := (Below.refl w.heap.size w).alloc (Nat.le_refl _) (.cells #[.slice s.A1 s.sheets.length s.c1, .slice s.A2 s.lics.length s.c2, .slice s.A3 s.makes.length s.c3, .slice s.A4 s.wishes.length s.c4] 27)
  have hr' := Lib.hid (hr.next hb0)
  have he' := Lib.hid (he.next hb0)
  have HR := Lib.hid hr
  have HE := Lib.hid he
  have hbb := Lib.hid hb0
  clear hr he hb0
  go_enter Tryd.func14, Tryd.ntmps14
  go_wp2_with fail
  refine (open_any s st false _ hr'.out he'.out).mono ?_
  rintro e w1 ⟨rfl, hb1⟩
  rw [openE_false]
  have Hbb := Lib.hid (hbb.out.trans (hb1.mono hbb.out.size))
  clear hb1 hr' he' hbb
  by_cases hc : checkS s st = 0
  · obtain ⟨ok, h0, h1⟩ := check_ok hc
    obtain ⟨set, rfl⟩ := Int.eq_ofNat_of_zero_le h0
    have hlt := set_lt h1
    have He := Lib.hid (show RetL1 (lenIf (checkS s (set : Int)) s.sheets.length) (takeS s (set : Int).toNat) (checkS s (set : Int)) w = RetL1 s.sheets.length (takeS s set) 0 w by rw [hc]; rfl)
    rw [openB_yes hc]
    simp only [hc]
    clear hc
    go_wp2_with fail
    have hbW := Hbb.out.alloc Hbb.out.size (.cells #[.slice s.A1 s.sheets.length s.c1, .slice s.A2 s.lics.length s.c2, .slice s.A3 s.makes.length s.c3, .slice s.A4 s.wishes.length s.c4] 72)
    refine (takes_any s set _ ok hlt ((HR.out.below hbW).more hbW.size) (HE.out.next hbW)).mono ?_
    rintro e w2 ⟨g, c, rfl, hgc, hg, hblk, hb2⟩
    have hB := Lib.hid (hbW.trans (hb2.mono hbW.size))
    have hA := Lib.hid hblk.at_
    clear hblk hb2 hbW
    go_wp2
    go_ret2
    rw [He.out]
    exact ⟨some ⟨g, 0, none⟩, c, rfl, hA.out, hB.out⟩
  · have He := Lib.hid (show RetL1 (lenIf (checkS s st) s.sheets.length) (takeS s st.toNat) (checkS s st) w = RetL1 0 (takeS s st.toNat) (checkS s st) w by rw [lenIf, if_neg hc])
    have hc' : (checkS s st != 0) = true := by simpa using hc
    rw [openB_no hc]
    go_wp2
    go_ret2
    rw [He.out]
    exact ret_l1_none (Hbb.out.alloc Hbb.out.size _)
set_option maxHeartbeats 400000 in
theorem May16_any (s : Store) (st : Int) (w : World) (hr : StoreAt w w.heap.size s) (he : Env w) :
    Calls Tryd.prog 16 #[.agg #[.slice s.A1 s.sheets.length s.c1, .slice s.A2 s.lics.length s.c2, .slice s.A3 s.makes.length s.c3, .slice s.A4 s.wishes.length s.c4], .int .i64 st] w (Ret2 (.int .i64 (mayS s st)) (.int .i64 (acceptedS s st)) w) := by
  have hb0 := (Below.refl w.heap.size w).alloc (Nat.le_refl _) (.cells #[.slice s.A1 s.sheets.length s.c1, .slice s.A2 s.lics.length s.c2, .slice s.A3 s.makes.length s.c3, .slice s.A4 s.wishes.length s.c4] 27)
  have hr' := Lib.hid (hr.next hb0)
  have he' := Lib.hid (he.next hb0)
  have hbb := Lib.hid hb0
  clear hr he hb0
  go_enter Tryd.func16, Tryd.ntmps16
  go_wp2_with fail
  refine (open_any s st true _ hr'.out he'.out).mono ?_
  rintro e w1 ⟨rfl, hb1⟩
  rw [openE_true, openR_true]
  have Hbb := Lib.hid (hbb.out.trans (hb1.mono hbb.out.size))
  clear hb1 hr' he' hbb
  generalize openB s st = B
  go_wp2
  go_ret2
  exact ⟨rfl, Hbb.out⟩
end Go.Proofs.YtfffhbolaimmdaaDoor
