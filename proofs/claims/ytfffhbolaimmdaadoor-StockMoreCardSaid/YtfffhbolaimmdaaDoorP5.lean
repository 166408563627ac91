import Derived.Test.YtfffhbolaimmdaaDoorP4
import Derived.Maps.AppendAt
namespace Go.Proofs.YtfffhbolaimmdaaDoor
open Go.RowKit
theorem own_iblk {w : World} {base n : Nat} {e : TypeId} {v : Value} {f : Nat → Int} (hn : 0 < n) (h : w.ownsRow base e 1 v n (tabV n f)) :
    ∃ g c, v = .slice (some ⟨g, 0, none⟩) n c ∧ n ≤ c ∧ base ≤ g ∧ IBlk w g n f := by
  obtain ⟨g, cap, rfl, hb, hlt⟩ := h.form hn
  rcases h.2 with ⟨e1, _⟩ | ⟨g', cap', cur, e1, _, hh, hnc, _⟩
  · cases e1
  · injection e1 with e1 _ e2
    injection e1 with e1
    injection e1 with e1
    subst e1 e2
    refine ⟨g, cap, rfl, hnc, hb, hlt, fun j hj => ?_, fun j => h.frozenAt j⟩
    rw [h.cellAt j (by omega)]
    simp [tabV, hj]
/-- A new slice of n numbers, in a block of its own. -/
def RetB (n : Nat) (f : Nat → Int) (w : World) (e : Ending) (w' : World) : Prop := ∃ g c, e = .returned (.slice (some ⟨g, 0, none⟩) n c) ∧ n ≤ c ∧ w.heap.size ≤ g ∧ IBlk w' g n f ∧ Below w.heap.size w w'
theorem vec_info : (Tryd.prog.info? 3).map (fun i => (i.zero, i.size, i.bytes)) = some (some (.int .i64 0), 1, 8) := by kernel_rfl
theorem At.news {w : World} {b off n : Nat} {f : Nat → Int} (h : At w w.heap.size 1 icell (some ⟨b, off, none⟩) (tab n f)) (o : Obj) :
    ∀ j u, (tabV n f)[j]? = some u → (w.alloc o).cell? ((⟨b, off, none⟩ : Addr).add j) = some u := by
  intro j u hu
  have hj : j < n := by have := (List.getElem?_eq_some_iff.1 hu).1; simpa [tabV] using this
  obtain ⟨b', off', e, hb, hc⟩ := h.int (k := j) (by rw [length_tab]; exact hj)
  injection e with e
  injection e with e1 e2
  subst e1 e2
  have hadd : (⟨b, off, none⟩ : Addr).add j = ⟨b, off + j, none⟩ := by unfold Addr.add; split <;> simp_all
  rw [hadd, World.cell?_alloc_lt w _ _ hb, hc]
  simp [tabV, hj] at hu
  rw [← hu]
  simp [tab, hj]
set_option maxHeartbeats 400000 in
theorem clone_any (b off c n : Nat) (f : Nat → Int) (w : World) (hn : 0 < n ∧ n ≤ 1000) (h : At w w.heap.size 1 icell (some ⟨b, off, none⟩) (tab n f)) :
    Calls Tryd.prog 82 #[.slice (some ⟨b, off, none⟩) n c] w (RetB n f w) := by
  obtain ⟨i0, hi, hz0, hz1, hz2⟩ := info_parts vec_info
  have hnil := fun W => Lib.run_eql_slice_nil (P := Tryd.prog) W 75 3 (some ⟨b, off, none⟩) n c 0 0 Tryd.underlying75
  go_enter Tryd.func82, Tryd.ntmps82
  have hown := World.ownsRow_lit (base := w.heap.size) (e := 3) (size := 1) w #[] 0 (Nat.le_refl _) (by decide) rfl
  have hnews := h.news (.cells #[] 3)
  clear h
  go_wp2_with (at_builtin; refine wpList_append_own _ rfl (.tmp 5) (.tmp 6) 75 rfl w.heap.size 3 i0 (.int .i64 0) 1 8 Tryd.underlying75 hi hz0 hz1 hz2 rfl (by decide) _ 0 [] rfl hown ⟨b, off, none⟩ n c (tabV n f) rfl (by simp [tabV]) hnews (by simp [tabV, Value.oneCell']) (by unfold maxLen; omega) (by omega) (by simp) ?_; intro v' w' hown' hgrow _)
  have hown2 : w'.ownsRow w.heap.size 3 1 v' n (tabV n f) := by simpa using hown'
  have hbb : Below w.heap.size w w' := ((Below.refl _ _).alloc (Nat.le_refl _) _).grown hgrow (by simp) (fun k hk => by have := hown.lt k hk; omega)
  clear hown hown' hgrow hnews hnil
  go_wp2
  go_ret
  obtain ⟨g, cc, rfl, h1, h2, h3⟩ := own_iblk hn.1 hown2
  exact ⟨g, cc, rfl, h1, h2, h3, hbb⟩
theorem IBlk.at_ {w : World} {g n : Nat} {f : Nat → Int} (h : IBlk w g n f) : At w w.heap.size 1 icell (some ⟨g, 0, none⟩) (tab n f) := fun k x hx => by
  obtain ⟨hk, rfl⟩ := tab_get n f k x hx
  refine ⟨g, 0, rfl, h.lt, fun j u hu => ?_⟩
  match j, hu with
  | 0, hu => cases hu; rw [← h.cell k hk]; congr 2; omega
def R61 (n g : Nat) (f h : Nat → Int) (t : Int) (w0 : World) (i : Value) (w : World) : Prop := ∃ k : Nat, k ≤ n ∧ i = .int .i64 k ∧ Below w0.heap.size w0 w ∧ IBlk w g n (fun j => if j < k then f j + t * h j else f j)
set_option maxHeartbeats 400000 in
theorem plus_any (b off c b2 off2 c2 n : Nat) (f h : Nat → Int) (t : Int) (w : World) (hn : 0 < n ∧ n ≤ 1000) (hf : At w w.heap.size 1 icell (some ⟨b, off, none⟩) (tab n f)) (hh : At w w.heap.size 1 icell (some ⟨b2, off2, none⟩) (tab n h))
    (bf : ∀ k, k < n → 0 ≤ f k ∧ f k ≤ 1000000) (bh : ∀ k, k < n → 0 ≤ h k ∧ h k ≤ 20) (bt : 0 ≤ t ∧ t ≤ 1000) :
    Calls Tryd.prog 61 #[.slice (some ⟨b, off, none⟩) n c, .slice (some ⟨b2, off2, none⟩) n c2, .int .i64 t] w (RetB n (fun k => f k + t * h k) w) := by
  go_enter Tryd.func61, Tryd.ntmps61
  go_wp2_with fail
  refine (clone_any b off c n f w hn hf).mono ?_
  rintro e w1 ⟨g, cc, rfl, hcc, hg, hblk, hb1⟩
  have Hf := Lib.hid bf
  have Hh := Lib.hid bh
  have Hhh := Lib.hid hh
  have Hblk := Lib.hid hblk
  have Hb := Lib.hid hb1
  clear bf bh hh hf hblk hb1
  go_wp2
  go_loopw [13] (fun i wr => R61 n g f h t w i wr) (fun i _ => n - (intOf i).toNat)
  case atStart => exact ⟨0, by omega, rfl, Hb.out, by simpa using Hblk.out⟩
  case round =>
    obtain ⟨k, hk, rfl, hbk, hbl⟩ := hrel
    by_cases hlt : k < n
    · obtain ⟨b', off', e, hb2, hc2⟩ := (Hhh.out.below hbk).int (k := k) (by rw [length_tab]; exact hlt)
      injection e with e
      injection e with e1 e2
      subst e1 e2
      have e3 : (tab n h).getD k 0 = h k := by simp [tab, hlt]
      rw [e3] at hc2
      have hc := hbl.cell k hlt
      simp only [Nat.lt_irrefl, if_false] at hc
      have hfr := hbl.free k
      have b1 := Hf.out k hlt
      have b2 := Hh.out k hlt
      have hm := mul_bd bt.1 bt.2 b2.1 b2.2
      have Hbl := Lib.hid hbl
      have Hbk := Lib.hid hbk
      have hz := hbl.lt
      clear hbl hbk e3
      go_wp2
      go_region
      have hbe := Lib.hid (Hbk.out.setCell (p := ⟨g, k, none⟩) hg (.int .i64 (f k + t * h k))).drew
      have hse := Lib.hid ((Hbl.out.set_ (f' := fun j => if j < k + 1 then f j + t * h j else f j) (j := k) (x := f k + t * h k) hlt (by simp) (fun i hi => by
        by_cases h1 : i < k
        · simp [h1, show i < k + 1 by omega]
        · simp [h1, show ¬ i < k + 1 by omega])).drew)
      go_wp2
      all_goals (first | (refine ⟨?_, ?_⟩; (unfold R61; exact ⟨k + 1, by omega, by go_num, hbe.out, hse.out⟩); (simp [intOf]; omega)) | (go_roundw; (case rel => (unfold R61; exact ⟨k + 1, by omega, by go_num, hbe.out, hse.out⟩)); (case measure => (simp [intOf]; omega))) | (go_round; (case rel => (unfold R61; exact ⟨k + 1, by omega, by go_num, hbe.out, hse.out⟩)); (case measure => (simp [intOf]; omega))))
    · go_wp2
      go_ret
      refine ⟨g, cc, rfl, hcc, hg, ⟨hbl.lt, fun j hj => ?_, hbl.free⟩, hbk⟩
      rw [hbl.cell j hj, if_pos (by omega)]
end Go.Proofs.YtfffhbolaimmdaaDoor
