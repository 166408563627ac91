import Derived.Test.YtkcfpnpejaekjaaDoorP11
namespace Go.Proofs.YtkcfpnpejaekjaaDoor
open Go.RowKit
/-! The program: gives. -/
theorem bk_ext (m : Mt) {g g' : Nat → Nat} (h : ∀ i, i < 16 → g i = g' i) : bkA m g = bkA m g' := by
  unfold bkA gI
  simp only [h 0 (by decide), h 1 (by decide), h 2 (by decide), h 3 (by decide), h 4 (by decide), h 5 (by decide), h 6 (by decide), h 7 (by decide), h 8 (by decide), h 9 (by decide), h 10 (by decide), h 11 (by decide), h 12 (by decide), h 13 (by decide), h 14 (by decide), h 15 (by decide)]
/-- Numbers that are written over who can have lost what. -/
def overG (g : Nat → Nat) (o : Nat) (l : List Nat) (i : Nat) : Nat := if o ≤ i ∧ i < o + l.length then l.getD (i - o) 0 else g i
theorem Bx.over {m : Mt} {b : Nat} : ∀ {l : List Nat} {o : Nat} {W : World} {g : Nat → Nat}, Bx W b (bkA m g).toList → o + l.length ≤ 16 → Bx (W.setCells b (4 + o) (l.flatMap ncell)) b (bkA m (overG g o l)).toList
  | [], o, W, g, h, _ => by
    rw [bk_ext m (g := overG g o []) (g' := g) (fun i _ => by unfold overG; rw [if_neg (by rw [List.length_nil]; omega)])]
    exact h
  | x :: l, o, W, g, h, ho => by
    rw [List.length_cons] at ho
    have h1 := h.set (k := 4 + o) (by simp [bkA]; omega) (.int .i64 (x : Int))
    rw [bk_set m g (by omega)] at h1
    have h2 := Bx.over (l := l) (o := o + 1) h1 (by omega)
    rw [bk_ext m (g := overG g o (x :: l)) (g' := overG (fun i => if i = o then x else g i) (o + 1) l) (fun i _ => by
      show (if o ≤ i ∧ i < o + (l.length + 1) then (x :: l).getD (i - o) 0 else g i) = (if o + 1 ≤ i ∧ i < o + 1 + l.length then l.getD (i - (o + 1)) 0 else if i = o then x else g i)
      by_cases e : i = o
      · subst e
        rw [if_pos (by omega), if_neg (by omega), if_pos rfl, Nat.sub_self]; rfl
      · by_cases e2 : o + 1 ≤ i ∧ i < o + 1 + l.length
        · rw [if_pos e2, if_pos (by omega), show i - o = (i - (o + 1)) + 1 by omega]; rfl
        · rw [if_neg e2, if_neg e, if_neg (by omega)])]
    exact h2
theorem setCells_below {B : Nat} {V W : World} {b : Nat} (hb : B ≤ b) (h : Below B V W) (o : Nat) (vs : List Value) : Below B V (W.setCells b o vs) := by rw [wset_eq]; exact below_setCells hb vs o h
theorem VBlk.wset {W : World} {g b n : Nat} {f : Nat → Value} (h : VBlk W g n f) (hne : b ≠ g) (o : Nat) (vs : List Value) : VBlk (W.setCells b o vs) g n f := by
  induction vs generalizing W o with
  | nil => exact h
  | cons v vs ih => exact ih (h.other hne o v) (o + 1)
theorem Fit.congr {n : Nat} {S S' : Nat → Nat → Bool} {a : Nat → Option Nat} (h : ∀ k, k < n → S k = S' k) : Fit n S a ↔ Fit n S' a :=
  ⟨fun ⟨f, hf⟩ => ⟨f, fun k hk => by rw [← h k hk]; exact hf.can k hk, hf.adm⟩, fun ⟨f, hf⟩ => ⟨f, fun k hk => by rw [h k hk]; exact hf.can k hk, hf.adm⟩⟩
/-- Who can have lost the other pieces. -/
def restG (g : Nat → Nat) (n k : Nat) : List Nat := ((List.range n).map g).take k ++ ((List.range n).map g).drop (k + 1)
theorem restG_len (g : Nat → Nat) {n k : Nat} (h : k < n) : (restG g n k).length = n - 1 := by
  unfold restG; rw [List.length_append, List.length_take, List.length_drop, List.length_map, List.length_range]; omega
theorem restG_at (g : Nat → Nat) {n k i : Nat} (h : k < n) (hi : i < n - 1) : (restG g n k).getD i 0 = g (skipN k i) := by
  unfold restG skipN
  rw [List.getD_eq_getElem?_getD]
  by_cases e : i < k
  · rw [if_pos e, List.getElem?_append_left (by rw [List.length_take, List.length_map, List.length_range]; omega), List.getElem?_take_of_lt e, List.getElem?_map, List.getElem?_range (by omega)]; rfl
  · rw [if_neg e, List.getElem?_append_right (by rw [List.length_take, List.length_map, List.length_range]; omega), List.length_take, List.length_map, List.length_range, List.getElem?_drop, List.getElem?_map, show k + 1 + (i - min k n) = i + 1 by omega, List.getElem?_range (by omega)]; rfl
theorem can_list {W : World} {b : Nat} {m : Mt} {g : Nat → Nat} (h : Bx W b (bkA m g).toList) {n : Nat} (hn : n ≤ 16) : At W W.heap.size 1 ncell (some ⟨b, 4, none⟩) ((List.range n).map g) := fun k x hx => by
  have hk := (List.getElem?_eq_some_iff.1 hx).1
  rw [List.length_map, List.length_range] at hk
  rw [List.getElem?_map, List.getElem?_range hk] at hx
  have hx : some (g k) = some x := hx
  injection hx with hx
  refine ⟨b, 4, rfl, h.lt, fun j u hu => ?_⟩
  cases j with
  | zero =>
    have hu : some (Value.int .i64 x) = some u := hu
    injection hu with hu
    rw [Nat.mul_one, Nat.add_zero, h.c _ _ (can_at m g (by omega)), ← hu, hx]
  | succ j => simp [ncell] at hu
def RetGv (m : Mt) (g : Nat → Nat) (k p : Nat) (w : World) (e : Ending) (w' : World) : Prop := ∃ b : Bool, e = .returned (.bool b) ∧ Below w.heap.size w w' ∧ (b = true ↔ m.t.admits.getD p (-1) ≠ 0 ∧ Fit (m.t.n.toNat - 1) (fun i q => has (g (skipN k i)) q) (admA (decL m.t.admits p)))
def zrs (n : Nat) : Array Value := (List.replicate n (Value.int .i64 0)).toArray
theorem zrs_size (n : Nat) : (zrs n).size = n := by unfold zrs; simp
theorem zrs_list : (zrs 16).toList = (List.replicate 16 0).flatMap ncell := rfl
theorem zrs_one : (zrs 16).all (·.oneCell') = true := by unfold zrs; simp [Value.oneCell']
theorem arr_size : (Tryd.prog.info? 67).map (·.size) = some 16 := by kernel_rfl
theorem int_size : (Tryd.prog.info? 3).map (·.size) = some 1 := by kernel_rfl
theorem gives_law {n k p : Nat} {g g2 : Nat → Nat} {l adm' : List Int} (hd : adm' = decL l p) (h0 : l.getD p (-1) ≠ 0) (hg : ∀ i, i < n - 1 → g2 i = g (skipN k i)) :
    Fit (n - 1) (fun i q => has (g2 i) q) (admA adm') ↔ l.getD p (-1) ≠ 0 ∧ Fit (n - 1) (fun i q => has (g (skipN k i)) q) (admA (decL l p)) := by
  rw [hd]
  have h := Fit.congr (n := n - 1) (S := fun i q => has (g2 i) q) (S' := fun i q => has (g (skipN k i)) q) (a := admA (decL l p)) (fun i hi => by rw [hg i hi])
  exact h.trans ⟨fun h => ⟨h0, h⟩, fun h => h.2⟩
theorem dec_mem {l : List Int} {p : Nat} (h : ∀ x ∈ l, -1 ≤ x ∧ x ≤ 16) : ∀ x ∈ decL l p, -1 ≤ x ∧ x ≤ 16 := fun x hx => by
  unfold decL at hx
  split at hx
  · rename_i h0
    rcases List.mem_or_eq_of_mem_set hx with h1 | h1
    · exact h x h1
    · rw [List.getD_eq_getElem?_getD] at h0 h1
      cases hp : l[p]? with
      | none => rw [hp] at h0; exact absurd h0 (by decide)
      | some y =>
        rw [hp] at h0 h1
        have := h y (List.mem_of_getElem? hp)
        have h0 : 0 < y := h0
        have h1 : x = y - 1 := h1
        omega
  · exact h x hx
theorem dec_len (l : List Int) (p : Nat) : (decL l p).length = l.length := by unfold decL; split <;> simp
theorem dec_get {l : List Int} {p : Nat} (hp : p < l.length) : l.getD p (-1) = l.getD p 0 := by
  rw [List.getD_eq_getElem?_getD, List.getD_eq_getElem?_getD, List.getElem?_eq_getElem hp]; rfl
theorem sliceArr (g n o : Nat) (W : World) (hn : n ≤ 16) : (Instr.sliceAt 67 (.pointer (some ⟨g, o, none⟩)) none (some (.int .i64 (n : Int))) none).run Tryd.prog W = .ok (.slice (some ⟨g, o, none⟩) n 16) W := by
  have hu : Tryd.prog.underlying 67 = some (.array (Tryd.prog.arrayLen 67) (Tryd.prog.elem 67)) := by kernel_rfl
  have hl : Tryd.prog.arrayLen 67 = 16 := by kernel_rfl
  have hs : (sizeOf (Tryd.prog.elem 67)).run Tryd.prog W = .ok 1 W := by kernel_rfl
  rw [run_sliceAt_array_h (P := Tryd.prog) W 67 ⟨g, o, none⟩ hu .i64 n (by omega) (by omega), hs, Result.andThen_ok, hl]
  simp [slicedAt, Addr.add]
theorem sliceAll (g o : Nat) (W : World) : (Instr.sliceAt 67 (.pointer (some ⟨g, o, none⟩)) none none none).run Tryd.prog W = .ok (.slice (some ⟨g, o, none⟩) 16 16) W := by
  have hu : Tryd.prog.underlying 67 = some (.array (Tryd.prog.arrayLen 67) (Tryd.prog.elem 67)) := by kernel_rfl
  have hl : Tryd.prog.arrayLen 67 = 16 := by kernel_rfl
  have hs : (sizeOf (Tryd.prog.elem 67)).run Tryd.prog W = .ok 1 W := by kernel_rfl
  rw [run_sliceAt_array_all (P := Tryd.prog) W 67 ⟨g, o, none⟩ hu, hs, Result.andThen_ok, hl]
  simp [slicedAt, Addr.add]
set_option maxRecDepth 100000 in
set_option maxHeartbeats 4000000 in
theorem gives_any (m : Mt) (g : Nat → Nat) (k p : Nat) (w : World) (hr : TaleAt w w.heap.size m) (ok : OkBk m g) (h1 : 1 ≤ m.t.admits.length) (hk : k < m.t.n.toNat) : Calls Tryd.prog 42 #[.agg #[.int .i64 m.t.n, .slice m.A1 m.t.loans.length m.c1, .slice m.A2 m.t.looks.length m.c2, .slice m.A3 m.t.admits.length m.c3, .int .i64 (gI g 0), .int .i64 (gI g 1), .int .i64 (gI g 2), .int .i64 (gI g 3), .int .i64 (gI g 4), .int .i64 (gI g 5), .int .i64 (gI g 6), .int .i64 (gI g 7), .int .i64 (gI g 8), .int .i64 (gI g 9), .int .i64 (gI g 10), .int .i64 (gI g 11), .int .i64 (gI g 12), .int .i64 (gI g 13), .int .i64 (gI g 14), .int .i64 (gI g 15)], .int .i64 k, .int .i64 p] w (RetGv m g k p w) := by
  have B0 := Lib.hid (nxA w (.cells #[.int .i64 m.t.n, .slice m.A1 m.t.loans.length m.c1, .slice m.A2 m.t.looks.length m.c2, .slice m.A3 m.t.admits.length m.c3, .int .i64 (gI g 0), .int .i64 (gI g 1), .int .i64 (gI g 2), .int .i64 (gI g 3), .int .i64 (gI g 4), .int .i64 (gI g 5), .int .i64 (gI g 6), .int .i64 (gI g 7), .int .i64 (gI g 8), .int .i64 (gI g 9), .int .i64 (gI g 10), .int .i64 (gI g 11), .int .i64 (gI g 12), .int .i64 (gI g 13), .int .i64 (gI g 14), .int .i64 (gI g 15)] 69))
  have HX : Bx (w.alloc (.cells #[.int .i64 m.t.n, .slice m.A1 m.t.loans.length m.c1, .slice m.A2 m.t.looks.length m.c2, .slice m.A3 m.t.admits.length m.c3, .int .i64 (gI g 0), .int .i64 (gI g 1), .int .i64 (gI g 2), .int .i64 (gI g 3), .int .i64 (gI g 4), .int .i64 (gI g 5), .int .i64 (gI g 6), .int .i64 (gI g 7), .int .i64 (gI g 8), .int .i64 (gI g 9), .int .i64 (gI g 10), .int .i64 (gI g 11), .int .i64 (gI g 12), .int .i64 (gI g 13), .int .i64 (gI g 14), .int .i64 (gI g 15)] 69)) w.heap.size (bkA m g).toList := Bx.new w #[.int .i64 m.t.n, .slice m.A1 m.t.loans.length m.c1, .slice m.A2 m.t.looks.length m.c2, .slice m.A3 m.t.admits.length m.c3, .int .i64 (gI g 0), .int .i64 (gI g 1), .int .i64 (gI g 2), .int .i64 (gI g 3), .int .i64 (gI g 4), .int .i64 (gI g 5), .int .i64 (gI g 6), .int .i64 (gI g 7), .int .i64 (gI g 8), .int .i64 (gI g 9), .int .i64 (gI g 10), .int .i64 (gI g 11), .int .i64 (gI g 12), .int .i64 (gI g 13), .int .i64 (gI g 14), .int .i64 (gI g 15)] 69
  have HR := Lib.hid (hr.next B0.out)
  have OK := Lib.hid ok
  have n0 := ok.n0
  have n2 := ok.n2
  obtain ⟨n, hn⟩ : ∃ n : Nat, m.t.n = n := ⟨m.t.n.toNat, by omega⟩
  have hkn : k < n := by omega
  have hn16 : n ≤ 16 := by omega
  have HN := Lib.hid hn
  have HH1 := Lib.hid h1
  have HR0 := Lib.hid hr
  have HNN := Lib.hid (show m.t.n.toNat = n by omega)
  obtain ⟨b, off, eA, hb, -⟩ := int_at HR.out.ad h1
  have hadm := HR.out.ad
  have h6 := ok.h6
  have H6 := Lib.hid h6
  have EA := Lib.hid eA
  clear hr ok n0 n2 hk hn eA
  go_enter Tryd.func42, Tryd.ntmps42
  go_upto_region 1 with fail
  generalize w.alloc (.cells #[.int .i64 m.t.n, .slice m.A1 m.t.loans.length m.c1, .slice m.A2 m.t.looks.length m.c2, .slice m.A3 m.t.admits.length m.c3, .int .i64 (gI g 0), .int .i64 (gI g 1), .int .i64 (gI g 2), .int .i64 (gI g 3), .int .i64 (gI g 4), .int .i64 (gI g 5), .int .i64 (gI g 6), .int .i64 (gI g 7), .int .i64 (gI g 8), .int .i64 (gI g 9), .int .i64 (gI g 10), .int .i64 (gI g 11), .int .i64 (gI g 12), .int .i64 (gI g 13), .int .i64 (gI g 14), .int .i64 (gI g 15)] 69) = V at *
  have c0 := HX.c 0 (.int .i64 n) (by rw [← HN.out]; rfl)
  have c3 := HX.c 3 (.slice m.A3 m.t.admits.length m.c3) rfl
  have f3 := HX.fr 3
  have HX0 := Lib.hid HX
  have hl := HX.lt
  have hsl := fun W => sliceArr w.heap.size n 4 W hn16
  clear HX
  go_upto_region 2 with fail
  rw [EA.out] at c3 hadm
  go_wp2_with fail
  refine (clone_any b off m.c3 m.t.admits V h1 (by omega) hadm).mono ?_
  rintro e W1 ⟨ga, ca, rfl, hca, hga, hva, hb1⟩
  have X1 := Lib.hid (HX0.out.next hb1)
  have c3' := X1.out.c 3 (.slice m.A3 m.t.admits.length m.c3) rfl
  have f3' := X1.out.fr 3
  have hl1 := X1.out.lt
  have hgaw : w.heap.size < ga := by omega
  have HVA := Lib.hid hva
  have HB1 := Lib.hid (B0.out.trans (hb1.mono B0.out.size))
  clear c0 c3 f3 hva hb1 hadm hsl
  go_upto_region 3 with fail
  have X2 := Lib.hid (show Bx (W1.setCell ⟨w.heap.size, 3, none⟩ (.slice (some ⟨ga, 0, none⟩) m.t.admits.length ca)) w.heap.size (bkA { m with A3 := some ⟨ga, 0, none⟩, c3 := ca } g).toList from X1.out.set (k := 3) (by simp [bkA]) _)
  have V2 := Lib.hid (HVA.out.other (b := w.heap.size) (by omega) 3 (.slice (some ⟨ga, 0, none⟩) m.t.admits.length ca))
  have B2 := Lib.hid (HB1.out.setCell (p := ⟨w.heap.size, 3, none⟩) (Nat.le_refl _) (.slice (some ⟨ga, 0, none⟩) m.t.admits.length ca))
  clear c3' f3' hl1
  generalize W1.setCell ⟨w.heap.size, 3, none⟩ (.slice (some ⟨ga, 0, none⟩) m.t.admits.length ca) = W2 at *
  have c3 := X2.out.c 3 (.slice (some ⟨ga, 0, none⟩) m.t.admits.length ca) rfl
  have hl2 := X2.out.lt
  have hga2 := V2.out.lt
  have HGA := Lib.hid hgaw
  by_cases hpl : p < m.t.admits.length
  · have a0 := V2.out.cell p hpl
    have fa := V2.out.free p
    have hx := OK.out.adm (m.t.admits.getD p 0) (getD_mem hpl)
    have HDG := Lib.hid (dec_get hpl)
    obtain ⟨x, hxx⟩ : ∃ x, x = m.t.admits.getD p 0 := ⟨_, rfl⟩
    rw [← hxx] at a0 hx HDG
    have HXX := Lib.hid hxx
    clear hxx
    by_cases h1 : x = -1
    · subst h1
      go_upto_region 7 with fail
      obtain ⟨adm', hadm'⟩ : ∃ adm', adm' = m.t.admits := ⟨_, rfl⟩
      have HAD := Lib.hid (show adm' = decL m.t.admits p ∧ m.t.admits.getD p (-1) ≠ 0 from ⟨by rw [hadm']; unfold decL; rw [HDG.out, if_neg (by decide)], by rw [HDG.out]; decide⟩)
      have HLEN := Lib.hid (show adm'.length = m.t.admits.length by rw [hadm'])
      have HADM := Lib.hid (show ∀ x ∈ adm', -1 ≤ x ∧ x ≤ 16 from by rw [hadm']; exact OK.out.adm)
      have XT := X2
      have VT := V2
      have BT := B2
      rw [← hadm'] at VT
      obtain ⟨WT, hWT⟩ : ∃ WT, WT = W2 := ⟨_, rfl⟩
      subst hWT
      clear c3 a0 fa hx hadm'
      have hcl := can_list XT.out hn16
      have HWO := without_any w.heap.size 4 16 ((List.range n).map g) k WT (by simp; exact hkn) (by simp; exact hn16) (by decide) hcl
      rw [List.length_map, List.length_range] at HWO
      clear hcl
      go_wp2_with fail
      refine HWO.mono ?_
      rintro e W7 ⟨Ar, cr, he7, hat, hb7, hbl⟩
      have HBL := Lib.hid (show ∀ a, Ar = some a → a.block ≠ w.heap.size from fun a e => by have := hbl a e; have := XT.out.lt; omega)
      replace he7 : e = .returned (.slice Ar (restG g n k).length cr) := he7
      subst he7
      replace hat : At W7 W7.heap.size 1 ncell Ar (restG g n k) := hat
      have HAT := Lib.hid hat
      have X7 := Lib.hid (XT.out.next hb7)
      have V7 := Lib.hid (VT.out.next hb7)
      have B7 := Lib.hid (BT.out.trans (hb7.mono BT.out.size))
      have c0 := X7.out.c 0 (.int .i64 n) (by rw [← HN.out]; rfl)
      have f0 := X7.out.fr 0
      have hl7 := X7.out.lt
      have hga7 := V7.out.lt
      have hn1 : IntKind.i64.wrap ((n : Int) - 1) = ((n - 1 : Nat) : Int) := by rw [IntKind.wrap_i64]; omega
      clear hat hb7 HWO hbl
      go_upto_region 9 with fail
      try rw [hn1]
      try rw [show (n : Int) - 1 = ((n - 1 : Nat) : Int) by omega]
      obtain ⟨m2, hm2⟩ : ∃ m2 : Mt, m2 = ⟨⟨((n - 1 : Nat) : Int), m.t.loans, m.t.looks, adm'⟩, m.A1, m.c1, m.A2, m.c2, some ⟨ga, 0, none⟩, ca⟩ := ⟨_, rfl⟩
      have M1 := Lib.hid (show m2.t.n = ((n - 1 : Nat) : Int) by rw [hm2])
      have M2 := Lib.hid (show m2.t.admits = adm' by rw [hm2])
      have HM2 := Lib.hid hm2
      have X8 := Lib.hid (show Bx (W7.setCell ⟨w.heap.size, 0, none⟩ (.int .i64 ((n - 1 : Nat) : Int))) w.heap.size (bkA m2 g).toList from by
        have h := X7.out.set (k := 0) (by simp [bkA]) (.int .i64 ((n - 1 : Nat) : Int))
        have e : (bkA m2 g).toList = ((bkA { m with A3 := some ⟨ga, 0, none⟩, c3 := ca } g).toList.set 0 (.int .i64 ((n - 1 : Nat) : Int))) := by
          rw [hm2]; unfold bkA
          show _ = _
          dsimp only
          rw [HLEN.out]; rfl
        rw [e]; exact h)
      have V8 := Lib.hid (V7.out.other (b := w.heap.size) (by omega) 0 (.int .i64 ((n - 1 : Nat) : Int)))
      have B8 := Lib.hid (B7.out.setCell (p := ⟨w.heap.size, 0, none⟩) (Nat.le_refl _) (.int .i64 ((n - 1 : Nat) : Int)))
      have A8 := Lib.hid (show At (W7.setCell ⟨w.heap.size, 0, none⟩ (.int .i64 ((n - 1 : Nat) : Int))) W7.heap.size 1 ncell Ar (restG g n k) from HAT.out.off HBL.out 0 [.int .i64 ((n - 1 : Nat) : Int)])
      generalize W7.setCell ⟨w.heap.size, 0, none⟩ (.int .i64 ((n - 1 : Nat) : Int)) = W8 at *
      have HT8 := Lib.hid (show W8.there w.heap.size 4 (zrs 16).size from fun j hj => by
        have hj2 : 4 + j < (bkA m2 g).toList.length := by rw [zrs_size] at hj; simp [bkA]; omega
        exact ⟨by rw [X8.out.c _ _ (List.getElem?_eq_getElem hj2)]; rfl, X8.out.fr _⟩)
      have X9 := Lib.hid (show Bx (W8.setCells w.heap.size 4 (zrs 16).toList) w.heap.size (bkA m2 (overG g 0 (List.replicate 16 0))).toList from by
        have h := X8.out.over (l := List.replicate 16 0) (o := 0) (by decide)
        rw [← zrs_list] at h
        exact h)
      have V9 := Lib.hid (V8.out.wset (b := w.heap.size) (by omega) 4 (zrs 16).toList)
      have B9 := Lib.hid (setCells_below (Nat.le_refl _) B8.out 4 (zrs 16).toList)
      have A9 := Lib.hid (A8.out.off HBL.out 4 (zrs 16).toList)
      clear c0 f0 hl7 hga7 hn1 hm2
      go_upto_region 10 with (refine wpList_store_mid rfl 67 (.tmp 60) (.tmp 59) rfl w.heap.size 4 (zrs 16) rfl rfl HT8.out (by rw [zrs_size]; exact arr_size) zrs_one ?_)
      generalize W8.setCells w.heap.size 4 (zrs 16).toList = W9 at *
      have hsa := fun W => sliceAll w.heap.size 4 W
      have HRL := Lib.hid (restG_len g hkn)
      have X10 := Lib.hid (show Bx (W9.setCells w.heap.size 4 ((restG g n k).flatMap ncell)) w.heap.size (bkA m2 (overG (overG g 0 (List.replicate 16 0)) 0 (restG g n k))).toList from X9.out.over (l := restG g n k) (o := 0) (by rw [HRL.out]; omega))
      have V10 := Lib.hid (V9.out.wset (b := w.heap.size) (by have := HGA.out; omega) 4 ((restG g n k).flatMap ncell))
      have B10 := Lib.hid (setCells_below (Nat.le_refl _) B9.out 4 ((restG g n k).flatMap ncell))
      have HCC := Lib.hid (show ∀ j, j < (restG g n k).length → (W9.cell? ⟨w.heap.size, 4 + j, none⟩).isSome = true from fun j hj => by
        have hj2 : 4 + j < (bkA m2 (overG g 0 (List.replicate 16 0))).toList.length := by rw [HRL.out] at hj; simp [bkA]; omega
        rw [X9.out.c _ _ (List.getElem?_eq_getElem hj2)]; rfl)
      go_upto_region 11 with (refine wpList_copy_at rfl (.tmp 62) (.tmp 63) 24 24 rfl 3 Tryd.underlying24 int_size w.heap.size 4 16 16 Ar (restG g n k) cr _ A9.out rfl rfl (by rw [HRL.out]; omega) HCC.out (fun j _ => X9.out.fr _) ?_)
      clear hsa
      generalize W9.setCells w.heap.size 4 ((restG g n k).flatMap ncell) = W10 at *
      obtain ⟨g2, hg2⟩ : ∃ g2, g2 = overG (overG g 0 (List.replicate 16 0)) 0 (restG g n k) := ⟨_, rfl⟩
      have HG2 := Lib.hid (show ∀ i, i < n - 1 → g2 i = g (skipN k i) from fun i hi => by
        rw [hg2]; unfold overG
        rw [if_pos (by rw [HRL.out]; omega), Nat.sub_zero]; exact restG_at g hkn hi)
      have HLT := Lib.hid (show ∀ i, g2 i < 256 from fun i => by
        by_cases hi : i < n - 1
        · rw [HG2.out i hi]; exact OK.out.lt _
        · rw [hg2]; unfold overG
          rw [if_neg (by rw [HRL.out]; omega)]
          split
          · rw [Nat.sub_zero, List.getD_eq_getElem?_getD, List.getElem?_replicate]; split <;> decide
          · exact OK.out.lt _)
      rw [← hg2] at X10
      have HRNG := Lib.hid X10.out.range
      have HSI := Lib.hid (show (Tryd.prog.info? 69).map (·.size) = some (bkA m2 g2).toList.length from bk_size)
      clear hg2
      have HT := Lib.hid (show TaleAt W10 W10.heap.size m2 from by
        have hT := (HR0.out.below B10.out).more B10.out.size
        rw [HM2.out]
        exact ⟨hT.lo, hT.lk, by have := At.vblk (l := adm') (by first | exact V10.out | (rw [HLEN.out]; exact V10.out)); exact this, hT.l1, hT.l2, by show adm'.length ≤ _; rw [HLEN.out]; exact hT.l3, hT.k1, hT.k2, by show adm'.length ≤ ca; rw [HLEN.out]; exact hca⟩)
      have HOK := Lib.hid (show OkBk m2 g2 from ⟨by rw [M1.out]; omega, by rw [M1.out]; omega, by rw [M2.out, HLEN.out]; exact H6.out, by rw [M2.out]; exact HADM.out, HLT.out, fun i hi => by
        rw [M1.out] at hi
        rw [M2.out, HLEN.out, HG2.out i (by omega)]
        exact OK.out.ok _ (by rw [HNN.out]; unfold skipN; split <;> omega)⟩)
      go_wp2_with (refine wpList_load_mid rfl 69 (.tmp 3) rfl w.heap.size 0 rfl (bkA m2 g2).toList _ HRNG.out bk_und rfl HSI.out ?_)
      refine (fits_any m2 g2 W10 HT.out HOK.out).mono ?_
      rintro e W11 ⟨rb, rfl, hb11, hiff⟩
      have HB11 := Lib.hid (B10.out.trans (hb11.mono B10.out.size))
      have HIFF := Lib.hid hiff
      clear hb11 hiff
      go_wp2_with fail
      go_ret
      refine ⟨rb, rfl, HB11.out, HIFF.out.trans ?_⟩
      rw [M1.out, M2.out, HNN.out, Int.toNat_natCast]
      exact gives_law HAD.out.1 HAD.out.2 HG2.out
    · have e1 : (x == -1) = false := by simp [h1]
      have e2 : (x != -1) = true := by simp [h1]
      have H1 := Lib.hid h1
      clear h1
      go_upto_region 5 with fail
      have hw : IntKind.i64.wrap (x - 1) = x - 1 := IntWalk.i64_in _ (by omega)
      try rw [hw]
      obtain ⟨adm', hadm'⟩ : ∃ adm', adm' = m.t.admits.set p (x - 1) := ⟨_, rfl⟩
      have HLEN := Lib.hid (show adm'.length = m.t.admits.length by rw [hadm', List.length_set])
      have VT := Lib.hid (show VBlk (W2.setCell ⟨ga, p, none⟩ (.int .i64 (x - 1))) ga m.t.admits.length (fun j => .int .i64 (adm'.getD j 0)) from V2.out.set_ hpl (by rw [hadm', List.getD_eq_getElem?_getD, List.getElem?_set_self hpl]; rfl) (fun i hi => by
        rw [hadm', List.getD_eq_getElem?_getD, List.getElem?_set_ne (Ne.symm hi), List.getD_eq_getElem?_getD]))
      have XT := Lib.hid (X2.out.other (g := ga) (by omega) p (.int .i64 (x - 1)))
      have BT := Lib.hid (B2.out.setCell (p := ⟨ga, p, none⟩) (by show w.heap.size ≤ ga; omega) (.int .i64 (x - 1)))
      clear c3 a0 fa
      generalize W2.setCell ⟨ga, p, none⟩ (.int .i64 (x - 1)) = WT at *
      have c3 := XT.out.c 3 (.slice (some ⟨ga, 0, none⟩) m.t.admits.length ca) rfl
      have a0 := VT.out.cell p hpl
      rw [show adm'.getD p 0 = x - 1 by rw [hadm', List.getD_eq_getElem?_getD, List.getElem?_set_self hpl]; rfl] at a0
      have hlt := XT.out.lt
      have hgat := VT.out.lt
      by_cases h0 : x = 0
      · have d1 : decide (x - 1 < 0) = true := decide_eq_true (by omega)
        have HZ := Lib.hid (show m.t.admits.getD p (-1) = 0 by rw [HDG.out]; exact h0)
        clear h0
        go_wp2_with fail
        go_ret
        exact ⟨false, rfl, BT.out, (fun h => by cases h), fun h => absurd HZ.out h.1⟩
      · have d1 : decide (x - 1 < 0) = false := decide_eq_false (by have := H1.out; omega)
        have hx0 : 0 < x := by have := H1.out; omega
        have HAD := Lib.hid (show adm' = decL m.t.admits p ∧ m.t.admits.getD p (-1) ≠ 0 from ⟨by rw [hadm']; unfold decL; rw [HDG.out, if_pos hx0], by rw [HDG.out]; intro h; omega⟩)
        have HADM := Lib.hid (show ∀ x ∈ adm', -1 ≤ x ∧ x ≤ 16 from by rw [HAD.out.1]; exact dec_mem OK.out.adm)
        clear h0 hadm' hx0
        go_upto_region 7 with fail
        clear c3 a0 hw d1
        have hcl := can_list XT.out hn16
        have HWO := without_any w.heap.size 4 16 ((List.range n).map g) k WT (by simp; exact hkn) (by simp; exact hn16) (by decide) hcl
        rw [List.length_map, List.length_range] at HWO
        clear hcl
        go_wp2_with fail
        refine HWO.mono ?_
        rintro e W7 ⟨Ar, cr, he7, hat, hb7, hbl⟩
        have HBL := Lib.hid (show ∀ a, Ar = some a → a.block ≠ w.heap.size from fun a e => by have := hbl a e; have := XT.out.lt; omega)
        replace he7 : e = .returned (.slice Ar (restG g n k).length cr) := he7
        subst he7
        replace hat : At W7 W7.heap.size 1 ncell Ar (restG g n k) := hat
        have HAT := Lib.hid hat
        have X7 := Lib.hid (XT.out.next hb7)
        have V7 := Lib.hid (VT.out.next hb7)
        have B7 := Lib.hid (BT.out.trans (hb7.mono BT.out.size))
        have c0 := X7.out.c 0 (.int .i64 n) (by rw [← HN.out]; rfl)
        have f0 := X7.out.fr 0
        have hl7 := X7.out.lt
        have hga7 := V7.out.lt
        have hn1 : IntKind.i64.wrap ((n : Int) - 1) = ((n - 1 : Nat) : Int) := by rw [IntKind.wrap_i64]; omega
        clear hat hb7 HWO hbl
        go_upto_region 9 with fail
        try rw [hn1]
        try rw [show (n : Int) - 1 = ((n - 1 : Nat) : Int) by omega]
        obtain ⟨m2, hm2⟩ : ∃ m2 : Mt, m2 = ⟨⟨((n - 1 : Nat) : Int), m.t.loans, m.t.looks, adm'⟩, m.A1, m.c1, m.A2, m.c2, some ⟨ga, 0, none⟩, ca⟩ := ⟨_, rfl⟩
        have M1 := Lib.hid (show m2.t.n = ((n - 1 : Nat) : Int) by rw [hm2])
        have M2 := Lib.hid (show m2.t.admits = adm' by rw [hm2])
        have HM2 := Lib.hid hm2
        have X8 := Lib.hid (show Bx (W7.setCell ⟨w.heap.size, 0, none⟩ (.int .i64 ((n - 1 : Nat) : Int))) w.heap.size (bkA m2 g).toList from by
          have h := X7.out.set (k := 0) (by simp [bkA]) (.int .i64 ((n - 1 : Nat) : Int))
          have e : (bkA m2 g).toList = ((bkA { m with A3 := some ⟨ga, 0, none⟩, c3 := ca } g).toList.set 0 (.int .i64 ((n - 1 : Nat) : Int))) := by
            rw [hm2]; unfold bkA
            show _ = _
            dsimp only
            rw [HLEN.out]; rfl
          rw [e]; exact h)
        have V8 := Lib.hid (V7.out.other (b := w.heap.size) (by omega) 0 (.int .i64 ((n - 1 : Nat) : Int)))
        have B8 := Lib.hid (B7.out.setCell (p := ⟨w.heap.size, 0, none⟩) (Nat.le_refl _) (.int .i64 ((n - 1 : Nat) : Int)))
        have A8 := Lib.hid (show At (W7.setCell ⟨w.heap.size, 0, none⟩ (.int .i64 ((n - 1 : Nat) : Int))) W7.heap.size 1 ncell Ar (restG g n k) from HAT.out.off HBL.out 0 [.int .i64 ((n - 1 : Nat) : Int)])
        generalize W7.setCell ⟨w.heap.size, 0, none⟩ (.int .i64 ((n - 1 : Nat) : Int)) = W8 at *
        have HT8 := Lib.hid (show W8.there w.heap.size 4 (zrs 16).size from fun j hj => by
          have hj2 : 4 + j < (bkA m2 g).toList.length := by rw [zrs_size] at hj; simp [bkA]; omega
          exact ⟨by rw [X8.out.c _ _ (List.getElem?_eq_getElem hj2)]; rfl, X8.out.fr _⟩)
        have X9 := Lib.hid (show Bx (W8.setCells w.heap.size 4 (zrs 16).toList) w.heap.size (bkA m2 (overG g 0 (List.replicate 16 0))).toList from by
          have h := X8.out.over (l := List.replicate 16 0) (o := 0) (by decide)
          rw [← zrs_list] at h
          exact h)
        have V9 := Lib.hid (V8.out.wset (b := w.heap.size) (by omega) 4 (zrs 16).toList)
        have B9 := Lib.hid (setCells_below (Nat.le_refl _) B8.out 4 (zrs 16).toList)
        have A9 := Lib.hid (A8.out.off HBL.out 4 (zrs 16).toList)
        clear c0 f0 hl7 hga7 hn1 hm2
        go_upto_region 10 with (refine wpList_store_mid rfl 67 (.tmp 60) (.tmp 59) rfl w.heap.size 4 (zrs 16) rfl rfl HT8.out (by rw [zrs_size]; exact arr_size) zrs_one ?_)
        generalize W8.setCells w.heap.size 4 (zrs 16).toList = W9 at *
        have hsa := fun W => sliceAll w.heap.size 4 W
        have HRL := Lib.hid (restG_len g hkn)
        have X10 := Lib.hid (show Bx (W9.setCells w.heap.size 4 ((restG g n k).flatMap ncell)) w.heap.size (bkA m2 (overG (overG g 0 (List.replicate 16 0)) 0 (restG g n k))).toList from X9.out.over (l := restG g n k) (o := 0) (by rw [HRL.out]; omega))
        have V10 := Lib.hid (V9.out.wset (b := w.heap.size) (by have := HGA.out; omega) 4 ((restG g n k).flatMap ncell))
        have B10 := Lib.hid (setCells_below (Nat.le_refl _) B9.out 4 ((restG g n k).flatMap ncell))
        have HCC := Lib.hid (show ∀ j, j < (restG g n k).length → (W9.cell? ⟨w.heap.size, 4 + j, none⟩).isSome = true from fun j hj => by
          have hj2 : 4 + j < (bkA m2 (overG g 0 (List.replicate 16 0))).toList.length := by rw [HRL.out] at hj; simp [bkA]; omega
          rw [X9.out.c _ _ (List.getElem?_eq_getElem hj2)]; rfl)
        go_upto_region 11 with (refine wpList_copy_at rfl (.tmp 62) (.tmp 63) 24 24 rfl 3 Tryd.underlying24 int_size w.heap.size 4 16 16 Ar (restG g n k) cr _ A9.out rfl rfl (by rw [HRL.out]; omega) HCC.out (fun j _ => X9.out.fr _) ?_)
        clear hsa
        generalize W9.setCells w.heap.size 4 ((restG g n k).flatMap ncell) = W10 at *
        obtain ⟨g2, hg2⟩ : ∃ g2, g2 = overG (overG g 0 (List.replicate 16 0)) 0 (restG g n k) := ⟨_, rfl⟩
        have HG2 := Lib.hid (show ∀ i, i < n - 1 → g2 i = g (skipN k i) from fun i hi => by
          rw [hg2]; unfold overG
          rw [if_pos (by rw [HRL.out]; omega), Nat.sub_zero]; exact restG_at g hkn hi)
        have HLT := Lib.hid (show ∀ i, g2 i < 256 from fun i => by
          by_cases hi : i < n - 1
          · rw [HG2.out i hi]; exact OK.out.lt _
          · rw [hg2]; unfold overG
            rw [if_neg (by rw [HRL.out]; omega)]
            split
            · rw [Nat.sub_zero, List.getD_eq_getElem?_getD, List.getElem?_replicate]; split <;> decide
            · exact OK.out.lt _)
        rw [← hg2] at X10
        have HRNG := Lib.hid X10.out.range
        have HSI := Lib.hid (show (Tryd.prog.info? 69).map (·.size) = some (bkA m2 g2).toList.length from bk_size)
        clear hg2
        have HT := Lib.hid (show TaleAt W10 W10.heap.size m2 from by
          have hT := (HR0.out.below B10.out).more B10.out.size
          rw [HM2.out]
          exact ⟨hT.lo, hT.lk, by have := At.vblk (l := adm') (by first | exact V10.out | (rw [HLEN.out]; exact V10.out)); exact this, hT.l1, hT.l2, by show adm'.length ≤ _; rw [HLEN.out]; exact hT.l3, hT.k1, hT.k2, by show adm'.length ≤ ca; rw [HLEN.out]; exact hca⟩)
        have HOK := Lib.hid (show OkBk m2 g2 from ⟨by rw [M1.out]; omega, by rw [M1.out]; omega, by rw [M2.out, HLEN.out]; exact H6.out, by rw [M2.out]; exact HADM.out, HLT.out, fun i hi => by
          rw [M1.out] at hi
          rw [M2.out, HLEN.out, HG2.out i (by omega)]
          exact OK.out.ok _ (by rw [HNN.out]; unfold skipN; split <;> omega)⟩)
        go_wp2_with (refine wpList_load_mid rfl 69 (.tmp 3) rfl w.heap.size 0 rfl (bkA m2 g2).toList _ HRNG.out bk_und rfl HSI.out ?_)
        refine (fits_any m2 g2 W10 HT.out HOK.out).mono ?_
        rintro e W11 ⟨rb, rfl, hb11, hiff⟩
        have HB11 := Lib.hid (B10.out.trans (hb11.mono B10.out.size))
        have HIFF := Lib.hid hiff
        clear hb11 hiff
        go_wp2_with fail
        go_ret
        refine ⟨rb, rfl, HB11.out, HIFF.out.trans ?_⟩
        rw [M1.out, M2.out, HNN.out, Int.toNat_natCast]
        exact gives_law HAD.out.1 HAD.out.2 HG2.out
  · have hpl' : m.t.admits.length ≤ p := by omega
    have hd : decide ((p : Int) < (m.t.admits.length : Int)) = false := decide_eq_false (by omega)
    have hdn : ¬ ((p : Int) < (m.t.admits.length : Int)) := by omega
    have HDG := Lib.hid (show m.t.admits.getD p (-1) = -1 by rw [List.getD_eq_getElem?_getD, List.getElem?_eq_none hpl']; rfl)
    go_upto_region 7 with fail
    obtain ⟨adm', hadm'⟩ : ∃ adm', adm' = m.t.admits := ⟨_, rfl⟩
    have HAD := Lib.hid (show adm' = decL m.t.admits p ∧ m.t.admits.getD p (-1) ≠ 0 from ⟨by rw [hadm']; unfold decL; rw [HDG.out, if_neg (by decide)], by rw [HDG.out]; decide⟩)
    have HLEN := Lib.hid (show adm'.length = m.t.admits.length by rw [hadm'])
    have HADM := Lib.hid (show ∀ x ∈ adm', -1 ≤ x ∧ x ≤ 16 from by rw [hadm']; exact OK.out.adm)
    have XT := X2
    have VT := V2
    have BT := B2
    rw [← hadm'] at VT
    obtain ⟨WT, hWT⟩ : ∃ WT, WT = W2 := ⟨_, rfl⟩
    subst hWT
    clear c3 hadm' hd hdn
    have hcl := can_list XT.out hn16
    have HWO := without_any w.heap.size 4 16 ((List.range n).map g) k WT (by simp; exact hkn) (by simp; exact hn16) (by decide) hcl
    rw [List.length_map, List.length_range] at HWO
    clear hcl
    go_wp2_with fail
    refine HWO.mono ?_
    rintro e W7 ⟨Ar, cr, he7, hat, hb7, hbl⟩
    have HBL := Lib.hid (show ∀ a, Ar = some a → a.block ≠ w.heap.size from fun a e => by have := hbl a e; have := XT.out.lt; omega)
    replace he7 : e = .returned (.slice Ar (restG g n k).length cr) := he7
    subst he7
    replace hat : At W7 W7.heap.size 1 ncell Ar (restG g n k) := hat
    have HAT := Lib.hid hat
    have X7 := Lib.hid (XT.out.next hb7)
    have V7 := Lib.hid (VT.out.next hb7)
    have B7 := Lib.hid (BT.out.trans (hb7.mono BT.out.size))
    have c0 := X7.out.c 0 (.int .i64 n) (by rw [← HN.out]; rfl)
    have f0 := X7.out.fr 0
    have hl7 := X7.out.lt
    have hga7 := V7.out.lt
    have hn1 : IntKind.i64.wrap ((n : Int) - 1) = ((n - 1 : Nat) : Int) := by rw [IntKind.wrap_i64]; omega
    clear hat hb7 HWO hbl
    go_upto_region 9 with fail
    try rw [hn1]
    try rw [show (n : Int) - 1 = ((n - 1 : Nat) : Int) by omega]
    obtain ⟨m2, hm2⟩ : ∃ m2 : Mt, m2 = ⟨⟨((n - 1 : Nat) : Int), m.t.loans, m.t.looks, adm'⟩, m.A1, m.c1, m.A2, m.c2, some ⟨ga, 0, none⟩, ca⟩ := ⟨_, rfl⟩
    have M1 := Lib.hid (show m2.t.n = ((n - 1 : Nat) : Int) by rw [hm2])
    have M2 := Lib.hid (show m2.t.admits = adm' by rw [hm2])
    have HM2 := Lib.hid hm2
    have X8 := Lib.hid (show Bx (W7.setCell ⟨w.heap.size, 0, none⟩ (.int .i64 ((n - 1 : Nat) : Int))) w.heap.size (bkA m2 g).toList from by
      have h := X7.out.set (k := 0) (by simp [bkA]) (.int .i64 ((n - 1 : Nat) : Int))
      have e : (bkA m2 g).toList = ((bkA { m with A3 := some ⟨ga, 0, none⟩, c3 := ca } g).toList.set 0 (.int .i64 ((n - 1 : Nat) : Int))) := by
        rw [hm2]; unfold bkA
        show _ = _
        dsimp only
        rw [HLEN.out]; rfl
      rw [e]; exact h)
    have V8 := Lib.hid (V7.out.other (b := w.heap.size) (by omega) 0 (.int .i64 ((n - 1 : Nat) : Int)))
    have B8 := Lib.hid (B7.out.setCell (p := ⟨w.heap.size, 0, none⟩) (Nat.le_refl _) (.int .i64 ((n - 1 : Nat) : Int)))
    have A8 := Lib.hid (show At (W7.setCell ⟨w.heap.size, 0, none⟩ (.int .i64 ((n - 1 : Nat) : Int))) W7.heap.size 1 ncell Ar (restG g n k) from HAT.out.off HBL.out 0 [.int .i64 ((n - 1 : Nat) : Int)])
    generalize W7.setCell ⟨w.heap.size, 0, none⟩ (.int .i64 ((n - 1 : Nat) : Int)) = W8 at *
    have HT8 := Lib.hid (show W8.there w.heap.size 4 (zrs 16).size from fun j hj => by
      have hj2 : 4 + j < (bkA m2 g).toList.length := by rw [zrs_size] at hj; simp [bkA]; omega
      exact ⟨by rw [X8.out.c _ _ (List.getElem?_eq_getElem hj2)]; rfl, X8.out.fr _⟩)
    have X9 := Lib.hid (show Bx (W8.setCells w.heap.size 4 (zrs 16).toList) w.heap.size (bkA m2 (overG g 0 (List.replicate 16 0))).toList from by
      have h := X8.out.over (l := List.replicate 16 0) (o := 0) (by decide)
      rw [← zrs_list] at h
      exact h)
    have V9 := Lib.hid (V8.out.wset (b := w.heap.size) (by omega) 4 (zrs 16).toList)
    have B9 := Lib.hid (setCells_below (Nat.le_refl _) B8.out 4 (zrs 16).toList)
    have A9 := Lib.hid (A8.out.off HBL.out 4 (zrs 16).toList)
    clear c0 f0 hl7 hga7 hn1 hm2
    go_upto_region 10 with (refine wpList_store_mid rfl 67 (.tmp 60) (.tmp 59) rfl w.heap.size 4 (zrs 16) rfl rfl HT8.out (by rw [zrs_size]; exact arr_size) zrs_one ?_)
    generalize W8.setCells w.heap.size 4 (zrs 16).toList = W9 at *
    have hsa := fun W => sliceAll w.heap.size 4 W
    have HRL := Lib.hid (restG_len g hkn)
    have X10 := Lib.hid (show Bx (W9.setCells w.heap.size 4 ((restG g n k).flatMap ncell)) w.heap.size (bkA m2 (overG (overG g 0 (List.replicate 16 0)) 0 (restG g n k))).toList from X9.out.over (l := restG g n k) (o := 0) (by rw [HRL.out]; omega))
    have V10 := Lib.hid (V9.out.wset (b := w.heap.size) (by have := HGA.out; omega) 4 ((restG g n k).flatMap ncell))
    have B10 := Lib.hid (setCells_below (Nat.le_refl _) B9.out 4 ((restG g n k).flatMap ncell))
    have HCC := Lib.hid (show ∀ j, j < (restG g n k).length → (W9.cell? ⟨w.heap.size, 4 + j, none⟩).isSome = true from fun j hj => by
      have hj2 : 4 + j < (bkA m2 (overG g 0 (List.replicate 16 0))).toList.length := by rw [HRL.out] at hj; simp [bkA]; omega
      rw [X9.out.c _ _ (List.getElem?_eq_getElem hj2)]; rfl)
    go_upto_region 11 with (refine wpList_copy_at rfl (.tmp 62) (.tmp 63) 24 24 rfl 3 Tryd.underlying24 int_size w.heap.size 4 16 16 Ar (restG g n k) cr _ A9.out rfl rfl (by rw [HRL.out]; omega) HCC.out (fun j _ => X9.out.fr _) ?_)
    clear hsa
    generalize W9.setCells w.heap.size 4 ((restG g n k).flatMap ncell) = W10 at *
    obtain ⟨g2, hg2⟩ : ∃ g2, g2 = overG (overG g 0 (List.replicate 16 0)) 0 (restG g n k) := ⟨_, rfl⟩
    have HG2 := Lib.hid (show ∀ i, i < n - 1 → g2 i = g (skipN k i) from fun i hi => by
      rw [hg2]; unfold overG
      rw [if_pos (by rw [HRL.out]; omega), Nat.sub_zero]; exact restG_at g hkn hi)
    have HLT := Lib.hid (show ∀ i, g2 i < 256 from fun i => by
      by_cases hi : i < n - 1
      · rw [HG2.out i hi]; exact OK.out.lt _
      · rw [hg2]; unfold overG
        rw [if_neg (by rw [HRL.out]; omega)]
        split
        · rw [Nat.sub_zero, List.getD_eq_getElem?_getD, List.getElem?_replicate]; split <;> decide
        · exact OK.out.lt _)
    rw [← hg2] at X10
    have HRNG := Lib.hid X10.out.range
    have HSI := Lib.hid (show (Tryd.prog.info? 69).map (·.size) = some (bkA m2 g2).toList.length from bk_size)
    clear hg2
    have HT := Lib.hid (show TaleAt W10 W10.heap.size m2 from by
      have hT := (HR0.out.below B10.out).more B10.out.size
      rw [HM2.out]
      exact ⟨hT.lo, hT.lk, by have := At.vblk (l := adm') (by first | exact V10.out | (rw [HLEN.out]; exact V10.out)); exact this, hT.l1, hT.l2, by show adm'.length ≤ _; rw [HLEN.out]; exact hT.l3, hT.k1, hT.k2, by show adm'.length ≤ ca; rw [HLEN.out]; exact hca⟩)
    have HOK := Lib.hid (show OkBk m2 g2 from ⟨by rw [M1.out]; omega, by rw [M1.out]; omega, by rw [M2.out, HLEN.out]; exact H6.out, by rw [M2.out]; exact HADM.out, HLT.out, fun i hi => by
      rw [M1.out] at hi
      rw [M2.out, HLEN.out, HG2.out i (by omega)]
      exact OK.out.ok _ (by rw [HNN.out]; unfold skipN; split <;> omega)⟩)
    go_wp2_with (refine wpList_load_mid rfl 69 (.tmp 3) rfl w.heap.size 0 rfl (bkA m2 g2).toList _ HRNG.out bk_und rfl HSI.out ?_)
    refine (fits_any m2 g2 W10 HT.out HOK.out).mono ?_
    rintro e W11 ⟨rb, rfl, hb11, hiff⟩
    have HB11 := Lib.hid (B10.out.trans (hb11.mono B10.out.size))
    have HIFF := Lib.hid hiff
    clear hb11 hiff
    go_wp2_with fail
    go_ret
    refine ⟨rb, rfl, HB11.out, HIFF.out.trans ?_⟩
    rw [M1.out, M2.out, HNN.out, Int.toNat_natCast]
    exact gives_law HAD.out.1 HAD.out.2 HG2.out
end Go.Proofs.YtkcfpnpejaekjaaDoor
