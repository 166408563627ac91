import Derived.Test.YtbhkglokdomajaaDoorP15
import Derived.Lib.LazyBuf
namespace Go.Proofs.YtbhkglokdomajaaDoor
open Go.RowKit
open Go.Maps (Keyed)
/-! The program: Plan. -/
def RetL (l : List Int) (w : World) (e : Ending) (w' : World) : Prop := ∃ A c, e = .returned (.slice A l.length c) ∧ At w' w'.heap.size 1 icell A l ∧ Below w.heap.size w w'
theorem flat_icell (l : List Int) : l.flatMap icell = l.map fun x => Value.int .i64 x := by
  induction l with
  | nil => rfl
  | cons x l ih => rw [List.flatMap_cons, ih]; rfl
set_option maxRecDepth 100000 in
set_option maxHeartbeats 400000 in
theorem clone_any (b off c : Nat) (l : List Int) (w : World) (hl : l.length ≤ 1000) (h : At w w.heap.size 1 icell (some ⟨b, off, none⟩) l) : Calls Tryd.prog 55 #[.slice (some ⟨b, off, none⟩) l.length c] w (RetL l w) := by
  obtain ⟨i0, hi, hz0, hz1, hz2⟩ := info_parts int_sinfo
  have hnil := fun W => Lib.run_eql_slice_nil (P := Tryd.prog) W 34 3 (some ⟨b, off, none⟩) l.length c 0 0 Tryd.underlying34
  have hown := World.ownsRow_lit (base := w.heap.size) (e := 3) (size := 1) w #[] 0 (Nat.le_refl _) (by decide) rfl
  have hnews : ∀ j u, (l.flatMap icell)[j]? = some u → (w.alloc (.cells #[] 3)).cell? ((⟨b, off, none⟩ : Addr).add j) = some u := by
    intro j u hu
    rw [flat_icell] at hu
    have hj : j < l.length := by have := (List.getElem?_eq_some_iff.1 hu).1; simpa using this
    obtain ⟨b', off', e, hb, hc⟩ := int_at h hj
    injection e with e
    injection e with e1 e2
    subst e1 e2
    rw [show ((⟨b, off, none⟩ : Addr).add j) = ⟨b, off + j, none⟩ by unfold Addr.add; split <;> simp_all, World.cell?_alloc_lt _ _ _ hb, hc]
    rw [List.getElem?_map, List.getElem?_eq_getElem hj] at hu
    rw [List.getD_eq_getElem?_getD, List.getElem?_eq_getElem hj]
    exact hu
  have hlen : (l.flatMap icell).length = l.length * 1 := by rw [flat_icell]; simp
  have hone : ∀ u ∈ l.flatMap icell, u.oneCell' = true := by rw [flat_icell]; simp [Value.oneCell']
  clear h
  go_enter Tryd.func55, Tryd.ntmps55
  go_wp2_with (at_builtin; refine wpList_append_own _ rfl (.tmp 5) (.tmp 6) 34 rfl w.heap.size 3 i0 (.int .i64 0) 1 8 Tryd.underlying34 hi hz0 hz1 hz2 rfl (by decide) _ 0 [] rfl hown ⟨b, off, none⟩ l.length c (l.flatMap icell) rfl hlen hnews hone (by unfold maxLen; omega) (by omega) (by simp) ?_; intro v' w' hown' hgrow _)
  have hown2 : w'.ownsRow w.heap.size 3 1 v' l.length (l.flatMap icell) := by simpa using hown'
  have hbb : Below w.heap.size w w' := ((Below.refl _ _).alloc (Nat.le_refl _) _).grown hgrow (by simp) (fun k hk => by have := hown.lt k hk; omega)
  clear hown hown' hgrow hnews hnil hlen hone
  go_wp2
  go_ret
  obtain ⟨A', c', rfl, ha⟩ := own_at (size := 1) (fun _ => rfl) (by omega) hown2
  exact ⟨A', c', rfl, ha, hbb⟩
/-- What Plan hands back. -/
def RetPl (p : List Nat × Int × Int) (w : World) (e : Ending) (w' : World) : Prop := ∃ A c, e = .returned (.tuple #[.slice A p.1.length c, .int .i64 p.2.1, .int .i64 p.2.2]) ∧ At w' w'.heap.size 1 icell A (p.1.map Int.ofNat) ∧ Below w.heap.size w w'
theorem retPl_nil {x y : Int} {w w' : World} (hb : Below w.heap.size w w') : RetPl ([], x, y) w (.returned (.tuple #[.slice none 0 0, .int .i64 x, .int .i64 y])) w' := ⟨none, 0, rfl, At.nil, hb⟩
set_option maxRecDepth 100000 in
set_option maxHeartbeats 1000000 in
theorem Plan_any (d : Die) (A : Option Addr) (c : Nat) (l : List Stint) (w : World) (hd : DieAt w w.heap.size d) (hr : At w w.heap.size 2 Stint.cells A l) (hl : l.length ≤ 9223372036854775807) (he : Env w) :
    Calls Tryd.prog 25 #[.agg #[.slice d.A d.blades.length d.c, .int .i64 d.bound, .int .i64 d.stop, .int .i64 d.bend], .slice A l.length c] w (RetPl (planS d l) w) := by
  have HF := Lib.hid (show planS d l = ite (α := List Nat × Int × Int) (checkS d l ≠ 0) ([], 0, checkS d l) (match bestD d l with
    | none => ([], 0, 4)
    | some (p, c) => (p.tail, c, 0)) from rfl)
  have HM := Lib.hid (show mountR d A c l = if checkS d l = 0 then mountV d A l.length c else .agg #[.slice none 0 0, .int .i64 0, .int .i64 0, .int .i64 0, .slice none 0 0] from rfl)
  have hb0 := (nxA w (.cells #[.slice d.A d.blades.length d.c, .int .i64 d.bound, .int .i64 d.stop, .int .i64 d.bend] 24)).trans ((nxA (w.alloc (.cells #[.slice d.A d.blades.length d.c, .int .i64 d.bound, .int .i64 d.stop, .int .i64 d.bend] 24)) (.cells #[.slice A l.length c] 33)).mono (by simp))
  have B0 := Lib.hid hb0
  have HR := Lib.hid (hr.next hb0)
  have HD := Lib.hid (hd.next hb0)
  have HRw := Lib.hid hr
  have HDw := Lib.hid hd
  have HEw := Lib.hid he
  have X0 := Lib.hid ((Bx.new w #[.slice d.A d.blades.length d.c, .int .i64 d.bound, .int .i64 d.stop, .int .i64 d.bend] 24).next (nxA _ (.cells #[.slice A l.length c] 33)))
  have L0 := Lib.hid (show Bx ((w.alloc (.cells #[.slice d.A d.blades.length d.c, .int .i64 d.bound, .int .i64 d.stop, .int .i64 d.bend] 24)).alloc (.cells #[.slice A l.length c] 33)) (w.heap.size + 1) [.slice A l.length c] from by
    have := Bx.new (w.alloc (.cells #[.slice d.A d.blades.length d.c, .int .i64 d.bound, .int .i64 d.stop, .int .i64 d.bend] 24)) #[.slice A l.length c] 33
    rw [World.size_alloc] at this
    exact this)
  have HL := Lib.hid hl
  have hw1 := he.lt
  clear hd hr he hb0 hl
  go_enter Tryd.func25, Tryd.ntmps25
  go_wp2_with fail
  generalize ((w.alloc (.cells #[.slice d.A d.blades.length d.c, .int .i64 d.bound, .int .i64 d.stop, .int .i64 d.bend] 24)).alloc (.cells #[.slice A l.length c] 33)) = V at *
  have c0 := X0.out.c 0 _ rfl
  have c1 := X0.out.c 1 _ rfl
  have c2 := X0.out.c 2 _ rfl
  have c3' := X0.out.c 3 _ rfl
  have l0 := L0.out.c 0 _ rfl
  go_wp2_with fail
  refine (mount_any d A c l V HD.out HR.out HL.out).mono ?_
  rintro e V1 ⟨rfl, hb⟩
  have B1 := Lib.hid (B0.out.trans (hb.mono B0.out.size))
  have L1 := Lib.hid (L0.out.next hb)
  have hl1 := (L0.out.next hb).lt
  clear hb B0 HR X0 HD L0 c0 c1 c2 c3' l0
  by_cases hch : checkS d l = 0
  · rw [if_pos hch] at HM
    rw [HM.out, hch]
    rw [if_neg (show ¬ checkS d l ≠ 0 from fun h => h hch)] at HF
    have hdl := check_zero.1 hch
    have OK := Lib.hid ((okd_iff d).1 hdl.1)
    have OKL := Lib.hid ((okl_iff l).1 hdl.2)
    have hll := OKL.out.nl
    have hwV := B1.out.size
    clear hch hdl
    unfold mountV
    have hmk : ∀ W : World, (Instr.makeMap 96 none).run Tryd.prog W = .ok (.map (some W.heap.size)) (W.alloc (.map #[] 0)) := fun W => by kernel_rfl
    have a1 := nxA V1 (.cells #[.slice d.A d.blades.length d.c, .int .i64 d.bound, .int .i64 d.stop, .int .i64 d.bend, .slice A l.length c] 84)
    have a2 := nxA (V1.alloc (.cells #[.slice d.A d.blades.length d.c, .int .i64 d.bound, .int .i64 d.stop, .int .i64 d.bend, .slice A l.length c] 84)) (.map #[] 0)
    have a3 := nxA ((V1.alloc (.cells #[.slice d.A d.blades.length d.c, .int .i64 d.bound, .int .i64 d.stop, .int .i64 d.bend, .slice A l.length c] 84)).alloc (.map #[] 0)) (.cells #[.map (some (V1.heap.size + 1))] 96)
    have a4 := nxA (((V1.alloc (.cells #[.slice d.A d.blades.length d.c, .int .i64 d.bound, .int .i64 d.stop, .int .i64 d.bend, .slice A l.length c] 84)).alloc (.map #[] 0)).alloc (.cells #[.map (some (V1.heap.size + 1))] 96)) (.cells #[.func (.func 54) #[] #[.pointer (some ⟨w.heap.size + 1, 0, none⟩), .pointer (some ⟨V1.heap.size + 1 + 1, 0, none⟩), .pointer (some ⟨V1.heap.size, 0, none⟩), .pointer (some ⟨V1.heap.size + 1 + 1 + 1, 0, none⟩)]] 97)
    have hmp : ((V1.alloc (.cells #[.slice d.A d.blades.length d.c, .int .i64 d.bound, .int .i64 d.stop, .int .i64 d.bend, .slice A l.length c] 84)).alloc (.map #[] 0)).heap[V1.heap.size + 1]? = some (.map #[] 0) := by
      have := heap_alloc_new (V1.alloc (.cells #[.slice d.A d.blades.length d.c, .int .i64 d.bound, .int .i64 d.stop, .int .i64 d.bend, .slice A l.length c] 84)) (.map #[] 0)
      rw [World.size_alloc] at this
      exact this
    have hmp4 := (a4.block (V1.heap.size + 1) (by simp)).trans ((a3.block (V1.heap.size + 1) (by simp)).trans hmp)
    have aB : Below V1.heap.size V1 ((((V1.alloc (.cells #[.slice d.A d.blades.length d.c, .int .i64 d.bound, .int .i64 d.stop, .int .i64 d.bend, .slice A l.length c] 84)).alloc (.map #[] 0)).alloc (.cells #[.map (some (V1.heap.size + 1))] 96)).alloc (.cells #[.func (.func 54) #[] #[.pointer (some ⟨w.heap.size + 1, 0, none⟩), .pointer (some ⟨V1.heap.size + 1 + 1, 0, none⟩), .pointer (some ⟨V1.heap.size, 0, none⟩), .pointer (some ⟨V1.heap.size + 1 + 1 + 1, 0, none⟩)]] 97)) := a1.trans ((a2.mono (by simp only [World.size_alloc]; omega)).trans ((a3.mono (by simp only [World.size_alloc]; omega)).trans (a4.mono (by simp only [World.size_alloc]; omega))))
    have bM := (((Bx.new V1 #[.slice d.A d.blades.length d.c, .int .i64 d.bound, .int .i64 d.stop, .int .i64 d.bend, .slice A l.length c] 84).next a2).next a3).next a4
    have bK := (Bx.new ((V1.alloc (.cells #[.slice d.A d.blades.length d.c, .int .i64 d.bound, .int .i64 d.stop, .int .i64 d.bend, .slice A l.length c] 84)).alloc (.map #[] 0)) #[.map (some (V1.heap.size + 1))] 96).next a4
    have bF := Bx.new (((V1.alloc (.cells #[.slice d.A d.blades.length d.c, .int .i64 d.bound, .int .i64 d.stop, .int .i64 d.bend, .slice A l.length c] 84)).alloc (.map #[] 0)).alloc (.cells #[.map (some (V1.heap.size + 1))] 96)) #[.func (.func 54) #[] #[.pointer (some ⟨w.heap.size + 1, 0, none⟩), .pointer (some ⟨V1.heap.size + 1 + 1, 0, none⟩), .pointer (some ⟨V1.heap.size, 0, none⟩), .pointer (some ⟨V1.heap.size + 1 + 1 + 1, 0, none⟩)]] 97
    simp only [World.size_alloc] at bK bF
    have hzU : ((((V1.alloc (.cells #[.slice d.A d.blades.length d.c, .int .i64 d.bound, .int .i64 d.stop, .int .i64 d.bend, .slice A l.length c] 84)).alloc (.map #[] 0)).alloc (.cells #[.map (some (V1.heap.size + 1))] 96)).alloc (.cells #[.func (.func 54) #[] #[.pointer (some ⟨w.heap.size + 1, 0, none⟩), .pointer (some ⟨V1.heap.size + 1 + 1, 0, none⟩), .pointer (some ⟨V1.heap.size, 0, none⟩), .pointer (some ⟨V1.heap.size + 1 + 1 + 1, 0, none⟩)]] 97)).heap.size = V1.heap.size + 4 := by simp
    have hBw := B1.out.trans (aB.mono B1.out.size)
    have OW := Lib.hid (show OnW d l A c V1.heap.size (w.heap.size + 1) (V1.heap.size + 1) (V1.heap.size + 1 + 1) V1.heap.size (V1.heap.size + 1 + 1 + 1) ((((V1.alloc (.cells #[.slice d.A d.blades.length d.c, .int .i64 d.bound, .int .i64 d.stop, .int .i64 d.bend, .slice A l.length c] 84)).alloc (.map #[] 0)).alloc (.cells #[.map (some (V1.heap.size + 1))] 96)).alloc (.cells #[.func (.func 54) #[] #[.pointer (some ⟨w.heap.size + 1, 0, none⟩), .pointer (some ⟨V1.heap.size + 1 + 1, 0, none⟩), .pointer (some ⟨V1.heap.size, 0, none⟩), .pointer (some ⟨V1.heap.size + 1 + 1 + 1, 0, none⟩)]] 97)) from
      ⟨L1.out.next aB, bK, bM, bF, ⟨#[], 0, hmp4, by simp⟩, (HDw.out.below hBw).more B1.out.size, (HRw.out.below hBw).more B1.out.size, HEw.out.next hBw, by omega, by omega, by omega, by omega, by omega, by omega⟩)
    have BU := Lib.hid hBw
    clear a1 a2 a3 a4 hmp hmp4 aB bM bK bF L1 B1 HM
    go_wp2_with fail
    generalize ((((V1.alloc (.cells #[.slice d.A d.blades.length d.c, .int .i64 d.bound, .int .i64 d.stop, .int .i64 d.bend, .slice A l.length c] 84)).alloc (.map #[] 0)).alloc (.cells #[.map (some (V1.heap.size + 1))] 96)).alloc (.cells #[.func (.func 54) #[] #[.pointer (some ⟨w.heap.size + 1, 0, none⟩), .pointer (some ⟨V1.heap.size + 1 + 1, 0, none⟩), .pointer (some ⟨V1.heap.size, 0, none⟩), .pointer (some ⟨V1.heap.size + 1 + 1 + 1, 0, none⟩)]] 97)) = U at *
    refine (on_any d l A c V1.heap.size (w.heap.size + 1) (V1.heap.size + 1) (V1.heap.size + 1 + 1) V1.heap.size (V1.heap.size + 1 + 1 + 1) OK.out OKL.out l.length 0 (fun _ => 0) U (by omega) (fun _ => by simp) (fun _ _ => rfl) OW.out).mono ?_
    rintro e W4 ⟨v, rfl, ⟨A2, n2, cc2, cs2, is2, rfl, hC2⟩, hW4, hG4⟩
    rw [show bestAt d l 0 (fun _ => 0) = bestD d l from rfl] at hC2
    have HBB := Lib.hid (fun x h => best_bd OK.out (l := l) (j := 0) (r := fun _ => 0) (x := x) h)
    have HBF := Lib.hid (fun x h => best_form (d := d) (l := l) (x := x) h)
    rw [show bestAt d l 0 (fun _ => 0) = bestD d l from rfl] at HBB
    unfold restV
    have hA := nxA W4 (.cells #[.slice A2 n2 cc2, .int .i64 cs2, .bool is2] 101)
    have D5 := Lib.hid (Bx.new W4 #[.slice A2 n2 cc2, .int .i64 cs2, .bool is2] 101)
    have L5 := Lib.hid (hW4.bl_.next hA)
    have C5 := Lib.hid (hC2.imp (grow_plan (only_of_below hA (some (V1.heap.size + 1)))))
    have B5 := Lib.hid ((BU.out.grown hG4 BU.out.size (fun k hk => by injection hk with hk; omega)).trans (hA.mono (by have := BU.out.size; have := hG4.size; omega)))
    have hs4 : U.heap.size ≤ W4.heap.size := hG4.size
    have l0 := hW4.bl_.c 0 _ rfl
    have hl4 : w.heap.size + 1 < W4.heap.size := by omega
    clear hA hC2 hW4 hG4 OW BU HRw HDw HEw
    generalize bestD d l = o at *
    cases o with
    | none =>
      obtain ⟨rfl, rfl, rfl, rfl, rfl⟩ := C5.out
      have E1 := Lib.hid (show planS d l = ([], 0, 4) from HF.out)
      go_wp2_with fail
      go_ret3
      rw [E1.out]
      exact retPl_nil B5.out
    | some x =>
      obtain ⟨p, cx⟩ := x
      obtain ⟨hP, hcx, hisx⟩ := C5.out
      subst hisx hcx
      dsimp only at hP
      have E1 := Lib.hid (show planS d l = (p.tail, cs2, 0) from HF.out)
      have hpl : p.length = l.length := by
        have h := (HBB.out _ rfl).2.2
        dsimp only at h
        omega
      by_cases hl0 : l.length = 0
      · have hp0 : p = [] ∧ cs2 = 0 := by
          rcases HBF.out _ rfl with ⟨-, h⟩ | ⟨h, -⟩
          · injection h with h1 h2; exact ⟨h1, h2⟩
          · exact absurd (List.eq_nil_of_length_eq_zero hl0) h
        obtain ⟨rfl, rfl⟩ := hp0
        have dz : ((l.length : Int) == 0) = true := by simp [hl0]
        clear hl0
        go_wp2_with fail
        go_ret3
        rw [E1.out]
        exact retPl_nil B5.out
      · have dz : ¬ l = [] := by rintro rfl; exact hl0 rfl
        obtain ⟨hnl, hle, b, rfl, hbk, hcells⟩ : p ≠ [] ∧ n2 ≤ cc2 ∧ ∃ b, A2 = some ⟨b, 0, none⟩ ∧ V1.heap.size + 1 < b ∧ ∀ k, k < p.length → (W4.alloc (.cells #[.slice A2 n2 cc2, .int .i64 cs2, .bool true] 101)).cell? ⟨b, k, none⟩ = some (.int .i64 ((p.getD k 0 : Nat) : Int)) := by
          rcases hP.2 with ⟨h, -⟩ | h
          · exact absurd (by rw [← hpl, h]; rfl) hl0
          · exact h
        have hn2 := hP.1
        subst hn2
        have hp7 : p.length ≤ 7 := by omega
        clear hP C5 hpl
        go_wp2_with fail
        generalize W4.alloc (.cells #[.slice (some ⟨b, 0, none⟩) p.length cc2, .int .i64 cs2, .bool true] 101) = V5 at *
        generalize W4.heap.size = b10 at *
        have hpp : 1 ≤ p.length := List.length_pos_iff.2 hnl
        have hlt : (p.tail.map Int.ofNat).length = p.length - 1 := by simp
        have HP2 := Lib.hid (show (p.tail.map Int.ofNat).length = p.tail.length from List.length_map _)
        have H12 := Lib.hid (show ∀ W' : World, Below V5.heap.size V5 W' → (W'.cell? ⟨b10, 0, none⟩ = some (.slice (some ⟨b, 0, none⟩) p.length cc2) ∧ W'.cell? ⟨b10, 1, none⟩ = some (.int .i64 cs2)) from fun W' h => ⟨(D5.out.next h).c 0 _ rfl, (D5.out.next h).c 1 _ rfl⟩)
        have hc : Below V5.heap.size V5 V5.drew := (Below.refl _ _).drew
        have hb5 : b < V5.heap.size := cell_lt (hcells 0 hpp)
        have HCE := Lib.hid hcells
        have hp1 : (1 : Int) ≤ p.length := by omega
        by_cases hcc : cc2 = 1
        · have hpl1 : p.length = 1 := by omega
          have htl : p.tail.map Int.ofNat = [] := List.eq_nil_of_length_eq_zero (by omega)
          have HCL := Lib.hid (fun (W' : World) (h : Below V5.heap.size V5 W') => clone_any b 0 0 [] W' (by decide) At.nil)
          subst hcc
          rw [hpl1] at H12
          clear hcells hle hlt hpp hp1 dz
          refine wp_region_noPanic ?_
          refine wp_region_held_drew (S := (fun W' => W'.cell? ⟨b10, 0, none⟩ = some (.slice (some ⟨b, 0, none⟩) 1 1) ∧ W'.cell? ⟨b10, 1, none⟩ = some (.int .i64 cs2))) (by kernel_rfl) ?_ (fun hHeld => ?_)
          · (try dsimp only); exact H12.out _ hc
          refine htake (i := 0) (v := ?v1) rfl (by kernel_rfl) (by kernel_rfl) (by kernel_rfl) (fun _ _ _ h => h) (Or.inl ⟨by rfl, ?hy1⟩) (by assumption) ?_
          case hy1 => (intro w hSw; (try dsimp only at hSw); go_simp; try (with_reducible rfl))
          try simp only [Act.put, List.setIfInBounds_toArray, List.set_cons_zero, List.set_cons_succ]
          refine htake (i := 1) (v := ?v2) rfl (by kernel_rfl) (by kernel_rfl) (by kernel_rfl) (fun _ _ _ h => h) (Or.inl ⟨by rfl, ?hy2⟩) (by assumption) ?_
          case hy2 => (intro w hSw; (try dsimp only at hSw); go_simp; try (with_reducible rfl))
          try simp only [Act.put, List.setIfInBounds_toArray, List.set_cons_zero, List.set_cons_succ]
          refine htake (i := 2) (v := ?v3) rfl (by kernel_rfl) (by kernel_rfl) (by kernel_rfl) (fun _ _ _ h => h) (Or.inl ⟨by rfl, ?hy3⟩) (by assumption) ?_
          case hy3 => (intro w hSw; (try dsimp only at hSw); go_simp; try (with_reducible rfl))
          try simp only [Act.put, List.setIfInBounds_toArray, List.set_cons_zero, List.set_cons_succ]
          refine htake (i := 4) (v := ?v4) rfl (by kernel_rfl) (by kernel_rfl) (by kernel_rfl) (fun _ _ _ h => h) (Or.inl ⟨by rfl, ?hy4⟩) (by assumption) ?_
          case hy4 => (intro w hSw; (try dsimp only at hSw); go_simp; try (with_reducible rfl))
          try simp only [Act.put, List.setIfInBounds_toArray, List.set_cons_zero, List.set_cons_succ]
          refine htake (i := 5) (v := ?v5) rfl (by kernel_rfl) (by kernel_rfl) (by kernel_rfl) (fun _ _ _ h => h) (Or.inl ⟨by rfl, ?hy5⟩) (by assumption) ?_
          case hy5 => (intro w hSw; (try dsimp only at hSw); go_simp; try (with_reducible rfl))
          try simp only [Act.put, List.setIfInBounds_toArray, List.set_cons_zero, List.set_cons_succ]
          refine wpAnyH_ready (rs := [3]) (by kernel_rfl) (by simp) ?_
          refine hcons rfl (fun K hK => ?_) (AllReadyH.nil)
          go_simp
          (refine (HCL.out _ hc).mono ?_); rintro e w4 ⟨A9, c9, rfl, hat, hb4⟩; replace hc := hc.trans (hb4.mono hc.size); clear hb4; have Hat := Lib.hid hat; clear hat
          refine hK.out _ _ ?_ (fun hHeld => ?_)
          · (try dsimp only); exact H12.out _ hc
          clear hK K
          try simp only [Act.put, List.setIfInBounds_toArray, List.set_cons_zero, List.set_cons_succ]
          refine htake (i := 6) (v := ?v6) rfl (by kernel_rfl) (by kernel_rfl) (by kernel_rfl) (fun _ _ _ h => h) (Or.inl ⟨by rfl, ?hy6⟩) (by assumption) ?_
          case hy6 => (intro w hSw; (try dsimp only at hSw); go_simp; try (with_reducible rfl))
          try simp only [Act.put, List.setIfInBounds_toArray, List.set_cons_zero, List.set_cons_succ]
          refine htake (i := 7) (v := ?v7) rfl (by kernel_rfl) (by kernel_rfl) (by kernel_rfl) (fun _ _ _ h => h) (Or.inl ⟨by rfl, ?hy7⟩) (by assumption) ?_
          case hy7 => (intro w hSw; (try dsimp only at hSw); go_simp; try (with_reducible rfl))
          try simp only [Act.put, List.setIfInBounds_toArray, List.set_cons_zero, List.set_cons_succ]
          refine htake (i := 8) (v := ?v8) rfl (by kernel_rfl) (by kernel_rfl) (by kernel_rfl) (fun _ _ _ h => h) (Or.inl ⟨by rfl, ?hy8⟩) (by assumption) ?_
          case hy8 => (intro w hSw; (try dsimp only at hSw); go_simp; try (with_reducible rfl))
          try simp only [Act.put, List.setIfInBounds_toArray, List.set_cons_zero, List.set_cons_succ]
          refine wpAnyH_done (by kernel_rfl) ?_ _
          refine NoPanic.normal ?_
          iterate 10 (try clear hHeld)
          all_goals
            go_wp2_with fail
            go_ret3
            rw [E1.out]
            refine ⟨A9, c9, ?_, ?_, B5.out.trans (hc.mono B5.out.size)⟩
            · show Ending.returned _ = Ending.returned (.tuple #[.slice A9 p.tail.length c9, .int .i64 cs2, .int .i64 0])
              rw [← HP2.out, htl]; rfl
            · show At _ _ 1 icell A9 (p.tail.map Int.ofNat)
              rw [htl]
              exact Hat.out
        · have HCL := Lib.hid (fun (W' : World) (h : Below V5.heap.size V5 W') => (show Calls Tryd.prog 55 #[.slice (some ⟨b, 1, none⟩) (p.length - 1) (cc2 - 1)] W' (RetL (p.tail.map Int.ofNat) W') from by
            have hat : At W' W'.heap.size 1 icell (some ⟨b, 1, none⟩) (p.tail.map Int.ofNat) := by
              intro k x hx
              have hk : k < (p.tail.map Int.ofNat).length := (List.getElem?_eq_some_iff.1 hx).1
              refine ⟨b, 1, rfl, Nat.lt_of_lt_of_le hb5 h.size, fun i u hu => ?_⟩
              have := ((bcell h).1 b (k + 1) hb5).trans (HCE.out (k + 1) (by omega))
              have hx2 : x = ((p.getD (k + 1) 0 : Nat) : Int) := by
                rw [List.getElem?_map, List.getElem?_tail] at hx
                rw [List.getD_eq_getElem?_getD]
                cases h' : p[k + 1]? with
                | none => rw [h'] at hx; cases hx
                | some z => rw [h'] at hx; injection hx with hx; rw [← hx]; rfl
              subst hx2
              match i, hu with
              | 0, hu => cases hu; rw [show 1 + k * 1 + 0 = k + 1 by omega]; exact this
            have := clone_any b 1 (cc2 - 1) (p.tail.map Int.ofNat) W' (by omega) hat
            rwa [hlt] at this))
          clear hcells
          refine wp_region_noPanic ?_
          refine wp_region_held_drew (S := (fun W' => W'.cell? ⟨b10, 0, none⟩ = some (.slice (some ⟨b, 0, none⟩) p.length cc2) ∧ W'.cell? ⟨b10, 1, none⟩ = some (.int .i64 cs2))) (by kernel_rfl) ?_ (fun hHeld => ?_)
          · (try dsimp only); exact H12.out _ hc
          refine htake (i := 0) (v := ?v9) rfl (by kernel_rfl) (by kernel_rfl) (by kernel_rfl) (fun _ _ _ h => h) (Or.inl ⟨by rfl, ?hy9⟩) (by assumption) ?_
          case hy9 => (intro w hSw; (try dsimp only at hSw); go_simp; try (with_reducible rfl))
          try simp only [Act.put, List.setIfInBounds_toArray, List.set_cons_zero, List.set_cons_succ]
          refine htake (i := 1) (v := ?v10) rfl (by kernel_rfl) (by kernel_rfl) (by kernel_rfl) (fun _ _ _ h => h) (Or.inl ⟨by rfl, ?hy10⟩) (by assumption) ?_
          case hy10 => (intro w hSw; (try dsimp only at hSw); go_simp; try (with_reducible rfl))
          try simp only [Act.put, List.setIfInBounds_toArray, List.set_cons_zero, List.set_cons_succ]
          refine htake (i := 2) (v := ?v11) rfl (by kernel_rfl) (by kernel_rfl) (by kernel_rfl) (fun _ _ _ h => h) (Or.inl ⟨by rfl, ?hy11⟩) (by assumption) ?_
          case hy11 => (intro w hSw; (try dsimp only at hSw); go_simp; try (with_reducible rfl))
          try simp only [Act.put, List.setIfInBounds_toArray, List.set_cons_zero, List.set_cons_succ]
          refine htake (i := 4) (v := ?v12) rfl (by kernel_rfl) (by kernel_rfl) (by kernel_rfl) (fun _ _ _ h => h) (Or.inl ⟨by rfl, ?hy12⟩) (by assumption) ?_
          case hy12 => (intro w hSw; (try dsimp only at hSw); go_simp; try (with_reducible rfl))
          try simp only [Act.put, List.setIfInBounds_toArray, List.set_cons_zero, List.set_cons_succ]
          refine htake (i := 5) (v := ?v13) rfl (by kernel_rfl) (by kernel_rfl) (by kernel_rfl) (fun _ _ _ h => h) (Or.inl ⟨by rfl, ?hy13⟩) (by assumption) ?_
          case hy13 => (intro w hSw; (try dsimp only at hSw); go_simp; try (with_reducible rfl))
          try simp only [Act.put, List.setIfInBounds_toArray, List.set_cons_zero, List.set_cons_succ]
          refine wpAnyH_ready (rs := [3]) (by kernel_rfl) (by simp) ?_
          refine hcons rfl (fun K hK => ?_) (AllReadyH.nil)
          go_simp
          (refine (HCL.out _ hc).mono ?_); rintro e w4 ⟨A9, c9, rfl, hat, hb4⟩; replace hc := hc.trans (hb4.mono hc.size); clear hb4; have Hat := Lib.hid hat; clear hat
          refine hK.out _ _ ?_ (fun hHeld => ?_)
          · (try dsimp only); exact H12.out _ hc
          clear hK K
          try simp only [Act.put, List.setIfInBounds_toArray, List.set_cons_zero, List.set_cons_succ]
          refine htake (i := 6) (v := ?v14) rfl (by kernel_rfl) (by kernel_rfl) (by kernel_rfl) (fun _ _ _ h => h) (Or.inl ⟨by rfl, ?hy14⟩) (by assumption) ?_
          case hy14 => (intro w hSw; (try dsimp only at hSw); go_simp; try (with_reducible rfl))
          try simp only [Act.put, List.setIfInBounds_toArray, List.set_cons_zero, List.set_cons_succ]
          refine htake (i := 7) (v := ?v15) rfl (by kernel_rfl) (by kernel_rfl) (by kernel_rfl) (fun _ _ _ h => h) (Or.inl ⟨by rfl, ?hy15⟩) (by assumption) ?_
          case hy15 => (intro w hSw; (try dsimp only at hSw); go_simp; try (with_reducible rfl))
          try simp only [Act.put, List.setIfInBounds_toArray, List.set_cons_zero, List.set_cons_succ]
          refine htake (i := 8) (v := ?v16) rfl (by kernel_rfl) (by kernel_rfl) (by kernel_rfl) (fun _ _ _ h => h) (Or.inl ⟨by rfl, ?hy16⟩) (by assumption) ?_
          case hy16 => (intro w hSw; (try dsimp only at hSw); go_simp; try (with_reducible rfl))
          try simp only [Act.put, List.setIfInBounds_toArray, List.set_cons_zero, List.set_cons_succ]
          refine wpAnyH_done (by kernel_rfl) ?_ _
          refine NoPanic.normal ?_
          iterate 10 (try clear hHeld)
          all_goals
            go_wp2_with fail
            go_ret3
            rw [E1.out]
            refine ⟨A9, c9, ?_, Hat.out, B5.out.trans (hc.mono B5.out.size)⟩
            show Ending.returned (.tuple #[.slice A9 (p.length - 1) c9, .int .i64 cs2, .int .i64 0]) = Ending.returned (.tuple #[.slice A9 p.tail.length c9, .int .i64 cs2, .int .i64 0])
            rw [← HP2.out, hlt]
  · rw [if_neg hch] at HM
    rw [HM.out]
    have E1 := Lib.hid (show planS d l = ([], 0, checkS d l) by rw [HF.out, if_pos hch])
    have dne : (checkS d l != 0) = true := by rw [bne_iff_ne]; exact hch
    generalize checkS d l = x at *
    have B2 := Lib.hid (B1.out.alloc (o := .cells #[.slice none 0 0, .int .i64 0, .int .i64 0, .int .i64 0, .slice none 0 0] 84) B1.out.size)
    clear hch
    go_wp2_with fail
    go_ret3
    rw [E1.out]
    exact retPl_nil B2.out
end Go.Proofs.YtbhkglokdomajaaDoor
