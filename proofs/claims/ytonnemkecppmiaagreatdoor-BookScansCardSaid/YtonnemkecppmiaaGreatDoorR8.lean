import Derived.Test.YtonnemkecppmiaaGreatDoorR4
import Derived.Test.YtonnemkecppmiaaGreatDoorP10
import Derived.DeepKeys
namespace Go.Proofs.YtonnemkecppmiaaGreatDoor
open Go.RowKit
/-! The reference: are two things the same? -/
theorem ed_eqIn (d : Nat) (e f : Ed) (W : World) : (Op.equalIn (d + 10) 48 (.agg #[.int .i64 e.kind, .int .i64 e.a.lo, .int .i64 e.a.hi, .int .i64 e.w.lo, .int .i64 e.w.hi, .int .i64 e.d.lo, .int .i64 e.d.hi]) (.agg #[.int .i64 f.kind, .int .i64 f.a.lo, .int .i64 f.a.hi, .int .i64 f.w.lo, .int .i64 f.w.hi, .int .i64 f.d.lo, .int .i64 f.d.hi])).run Tryz.prog W = .ok (decide (e = f)) W := by
  rw [show d + 10 = (d + 9) + 1 from rfl, run_equalIn_struct _ _ _ _ _ edge_eq1 edge_eq2]
  obtain ⟨k, ⟨a, b⟩, ⟨c, d⟩, ⟨g, h⟩⟩ := e
  obtain ⟨k', ⟨a', b'⟩, ⟨c', d'⟩, ⟨g', h'⟩⟩ := f
  simp only [Ed.mk.injEq, Sp.mk.injEq]
  simp [Op.eqFields, go_sem]
  by_cases h1 : k = k' <;> by_cases h2 : a = a' <;> by_cases h3 : b = b' <;> by_cases h4 : c = c' <;> by_cases h5 : d = d' <;> by_cases h6 : g = g' <;> by_cases h7 : h = h' <;> simp [h1, h2, h3, h4, h5, h6, h7]
theorem ed_info : (Tryz.prog.info? 48).map (fun i => (i.zero, i.size, i.bytes)) = some (some (.agg #[.int .i64 0, .int .i64 0, .int .i64 0, .int .i64 0, .int .i64 0, .int .i64 0, .int .i64 0]), 7, 56) := by kernel_rfl
theorem ed_cells : Tryz.prog.cellsOf 48 = 7 := by kernel_rfl
theorem pc_part0 (p : Pc) (W : World) : (part 48 p.cells.toArray (0 * 7)).run Tryz.prog W = .ok (.agg p.e0.cells.toArray) W := by kernel_rfl
theorem pc_part1 (p : Pc) (W : World) : (part 48 p.cells.toArray (1 * 7)).run Tryz.prog W = .ok (.agg p.e1.cells.toArray) W := by kernel_rfl
theorem pc_part2 (p : Pc) (W : World) : (part 48 p.cells.toArray (2 * 7)).run Tryz.prog W = .ok (.agg p.e2.cells.toArray) W := by kernel_rfl
theorem pc_part3 (p : Pc) (W : World) : (part 48 p.cells.toArray (3 * 7)).run Tryz.prog W = .ok (.agg p.e3.cells.toArray) W := by kernel_rfl
theorem ed_eqIn' (d : Nat) (e f : Ed) (W : World) : (Op.equalIn (d + 10) 48 (.agg e.cells.toArray) (.agg f.cells.toArray)).run Tryz.prog W = .ok (decide (e = f)) W := ed_eqIn d e f W
theorem ar_eqIn (d : Nat) (p q : Pc) (W : World) : (Op.equalIn (d + 11) 49 (.agg p.cells.toArray) (.agg q.cells.toArray)).run Tryz.prog W = .ok (decide (p = q)) W := by
  obtain ⟨i, hi, -⟩ := info_parts ed_info
  rw [show d + 11 = (d + 10) + 1 from rfl, run_equalIn_array W (d + 10) _ _ ar_und hi, ed_cells, show List.range 4 = [0, 1, 2, 3] from rfl]
  simp only [Op.eqItems, Sem.run_bind, pc_part0, pc_part1, pc_part2, pc_part3, ed_eqIn', Result.andThen_ok, Sem.run_ite, Sem.run_pure]
  obtain ⟨p0, p1, p2, p3⟩ := p
  obtain ⟨q0, q1, q2, q3⟩ := q
  simp only [Pc.mk.injEq]
  by_cases h0 : p0 = q0 <;> by_cases h1 : p1 = q1 <;> by_cases h2 : p2 = q2 <;> by_cases h3 : p3 = q3 <;> simp [h0, h1, h2, h3]
theorem pc_part (p : Pc) (W : World) : (part 49 p.cells.toArray 0).run Tryz.prog W = .ok (.agg p.cells.toArray) W := by kernel_rfl
theorem pc_flds : (Tryz.prog.fieldsOf 51).toList.map (fun f => (f.name == "_", f.type, f.offset)) = [(false, 49, 0)] := by kernel_rfl
theorem pc_held : Tryz.prog.stoodInHeld 51 = false := by kernel_rfl
theorem eqFields_one {P : Program} {d : Nat} {xs ys : Array Value} {fs : List Field} {t o : Nat} {W : World} {a b : Value} {r : Bool} (hf : fs.map (fun f => (f.name == "_", f.type, f.offset)) = [(false, t, o)])
    (ha : (part t xs o).run P W = .ok a W) (hb : (part t ys o).run P W = .ok b W) (hr : (Op.equalIn d t a b).run P W = .ok r W) : (Op.eqFields d xs ys fs).run P W = .ok r W := by
  rcases fs with _ | ⟨f, _ | ⟨g, fs⟩⟩
  · simp at hf
  · simp only [List.map_cons, List.map_nil, List.cons.injEq, Prod.mk.injEq, beq_eq_false_iff_ne, and_true] at hf
    obtain ⟨h1, rfl, rfl⟩ := hf
    simp only [Op.eqFields, h1, ne_eq, not_false_eq_true, if_true, Sem.run_bind, ha, hb, hr, Result.andThen_ok, Sem.run_ite, Sem.run_pure]
    cases r <;> simp
  · simp at hf
theorem pc_neq (p q : Pc) (W : World) : (binOp .neq 51 (.agg p.cells.toArray) (.agg q.cells.toArray)).run Tryz.prog W = .ok (.bool (!decide (p = q))) W := by
  rw [run_neq_struct, show (10000 : Nat) = 9999 + 1 from rfl, run_equalIn_struct _ _ _ _ _ pc_und pc_held, eqFields_one pc_flds (pc_part p W) (pc_part q W) (ar_eqIn 9988 p q W)]
  rfl
theorem wo_und : Tryz.prog.underlying 66 = some (.struct (Tryz.prog.fieldsOf 66)) := by kernel_rfl
theorem wo_held : Tryz.prog.stoodInHeld 66 = false := by kernel_rfl
theorem wo_neq (x y : Wo) (W : World) : (binOp .neq 66 (.agg #[.int .i64 x.team, .int .i64 x.minute, .int .i64 x.got.lo, .int .i64 x.got.hi]) (.agg #[.int .i64 y.team, .int .i64 y.minute, .int .i64 y.got.lo, .int .i64 y.got.hi])).run Tryz.prog W = .ok (.bool (!decide (x = y))) W := by
  rw [run_neq_struct, run_equalIn_struct _ _ _ _ _ wo_und wo_held]
  obtain ⟨k, m, ⟨a, b⟩⟩ := x
  obtain ⟨k', m', ⟨a', b'⟩⟩ := y
  simp only [Wo.mk.injEq, Sp.mk.injEq]
  simp [Op.eqFields, go_sem]
  by_cases h1 : k = k' <;> by_cases h2 : a = a' <;> by_cases h3 : b = b' <;> by_cases h4 : m = m' <;> simp [h1, h2, h3, h4]
theorem py_und : Tryz.prog.underlying 25 = some (.struct (Tryz.prog.fieldsOf 25)) := by kernel_rfl
theorem py_held : Tryz.prog.stoodInHeld 25 = false := by kernel_rfl
theorem py_eql (p q : Py) (W : World) : (binOp .eql 25 (.agg #[.int .i64 p.len, .int .i64 p.slack, .int .i64 p.loose, .int .i64 p.damp.lo, .int .i64 p.damp.hi]) (.agg #[.int .i64 q.len, .int .i64 q.slack, .int .i64 q.loose, .int .i64 q.damp.lo, .int .i64 q.damp.hi])).run Tryz.prog W = .ok (.bool (decide (p = q))) W := by
  rw [run_eql_struct, run_equalIn_struct _ _ _ _ _ py_und py_held]
  obtain ⟨k, m, n, ⟨a, b⟩⟩ := p
  obtain ⟨k', m', n', ⟨a', b'⟩⟩ := q
  simp only [Py.mk.injEq, Sp.mk.injEq]
  simp [Op.eqFields, go_sem]
  by_cases h1 : k = k' <;> by_cases h2 : a = a' <;> by_cases h3 : b = b' <;> by_cases h4 : m = m' <;> by_cases h5 : n = n' <;> simp [h1, h2, h3, h4, h5]
/-! SamePieces, SameWords, SameDrawings. -/
theorem same_len {α : Type} [DecidableEq α] {l m : List α} (h : l.length ≠ m.length) : decide (l = m) = false := decide_eq_false (fun e => h (by rw [e]))
theorem same_not {α : Type} [DecidableEq α] {l m : List α} {k : Nat} (h1 : k < l.length) (h2 : k < m.length) (h : l[k] ≠ m[k]) : decide (l = m) = false := decide_eq_false (fun e => h (by subst e; rfl))
theorem same_all {α : Type} [DecidableEq α] {l m : List α} (hl : l.length = m.length) (h : l.take l.length = m.take l.length) : decide (l = m) = true := by
  rw [List.take_length, hl, List.take_length] at h
  exact decide_eq_true h
theorem same_next {α : Type} {l m : List α} {k : Nat} (h1 : k < l.length) (h2 : k < m.length) (h : l.take k = m.take k) (e : l[k] = m[k]) : l.take (k + 1) = m.take (k + 1) := by
  rw [List.take_succ_eq_append_getElem h1, List.take_succ_eq_append_getElem h2, h, e]
def RSa {α : Type} (l m : List α) (w0 : World) (i : Value) (w : World) : Prop := ∃ k : Nat, k ≤ l.length ∧ i = .int .i64 k ∧ Below w0.heap.size w0 w ∧ l.take k = m.take k
set_option maxRecDepth 100000 in
set_option maxHeartbeats 2000000 in
theorem SamePieces_any (A B : Option Addr) (c d : Nat) (l m : List Pc) (w : World) (hA : At w w.heap.size 28 Pc.cells A l) (hB : At w w.heap.size 28 Pc.cells B m) (hl : l.length ≤ 9223372036854775807) : Calls Tryz.prog 22 #[.slice A l.length c, .slice B m.length d] w (Ret (.bool (decide (l = m))) w) := by
  have HA := Lib.hid hA
  have HB := Lib.hid hB
  clear hA hB
  by_cases he : l.length = m.length
  rotate_left
  · have d1 : ((l.length : Int) == (m.length : Int)) = false := by simp; omega
    have d2 : ((l.length : Int) != (m.length : Int)) = true := by simp; omega
    have HV := Lib.hid (same_len he)
    clear he
    go_enter Tryz.func22, Tryz.ntmps22
    go_wp2_with fail
    go_ret
    exact ret_bool HV.out.symm (Below.refl _ _)
  · have d1 : ((l.length : Int) == (m.length : Int)) = true := by simp [he]
    have d2 : ((l.length : Int) != (m.length : Int)) = false := by simp [he]
    have HE := Lib.hid he
    clear he
    go_enter Tryz.func22, Tryz.ntmps22
    go_wp2_with fail
    go_loopw [5] (fun i wr => RSa l m w i wr) (fun i _ => l.length - (intOf i).toNat)
    case atStart => exact ⟨0, by omega, rfl, Below.refl _ _, rfl⟩
    case round =>
      obtain ⟨k, hk, rfl, hb, heq⟩ := hrel
      have HBB := Lib.hid hb
      have HEQ := Lib.hid heq
      clear hb heq
      by_cases hlt : k < l.length
      · have hwk : IntKind.i64.wrap ((k : Int) + 1) = (k : Int) + 1 := IntWalk.i64_in _ (by omega)
        have hlm : k < m.length := by rw [← HE.out]; exact hlt
        obtain ⟨qa, oa, eA, hba, hca⟩ := HA.out.below HBB.out k l[k] (List.getElem?_eq_getElem hlt)
        obtain ⟨qb, ob, eB, hbb, hcb⟩ := HB.out.below HBB.out k m[k] (List.getElem?_eq_getElem hlm)
        have HN := Lib.hid (same_next hlt hlm HEQ.out)
        have HF := Lib.hid (same_not hlt hlm)
        have hq := fun W => pc_neq l[k] m[k] W
        have hla := pc_len l[k]
        have hlb := pc_len m[k]
        obtain ⟨LA, hLA⟩ : ∃ L, l[k].cells = L := ⟨_, rfl⟩
        obtain ⟨LB, hLB⟩ : ∃ L, m[k].cells = L := ⟨_, rfl⟩
        rw [hLA] at hca hla
        rw [hLB] at hcb hlb
        rw [hLA, hLB] at hq
        generalize l[k] = x at *
        generalize m[k] = y at *
        clear hLA hLB
        have HSA := Lib.hid (show (Tryz.prog.info? 51).map (·.size) = some LA.length by rw [hla]; exact pc_size)
        have HSB := Lib.hid (show (Tryz.prog.info? 51).map (·.size) = some LB.length by rw [hlb]; exact pc_size)
        have HSS := Lib.hid (show ∀ W : World, Below wr.heap.size wr W → (W.rangeAt qa (oa + k * 28) LA ∧ W.rangeAt qb (ob + k * 28) LB) from fun W h => ⟨fun j u hu => (h.cell (p := ⟨qa, oa + k * 28 + j, none⟩) (Nat.lt_of_lt_of_le hba HBB.out.size)).trans (hca j u hu), fun j u hu => (h.cell (p := ⟨qb, ob + k * 28 + j, none⟩) (Nat.lt_of_lt_of_le hbb HBB.out.size)).trans (hcb j u hu)⟩)
        clear hca hcb hla hlb hba hbb HEQ
        subst eA eB
        go_upto_region 6 with fail
        refine wp_region_noPanic ?_
        refine wp_region_held_drew (S := (fun W => W.rangeAt qa (oa + k * 28) LA ∧ W.rangeAt qb (ob + k * 28) LB)) (by kernel_rfl) ?_ (fun hHeld => ?_)
        · (try dsimp only); exact HSS.out _ (Below.refl _ _).drew
        refine htake (i := 0) (v := ?v1) rfl (by kernel_rfl) (by kernel_rfl) (by kernel_rfl) (fun _ _ _ h => h) (Or.inl ⟨by rfl, ?hy1⟩) (by assumption) ?_
        case hy1 => (intro w hSw; (try dsimp only at hSw); go_simp; try (with_reducible rfl))
        try simp only [Act.put, List.setIfInBounds_toArray, List.set_cons_zero, List.set_cons_succ]
        refine htake (i := 1) (v := ?v2) rfl (by kernel_rfl) (by kernel_rfl) (by kernel_rfl) (fun _ _ _ h => h) (Or.inl ⟨by rfl, ?hy2⟩) (by assumption) ?_
        case hy2 => (intro w hSw; (try dsimp only at hSw); go_simp; try (with_reducible rfl))
        try simp only [Act.put, List.setIfInBounds_toArray, List.set_cons_zero, List.set_cons_succ]
        refine htake (i := 2) (v := ?v3) rfl (by kernel_rfl) (by kernel_rfl) (by kernel_rfl) (fun _ _ _ h => h) (Or.inl ⟨by rfl, ?hy3⟩) (by assumption) ?_
        case hy3 => (intro w hSw; (try dsimp only at hSw); go_simp; try (with_reducible rfl))
        try simp only [Act.put, List.setIfInBounds_toArray, List.set_cons_zero, List.set_cons_succ]
        refine htake (i := 3) rfl (by kernel_rfl) (by kernel_rfl) (by kernel_rfl) (fun _ _ _ h => h) (yieldsIf_load_mid rfl 51 (.tmp 19) rfl qa (oa + k * 28) rfl LA _ (fun W h => h.1) pc_und rfl HSA.out) (by assumption) ?_
        try simp only [Act.put, List.setIfInBounds_toArray, List.set_cons_zero, List.set_cons_succ]
        refine htake (i := 4) (v := ?v4) rfl (by kernel_rfl) (by kernel_rfl) (by kernel_rfl) (fun _ _ _ h => h) (Or.inl ⟨by rfl, ?hy4⟩) (by assumption) ?_
        case hy4 => (intro w hSw; (try dsimp only at hSw); go_simp; try (with_reducible rfl))
        try simp only [Act.put, List.setIfInBounds_toArray, List.set_cons_zero, List.set_cons_succ]
        refine htake (i := 5) (v := ?v5) rfl (by kernel_rfl) (by kernel_rfl) (by kernel_rfl) (fun _ _ _ h => h) (Or.inl ⟨by rfl, ?hy5⟩) (by assumption) ?_
        case hy5 => (intro w hSw; (try dsimp only at hSw); go_simp; try (with_reducible rfl))
        try simp only [Act.put, List.setIfInBounds_toArray, List.set_cons_zero, List.set_cons_succ]
        refine htake (i := 6) (v := ?v6) rfl (by kernel_rfl) (by kernel_rfl) (by kernel_rfl) (fun _ _ _ h => h) (Or.inl ⟨by rfl, ?hy6⟩) (by assumption) ?_
        case hy6 => (intro w hSw; (try dsimp only at hSw); go_simp; try (with_reducible rfl))
        try simp only [Act.put, List.setIfInBounds_toArray, List.set_cons_zero, List.set_cons_succ]
        refine htake (i := 7) rfl (by kernel_rfl) (by kernel_rfl) (by kernel_rfl) (fun _ _ _ h => h) (yieldsIf_load_mid rfl 51 (.tmp 23) rfl qb (ob + k * 28) rfl LB _ (fun W h => h.2) pc_und rfl HSB.out) (by assumption) ?_
        try simp only [Act.put, List.setIfInBounds_toArray, List.set_cons_zero, List.set_cons_succ]
        refine htake (i := 8) (v := ?v7) rfl (by kernel_rfl) (by kernel_rfl) (by kernel_rfl) (fun _ _ _ h => h) (Or.inl ⟨by rfl, ?hy7⟩) (by assumption) ?_
        case hy7 => (intro w hSw; (try dsimp only at hSw); go_simp; try (with_reducible rfl))
        try simp only [Act.put, List.setIfInBounds_toArray, List.set_cons_zero, List.set_cons_succ]
        refine wpAnyH_done (by kernel_rfl) ?_ _
        refine NoPanic.normal ?_
        iterate 10 (try clear hHeld)
        by_cases hxy : x = y
        · rw [decide_eq_true hxy]
          have HN2 := Lib.hid (HN.out hxy)
          clear HN HF hxy
          go_wp2_with fail
          (first | (refine ⟨?_, ?_⟩; (unfold RSa; exact ⟨k + 1, by omega, by go_num, HBB.out.drew, HN2.out⟩); (simp [intOf]; omega)) | (go_roundw; (case rel => (unfold RSa; exact ⟨k + 1, by omega, by go_num, HBB.out.drew, HN2.out⟩)); (case measure => (simp [intOf]; omega))) | (go_round; (case rel => (unfold RSa; exact ⟨k + 1, by omega, by go_num, HBB.out.drew, HN2.out⟩)); (case measure => (simp [intOf]; omega))))
        · rw [decide_eq_false hxy]
          have HF2 := Lib.hid (HF.out hxy)
          clear HN HF hxy
          go_wp2_with fail
          go_ret
          exact ret_bool HF2.out.symm HBB.out.drew
      · obtain rfl : k = l.length := by omega
        have HV := Lib.hid (same_all HE.out HEQ.out)
        go_wp2_with fail
        go_ret
        exact ret_bool HV.out.symm HBB.out
set_option maxRecDepth 100000 in
set_option maxHeartbeats 2000000 in
theorem SameWords_any (A B : Option Addr) (c d : Nat) (l m : List Wo) (w : World) (hA : At w w.heap.size 4 Wo.cells A l) (hB : At w w.heap.size 4 Wo.cells B m) (hl : l.length ≤ 9223372036854775807) : Calls Tryz.prog 28 #[.slice A l.length c, .slice B m.length d] w (Ret (.bool (decide (l = m))) w) := by
  have HA := Lib.hid hA
  have HB := Lib.hid hB
  clear hA hB
  by_cases he : l.length = m.length
  rotate_left
  · have d1 : ((l.length : Int) == (m.length : Int)) = false := by simp; omega
    have d2 : ((l.length : Int) != (m.length : Int)) = true := by simp; omega
    have HV := Lib.hid (same_len he)
    clear he
    go_enter Tryz.func28, Tryz.ntmps28
    go_wp2_with fail
    go_ret
    exact ret_bool HV.out.symm (Below.refl _ _)
  · have d1 : ((l.length : Int) == (m.length : Int)) = true := by simp [he]
    have d2 : ((l.length : Int) != (m.length : Int)) = false := by simp [he]
    have HE := Lib.hid he
    clear he
    go_enter Tryz.func28, Tryz.ntmps28
    go_wp2_with fail
    go_loopw [5] (fun i wr => RSa l m w i wr) (fun i _ => l.length - (intOf i).toNat)
    case atStart => exact ⟨0, by omega, rfl, Below.refl _ _, rfl⟩
    case round =>
      obtain ⟨k, hk, rfl, hb, heq⟩ := hrel
      have HBB := Lib.hid hb
      have HEQ := Lib.hid heq
      clear hb heq
      by_cases hlt : k < l.length
      · have hwk : IntKind.i64.wrap ((k : Int) + 1) = (k : Int) + 1 := IntWalk.i64_in _ (by omega)
        have hlm : k < m.length := by rw [← HE.out]; exact hlt
        obtain ⟨qa, oa, eA, hba, hca⟩ := HA.out.below HBB.out k l[k] (List.getElem?_eq_getElem hlt)
        obtain ⟨qb, ob, eB, hbb, hcb⟩ := HB.out.below HBB.out k m[k] (List.getElem?_eq_getElem hlm)
        have HN := Lib.hid (same_next hlt hlm HEQ.out)
        have HF := Lib.hid (same_not hlt hlm)
        have HQ := Lib.hid (fun W => wo_neq l[k] m[k] W)
        generalize l[k] = x at *
        generalize m[k] = y at *
        have a0 := hca 0 _ rfl
        have a1 := hca 1 _ rfl
        have a2 := hca 2 _ rfl
        have a3 := hca 3 _ rfl
        have b0 := hcb 0 _ rfl
        have b1 := hcb 1 _ rfl
        have b2 := hcb 2 _ rfl
        have b3 := hcb 3 _ rfl
        rw [Nat.add_zero] at a0 b0
        clear hca hcb hba hbb HEQ
        subst eA eB
        by_cases hxy : x = y
        · have HN2 := Lib.hid (HN.out hxy)
          have hq := HQ.out
          rw [decide_eq_true hxy] at hq
          clear HN HF hxy HQ
          go_wp2_with (go_quiet (fail))
          (first | (refine ⟨?_, ?_⟩; (unfold RSa; exact ⟨k + 1, by omega, by go_num, below_drewN HBB.out _, HN2.out⟩); (simp [intOf]; omega)) | (go_roundw; (case rel => (unfold RSa; exact ⟨k + 1, by omega, by go_num, below_drewN HBB.out _, HN2.out⟩)); (case measure => (simp [intOf]; omega))) | (go_round; (case rel => (unfold RSa; exact ⟨k + 1, by omega, by go_num, below_drewN HBB.out _, HN2.out⟩)); (case measure => (simp [intOf]; omega))))
        · have HF2 := Lib.hid (HF.out hxy)
          have hq := HQ.out
          rw [decide_eq_false hxy] at hq
          clear HN HF hxy HQ
          go_wp2_with (go_quiet (fail))
          go_ret
          exact ret_bool HF2.out.symm (below_drewN HBB.out _)
      · obtain rfl : k = l.length := by omega
        have HV := Lib.hid (same_all HE.out HEQ.out)
        go_wp2_with fail
        go_ret
        exact ret_bool HV.out.symm HBB.out
theorem pu_dec (a b : Pu) : decide (a = b) = (decide (a.play = b.play) && (decide (a.wide = b.wide) && (decide (a.high = b.high) && (decide (a.turn = b.turn) && decide (a.pieces = b.pieces))))) := by
  obtain ⟨p, w, h, t, l⟩ := a
  obtain ⟨p', w', h', t', l'⟩ := b
  rw [Bool.eq_iff_iff]
  simp
set_option maxRecDepth 100000 in
set_option maxHeartbeats 2000000 in
theorem SameDrawings_any (m n : Mp) (w : World) (hm : PuAt w w.heap.size m) (hn : PuAt w w.heap.size n) : Calls Tryz.prog 17 #[.agg #[.int .i64 m.d.play.len, .int .i64 m.d.play.slack, .int .i64 m.d.play.loose, .int .i64 m.d.play.damp.lo, .int .i64 m.d.play.damp.hi, .int .i64 m.d.wide, .int .i64 m.d.high, .bool m.d.turn, .slice m.A m.d.pieces.length m.c], .agg #[.int .i64 n.d.play.len, .int .i64 n.d.play.slack, .int .i64 n.d.play.loose, .int .i64 n.d.play.damp.lo, .int .i64 n.d.play.damp.hi, .int .i64 n.d.wide, .int .i64 n.d.high, .bool n.d.turn, .slice n.A n.d.pieces.length n.c]] w (Ret (.bool (decide (m.d = n.d))) w) := by
  have HD := Lib.hid (pu_dec m.d n.d)
  have hl := hm.l1
  have HM := Lib.hid hm
  have HN := Lib.hid hn
  have HX0 := Lib.hid (Bx.new w #[.int .i64 m.d.play.len, .int .i64 m.d.play.slack, .int .i64 m.d.play.loose, .int .i64 m.d.play.damp.lo, .int .i64 m.d.play.damp.hi, .int .i64 m.d.wide, .int .i64 m.d.high, .bool m.d.turn, .slice m.A m.d.pieces.length m.c] 28)
  have HB0 := Lib.hid (nxA w (.cells #[.int .i64 m.d.play.len, .int .i64 m.d.play.slack, .int .i64 m.d.play.loose, .int .i64 m.d.play.damp.lo, .int .i64 m.d.play.damp.hi, .int .i64 m.d.wide, .int .i64 m.d.high, .bool m.d.turn, .slice m.A m.d.pieces.length m.c] 28))
  have HX1 := Lib.hid (Bx.new (w.alloc (.cells #[.int .i64 m.d.play.len, .int .i64 m.d.play.slack, .int .i64 m.d.play.loose, .int .i64 m.d.play.damp.lo, .int .i64 m.d.play.damp.hi, .int .i64 m.d.wide, .int .i64 m.d.high, .bool m.d.turn, .slice m.A m.d.pieces.length m.c] 28)) #[.int .i64 n.d.play.len, .int .i64 n.d.play.slack, .int .i64 n.d.play.loose, .int .i64 n.d.play.damp.lo, .int .i64 n.d.play.damp.hi, .int .i64 n.d.wide, .int .i64 n.d.high, .bool n.d.turn, .slice n.A n.d.pieces.length n.c] 28)
  have HB1 := Lib.hid (nxA (w.alloc (.cells #[.int .i64 m.d.play.len, .int .i64 m.d.play.slack, .int .i64 m.d.play.loose, .int .i64 m.d.play.damp.lo, .int .i64 m.d.play.damp.hi, .int .i64 m.d.wide, .int .i64 m.d.high, .bool m.d.turn, .slice m.A m.d.pieces.length m.c] 28)) (.cells #[.int .i64 n.d.play.len, .int .i64 n.d.play.slack, .int .i64 n.d.play.loose, .int .i64 n.d.play.damp.lo, .int .i64 n.d.play.damp.hi, .int .i64 n.d.wide, .int .i64 n.d.high, .bool n.d.turn, .slice n.A n.d.pieces.length n.c] 28))
  replace HX0 := Lib.hid (HX0.out.next HB1.out)
  replace HB0 := Lib.hid (HB0.out.trans (HB1.out.mono HB0.out.size))
  clear hm hn HB1
  go_enter Tryz.func17, Tryz.ntmps17
  go_upto_region 1 with fail
  rw [show w.heap.size + 1 = (w.alloc (.cells #[.int .i64 m.d.play.len, .int .i64 m.d.play.slack, .int .i64 m.d.play.loose, .int .i64 m.d.play.damp.lo, .int .i64 m.d.play.damp.hi, .int .i64 m.d.wide, .int .i64 m.d.high, .bool m.d.turn, .slice m.A m.d.pieces.length m.c] 28)).heap.size by simp]
  generalize hV : ((w.alloc (.cells #[.int .i64 m.d.play.len, .int .i64 m.d.play.slack, .int .i64 m.d.play.loose, .int .i64 m.d.play.damp.lo, .int .i64 m.d.play.damp.hi, .int .i64 m.d.wide, .int .i64 m.d.high, .bool m.d.turn, .slice m.A m.d.pieces.length m.c] 28)).alloc (.cells #[.int .i64 n.d.play.len, .int .i64 n.d.play.slack, .int .i64 n.d.play.loose, .int .i64 n.d.play.damp.lo, .int .i64 n.d.play.damp.hi, .int .i64 n.d.wide, .int .i64 n.d.high, .bool n.d.turn, .slice n.A n.d.pieces.length n.c] 28)) = V at *
  obtain ⟨b1, hb1⟩ : ∃ b1, b1 = (w.alloc (.cells #[.int .i64 m.d.play.len, .int .i64 m.d.play.slack, .int .i64 m.d.play.loose, .int .i64 m.d.play.damp.lo, .int .i64 m.d.play.damp.hi, .int .i64 m.d.wide, .int .i64 m.d.high, .bool m.d.turn, .slice m.A m.d.pieces.length m.c] 28)).heap.size := ⟨_, rfl⟩
  rw [← hb1] at HX1 ⊢
  clear hV hb1
  have c0 := HX0.out.c 0 _ rfl
  have c1 := HX0.out.c 1 _ rfl
  have c2 := HX0.out.c 2 _ rfl
  have c3 := HX0.out.c 3 _ rfl
  have c4 := HX0.out.c 4 _ rfl
  have c5 := HX0.out.c 5 _ rfl
  have c6 := HX0.out.c 6 _ rfl
  have c7 := HX0.out.c 7 _ rfl
  have c8 := HX0.out.c 8 _ rfl
  have e0 := HX1.out.c 0 _ rfl
  have e1 := HX1.out.c 1 _ rfl
  have e2 := HX1.out.c 2 _ rfl
  have e3 := HX1.out.c 3 _ rfl
  have e4 := HX1.out.c 4 _ rfl
  have e5 := HX1.out.c 5 _ rfl
  have e6 := HX1.out.c 6 _ rfl
  have e7 := HX1.out.c 7 _ rfl
  have e8 := HX1.out.c 8 _ rfl
  have hq := fun W => py_eql m.d.play n.d.play W
  rcases chain4 (decide (m.d.play = n.d.play)) (decide (m.d.wide = n.d.wide)) (decide (m.d.high = n.d.high)) (decide (m.d.turn = n.d.turn)) with h1 | ⟨h1, h2⟩ | ⟨h1, h2, h3⟩ | ⟨h1, h2, h3, h4⟩ | ⟨h1, h2, h3, h4⟩
  · rw [h1] at HD hq
    clear h1
    go_wp2_with fail
    go_ret
    exact ret_bool (by rw [HD.out]; rfl) HB0.out
  · rw [h1, h2] at HD
    rw [h1] at hq
    have g2 : (m.d.wide == n.d.wide) = false := beq_eq_false_iff_ne.2 (of_decide_eq_false h2)
    clear h1 h2
    go_wp2_with fail
    go_ret
    exact ret_bool (by rw [HD.out]; rfl) HB0.out
  · rw [h1, h2, h3] at HD
    rw [h1] at hq
    have g2 : (m.d.wide == n.d.wide) = true := beq_iff_eq.2 (of_decide_eq_true h2)
    have g3 : (m.d.high == n.d.high) = false := beq_eq_false_iff_ne.2 (of_decide_eq_false h3)
    clear h1 h2 h3
    go_wp2_with fail
    go_ret
    exact ret_bool (by rw [HD.out]; rfl) HB0.out
  · rw [h1, h2, h3, h4] at HD
    rw [h1] at hq
    have g2 : (m.d.wide == n.d.wide) = true := beq_iff_eq.2 (of_decide_eq_true h2)
    have g3 : (m.d.high == n.d.high) = true := beq_iff_eq.2 (of_decide_eq_true h3)
    have g4 : (m.d.turn == n.d.turn) = false := beq_eq_false_iff_ne.2 (of_decide_eq_false h4)
    clear h1 h2 h3 h4
    go_wp2_with fail
    go_ret
    exact ret_bool (by rw [HD.out]; rfl) HB0.out
  · rw [h1, h2, h3, h4] at HD
    rw [h1] at hq
    have g2 : (m.d.wide == n.d.wide) = true := beq_iff_eq.2 (of_decide_eq_true h2)
    have g3 : (m.d.high == n.d.high) = true := beq_iff_eq.2 (of_decide_eq_true h3)
    have g4 : (m.d.turn == n.d.turn) = true := beq_iff_eq.2 (of_decide_eq_true h4)
    clear h1 h2 h3 h4
    have HC := Lib.hid (SamePieces_any m.A n.A m.c n.c m.d.pieces n.d.pieces V ((HM.out.pc.below HB0.out).more HB0.out.size) ((HN.out.pc.below HB0.out).more HB0.out.size) hl)
    go_wp2_with fail
    refine HC.out.mono ?_
    rintro e V2 ⟨rfl, hb⟩
    have HB2 := Lib.hid (HB0.out.trans (hb.mono HB0.out.size))
    clear hb HC
    go_wp2_with fail
    go_ret
    exact ret_bool (by rw [HD.out]; rfl) HB2.out
end Go.Proofs.YtonnemkecppmiaaGreatDoor
