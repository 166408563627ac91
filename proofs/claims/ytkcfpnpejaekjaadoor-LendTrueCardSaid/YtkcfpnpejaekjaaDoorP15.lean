import Derived.Test.YtkcfpnpejaekjaaDoorP14
import Derived.Shelf.Abstract
import Derived.Sort.CutIn
namespace Go.Proofs.YtkcfpnpejaekjaaDoor
open Go.RowKit
attribute [local go_sem] Oper.semAt_some
/-! The program: Who. -/
theorem Bx.nc {W W' : World} {row : Option Nat} {b : Nat} {vs : List Value} (h : Bx W b vs) (hn : 0 < vs.length) (hg : W.grownBy W' row) (hr : ∀ r, row = some r → ∃ o : Obj, W.heap[r]? = some o ∧ o.isCells = false) : Bx W' b vs := by
  obtain ⟨o, ho, hc⟩ := cells_of_cell (h.c 0 _ (List.getElem?_eq_getElem hn))
  have hk := grownBy_keeps_cells hg hr ho hc
  exact ⟨Nat.lt_of_lt_of_le h.lt hg.size, fun j u hu => (World.cell?_of_block (a := ⟨b, j, none⟩) hk).trans (h.c j u hu), fun j => (World.frozen?_of_block (a := ⟨b, j, none⟩) hk).trans (h.fr j)⟩
theorem kf_below {B : Nat} {W W' : World} (h : Below W.heap.size W W') : KeepsFrom B W W' := (KeepsOthers.of_grownBy (only_of_below h none) (fun _ _ e => by cases e)).from B
theorem kb_put {n0 : Nat} {w : World} (hn : n0 ≤ w.heap.size) (W : World) (l : Nat) (o o' : Obj) (hl : w.heap.size ≤ l) (h : W.heap[l]? = some o) (h1 : o.isCells = false) (h2 : o.isWalk = false) : Below n0 W (W.putObj l o') := belowK_b hn W l o o' hl h h1 h2
section
variable {F : Fence} {n : Nat} {P : Program} {ops : Array Oper} {Q : Exit → Act → World → Prop} {a : Act} {w : World} {rest : List Oper} {op : Oper}
theorem wpListIn_load_mid (hgd : op.guard = none) (ty : TypeId) (x : Operand) (ho : op.op = .load ty x)
    (b o : Nat) (hx : a.eval x = .pointer (some ⟨b, o, none⟩)) (cs : List Value) (d : TypeDesc) (hc : w.rangeAt b o cs)
    (hu : P.underlying ty = some d) (hd : d.isRow = true) (hi : (P.info? ty).map (·.size) = some cs.length)
    (h : wpListIn F n P ops Q rest (a.put op.dst (.agg cs.toArray)) w) : wpListIn F n P ops Q (op :: rest) a w := by
  refine wpListIn_plain hgd fun K' hK' => ?_
  unfold Oper.wpIn
  refine ⟨?_, ?_⟩
  · simp [Oper.about, ho]
  · rw [Oper.semAt_plain F _ _ (by rw [ho]; intro c hc'; cases hc')]
    unfold execOp
    simp only [ho, hx, Instr.loadAt, Instr.sureAddr, Sem.run_bind, Sem.run_pure, Result.andThen_ok, run_loadVar_mid w b o ty cs d hc hu hd hi]
    exact hK' _ _ h
theorem wpListIn_store_mid (hgd : op.guard = none) (ty : TypeId) (x y : Operand) (ho : op.op = .store ty x y)
    (b o : Nat) (cells : Array Value) (hx : a.eval x = .pointer (some ⟨b, o, none⟩)) (hy : a.eval y = .agg cells)
    (ht : w.there b o cells.size) (hi : (P.info? ty).map (·.size) = some cells.size) (h1 : cells.all (·.oneCell') = true)
    (h : wpListIn F n P ops Q rest (a.put op.dst undef) (w.setCells b o cells.toList)) : wpListIn F n P ops Q (op :: rest) a w := by
  refine wpListIn_plain hgd fun K' hK' => ?_
  unfold Oper.wpIn
  refine ⟨?_, ?_⟩
  · simp [Oper.about, ho]
  · rw [Oper.semAt_plain F _ _ (by rw [ho]; intro c hc'; cases hc')]
    unfold execOp
    simp only [ho, hx, hy, Instr.storeAt, Instr.sureAddr, Sem.run_bind, Sem.run_pure, Result.andThen_ok, run_storeVar_mid w b o ty cells ht hi h1]
    exact hK' _ _ h
end
/-- The set that Who has made. -/
def orW (q : Nat → Bool) : List Nat → Nat
  | [] => 0
  | p :: l => orW q l ||| if q p then 2 ^ p else 0
theorem orW_bit (q : Nat → Bool) (p : Nat) : ∀ l : List Nat, (orW q l).testBit p = (decide (p ∈ l) && q p)
  | [] => by simp [orW]
  | x :: l => by
    have ih := orW_bit q p l
    show (orW q l ||| if q x then 2 ^ x else 0).testBit p = _
    rw [Nat.testBit_or, ih]
    by_cases e : p = x
    · subst e
      cases q p <;> simp
    · have : (if q x then 2 ^ x else 0).testBit p = false := by
        split
        · rw [Nat.testBit_two_pow]; simp; omega
        · rw [Nat.zero_testBit]
      rw [this]; simp [e]
theorem orW_lt {q : Nat → Bool} {l : List Nat} (h : ∀ p ∈ l, p < 8) : orW q l < 256 := by
  refine Nat.lt_pow_two_of_testBit (n := 8) _ fun i hi => ?_
  rw [orW_bit]
  cases e : decide (i ∈ l)
  · rfl
  · have := h i (of_decide_eq_true e); omega
theorem orW_all {q : Nat → Bool} {s : Nat} (hs : s < 256) (h : ∀ p, q p = true → has s p = true) : orW q (bitsOf s) = setB q 8 := by
  refine Nat.eq_of_testBit_eq fun p => ?_
  rw [orW_bit, setB_bit]
  cases hq : q p with
  | false => simp
  | true =>
    have hp := h p hq
    have h1 := mem_bits (by omega) hp
    have h2 : p < 8 := Nat.lt_of_not_le fun hn => by
      have : has s p = false := Nat.testBit_lt_two_pow (Nat.lt_of_lt_of_le hs (Nat.pow_le_pow_right (by omega) hn : 2 ^ 8 ≤ 2 ^ p))
      rw [this] at hp; cases hp
    rw [decide_eq_true h1, decide_eq_true h2]
theorem orW_rev (q : Nat → Bool) (l : List Nat) (x : Nat) : orW q (l ++ [x]) = orW q l ||| if q x then 2 ^ x else 0 := by
  refine Nat.eq_of_testBit_eq fun p => ?_
  rw [Nat.testBit_or, orW_bit, orW_bit]
  by_cases e : p = x
  · subst e
    cases q p <;> simp
  · have : (if q x then 2 ^ x else 0).testBit p = false := by
      split
      · rw [Nat.testBit_two_pow]; simp; omega
      · rw [Nat.zero_testBit]
    rw [this]; simp [e]
/-- What gives says. -/
def gvB (t : Tl) (k p : Nat) : Bool := !decide (t.admits.getD p (-1) = 0) && canB (fun i => suspB t (skipN k i)) (t.n.toNat - 1) (decL t.admits p)
theorem gvB_iff {t : Tl} (ok : OkT t) {k p : Nat} (hk : k < t.n.toNat) : gvB t k p = true ↔ t.admits.getD p (-1) ≠ 0 ∧ Fit (t.n.toNat - 1) (fun i q => has (opG t t.n.toNat (skipN k i)) q) (admA (decL t.admits p)) := by
  unfold gvB
  rw [Bool.and_eq_true, Bool.not_eq_true', decide_eq_false_iff_not, canB_iff fun i q h => suspB_lt ok.lent (fun x hx => (ok.look x hx).1) _ _ h]
  refine and_congr_right fun _ => Fit.congr fun i hi => ?_
  funext q
  unfold suspB opG
  rw [if_pos (by unfold skipN; split <;> omega)]
theorem who_susp {t : Tl} (ok : OkT t) {k p : Nat} (hk : k < t.n.toNat) (h : whoB t k p = true) : suspB t k p = true := by
  obtain ⟨f, hf, rfl⟩ := (whoB_iff ok.lent (fun x hx => (ok.look x hx).1) hk).1 h
  exact hf.can k hk
theorem who_gv {t : Tl} (ok : OkT t) {k p : Nat} (hk : k < t.n.toNat) (hs : suspB t k p = true) : whoB t k p = gvB t k p := by
  rw [Bool.eq_iff_iff, whoB_iff ok.lent (fun x hx => (ok.look x hx).1) hk, gvB_iff ok hk]
  obtain ⟨n, hn⟩ : ∃ n, t.n.toNat = n + 1 := ⟨t.n.toNat - 1, by omega⟩
  rw [hn] at hk ⊢
  rw [← gives_iff (n := n) (S := suspB t) (a := admA t.admits) (k := k) (p := p) (by omega) hs, Nat.add_sub_cancel]
  have h0 : admA t.admits p ≠ some 0 ↔ t.admits.getD p (-1) ≠ 0 := not_congr admA_zero
  rw [h0]
  refine and_congr_right fun h1 => ?_
  rw [admA_less h1]
  refine Fit.congr fun i hi => ?_
  funext q
  unfold suspB opG
  rw [if_pos (by unfold skipN; split <;> omega)]
theorem orW_congr {q q' : Nat → Bool} : ∀ {l : List Nat}, (∀ p ∈ l, q p = q' p) → orW q l = orW q' l
  | [], _ => rfl
  | x :: l, h => by
    show orW q l ||| (if q x then 2 ^ x else 0) = orW q' l ||| if q' x then 2 ^ x else 0
    rw [orW_congr fun p hp => h p (List.mem_cons_of_mem _ hp), h x List.mem_cons_self]
theorem gives_bk (m : Mt) (g : Nat → Nat) (k p : Nat) (w : World) (hr : TaleAt w w.heap.size m) (ok : OkBk m g) (h1 : 1 ≤ m.t.admits.length) (hk : k < m.t.n.toNat) : Calls Tryd.prog 42 #[.agg (bkA m g), .int .i64 k, .int .i64 p] w (RetGv m g k p w) := gives_any m g k p w hr ok h1 hk
structure WhI (m : Mt) (k b6 : Nat) (q : Nat → Bool) (w : World) (pre : List (Fin 8)) (W : World) : Prop where
  x3 : Bx W (w.heap.size + 1) [.int .i64 k]
  x4 : Bx W (w.heap.size + 1 + 1) [.int .i64 ((orW q (pre.map Fin.val) : Nat) : Int)]
  x6 : Bx W b6 (bkA m (opG m.t m.t.n.toNat)).toList
  b : Below w.heap.size w W
theorem WhI.own (m : Mt) (k b6 : Nat) (q : Nat → Bool) (w : World) {B : Nat} (hB : w.heap.size ≤ B) : OwnFrom B (WhI m k b6 q w) := by
  rintro pre W W' row ⟨h1, h2, h3, h4⟩ hg hr
  have hr' : ∀ r, row = some r → ∃ o : Obj, W.heap[r]? = some o ∧ o.isCells = false := fun r e => (hr r e).2
  exact ⟨h1.nc (by simp) hg hr', h2.nc (by simp) hg hr', h3.nc (by simp [bkA]) hg hr', h4.grown hg h4.size (fun k e => Nat.le_trans hB (hr k e).1)⟩
theorem blkSet {W : World} {b q : Nat} (h : b ≠ q) (o : Nat) (v : Value) : (W.setCell ⟨b, o, none⟩ v).heap[q]? = W.heap[q]? := by
  unfold World.setCell; rw [Array.getElem?_modify, if_neg (by show ¬ b = q; exact h)]
theorem loadI {w : World} {b : Nat} {x : Value} (h : Bx w b [x]) : (loadVar 3 ⟨b, 0, none⟩).run Tryd.prog w = .ok x w := by
  have c0 := h.c 0 _ rfl
  clear h
  go_simp
def RetWho (x : Nat × Int) : Value := .tuple #[.int .i64 x.1, .int .i64 x.2]
theorem whoS_ck (t : Tl) (p : Int) : whoS t p = if ckE t (inS p 0 (t.n - 1)) = 0 then (setB (whoB t p.toNat) 8, 0) else (0, ckE t (inS p 0 (t.n - 1))) := by
  unfold whoS ckE
  cases okTale t <;> cases inS p 0 (t.n - 1) <;> cases fitB t <;> simp
theorem ck_zero {t : Tl} {v : Bool} (h : ckE t v = 0) : okTale t = true ∧ v = true ∧ fitB t = true := by
  unfold ckE at h
  revert h
  cases okTale t <;> cases v <;> cases fitB t <;> simp
set_option maxRecDepth 100000 in
set_option maxHeartbeats 2000000 in
theorem Who_any (m : Mt) (p : Int) (w : World) (hr : TaleAt w w.heap.size m) (he : Env w) : Calls Tryd.prog 18 #[.agg #[.int .i64 m.t.n, .slice m.A1 m.t.loans.length m.c1, .slice m.A2 m.t.looks.length m.c2, .slice m.A3 m.t.admits.length m.c3], .int .i64 p] w (Ret (RetWho (whoS m.t p)) w) := by
  have hmf : ∀ (fn : Fn) (first cap : Array Value) (w : World), (Instr.makeFunc fn first cap).run Tryd.prog w = .ok (.func fn first cap) w := fun _ _ _ _ => rfl
  have n1 := nxA w (.cells #[.int .i64 m.t.n, .slice m.A1 m.t.loans.length m.c1, .slice m.A2 m.t.looks.length m.c2, .slice m.A3 m.t.admits.length m.c3] 26)
  have y1 := Bx.new w #[.int .i64 m.t.n, .slice m.A1 m.t.loans.length m.c1, .slice m.A2 m.t.looks.length m.c2, .slice m.A3 m.t.admits.length m.c3] 26
  have s1 : (w.alloc (.cells #[.int .i64 m.t.n, .slice m.A1 m.t.loans.length m.c1, .slice m.A2 m.t.looks.length m.c2, .slice m.A3 m.t.admits.length m.c3] 26)).heap.size = w.heap.size + 1 := by simp
  have HR := Lib.hid hr
  have HE := Lib.hid he
  clear hr he
  refine (callsIn_wide (n := 6)).1 ?_
  refine callsIn_of_wp_marks Tryd.func18 rfl trivial ?_ rfl
  simp only [Tryd.ntmps18, List.size_toArray, List.length_cons, List.length_nil, Nat.reduceAdd, Nat.reduceSub, Array.replicate_succ, Array.replicate_zero, List.push_toArray, List.append_toArray, List.nil_append, List.cons_append]
  gi_wp2_with fail
  generalize w.alloc (.cells #[.int .i64 m.t.n, .slice m.A1 m.t.loans.length m.c1, .slice m.A2 m.t.looks.length m.c2, .slice m.A3 m.t.admits.length m.c3] 26) = V1 at *
  have n2 := nxA V1 (.cells #[.int .i64 p] 3)
  have y2 := Bx.new V1 #[.int .i64 p] 3
  have s2 : (V1.alloc (.cells #[.int .i64 p] 3)).heap.size = w.heap.size + 1 + 1 := by simp [s1]
  generalize V1.alloc (.cells #[.int .i64 p] 3) = V2 at *
  have n3 := nxA V2 (.cells #[.int .i64 0] 3)
  have y3 := Bx.new V2 #[.int .i64 0] 3
  generalize V2.alloc (.cells #[.int .i64 0] 3) = V at *
  rw [s1] at y2
  rw [s2] at y3
  have HB := Lib.hid (n1.trans ((n2.trans (n3.mono n2.size)).mono n1.size))
  have HX2 := Lib.hid ((y1.next n2).next n3)
  have HX3 := Lib.hid (y2.next n3)
  have HX4 := Lib.hid y3
  have HRV := Lib.hid (HR.out.next HB.out)
  clear n1 n2 n3 y1 y2 y3 s1 s2 hmf
  obtain ⟨v, hv⟩ : ∃ v, v = inS p 0 (m.t.n - 1) := ⟨_, rfl⟩
  have HV := Lib.hid hv
  have HW := Lib.hid (show whoS m.t p = if ckE m.t v = 0 then (setB (whoB m.t p.toNat) 8, 0) else (0, ckE m.t v) from by rw [hv]; exact whoS_ck _ _)
  refine ⟨trivial, (callsIn_wide.2 (checkW_any m v (w.heap.size + 1) w.heap.size V HRV.out (fun ok W hb => by rw [hv]; exact whoF_any m p _ _ W (HX3.out.next hb) (HX2.out.next hb) ⟨ok.n1, ok.n2⟩))).mono ?_⟩
  rintro e W1 ⟨hb1, m', g', rfl, hck⟩
  have HB1 := Lib.hid (HB.out.trans (hb1.mono HB.out.size))
  have X3 := Lib.hid (HX3.out.next hb1)
  have X4 := Lib.hid (HX4.out.next hb1)
  have HCK := Lib.hid hck
  have n6 := nxA W1 (.cells #[.int .i64 0, .slice none 0 0, .slice none 0 0, .slice none 0 0, .int .i64 0, .int .i64 0, .int .i64 0, .int .i64 0, .int .i64 0, .int .i64 0, .int .i64 0, .int .i64 0, .int .i64 0, .int .i64 0, .int .i64 0, .int .i64 0, .int .i64 0, .int .i64 0, .int .i64 0, .int .i64 0] 69)
  have y6 := Bx.new W1 #[.int .i64 0, .slice none 0 0, .slice none 0 0, .slice none 0 0, .int .i64 0, .int .i64 0, .int .i64 0, .int .i64 0, .int .i64 0, .int .i64 0, .int .i64 0, .int .i64 0, .int .i64 0, .int .i64 0, .int .i64 0, .int .i64 0, .int .i64 0, .int .i64 0, .int .i64 0, .int .i64 0] 69
  obtain ⟨L, hL⟩ : ∃ L, L = (bkA m' g').toList := ⟨_, rfl⟩
  have HL := Lib.hid hL
  have HL20 := Lib.hid (show L.length = 20 from by rw [hL]; rfl)
  have HLC := Lib.hid (show L.toArray.all (·.oneCell') = true from by rw [hL]; exact bk_one _ _)
  have HLA := Lib.hid (show bkA m' g' = L.toArray from by rw [hL, Array.toArray_toList])
  have HSA := Lib.hid (show (Tryd.prog.info? 69).map (·.size) = some L.toArray.size from by rw [show L.toArray.size = 20 from by simpa using HL20.out]; exact bk_size)
  have HTH := Lib.hid (show (W1.alloc (.cells #[.int .i64 0, .slice none 0 0, .slice none 0 0, .slice none 0 0, .int .i64 0, .int .i64 0, .int .i64 0, .int .i64 0, .int .i64 0, .int .i64 0, .int .i64 0, .int .i64 0, .int .i64 0, .int .i64 0, .int .i64 0, .int .i64 0, .int .i64 0, .int .i64 0, .int .i64 0, .int .i64 0] 69)).there W1.heap.size 0 L.toArray.size from by rw [show L.toArray.size = 20 from by simpa using HL20.out]; exact bk_there y6 rfl)
  have Z6 := Lib.hid (y6.setAll L (by rw [HL20.out]; rfl))
  have HBB := Lib.hid (show w.heap.size + 1 + 1 < W1.heap.size from X4.out.lt)
  have HB6 := Lib.hid (below_setCells (b := W1.heap.size) (by have := HB1.out.size; omega) L 0 (HB1.out.trans (n6.mono HB1.out.size)))
  have Z3 := Lib.hid ((X3.out.next n6).setOther (g := W1.heap.size) (by have := HBB.out; omega) L 0)
  have Z4 := Lib.hid ((X4.out.next n6).setOther (g := W1.heap.size) (by have := HBB.out; omega) L 0)
  rw [← wset_eq] at Z6 HB6 Z3 Z4
  rw [HLA.out]
  clear hL hb1 hck hv n6 y6
  gi_upto_region 2 with (refine wpListIn_store_mid rfl 69 (.tmp 6) (.tmp 12) rfl W1.heap.size 0 L.toArray rfl rfl HTH.out HSA.out HLC.out ?_)

  generalize (W1.alloc (.cells #[.int .i64 0, .slice none 0 0, .slice none 0 0, .slice none 0 0, .int .i64 0, .int .i64 0, .int .i64 0, .int .i64 0, .int .i64 0, .int .i64 0, .int .i64 0, .int .i64 0, .int .i64 0, .int .i64 0, .int .i64 0, .int .i64 0, .int .i64 0, .int .i64 0, .int .i64 0, .int .i64 0] 69)).setCells W1.heap.size 0 L = W6 at *
  obtain ⟨b6, hb6⟩ : ∃ b6, b6 = W1.heap.size := ⟨_, rfl⟩
  rw [← hb6] at Z6 HBB ⊢
  clear hb6
  by_cases h0 : ckE m.t v = 0
  · rw [h0]
    rw [h0] at HW
    rw [if_pos rfl] at HW
    obtain ⟨em, hg⟩ := HCK.out h0
    obtain rfl : m = m' := em.symm
    have HG := Lib.hid hg
    have HCZ := Lib.hid (ck_zero h0)
    have OK := Lib.hid (okT_of HCZ.out.1)
    have hip := inS_iff.1 (HV.out.symm.trans HCZ.out.2.1)
    obtain ⟨k, hk⟩ : ∃ k : Nat, p = k := ⟨p.toNat, by omega⟩
    subst hk
    have hn2 := OK.out.n2
    have hn1 := OK.out.n1
    have hkn : k < m.t.n.toNat := by omega
    have hk16 : k < 16 := by omega
    rw [show ((k : Int)).toNat = k from by omega] at HW
    clear h0 HCK hg hip em hn1 hn2
    have c3 := Z3.out.c 0 _ rfl
    have hcl := can_at m g' hk16
    rw [← HL.out] at hcl
    have c6 := Z6.out.c _ _ hcl
    have l6 := Z6.out.lt
    have l3 := Z3.out.lt
    have HGK := Lib.hid (show g' k = susp m.t.loans m.t.looks k from by rw [HG.out]; unfold opG; rw [if_pos hkn])
    rw [HGK.out] at c6
    obtain ⟨set, hset⟩ : ∃ set, set = susp m.t.loans m.t.looks k := ⟨_, rfl⟩
    rw [← hset] at c6 HGK
    have HSET := Lib.hid hset
    have HS256 := Lib.hid (show set < 256 by rw [hset]; exact susp_lt OK.out k)
    clear hset hcl
    gi_wp2_with fail
    refine ⟨trivial, (callsIn_wide.2 (members_any set _)).mono ?_⟩
    rintro e W7 ⟨rfl, rfl⟩
    gi_wp2_with fail
    have n8 := nxA W6 (.cells #[.int .i64 set] 3)
    have hz8 : (W6.alloc (.cells #[.int .i64 set] 3)).heap.size = W6.heap.size + 1 := by simp
    have hx8 : (W6.alloc (.cells #[.int .i64 set] 3)).cell? ⟨W6.heap.size, 0, none⟩ = some (.int .i64 set) := (Bx.new W6 #[.int .i64 set] 3).c 0 _ rfl
    have hB8 := HB6.out.trans (n8.mono HB6.out.size)
    have h0 : WhI m k b6 (gvB m.t k) w [] (W6.alloc (.cells #[.int .i64 set] 3)) := ⟨Z3.out.next n8, Z4.out.next n8, by have := Z6.out.next n8; rw [HL.out, HG.out] at this; exact this, hB8⟩
    have hbl := HB6.out.size
    generalize W6.alloc (.cells #[.int .i64 set] 3) = V8 at *
    have hseq := members1_stops 5 (by omega) set w.heap.size W6.heap.size V8 HS256.out (by omega) hx8 ⟨hB8.size, HE.out.lt, HE.out.next hB8⟩
    have HE8 := Lib.hid (HE.out.next hB8)
    have hH0 := Lib.hid h0
    clear n8 hx8
    refine wpIn_rangeFunc_ownH rfl (by omega) (gf := 61) (lb := #[.pointer (some ⟨W6.heap.size, 0, none⟩)]) rfl trivial (enters_of Tryd.func61 (by kernel_rfl) rfl)
      hseq (fun h k => Below.trans h k) (kb_put (by omega)) (Below.refl _ _) (fun _ => rfl)
      (WhI m k b6 (gvB m.t k) w) (fun _ _ _ => False) (WhI.own m k b6 (gvB m.t k) w (by have := hB8.size; omega)) (fun _ _ _ _ _ h _ _ => h) h0
      (fun x a' _ => a' = { tmps := #[.agg #[.int .i64 m.t.n, .slice m.A1 m.t.loans.length m.c1, .slice m.A2 m.t.looks.length m.c2, .slice m.A3 m.t.admits.length m.c3], .int .i64 k, .pointer (some ⟨w.heap.size, 0, none⟩), .pointer (some ⟨w.heap.size + 1, 0, none⟩), .pointer (some ⟨w.heap.size + 1 + 1, 0, none⟩), .int .i64 0, .pointer (some ⟨b6, 0, none⟩), .int .i64 (x.val : Nat), .tuple #[.agg L.toArray, .int .i64 0], .agg #[.int .i64 m.t.n, .slice m.A1 m.t.loans.length m.c1, .slice m.A2 m.t.looks.length m.c2, .slice m.A3 m.t.admits.length m.c3], .func (.func 40) #[] #[.pointer (some ⟨w.heap.size + 1, 0, none⟩), .pointer (some ⟨w.heap.size, 0, none⟩)], .tuple #[.agg L.toArray, .int .i64 0], .agg L.toArray, .int .i64 0, .int .i64 0, .bool false, undef, .int .i64 k, .pointer (some ⟨b6, 4, none⟩), .pointer (some ⟨b6, 4 + k, none⟩), .int .i64 set, .func (.func 61) #[] #[.pointer (some ⟨W6.heap.size, 0, none⟩)], .int .i64 (x.val : Nat), undef, undef, undef, undef, undef, undef, undef, undef, undef], defers := [] })
      (fun _ _ _ _ _ _ h _ _ => h)
      ?assign ?body ?done ?stop
    case assign =>
      rintro l' pre x W K hi hK
      dsimp only [encB]
      gi_wp2
      exact hK _ _ (kf_below (Below.refl _ _)) (Below.refl _ _) hi rfl
    case body =>
      rintro l' pre x a' W hl hloop hi rfl hlen
      obtain ⟨p, hp⟩ : ∃ p : Nat, x.val = p := ⟨_, rfl⟩
      have hp8 : p < 8 := by rw [← hp]; exact x.isLt
      have HI := Lib.hid hi
      have hXL : Bx W b6 L := by have := hi.x6; rw [← HG.out, ← HL.out] at this; exact this
      have HRNG := Lib.hid hXL.range
      have HSI := Lib.hid (show (Tryd.prog.info? 69).map (·.size) = some L.length from by rw [HL20.out]; exact bk_size)
      have c3 := hi.x3.c 0 _ rfl
      have HTW := Lib.hid ((HR.out.below hi.b).more hi.b.size)
      have HCON := Lib.hid (orW_rev (gvB m.t k) (pre.map Fin.val) p)
      have HMAP := Lib.hid (show (pre ++ [x]).map Fin.val = pre.map Fin.val ++ [p] by simp [hp])
      have hS256 : orW (gvB m.t k) (pre.map Fin.val) < 256 := orW_lt fun q hq => by
        obtain ⟨j, -, rfl⟩ := List.mem_map.1 hq
        exact j.isLt
      have c4 := hi.x4.c 0 _ rfl
      have f4 := hi.x4.fr 0
      have l4 := hi.x4.lt
      rw [hp]
      clear hi hXL hseq h0 hp hbl hz8 c6 l6 l3
      gi_wp2_with (refine wpListIn_load_mid rfl 69 (.tmp 6) rfl b6 0 rfl L _ HRNG.out bk_und rfl HSI.out ?_)
      rw [← HLA.out, HG.out]
      refine ⟨trivial, CallsIn.inRound l' (callsIn_wide.2 ((gives_bk m (opG m.t m.t.n.toNat) k p W HTW.out (op_bk OK.out) OK.out.a1 hkn).mono ?_))⟩
      rintro e W9 ⟨gb, rfl, hb9, hgv⟩
      have HGB := Lib.hid (show gb = gvB m.t k p from Bool.eq_iff_iff.2 (hgv.trans (gvB_iff OK.out hkn).symm))
      have HB9 := Lib.hid hb9
      have Y3 := Lib.hid (HI.out.x3.next hb9)
      have Y4 := Lib.hid (HI.out.x4.next hb9)
      have Y6 := Lib.hid (HI.out.x6.next hb9)
      have YB := Lib.hid (HI.out.b.trans (hb9.mono HI.out.b.size))
      have hWz := HI.out.b.size
      have HWZ := Lib.hid hWz
      have c4 := Y4.out.c 0 _ rfl
      have f4 := Y4.out.fr 0
      have l4 := Y4.out.lt
      generalize orW (gvB m.t k) (pre.map Fin.val) = S at *
      clear hb9 hgv HI
      cases gb
      · have HG2 := Lib.hid (show orW (gvB m.t k) ((pre ++ [x]).map Fin.val) = S from by rw [HMAP.out, HCON.out, ← HGB.out]; exact Nat.or_zero _)
        gi_wp2_with fail
        dsimp only [Exit.inBlock, Exit.then, ownPostG]
        exact ⟨kf_below HB9.out, HB9.out.mono HWZ.out, Y3.out, by rw [HG2.out]; exact Y4.out, Y6.out, YB.out⟩
      · have HG2 := Lib.hid (show orW (gvB m.t k) ((pre ++ [x]).map Fin.val) = S ||| 2 ^ p from by rw [HMAP.out, HCON.out, ← HGB.out]; rfl)
        have HOR := Lib.hid (show bits BinOp.or IntKind.i64 (S : Int) (IntKind.i64.wrap (2 ^ p)) = ((S ||| 2 ^ p : Nat) : Int) from by
          obtain ⟨T, hT⟩ : ∃ T : Nat, T = 2 ^ p := ⟨_, rfl⟩
          have hT128 : T ≤ 128 := by rw [hT]; exact Nat.pow_le_pow_right (by decide) (show p ≤ 7 by omega)
          rw [show ((2 : Int) ^ p) = (T : Int) by rw [hT]; push_cast; rfl, ← hT, IntWalk.i64_in _ (by omega)]
          exact i64_or_nat _ _ (by omega) (by omega))
        gi_upto_region 7 with fail
        refine region_in (S := (fun W' => True)) (by kernel_rfl) (by kernel_rfl) ?_ (fun hHeld => ?_)
        · (try dsimp only); try trivial
        refine htake (i := 1) (v := ?v1) rfl (by kernel_rfl) (by kernel_rfl) (by kernel_rfl) (fun _ _ _ h => h) (Or.inl ⟨by rfl, ?hy1⟩) (by assumption) ?_
        case hy1 => (intro w hSw; (try dsimp only at hSw); go_simp; try (with_reducible rfl))
        try simp only [Act.put, List.setIfInBounds_toArray, List.set_cons_zero, List.set_cons_succ]
        refine htake (i := 2) (v := ?v2) rfl (by kernel_rfl) (by kernel_rfl) (by kernel_rfl) (fun _ _ _ h => h) (Or.inl ⟨by rfl, ?hy2⟩) (by assumption) ?_
        case hy2 => (intro w hSw; (try dsimp only at hSw); go_simp; try (with_reducible rfl))
        try simp only [Act.put, List.setIfInBounds_toArray, List.set_cons_zero, List.set_cons_succ]
        refine wpAnyH_ready (rs := [0]) (by kernel_rfl) (by simp) ?_
        refine hcons rfl (fun K hK => ?_) (AllReadyH.nil)
        go_simp
        skip
        refine hK.out _ _ ?_ (fun hHeld => ?_)
        · (try dsimp only); try trivial
        clear hK K
        try simp only [Act.put, List.setIfInBounds_toArray, List.set_cons_zero, List.set_cons_succ]
        refine htake (i := 3) (v := ?v3) rfl (by kernel_rfl) (by kernel_rfl) (by kernel_rfl) (fun _ _ _ h => h) (Or.inl ⟨by rfl, ?hy3⟩) (by assumption) ?_
        case hy3 => (intro w hSw; (try dsimp only at hSw); go_simp; try (with_reducible rfl))
        try simp only [Act.put, List.setIfInBounds_toArray, List.set_cons_zero, List.set_cons_succ]
        refine wpAnyH_ready (rs := [4]) (by kernel_rfl) (by simp) ?_
        refine hcons rfl (fun K hK => ?_) (AllReadyH.nil)
        go_simp
        skip
        refine hK.out _ _ ?_ (fun hHeld => ?_)
        · (try dsimp only); try trivial
        clear hK K
        try simp only [Act.put, List.setIfInBounds_toArray, List.set_cons_zero, List.set_cons_succ]
        refine wpAnyH_done (by kernel_rfl) ?_ _
        dsimp only [Only]
        iterate 6 (try clear hHeld)
        rw [HOR.out]
        have HX4 := Lib.hid ((Y4.out.set (k := 0) (by simp) (.int .i64 ((S ||| 2 ^ p : Nat) : Int))).drew)
        have HX3 := Lib.hid ((Y3.out.other (g := w.heap.size + 1 + 1) (by omega) 0 (.int .i64 ((S ||| 2 ^ p : Nat) : Int))).drew)
        have HX6 := Lib.hid ((Y6.out.other (g := w.heap.size + 1 + 1) (by have := HBB.out; omega) 0 (.int .i64 ((S ||| 2 ^ p : Nat) : Int))).drew)
        have HYB := Lib.hid ((YB.out.setCell (p := ⟨w.heap.size + 1 + 1, 0, none⟩) (by show w.heap.size ≤ w.heap.size + 1 + 1; omega) (.int .i64 ((S ||| 2 ^ p : Nat) : Int))).drew)
        have HK := Lib.hid (show KeepsFrom V8.heap.size W ((W9.setCell ⟨w.heap.size + 1 + 1, 0, none⟩ (.int .i64 ((S ||| 2 ^ p : Nat) : Int))).drew) from (kf_below HB9.out).trans (((KeepsOthers.setCell _ _ _).from _).trans (kf_below ((Below.refl _ _).drew))))
        have HBn := Lib.hid (show Below w.heap.size W ((W9.setCell ⟨w.heap.size + 1 + 1, 0, none⟩ (.int .i64 ((S ||| 2 ^ p : Nat) : Int))).drew) from ((HB9.out.mono HWZ.out).setCell (p := ⟨w.heap.size + 1 + 1, 0, none⟩) (by show w.heap.size ≤ w.heap.size + 1 + 1; omega) _).drew)
        clear c4 f4 l4
        generalize (W9.setCell ⟨w.heap.size + 1 + 1, 0, none⟩ (.int .i64 ((S ||| 2 ^ p : Nat) : Int))).drew = W10 at *
        gi_wp2_with fail
        dsimp only [Exit.inBlock, Exit.then, ownPostG]
        exact ⟨HK.out, HBn.out, HX3.out, by rw [HG2.out]; exact HX4.out, HX6.out, HYB.out⟩
    case done =>
      rintro D xs W hD hS hi hK
      have HOUT := Lib.hid (show orW (gvB m.t k) (xs.map Fin.val) = setB (whoB m.t k) 8 from by
        rw [hS, ← orW_all HS256.out (fun p hp => by have := who_susp OK.out hkn hp; rw [HSET.out]; exact this)]
        exact orW_congr fun p hp => (who_gv OK.out hkn (by have := bits_mem hp; rw [HSET.out] at this; exact this)).symm)
      have hx4 := hi.x4
      rw [HOUT.out] at hx4
      have HX4 := Lib.hid hx4
      have HBW := Lib.hid hi.b
      have c4 := hx4.c 0 _ rfl
      have f4 := hx4.fr 0
      have l4 := hx4.lt
      have hne : w.heap.size + 1 + 1 ≠ D := fun e => by
        obtain ⟨o, ho, hc⟩ := cells_of_cell c4
        rw [e] at ho
        have ho : W.heap[D]? = some o := ho
        rw [hK] at ho
        injection ho with ho
        rw [← ho] at hc
        cases hc
      have HK := Lib.hid hK
      generalize setB (whoB m.t k) 8 = R at *
      have HXN := Lib.hid (hx4.set (k := 0) (by simp) (.int .i64 (R : Int)))
      have HKN := Lib.hid (show (W.setCell ⟨w.heap.size + 1 + 1, 0, none⟩ (.int .i64 (R : Int))).heap[D]? = _ from (blkSet hne 0 (.int .i64 (R : Int))).trans hK)
      have HBN := Lib.hid (hi.b.setCell (p := ⟨w.heap.size + 1 + 1, 0, none⟩) (by show w.heap.size ≤ w.heap.size + 1 + 1; omega) (.int .i64 (R : Int)))
      clear hx4 hi hK hseq h0 hS
      gi_wp2_with fail
      refine ⟨by simp, .inl ⟨_, _, rfl, run_takeDeferred HKN.out, ?_⟩⟩
      refine ⟨_, results_cellA rfl rfl (loadI (HXN.out.nc (by simp) (grownBy_putObj' _ D _) (fun r e => by cases e; exact ⟨_, HKN.out, rfl⟩))), ?_, HBN.out.trans (belowK_b (w := w) (Nat.le_refl _) _ D _ _ (by have := hB8.size; omega) HKN.out rfl rfl)⟩
      rw [HW.out]
      rfl
    case stop =>
      rintro D c pre W _ _ h _
      exact h.elim
  · rw [if_neg h0] at HW
    generalize ckE m.t v = x at *
    have hx : (x == 0) = false := by simpa using h0
    have hx2 : (x != 0) = true := by simpa using h0
    have c4 := Z4.out.c 0 _ rfl
    have f4 := Z4.out.fr 0
    have l4 := Z4.out.lt
    have HXN := Lib.hid (Z4.out.set (k := 0) (by simp) (.int .i64 0))
    have HBN := Lib.hid (HB6.out.setCell (p := ⟨w.heap.size + 1 + 1, 0, none⟩) (by show w.heap.size ≤ w.heap.size + 1 + 1; omega) (.int .i64 0))
    clear h0
    gi_wp2_with fail
    exact ⟨_, results_cellA rfl rfl (loadI HXN.out), by rw [HW.out]; rfl, HBN.out⟩
end Go.Proofs.YtkcfpnpejaekjaaDoor
