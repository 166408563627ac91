import Derived.Test.YtjlicbdnppodgaaP10
import Derived.Test.YtjlicbdnppodgaaL3
import Derived.Test.YtjlicbdnppodgaaSwp
import Derived.Test.YtjlicbdnppodgaaP6
namespace Go.Proofs.Ytjlicbdnppodgaa
open Go.RowKit
open Go.Maps (Keyed)
attribute [local go_sem] Oper.semAt_some
/-! The range over the cells of a rectangle, and over the keys of a map. -/
/-- The k-th cell of a rectangle, row by row. -/
def recC (x0 y0 : Int) (m : Nat) (k : Nat) : Pt := (x0 + ((k % m : Nat) : Int), y0 + ((k / m : Nat) : Int))
def encR (x0 y0 : Int) (m N : Nat) (k : Fin N) : Array Value := #[.agg #[.int .i64 (recC x0 y0 m k.1).1, .int .i64 (recC x0 y0 m k.1).2]]
theorem cells_any (x0 y0 x1 y1 : Int) (w : World) : Calls Try.prog 75 #[.agg #[.int .i64 x0, .int .i64 y0, .int .i64 x1, .int .i64 y1]] w fun e w' => e = .returned (.func (.func 78) #[] #[.pointer (some ⟨w.heap.size, 0, none⟩)]) ∧ w' = w.alloc (.cells #[.int .i64 x0, .int .i64 y0, .int .i64 x1, .int .i64 y1] 98) := by
  go_enter Try.func75, Try.ntmps75
  go_wp2
  go_ret
  exact ⟨rfl, rfl⟩
def rectL (x0 y0 x1 y1 : Int) : List Value := [.int .i64 x0, .int .i64 y0, .int .i64 x1, .int .i64 y1]
structure RCo (x0 y0 x1 y1 : Int) (m h N bc : Nat) (W0 : World) (J : List (Fin N) → World → Prop) (yv : Value) (W : World) (a : Nat) : Prop where
  ha : a ≤ h
  y : yv = .int .i64 (y0 + (a : Int))
  bx : Bx W bc (rectL x0 y0 x1 y1)
  z : W0.heap.size ≤ W.heap.size
  j : J ((List.finRange N).take (a * m)) W
structure RCi (x0 y0 x1 y1 : Int) (m a N bc : Nat) (W0 : World) (J : List (Fin N) → World → Prop) (xv : Value) (W : World) (b : Nat) : Prop where
  hb : b ≤ m
  x : xv = .int .i64 (x0 + (b : Int))
  bx : Bx W bc (rectL x0 y0 x1 y1)
  z : W0.heap.size ≤ W.heap.size
  j : J ((List.finRange N).take (a * m + b)) W
theorem take_fin {N k : Nat} (h : k < N) : (List.finRange N).take (k + 1) = (List.finRange N).take k ++ [⟨k, h⟩] := by
  rw [List.take_succ_eq_append_getElem (by simpa using h)]
  congr 1
  simp
set_option maxRecDepth 100000 in
set_option maxHeartbeats 1000000 in
theorem cells1_stops (n : Nat) (hn : 1 ≤ n) (x0 y0 x1 y1 : Int) (m h N : Nat) (hm : (m : Int) = x1 - x0) (hh : (h : Int) = y1 - y0) (hN : N = h * m) (bc : Nat) (w : World) (hp : 0 ≤ x0 ∧ x1 ≤ 100 ∧ 0 ≤ y0 ∧ y1 ≤ 100 ∧ 1 ≤ m) (hbc : Bx w bc (rectL x0 y0 x1 y1)) :
    SeqStopsK Fence.wide n Try.prog 78 #[.pointer (some ⟨bc, 0, none⟩)] (encR x0 y0 m N) (KpC bc) (fun xs => xs = List.finRange N) (fun pre => pre <+: List.finRange N) N w := by
  intro l J Jx W hW hJ hJx hY h0
  have hB := Lib.hid (hbc.next hW)
  have HY := Lib.hid hY
  have H0 := Lib.hid h0
  clear hW hY h0 hJ hJx hbc
  refine callsIn_of_wp Try.func78 rfl trivial ?_ rfl
  simp only [Try.ntmps78, List.size_toArray, List.length_cons, List.length_nil, Nat.reduceAdd, Nat.reduceSub, Array.replicate_succ, Array.replicate_zero, List.push_toArray, List.append_toArray, List.nil_append, List.cons_append]
  have c1 := hB.out.c 1 _ rfl
  gi_wp2
  clear c1
  gi_loopw [3] (fun yv wr => ∃ a, RCo x0 y0 x1 y1 m h N bc W J yv wr a) (fun yv _ => (y1 - intOf yv).toNat)
  case atStart => exact ⟨0, by omega, by simp, hB.out, Nat.le_refl _, by rw [Nat.zero_mul, List.take_zero]; exact H0.out⟩
  case round =>
    obtain ⟨a, hr⟩ := hrel
    obtain rfl := hr.y
    have ha := hr.ha
    have HR := Lib.hid hr
    have c0 := hr.bx.c 0 _ rfl
    have c1 := hr.bx.c 1 _ rfl
    have c2 := hr.bx.c 2 _ rfl
    have c3 := hr.bx.c 3 _ rfl
    generalize wr = Wo at *
    clear hr
    by_cases hlt : a < h
    · obtain ⟨yz, hyz⟩ : ∃ yz, yz = y0 + (a : Int) := ⟨_, rfl⟩
      have HYZ := Lib.hid hyz
      have hyb : yz < y1 := by omega
      have hw1 : IntKind.i64.wrap (yz + 1) = yz + 1 := IntWalk.i64_in _ (by omega)
      rw [← hyz]
      clear hyz
      gi_wp2_with fail
      gi_loopw [4] (fun xv wr => ∃ b, RCi x0 y0 x1 y1 m a N bc W J xv wr b) (fun xv _ => (x1 - intOf xv).toNat)
      case atStart => exact ⟨0, by omega, by simp, HR.out.bx, HR.out.z, by rw [Nat.add_zero]; exact HR.out.j⟩
      case round =>
        clear c0 c1 c2 c3
        obtain ⟨b, hr⟩ := hrel
        obtain rfl := hr.x
        have hb := hr.hb
        have HRi := Lib.hid hr
        have c0 := hr.bx.c 0 _ rfl
        have c1 := hr.bx.c 1 _ rfl
        have c2 := hr.bx.c 2 _ rfl
        have c3 := hr.bx.c 3 _ rfl
        generalize wr = Wi at *
        by_cases hlb : b < m
        · have hkN : a * m + b < N := by
            rw [hN]
            have : a * m + m ≤ h * m := by rw [← Nat.succ_mul]; exact Nat.mul_le_mul_right m hlt
            omega
          obtain ⟨fn, tmps, assign, body, hy, hR⟩ := HY.out ((List.finRange N).take (a * m + b)) (⟨a * m + b, hkN⟩ : Fin N) _ hr.j (by simp; omega)
          have hmod : (a * m + b) % m = b := by rw [Nat.mul_comm, Nat.mul_add_mod, Nat.mod_eq_of_lt hlb]
          have hdiv : (a * m + b) / m = a := by rw [Nat.mul_comm, Nat.mul_add_div (by omega), Nat.div_eq_of_lt hlb]; rfl
          dsimp only [encR, recC] at hy
          rw [hmod, hdiv, ← HYZ.out] at hy
          have HR2 := Lib.hid hR
          obtain ⟨xz, hxz⟩ : ∃ xz, xz = x0 + (b : Int) := ⟨_, rfl⟩
          rw [← hxz] at hy ⊢
          have HXZ := Lib.hid hxz
          have hxb : xz < x1 := by omega
          have hw2 : IntKind.i64.wrap (xz + 1) = xz + 1 := IntWalk.i64_in _ (by omega)
          clear hR hr hmod hdiv hxz
          gi_wp2_with fail
          refine HR2.out.mono ?_
          rintro e W3 (⟨rfl, hJ3, hk3⟩ | ⟨rfl, hJx3⟩)
          · have HF := Lib.hid (show RCi x0 y0 x1 y1 m a N bc W J (.int .i64 (xz + 1)) W3 (b + 1) from ⟨by omega, by rw [HXZ.out]; congr 1; omega, HRi.out.bx.of hk3.1 hk3.2, Nat.le_trans HRi.out.z hk3.1, by rw [show a * m + (b + 1) = a * m + b + 1 by omega, take_fin hkN]; exact hJ3⟩)
            clear hJ3 hk3
            gi_wp2
            refine ⟨⟨b + 1, HF.out⟩, ?_⟩
            simp [intOf]; omega
          · gi_wp2
            refine bodyPost_ret (results_none rfl _ _ _) rfl ?_
            refine ⟨⟨_, rfl⟩, .inr ⟨_, ?_, hJx3⟩⟩
            rw [← take_fin hkN]
            exact List.take_prefix _ _
        · obtain rfl : b = m := by omega
          obtain ⟨xz, hxz⟩ : ∃ xz, xz = x0 + (b : Int) := ⟨_, rfl⟩
          rw [← hxz]
          have hxb : ¬ xz < x1 := by omega
          have HF := Lib.hid (show RCo x0 y0 x1 y1 b h N bc W J (.int .i64 (yz + 1)) Wi (a + 1) from ⟨by omega, by rw [HYZ.out]; congr 1; omega, hr.bx, hr.z, by rw [Nat.add_mul, Nat.one_mul]; exact hr.j⟩)
          clear hr hxz
          gi_wp2_with fail
          refine ⟨⟨a + 1, HF.out⟩, ?_⟩
          simp [intOf]; omega
    · obtain rfl : a = h := by omega
      obtain ⟨yz, hyz⟩ : ∃ yz, yz = y0 + (a : Int) := ⟨_, rfl⟩
      rw [← hyz]
      have hyb : ¬ yz < y1 := by omega
      clear hyz
      gi_wp2_with fail
      go_end0
      have := HR.out.j
      rw [← hN, List.take_of_length_le (by simp)] at this
      exact ⟨⟨_, rfl⟩, .inl this⟩
/-! The keys of a map. -/
abbrev KeyI (f : Int → Option Int) := { x : Int // I64 x ∧ (f x).isSome = true }
def encK (f : Int → Option Int) (x : KeyI f) : Array Value := #[.int .i64 x.1]
theorem keys_any (b : Nat) (w : World) : Calls Try.prog 73 #[.map (some b)] w fun e w' => e = .returned (.func (.func 77) #[] #[.pointer (some ⟨w.heap.size, 0, none⟩)]) ∧ w' = w.alloc (.cells #[.map (some b)] 114) := by
  go_enter Try.func73, Try.ntmps73
  go_wp2
  go_ret
  exact ⟨rfl, rfl⟩
def KpM (bc b : Nat) (W W' : World) : Prop := W.heap.size ≤ W'.heap.size ∧ W'.heap[bc]? = W.heap[bc]? ∧ W'.heap[b]? = W.heap[b]? ∧ ∀ (r : Nat) (o : Obj), W.heap[r]? = some o → o.isWalk = true → W'.heap[r]? = some o
theorem KpM.trans {bc b : Nat} {A B C : World} (h : KpM bc b A B) (k : KpM bc b B C) : KpM bc b A C := ⟨Nat.le_trans h.1 k.1, k.2.1.trans h.2.1, k.2.2.1.trans h.2.2.1, fun r o e hw => k.2.2.2 r o (h.2.2.2 r o e hw) hw⟩
theorem kpm_put {bc b : Nat} {w : World} (hb : bc < w.heap.size ∧ b < w.heap.size) (W : World) (l : Nat) (o o' : Obj) (hl : w.heap.size ≤ l) (ho : W.heap[l]? = some o) (_ : o.isCells = false) (hw : o.isWalk = false) : KpM bc b W (W.putObj l o') :=
  ⟨(grownBy_putObj' W l o').size, World.putObj_heap_other (by omega), World.putObj_heap_other (by omega), fun r o2 e h => by
    rw [World.putObj_heap_other (fun e2 => by subst e2; rw [ho] at e; injection e with e; subst e; rw [hw] at h; cases h)]
    exact e⟩
def cntM (b : Nat) (W : World) : Nat := match W.heap[b]? with
  | some (.map es _) => (leftOf es #[]).size
  | _ => 0
theorem range_cnt {α β : Type} [DecidableEq α] {P : Program} {k : TypeId} {kv : α → Value} {vv : β → Value} {b : Nat} {f : α → Option β} {W : World} (h : MapIs P k kv vv b f W) {t e : TypeId} (ht : P.underlying t = some (.map k e)) :
    ∃ W' o, (Instr.range t (.map (some b))).run P W = .ok (.pointer (some ⟨W.heap.size, 0, none⟩)) W' ∧ RangeIs P k kv vv b W.heap.size f (fun _ => false) (cntM b W) W' ∧ W' = W.alloc o := by
  have hlt := h.lt
  obtain ⟨es, clock, hb, hh⟩ := h
  refine ⟨_, _, run_range_map W t k e b es clock ht hb, ⟨es, clock, clock, #[], clock, (heap_alloc_old W _ hlt).trans hb, hh, heap_alloc_new _ _, hh.st.1, Nat.le_refl _, Nat.le_refl _, by unfold cntM; rw [hb], fun x _ p _ => by simp, fun p h => by cases h⟩, rfl⟩
theorem RangeIs.walk {α β : Type} [DecidableEq α] {P : Program} {k : TypeId} {kv : α → Value} {vv : β → Value} {b r cnt : Nat} {f : α → Option β} {done : α → Bool} {W : World} (h : RangeIs P k kv vv b r f done cnt W) : ∃ o : Obj, W.heap[r]? = some o ∧ o.isWalk = true := by
  obtain ⟨es, clock, since, seen, c0, -, -, h3, -⟩ := h
  exact ⟨_, h3, rfl⟩
structure RKey (f : Int → Option Int) (bc b r N : Nat) (W0 : World) (J : List (KeyI f) → World → Prop) (W : World) (pre : List (KeyI f)) (done : Int → Bool) (cnt : Nat) : Prop where
  rg : RangeIs Try.prog 3 vvI vvI b r f done cnt W
  bx : Bx W bc [.map (some b)]
  z : W0.heap.size ≤ W.heap.size
  r : W0.heap.size ≤ r
  d : ∀ x : KeyI f, x ∈ pre ↔ done x.1 = true
  n : pre.length + cnt ≤ N
  j : J pre W
set_option maxRecDepth 100000 in
set_option maxHeartbeats 1000000 in
theorem keys1_stops (n : Nat) (hn : 1 ≤ n) (f : Int → Option Int) (hf : ∀ k, (f k).isSome = true → I64 k) (bc b : Nat) (w : World) (hbc : Bx w bc [.map (some b)]) (hm : MapIs Try.prog 3 vvI vvI b f w) :
    SeqStopsK Fence.wide n Try.prog 77 #[.pointer (some ⟨bc, 0, none⟩)] (encK f) (KpM bc b) (fun xs => ∀ x : KeyI f, x ∈ xs) (fun _ => True) (cntM b w) w := by
  intro l J Jx W hW hJ hJx hY h0
  have hB := Lib.hid (hbc.next hW)
  have hM := hm.next hW
  have hc : cntM b W = cntM b w := by unfold cntM; rw [hW.block b hm.lt]
  have HFK := Lib.hid hf
  obtain ⟨W0, o, hrun, hR0, hW0⟩ := range_cnt hM mapI_und
  rw [hc] at hR0
  have hg0 : W.grownBy W0 none := by rw [hW0]; exact World.grownBy_alloc W o none
  have hJ0 := hJ _ _ _ none h0 hg0 (fun r e => by cases e)
  have HY := Lib.hid hY
  have HJ := Lib.hid hJ
  obtain ⟨r, hr⟩ : ∃ r, r = W.heap.size := ⟨_, rfl⟩
  rw [← hr] at hrun hR0
  have H0 := Lib.hid (show RKey f bc b r (cntM b w) W J W0 [] (fun _ => false) (cntM b w) from ⟨hR0, hB.out.gk hg0 (fun r e => by cases e), hg0.size, by omega, fun x => by simp, by simp, hJ0⟩)
  have HBC := Lib.hid (show bc < r ∧ b < r from by have := hB.out.lt; have := hM.lt; omega)
  generalize cntM b w = N at *
  have c0 := hB.out.c 0 _ rfl
  clear hW hY h0 hJ hJx hbc hm hM hc hf hR0 hJ0 hg0 hW0
  refine callsIn_of_wp Try.func77 rfl trivial ?_ rfl
  simp only [Try.ntmps77, List.size_toArray, List.length_cons, List.length_nil, Nat.reduceAdd, Nat.reduceSub, Array.replicate_succ, Array.replicate_zero, List.push_toArray, List.append_toArray, List.nil_append, List.cons_append]
  have HRE := Lib.hid hr
  clear hr
  gi_wp2_with fail
  clear hrun c0
  gi_loopw [] (fun wr => ∃ pre done cnt, RKey f bc b r N W J wr pre done cnt) (fun wr => leftW b r wr)
  case atStart => exact ⟨_, _, _, H0.out⟩
  case round =>
    obtain ⟨pre, done, cnt, hr⟩ := hrel
    have HR := Lib.hid hr
    have HL := Lib.hid hr.rg.left
    generalize wr = Wo at *
    rcases hr.rg.step kvI_inj 0 with ⟨h0, hall, hnx⟩ | ⟨p, v, W2, cnt2, hfp, hdn, -, hnx, hr2, hlt2, hg2, hz2, hent⟩
    · have HALL := Lib.hid hall
      clear hr hall
      gi_wp2_with fail
      go_end0
      exact ⟨⟨_, rfl⟩, .inl ⟨pre, fun x => by rw [HR.out.d x, HALL.out x.1]; exact x.2.2, HR.out.j⟩⟩
    · unfold vvI at hnx hent
      have hp : I64 p := HFK.out p (by rw [hfp]; rfl)
      have hJ2 := HJ.out _ _ _ (some r) hr.j hg2 (fun q e => by
        injection e with e
        subst e
        exact ⟨by have := HRE.out; omega, hr.rg.walk⟩)
      have hps : (f p).isSome = true := by rw [hfp]; rfl
      obtain ⟨fn, tmps, assign, body, hy, hR⟩ := HY.out pre ⟨p, hp, hps⟩ _ hJ2 (by have := hr.n; omega)
      dsimp only [encK] at hy
      have HR2 := Lib.hid hR
      have hb := HBC.out
      have hx2 := hr.bx.gk hg2 (fun q e => by injection e with e; omega)
      have HKP := Lib.hid (fun (W' : World) (h : KpM bc b W2 W') (hJ' : J (pre ++ [⟨p, hp, hps⟩]) W') => (show RKey f bc b r N W J W' (pre ++ [⟨p, hp, hps⟩]) (fun q => done q || decide (q = p)) cnt2 from ⟨by
          obtain ⟨o, ho, hw⟩ := hr2.walk
          exact hr2.of h.2.2.1 ((h.2.2.2 r o ho hw).trans ho.symm), hx2.of h.1 h.2.1, Nat.le_trans hr.z (Nat.le_trans hg2.size h.1), hr.r, fun x => by
          rw [List.mem_append, List.mem_singleton, hr.d x]
          simp only [Bool.or_eq_true, decide_eq_true_eq]
          constructor
          · rintro (h | h)
            · exact .inl h
            · exact .inr (by rw [h])
          · rintro (h | h)
            · exact .inl h
            · exact .inr (Subtype.ext h), by rw [List.length_append, List.length_singleton]; have := hr.n; omega, hJ'⟩))
      have HLT := Lib.hid hlt2
      have HD := Lib.hid hdn
      clear hR hr hJ2 hr2 hlt2 hg2 hz2 hfp hdn hx2 hb
      gi_wp2_with fail
      refine HR2.out.mono ?_
      rintro e W3 (⟨rfl, hJ3, hk3⟩ | ⟨rfl, hJx3⟩)
      · have HF := Lib.hid (HKP.out W3 hk3 hJ3)
        clear hJ3 hk3
        gi_wp2
        refine ⟨⟨_, _, _, HF.out⟩, ?_⟩
        rw [HF.out.rg.left, HL.out]
        exact HLT.out
      · gi_wp2
        refine bodyPost_ret (results_none rfl _ _ _) rfl ?_
        exact ⟨⟨_, rfl⟩, .inr ⟨_, trivial, hJx3⟩⟩
end Go.Proofs.Ytjlicbdnppodgaa
