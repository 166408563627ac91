import Derived.Test.YtkcfpnpejaekjaaDoorP13
import Derived.Test.YtkcfpnpejaekjaaDoorL0
import Derived.BigRegion
import Derived.Laws.BitsAllLaws
import Derived.Laws.Bits64b
namespace Go.Proofs.YtkcfpnpejaekjaaDoor
open Go.RowKit
def deB : List Nat := [0, 1, 56, 2, 57, 49, 28, 3, 61, 58, 42, 50, 38, 29, 17, 4, 62, 47, 59, 36, 45, 43, 51, 22, 53, 39, 33, 30, 24, 18, 12, 5, 63, 55, 48, 27, 60, 41, 37, 16, 46, 35, 44, 21, 52, 32, 23, 11, 54, 26, 40, 15, 34, 20, 31, 10, 25, 14, 19, 9, 13, 8, 7, 6]
/-- The table of math/bits, as the program's text lays it. -/
structure Env (w : World) : Prop where
  lt : 1 < w.heap.size
  cell : ∀ j, j < 64 → w.cell? ⟨1, j, none⟩ = some (.int .u8 ((deB.getD j 0 : Nat) : Int))
theorem Env.next {w w' : World} (h : Env w) (hb : Below w.heap.size w w') : Env w' :=
  ⟨Nat.lt_of_lt_of_le h.lt hb.size, fun j hj => (hb.cell (p := ⟨1, j, none⟩) h.lt).trans (h.cell j hj)⟩
def ctz (x : Nat) : Nat := ((List.range 9).find? fun i => x.testBit i).getD 0
def tzi (x : Nat) : Nat := (2 ^ ctz x * 285870213051353865 % 18446744073709551616) / 288230376151711744
theorem tz_low : ∀ x : Nat, x < 512 → 0 < x → x &&& (18446744073709551616 - x) = 2 ^ ctz x ∧ tzi x < 64 ∧ deB.getD (tzi x) 0 = ctz x ∧ ctz x < 9 := by decide +kernel
theorem tz_key (x : Nat) (hx : x < 512) (h0 : 0 < x) : IntKind.u64.wrap (bits BinOp.and IntKind.u64 (x : Int) (IntKind.u64.wrap (-(x : Int))) * 285870213051353865) / 288230376151711744 = (tzi x : Int) ∧ tzi x < 64 ∧ deB.getD (tzi x) 0 = ctz x ∧ ctz x < 9 := by
  obtain ⟨hlow, hr⟩ := tz_low x hx h0
  refine ⟨?_, hr⟩
  have e1 : IntKind.u64.wrap (-(x : Int)) = ((18446744073709551616 - x : Nat) : Int) := by rw [IntKind.wrap_u64]; omega
  rw [e1, bits_and_u64_nat x _ (by omega) (by omega), hlow, IntKind.wrap_u64]
  unfold tzi
  generalize 2 ^ ctz x = a
  omega
theorem ctz_spec : ∀ x : Nat, x < 512 → 0 < x → x.testBit (ctz x) = true ∧ (∀ j, j < ctz x → x.testBit j = false) ∧ (∀ j, j < 9 → (x &&& (x - 1)).testBit j = (x.testBit j && decide (j ≠ ctz x))) ∧ x &&& (x - 1) < x := by decide +kernel
set_option maxHeartbeats 1000000 in
theorem tz64_core (x k idx : Nat) (w : World) (hx0 : ((x : Int) == 0) = false)
    (key : IntKind.u64.wrap (bits BinOp.and IntKind.u64 (x : Int) (IntKind.u64.wrap (-(x : Int))) * 285870213051353865) / 288230376151711744 = (idx : Int))
    (hi : idx < 64) (hk : k < 64) (hcell : w.cell? ⟨1, idx, none⟩ = some (.int .u8 k)) :
    Calls Tryd.prog 71 #[.int .u64 x] w fun e w' => e = .returned (.int .i64 k) ∧ w' = w := by
  go_enter Tryd.func71, Tryd.ntmps71
  go_wp2_with (simp only [key])
  go_ret
  exact ⟨rfl, rfl⟩
theorem tz64_any (x : Nat) (w : World) (h0 : 0 < x) (h1 : x < 512) (he : Env w) : Calls Tryd.prog 71 #[.int .u64 x] w (RetQ (.int .i64 (ctz x)) w) := by
  obtain ⟨key, hi, hd, hc9⟩ := tz_key x h1 h0
  have hcell := he.cell (tzi x) hi
  rw [hd] at hcell
  exact (tz64_core x (ctz x) (tzi x) w (by rw [beq_eq_false_iff_ne]; omega) key hi (by omega) hcell).mono fun _ _ h => ⟨h.1, h.2.symm⟩
set_option maxHeartbeats 400000 in
theorem tz_any (x : Nat) (w : World) (h0 : 0 < x) (h1 : x < 512) (he : Env w) : Calls Tryd.prog 62 #[.int .u64 x] w (RetQ (.int .i64 (ctz x)) w) := by
  go_enter Tryd.func62, Tryd.ntmps62
  go_wp2_with (go_at_call 71; (with_reducible refine (tz64_any x _ h0 h1 he).mono ?_); rintro e w' ⟨rfl, rfl⟩)
  go_ret
  exact retq_int rfl
/-! The blades of a set. -/
def bitsOf (x : Nat) : List Nat := (List.range 9).filter fun i => has x i
theorem bits_cons : ∀ x : Nat, x < 512 → 0 < x → bitsOf x = ctz x :: bitsOf (x &&& (x - 1)) ∧ 2 ^ ctz x ≤ x ∧ x &&& (x - 1) < x := by decide +kernel
theorem bits_nil : bitsOf 0 = [] := by decide +kernel
theorem bits_len (x : Nat) : (bitsOf x).length ≤ 9 := Nat.le_trans (List.length_filter_le _ _) (by simp)
theorem bits_mem {x k : Nat} : k ∈ bitsOf x → has x k = true := fun h => (List.mem_filter.1 h).2
theorem mem_bits {x k : Nat} (hx : x < 512) (h : has x k = true) : k ∈ bitsOf x := by
  refine List.mem_filter.2 ⟨List.mem_range.2 ?_, h⟩
  refine Nat.lt_of_not_le fun hk => ?_
  have : has x k = false := Nat.testBit_lt_two_pow (Nat.lt_of_lt_of_le hx (Nat.pow_le_pow_right (by omega) hk : 2 ^ 9 ≤ 2 ^ k))
  rw [this] at h; cases h

attribute [local go_sem] Oper.semAt_some
/-! The range over the members of a set. -/
def encB (k : Fin 8) : Array Value := #[.int .i64 (k.val : Nat)]
/-- What the iterator leans on. -/
structure OB (n0 : Nat) (W : World) : Prop where
  size : n0 ≤ W.heap.size
  one : 1 < n0
  env : Env W
theorem OB.kp {n0 : Nat} {W W' : World} (h : OB n0 W) (k : Below n0 W W') : OB n0 W' :=
  ⟨Nat.le_trans h.size k.size, h.one, ⟨Nat.lt_of_lt_of_le h.one (Nat.le_trans h.size k.size), fun j hj => (k.cell (p := ⟨1, j, none⟩) h.one).trans (h.env.cell j hj)⟩⟩
set_option maxHeartbeats 400000 in
theorem members_any (set : Nat) (w : World) : Calls Tryd.prog 41 #[.int .i64 set] w fun e w' => e = .returned (.func (.func 61) #[] #[.pointer (some ⟨w.heap.size, 0, none⟩)]) ∧ w' = w.alloc (.cells #[.int .i64 set] 3) := by
  go_enter Tryd.func41, Tryd.ntmps41
  go_wp2
  go_ret
  exact ⟨rfl, rfl⟩
def RB (n0 : Nat) (set : Nat) (J : List (Fin 8) → World → Prop) (i : Value) (w : World) : Prop := ∃ (pre : List (Fin 8)) (x : Nat), i = .int .u64 x ∧ x < 256 ∧ bitsOf set = pre.map Fin.val ++ bitsOf x ∧ OB n0 w ∧ J pre w
def oF : Value → Nat
  | .int _ n => n.toNat
  | _ => 0
set_option maxHeartbeats 1000000 in
theorem members1_stops (n : Nat) (hn : 1 ≤ n) (set n0 bset : Nat) (w : World) (hset256 : set < 256) (hbs : bset < w.heap.size) (hset : w.cell? ⟨bset, 0, none⟩ = some (.int .i64 set)) (hof : OB n0 w) :
    SeqStopsK Fence.wide n Tryd.prog 61 #[.pointer (some ⟨bset, 0, none⟩)] encB (Below n0) (fun xs => xs.map Fin.val = bitsOf set) (fun pre => pre.map Fin.val <+: bitsOf set) 9 w := by
  intro l J Jx W hW hJ hJx hY h0
  have hofW : OB n0 W := ⟨Nat.le_trans hof.size hW.size, hof.one, hof.env.next hW⟩
  have hsW : W.cell? ⟨bset, 0, none⟩ = some (.int .i64 set) := (hW.cell (p := ⟨bset, 0, none⟩) hbs).trans hset
  have hu : IntKind.u64.wrap (set : Int) = (set : Int) := by rw [IntKind.wrap_u64]; omega
  have HY := Lib.hid hY
  have H0 := Lib.hid h0
  have HF := Lib.hid hofW
  clear hof hset hW hY h0 hofW hJ hJx
  refine callsIn_of_wp Tryd.func61 rfl trivial ?_ rfl
  simp only [Tryd.ntmps61, List.size_toArray, List.length_cons, List.length_nil, Nat.reduceAdd, Nat.reduceSub, Array.replicate_succ, Array.replicate_zero, List.push_toArray, List.append_toArray, List.nil_append, List.cons_append]
  gi_wp2
  gi_loopw [3] (fun i wr => RB n0 set J i wr) (fun i _ => oF i)
  case atStart => exact ⟨[], set, rfl, hset256, rfl, HF.out, H0.out⟩
  case round =>
    obtain ⟨pre, x, rfl, hx, hbits, hF, hJs⟩ := hrel
    by_cases hx0 : x = 0
    · subst hx0
      have e : bitsOf set = pre.map Fin.val := by rw [hbits, bits_nil, List.append_nil]
      gi_wp2
      go_end0
      exact ⟨⟨_, rfl⟩, .inl ⟨pre, e.symm, hJs⟩⟩
    · have hx1 : 0 < x := Nat.pos_of_ne_zero hx0
      have hxne : ((x : Int) != 0) = true := by rw [bne_iff_ne]; omega
      obtain ⟨hcons, hle, hdec⟩ := bits_cons x (by omega) hx1
      have hk : ctz x < 8 := (Nat.pow_lt_pow_iff_right (a := 2) (by omega)).1 (Nat.lt_of_le_of_lt hle (by omega))
      have hlen : pre.length < 9 := by
        have := bits_len set
        rw [hbits, hcons] at this
        simp at this
        omega
      obtain ⟨fn, tmps, assign, body, hy, hR⟩ := HY.out pre ⟨ctz x, hk⟩ wr hJs hlen
      dsimp only [encB] at hy
      have hand : bits .and .u64 (x : Int) ((x : Int) - 1) = ((x &&& (x - 1) : Nat) : Int) := by
        rw [show ((x : Int) - 1) = ((x - 1 : Nat) : Int) by omega]; exact bits_and_u64_nat x _ (by omega) (by omega)
      have hbits2 : bitsOf set = (pre ++ [(⟨ctz x, hk⟩ : Fin 8)]).map Fin.val ++ bitsOf (x &&& (x - 1)) := by rw [hbits, hcons]; simp
      have Hb := Lib.hid hbits2
      have HFF := Lib.hid hF
      have hen := hF.env
      have hpre : (pre ++ [(⟨ctz x, hk⟩ : Fin 8)]).map Fin.val <+: bitsOf set := ⟨_, hbits2.symm⟩
      have Hpre := Lib.hid hpre
      have HR := Lib.hid hR
      clear hbits hbits2 hcons hF hJs hpre hR hle
      have Hand := Lib.hid hand
      clear hand
      gi_wp2_with fail
      refine ⟨trivial, (callsIn_wide.2 (tz_any x _ hx1 (by omega) hen)).mono ?_⟩
      rintro e w' ⟨rfl, rfl⟩
      generalize ctz x = k at *
      gi_wp2_with fail
      refine HR.out.mono ?_
      rintro e W3 (⟨rfl, hJ3, hk3⟩ | ⟨rfl, hJx3⟩)
      · have hF3 := Lib.hid (HFF.out.kp hk3)
        have hJ3' := Lib.hid hJ3
        have hand := Hand.out
        clear hJ3 hk3
        gi_wp2
        have hlt3 : x &&& (x - 1) < x := hdec
        all_goals (first
          | (refine ⟨?_, ?_⟩; (exact ⟨_, _, rfl, by omega, Hb.out, hF3.out, hJ3'.out⟩); (simp [oF]; omega))
          | (go_roundw; (case rel => exact ⟨_, _, rfl, by omega, Hb.out, hF3.out, hJ3'.out⟩); (case measure => simp [oF]; omega)))
      · gi_wp2
        refine bodyPost_ret (results_none rfl _ _ _) rfl ?_
        exact ⟨⟨_, rfl⟩, .inr ⟨_, Hpre.out, hJx3⟩⟩
end Go.Proofs.YtkcfpnpejaekjaaDoor
