import Derived.Test.YtbhkglokdomajaaDoorP3
import Derived.Test.YtbhkglokdomajaaDoorL0
namespace Go.Proofs.YtbhkglokdomajaaDoor
open Go.RowKit
attribute [local go_sem] Oper.semAt_some
/-! The range over the blades of a set. -/
def encB (k : Fin 5) : Array Value := #[.int .i64 (k.val : Nat)]
/-- What the iterator leans on. -/
structure OB (n0 : Nat) (W : World) : Prop where
  size : n0 ≤ W.heap.size
  one : 1 < n0
  env : Env W
theorem OB.kp {n0 : Nat} {W W' : World} (h : OB n0 W) (k : Below n0 W W') : OB n0 W' :=
  ⟨Nat.le_trans h.size k.size, h.one, ⟨Nat.lt_of_lt_of_le h.one (Nat.le_trans h.size k.size), fun j hj => (k.cell (p := ⟨1, j, none⟩) h.one).trans (h.env.cell j hj)⟩⟩
set_option maxHeartbeats 400000 in
theorem blades_any (set : Nat) (w : World) : Calls Tryd.prog 68 #[.int .i64 set] w fun e w' => e = .returned (.func (.func 74) #[] #[.pointer (some ⟨w.heap.size, 0, none⟩)]) ∧ w' = w.alloc (.cells #[.int .i64 set] 3) := by
  go_enter Tryd.func68, Tryd.ntmps68
  go_wp2
  go_ret
  exact ⟨rfl, rfl⟩
def RB (n0 : Nat) (set : Nat) (J : List (Fin 5) → World → Prop) (i : Value) (w : World) : Prop := ∃ (pre : List (Fin 5)) (x : Nat), i = .int .u64 x ∧ x < 32 ∧ bitsOf set = pre.map Fin.val ++ bitsOf x ∧ OB n0 w ∧ J pre w
def oF : Value → Nat
  | .int _ n => n.toNat
  | _ => 0
set_option maxHeartbeats 1000000 in
theorem blades1_stops (n : Nat) (hn : 1 ≤ n) (set n0 bset : Nat) (w : World) (hset32 : set < 32) (hbs : bset < w.heap.size) (hset : w.cell? ⟨bset, 0, none⟩ = some (.int .i64 set)) (hof : OB n0 w) :
    SeqStopsK Fence.wide n Tryd.prog 74 #[.pointer (some ⟨bset, 0, none⟩)] encB (Below n0) (fun xs => xs.map Fin.val = bitsOf set) (fun pre => pre.map Fin.val <+: bitsOf set) 9 w := by
  intro l J Jx W hW hJ hJx hY h0
  have hofW : OB n0 W := ⟨Nat.le_trans hof.size hW.size, hof.one, hof.env.next hW⟩
  have hsW : W.cell? ⟨bset, 0, none⟩ = some (.int .i64 set) := (hW.cell (p := ⟨bset, 0, none⟩) hbs).trans hset
  have hu : IntKind.u64.wrap (set : Int) = (set : Int) := by rw [IntKind.wrap_u64]; omega
  have HY := Lib.hid hY
  have H0 := Lib.hid h0
  have HF := Lib.hid hofW
  clear hof hset hW hY h0 hofW hJ hJx
  refine callsIn_of_wp Tryd.func74 rfl trivial ?_ rfl
  simp only [Tryd.ntmps74, List.size_toArray, List.length_cons, List.length_nil, Nat.reduceAdd, Nat.reduceSub, Array.replicate_succ, Array.replicate_zero, List.push_toArray, List.append_toArray, List.nil_append, List.cons_append]
  gi_wp2
  gi_loopw [3] (fun i wr => RB n0 set J i wr) (fun i _ => oF i)
  case atStart => exact ⟨[], set, rfl, hset32, rfl, HF.out, H0.out⟩
  case round =>
    obtain ⟨pre, x, rfl, hx, hbits, hF, hJs⟩ := hrel
    by_cases hx0 : x = 0
    · subst hx0
      have e : bitsOf set = pre.map Fin.val := by rw [hbits, bits_nil, List.append_nil]
      gi_wp2
      go_end0
      exact ⟨⟨_, rfl⟩, .inl ⟨pre, e.symm, hJs⟩⟩
    · have hx1 : 0 < x := Nat.pos_of_ne_zero hx0
      have hxne : ((x : Int) != 0) = true := by rw [bne_iff_ne]; omega
      obtain ⟨hcons, hle, hdec⟩ := bits_cons x (by omega) hx1
      have hk : ctz x < 5 := (Nat.pow_lt_pow_iff_right (a := 2) (by omega)).1 (Nat.lt_of_le_of_lt hle (by omega))
      have hlen : pre.length < 9 := by
        have := bits_len set
        rw [hbits, hcons] at this
        simp at this
        omega
      obtain ⟨fn, tmps, assign, body, hy, hR⟩ := HY.out pre ⟨ctz x, hk⟩ wr hJs hlen
      dsimp only [encB] at hy
      have hand : bits .and .u64 (x : Int) ((x : Int) - 1) = ((x &&& (x - 1) : Nat) : Int) := by
        rw [show ((x : Int) - 1) = ((x - 1 : Nat) : Int) by omega]; exact bits_and_u64_nat x _ (by omega) (by omega)
      have hbits2 : bitsOf set = (pre ++ [(⟨ctz x, hk⟩ : Fin 5)]).map Fin.val ++ bitsOf (x &&& (x - 1)) := by rw [hbits, hcons]; simp
      have Hb := Lib.hid hbits2
      have HFF := Lib.hid hF
      have hen := hF.env
      have hpre : (pre ++ [(⟨ctz x, hk⟩ : Fin 5)]).map Fin.val <+: bitsOf set := ⟨_, hbits2.symm⟩
      have Hpre := Lib.hid hpre
      have HR := Lib.hid hR
      clear hbits hbits2 hcons hF hJs hpre hR hle
      have Hand := Lib.hid hand
      clear hand
      gi_wp2_with fail
      refine ⟨trivial, (callsIn_wide.2 (tz_any x _ hx1 (by omega) hen)).mono ?_⟩
      rintro e w' ⟨rfl, rfl⟩
      generalize ctz x = k at *
      gi_wp2_with fail
      refine HR.out.mono ?_
      rintro e W3 (⟨rfl, hJ3, hk3⟩ | ⟨rfl, hJx3⟩)
      · have hF3 := Lib.hid (HFF.out.kp hk3)
        have hJ3' := Lib.hid hJ3
        have hand := Hand.out
        clear hJ3 hk3
        gi_wp2
        have hlt3 : x &&& (x - 1) < x := hdec
        all_goals (first
          | (refine ⟨?_, ?_⟩; (exact ⟨_, _, rfl, by omega, Hb.out, hF3.out, hJ3'.out⟩); (simp [oF]; omega))
          | (go_roundw; (case rel => exact ⟨_, _, rfl, by omega, Hb.out, hF3.out, hJ3'.out⟩); (case measure => simp [oF]; omega)))
      · gi_wp2
        refine bodyPost_ret (results_none rfl _ _ _) rfl ?_
        exact ⟨⟨_, rfl⟩, .inr ⟨_, Hpre.out, hJx3⟩⟩
end Go.Proofs.YtbhkglokdomajaaDoor
