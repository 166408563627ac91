import Derived.Test.YtfffhbolaimmdaaDoorP3
import Derived.Test.YtfffhbolaimmdaaDoorL0
namespace Go.Proofs.YtfffhbolaimmdaaDoor
open Go.RowKit
attribute [local go_sem] Oper.semAt_some
def bitsOf (x : Nat) : List Nat := (List.range 9).filter fun i => has x i
theorem bits_cons : ∀ x : Nat, x < 512 → 0 < x → bitsOf x = ctz x :: bitsOf (x &&& (x - 1)) ∧ 2 ^ ctz x ≤ x ∧ x &&& (x - 1) < x := by decide +kernel
theorem bits_nil : bitsOf 0 = [] := by decide +kernel
theorem bits_len (x : Nat) : (bitsOf x).length ≤ 9 := Nat.le_trans (List.length_filter_le _ _) (by simp)
def wval (x : Wish) : Value := .agg #[.int .i64 x.puz, .int .i64 x.many, .int .i64 x.hour, .int .i64 x.price, .int .i64 x.ship]
def encI (s : Store) (i : Fin s.wishes.length) : Array Value := #[.int .i64 (i.val : Nat), .agg #[.int .i64 (wishAt s i).puz, .int .i64 (wishAt s i).many, .int .i64 (wishAt s i).hour, .int .i64 (wishAt s i).price, .int .i64 (wishAt s i).ship]]
def Kp (n0 bs : Nat) (W W' : World) : Prop := Below n0 W W' ∧ ∀ o, W'.cell? ⟨bs, o, none⟩ = W.cell? ⟨bs, o, none⟩
theorem Kp.trans {n0 bs : Nat} {A B C : World} (h : Kp n0 bs A B) (k : Kp n0 bs B C) : Kp n0 bs A C := ⟨h.1.trans k.1, fun o => (k.2 o).trans (h.2 o)⟩
theorem Kp.put {n0 bs : Nat} {w : World} (hn : n0 ≤ w.heap.size) (hb : bs < w.heap.size) (W : World) (l : Nat) (o o' : Obj) (hl : w.heap.size ≤ l) (h : W.heap[l]? = some o) (_ : o.isCells = false) (_ : o.isWalk = false) : Kp n0 bs W (W.putObj l o') :=
  ⟨belowK_b hn W l o o' hl h (by assumption) (by assumption), fun j => World.cell?_of_block (World.putObj_heap_other (by show bs ≠ l; omega))⟩
/-- What the iterator of the orders leans on. -/
structure OF (n0 bs : Nat) (s : Store) (W : World) : Prop where
  size : n0 ≤ W.heap.size
  store : StoreAt W n0 s
  box : SBox W bs s
  one : 1 < n0
  env : Env W
theorem OF.kp {n0 bs : Nat} {s : Store} {W W' : World} (h : OF n0 bs s W) (k : Kp n0 bs W W') : OF n0 bs s W' :=
  ⟨Nat.le_trans h.size k.1.size, h.store.below k.1, ⟨Nat.lt_of_lt_of_le h.box.lt k.1.size, (k.2 0).trans h.box.c0, (k.2 1).trans h.box.c1, (k.2 2).trans h.box.c2, (k.2 3).trans h.box.c3⟩, h.one,
    ⟨Nat.lt_of_lt_of_le h.one (Nat.le_trans h.size k.1.size), fun j hj => (k.1.cell (p := ⟨1, j, none⟩) h.one).trans (h.env.cell j hj)⟩⟩
set_option maxHeartbeats 400000 in
theorem orders_any (s : Store) (set : Nat) (w : World) : Calls Tryd.prog 46 #[.agg #[.slice s.A1 s.sheets.length s.c1, .slice s.A2 s.lics.length s.c2, .slice s.A3 s.makes.length s.c3, .slice s.A4 s.wishes.length s.c4], .int .i64 set] w fun e w' => e = .returned (.func (.func 65) #[] #[.pointer (some ⟨w.heap.size + 1, 0, none⟩), .pointer (some ⟨w.heap.size, 0, none⟩)]) ∧ w' = (w.alloc (.cells #[.slice s.A1 s.sheets.length s.c1, .slice s.A2 s.lics.length s.c2, .slice s.A3 s.makes.length s.c3, .slice s.A4 s.wishes.length s.c4] 72)).alloc (.cells #[.int .i64 set] 3) := by
  go_enter Tryd.func46, Tryd.ntmps46
  go_wp2
  go_ret
  exact ⟨rfl, rfl⟩
def R65 (n0 bs : Nat) (s : Store) (set : Nat) (J : List (Fin s.wishes.length) → World → Prop) (i : Value) (w : World) : Prop := ∃ (pre : List (Fin s.wishes.length)) (x : Nat), i = .int .u64 x ∧ x < 512 ∧ bitsOf set = pre.map Fin.val ++ bitsOf x ∧ x < 2 ^ s.wishes.length ∧ OF n0 bs s w ∧ J pre w
def oF : Value → Nat
  | .int _ n => n.toNat
  | _ => 0
set_option maxHeartbeats 1000000 in
theorem orders1_stops (n : Nat) (hn : 1 ≤ n) (s : Store) (set n0 bs bset : Nat) (w : World) (ok : Ok s) (hlt : set < 2 ^ s.wishes.length) (hbs : bset < w.heap.size) (hset : w.cell? ⟨bset, 0, none⟩ = some (.int .i64 set)) (hof : OF n0 bs s w) :
    SeqStopsK Fence.wide n Tryd.prog 65 #[.pointer (some ⟨bset, 0, none⟩), .pointer (some ⟨bs, 0, none⟩)] (encI s) (Kp n0 bs) (fun xs => xs.map Fin.val = bitsOf set) (fun pre => pre.map Fin.val <+: bitsOf set) 9 w := by
  intro l J Jx W hW hJ hJx hY h0
  have hofW : OF n0 bs s W := ⟨Nat.le_trans hof.size hW.size, hof.store.below (hW.mono hof.size), hof.box.next hW, hof.one, hof.env.next hW⟩
  have hsW : W.cell? ⟨bset, 0, none⟩ = some (.int .i64 set) := (hW.cell (p := ⟨bset, 0, none⟩) hbs).trans hset
  have h9 := ok.nw
  have hp : 2 ^ s.wishes.length ≤ 2 ^ 9 := Nat.pow_le_pow_right (by omega) h9
  have hset512 : set < 512 := by omega
  have hu : IntKind.u64.wrap (set : Int) = (set : Int) := by rw [IntKind.wrap_u64]; omega
  have HY := Lib.hid hY
  have H0 := Lib.hid h0
  have HF := Lib.hid hofW
  have Hlt := Lib.hid hlt
  have l4 := hofW.store.l4
  clear hof hset hW hY h0 hofW hJ hJx hlt hp ok
  refine callsIn_of_wp Tryd.func65 rfl trivial ?_ rfl
  simp only [Tryd.ntmps65, List.size_toArray, List.length_cons, List.length_nil, Nat.reduceAdd, Nat.reduceSub, Array.replicate_succ, Array.replicate_zero, List.push_toArray, List.append_toArray, List.nil_append, List.cons_append]
  gi_wp2
  gi_loopw [4] (fun i wr => R65 n0 bs s set J i wr) (fun i _ => oF i)
  case atStart => exact ⟨[], set, rfl, hset512, rfl, Hlt.out, HF.out, H0.out⟩
  case round =>
    obtain ⟨pre, x, rfl, hx, hbits, hxl, hF, hJs⟩ := hrel
    by_cases hx0 : x = 0
    · subst hx0
      have e : bitsOf set = pre.map Fin.val := by rw [hbits, bits_nil, List.append_nil]
      gi_wp2
      go_end0
      exact ⟨⟨_, rfl⟩, .inl ⟨pre, e.symm, hJs⟩⟩
    · have hx1 : 0 < x := Nat.pos_of_ne_zero hx0
      have hxne : ((x : Int) != 0) = true := by rw [bne_iff_ne]; omega
      obtain ⟨hcons, hle, hdec⟩ := bits_cons x hx hx1
      have hk : ctz x < s.wishes.length := (Nat.pow_lt_pow_iff_right (by omega)).1 (Nat.lt_of_le_of_lt hle hxl)
      have hlen : pre.length < 9 := by
        have := bits_len set
        rw [hbits, hcons] at this
        simp at this
        omega
      obtain ⟨fn, tmps, assign, body, hy, hR⟩ := HY.out pre ⟨ctz x, hk⟩ wr hJs hlen
      dsimp only [encI] at hy
      obtain ⟨b, off, c3, hbk, w0, w1, w2, w3, w4⟩ := hF.box.wishC hF.store hk
      have hand : bits .and .u64 (x : Int) ((x : Int) - 1) = ((x &&& (x - 1) : Nat) : Int) := by
        rw [show ((x : Int) - 1) = ((x - 1 : Nat) : Int) by omega]; exact bits_and_u64_nat x _ (by omega) (by omega)
      have hbits2 : bitsOf set = (pre ++ [(⟨ctz x, hk⟩ : Fin s.wishes.length)]).map Fin.val ++ bitsOf (x &&& (x - 1)) := by rw [hbits, hcons]; simp
      have Hb := Lib.hid hbits2
      have HFF := Lib.hid hF
      have Hxl := Lib.hid hxl
      have hen := hF.env
      have hpre : (pre ++ [(⟨ctz x, hk⟩ : Fin s.wishes.length)]).map Fin.val <+: bitsOf set := ⟨_, hbits2.symm⟩
      have Hpre := Lib.hid hpre
      have HR := Lib.hid hR
      clear hbits hbits2 hcons hxl hF hJs hpre hR hle
      have Hand := Lib.hid hand
      clear hand
      gi_wp2_with fail
      refine ⟨trivial, (callsIn_wide.2 (tz_any x _ hx1 hx hen)).mono ?_⟩
      rintro e w' ⟨rfl, rfl⟩
      generalize ctz x = k at *
      gi_wp2_with fail
      refine HR.out.mono ?_
      rintro e W3 (⟨rfl, hJ3, hk3⟩ | ⟨rfl, hJx3⟩)
      · have hF3 := Lib.hid (HFF.out.kp hk3)
        have hJ3' := Lib.hid hJ3
        have hand := Hand.out
        clear hJ3 hk3
        gi_wp2
        have hlt3 : x &&& (x - 1) < x := hdec
        all_goals (first
          | (refine ⟨?_, ?_⟩; (exact ⟨_, _, rfl, by omega, Hb.out, Nat.lt_trans hdec Hxl.out, hF3.out, hJ3'.out⟩); (simp [oF]; omega))
          | (go_roundw; (case rel => exact ⟨_, _, rfl, by omega, Hb.out, Nat.lt_trans hdec Hxl.out, hF3.out, hJ3'.out⟩); (case measure => simp [oF]; omega)))
      · gi_wp2
        refine bodyPost_ret (results_none rfl _ _ _) rfl ?_
        exact ⟨⟨_, rfl⟩, .inr ⟨_, Hpre.out, hJx3⟩⟩
end Go.Proofs.YtfffhbolaimmdaaDoor
