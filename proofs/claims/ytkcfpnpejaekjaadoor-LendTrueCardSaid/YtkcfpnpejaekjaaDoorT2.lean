import Derived.Test.YtkcfpnpejaekjaaDoorT1
import Derived.Deep.CutBlock
import Derived.Deep.CutRange
namespace Go.Proofs.YtkcfpnpejaekjaaDoor
open Go.RowKit
/-! The helper told of LendTrue. -/
theorem results_cell2 {fn : Func} {p t : Tmp} {ty : TypeId} (h : fn.results = #[.cell p ty, .tmp t]) {tmps : Array Value} {P : Program} {w : World} {a : Addr} {v : Value} (hp : tmps.getD p undef = .pointer (some a)) (hv : (loadVar ty a).run P w = .ok v w) :
    (results fn tmps).run P w = .ok (.tuple #[v, tmps.getD t undef]) w := by
  have hp' : tmps[p]?.getD undef = .pointer (some a) := by simpa using hp
  simp [results, h, hp', asAddr, hv, Result.andThen]
theorem loadTale {w : World} {b : Nat} {a0 a1 a2 a3 : Value} (h : Bx w b [a0, a1, a2, a3]) : (loadVar 26 ⟨b, 0, none⟩).run Tryd.prog w = .ok (.agg #[a0, a1, a2, a3]) w := by
  have c0 := h.c 0 _ rfl
  have c1 := h.c 1 _ rfl
  have c2 := h.c 2 _ rfl
  have c3 := h.c 3 _ rfl
  clear h
  go_simp
/-- What the helper reads. -/
structure TRd (m : Mt) (lost byl : List Int) (A7 A8 : Option Addr) (bs : Nat) (W : World) : Prop where
  ta : TaleAt W W.heap.size m
  a7 : At W W.heap.size 1 icell A7 lost
  a8 : At W W.heap.size 1 u16cell A8 byl
  bx : Bx W bs m.cells
theorem TRd.next {m : Mt} {lost byl : List Int} {A7 A8 : Option Addr} {bs : Nat} {W W' : World} (h : TRd m lost byl A7 A8 bs W) (hb : Below W.heap.size W W') : TRd m lost byl A7 A8 bs W' := ⟨h.ta.next hb, h.a7.next hb, h.a8.next hb, h.bx.next hb⟩
theorem hold_in {l : List Loan} {m : Nat} (hl : Lent l) (hp : ∀ x ∈ l, x.p < m) (h : Int) : -1 ≤ holdR l h ∧ holdR l h < m := by
  unfold holdR
  cases e : holdS l h with
  | none => exact ⟨by decide, by show (-1 : Int) < _; omega⟩
  | some q =>
    obtain ⟨x, hx, -, rfl⟩ := holdS_of e
    have := hl.good x hx
    have := hp x hx
    exact ⟨by show -1 ≤ x.p; omega, by show x.p < _; omega⟩
theorem manyT_step (l : List Loan) (lost : List Int) (p k : Nat) : manyT l lost p (k + 1) = manyT l lost p k + (if lost.getD k 0 ≠ mxH ∧ holdR l (lost.getD k 0) = p then 1 else 0) := rfl
theorem grown_setCells (b : Nat) : ∀ (vs : List Value) (j : Nat) (W : World), W.grownBy (setCells W b j vs) (some b)
  | [], _, _ => World.grownBy.refl _ _
  | v :: vs, j, W => grown_trans (b := W.setCell ⟨b, j, none⟩ v) ⟨rfl, rfl, rfl, by simp, fun i _ hi => heap_setCell_other W ⟨b, j, none⟩ i _ (fun e => hi (by simp [e]))⟩ (grown_setCells b vs (j + 1) _)
theorem told_end {w V W : World} {b g b6 : Nat} {m : Mt} {lost byl : List Int} {F : Nat → Int} {A2 A3 : Option Addr} {c2 c3 : Nat} {L : List Look} {LA : List Int} (hX : TAt V b g (g + 1) m F (.slice A2 L.length c2) (.slice A3 LA.length c3) L LA W) (h2 : L.length ≤ c2) (h3 : LA.length ≤ c3) (hw : Below w.heap.size w W) (hm : TaleAt W w.heap.size m)
    (h6 : w.heap.size ≤ b6) (h6' : b6 < b) (hL : L = (toldT m.t lost byl).looks) (hLA : LA = (toldT m.t lost byl).admits) (hF : (fun p => (manyT m.t.loans lost p lost.length : Int)) = F) (vs : List Value) :
    RetTold m lost byl w (.returned (.tuple #[.agg #[.int .i64 m.t.n, .slice m.A1 m.t.loans.length m.c1, .slice A2 L.length c2, .slice A3 LA.length c3], .slice (some ⟨g, 0, none⟩) m.t.admits.length m.t.admits.length])) (setCells W b6 0 vs) := by
  have hg := grown_setCells b6 vs 0 W
  have hbg := hX.bg
  have hsz : (setCells W b6 0 vs).heap.size = W.heap.size := setCells_size b6 vs 0 W
  have o2 := hX.o2.kept hg (.inr (fun e => by have := (hX.o2.lt b6 e).1; omega))
  have o3 := hX.o3.kept hg (.inr (fun e => by have := (hX.o3.lt b6 e).1; omega))
  have blk := hX.blk.grown hg (fun e => by injection e with e; omega)
  obtain ⟨A2', c2', e2, hat2⟩ := own_at (size := 3) (cells := Look.cells) (fun _ => rfl) (by omega) o2
  obtain ⟨A3', c3', e3, hat3⟩ := own_at (size := 1) (cells := icell) (fun _ => rfl) (by omega) o3
  injection e2 with e2 _ e4
  injection e3 with e3 _ e5
  subst e2 e3 e4 e5
  have l2 : L.length ≤ 20 := by rw [hL]; show ((List.range (min byl.length 20)).map _).length ≤ 20; rw [List.length_map, List.length_range]; omega
  have l3 : LA.length = m.t.admits.length := by rw [hLA]; show ((List.range m.t.admits.length).map _).length = _; rw [List.length_map, List.length_range]
  have hl3 := hm.l3
  refine ⟨A2, c2, A3, c3, some ⟨g, 0, none⟩, m.t.admits.length, by rw [hL, hLA], below_setCells h6 vs 0 hw, ⟨?_, ?_, ?_, hm.l1, ?_, ?_, hm.k1, ?_, ?_⟩, ?_⟩
  · exact (hm.lo.keep fun q o hq => setCells_other b6 vs 0 W q o (by omega)).more (by rw [hsz]; exact hw.size)
  · show At _ _ 3 Look.cells A2 (toldT m.t lost byl).looks
    rw [← hL]; exact hat2
  · show At _ _ 1 icell A3 (toldT m.t lost byl).admits
    rw [← hLA]; exact hat3
  · show (toldT m.t lost byl).looks.length ≤ _
    rw [← hL]; omega
  · show (toldT m.t lost byl).admits.length ≤ _
    rw [← hLA]; omega
  · show (toldT m.t lost byl).looks.length ≤ c2
    rw [← hL]; exact h2
  · show (toldT m.t lost byl).admits.length ≤ c3
    rw [← hLA]; exact h3
  · have := blk.toAt
    rw [← hF] at this
    exact this
set_option maxRecDepth 100000 in
set_option maxHeartbeats 4000000 in
theorem told_any (m : Mt) (lost byl : List Int) (A7 A8 : Option Addr) (c7 c8 : Nat) (w : World) (hd : TaleAt w w.heap.size m) (ht : okTale m.t = true) (hr : Raw m.t lost byl) (h7 : At w w.heap.size 1 icell A7 lost) (h8 : At w w.heap.size 1 u16cell A8 byl) (hbl : byl.length ≤ 9223372036854775807) :
    Calls Tryd.prog 25 #[.agg #[.int .i64 m.t.n, .slice m.A1 m.t.loans.length m.c1, .slice m.A2 m.t.looks.length m.c2, .slice m.A3 m.t.admits.length m.c3], .slice A7 lost.length c7, .slice A8 byl.length c8] w (RetTold m lost byl w) := by
  have ok := okT_of ht
  have HT := Lib.hid ht
  have OK := Lib.hid ok
  have HR := Lib.hid hr
  have hlen := hr.len
  have hby1 := hr.by1
  have hn1 := ok.n1
  have hn16 := ok.n2
  have ha6 := ok.a2
  have ha1 := ok.a1
  have hl1 : 1 ≤ lost.length := by omega
  have hl16 : lost.length ≤ 16 := by omega
  clear hlen
  obtain ⟨b7, o7, eA7, hb7, -⟩ := int_at h7 (show 0 < lost.length by omega)
  obtain ⟨b8, o8, eA8, hb8, -⟩ := u16_at h8 hby1
  subst eA7 eA8
  obtain ⟨i0, hi0, hz0, hz1, hz2⟩ := info_parts int_info
  have hmk : ∀ W : World, (Instr.makeSlice 24 (.int .i64 (m.t.admits.length : Int)) (.int .i64 (m.t.admits.length : Int))).run Tryd.prog W = .ok (.slice (some ⟨W.heap.size, 0, none⟩) m.t.admits.length m.t.admits.length) (W.alloc (.cells (zeros m.t.admits.length) 3)) := fun W => by
    have := run_make (P := Tryd.prog) W 24 3 i0 (.int .i64 0) Tryd.underlying24 hi0 hz0 .i64 .i64 m.t.admits.length m.t.admits.length (by omega) (by omega) (by rw [hz2]; omega) (by omega)
    simpa [zeros, Value.cells, hz1] using this
  clear hi0 hz0 hz1 hz2
  have b0 := nxA w (.cells #[.int .i64 m.t.n, .slice m.A1 m.t.loans.length m.c1, .slice m.A2 m.t.looks.length m.c2, .slice m.A3 m.t.admits.length m.c3] 26)
  have x0 := Bx.new w #[.int .i64 m.t.n, .slice m.A1 m.t.loans.length m.c1, .slice m.A2 m.t.looks.length m.c2, .slice m.A3 m.t.admits.length m.c3] 26
  have b1 := nxA (w.alloc (.cells #[.int .i64 m.t.n, .slice m.A1 m.t.loans.length m.c1, .slice m.A2 m.t.looks.length m.c2, .slice m.A3 m.t.admits.length m.c3] 26)) (.cells #[.int .i64 0, .slice none 0 0, .slice none 0 0, .slice none 0 0] 26)
  have z6 := Bx.new (w.alloc (.cells #[.int .i64 m.t.n, .slice m.A1 m.t.loans.length m.c1, .slice m.A2 m.t.looks.length m.c2, .slice m.A3 m.t.admits.length m.c3] 26)) #[.int .i64 0, .slice none 0 0, .slice none 0 0, .slice none 0 0] 26
  rw [World.size_alloc] at z6
  have hsz : ((w.alloc (.cells #[.int .i64 m.t.n, .slice m.A1 m.t.loans.length m.c1, .slice m.A2 m.t.looks.length m.c2, .slice m.A3 m.t.admits.length m.c3] 26)).alloc (.cells #[.int .i64 0, .slice none 0 0, .slice none 0 0, .slice none 0 0] 26)).heap.size = w.heap.size + 2 := by simp
  have hB := b0.trans (b1.mono b0.size)
  have HB := Lib.hid hB
  have HD0 := Lib.hid (hd.below hB)
  have HZ := Lib.hid z6
  have RD := Lib.hid (show TRd m lost byl (some ⟨b7, o7, none⟩) (some ⟨b8, o8, none⟩) w.heap.size _ from ⟨hd.next hB, h7.next hB, h8.next hB, x0.next b1⟩)
  clear hd h7 h8 b0 x0 b1 z6 hB ht hr ok
  go_enter Tryd.func25, Tryd.ntmps25
  go_upto_region 1 with fail
  generalize ((w.alloc (.cells #[.int .i64 m.t.n, .slice m.A1 m.t.loans.length m.c1, .slice m.A2 m.t.looks.length m.c2, .slice m.A3 m.t.admits.length m.c3] 26)).alloc (.cells #[.int .i64 0, .slice none 0 0, .slice none 0 0, .slice none 0 0] 26)) = V at *
  have p0 := RD.out.bx.c 0 _ rfl
  have p1 := RD.out.bx.c 1 _ rfl
  have A8' := nxA V (.cells #[.int .i64 m.t.n, .slice m.A1 m.t.loans.length m.c1, .slice none 0 0, .slice none 0 0] 26)
  have X8 := Bx.new V #[.int .i64 m.t.n, .slice m.A1 m.t.loans.length m.c1, .slice none 0 0, .slice none 0 0] 26
  go_upto_region 2 with fail
  clear p0 p1
  generalize (V.alloc (.cells #[.int .i64 m.t.n, .slice m.A1 m.t.loans.length m.c1, .slice none 0 0, .slice none 0 0] 26)) = V3 at *
  obtain ⟨b, hb⟩ : ∃ b, b = w.heap.size + 2 := ⟨_, rfl⟩
  rw [hsz, ← hb] at X8
  rw [← hb]
  have hVb : V.heap.size ≤ b := by omega
  have hbs : w.heap.size + 1 < b := by omega
  clear hb hsz
  have p3 := (RD.out.next A8').bx.c 3 _ rfl
  go_upto_region 3 with fail
  have hX0 : TAt V b V3.heap.size (V3.heap.size + 1) m (fun _ => 0) (.slice none 0 0) (.slice none 0 0) [] [] (V3.alloc (.cells (zeros m.t.admits.length) 3)) :=
    ⟨hVb, X8.lt, Nat.lt_succ_self _, A8'.trans ((nxA V3 _).mono A8'.size), X8.next (nxA V3 _), IBlk.zeros V3 _ _, World.ownsRow_nil _ _ _ _, World.ownsRow_nil _ _ _ _⟩
  generalize (V3.alloc (.cells (zeros m.t.admits.length) 3)) = V4 at *
  obtain ⟨g, hg⟩ : ∃ g, g = V3.heap.size := ⟨_, rfl⟩
  rw [← hg] at hX0 ⊢
  clear hg hmk p3 A8' X8
  have X := Lib.hid hX0
  clear hX0
  go_wp2_with fail
  go_loopw [10] (fun kv wr => ∃ k : Nat, kv = .int .i64 k ∧ k ≤ lost.length ∧ TAt V b g (g + 1) m (fun p => (manyT m.t.loans lost p k : Int)) (.slice none 0 0) (.slice none 0 0) [] [] wr) (fun kv _ => lost.length - (intOf kv).toNat)
  case atStart => exact ⟨0, rfl, by omega, X.out⟩
  case round =>
    obtain ⟨k, rfl, hk, hX⟩ := hrel
    clear X
    have X := Lib.hid hX
    clear hX
    have R2 := Lib.hid (RD.out.next X.out.bw)
    by_cases hlt : k < lost.length
    · have e0 := decide_eq_true (show (k : Int) < (lost.length : Int) by omega)
      have hwk : IntKind.i64.wrap ((k : Int) + 1) = (k : Int) + 1 := IntWalk.i64_in _ (by omega)
      have l0 := int_cell R2.out.a7 hlt
      have hin := getD_prop (Q := fun x => 0 ≤ x ∧ x ≤ mxH) HR.out.lost hlt
      have hmx : mxH = 1048576 := rfl
      rw [hmx] at hin
      clear hmx
      have HST := Lib.hid (fun p => manyT_step m.t.loans lost p k)
      generalize lost.getD k 0 = x at *
      by_cases hx : x = 1048576
      · have HST2 := Lib.hid (show ∀ p, manyT m.t.loans lost p (k + 1) = manyT m.t.loans lost p k from fun p => by rw [HST.out, if_neg (fun e => e.1 hx)]; rfl)
        subst hx
        go_wp2_with fail
        have hfin : TAt V b g (g + 1) m (fun p => (manyT m.t.loans lost p (k + 1) : Int)) (.slice none 0 0) (.slice none 0 0) [] [] wr := by
          have : (fun p => (manyT m.t.loans lost p (k + 1) : Int)) = fun p => (manyT m.t.loans lost p k : Int) := by funext p; rw [HST2.out]
          rw [this]; exact X.out
        first | (exact ⟨⟨_, ⟨k + 1, by push_cast; rfl, by omega, hfin⟩, rfl⟩, by simp [intOf]; omega⟩) | (go_roundw; (case rel => exact ⟨k + 1, by push_cast; rfl, by omega, hfin⟩); (case measure => (simp [intOf]; omega))) | (go_round; (case rel => exact ⟨k + 1, by push_cast; rfl, by omega, hfin⟩); (case measure => (simp [intOf]; omega)))
      · have hne : (x == 1048576) = false := by simp [hx]
        have hhd := hold_in OK.out.lent OK.out.per x
        have HST2 := Lib.hid (show ∀ p, manyT m.t.loans lost p (k + 1) = manyT m.t.loans lost p k + (if holdR m.t.loans x = p then 1 else 0) from fun p => by
          rw [HST.out]
          by_cases h1 : holdR m.t.loans x = p
          · rw [if_pos ⟨hx, h1⟩, if_pos h1]
          · rw [if_neg (fun e => h1 e.2), if_neg h1])
        clear HST
        have q1 := R2.out.bx.c 1 _ rfl
        have HL1 := Lib.hid R2.out.ta.l1
        have HHo := Lib.hid (fun n => holder_any m.A1 m.c1 m.t.loans x wr.heap.size (wr.drewN n) (R2.out.ta.lo.below (below_drewN (Below.refl _ _) n)) HL1.out)
        have HRn := Lib.hid (fun n => (RD.out.next (X.out.drewN n).bw))
        obtain ⟨hv, hhv⟩ : ∃ hv, holdR m.t.loans x = hv := ⟨_, rfl⟩
        rw [hhv] at HHo HST2 hhd
        clear hhv HRn
        go_upto_region 7 with fail
        by_cases hq : hv = -1
        · subst hq
          have HST3 := Lib.hid (show ∀ p, manyT m.t.loans lost p (k + 1) = manyT m.t.loans lost p k from fun p => by rw [HST2.out, if_neg (by omega)]; rfl)
          go_wp2_with (go_quiet ((go_at_call 26; first | exact qq (HHo.out _) | exact qqa (HHo.out _))))
          have hfin : TAt V b g (g + 1) m (fun p => (manyT m.t.loans lost p (k + 1) : Int)) (.slice none 0 0) (.slice none 0 0) [] [] (wr.drewN nq) := by
            have : (fun p => (manyT m.t.loans lost p (k + 1) : Int)) = fun p => (manyT m.t.loans lost p k : Int) := by funext p; rw [HST3.out]
            rw [this]; exact X.out.drewN nq
          first | (exact ⟨⟨k + 1, by push_cast; rfl, by omega, hfin⟩, by simp [intOf]; omega⟩) | (go_roundw; (case rel => exact ⟨k + 1, by push_cast; rfl, by omega, hfin⟩); (case measure => (simp [intOf]; omega)))
        · obtain ⟨q, rfl⟩ : ∃ q : Nat, hv = (q : Int) := ⟨hv.toNat, by omega⟩
          have hqn : q < m.t.admits.length := by omega
          have e9 : ((q : Int) == -1) = false := by simp
          have hnq : ¬ (q : Int) = -1 := hq
          have hmle := many_le m.t.loans lost q k
          have hwm : IntKind.i64.wrap ((manyT m.t.loans lost q k : Int) + 1) = (manyT m.t.loans lost q k : Int) + 1 := IntWalk.i64_in _ (by omega)
          have HG := Lib.hid (fun n => (X.out.drewN n).blk)
          have HQ1 := Lib.hid (fun p => HST2.out p)
          clear hq HST2
          have c1 := fun n => (HG.out n).cell q hqn
          have c2 := fun n => (HG.out n).free q
          generalize hMq : manyT m.t.loans lost q k = Mq at *
          go_wp2_with (go_quiet ((go_at_call 26; first | exact qq (HHo.out _) | exact qqa (HHo.out _))))
          have hfin : TAt V b g (g + 1) m (fun p => (manyT m.t.loans lost p (k + 1) : Int)) (.slice none 0 0) (.slice none 0 0) [] [] ((wr.drewN nq).setCell ⟨g, q, none⟩ (.int .i64 ((Mq : Int) + 1))) :=
            (X.out.drewN nq).put hqn (by show (manyT m.t.loans lost q (k + 1) : Int) = _; rw [HQ1.out, if_pos rfl, hMq]; push_cast; rfl) (fun i hi => by show (manyT m.t.loans lost i (k + 1) : Int) = manyT m.t.loans lost i k; rw [HQ1.out, if_neg (by omega)]; rfl)
          first | (exact ⟨⟨k + 1, by push_cast; rfl, by omega, hfin⟩, by simp [intOf]; omega⟩) | (go_roundw; (case rel => exact ⟨k + 1, by push_cast; rfl, by omega, hfin⟩); (case measure => (simp [intOf]; omega)))
    · have e0 := decide_eq_false (show ¬ (k : Int) < (lost.length : Int) by omega)
      obtain rfl : k = lost.length := by omega
      clear hlt hk
      obtain ⟨F, hF⟩ : ∃ F : Nat → Int, (fun p => (manyT m.t.loans lost p lost.length : Int)) = F := ⟨_, rfl⟩
      rw [hF] at X
      have HF := Lib.hid hF
      clear hF
      go_upto_region 10 with fail
      clear e0 R2
      go_wp2_with fail
      go_loopw [12] (fun iv wx => ∃ i : Nat, iv = .int .i64 i ∧ i ≤ min byl.length 20 ∧ ∃ v2, TAt V b g (g + 1) m F v2 (.slice none 0 0) ((List.range i).map (lookT lost byl)) [] wx) (fun iv _ => 20 - (intOf iv).toNat)
      case atStart => exact ⟨0, rfl, by omega, _, X.out⟩
      case round =>
        obtain ⟨i, rfl, hi, v2, hX⟩ := hrel
        clear X
        have X := Lib.hid hX
        clear hX
        have R2 := Lib.hid (RD.out.next X.out.bw)
        by_cases hlt : i < byl.length ∧ i < 20
        · obtain ⟨hlt, h20⟩ := hlt
          have e0 := decide_eq_true (show (i : Int) < (byl.length : Int) by omega)
          have e1 := decide_eq_true (show (i : Int) < 20 by omega)
          have hwi : IntKind.i64.wrap ((i : Int) + 1) = (i : Int) + 1 := IntWalk.i64_in _ (by omega)
          have l0 := u16_cell R2.out.a8 hlt
          obtain ⟨hy0, hy1⟩ := by_at HR.out i
          obtain ⟨hHo0, hHo1⟩ := hour_at HR.out i
          obtain ⟨Hh, hHh⟩ : ∃ H, hourT lost byl i = H := ⟨_, rfl⟩
          have HHH := Lib.hid hHh
          have HHD := Lib.hid (show hourT lost byl i = if i % 3 = 0 then min mxH (lost.getD (i % lost.length) 0 + byl.getD i 0 % 2) else byl.getD i 0 from rfl)
          rw [hHh] at hHo0 hHo1 HHD
          clear hHh
          obtain ⟨y, hy⟩ : ∃ y, byl.getD i 0 = y := ⟨_, rfl⟩
          rw [hy] at l0 hy0 hy1 HHD
          have HY := Lib.hid hy
          clear hy
          have hwy : IntKind.i64.wrap y = y := IntWalk.i64_in _ (by omega)
          have hNB := Lib.hid (show (∀ q, v2.ownBlock = some q → q < wr.heap.size) ∧ b < wr.heap.size ∧ g < wr.heap.size ∧ V.heap.size ≤ wr.heap.size from ⟨fun q e => (X.out.o2.lt q e).2, X.out.x.lt, X.out.blk.lt, X.out.bw.size⟩)
          have hA := nxA wr (.cells #[.int .i64 y, .int .i64 0, .int .i64 0] 50)
          have SL := Lib.hid (Bx.new wr #[.int .i64 y, .int .i64 0, .int .i64 0] 50)
          go_upto_region 14 with fail
          clear e0 e1
          replace X := Lib.hid (X.out.next hA)
          replace R2 := Lib.hid (R2.out.next hA)
          have hgl := X.out.blk.lt
          generalize (wr.alloc (.cells #[.int .i64 y, .int .i64 0, .int .i64 0] 50)) = Y1 at *
          obtain ⟨bl, hbl⟩ : ∃ q, q = wr.heap.size := ⟨_, rfl⟩
          rw [← hbl] at SL ⊢
          have HXL := Lib.hid hbl
          clear hA hbl hgl l0
          have HNB := Lib.hid (show v2.ownBlock ≠ some bl ∧ bl ≠ b ∧ bl ≠ g ∧ V.heap.size ≤ bl from by
            obtain ⟨n1, n2, n3, n4⟩ := hNB.out
            rw [← HXL.out] at n1 n2 n3 n4
            exact ⟨fun e => by have := n1 _ e; omega, by omega, by omega, n4⟩)
          clear hNB HXL
          go_upto_if 71 with fail
          go_cut [] (fun wx => Bx wx bl [.int .i64 Hh, .int .i64 0, .int .i64 0] ∧ TAt V b g (g + 1) m F v2 (.slice none 0 0) ((List.range i).map (lookT lost byl)) [] wx)
          case first =>
            by_cases h3 : i % 3 = 0
            · have e3 : ((i : Int) % 3 == 0) = true := by simp; omega
              have hHf := HHD.out
              rw [if_pos h3] at hHf
              obtain ⟨ix, hix0, hix, hI2, hI1⟩ := rem_idx (show 0 < lost.length by omega) i
              rw [← hix0] at hHf
              obtain ⟨hz0, hz1⟩ := lost_at HR.out ix
              have hmx : mxH = 1048576 := rfl
              rw [hmx] at hz1
              have HS0 := Lib.hid (show ∀ W : World, Below V.heap.size V W → (W.cell? ⟨b7, o7 + ix, none⟩ = some (.int .i64 (lost.getD ix 0)) ∧ W.cell? ⟨b8, o8 + i, none⟩ = some (.int .u16 y)) from fun W hW => by
                have l1 := int_cell (RD.out.next hW).a7 hix
                have l2 := u16_cell (RD.out.next hW).a8 hlt
                rw [HY.out] at l2
                exact ⟨l1, l2⟩)
              generalize lost.getD ix 0 = z at *
              have HS := Lib.hid (show ∀ W : World, Below V.heap.size V W → (W.cell? ⟨b7, o7 + ix, none⟩ = some (.int .i64 z) ∧ W.cell? ⟨b8, o8 + i, none⟩ = some (.int .u16 y)) from fun W hW => HS0.out W hW)
              clear HS0
              have hixI : (ix : Int) < (lost.length : Int) := by omega
              have hb0I : ¬ (lost.length : Int) = 0 := by omega
              have hb0N : ¬ lost.length = 0 := by omega
              have hbne : ¬ lost = [] := by rintro e; rw [e] at hix; simp at hix
              have hiI : (i : Int) < (byl.length : Int) := by omega
              have hm2 : 0 ≤ y % 2 ∧ y % 2 < 2 := by omega
              have hwz : IntKind.i64.wrap (z + y % 2) = z + y % 2 := IntWalk.i64_in _ (by omega)
              have hmm := min_if 1048576 (z + y % 2)
              have hHf2 : (if z + y % 2 < 1048576 then z + y % 2 else 1048576) = Hh := by rw [← hmm]; exact hHf.symm
              clear hHf hmm hix0 HHD HHH
              go_wp2_with (fail)
              refine wp_region_noPanic ?_
              refine wp_region_held_drew (S := (fun W => W.cell? ⟨b7, o7 + ix, none⟩ = some (.int .i64 z) ∧ W.cell? ⟨b8, o8 + i, none⟩ = some (.int .u16 y))) (by kernel_rfl) ?_ (fun hHeld => ?_)
              · (try dsimp only); exact HS.out _ X.out.bw.drew
              refine htake (i := 0) (v := ?v1) rfl (by kernel_rfl) (by kernel_rfl) (by kernel_rfl) (fun _ _ _ h => h) (Or.inl ⟨by rfl, ?hy1⟩) (by assumption) ?_
              case hy1 => (intro w hSw; (try dsimp only at hSw); go_simp; try (with_reducible rfl))
              try simp only [Act.put, List.setIfInBounds_toArray, List.set_cons_zero, List.set_cons_succ]
              refine htake (i := 1) (v := ?v2) rfl (by kernel_rfl) (by kernel_rfl) (by kernel_rfl) (fun _ _ _ h => h) (Or.inl ⟨by rfl, ?hy2⟩) (by assumption) ?_
              case hy2 => (intro w hSw; (try dsimp only at hSw); go_simp; try (with_reducible rfl))
              try simp only [Act.put, List.setIfInBounds_toArray, List.set_cons_zero, List.set_cons_succ]
              refine htake (i := 2) (v := ?v3) rfl (by kernel_rfl) (by kernel_rfl) (by kernel_rfl) (fun _ _ _ h => h) (Or.inl ⟨by rfl, ?hy3⟩) (by assumption) ?_
              case hy3 => (intro w hSw; (try dsimp only at hSw); go_simp; try (with_reducible rfl))
              try simp only [Act.put, List.setIfInBounds_toArray, List.set_cons_zero, List.set_cons_succ]
              refine htake (i := 3) (v := ?v4) rfl (by kernel_rfl) (by kernel_rfl) (by kernel_rfl) (fun _ _ _ h => h) (Or.inl ⟨by rfl, ?hy4⟩) (by assumption) ?_
              case hy4 => (intro w hSw; (try dsimp only at hSw); go_simp; try (with_reducible rfl))
              try simp only [Act.put, List.setIfInBounds_toArray, List.set_cons_zero, List.set_cons_succ]
              refine htake (i := 4) (v := ?v5) rfl (by kernel_rfl) (by kernel_rfl) (by kernel_rfl) (fun _ _ _ h => h) (Or.inl ⟨by rfl, ?hy5⟩) (by assumption) ?_
              case hy5 => (intro w hSw; (try dsimp only at hSw); go_simp; try (with_reducible rfl))
              try simp only [Act.put, List.setIfInBounds_toArray, List.set_cons_zero, List.set_cons_succ]
              refine htake (i := 5) (v := ?v6) rfl (by kernel_rfl) (by kernel_rfl) (by kernel_rfl) (fun _ _ _ h => h) (Or.inl ⟨by rfl, ?hy6⟩) (by assumption) ?_
              case hy6 => (intro w hSw; (try dsimp only at hSw); go_simp; try (with_reducible rfl))
              try simp only [Act.put, List.setIfInBounds_toArray, List.set_cons_zero, List.set_cons_succ]
              refine htake (i := 6) (v := ?v7) rfl (by kernel_rfl) (by kernel_rfl) (by kernel_rfl) (fun _ _ _ h => h) (Or.inl ⟨by rfl, ?hy7⟩) (by assumption) ?_
              case hy7 => (intro w hSw; (try dsimp only at hSw); go_simp; try (with_reducible rfl))
              try simp only [Act.put, List.setIfInBounds_toArray, List.set_cons_zero, List.set_cons_succ]
              refine htake (i := 7) (v := ?v8) rfl (by kernel_rfl) (by kernel_rfl) (by kernel_rfl) (fun _ _ _ h => h) (Or.inl ⟨by rfl, ?hy8⟩) (by assumption) ?_
              case hy8 => (intro w hSw; (try dsimp only at hSw); go_simp; try (with_reducible rfl))
              try simp only [Act.put, List.setIfInBounds_toArray, List.set_cons_zero, List.set_cons_succ]
              refine htake (i := 8) (v := ?v9) rfl (by kernel_rfl) (by kernel_rfl) (by kernel_rfl) (fun _ _ _ h => h) (Or.inl ⟨by rfl, ?hy9⟩) (by assumption) ?_
              case hy9 => (intro w hSw; (try dsimp only at hSw); go_simp; try (with_reducible rfl))
              try simp only [Act.put, List.setIfInBounds_toArray, List.set_cons_zero, List.set_cons_succ]
              refine htake (i := 9) (v := ?v10) rfl (by kernel_rfl) (by kernel_rfl) (by kernel_rfl) (fun _ _ _ h => h) (Or.inl ⟨by rfl, ?hy10⟩) (by assumption) ?_
              case hy10 => (intro w hSw; (try dsimp only at hSw); go_simp; try (with_reducible rfl))
              try simp only [Act.put, List.setIfInBounds_toArray, List.set_cons_zero, List.set_cons_succ]
              refine htake (i := 10) (v := ?v11) rfl (by kernel_rfl) (by kernel_rfl) (by kernel_rfl) (fun _ _ _ h => h) (Or.inl ⟨by rfl, ?hy11⟩) (by assumption) ?_
              case hy11 => (intro w hSw; (try dsimp only at hSw); go_simp; try (with_reducible rfl))
              try simp only [Act.put, List.setIfInBounds_toArray, List.set_cons_zero, List.set_cons_succ]
              refine htake (i := 11) (v := ?v12) rfl (by kernel_rfl) (by kernel_rfl) (by kernel_rfl) (fun _ _ _ h => h) (Or.inl ⟨by rfl, ?hy12⟩) (by assumption) ?_
              case hy12 => (intro w hSw; (try dsimp only at hSw); go_simp; try (with_reducible rfl))
              try simp only [Act.put, List.setIfInBounds_toArray, List.set_cons_zero, List.set_cons_succ]
              refine htake (i := 12) (v := ?v13) rfl (by kernel_rfl) (by kernel_rfl) (by kernel_rfl) (fun _ _ _ h => h) (Or.inl ⟨by rfl, ?hy13⟩) (by assumption) ?_
              case hy13 => (intro w hSw; (try dsimp only at hSw); go_simp; try (with_reducible rfl))
              try simp only [Act.put, List.setIfInBounds_toArray, List.set_cons_zero, List.set_cons_succ]
              refine htake (i := 13) (v := ?v14) rfl (by kernel_rfl) (by kernel_rfl) (by kernel_rfl) (fun _ _ _ h => h) (Or.inl ⟨by rfl, ?hy14⟩) (by assumption) ?_
              case hy14 => (intro w hSw; (try dsimp only at hSw); go_simp; try (with_reducible rfl))
              try simp only [Act.put, List.setIfInBounds_toArray, List.set_cons_zero, List.set_cons_succ]
              refine htake (i := 14) (v := ?v15) rfl (by kernel_rfl) (by kernel_rfl) (by kernel_rfl) (fun _ _ _ h => h) (Or.inl ⟨by rfl, ?hy15⟩) (by assumption) ?_
              case hy15 => (intro w hSw; (try dsimp only at hSw); go_simp; try (with_reducible rfl))
              try simp only [Act.put, List.setIfInBounds_toArray, List.set_cons_zero, List.set_cons_succ]
              refine htake (i := 15) (v := ?v16) rfl (by kernel_rfl) (by kernel_rfl) (by kernel_rfl) (fun _ _ _ h => h) (Or.inl ⟨by rfl, ?hy16⟩) (by assumption) ?_
              case hy16 => (intro w hSw; (try dsimp only at hSw); go_simp; try (with_reducible rfl))
              try simp only [Act.put, List.setIfInBounds_toArray, List.set_cons_zero, List.set_cons_succ]
              refine wpAnyH_ready (rs := [16]) (by kernel_rfl) (by simp) ?_
              refine hcons rfl (fun K hK => ?_) (AllReadyH.nil)
              have z0 := SL.out.drew.c 0 _ rfl; have z1 := SL.out.drew.fr 0; go_simp; clear z0 z1
              refine hK.out _ _ ?_ (fun hHeld => ?_)
              · (try dsimp only); exact HS.out _ (X.out.bw.drew.setCell (p := ⟨bl, 0, none⟩) HNB.out.2.2.2 _)
              clear hK K
              try simp only [Act.put]
              refine wpAnyH_done (by kernel_rfl) ?_ _
              refine NoPanic.normal ?_
              iterate 18 (try clear hHeld)
              have hval : (if IntKind.i64.wrap (z + y.tmod 2) < 1048576 then IntKind.i64.wrap (z + y.tmod 2) else 1048576) = Hh := by rw [Int.tmod_eq_emod_of_nonneg hy0, hwz]; exact hHf2
              rw [hval]
              have hS := (SL.out.set (k := 0) (by simp) (.int .i64 Hh)).drew
              have hX := (X.out.other ⟨bl, 0, none⟩ (.int .i64 Hh) HNB.out.2.2.2 HNB.out.2.1 HNB.out.2.2.1 HNB.out.1 (fun e => by cases e)).next (Below.refl _ _).drew
              go_wp2_with fail
              go_meet
              exact ⟨hS, hX⟩
            · have e3 : ((i : Int) % 3 == 0) = false := by simp; omega
              have hHf := HHD.out
              rw [if_neg h3] at hHf
              subst hHf
              go_wp2_with fail
              go_meet
              exact ⟨SL.out, X.out⟩
          case rest =>
            obtain ⟨hS, hX⟩ := hcut
            clear X SL R2
            have SL := Lib.hid hS
            have X := Lib.hid hX
            have R2 := Lib.hid (RD.out.next X.out.bw)
            clear hS hX HHD
            obtain ⟨ix, hix0, hix, hI2, hI1⟩ := rem_idx hby1 (i + 1)
            have hJ0 : (i : Int) + 1 = (((i + 1 : Nat)) : Int) := by omega
            have hJ2 : Int.tmod ((i : Int) + 1) (byl.length : Int) = (ix : Int) := (congrArg (Int.tmod · _) hJ0).trans hI2
            have hJ1 : ((i : Int) + 1) % (byl.length : Int) = (ix : Int) := (congrArg (· % (byl.length : Int)) hJ0).trans hI1
            have HIX := Lib.hid hix0
            clear hJ0 hI1 hI2 hix0
            have l0 := u16_cell R2.out.a8 hix
            have hsb := by_at HR.out ix
            obtain ⟨sn, hsn⟩ : ∃ sn : Nat, byl.getD ix 0 = (sn : Int) := ⟨(byl.getD ix 0).toNat, by omega⟩
            rw [hsn] at l0 hsb
            have HLK := Lib.hid (show lookT lost byl i = ⟨Hh, ((tgL Hh lost sn lost.length).1 : Nat), ((tgL Hh lost sn lost.length).2 : Nat)⟩ from by
              unfold lookT
              rw [HHH.out, ← HIX.out, hsn, Int.toNat_natCast])
            have hwsn : IntKind.i64.wrap (sn : Int) = (sn : Int) := IntWalk.i64_in _ (by omega)
            have hixI : (ix : Int) < (byl.length : Int) := by omega
            have hb0I : ¬ (byl.length : Int) = 0 := by omega
            have hb0N : ¬ byl.length = 0 := by omega
            have hbne : ¬ byl = [] := by rintro e; rw [e] at hix; simp at hix
            clear hsn
            go_upto_region 17 with fail
            clear hJ1 hJ2 l0 hixI hb0I hb0N hbne R2
            go_wp2_with fail
            go_loopw [15] (fun kv wx => ∃ k : Nat, kv = .int .i64 k ∧ k ≤ lost.length ∧ Bx wx bl [.int .i64 Hh, .int .i64 ((tgL Hh lost sn k).1 : Nat), .int .i64 ((tgL Hh lost sn k).2 : Nat)] ∧ TAt V b g (g + 1) m F v2 (.slice none 0 0) ((List.range i).map (lookT lost byl)) [] wx) (fun kv _ => lost.length - (intOf kv).toNat)
            case atStart => exact ⟨0, rfl, by omega, SL.out, X.out⟩
            case round =>
              obtain ⟨k, rfl, hk, hS, hX⟩ := hrel
              clear X SL
              have SL := Lib.hid hS
              have X := Lib.hid hX
              clear hS hX
              by_cases hlt2 : k < lost.length
              · have e0 := decide_eq_true (show (k : Int) < (lost.length : Int) by omega)
                have hwk : IntKind.i64.wrap ((k : Int) + 1) = (k : Int) + 1 := IntWalk.i64_in _ (by omega)
                have l0 := int_cell (RD.out.next X.out.bw).a7 hlt2
                have HTG := Lib.hid (show tgL Hh lost sn (k + 1) = if sn.testBit k then (if lost.getD k 0 < Hh then ((tgL Hh lost sn k).1, (tgL Hh lost sn k).2 ||| 2 ^ k) else ((tgL Hh lost sn k).1 ||| 2 ^ k, (tgL Hh lost sn k).2)) else tgL Hh lost sn k from rfl)
                generalize lost.getD k 0 = z at *
                have hbi := bitI (show (0 : Int) ≤ (sn : Int) by omega) k
                have hbe : ibit (sn : Int) k = sn.testBit k := by unfold ibit; rw [Int.toNat_natCast]
                rw [hbe] at hbi
                clear hbe
                have hsw : IntKind.i64.wrap ((2 : Int) ^ k) = powI k := wrap_pow (by omega)
                have hpw : (2 : Nat) ^ k < 9223372036854775808 := Nat.lt_of_lt_of_le (Nat.pow_lt_pow_right (a := 2) (by decide) (show k < 62 by omega)) (by decide)
                have htl := tgL_lt Hh lost sn k
                generalize hT : tgL Hh lost sn k = T at *
                obtain ⟨T1, T2⟩ := T
                dsimp only at htl SL HTG
                cases hsb2 : sn.testBit k
                · rw [hsb2] at hbi HTG
                  have hTG := HTG.out
                  rw [if_neg (by decide)] at hTG
                  have hbi' : bits .and .i64 ((sn : Int) / 2 ^ k) 1 = 0 := hbi
                  clear HTG hbi
                  have hfin : Bx wr bl [.int .i64 Hh, .int .i64 ((tgL Hh lost sn (k + 1)).1 : Nat), .int .i64 ((tgL Hh lost sn (k + 1)).2 : Nat)] := by rw [hTG]; exact SL.out
                  go_wp2_with fail
                  first | (exact ⟨⟨k + 1, by push_cast; rfl, by omega, hfin, X.out⟩, by simp [intOf]; omega⟩) | (exact ⟨⟨_, ⟨k + 1, by push_cast; rfl, by omega, hfin, X.out⟩, rfl⟩, by simp [intOf]; omega⟩) | (go_roundw; (case rel => exact ⟨k + 1, by push_cast; rfl, by omega, hfin, X.out⟩); (case measure => (simp [intOf]; omega))) | (go_round; (case rel => exact ⟨k + 1, by push_cast; rfl, by omega, hfin, X.out⟩); (case measure => (simp [intOf]; omega)))
                · rw [hsb2] at hbi HTG
                  have hTG := HTG.out
                  rw [if_pos rfl] at hTG
                  have hbi' : bits .and .i64 ((sn : Int) / 2 ^ k) 1 = 1 := hbi
                  have s0 := SL.out.c 0 _ rfl
                  clear HTG hbi
                  by_cases hzH : z < Hh
                  · rw [if_pos hzH] at hTG
                    have HTG := Lib.hid hTG
                    clear hTG
                    have hor : bits .or .i64 ((T2 : Nat) : Int) (powI k) = ((T2 ||| 2 ^ k : Nat) : Int) := i64_or_nat (T2) (2 ^ k) (by omega) hpw
                    have e2 := decide_eq_true hzH
                    go_wp2_with (go_quiet (fail))
                    go_upto_region 22 with fail
                    have hX2 := X.out.drewN nq
                    have hS2 := SL.out.drewN (n := nq)
                    generalize (wr.drewN nq) = Y2 at *
                    have X2 := Lib.hid hX2
                    have SL2 := Lib.hid hS2
                    clear hX2 hS2
                    refine wp_region_noPanic ?_
                    refine wp_region_held_drew (S := (fun W => True)) (by kernel_rfl) ?_ (fun hHeld => ?_)
                    · (try dsimp only); first | done | trivial
                    refine htake (i := 0) (v := ?v17) rfl (by kernel_rfl) (by kernel_rfl) (by kernel_rfl) (fun _ _ _ h => h) (Or.inl ⟨by rfl, ?hy17⟩) (by assumption) ?_
                    case hy17 => (intro w hSw; (try dsimp only at hSw); go_simp; try (with_reducible rfl))
                    try simp only [Act.put, List.setIfInBounds_toArray, List.set_cons_zero, List.set_cons_succ]
                    refine htake (i := 2) (v := ?v18) rfl (by kernel_rfl) (by kernel_rfl) (by kernel_rfl) (fun _ _ _ h => h) (Or.inl ⟨by rfl, ?hy18⟩) (by assumption) ?_
                    case hy18 => (intro w hSw; (try dsimp only at hSw); go_simp; try (with_reducible rfl))
                    try simp only [Act.put, List.setIfInBounds_toArray, List.set_cons_zero, List.set_cons_succ]
                    refine htake (i := 3) (v := ?v19) rfl (by kernel_rfl) (by kernel_rfl) (by kernel_rfl) (fun _ _ _ h => h) (Or.inl ⟨by rfl, ?hy19⟩) (by assumption) ?_
                    case hy19 => (intro w hSw; (try dsimp only at hSw); go_simp; try (with_reducible rfl))
                    try simp only [Act.put, List.setIfInBounds_toArray, List.set_cons_zero, List.set_cons_succ]
                    refine wpAnyH_ready (rs := [1]) (by kernel_rfl) (by simp) ?_
                    refine hcons rfl (fun K hK => ?_) (AllReadyH.nil)
                    have z0 := SL2.out.drew.c 2 _ rfl; go_simp; clear z0
                    refine hK.out _ _ ?_ (fun hHeld => ?_)
                    · (try dsimp only); first | done | trivial
                    clear hK K
                    try simp only [Act.put, List.setIfInBounds_toArray, List.set_cons_zero, List.set_cons_succ]
                    refine htake (i := 4) (v := ?v20) rfl (by kernel_rfl) (by kernel_rfl) (by kernel_rfl) (fun _ _ _ h => h) (Or.inl ⟨by rfl, ?hy20⟩) (by assumption) ?_
                    case hy20 => (intro w hSw; (try dsimp only at hSw); go_simp; try (with_reducible rfl))
                    try simp only [Act.put, List.setIfInBounds_toArray, List.set_cons_zero, List.set_cons_succ]
                    refine htake (i := 5) (v := ?v21) rfl (by kernel_rfl) (by kernel_rfl) (by kernel_rfl) (fun _ _ _ h => h) (Or.inl ⟨by rfl, ?hy21⟩) (by assumption) ?_
                    case hy21 => (intro w hSw; (try dsimp only at hSw); go_simp; try (with_reducible rfl))
                    try simp only [Act.put, List.setIfInBounds_toArray, List.set_cons_zero, List.set_cons_succ]
                    refine wpAnyH_ready (rs := [6]) (by kernel_rfl) (by simp) ?_
                    refine hcons rfl (fun K hK => ?_) (AllReadyH.nil)
                    have z0 := SL2.out.drew.c 2 _ rfl; have z1 := SL2.out.drew.fr 2; go_simp; clear z0 z1
                    refine hK.out _ _ ?_ (fun hHeld => ?_)
                    · (try dsimp only); first | done | trivial
                    clear hK K
                    try simp only [Act.put]
                    refine wpAnyH_done (by kernel_rfl) ?_ _
                    refine NoPanic.normal ?_
                    iterate 8 (try clear hHeld)
                    have hS := (SL2.out.set (k := 2) (by simp) (.int .i64 ((T2 ||| 2 ^ k : Nat) : Int))).drew
                    have hX := (X2.out.other ⟨bl, 2, none⟩ (.int .i64 ((T2 ||| 2 ^ k : Nat) : Int)) HNB.out.2.2.2 HNB.out.2.1 HNB.out.2.2.1 HNB.out.1 (fun e => by cases e)).next (Below.refl _ _).drew
                    have hfin : Bx (Y2.setCell ⟨bl, 2, none⟩ (.int .i64 ((T2 ||| 2 ^ k : Nat) : Int))).drew bl [.int .i64 Hh, .int .i64 ((tgL Hh lost sn (k + 1)).1 : Nat), .int .i64 ((tgL Hh lost sn (k + 1)).2 : Nat)] := by rw [HTG.out]; exact hS
                    go_wp2_with fail
                    first | (exact ⟨⟨k + 1, by push_cast; rfl, by omega, hfin, hX⟩, by simp [intOf]; omega⟩) | (exact ⟨⟨_, ⟨k + 1, by push_cast; rfl, by omega, hfin, hX⟩, rfl⟩, by simp [intOf]; omega⟩) | (go_roundw; (case rel => exact ⟨k + 1, by push_cast; rfl, by omega, hfin, hX⟩); (case measure => (simp [intOf]; omega))) | (go_round; (case rel => exact ⟨k + 1, by push_cast; rfl, by omega, hfin, hX⟩); (case measure => (simp [intOf]; omega)))
                  · rw [if_neg hzH] at hTG
                    have HTG := Lib.hid hTG
                    clear hTG
                    have hor : bits .or .i64 ((T1 : Nat) : Int) (powI k) = ((T1 ||| 2 ^ k : Nat) : Int) := i64_or_nat (T1) (2 ^ k) (by omega) hpw
                    have e2 := decide_eq_false hzH
                    go_wp2_with (go_quiet (fail))
                    go_upto_region 23 with fail
                    have hX2 := X.out.drewN nq
                    have hS2 := SL.out.drewN (n := nq)
                    generalize (wr.drewN nq) = Y2 at *
                    have X2 := Lib.hid hX2
                    have SL2 := Lib.hid hS2
                    clear hX2 hS2
                    refine wp_region_noPanic ?_
                    refine wp_region_held_drew (S := (fun W => True)) (by kernel_rfl) ?_ (fun hHeld => ?_)
                    · (try dsimp only); first | done | trivial
                    refine htake (i := 0) (v := ?v22) rfl (by kernel_rfl) (by kernel_rfl) (by kernel_rfl) (fun _ _ _ h => h) (Or.inl ⟨by rfl, ?hy22⟩) (by assumption) ?_
                    case hy22 => (intro w hSw; (try dsimp only at hSw); go_simp; try (with_reducible rfl))
                    try simp only [Act.put, List.setIfInBounds_toArray, List.set_cons_zero, List.set_cons_succ]
                    refine htake (i := 2) (v := ?v23) rfl (by kernel_rfl) (by kernel_rfl) (by kernel_rfl) (fun _ _ _ h => h) (Or.inl ⟨by rfl, ?hy23⟩) (by assumption) ?_
                    case hy23 => (intro w hSw; (try dsimp only at hSw); go_simp; try (with_reducible rfl))
                    try simp only [Act.put, List.setIfInBounds_toArray, List.set_cons_zero, List.set_cons_succ]
                    refine htake (i := 3) (v := ?v24) rfl (by kernel_rfl) (by kernel_rfl) (by kernel_rfl) (fun _ _ _ h => h) (Or.inl ⟨by rfl, ?hy24⟩) (by assumption) ?_
                    case hy24 => (intro w hSw; (try dsimp only at hSw); go_simp; try (with_reducible rfl))
                    try simp only [Act.put, List.setIfInBounds_toArray, List.set_cons_zero, List.set_cons_succ]
                    refine wpAnyH_ready (rs := [1]) (by kernel_rfl) (by simp) ?_
                    refine hcons rfl (fun K hK => ?_) (AllReadyH.nil)
                    have z0 := SL2.out.drew.c 1 _ rfl; go_simp; clear z0
                    refine hK.out _ _ ?_ (fun hHeld => ?_)
                    · (try dsimp only); first | done | trivial
                    clear hK K
                    try simp only [Act.put, List.setIfInBounds_toArray, List.set_cons_zero, List.set_cons_succ]
                    refine htake (i := 4) (v := ?v25) rfl (by kernel_rfl) (by kernel_rfl) (by kernel_rfl) (fun _ _ _ h => h) (Or.inl ⟨by rfl, ?hy25⟩) (by assumption) ?_
                    case hy25 => (intro w hSw; (try dsimp only at hSw); go_simp; try (with_reducible rfl))
                    try simp only [Act.put, List.setIfInBounds_toArray, List.set_cons_zero, List.set_cons_succ]
                    refine htake (i := 5) (v := ?v26) rfl (by kernel_rfl) (by kernel_rfl) (by kernel_rfl) (fun _ _ _ h => h) (Or.inl ⟨by rfl, ?hy26⟩) (by assumption) ?_
                    case hy26 => (intro w hSw; (try dsimp only at hSw); go_simp; try (with_reducible rfl))
                    try simp only [Act.put, List.setIfInBounds_toArray, List.set_cons_zero, List.set_cons_succ]
                    refine wpAnyH_ready (rs := [6]) (by kernel_rfl) (by simp) ?_
                    refine hcons rfl (fun K hK => ?_) (AllReadyH.nil)
                    have z0 := SL2.out.drew.c 1 _ rfl; have z1 := SL2.out.drew.fr 1; go_simp; clear z0 z1
                    refine hK.out _ _ ?_ (fun hHeld => ?_)
                    · (try dsimp only); first | done | trivial
                    clear hK K
                    try simp only [Act.put]
                    refine wpAnyH_done (by kernel_rfl) ?_ _
                    refine NoPanic.normal ?_
                    iterate 8 (try clear hHeld)
                    have hS := (SL2.out.set (k := 1) (by simp) (.int .i64 ((T1 ||| 2 ^ k : Nat) : Int))).drew
                    have hX := (X2.out.other ⟨bl, 1, none⟩ (.int .i64 ((T1 ||| 2 ^ k : Nat) : Int)) HNB.out.2.2.2 HNB.out.2.1 HNB.out.2.2.1 HNB.out.1 (fun e => by cases e)).next (Below.refl _ _).drew
                    have hfin : Bx (Y2.setCell ⟨bl, 1, none⟩ (.int .i64 ((T1 ||| 2 ^ k : Nat) : Int))).drew bl [.int .i64 Hh, .int .i64 ((tgL Hh lost sn (k + 1)).1 : Nat), .int .i64 ((tgL Hh lost sn (k + 1)).2 : Nat)] := by rw [HTG.out]; exact hS
                    go_wp2_with fail
                    first | (exact ⟨⟨k + 1, by push_cast; rfl, by omega, hfin, hX⟩, by simp [intOf]; omega⟩) | (exact ⟨⟨_, ⟨k + 1, by push_cast; rfl, by omega, hfin, hX⟩, rfl⟩, by simp [intOf]; omega⟩) | (go_roundw; (case rel => exact ⟨k + 1, by push_cast; rfl, by omega, hfin, hX⟩); (case measure => (simp [intOf]; omega))) | (go_round; (case rel => exact ⟨k + 1, by push_cast; rfl, by omega, hfin, hX⟩); (case measure => (simp [intOf]; omega)))
              · have e0 := decide_eq_false (show ¬ (k : Int) < (lost.length : Int) by omega)
                obtain rfl : k = lost.length := by omega
                obtain ⟨L, hL⟩ : ∃ L, (List.range i).map (lookT lost byl) = L := ⟨_, rfl⟩
                have HLn := Lib.hid (show L.length = i by rw [← hL, List.length_map, List.length_range])
                rw [hL] at X
                obtain ⟨x, hx⟩ : ∃ x, lookT lost byl i = x := ⟨_, rfl⟩
                have HRR := Lib.hid (show (List.range (i + 1)).map (lookT lost byl) = L ++ [x] by rw [List.range_succ, List.map_append, hL, ← hx]; rfl)
                have hxc := HLK.out
                rw [hx] at hxc
                have HXC := Lib.hid (show x.cells = [.int .i64 Hh, .int .i64 ((tgL Hh lost sn lost.length).1 : Nat), .int .i64 ((tgL Hh lost sn lost.length).2 : Nat)] by rw [hxc]; rfl)
                clear hL hx hxc HLK
                generalize (tgL Hh lost sn lost.length).1 = T1 at *
                generalize (tgL Hh lost sn lost.length).2 = T2 at *
                go_upto_region 24 with fail
                clear e0
                obtain ⟨A2, cc2, A3, cc3, e1, -, hc2, -, -, -⟩ := X.out.form
                subst e1
                have s0 := SL.out.c 0 _ rfl
                have s1 := SL.out.c 1 _ rfl
                have s2 := SL.out.c 2 _ rfl
                have x2 := X.out.x.c 2 _ rfl
                have hn := Bx.new wr #[.int .i64 Hh, .int .i64 (T1 : Nat), .int .i64 (T2 : Nat)] 50
                have hA := nxA wr (.cells #[.int .i64 Hh, .int .i64 (T1 : Nat), .int .i64 (T2 : Nat)] 50)
                obtain ⟨ib, gi, gz0, gz1, gz2⟩ := info_parts sight_info
                have XA := Lib.hid (X.out.next hA)
                have hBs : g < wr.heap.size := X.out.blk.lt
                go_wp2_with (at_builtin; refine wpList_append_own _ rfl (.tmp 128) (.tmp 130) 23 rfl (g + 1) 50 ib (.agg #[.int .i64 0, .int .i64 0, .int .i64 0]) 3 24 Tryd.underlying23 gi gz0 gz1 gz2 rfl (by decide) _ _ _ rfl XA.out.o2 ⟨wr.heap.size, 0, none⟩ 1 1 [.int .i64 Hh, .int .i64 (T1 : Nat), .int .i64 (T2 : Nat)] rfl rfl hn.news (by simp [Value.oneCell']) (by have := HLn.out; unfold maxLen; omega) (by have := HLn.out; omega) (by simp; omega) ?_; intro v6 w6 ho6 hg6 _; obtain ⟨hx6, hX6⟩ := XA.out.look (x := x) hg6 ho6 rfl (by rw [HXC.out]); obtain ⟨A6, c6, e6, -⟩ := own_form ho6; subst e6; have z0 := hx6.c 2 _ rfl; have z1 := hx6.fr 2; have HX6 := Lib.hid hX6; clear hX6 ho6 hg6)
                have hfin := HX6.out
                rw [← HRR.out] at hfin
                first | (exact ⟨⟨i + 1, by push_cast; rfl, by omega, _, hfin⟩, by simp [intOf]; omega⟩) | (exact ⟨⟨_, ⟨i + 1, by push_cast; rfl, by omega, _, hfin⟩, rfl⟩, by simp [intOf]; omega⟩) | (go_roundw; (case rel => exact ⟨i + 1, by push_cast; rfl, by omega, _, hfin⟩); (case measure => (simp [intOf]; omega))) | (go_round; (case rel => exact ⟨i + 1, by push_cast; rfl, by omega, _, hfin⟩); (case measure => (simp [intOf]; omega)))
        · have hcase : (byl.length ≤ i ∧ decide ((i : Int) < (byl.length : Int)) = false) ∨ ((i < byl.length ∧ 20 ≤ i) ∧ decide ((i : Int) < (byl.length : Int)) = true ∧ decide ((i : Int) < 20) = false) := by
            by_cases h1 : i < byl.length
            · exact .inr ⟨⟨h1, by omega⟩, decide_eq_true (by omega), decide_eq_false (by omega)⟩
            · exact .inl ⟨by omega, decide_eq_false (by omega)⟩
          have hi2 : i = min byl.length 20 := by omega
          obtain ⟨L, hL⟩ : ∃ L, (List.range i).map (lookT lost byl) = L := ⟨_, rfl⟩
          rw [hL] at X
          have HLK := Lib.hid (show L = (toldT m.t lost byl).looks by rw [← hL, hi2]; rfl)
          clear hL hi2 hi hlt
          rcases hcase with ⟨hq1, e0⟩ | ⟨⟨hq1, hq2⟩, e0, e1⟩
          all_goals
            go_upto_region 25 with fail
            clear e0 hq1
            try clear e1 hq2
            go_wp2_with fail
            go_loopw [16] (fun iv wx => ∃ p : Nat, iv = .int .i64 p ∧ p ≤ m.t.admits.length ∧ ∃ v3, TAt V b g (g + 1) m F v2 v3 L ((List.range p).map (admT m.t.loans lost byl)) wx) (fun iv _ => m.t.admits.length - (intOf iv).toNat)
            case atStart => exact ⟨0, rfl, by omega, _, X.out⟩
            case round =>
              obtain ⟨p, rfl, hp, v3, hX⟩ := hrel
              clear X R2
              have X := Lib.hid hX
              clear hX
              have R2 := Lib.hid (RD.out.next X.out.bw)
              by_cases hlt : p < m.t.admits.length
              · have e0 := decide_eq_true (show (p : Int) < (m.t.admits.length : Int) by omega)
                have hwp : IntKind.i64.wrap ((p : Int) + 1) = (p : Int) + 1 := IntWalk.i64_in _ (by omega)
                obtain ⟨ix, hix0, hix, hI2, hI1⟩ := rem_idx hby1 p
                have l0 := u16_cell R2.out.a8 hix
                have hyb := by_at HR.out ix
                have HAD := Lib.hid (show admT m.t.loans lost byl p = if byl.getD (p % byl.length) 0 % 2 = 1 then (manyT m.t.loans lost p lost.length : Int) else -1 from rfl)
                rw [← hix0] at HAD
                generalize byl.getD ix 0 = y at *
                have HFp := Lib.hid (show (manyT m.t.loans lost p lost.length : Int) = F p from congrFun HF.out p)
                rw [HFp.out] at HAD
                have c1 := X.out.blk.cell p hlt
                generalize F p = fp at *
                have hixI : (ix : Int) < (byl.length : Int) := by omega
                have hb0I : ¬ (byl.length : Int) = 0 := by omega
                have hb0N : ¬ byl.length = 0 := by omega
                have hbne : ¬ byl = [] := by rintro e; rw [e] at hix; simp at hix
                have hym := Int.tmod_eq_emod_of_nonneg (b := 2) hyb.1
                clear hix0
                go_upto_region 29 with fail
                clear e0
                go_upto_if 147 with fail
                go_cut [17] (fun s wx => s = .int .i64 (admT m.t.loans lost byl p) ∧ wx = wr)
                case first =>
                  by_cases ho : y % 2 = 1
                  · have e3 : (y % 2 == 1) = true := by simp [ho]
                    have hv := HAD.out
                    rw [if_pos ho] at hv
                    go_wp2_with fail
                    go_meet
                    exact ⟨by rw [hv], rfl⟩
                  · have e3 : (y % 2 == 1) = false := by simp [ho]
                    have hv := HAD.out
                    rw [if_neg ho] at hv
                    go_wp2_with fail
                    go_meet
                    exact ⟨by rw [hv], rfl⟩
                case rest =>
                  obtain ⟨rfl, hw⟩ := hcut
                  have hw2 := hw.symm
                  clear hw
                  subst hw2
                  clear HAD HFp c1 l0 hym hI1 hI2 hixI hb0I hb0N hbne R2
                  obtain ⟨LA, hLA⟩ : ∃ L, (List.range p).map (admT m.t.loans lost byl) = L := ⟨_, rfl⟩
                  have HLn := Lib.hid (show LA.length = p by rw [← hLA, List.length_map, List.length_range])
                  have HRR := Lib.hid (show (List.range (p + 1)).map (admT m.t.loans lost byl) = LA ++ [admT m.t.loans lost byl p] by rw [List.range_succ, List.map_append, hLA]; rfl)
                  rw [hLA] at X
                  clear hLA
                  generalize admT m.t.loans lost byl p = av at *
                  obtain ⟨A2, cc2, A3, cc3, -, e3, -, hc3, -, -⟩ := X.out.form
                  subst e3
                  have x3 := X.out.x.c 3 _ rfl
                  have hn := Bx.new wr #[.int .i64 av] 3
                  have hA := nxA wr (.cells #[.int .i64 av] 3)
                  obtain ⟨ib, gi, gz0, gz1, gz2⟩ := info_parts int_info
                  have XA := Lib.hid (X.out.next hA)
                  have hBs : g < wr.heap.size := X.out.blk.lt
                  go_wp2_with (at_builtin; refine wpList_append_own _ rfl (.tmp 153) (.tmp 155) 24 rfl (g + 1) 3 ib (.int .i64 0) 1 8 Tryd.underlying24 gi gz0 gz1 gz2 rfl (by decide) _ _ _ rfl XA.out.o3 ⟨wr.heap.size, 0, none⟩ 1 1 [.int .i64 av] rfl rfl hn.news (by simp [Value.oneCell']) (by have := HLn.out; unfold maxLen; omega) (by have := HLn.out; omega) (by simp; omega) ?_; intro v6 w6 ho6 hg6 _; obtain ⟨hx6, hX6⟩ := XA.out.adm (x := av) hg6 ho6 rfl rfl; obtain ⟨A6, c6, e6, -⟩ := own_form ho6; subst e6; have z0 := hx6.c 3 _ rfl; have z1 := hx6.fr 3; have HX6 := Lib.hid hX6; clear hX6 ho6 hg6)
                  have hfin := HX6.out
                  rw [← HRR.out] at hfin
                  first | (exact ⟨⟨p + 1, by push_cast; rfl, by omega, _, hfin⟩, by simp [intOf]; omega⟩) | (exact ⟨⟨_, ⟨p + 1, by push_cast; rfl, by omega, _, hfin⟩, rfl⟩, by simp [intOf]; omega⟩) | (go_roundw; (case rel => exact ⟨p + 1, by push_cast; rfl, by omega, _, hfin⟩); (case measure => (simp [intOf]; omega))) | (go_round; (case rel => exact ⟨p + 1, by push_cast; rfl, by omega, _, hfin⟩); (case measure => (simp [intOf]; omega)))
              · have e0 := decide_eq_false (show ¬ (p : Int) < (m.t.admits.length : Int) by omega)
                obtain rfl : p = m.t.admits.length := by omega
                obtain ⟨LA, hLA⟩ : ∃ L, (List.range m.t.admits.length).map (admT m.t.loans lost byl) = L := ⟨_, rfl⟩
                rw [hLA] at X
                have HLA := Lib.hid (show LA = (toldT m.t lost byl).admits from hLA.symm)
                clear hLA
                obtain ⟨A2, cc2, A3, cc3, e2, e3, hc2, hc3, -, -⟩ := X.out.form
                subst e2 e3
                have x0 := X.out.x.c 0 _ rfl
                have x1 := X.out.x.c 1 _ rfl
                have x2 := X.out.x.c 2 _ rfl
                have x3 := X.out.x.c 3 _ rfl
                have Z := Lib.hid (HZ.out.next X.out.bw)
                have z0 := Z.out.c 0 _ rfl
                have z1 := Z.out.c 1 _ rfl
                have z2 := Z.out.c 2 _ rfl
                have z3 := Z.out.c 3 _ rfl
                have y0 := Z.out.fr 0
                have y1 := Z.out.fr 1
                have y2 := Z.out.fr 2
                have y3 := Z.out.fr 3
                go_wp2_with fail
                (try simp only [Exit.inBlock, Exit.then])
                refine bodyPost_ret (results_cell2 rfl rfl (loadTale (Z.out.setAll [.int .i64 m.t.n, .slice m.A1 m.t.loans.length m.c1, .slice A2 L.length cc2, .slice A3 LA.length cc3] rfl))) rfl ?_
                exact told_end (b6 := w.heap.size + 1) X.out hc2 hc3 (HB.out.trans (X.out.bw.mono HB.out.size)) (HD0.out.below (X.out.bw.mono HB.out.size)) (by omega) (by omega) HLK.out HLA.out HF.out [.int .i64 m.t.n, .slice m.A1 m.t.loans.length m.c1, .slice A2 L.length cc2, .slice A3 LA.length cc3]
end Go.Proofs.YtkcfpnpejaekjaaDoor
