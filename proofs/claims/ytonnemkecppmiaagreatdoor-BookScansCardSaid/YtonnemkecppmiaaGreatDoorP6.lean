import Derived.Test.YtonnemkecppmiaaGreatDoorP5
import Derived.Test.YtonnemkecppmiaaGreatDoorPln
import Derived.Lib.AppendIntMem
namespace Go.Proofs.YtonnemkecppmiaaGreatDoor
open Go.RowKit
/-! The program: row: the words of a line. -/
inductive Wd where
  | t (b : Tx)
  | n (i : Int)
  | s (p : Sp)
def Wd.v : Wd → Value
  | .t b => .iface 9 (tx b)
  | .n i => .iface 3 (.int .i64 i)
  | .s p => .iface 23 (.agg #[.int .i64 p.lo, .int .i64 p.hi])
def Wd.tx : Wd → Tx
  | .t b => b
  | .n i => Lib.itoa i
  | .s p => spT p
def Wd.ok : Wd → Prop
  | .t b => b.length ≤ 20
  | .n i => 0 ≤ i ∧ i < 100000
  | .s p => 0 ≤ p.lo ∧ p.lo < 100000 ∧ 0 ≤ p.hi ∧ p.hi < 100000
theorem itoa_any (n : Int) (w : World) (hE : Env w) (h0 : 0 ≤ n) (h1 : n < 100000) : Calls Tryz.prog 99 #[.int .i64 n] w (Ret (tx (Lib.itoa n)) w) :=
  (Tryz.strconv_Itoa n (by omega) (by omega) w hE.tab).mono fun e w' ⟨he, k, os, hw⟩ => ⟨he, by rw [hw]; exact Lib.below_grow _ _ (Nat.le_refl _) _ _⟩
theorem str_info : (Tryz.prog.info? 9).map (fun i => (i.zero, i.size, i.bytes)) = some (some (.string ⟨#[]⟩), 1, 16) := by kernel_rfl
theorem wd_len {x : Wd} (h : x.ok) : x.tx.length ≤ 20 := by
  cases x with
  | t b => exact h
  | n i => have := itoa_len h.1 h.2; show (Lib.itoa i).length ≤ 20; omega
  | s p =>
    have h1 := itoa_len h.1 h.2.1
    have h2 := itoa_len h.2.2.1 h.2.2.2
    show (spT p).length ≤ 20
    unfold spT
    split
    · omega
    · rw [List.length_append, List.length_append]
      show _ + (2 + _) ≤ 20
      omega
theorem glue_len (c : UInt8) : ∀ l : List Tx, (∀ x ∈ l, x.length ≤ 20) → (glue c l).length ≤ 21 * l.length
  | [], _ => by show 0 ≤ _; omega
  | [x], h => by
    have := h x (List.mem_cons_self ..)
    show x.length ≤ 21 * 1
    omega
  | x :: y :: l, h => by
    have h1 := h x (List.mem_cons_self ..)
    have h2 := glue_len c (y :: l) fun z hz => h z (List.mem_cons_of_mem _ hz)
    show (x ++ c :: glue c (y :: l)).length ≤ _
    rw [List.length_append, List.length_cons, List.length_cons]
    omega
theorem ta_tt (v : Value) (W : World) : (Instr.typeAssert (.iface 9 v) 20 9 true).run Tryz.prog W = .ok (.tuple #[v, .bool true]) W := by kernel_rfl
theorem ta_nt (v : Value) (W : World) : (Instr.typeAssert (.iface 3 v) 20 9 true).run Tryz.prog W = .ok (.tuple #[.string ⟨#[]⟩, .bool false]) W := by kernel_rfl
theorem ta_st (v : Value) (W : World) : (Instr.typeAssert (.iface 23 v) 20 9 true).run Tryz.prog W = .ok (.tuple #[.string ⟨#[]⟩, .bool false]) W := by kernel_rfl
theorem ta_nn (v : Value) (W : World) : (Instr.typeAssert (.iface 3 v) 20 3 true).run Tryz.prog W = .ok (.tuple #[v, .bool true]) W := by kernel_rfl
theorem ta_sn (v : Value) (W : World) : (Instr.typeAssert (.iface 23 v) 20 3 true).run Tryz.prog W = .ok (.tuple #[.int .i64 0, .bool false]) W := by kernel_rfl
theorem ta_ss (v : Value) (W : World) : (Instr.typeAssert (.iface 23 v) 20 23 true).run Tryz.prog W = .ok (.tuple #[v, .bool true]) W := by kernel_rfl
def wv (x : Wd) : List Value := [x.v]
def wtx (x : Wd) : Value := tx x.tx
def RowR (l : List Wd) (w0 : World) (v i : Value) (w : World) : Prop := ∃ k : Nat, k ≤ l.length ∧ i = .int .i64 k ∧ Below w0.heap.size w0 w ∧ w.ownsRow w0.heap.size 9 1 v k ((l.take k).map wtx)
set_option maxRecDepth 100000 in
set_option maxHeartbeats 4000000 in
theorem row_any (A : Option Addr) (c : Nat) (l : List Wd) (w : World) (hE : Env w) (h : At w w.heap.size 1 wv A l) (h0 : l ≠ []) (hl : l.length ≤ 1000) (hok : ∀ x ∈ l, x.ok) : Calls Tryz.prog 74 #[.slice A l.length c] w (Ret (tx (glue 32 (l.map Wd.tx) ++ [10])) w) := by
  have HE := Lib.hid hE
  have HL := Lib.hid h
  have HO := Lib.hid hok
  have H0 := Lib.hid h0
  clear hE h hok h0
  obtain ⟨i0, hi, hz0, hz1, hz2⟩ := info_parts str_info
  go_enter Tryz.func74, Tryz.ntmps74
  go_wp2
  go_loopw [12, 3] (fun i v wr => RowR l w v i wr) (fun i _ _ => l.length - (intOf i).toNat)
  case atStart => exact ⟨0, by omega, rfl, Below.refl _ _, World.ownsRow_nil _ _ _ _⟩
  case round =>
    obtain ⟨k, hk, rfl, hb, hown⟩ := hrel
    have HOWN := Lib.hid hown
    have HB := Lib.hid hb
    have hsz := hb.size
    clear hown hb
    by_cases hlt : k < l.length
    · obtain ⟨b, off, rfl, hbk, hcs⟩ := HL.out.below HB.out k l[k] (List.getElem?_eq_getElem hlt)
      have hc := hcs 0 _ rfl
      have hkx := Lib.hid (HO.out _ (List.getElem_mem hlt))
      have HT := Lib.hid (show (l.take (k + 1)).map wtx = (l.take k).map wtx ++ [wtx l[k]] by rw [List.take_succ_eq_append_getElem hlt, List.map_append]; rfl)
      generalize l[k] = x at hc HT hkx
      clear hcs
      rw [Nat.mul_one, Nat.add_zero] at hc
      have hwk : IntKind.i64.wrap ((k : Int) + 1) = (k : Int) + 1 := IntWalk.i64_in _ (by omega)
      cases x with
      | t s =>
        change _ = some (Value.iface 9 (tx s)) at hc
        go_wp2_with fail
        rw [ta_tt]
        simp only [Result.andThen]
        rw [Oper.upon_value]
        go_wp2_with (at_builtin; refine wpList_append_own _ rfl (.tmp 20) (.tmp 22) 79 rfl w.heap.size 9 i0 (.string ⟨#[]⟩) 1 16 Tryz.underlying79 hi hz0 hz1 hz2 rfl (by decide) _ k _ rfl (HOWN.out.alloc _) ⟨wr.heap.size, 0, none⟩ 1 1 [tx s] rfl rfl (cell_one_new _ _ _) (by simp [Value.oneCell']) (by unfold maxLen; omega) (by omega) (by simp; omega) ?_; intro v' w' hown' hgrow _)
        have HB2 := Lib.hid (Below.grown (HB.out.alloc hsz (.cells #[tx s] 9)) hgrow (by simp; omega) (fun j hj => (HOWN.out.lt j hj).1))
        have HOW2 := Lib.hid (show w'.ownsRow w.heap.size 9 1 v' (k + 1) ((l.take (k + 1)).map wtx) by rw [HT.out]; exact hown')
        clear hown' hgrow
        go_wp2_with fail
        (first | (refine ⟨?_, ?_⟩; (unfold RowR; exact ⟨k + 1, by omega, by go_num, HB2.out, HOW2.out⟩); (simp [intOf]; omega)) | (go_roundw; (case rel => (unfold RowR; exact ⟨k + 1, by omega, by go_num, HB2.out, HOW2.out⟩)); (case measure => (simp [intOf]; omega))) | (go_round; (case rel => (unfold RowR; exact ⟨k + 1, by omega, by go_num, HB2.out, HOW2.out⟩)); (case measure => (simp [intOf]; omega))))
      | n i =>
        change _ = some (Value.iface 3 (.int .i64 i)) at hc
        obtain ⟨i1, i2⟩ := hkx.out
        go_wp2_with fail
        rw [ta_nt]
        simp only [Result.andThen]
        rw [Oper.upon_value]
        go_wp2_with fail
        rw [ta_nn]
        simp only [Result.andThen]
        rw [Oper.upon_value]
        go_wp2_with fail
        refine (itoa_any i wr (HE.out.next HB.out) i1 i2).mono ?_
        rintro e V ⟨rfl, hb⟩
        have HB3 := Lib.hid (HB.out.trans (hb.mono hsz))
        have HOV := Lib.hid (own_below HOWN.out hb)
        have hsz3 := HB3.out.size
        clear hb
        go_wp2_with (at_builtin; refine wpList_append_own _ rfl (.tmp 27) (.tmp 30) 79 rfl w.heap.size 9 i0 (.string ⟨#[]⟩) 1 16 Tryz.underlying79 hi hz0 hz1 hz2 rfl (by decide) _ k _ rfl (HOV.out.alloc _) ⟨V.heap.size, 0, none⟩ 1 1 [tx (Lib.itoa i)] rfl rfl (cell_one_new _ _ _) (by simp [Value.oneCell']) (by unfold maxLen; omega) (by omega) (by simp; omega) ?_; intro v' w' hown' hgrow _)
        have HB2 := Lib.hid (Below.grown (HB3.out.alloc hsz3 (.cells #[tx (Lib.itoa i)] 9)) hgrow (by simp; omega) (fun j hj => (HOV.out.lt j hj).1))
        have HOW2 := Lib.hid (show w'.ownsRow w.heap.size 9 1 v' (k + 1) ((l.take (k + 1)).map wtx) by rw [HT.out]; exact hown')
        clear hown' hgrow
        go_wp2_with fail
        (first | (refine ⟨?_, ?_⟩; (unfold RowR; exact ⟨k + 1, by omega, by go_num, HB2.out, HOW2.out⟩); (simp [intOf]; omega)) | (go_roundw; (case rel => (unfold RowR; exact ⟨k + 1, by omega, by go_num, HB2.out, HOW2.out⟩)); (case measure => (simp [intOf]; omega))) | (go_round; (case rel => (unfold RowR; exact ⟨k + 1, by omega, by go_num, HB2.out, HOW2.out⟩)); (case measure => (simp [intOf]; omega))))
      | s p =>
        change _ = some (Value.iface 23 (.agg #[.int .i64 p.lo, .int .i64 p.hi])) at hc
        obtain ⟨i1, i2, i3, i4⟩ := hkx.out
        have HX := Lib.hid (Bx.new wr #[.int .i64 p.lo, .int .i64 p.hi] 23)
        have hn := nxA wr (.cells #[.int .i64 p.lo, .int .i64 p.hi] 23)
        have HB0 := Lib.hid (HB.out.trans (hn.mono hsz))
        have HO0 := Lib.hid (own_below HOWN.out hn)
        have HSP := Lib.hid (show spT p = if p.hi = p.lo then Lib.itoa p.lo else Lib.itoa p.lo ++ (dots ++ Lib.itoa p.hi) from rfl)
        clear hn HOWN HB
        go_wp2_with fail
        rw [ta_st]
        simp only [Result.andThen]
        rw [Oper.upon_value]
        go_wp2_with fail
        rw [ta_sn]
        simp only [Result.andThen]
        rw [Oper.upon_value]
        go_wp2_with fail
        rw [ta_ss]
        simp only [Result.andThen]
        rw [Oper.upon_value]
        go_wp2_with fail
        generalize hq : (wr.alloc (.cells #[.int .i64 p.lo, .int .i64 p.hi] 23)) = V0 at *
        clear hq
        obtain ⟨g, hg⟩ : ∃ g, g = wr.heap.size := ⟨_, rfl⟩
        rw [← hg] at HX ⊢
        clear hg
        refine (itoa_any p.lo V0 (HE.out.next HB0.out) i1 i2).mono ?_
        rintro e V ⟨rfl, hb⟩
        have HB3 := Lib.hid (HB0.out.trans (hb.mono HB0.out.size))
        have HOV := Lib.hid (own_below HO0.out hb)
        have HX3 := Lib.hid (HX.out.next hb)
        have hsz3 := HB3.out.size
        clear hb HB0 HO0 HX
        have q0 := HX3.out.c 0 _ rfl
        have q1 := HX3.out.c 1 _ rfl
        by_cases hpp : p.hi = p.lo
        · have HS2 : spT p = Lib.itoa p.lo := by rw [HSP.out, if_pos hpp]
          rw [hpp] at q1
          rw [show (wtx (Wd.s p)) = tx (Lib.itoa p.lo) by rw [← HS2]; rfl] at HT
          clear HSP hpp HS2
          go_wp2_with (at_builtin; refine wpList_append_own _ rfl (.tmp 49) (.tmp 51) 79 rfl w.heap.size 9 i0 (.string ⟨#[]⟩) 1 16 Tryz.underlying79 hi hz0 hz1 hz2 rfl (by decide) _ k _ rfl (HOV.out.alloc _) ⟨V.heap.size, 0, none⟩ 1 1 [tx (Lib.itoa p.lo)] rfl rfl (cell_one_new _ _ _) (by simp [Value.oneCell']) (by unfold maxLen; omega) (by omega) (by simp; omega) ?_; intro v' w' hown' hgrow _)
          have HB2 := Lib.hid (Below.grown (HB3.out.alloc hsz3 (.cells #[tx (Lib.itoa p.lo)] 9)) hgrow (by simp; omega) (fun j hj => (HOV.out.lt j hj).1))
          have HOW2 := Lib.hid (show w'.ownsRow w.heap.size 9 1 v' (k + 1) ((l.take (k + 1)).map wtx) by rw [HT.out]; exact hown')
          clear hown' hgrow
          go_wp2_with fail
          (first | (refine ⟨?_, ?_⟩; (unfold RowR; exact ⟨k + 1, by omega, by go_num, HB2.out, HOW2.out⟩); (simp [intOf]; omega)) | (go_roundw; (case rel => (unfold RowR; exact ⟨k + 1, by omega, by go_num, HB2.out, HOW2.out⟩)); (case measure => (simp [intOf]; omega))) | (go_round; (case rel => (unfold RowR; exact ⟨k + 1, by omega, by go_num, HB2.out, HOW2.out⟩)); (case measure => (simp [intOf]; omega))))
        · have HS2 : spT p = Lib.itoa p.lo ++ (dots ++ Lib.itoa p.hi) := by rw [HSP.out, if_neg hpp]
          rw [show (wtx (Wd.s p)) = tx (Lib.itoa p.lo ++ (dots ++ Lib.itoa p.hi)) by rw [← HS2]; rfl] at HT
          have hne : (p.hi == p.lo) = false := by simp [hpp]
          have hne2 : (p.lo == p.hi) = false := by simp; omega
          clear HSP hpp HS2
          go_wp2_with fail
          refine (itoa_any p.hi V (HE.out.next HB3.out) i3 i4).mono ?_
          rintro e U ⟨rfl, hb⟩
          have HB4 := Lib.hid (HB3.out.trans (hb.mono hsz3))
          have HOU := Lib.hid (own_below HOV.out hb)
          have hsz4 := HB4.out.size
          clear hb HB3 HOV HX3 hsz3 q0 q1
          have l1 := itoa_len i1 i2
          have l2 := itoa_len i3 i4
          have g1 : ¬ 9223372036854775807 < 2 + (Lib.itoa p.hi).length := by omega
          have g2 : ¬ 9223372036854775807 < (Lib.itoa p.lo).length + (2 + (Lib.itoa p.hi).length) := by omega
          have hcat : (⟨(Lib.itoa p.lo).toArray⟩ : ByteArray) ++ ((⟨#[46, 46]⟩ : ByteArray) ++ (⟨(Lib.itoa p.hi).toArray⟩ : ByteArray)) = ⟨(Lib.itoa p.lo ++ (dots ++ Lib.itoa p.hi)).toArray⟩ := by
            apply ByteArray.ext; simp [ByteArray.data_append, dots]
          go_wp2_with (at_builtin; refine wpList_append_own _ rfl (.tmp 49) (.tmp 51) 79 rfl w.heap.size 9 i0 (.string ⟨#[]⟩) 1 16 Tryz.underlying79 hi hz0 hz1 hz2 rfl (by decide) _ k _ rfl (HOU.out.alloc _) ⟨U.heap.size, 0, none⟩ 1 1 [_] rfl rfl (cell_one_new _ _ _) (by simp [Value.oneCell']) (by unfold maxLen; omega) (by omega) (by simp; omega) ?_; intro v' w' hown' hgrow _)
          have HB2 := Lib.hid (Below.grown (HB4.out.alloc hsz4 (.cells #[tx (Lib.itoa p.lo ++ (dots ++ Lib.itoa p.hi))] 9)) hgrow (by simp; omega) (fun j hj => (HOU.out.lt j hj).1))
          have HOW2 := Lib.hid (show w'.ownsRow w.heap.size 9 1 v' (k + 1) ((l.take (k + 1)).map wtx) by rw [HT.out]; exact hown')
          clear hown' hgrow
          go_wp2_with fail
          (first | (refine ⟨?_, ?_⟩; (unfold RowR; exact ⟨k + 1, by omega, by go_num, HB2.out, HOW2.out⟩); (simp [intOf]; omega)) | (go_roundw; (case rel => (unfold RowR; exact ⟨k + 1, by omega, by go_num, HB2.out, HOW2.out⟩)); (case measure => (simp [intOf]; omega))) | (go_round; (case rel => (unfold RowR; exact ⟨k + 1, by omega, by go_num, HB2.out, HOW2.out⟩)); (case measure => (simp [intOf]; omega))))
    · obtain rfl : k = l.length := by omega
      rw [List.take_length] at HOWN
      have hpos : 0 < l.length := by
        have := H0.out
        cases l with
        | nil => exact absurd rfl this
        | cons a t => exact Nat.succ_pos _
      obtain ⟨g, cap, e0, -⟩ := HOWN.out.form hpos
      subst e0
      have hgl := (HOWN.out.lt g rfl).2
      have hle := own_le HOWN.out hpos
      have hcells : ∀ (j : Nat) (x : ByteArray), (l.map fun x => (⟨x.tx.toArray⟩ : ByteArray))[j]? = some x → wr.cell? ⟨g, 0 + j, none⟩ = some (.string x) := fun j x hx => by
        rw [List.getElem?_map] at hx
        obtain ⟨y, hy, rfl⟩ := Option.map_eq_some_iff.1 hx
        have := HOWN.out.cells (g := g) rfl j (.string ⟨y.tx.toArray⟩) (by rw [List.getElem?_map, hy]; rfl)
        rw [show ((⟨g, 0, none⟩ : Addr).add j) = ⟨g, 0 + j, none⟩ by unfold Addr.add; split <;> simp_all] at this
        exact this
      have hjn : (Lib.join ((l.map fun x => (⟨x.tx.toArray⟩ : ByteArray)).map (·.data.toList)) (⟨#[32]⟩ : ByteArray).data.toList) = glue 32 (l.map Wd.tx) := by
        rw [List.map_map]
        exact join_glue 32 (l.map Wd.tx)
      have hgn := glue_len 32 (l.map Wd.tx) (fun x hx => by
        obtain ⟨y, hy, rfl⟩ := List.mem_map.1 hx
        exact wd_len (HO.out y hy))
      rw [List.length_map] at hgn
      have HJ := Lib.hid (Tryz.strings_Join g 0 cap (l.map fun x => (⟨x.tx.toArray⟩ : ByteArray)) ⟨#[32]⟩ wr hcells hgl (by rw [List.length_map]; omega) (by rw [List.length_map]; omega) (by rw [hjn]; omega))
      rw [List.length_map, hjn] at HJ
      have g1 : ¬ 9223372036854775807 < (glue 32 (l.map Wd.tx)).length + 1 := by omega
      have hcat : (⟨(glue 32 (l.map Wd.tx)).toArray⟩ : ByteArray) ++ (⟨#[10]⟩ : ByteArray) = ⟨(glue 32 (l.map Wd.tx) ++ [10]).toArray⟩ := by
        apply ByteArray.ext; simp [ByteArray.data_append]
      go_wp2_with fail
      refine HJ.out.mono ?_
      rintro e V ⟨rfl, hb⟩
      have HB3 := Lib.hid (HB.out.trans (hb.mono hsz))
      clear hb
      go_wp2_with fail
      go_ret
      exact ⟨rfl, HB3.out⟩
end Go.Proofs.YtonnemkecppmiaaGreatDoor
