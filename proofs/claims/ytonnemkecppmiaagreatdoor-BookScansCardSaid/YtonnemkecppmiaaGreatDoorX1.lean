import Derived.Test.YtonnemkecppmiaaGreatDoorX0
import Derived.Test.YtonnemkecppmiaaGreatDoorP8
import Derived.Test.YtonnemkecppmiaaGreatDoorPln
import Derived.RangeFuncBound
import Derived.RangeFuncCalls
import Derived.OwnWalkIn
import Derived.TacticsInMore
import Derived.LoopNIn
import Derived.LoopIn
namespace Go.Proofs.YtonnemkecppmiaaGreatDoor
open Go.RowKit
/-! strings.Lines. -/
/-- The lines of a text, with their ends. -/
def rawL : Tx → List Tx
  | [] => []
  | c :: s => if c = 10 then [10] :: rawL s else match rawL s with
    | [] => [[c]]
    | x :: l => (c :: x) :: l
theorem rawL_cons {x : Tx} (y : Tx) (h : (10 : UInt8) ∉ x) : rawL (x ++ 10 :: y) = (x ++ [10]) :: rawL y := by
  induction x with
  | nil => show rawL (10 :: y) = _; rw [rawL, if_pos rfl]; rfl
  | cons c x ih =>
    have hc : c ≠ 10 := fun e => h (e ▸ List.mem_cons_self ..)
    show rawL (c :: (x ++ 10 :: y)) = _
    rw [rawL, if_neg hc, ih (fun e => h (List.mem_cons_of_mem _ e))]
    rfl
theorem rawL_last : ∀ {x : Tx}, x ≠ [] → (10 : UInt8) ∉ x → rawL x = [x]
  | [], h, _ => absurd rfl h
  | [c], _, h => by
    have hc : c ≠ 10 := fun e => h (e ▸ List.mem_cons_self ..)
    rw [rawL, if_neg hc]; rfl
  | c :: d :: x, _, h => by
    have hc : c ≠ 10 := fun e => h (e ▸ List.mem_cons_self ..)
    rw [rawL, if_neg hc, rawL_last (x := d :: x) (by simp) (fun e => h (List.mem_cons_of_mem _ e))]
/-- A line without its end. -/
def trimL (x : Tx) : Tx := Lib.trimSuffix x [10]
theorem trimL_end (x : Tx) : trimL (x ++ [10]) = x := by
  unfold trimL Lib.trimSuffix Lib.hasSuffix
  rw [if_pos (by rw [List.isSuffixOf_iff_suffix]; exact List.suffix_append ..)]
  simp
theorem trimL_none {x : Tx} (h : (10 : UInt8) ∉ x) : trimL x = x := by
  unfold trimL Lib.trimSuffix Lib.hasSuffix
  rw [if_neg]
  intro e
  rw [List.isSuffixOf_iff_suffix] at e
  exact h (e.mem (List.mem_singleton.2 rfl))
theorem rawL_trim : ∀ (n : Nat) (s : Tx), s.length ≤ n → (rawL s).map trimL = linesP s
  | 0, [], _ => rfl
  | n + 1, s, hn => by
    by_cases h : (10 : UInt8) ∈ s
    · obtain ⟨x, y, rfl, hx⟩ := split_at s h
      rw [rawL_cons y hx, linesP_cons y hx, List.map_cons, trimL_end, rawL_trim n y (by simp at hn; omega)]
    · by_cases he : s = []
      · subst he; rfl
      · rw [rawL_last he h, linesP_last h he, List.map_cons, trimL_none h]; rfl
theorem ib_none : ∀ {x : Tx}, (10 : UInt8) ∉ x → Lib.indexByte x 10 = -1
  | [], _ => rfl
  | b :: x, h => by
    have hb : (b == 10) = false := beq_false_of_ne (fun e => h (e ▸ List.mem_cons_self ..))
    unfold Lib.indexByte
    rw [hb, ib_none (fun e => h (List.mem_cons_of_mem _ e))]
    rfl
theorem ib_some : ∀ {x : Tx} (y : Tx), (10 : UInt8) ∉ x → Lib.indexByte (x ++ 10 :: y) 10 = x.length
  | [], _, _ => rfl
  | b :: x, y, h => by
    have hb : (b == 10) = false := beq_false_of_ne (fun e => h (e ▸ List.mem_cons_self ..))
    show Lib.indexByte (b :: (x ++ 10 :: y)) 10 = _
    unfold Lib.indexByte
    rw [hb, ib_some y (fun e => h (List.mem_cons_of_mem _ e))]
    have : ((x.length : Int) == -1) = false := by simp
    rw [this, List.length_cons]
    simp
set_option maxHeartbeats 400000 in
theorem lines_any (s : ByteArray) (w : World) : Calls Tryz.prog 82 #[.string s] w fun e w' => e = .returned (.func (.func 107) #[] #[.pointer (some ⟨w.heap.size, 0, none⟩)]) ∧ w' = w.alloc (.cells #[.string s] 9) := by
  go_enter Tryz.func82, Tryz.ntmps82
  go_wp2
  go_ret
  exact ⟨rfl, rfl⟩
theorem ext_take (r : Tx) (k : Nat) : (⟨r.toArray⟩ : ByteArray).extract 0 k = ⟨(r.take k).toArray⟩ := by
  apply ByteArray.ext; simp
theorem ext_drop (r : Tx) (k : Nat) : (⟨r.toArray⟩ : ByteArray).extract k r.length = ⟨(r.drop k).toArray⟩ := by
  apply ByteArray.ext; simp [List.take_of_length_le]
theorem Kd.drew {W : World} {g : Nat} {t : TypeId} (h : Kd W g t) : Kd W.drew g t := h
theorem Kd.same {W W' : World} {g : Nat} {t : TypeId} (h : Kd W g t) (hk : W'.heap[g]? = W.heap[g]?) : Kd W' g t := by
  obtain ⟨c, fz, h⟩ := h
  exact ⟨c, fz, hk.trans h⟩
theorem grownBy_drew {W W' : World} {row : Option Nat} (h : W.grownBy W' row) : W.grownBy W'.drew row := ⟨h.os, h.tape, h.output, h.size, h.block⟩
def encT (x : Tx) : Array Value := #[tx x]
attribute [local go_sem] Oper.semAt_some
def strLen : Value → Nat
  | .string s => s.size
  | _ => 0
def RLn (s : Tx) (bx : Nat) (J : List Tx → World → Prop) (w : World) : Prop := ∃ (pre : List Tx) (r : Tx), rawL s = pre ++ rawL r ∧ r.length ≤ s.length ∧ Bx w bx [tx r] ∧ Kd w bx 9 ∧ J pre w
theorem below_one {bx : Nat} {W W' : World} {vs : List Value} (h : Bx W bx vs) (hk : W'.heap[bx]? = W.heap[bx]?) : Bx W' bx vs :=
  ⟨by have := h.lt; have h2 : W'.heap[bx]?.isSome := by { rw [hk, Array.getElem?_eq_getElem this]; rfl }; exact (Array.getElem?_eq_some_iff.1 (Option.get_mem h2)).1, fun j u hu => (World.cell?_of_block (a := ⟨bx, j, none⟩) hk).trans (h.c j u hu), fun j => (World.frozen?_of_block (a := ⟨bx, j, none⟩) hk).trans (h.fr j)⟩
set_option maxHeartbeats 2000000 in
set_option maxRecDepth 100000 in
theorem lines1_x (n : Nat) (hn : 1 ≤ n) (s : Tx) (hlen : s.length ≤ 281474976710656) (bx : Nat) (w : World) (hb : Bx w bx [tx s]) (hd : Kd w bx 9) :
    SeqX Fence.wide n Tryz.prog 107 #[.pointer (some ⟨bx, 0, none⟩)] encT (fun A r => r = bx ∧ Kd A bx 9) (fun W W' => W'.heap[bx]? = W.heap[bx]?) (fun _ _ => True) (fun xs => xs = rawL s) (fun pre => pre <+: rawL s) w := by
  intro l J Jx Jp hJ hJx hJp hY h0
  have HY := Lib.hid hY
  have H0 := Lib.hid h0
  have HB := Lib.hid hb
  have HD := Lib.hid hd
  have HJ := Lib.hid hJ
  clear hY h0 hb hd hJ hJx hJp
  refine callsIn_of_wp Tryz.func107 rfl trivial ?_ rfl
  simp only [Tryz.ntmps107, List.size_toArray, List.length_cons, List.length_nil, Nat.reduceAdd, Nat.reduceSub, Array.replicate_succ, Array.replicate_zero, List.push_toArray, List.append_toArray, List.nil_append, List.cons_append]
  gi_wp2
  gi_loopw [] (fun wr => RLn s bx J wr) (fun wr => strLen ((wr.cell? ⟨bx, 0, none⟩).getD undef))
  case atStart => exact ⟨[], s, rfl, Nat.le_refl _, HB.out, HD.out, H0.out⟩
  case round =>
    obtain ⟨pre, r, hr, hrl, hbx, hdx, hJs⟩ := hrel
    have HDX := Lib.hid hdx
    clear hdx
    have HR := Lib.hid hr
    have HBX := Lib.hid hbx
    have HJS := Lib.hid hJs
    clear hr hJs
    have c0 := hbx.c 0 _ rfl
    have f0 := hbx.fr 0
    clear hbx
    by_cases he : r = []
    · subst he
      gi_wp2
      go_end0
      exact .inl ⟨⟨_, rfl⟩, .inl ⟨pre, by have := HR.out; rw [this]; show pre = pre ++ []; simp, HJS.out⟩⟩
    · have hpos : 0 < r.length := List.length_pos_iff.2 he
      have hpi : (0 : Int) < (r.length : Int) := by omega
      by_cases hm : (10 : UInt8) ∈ r
      · obtain ⟨x, y, e0, hx⟩ := split_at r hm
        have HI := Lib.hid (show Lib.indexByte r 10 = (x.length : Int) by rw [e0]; exact ib_some y hx)
        have HRW := Lib.hid (show rawL r = r.take (x.length + 1) :: rawL (r.drop (x.length + 1)) by rw [e0, rawL_cons y hx, show x ++ 10 :: y = (x ++ [10]) ++ y by simp, List.take_left' (by simp), List.drop_left' (by simp)])
        have HLT := Lib.hid (show x.length < r.length by rw [e0]; simp)
        generalize x.length = i at HI HRW HLT
        clear hm he e0 hx
        gi_wp2_with fail
        refine ⟨trivial, (callsIn_wide.2 (Tryz.strings_IndexByte ⟨r.toArray⟩ 10 wr)).mono ?_⟩
        rintro e w' ⟨rfl, hw⟩
        have hw2 := hw.symm
        clear hw
        subst hw2
        rw [show Lib.indexByte (⟨r.toArray⟩ : ByteArray).data.toList (10 : Int).toNat.toUInt8 = (i : Int) from HI.out]
        have hi0 : (0 : Int) ≤ (i : Int) := by omega
        gi_wp2_with fail
        have hil := HLT.out
        have hw1 : IntKind.i64.wrap ((i : Int) + 1) = (i : Int) + 1 := IntWalk.i64_in _ (by omega)
        refine wpIn_wide.2 ?_
        go_region
        rw [ext_take, ext_drop]
        have HX2 := Lib.hid ((HBX.out.set (k := 0) (by simp) (tx (r.drop (i + 1)))).drew)
        have HJ2 := Lib.hid (HJ.out pre wr (wr.setCell ⟨bx, 0, none⟩ (tx (r.drop (i + 1)))).drew (some bx) HJS.out (grownBy_drew (grownBy_setCell' wr bx _)) (fun q hq => by cases hq; exact ⟨⟨rfl, HDX.out⟩, rfl, Kd.drew (HDX.out.setCell _ _)⟩))
        have HD2 := Lib.hid (show Kd (wr.setCell ⟨bx, 0, none⟩ (tx (r.drop (i + 1)))).drew bx 9 from Kd.drew (HDX.out.setCell _ _))
        generalize (wr.setCell ⟨bx, 0, none⟩ (tx (r.drop (i + 1)))).drew = W2 at HX2 HJ2 HD2 ⊢
        have HP := Lib.hid (show rawL s = (pre ++ [r.take (i + 1)]) ++ rawL (r.drop (i + 1)) by rw [HR.out, HRW.out]; simp)
        obtain ⟨fn, tmps, assign, body, hy, hR⟩ := HY.out pre (r.take (i + 1)) W2 HJ2.out ⟨_, HP.out.symm⟩ trivial
        dsimp only [encT] at hy
        have HRR := Lib.hid hR
        have HDL := Lib.hid (show (r.drop (i + 1)).length < r.length by rw [List.length_drop]; omega)
        have HC0 := Lib.hid c0
        generalize r.take (i + 1) = x1 at *
        generalize r.drop (i + 1) = r1 at *
        clear hR c0 f0 hpi hpos hi0 hil hw1
        gi_wp2_with fail
        refine HRR.out.mono ?_
        rintro e W3 (⟨rfl, hJ3, hk3⟩ | ⟨rfl, hJx3, -⟩ | ⟨ch, rfl, hJp3, -⟩)
        · have HX3 := Lib.hid (below_one HX2.out hk3)
          have HD3 := Lib.hid (HD2.out.same hk3)
          have HJ3 := Lib.hid hJ3
          clear hJ3 hk3
          gi_wp2_with fail
          go_roundw
          case rel => exact ⟨pre ++ [x1], r1, HP.out, by have := HDL.out; omega, HX3.out, HD3.out, HJ3.out⟩
          case measure => rw [HX3.out.c 0 _ rfl, HC0.out]; show r1.length < r.length; exact HDL.out
        · gi_wp2_with fail
          refine bodyPost_ret (results_none rfl _ _ _) rfl ?_
          exact .inl ⟨⟨_, rfl⟩, .inr ⟨_, ⟨_, HP.out.symm⟩, hJx3⟩⟩
        · exact ⟨rfl, .inr ⟨ch, rfl, hJp3⟩⟩
      · have HI := Lib.hid (ib_none hm)
        have HRW := Lib.hid (rawL_last he hm)
        clear hm he
        gi_wp2_with fail
        refine ⟨trivial, (callsIn_wide.2 (Tryz.strings_IndexByte ⟨r.toArray⟩ 10 wr)).mono ?_⟩
        rintro e w' ⟨rfl, hw⟩
        have hw2 := hw.symm
        clear hw
        subst hw2
        rw [show Lib.indexByte (⟨r.toArray⟩ : ByteArray).data.toList (10 : Int).toNat.toUInt8 = -1 from HI.out]
        have HX2 := Lib.hid (HBX.out.set (k := 0) (by simp) (tx []))
        have HJ2 := Lib.hid (HJ.out pre wr (wr.setCell ⟨bx, 0, none⟩ (tx [])) (some bx) HJS.out (grownBy_setCell' wr bx _) (fun q hq => by cases hq; exact ⟨⟨rfl, HDX.out⟩, rfl, HDX.out.setCell _ _⟩))
        have HD2 := Lib.hid (show Kd (wr.setCell ⟨bx, 0, none⟩ (tx [])) bx 9 from HDX.out.setCell _ _)
        have HP := Lib.hid (show rawL s = (pre ++ [r]) ++ rawL [] by rw [HR.out, HRW.out]; simp [rawL])
        obtain ⟨fn, tmps, assign, body, hy, hR⟩ := HY.out pre r _ HJ2.out ⟨_, HP.out.symm⟩ trivial
        dsimp only [encT] at hy
        have HRR := Lib.hid hR
        have HDL := Lib.hid hpos
        have HC0 := Lib.hid c0
        have HC1 := Lib.hid f0
        clear hR hpi hpos
        gi_wp2_with fail
        refine HRR.out.mono ?_
        rintro e W3 (⟨rfl, hJ3, hk3⟩ | ⟨rfl, hJx3, -⟩ | ⟨ch, rfl, hJp3, -⟩)
        · have HX3 := Lib.hid (below_one HX2.out hk3)
          have HD3 := Lib.hid (HD2.out.same hk3)
          have HJ3 := Lib.hid hJ3
          clear hJ3 hk3
          gi_wp2_with fail
          go_roundw
          case rel => exact ⟨pre ++ [r], [], HP.out, by simp, HX3.out, HD3.out, HJ3.out⟩
          case measure => rw [HX3.out.c 0 _ rfl, HC0.out]; show 0 < r.length; exact HDL.out
        · gi_wp2_with fail
          refine bodyPost_ret (results_none rfl _ _ _) rfl ?_
          exact .inl ⟨⟨_, rfl⟩, .inr ⟨_, ⟨_, HP.out.symm⟩, hJx3⟩⟩
        · exact ⟨rfl, .inr ⟨ch, rfl, hJp3⟩⟩
end Go.Proofs.YtonnemkecppmiaaGreatDoor
