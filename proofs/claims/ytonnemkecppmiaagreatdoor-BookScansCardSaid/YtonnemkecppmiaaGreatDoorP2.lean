import Derived.Test.YtonnemkecppmiaaGreatDoorP1
import Derived.Deep.MidRow
namespace Go.Proofs.YtonnemkecppmiaaGreatDoor
open Go.RowKit
/-! The program: are all sides of pieces valid? A piece is 28 cells, kept closed. -/
theorem wset_eq (b : Nat) : ∀ (vs : List Value) (o : Nat) (W : World), W.setCells b o vs = setCells W b o vs
  | [], _, _ => rfl
  | _ :: vs, o, _ => wset_eq b vs (o + 1) _
def pe (p : Pc) : Nat → Ed
  | 0 => p.e0
  | 1 => p.e1
  | 2 => p.e2
  | _ => p.e3
theorem Bx.there {W : World} {b : Nat} {vs : List Value} (h : Bx W b vs) : W.there b 0 vs.length := fun j hj => by
  rw [Nat.zero_add]
  exact ⟨by rw [h.c j _ (List.getElem?_eq_getElem hj)]; rfl, h.fr j⟩
theorem Bx.range {W : World} {b : Nat} {vs : List Value} (h : Bx W b vs) : W.rangeAt b 0 vs := fun j u hu => by rw [Nat.zero_add]; exact h.c j u hu
/-- A variable that is stored whole. -/
theorem Bx.wset {W : World} {b : Nat} {vs : List Value} (h : Bx W b vs) (ws : List Value) (hl : ws.length = vs.length) : Bx (W.setCells b 0 ws) b ws := by
  rw [wset_eq]; exact h.setAll ws hl
theorem pc_und : Tryz.prog.underlying 51 = some (.struct (Tryz.prog.fieldsOf 51)) := by kernel_rfl
theorem ar_und : Tryz.prog.underlying 49 = some (.array 4 48) := by kernel_rfl
theorem pc_size : (Tryz.prog.info? 51).map (fun i => i.size) = some 28 := by kernel_rfl
theorem ar_size : (Tryz.prog.info? 49).map (fun i => i.size) = some 28 := by kernel_rfl
theorem pc_len (p : Pc) : p.cells.length = 28 := rfl
theorem pc_one (p : Pc) : ∀ u ∈ p.cells, u.oneCell' = true := fun u hu => by
  unfold Pc.cells at hu
  simp only [Ed.cells, List.mem_append, List.mem_cons, List.not_mem_nil, or_false] at hu
  rcases hu with (h | h | h | h | h | h | h) | (h | h | h | h | h | h | h) | (h | h | h | h | h | h | h) | (h | h | h | h | h | h | h) <;> subst h <;> rfl
theorem pc_idx (p : Pc) (W : World) : ∀ (k : Nat) (e : Ed), k < 4 → pe p k = e → (Instr.index 49 (.agg p.cells.toArray) (.int .i64 (k : Int))).run Tryz.prog W = .ok (.agg #[.int .i64 e.kind, .int .i64 e.a.lo, .int .i64 e.a.hi, .int .i64 e.w.lo, .int .i64 e.w.hi, .int .i64 e.d.lo, .int .i64 e.d.hi]) W
  | 0, _, _, rfl => by kernel_rfl
  | 1, _, _, rfl => by kernel_rfl
  | 2, _, _, rfl => by kernel_rfl
  | 3, _, _, rfl => by kernel_rfl
  | n + 4, _, h, _ => absurd h (by omega)
theorem okPc_pe (p : Pc) : okPc p = (okEd (pe p 0) && (okEd (pe p 1) && (okEd (pe p 2) && okEd (pe p 3)))) := by
  unfold okPc edges pe
  simp
/-- All sides before the k-th one are valid. -/
def oksE (p : Pc) (k : Nat) : Bool := (List.range k).all fun j => okEd (pe p j)
theorem oksE_succ (p : Pc) (k : Nat) : oksE p (k + 1) = (oksE p k && okEd (pe p k)) := by unfold oksE; rw [List.range_succ, List.all_append]; simp
theorem oksE_four (p : Pc) : oksE p 4 = okPc p := by
  rw [okPc_pe]
  unfold oksE
  show (List.all [0, 1, 2, 3] _) = _
  simp
theorem okPc_false {p : Pc} {j : Nat} (hj : j < 4) (h : okEd (pe p j) = false) : okPc p = false := by
  rw [← oksE_four]
  unfold oksE
  rw [List.all_eq_false]
  exact ⟨j, List.mem_range.2 hj, by rw [h]; decide⟩
def RAp (l : List Pc) (w0 : World) (i : Value) (w : World) : Prop := ∃ k : Nat, k ≤ l.length ∧ i = .int .i64 k ∧ Below w0.heap.size w0 w ∧ (l.take k).all okPc = true
set_option maxRecDepth 100000 in
set_option maxHeartbeats 2000000 in
theorem arePieces_any (A : Option Addr) (c : Nat) (l : List Pc) (w : World) (h : At w w.heap.size 28 Pc.cells A l) (hl : l.length ≤ 9223372036854775807) : Calls Tryz.prog 49 #[.slice A l.length c] w (Ret (.bool (okPcs l)) w) := by
  go_enter Tryz.func49, Tryz.ntmps49
  go_wp2
  go_loopw [9] (fun i wr => RAp l w i wr) (fun i _ => l.length - (intOf i).toNat)
  case atStart => exact ⟨0, by omega, rfl, Below.refl _ _, rfl⟩
  case round =>
    obtain ⟨k, hk, rfl, hb, hall⟩ := hrel
    by_cases hlt : k < l.length
    · obtain ⟨b, off, rfl, hbk, hcs⟩ := h.below hb k l[k] (List.getElem?_eq_getElem hlt)
      have Ha := Lib.hid (fun hp => all_step (p := okPc) hlt hall hp)
      have Hf := Lib.hid (fun hp => all_fail (p := okPc) hlt hp)
      obtain ⟨p, hp⟩ : ∃ p, l[k] = p := ⟨_, rfl⟩
      rw [hp] at hcs Ha Hf
      clear hp hall
      have HIX := Lib.hid (fun W k e h he => pc_idx p W k e h he)
      have HON := Lib.hid (all_oneCell_toArray (pc_one p))
      have HLN := pc_len p
      obtain ⟨L, hL⟩ : ∃ L, p.cells = L := ⟨_, rfl⟩
      rw [hL] at hcs HIX HON HLN
      clear hL
      have HRG := Lib.hid (show wr.rangeAt b (off + k * 28) L from fun j u hu => hcs j u hu)
      have HS1 := Lib.hid (show (Tryz.prog.info? 51).map (·.size) = some L.length by rw [HLN]; exact pc_size)
      have HS2 := Lib.hid (show (Tryz.prog.info? 51).map (·.size) = some L.toArray.size by rw [List.size_toArray, HLN]; exact pc_size)
      have HS3 := Lib.hid (show (Tryz.prog.info? 49).map (·.size) = some L.length by rw [HLN]; exact ar_size)
      have HLN' := Lib.hid HLN
      clear HLN hcs
      have hwk : IntKind.i64.wrap ((k : Int) + 1) = (k : Int) + 1 := IntWalk.i64_in _ (by omega)
      have HZ := Lib.hid (Bx.new wr #[.int .i64 0, .int .i64 0, .int .i64 0, .int .i64 0, .int .i64 0, .int .i64 0, .int .i64 0, .int .i64 0, .int .i64 0, .int .i64 0, .int .i64 0, .int .i64 0, .int .i64 0, .int .i64 0, .int .i64 0, .int .i64 0, .int .i64 0, .int .i64 0, .int .i64 0, .int .i64 0, .int .i64 0, .int .i64 0, .int .i64 0, .int .i64 0, .int .i64 0, .int .i64 0, .int .i64 0, .int .i64 0] 51)
      have HA := Lib.hid (nxA wr (.cells #[.int .i64 0, .int .i64 0, .int .i64 0, .int .i64 0, .int .i64 0, .int .i64 0, .int .i64 0, .int .i64 0, .int .i64 0, .int .i64 0, .int .i64 0, .int .i64 0, .int .i64 0, .int .i64 0, .int .i64 0, .int .i64 0, .int .i64 0, .int .i64 0, .int .i64 0, .int .i64 0, .int .i64 0, .int .i64 0, .int .i64 0, .int .i64 0, .int .i64 0, .int .i64 0, .int .i64 0, .int .i64 0] 51))
      have HTH := Lib.hid (show (wr.alloc (.cells #[.int .i64 0, .int .i64 0, .int .i64 0, .int .i64 0, .int .i64 0, .int .i64 0, .int .i64 0, .int .i64 0, .int .i64 0, .int .i64 0, .int .i64 0, .int .i64 0, .int .i64 0, .int .i64 0, .int .i64 0, .int .i64 0, .int .i64 0, .int .i64 0, .int .i64 0, .int .i64 0, .int .i64 0, .int .i64 0, .int .i64 0, .int .i64 0, .int .i64 0, .int .i64 0, .int .i64 0, .int .i64 0] 51)).there wr.heap.size 0 L.toArray.size by rw [show L.toArray.size = 28 from (by simp : L.toArray.size = L.length).trans HLN'.out]; exact HZ.out.there)
      go_upto_region 3 with fail
      go_upto_region 4 with (first | (refine wpList_load_mid rfl 51 (.tmp 11) rfl b (off + k * 28) rfl L _ HRG.out pc_und rfl HS1.out ?_) | (refine wpList_store_mid rfl 51 (.tmp 4) (.tmp 12) rfl wr.heap.size 0 L.toArray rfl rfl HTH.out HS2.out HON.out ?_))
      have SB := Lib.hid (HZ.out.wset L HLN'.out)
      have HB2 := Lib.hid (show Below wr.heap.size wr ((wr.alloc (.cells #[.int .i64 0, .int .i64 0, .int .i64 0, .int .i64 0, .int .i64 0, .int .i64 0, .int .i64 0, .int .i64 0, .int .i64 0, .int .i64 0, .int .i64 0, .int .i64 0, .int .i64 0, .int .i64 0, .int .i64 0, .int .i64 0, .int .i64 0, .int .i64 0, .int .i64 0, .int .i64 0, .int .i64 0, .int .i64 0, .int .i64 0, .int .i64 0, .int .i64 0, .int .i64 0, .int .i64 0, .int .i64 0] 51)).setCells wr.heap.size 0 L) by rw [wset_eq]; exact below_setCells (Nat.le_refl _) L 0 HA.out)
      generalize ((wr.alloc (.cells #[.int .i64 0, .int .i64 0, .int .i64 0, .int .i64 0, .int .i64 0, .int .i64 0, .int .i64 0, .int .i64 0, .int .i64 0, .int .i64 0, .int .i64 0, .int .i64 0, .int .i64 0, .int .i64 0, .int .i64 0, .int .i64 0, .int .i64 0, .int .i64 0, .int .i64 0, .int .i64 0, .int .i64 0, .int .i64 0, .int .i64 0, .int .i64 0, .int .i64 0, .int .i64 0, .int .i64 0, .int .i64 0] 51)).setCells wr.heap.size 0 L) = W2 at *
      clear HZ HA HTH
      have HRG2 := Lib.hid SB.out.range
      have HBW := Lib.hid (hb.trans (HB2.out.mono hb.size))
      clear hb
      go_wp2_with (refine wpList_load_mid rfl 49 (.tmp 13) rfl wr.heap.size 0 rfl L _ HRG2.out ar_und rfl HS3.out ?_)
      go_loopw [15] (fun jv wx => ∃ j : Nat, jv = .int .i64 j ∧ j ≤ 4 ∧ Below W2.heap.size W2 wx ∧ oksE p j = true) (fun jv _ => 4 - (intOf jv).toNat)
      case atStart => exact ⟨0, rfl, by omega, Below.refl _ _, rfl⟩
      case round =>
        obtain ⟨j, rfl, hj, hb, hok⟩ := hrel
        have HOK := Lib.hid hok
        have HBX := Lib.hid hb
        clear hok hb
        have hwj : IntKind.i64.wrap ((j : Int) + 1) = (j : Int) + 1 := IntWalk.i64_in _ (by omega)
        by_cases hlj : j < 4
        · obtain ⟨e, he⟩ : ∃ e, pe p j = e := ⟨_, rfl⟩
          have hix := fun W => HIX.out W j e hlj he
          have HSU := Lib.hid (oksE_succ p j)
          have HFA := Lib.hid (fun h => okPc_false (p := p) hlj h)
          rw [he] at HSU HFA
          clear he
          have hA := nxA wr (.cells #[.int .i64 e.kind, .int .i64 e.a.lo, .int .i64 e.a.hi, .int .i64 e.w.lo, .int .i64 e.w.hi, .int .i64 e.d.lo, .int .i64 e.d.hi] 48)
          have HA2 := Lib.hid (HBX.out.trans (hA.mono HBX.out.size))
          clear hA
          go_wp2_with fail
          refine (isSide_any e _).mono ?_
          rintro x V ⟨rfl, hb⟩
          have HV := Lib.hid (HA2.out.trans (hb.mono HA2.out.size))
          clear hb
          cases hed : okEd e
          · have HF3 := Lib.hid (Hf.out (HFA.out hed))
            clear HFA
            go_wp2_with fail
            go_ret
            exact ret_bool (by rw [show okPcs l = l.all okPc from rfl, HF3.out]) (HBW.out.trans (HV.out.mono HBW.out.size))
          · rw [hed] at HSU
            have hs : oksE p (j + 1) = true := by rw [HSU.out, HOK.out]; rfl
            go_wp2_with fail
            first | (exact ⟨⟨j + 1, by push_cast; rfl, by omega, HV.out, hs⟩, by simp [intOf]; omega⟩) | (go_roundw; (case rel => exact ⟨j + 1, by push_cast; rfl, by omega, HV.out, hs⟩); (case measure => (simp [intOf]; omega))) | (go_round; (case rel => exact ⟨j + 1, by push_cast; rfl, by omega, HV.out, hs⟩); (case measure => (simp [intOf]; omega)))
        · obtain rfl : j = 4 := by omega
          have hs : okPc p = true := by rw [← oksE_four]; exact HOK.out
          have HR := Lib.hid (HBW.out.trans (HBX.out.mono HBW.out.size))
          go_wp2_with fail
          all_goals (first | (refine ⟨?_, ?_⟩; (unfold RAp; exact ⟨k + 1, by omega, by go_num, HR.out, Ha.out hs⟩); (simp [intOf]; omega)) | (go_roundw; (case rel => (unfold RAp; exact ⟨k + 1, by omega, by go_num, HR.out, Ha.out hs⟩)); (case measure => (simp [intOf]; omega))) | (go_round; (case rel => (unfold RAp; exact ⟨k + 1, by omega, by go_num, HR.out, Ha.out hs⟩)); (case measure => (simp [intOf]; omega))))
    · have hall := all_full hlt hall
      go_wp2
      go_ret
      exact ret_bool hall.symm hb
end Go.Proofs.YtonnemkecppmiaaGreatDoor
