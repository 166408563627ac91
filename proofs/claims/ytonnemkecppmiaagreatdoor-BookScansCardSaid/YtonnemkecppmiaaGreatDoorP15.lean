import Derived.Test.YtonnemkecppmiaaGreatDoorP14
import Derived.Test.YtonnemkecppmiaaGreatDoorR2
import Derived.Laws.IdiomCopy
namespace Go.Proofs.YtonnemkecppmiaaGreatDoor
open Go.RowKit
/-! The program: the file of scans. -/
theorem spB_of (s : Sp) : grp s.lo.toNat ++ grp (s.hi - s.lo).toNat = spB s := rfl
theorem bowedBytes_any (e : Ed) (w : World) (hk : e.kind = 1 ∨ e.kind = 2) (ha : (Wd.s e.a).ok) (hw : (Wd.s e.w).ok) (hd : (Wd.s e.d).ok) (la : e.a.lo ≤ e.a.hi) (lw : e.w.lo ≤ e.w.hi) (ld : e.d.lo ≤ e.d.hi) : Calls Tryz.prog 172 #[.agg #[.int .i64 e.kind, .int .i64 e.a.lo, .int .i64 e.a.hi, .int .i64 e.w.lo, .int .i64 e.w.hi, .int .i64 e.d.lo, .int .i64 e.d.hi]] w (RetBs (edB e) w) := by
  obtain ⟨a1, a2, a3, a4⟩ := ha
  obtain ⟨w1, w2, w3, w4⟩ := hw
  obtain ⟨d1, d2, d3, d4⟩ := hd
  have h := bowedBytes_core e.kind.toNat e.a.lo.toNat (e.a.hi - e.a.lo).toNat e.w.lo.toNat (e.w.hi - e.w.lo).toNat e.d.lo.toNat (e.d.hi - e.d.lo).toNat (by omega) (by omega) (by omega) (by omega) (by omega) (by omega) (by omega) w
  rw [show ((e.kind.toNat : Nat) : Int) = e.kind by omega, show ((e.a.lo.toNat : Nat) : Int) = e.a.lo by omega, show ((e.w.lo.toNat : Nat) : Int) = e.w.lo by omega, show ((e.d.lo.toNat : Nat) : Int) = e.d.lo by omega,
    show e.a.lo + (((e.a.hi - e.a.lo).toNat : Nat) : Int) = e.a.hi by omega, show e.w.lo + (((e.w.hi - e.w.lo).toNat : Nat) : Int) = e.w.hi by omega, show e.d.lo + (((e.d.hi - e.d.lo).toNat : Nat) : Int) = e.d.hi by omega] at h
  rw [show edB e = UInt8.ofNat e.kind.toNat :: [e.a.lo.toNat, (e.a.hi - e.a.lo).toNat, e.w.lo.toNat, (e.w.hi - e.w.lo).toNat, e.d.lo.toNat, (e.d.hi - e.d.lo).toNat].flatMap grp by
    unfold edB; rw [if_neg (by omega)]; simp [spB]]
  exact h
/-! A block, cell by cell. -/
theorem blk_set {W : World} {g : Nat} {xs : List Value} {e : TypeId} {fz : Nat × Nat} (h : W.heap[g]? = some (.cells xs.toArray e fz)) (j : Nat) (v : Value) : (W.setCell ⟨g, j, none⟩ v).heap[g]? = some (.cells (xs.set j v).toArray e fz) := by
  unfold World.setCell
  rw [Array.getElem?_modify, if_pos rfl, h]
  simp
def setL : List Value → Nat → List Value → List Value
  | xs, _, [] => xs
  | xs, j, v :: vs => setL (xs.set j v) (j + 1) vs
theorem blk_sets {g : Nat} {e : TypeId} {fz : Nat × Nat} : ∀ (vs : List Value) (j : Nat) (xs : List Value) (W : World), W.heap[g]? = some (.cells xs.toArray e fz) → (W.setCells g j vs).heap[g]? = some (.cells (setL xs j vs).toArray e fz)
  | [], _, _, _, h => h
  | v :: vs, j, xs, W, h => blk_sets vs (j + 1) (xs.set j v) (W.setCell ⟨g, j, none⟩ v) (blk_set h j v)
theorem setL_app : ∀ (vs ps bs : List Value), vs.length ≤ bs.length → setL (ps ++ bs) ps.length vs = ps ++ (vs ++ bs.drop vs.length)
  | [], _, _, _ => rfl
  | v :: vs, ps, b :: bs, h => by
    show setL ((ps ++ b :: bs).set ps.length v) (ps.length + 1) vs = _
    have h1 : (ps ++ b :: bs).set ps.length v = (ps ++ [v]) ++ bs := by simp
    have h2 := setL_app vs (ps ++ [v]) bs (by simpa using h)
    rw [List.length_append] at h2
    rw [h1, show ps.length + 1 = ps.length + [v].length from rfl, h2]
    simp
theorem copy_new {n : Nat} {ys : List Value} (z : Value) (h : ys.length = n) : setL (List.replicate (n + 1) z) 0 ys = ys ++ [z] := by
  have := setL_app ys [] (List.replicate (n + 1) z) (by simp; omega)
  rw [List.nil_append] at this
  rw [show (0 : Nat) = ([] : List Value).length from rfl, this, List.drop_replicate, h, show n + 1 - n = 1 by omega]
  rfl
theorem own_blk {W : World} {base g n : Nat} {e : TypeId} {xs : List Value} (h : W.heap[g]? = some (.cells xs.toArray e (0, 0))) (hn : xs.length = n) (hb : base ≤ g) (hm : n ≤ 100000) : W.ownsRow base e 1 (.slice (some ⟨g, 0, none⟩) n n) n xs :=
  ⟨by omega, .inr ⟨g, n, xs.toArray, rfl, hb, h, Nat.le_refl _, by unfold maxLen; omega, by simp [hn], by rw [Nat.mul_one]; exact List.take_of_length_le (by simp [hn])⟩⟩
theorem wpList_copy_cells {P : Program} {w : World} {ops : Array Oper} {rest : List Oper} {o : Oper} {a : Act} {Q : Exit → Act → World → Prop} (hgd : o.guard = none) (d s : Operand) (dT sT : TypeId)
    (ho : o.op = .call { callee := .builtin .copy, args := #[d, s], argTypes := #[dT, sT] }) (elem : TypeId) (hu : P.underlying dT = some (.slice elem)) (hsz : (P.info? elem).map (·.size) = some 1)
    (b off dLen dCap : Nat) (ad : Addr) (n c : Nat) (cs : List Value) (hn : cs.length = n) (hd : a.eval d = .slice (some ⟨b, off, none⟩) dLen dCap) (hs : a.eval s = .slice (some ad) n c) (hle : n ≤ dLen)
    (hsrc : ∀ (j : Nat) v, cs[j]? = some v → w.cell? (ad.add j) = some v) (hc : ∀ j, j < n → (w.cell? ⟨b, off + j, none⟩).isSome = true) (hf : ∀ j, j < n → w.frozen? ⟨b, off + j, none⟩ = false) (h1 : ∀ v ∈ cs, v.oneCell' = true)
    (h : wpList P ops Q rest (a.put o.dst (goInt n)) (w.setCells b off cs)) : wpList P ops Q (o :: rest) a w := by
  refine wpList_plain hgd fun K hK => ?_
  have hrun := run_copy_cells (P := P) w dT sT o.type elem b off dLen dCap ad n c cs hu hsz (by rw [hn]; exact (Nat.min_eq_left hle).symm) hsrc (fun j hj => hc j (by omega)) (fun j hj => hf j (by omega)) h1
  rw [hn] at hrun
  unfold Oper.wp
  simp [execOp, ho, resolve, invoke, builtin, hd, hs, hrun, Result.andThen]
  exact hK _ _ h
/-- The bytes of the first j sides. -/
def edsB (p : Pc) (j : Nat) : Tx := (List.range j).flatMap fun i => edB (pe p i)
theorem edsB_succ (p : Pc) (j : Nat) : edsB p (j + 1) = edsB p j ++ edB (pe p j) := by unfold edsB; rw [List.range_succ, List.flatMap_append]; simp
theorem edsB_four (p : Pc) : edsB p 4 = pcB p := by
  show ([0, 1, 2, 3] : List Nat).flatMap _ = _
  unfold pcB edges
  simp [pe]
theorem pcB_take {l : List Pc} {k : Nat} (hk : k < l.length) : (l.take (k + 1)).flatMap pcB = (l.take k).flatMap pcB ++ pcB l[k] := by rw [List.take_succ_eq_append_getElem hk, List.flatMap_append]; simp
theorem edB_one (e : Ed) : 1 ≤ (edB e).length := by unfold edB; split <;> simp
/-- A bound for what is written so far. -/
theorem body_part {l : List Pc} (h : okPcs l = true) (hn : l.length ≤ 12) {k : Nat} (hk : k < l.length) {j : Nat} (hj : j ≤ 4) : (grp l.length ++ ((l.take k).flatMap pcB ++ edsB l[k] j)).length ≤ 916 := by
  have h1 := (scanB_len h hn).1
  have h2 : l.flatMap pcB = (l.take k).flatMap pcB ++ (pcB l[k] ++ (l.drop (k + 1)).flatMap pcB) := by
    rw [← List.append_assoc, ← pcB_take hk, ← List.flatMap_append, List.take_append_drop]
  have h3 : (edsB l[k] j).length ≤ (pcB l[k]).length := by
    rw [← edsB_four]
    unfold edsB
    rw [show (4 : Nat) = j + (4 - j) by omega, List.range_add, List.flatMap_append, List.length_append]; omega
  unfold scanB bodyB at h1
  rw [h2] at h1
  simp only [List.length_append, List.length_cons, List.length_nil] at h1 ⊢
  omega
theorem ok_pe {p : Pc} (h : okPc p = true) {j : Nat} (hj : j < 4) : okEd (pe p j) = true := by
  have := okPc_pe p
  rw [h] at this
  simp only [Bool.and_eq_true, Bool.true_eq] at this
  obtain ⟨t0, t1, t2, t3⟩ := this
  match j, hj with
  | 0, _ => exact t0
  | 1, _ => exact t1
  | 2, _ => exact t2
  | 3, _ => exact t3
theorem bs_sl {w : World} {B : Nat} {s : Sl} (h : SlAt w B s) : BsAt w B (some ⟨s.b, s.o, none⟩) s.t := fun k x hx => ⟨s.b, s.o, rfl, h.1, fun j u hu => by
  rcases j with _ | j
  · injection hu with hu
    subst hu
    rw [Nat.mul_one, Nat.add_zero]
    exact h.2 k _ (by unfold Lib.byteCells; rw [List.getElem?_map, hx]; rfl)
  · cases hu⟩
def RBp (l : List Pc) (w0 : World) (v i : Value) (w : World) : Prop := ∃ (k : Nat) (t : Tx), k ≤ l.length ∧ i = .int .i64 k ∧ Below w0.heap.size w0 w ∧ t = grp l.length ++ (l.take k).flatMap pcB ∧ w.ownsRow w0.heap.size 5 1 v t.length (Lib.byteCells t)
def RBe (l : List Pc) (p : Pc) (k : Nat) (w0 : World) (v i : Value) (w : World) : Prop := ∃ (j : Nat) (t : Tx), j ≤ 4 ∧ i = .int .i64 j ∧ Below w0.heap.size w0 w ∧ t = grp l.length ++ ((l.take k).flatMap pcB ++ edsB p j) ∧ w.ownsRow w0.heap.size 5 1 v t.length (Lib.byteCells t)
theorem u8_neg (a : UInt8) : ((-(a.toNat : Int)) % 256) = (((0 - a).toNat : Nat) : Int) := by
  rw [UInt8.toNat_sub]
  have := a.toNat_lt
  show _ = (((2 ^ 8 - a.toNat + 0) % 2 ^ 8 : Nat) : Int)
  omega
set_option maxRecDepth 100000 in
set_option maxHeartbeats 8000000 in
theorem bytes_any (A : Option Addr) (c : Nat) (l : List Pc) (w : World) (h : At w w.heap.size 28 Pc.cells A l) (hok : okPcs l = true) (hn : l.length ≤ 12) : Calls Tryz.prog 50 #[.slice A l.length c] w (RetBs (scanB l) w) := by
  have HL := Lib.hid h
  have HO := Lib.hid hok
  clear h hok
  obtain ⟨i0, hi, hz0, hz1, hz2⟩ := info_parts byte_info
  have HU := Lib.hid Tryz.underlying37
  go_enter Tryz.func50, Tryz.ntmps50
  have hx := Bx.new w #[.int .i64 (l.length : Int)] 3
  have hN := nxA w (.cells #[.int .i64 (l.length : Int)] 3)
  have HG := Lib.hid (groups_any (some ⟨w.heap.size, 0, none⟩) 1 [l.length] _ (at_bx (f := fun n : Nat => Value.int .i64 (n : Int)) hx) (by simp) (by simp; omega))
  have HB0 := Lib.hid hN
  clear hx hN
  rw [show [l.length].flatMap grp = grp l.length by simp] at HG
  go_wp2_with fail
  refine HG.out.mono ?_
  rintro e V ⟨v, rfl, hown, hb⟩
  have HOWN := Lib.hid (own_base hown HB0.out.size)
  have HB := Lib.hid (HB0.out.trans (hb.mono HB0.out.size))
  clear hown hb HG HB0
  go_wp2_with fail
  go_loopw [3, 15] (fun v i wr => RBp l w v i wr) (fun _ i _ => l.length - (intOf i).toNat)
  case atStart => exact ⟨0, grp l.length, by omega, rfl, HB.out, by simp, HOWN.out⟩
  case round =>
    obtain ⟨k, t, hk, rfl, hb, ht, hown⟩ := hrel
    have HB := Lib.hid hb
    have HOWN := Lib.hid hown
    have HT := Lib.hid ht
    clear hb hown ht
    by_cases hlt : k < l.length
    · obtain ⟨b, off, hA, hbk, hcs⟩ := HL.out.below HB.out k l[k] (List.getElem?_eq_getElem hlt)
      have HTK := Lib.hid (pcB_take hlt)
      have HPT := Lib.hid (fun j (hj : j ≤ 4) => body_part HO.out hn hlt hj)
      have HPK := Lib.hid (show okPc l[k] = true from List.all_eq_true.1 HO.out _ (List.getElem_mem hlt))
      obtain ⟨p, hp⟩ : ∃ p, l[k] = p := ⟨_, rfl⟩
      rw [hp] at hcs HTK HPT HPK
      clear hp
      have HIX := Lib.hid (fun W k e h he => pc_idx p W k e h he)
      have HON := Lib.hid (all_oneCell_toArray (pc_one p))
      have HLN := pc_len p
      obtain ⟨L, hL⟩ : ∃ L, p.cells = L := ⟨_, rfl⟩
      rw [hL] at hcs HIX HON HLN
      clear hL
      have HRG := Lib.hid (show wr.rangeAt b (off + k * 28) L from fun j u hu => hcs j u hu)
      have HS1 := Lib.hid (show (Tryz.prog.info? 51).map (·.size) = some L.length by rw [HLN]; exact pc_size)
      have HS2 := Lib.hid (show (Tryz.prog.info? 51).map (·.size) = some L.toArray.size by rw [List.size_toArray, HLN]; exact pc_size)
      have HS3 := Lib.hid (show (Tryz.prog.info? 49).map (·.size) = some L.length by rw [HLN]; exact ar_size)
      have HLN' := Lib.hid HLN
      clear HLN hcs
      have hwk : IntKind.i64.wrap ((k : Int) + 1) = (k : Int) + 1 := IntWalk.i64_in _ (by omega)
      have HZ := Lib.hid (Bx.new wr #[.int .i64 0, .int .i64 0, .int .i64 0, .int .i64 0, .int .i64 0, .int .i64 0, .int .i64 0, .int .i64 0, .int .i64 0, .int .i64 0, .int .i64 0, .int .i64 0, .int .i64 0, .int .i64 0, .int .i64 0, .int .i64 0, .int .i64 0, .int .i64 0, .int .i64 0, .int .i64 0, .int .i64 0, .int .i64 0, .int .i64 0, .int .i64 0, .int .i64 0, .int .i64 0, .int .i64 0, .int .i64 0] 51)
      have HA := Lib.hid (nxA wr (.cells #[.int .i64 0, .int .i64 0, .int .i64 0, .int .i64 0, .int .i64 0, .int .i64 0, .int .i64 0, .int .i64 0, .int .i64 0, .int .i64 0, .int .i64 0, .int .i64 0, .int .i64 0, .int .i64 0, .int .i64 0, .int .i64 0, .int .i64 0, .int .i64 0, .int .i64 0, .int .i64 0, .int .i64 0, .int .i64 0, .int .i64 0, .int .i64 0, .int .i64 0, .int .i64 0, .int .i64 0, .int .i64 0] 51))
      have HTH := Lib.hid (show (wr.alloc (.cells #[.int .i64 0, .int .i64 0, .int .i64 0, .int .i64 0, .int .i64 0, .int .i64 0, .int .i64 0, .int .i64 0, .int .i64 0, .int .i64 0, .int .i64 0, .int .i64 0, .int .i64 0, .int .i64 0, .int .i64 0, .int .i64 0, .int .i64 0, .int .i64 0, .int .i64 0, .int .i64 0, .int .i64 0, .int .i64 0, .int .i64 0, .int .i64 0, .int .i64 0, .int .i64 0, .int .i64 0, .int .i64 0] 51)).there wr.heap.size 0 L.toArray.size by rw [show L.toArray.size = 28 from (by simp : L.toArray.size = L.length).trans HLN'.out]; exact HZ.out.there)
      subst hA
      go_upto_region 4 with fail
      go_upto_region 5 with (first | (refine wpList_load_mid rfl 51 (.tmp 17) rfl b (off + k * 28) rfl L _ HRG.out pc_und rfl HS1.out ?_) | (refine wpList_store_mid rfl 51 (.tmp 5) (.tmp 18) rfl wr.heap.size 0 L.toArray rfl rfl HTH.out HS2.out HON.out ?_))
      have SB := Lib.hid (HZ.out.wset L HLN'.out)
      have HB2 := Lib.hid (show Below wr.heap.size wr ((wr.alloc (.cells #[.int .i64 0, .int .i64 0, .int .i64 0, .int .i64 0, .int .i64 0, .int .i64 0, .int .i64 0, .int .i64 0, .int .i64 0, .int .i64 0, .int .i64 0, .int .i64 0, .int .i64 0, .int .i64 0, .int .i64 0, .int .i64 0, .int .i64 0, .int .i64 0, .int .i64 0, .int .i64 0, .int .i64 0, .int .i64 0, .int .i64 0, .int .i64 0, .int .i64 0, .int .i64 0, .int .i64 0, .int .i64 0] 51)).setCells wr.heap.size 0 L) by rw [wset_eq]; exact below_setCells (Nat.le_refl _) L 0 HA.out)
      generalize ((wr.alloc (.cells #[.int .i64 0, .int .i64 0, .int .i64 0, .int .i64 0, .int .i64 0, .int .i64 0, .int .i64 0, .int .i64 0, .int .i64 0, .int .i64 0, .int .i64 0, .int .i64 0, .int .i64 0, .int .i64 0, .int .i64 0, .int .i64 0, .int .i64 0, .int .i64 0, .int .i64 0, .int .i64 0, .int .i64 0, .int .i64 0, .int .i64 0, .int .i64 0, .int .i64 0, .int .i64 0, .int .i64 0, .int .i64 0] 51)).setCells wr.heap.size 0 L) = W2 at *
      clear HZ HA HTH
      have HRG2 := Lib.hid SB.out.range
      have HBW := Lib.hid (HB.out.trans (HB2.out.mono HB.out.size))
      have HOW := Lib.hid (own_below HOWN.out HB2.out)
      clear HB HOWN HB2
      go_wp2_with (refine wpList_load_mid rfl 49 (.tmp 19) rfl wr.heap.size 0 rfl L _ HRG2.out ar_und rfl HS3.out ?_)
      go_loopw [3, 21] (fun v jv wx => RBe l p k w v jv wx) (fun _ jv _ => 4 - (intOf jv).toNat)
      case atStart => exact ⟨0, t, by omega, rfl, HBW.out, by rw [HT.out]; simp [edsB], HOW.out⟩
      case round =>
        obtain ⟨j, t2, hj, rfl, hb, ht, hown⟩ := hrel
        have HB6 := Lib.hid hb
        have HO6 := Lib.hid hown
        have HT6 := Lib.hid ht
        clear hb hown ht
        have hwj : IntKind.i64.wrap ((j : Int) + 1) = (j : Int) + 1 := IntWalk.i64_in _ (by omega)
        by_cases hlj : j < 4
        · have HOE := Lib.hid (ok_pe HPK.out hlj)
          have HP2 := Lib.hid (HPT.out (j + 1) (by omega))
          have HSU := Lib.hid (edsB_succ p j)
          obtain ⟨e, he⟩ : ∃ e, pe p j = e := ⟨_, rfl⟩
          have hix := fun W => HIX.out W j e hlj he
          rw [he] at HOE HSU
          clear he
          have hA := nxA wr (.cells #[.int .i64 e.kind, .int .i64 e.a.lo, .int .i64 e.a.hi, .int .i64 e.w.lo, .int .i64 e.w.hi, .int .i64 e.d.lo, .int .i64 e.d.hi] 48)
          have HB7 := Lib.hid (HB6.out.trans (hA.mono HB6.out.size))
          have HO7 := Lib.hid (own_below HO6.out hA)
          have HTT := Lib.hid (show grp l.length ++ ((l.take k).flatMap pcB ++ edsB p (j + 1)) = t2 ++ edB e by rw [HT6.out, HSU.out]; simp [List.append_assoc])
          rw [HTT.out] at HP2
          clear hA
          go_wp2_with fail
          refine (sideOf_any e _).mono ?_
          rintro x V8 ⟨rfl, hb⟩
          have HB8 := Lib.hid (HB7.out.trans (hb.mono HB7.out.size))
          have HO8 := Lib.hid (own_below HO7.out hb)
          clear hb HB7 HO7 HB6 HO6
          by_cases hk0 : e.kind = 0
          · rw [show sideV e = .iface 154 (.agg #[]) by unfold sideV; rw [if_pos hk0]]
            rw [show edB e = [0] by unfold edB; rw [if_pos hk0]] at HTT HP2
            clear hk0 HOE
            have hmth := mth_flat_bytes
            go_wp2_with fail
            refine (flatBytes_any V8).mono ?_
            rintro e0 V9 ⟨v9, rfl, hown9, hb⟩
            obtain ⟨g9, cap9, e9, -⟩ := hown9.form (by simp)
            subst e9
            have HB9 := Lib.hid (HB8.out.trans (hb.mono HB8.out.size))
            have HO9 := Lib.hid (own_below HO8.out hb)
            have HSN := Lib.hid (show ∀ (j : Nat) u, (Lib.byteCells [0])[j]? = some u → V9.cell? ((⟨g9, 0, none⟩ : Addr).add j) = some u from fun j u hu => hown9.cells (g := g9) rfl j u hu)
            have HLN := Lib.hid (show t2.length + [0].length ≤ 916 by have := HP2.out; rw [List.length_append] at this; exact this)
            clear hb hown9 HB8 HO8
            go_wp2_with (at_builtin; refine wpList_append_own _ rfl (.tmp 24) (.tmp 27) 37 rfl w.heap.size 5 i0 (.int .u8 0) 1 1 HU.out hi hz0 hz1 hz2 rfl (by decide) _ t2.length _ rfl HO9.out ⟨g9, 0, none⟩ [0].length cap9 (Lib.byteCells [0]) rfl (by rw [Lib.byteCells_length, Nat.mul_one]; try rfl) HSN.out (byte_one [0]) (by unfold maxLen; have := HLN.out; omega) (by have := HLN.out; omega) HB9.out.size ?_; intro v10 w10 hown10 hgrow _)
            have HB10 := Lib.hid (Below.grown HB9.out hgrow HB9.out.size (fun j hj => (HO9.out.lt j hj).1))
            have HO10 := Lib.hid (show w10.ownsRow w.heap.size 5 1 v10 (t2 ++ [0]).length (Lib.byteCells (t2 ++ [0])) by rw [Lib.byteCells_append, List.length_append]; exact hown10)
            clear hown10 hgrow
            go_wp2_with fail
            (first | (refine ⟨?_, ?_⟩; (unfold RBe; exact ⟨j + 1, t2 ++ [0], by omega, by go_num, HB10.out, HTT.out.symm, HO10.out⟩); (simp [intOf]; omega)) | (go_roundw; (case rel => (unfold RBe; exact ⟨j + 1, t2 ++ [0], by omega, by go_num, HB10.out, HTT.out.symm, HO10.out⟩)); (case measure => (simp [intOf]; omega))) | (go_round; (case rel => (unfold RBe; exact ⟨j + 1, t2 ++ [0], by omega, by go_num, HB10.out, HTT.out.symm, HO10.out⟩)); (case measure => (simp [intOf]; omega))))
          · obtain ⟨hkk, h1, h2, h3⟩ := okE_wd HOE.out hk0
            obtain ⟨g1, g2, g3⟩ : e.a.lo ≤ e.a.hi ∧ e.w.lo ≤ e.w.hi ∧ e.d.lo ≤ e.d.hi := by
              rcases okEd_cases HOE.out with h0 | ⟨-, x1, x2, x3⟩
              · rw [h0] at hk0; exact absurd rfl hk0
              · exact ⟨(okSp_iff.1 x1).2.1, (okSp_iff.1 x2).2.1, (okSp_iff.1 x3).2.1⟩
            rw [show sideV e = .iface 155 (.agg #[.int .i64 e.kind, .int .i64 e.a.lo, .int .i64 e.a.hi, .int .i64 e.w.lo, .int .i64 e.w.hi, .int .i64 e.d.lo, .int .i64 e.d.hi]) by unfold sideV; rw [if_neg hk0]]
            have HBL := Lib.hid (bowedBytes_any e V8 hkk h1 h2 h3 g1 g2 g3)
            clear hk0 hkk h1 h2 h3 HOE g1 g2 g3
            have hmth := mth_bowed_bytes
            go_wp2_with fail
            refine HBL.out.mono ?_
            rintro e0 V9 ⟨v9, rfl, hown9, hb⟩
            obtain ⟨g9, cap9, e9, -⟩ := hown9.form (edB_one e)
            subst e9
            have HB9 := Lib.hid (HB8.out.trans (hb.mono HB8.out.size))
            have HO9 := Lib.hid (own_below HO8.out hb)
            have HSN := Lib.hid (show ∀ (j : Nat) u, (Lib.byteCells (edB e))[j]? = some u → V9.cell? ((⟨g9, 0, none⟩ : Addr).add j) = some u from fun j u hu => hown9.cells (g := g9) rfl j u hu)
            have HLN := Lib.hid (show t2.length + (edB e).length ≤ 916 by have := HP2.out; rw [List.length_append] at this; exact this)
            clear hb hown9 HB8 HO8
            go_wp2_with (at_builtin; refine wpList_append_own _ rfl (.tmp 24) (.tmp 27) 37 rfl w.heap.size 5 i0 (.int .u8 0) 1 1 HU.out hi hz0 hz1 hz2 rfl (by decide) _ t2.length _ rfl HO9.out ⟨g9, 0, none⟩ (edB e).length cap9 (Lib.byteCells (edB e)) rfl (by rw [Lib.byteCells_length, Nat.mul_one]; try rfl) HSN.out (byte_one (edB e)) (by unfold maxLen; have := HLN.out; omega) (by have := HLN.out; omega) HB9.out.size ?_; intro v10 w10 hown10 hgrow _)
            have HB10 := Lib.hid (Below.grown HB9.out hgrow HB9.out.size (fun j hj => (HO9.out.lt j hj).1))
            have HO10 := Lib.hid (show w10.ownsRow w.heap.size 5 1 v10 (t2 ++ (edB e)).length (Lib.byteCells (t2 ++ (edB e))) by rw [Lib.byteCells_append, List.length_append]; exact hown10)
            clear hown10 hgrow
            go_wp2_with fail
            (first | (refine ⟨?_, ?_⟩; (unfold RBe; exact ⟨j + 1, t2 ++ (edB e), by omega, by go_num, HB10.out, HTT.out.symm, HO10.out⟩); (simp [intOf]; omega)) | (go_roundw; (case rel => (unfold RBe; exact ⟨j + 1, t2 ++ (edB e), by omega, by go_num, HB10.out, HTT.out.symm, HO10.out⟩)); (case measure => (simp [intOf]; omega))) | (go_round; (case rel => (unfold RBe; exact ⟨j + 1, t2 ++ (edB e), by omega, by go_num, HB10.out, HTT.out.symm, HO10.out⟩)); (case measure => (simp [intOf]; omega))))
        · obtain rfl : j = 4 := by omega
          have HT7 := Lib.hid (show t2 = grp l.length ++ (l.take (k + 1)).flatMap pcB by rw [HT6.out, HTK.out, edsB_four])
          go_wp2_with fail
          all_goals (first | (refine ⟨?_, ?_⟩; (unfold RBp; exact ⟨k + 1, t2, by omega, by go_num, HB6.out, HT7.out, HO6.out⟩); (simp [intOf]; omega)) | (go_roundw; (case rel => (unfold RBp; exact ⟨k + 1, t2, by omega, by go_num, HB6.out, HT7.out, HO6.out⟩)); (case measure => (simp [intOf]; omega))) | (go_round; (case rel => (unfold RBp; exact ⟨k + 1, t2, by omega, by go_num, HB6.out, HT7.out, HO6.out⟩)); (case measure => (simp [intOf]; omega))))
    · obtain rfl : k = l.length := by omega
      rw [List.take_length] at HT
      have HTB := Lib.hid (show t = bodyB l from HT.out)
      have HPO := Lib.hid (show 0 < t.length by rw [HT.out, List.length_append]; have := (grp_len (show l.length < 2097152 by omega)).2; omega)
      have HLE := Lib.hid (show t.length ≤ 916 by have h1 := (scanB_len HO.out hn).1; unfold scanB at h1; rw [← HTB.out, List.length_append] at h1; omega)
      obtain ⟨g, cap, e0, -⟩ := HOWN.out.form HPO.out
      subst e0
      have HSA := Lib.hid (sl_own HOWN.out)
      have HSUM := Lib.hid (sum_any (some ⟨g, 0, none⟩) cap t)
      have HNC := Lib.hid (own_le HOWN.out HPO.out)
      clear HT HOWN
      obtain ⟨n, hnn⟩ : ∃ n, t.length = n := ⟨_, rfl⟩
      have HNN := Lib.hid hnn
      rw [hnn] at HPO HLE HSUM HNC ⊢
      have hn1 := HLE.out
      clear hnn
      have hw1 : IntKind.i64.wrap ((n : Int) + 1) = (n : Int) + 1 := IntWalk.i64_in _ (by omega)
      have hmk : ∀ W : World, (Instr.makeSlice 37 (.int .i64 ((n : Int) + 1)) (.int .i64 ((n : Int) + 1))).run Tryz.prog W = .ok (.slice (some ⟨W.heap.size, 0, none⟩) (n + 1) (n + 1)) (W.alloc (.cells (madeCells #[.int .u8 0] (n + 1)) 5)) := fun W => by
        have := run_make (P := Tryz.prog) W 37 5 i0 (.int .u8 0) HU.out hi hz0 .i64 .i64 (n + 1) (n + 1) (by omega) (by omega) (by rw [hz2]; omega) (by omega)
        rw [show ((n : Int) + 1) = ((n + 1 : Nat) : Int) by push_cast; rfl]
        simpa [Value.cells, hz1] using this
      have HA := Lib.hid (nxA wr (.cells (madeCells #[.int .u8 0] (n + 1)) 5))
      have HX := Lib.hid (Bx.new wr (madeCells #[.int .u8 0] (n + 1)) 5)
      have HK := Lib.hid (heap_alloc_new wr (.cells (madeCells #[.int .u8 0] (n + 1)) 5))
      have hmc : madeCells #[.int .u8 0] (n + 1) = Array.replicate (n + 1) (Value.int .u8 0) := by rw [← Array.toList_inj, toList_madeCells_one]; simp
      rw [hmc] at HA HX HK hmk
      clear hmc
      go_upto_region 12 with fail
      have HSA3 := Lib.hid (HSA.out.next HA.out)
      obtain ⟨H, hH⟩ : ∃ H, H = wr.heap.size := ⟨_, rfl⟩
      rw [← hH] at HX HK ⊢
      have HHB := Lib.hid (show w.heap.size ≤ H by rw [hH]; exact HB.out.size)
      have HAA := Lib.hid (show Below H wr (wr.alloc (.cells (Array.replicate (n + 1) (Value.int .u8 0)) 5)) by rw [hH]; exact HA.out)
      have HGH := Lib.hid (show g < H by rw [hH]; exact HSA.out.1)
      generalize (wr.alloc (.cells (Array.replicate (n + 1) (Value.int .u8 0)) 5)) = W3 at HX HK HSA3 HAA ⊢
      clear hH HA hmk
      have HSZ := Lib.hid (show (Tryz.prog.info? 5).map (·.size) = some 1 by kernel_rfl)
      have HCC := Lib.hid (show ∀ j, j < n + 1 → W3.cell? ⟨H, 0 + j, none⟩ = some (.int .u8 0) from fun j hj => by rw [Nat.zero_add]; exact HX.out.c j _ (by simp [hj]))
      go_upto_region 13 with (refine wpList_copy_cells rfl (.tmp 35) (.tmp 36) 37 37 rfl 5 HU.out HSZ.out H 0 (n + 1) (n + 1) ⟨g, 0, none⟩ n cap (Lib.byteCells t) (by rw [Lib.byteCells_length]; exact HNN.out) rfl rfl (by omega) (fun j u hu => by rw [addr_add]; exact HSA3.out.2 j u hu) (fun j hj => by rw [HCC.out j (by omega)]; rfl) (fun j hj => HX.out.fr _) (byte_one t) ?_)
      have HK4 := Lib.hid (show (W3.setCells H 0 (Lib.byteCells t)).heap[H]? = some (.cells (Lib.byteCells t ++ [Value.int .u8 0]).toArray 5 (0, 0)) by
        rw [blk_sets (e := 5) (fz := (0, 0)) (Lib.byteCells t) 0 (List.replicate (n + 1) (Value.int .u8 0)) W3 (by rw [HK.out]; simp), copy_new (n := n) (ys := Lib.byteCells t) (Value.int .u8 0) (by rw [Lib.byteCells_length]; exact HNN.out)])
      have HA4 := Lib.hid (show Below H wr (W3.setCells H 0 (Lib.byteCells t)) by rw [wset_eq]; exact below_setCells (Nat.le_refl _) _ 0 HAA.out)
      generalize (W3.setCells H 0 (Lib.byteCells t)) = W4 at HK4 HA4 ⊢
      have HS4 := Lib.hid (show BsAt W4 W4.heap.size (some ⟨g, 0, none⟩) t from bs_sl ⟨Nat.lt_of_lt_of_le HSA.out.1 HA4.out.size, fun j u hu => (HA4.out.cell (p := ⟨g, 0 + j, none⟩) HGH.out).trans (HSA.out.2 j u hu)⟩)
      have HSU := Lib.hid (HSUM.out W4 HS4.out (by omega))
      unfold u8v at HSU
      have hng := u8_neg (sumB t)
      obtain ⟨a, ha⟩ : ∃ a, (sumB t).toNat = a := ⟨_, rfl⟩
      obtain ⟨b, hb⟩ : ∃ b, (0 - sumB t).toNat = b := ⟨_, rfl⟩
      rw [ha] at HSU hng
      rw [hb] at hng
      have hng2 : IntKind.u8.wrap (-(a : Int)) = (b : Int) := by rw [IntKind.wrap_u8]; exact hng
      have HBB := Lib.hid hb
      clear ha hb
      have k0 : W4.cell? ⟨H, n, none⟩ = some (.int .u8 0) := by
        rw [cell_of_row _ _ _ _ 5 (0, 0) HK4.out]
        simp [Lib.byteCells_length, HNN.out]
      have k1 : W4.frozen? ⟨H, n, none⟩ = false := Lib.frozen_of_heap HK4.out n
      have hnn : n < n + 1 := by omega
      go_wp2_with fail
      refine HSU.out.mono ?_
      rintro e1 w1 ⟨rfl, rfl⟩
      go_wp2_with fail
      go_ret
      refine ⟨_, rfl, ?_, (HB.out.trans (HA4.out.mono HHB.out)).setCell (p := ⟨H, n, none⟩) HHB.out _⟩
      have h1 := blk_set HK4.out n (.int .u8 (b : Int))
      rw [show (Lib.byteCells t ++ [Value.int .u8 0]).set n (.int .u8 (b : Int)) = Lib.byteCells (scanB l) by
        unfold scanB
        rw [← HTB.out, Lib.byteCells_append, show Lib.byteCells [0 - sumB t] = [Value.int .u8 (b : Int)] by (show [Value.int .u8 ((0 - sumB t).toNat : Int)] = _); rw [HBB.out], show n = (Lib.byteCells t).length by rw [Lib.byteCells_length]; exact HNN.out.symm]
        simp] at h1
      have h2 : (scanB l).length = n + 1 := by unfold scanB; rw [← HTB.out, List.length_append, HNN.out]; rfl
      rw [h2]
      exact own_blk h1 (by rw [Lib.byteCells_length]; exact h2) HHB.out (by omega)
/-- What WriteScans hands back. -/
def wrS (l : List Pc) : Tx × Int := if 12 < l.length then ([], 3) else if okPcs l = false then ([], 1) else (scanB l, 0)
def RetBE (t : Tx) (e0 : Int) (w : World) (e : Ending) (w' : World) : Prop := ∃ v, e = .returned (.tuple #[v, .int .i64 e0]) ∧ w'.ownsRow w.heap.size 5 1 v t.length (Lib.byteCells t) ∧ Below w.heap.size w w'
set_option maxRecDepth 100000 in
set_option maxHeartbeats 1000000 in
theorem WriteScans_any (A : Option Addr) (c : Nat) (l : List Pc) (w : World) (h : At w w.heap.size 28 Pc.cells A l) (hl : l.length ≤ 9223372036854775807) : Calls Tryz.prog 18 #[.slice A l.length c] w (RetBE (wrS l).1 (wrS l).2 w) := by
  go_enter Tryz.func18, Tryz.ntmps18
  by_cases h1 : 12 < l.length
  · have hq : (12 : Int) < (l.length : Int) := by omega
    have hw : wrS l = ([], 3) := by unfold wrS; rw [if_pos h1]
    rw [hw]
    clear hw h1
    go_wp2
    go_ret2
    exact ⟨_, rfl, World.ownsRow_nil _ _ _ _, Below.refl _ _⟩
  · have hq : ¬ (12 : Int) < (l.length : Int) := by omega
    have HA := Lib.hid (arePieces_any A c l w h hl)
    have HL := Lib.hid h
    have HN := Lib.hid (show l.length ≤ 12 by omega)
    clear h
    cases ho : okPcs l
    · have hw : wrS l = ([], 1) := by unfold wrS; rw [if_neg h1, if_pos ho]
      rw [hw]
      rw [ho] at HA
      clear hw h1 ho
      go_wp2_with fail
      refine HA.out.mono ?_
      rintro e V ⟨rfl, hb⟩
      go_wp2_with fail
      go_ret2
      exact ⟨_, rfl, World.ownsRow_nil _ _ _ _, hb⟩
    · have hw : wrS l = (scanB l, 0) := by unfold wrS; rw [if_neg h1, if_neg (by rw [ho]; decide)]
      rw [hw]
      rw [ho] at HA
      have HO := Lib.hid ho
      clear hw h1 ho
      go_wp2_with fail
      refine HA.out.mono ?_
      rintro e V ⟨rfl, hb⟩
      have HY := Lib.hid (bytes_any A c l V (HL.out.next hb) HO.out HN.out)
      have HB := Lib.hid hb
      clear hb
      go_wp2_with fail
      refine HY.out.mono ?_
      rintro e V2 ⟨v, rfl, hown, hb⟩
      go_wp2_with fail
      go_ret2
      exact ⟨_, rfl, own_base hown HB.out.size, HB.out.trans (hb.mono HB.out.size)⟩
end Go.Proofs.YtonnemkecppmiaaGreatDoor
