import Derived.Test.YtjlicbdnppodgaaP10
import Derived.Test.YtjlicbdnppodgaaIns
import Derived.Maps.AppendAt
namespace Go.Proofs.Ytjlicbdnppodgaa
open Go.RowKit
open Go.Maps (Keyed)
/-! The program: Inside (the closure that calls itself, over the pieces). -/
def rchI (R : Int → Bool) (p : Int) : Option Bool := if R p = true then some true else none
def inV (b7 b8 b3 b9 b10 : Nat) : Value := .func (.func 53) #[] #[.pointer (some ⟨b7, 0, none⟩), .pointer (some ⟨b8, 0, none⟩), .pointer (some ⟨b3, 0, none⟩), .pointer (some ⟨b9, 0, none⟩), .pointer (some ⟨b10, 0, none⟩)]
structure InW (c : Cut) (piece : Int) (be br b7 b8 b3 b9 b10 : Nat) (R : Int → Bool) (W : World) : Prop where
  ed : MapIs Try.prog 84 kv2 vvI be (edgO c) W
  rch : MapIs Try.prog 3 vvI vvB br (rchI R) W
  x7 : Bx W b7 [.int .i64 (greatS c + 1)]
  x8 : Bx W b8 [.map (some be)]
  x3 : Bx W b3 [.int .i64 piece]
  x9 : Bx W b9 [.map (some br)]
  x10 : Bx W b10 [inV b7 b8 b3 b9 b10]
  ne : be ≠ br
theorem InW.mark {c : Cut} {piece : Int} {be br b7 b8 b3 b9 b10 : Nat} {R : Int → Bool} {W : World} (h : InW c piece be br b7 b8 b3 b9 b10 R W) (p : Int) (hp : I64 p) :
    ∃ W', (Instr.mapUpdate 86 (.map (some br)) (.int .i64 p) (.bool true)).run Try.prog W = .ok () W' ∧ InW c piece be br b7 b8 b3 b9 b10 (fun q => R q || decide (q = p)) W' ∧ W.grownBy W' (some br) ∧ W'.heap.size = W.heap.size := by
  obtain ⟨l, hl⟩ := int_key p hp
  obtain ⟨W', h1, h2, h3, h4⟩ := h.rch.upd int_keyed' kvI_inj mapIB_und (p := p) hl true
  have nb : ∀ {b v vs}, Bx W b (v :: vs) → ∀ r, some br = some r → b ≠ r := fun hx r e e' => bx_map_ne hx h.rch (e'.trans (Option.some.inj e).symm)
  refine ⟨W', h1, ⟨h.ed.grown h3 (fun e => h.ne (by injection e)), h2.eq (fun q => ?_), h.x7.gk h3 (nb h.x7), h.x8.gk h3 (nb h.x8), h.x3.gk h3 (nb h.x3), h.x9.gk h3 (nb h.x9), h.x10.gk h3 (nb h.x10), h.ne⟩, h3, h4⟩
  unfold setO rchI
  by_cases e : q = p <;> simp [e]
theorem freeP_lt {n : Nat} {R R' : Int → Bool} {m : Int} (hm : 0 ≤ m ∧ m < n) (h0 : R m = false) (h1 : R' m = true) (h : ∀ q, R q = true → R' q = true) : freeP n R' < freeP n R := by
  obtain ⟨j, rfl⟩ := Int.eq_ofNat_of_zero_le hm.1
  refine manyF_lt (i := j) (by show (!R' (j : Int)) = false; rw [h1]; rfl) (by show (!R (j : Int)) = true; rw [h0]; rfl) (by omega) fun k _ hk => ?_
  cases hr : R (k : Int) with
  | false => rfl
  | true => rw [h _ hr] at hk; cases hk
def RetIn (c : Cut) (piece k : Int) (be br b7 b8 b3 b9 b10 : Nat) (R : Int → Bool) (w : World) (e : Ending) (w' : World) : Prop :=
  (∃ v, e = .returned v) ∧ ∃ R', DfsP c piece k R R' (greatS c + 1) ∧ InW c piece be br b7 b8 b3 b9 b10 R' w' ∧ w.grownBy w' (some br)
structure RIn (c : Cut) (piece k : Int) (be br b7 b8 b3 b9 b10 : Nat) (R : Int → Bool) (w W : World) (n : Nat) : Prop where
  hn : (n : Int) ≤ greatS c + 1
  ex : ∃ R', DfsP c piece k R R' n ∧ InW c piece be br b7 b8 b3 b9 b10 R' W
  g : w.grownBy W (some br)
set_option maxRecDepth 100000 in
set_option maxHeartbeats 2000000 in
theorem in1_any (c : Cut) (ok : OkC c) (piece : Int) (hp : I64 piece) (be br b7 b8 b3 b9 b10 : Nat) (m : Nat) : ∀ (k : Int) (R : Int → Bool) (w : World), freeP ((greatS c).toNat + 1) R ≤ m → -1 ≤ k ∧ k ≤ 39 → InW c piece be br b7 b8 b3 b9 b10 R w →
    Calls Try.prog 53 #[.int .i64 k, .pointer (some ⟨b7, 0, none⟩), .pointer (some ⟨b8, 0, none⟩), .pointer (some ⟨b3, 0, none⟩), .pointer (some ⟨b9, 0, none⟩), .pointer (some ⟨b10, 0, none⟩)] w (RetIn c piece k be br b7 b8 b3 b9 b10 R w) := by
  have hgr := great_bd ok
  have OK := Lib.hid ok
  have HP := Lib.hid hp
  clear ok hp
  induction m using Nat.strongRecOn with
  | ind m ih =>
    intro k R w hm hk hI
    have IH := Lib.hid ih
    have HI0 := Lib.hid hI
    have c7 := hI.x7.c 0 _ rfl
    have HM := Lib.hid hm
    clear ih hI hm
    go_enter Try.func53, Try.ntmps53
    go_wp2_with fail
    clear c7
    go_loopw [9] (fun iv wr => ∃ n : Nat, iv = .int .i64 n ∧ RIn c piece k be br b7 b8 b3 b9 b10 R w wr n) (fun iv _ => ((greatS c).toNat + 1) - (intOf iv).toNat)
    case atStart => exact ⟨0, rfl, by omega, ⟨R, DfsP.start, HI0.out⟩, World.grownBy.refl _ _⟩
    case round =>
      obtain ⟨n, rfl, hr⟩ := hrel
      have hn := hr.hn
      obtain ⟨R', hd, hI⟩ := hr.ex
      have HG := Lib.hid hr.g
      by_cases hlt : (n : Int) < greatS c + 1
      · obtain ⟨l, hl⟩ := pair_key k n (by omega) (by omega)
        have hlk := (MapIs.look (p := ((k, (n : Int)) : Pt)) hI.ed pair_keyed kv2_inj mapP_und zero_int hl).1
        have hg0 := edgO_get c (k, (n : Int))
        rw [show ((edgO c (k, (n : Int))).elim (vvI 0) vvI) = .int .i64 ((edgO c (k, (n : Int))).getD 0) by cases edgO c (k, (n : Int)) <;> rfl, hg0] at hlk
        unfold kv2 at hlk
        dsimp only at hlk
        obtain ⟨l2, hl2⟩ := int_key (n : Int) (by omega)
        have hlr := (MapIs.look (p := (n : Int)) hI.rch int_keyed' kvI_inj mapIB_und zero_bool hl2).1
        rw [show ((rchI R' (n : Int)).elim (vvB false) vvB) = .bool (R' (n : Int)) by unfold rchI; cases R' (n : Int) <;> rfl] at hlr
        unfold vvI at hlr
        have c8 := hI.x8.c 0 _ rfl
        have c3 := hI.x3.c 0 _ rfl
        have c9 := hI.x9.c 0 _ rfl
        have HI := Lib.hid hI
        have HD := Lib.hid hd
        have hnn := edgesR_nn c (n : Int) k
        have HNB := Lib.hid (show (Nbr c piece (n : Int) k ↔ (n : Int) ≠ piece ∧ 0 < (if k ≠ (n : Int) then edgesR c (n : Int) k else 0)) from by
          unfold Nbr
          constructor
          · intro ⟨_, _, h3, h4, h5⟩
            exact ⟨h3, by rw [if_pos (Ne.symm h4)]; exact h5⟩
          · intro ⟨h1, h2⟩
            by_cases h3 : k ≠ (n : Int)
            · rw [if_pos h3] at h2
              exact ⟨by omega, by omega, h1, Ne.symm h3, h2⟩
            · rw [if_neg h3] at h2; omega)
        have hev0 : 0 ≤ (if k ≠ (n : Int) then edgesR c (n : Int) k else 0) := by split <;> omega
        obtain ⟨ev, hev⟩ : ∃ ev, ev = (if k ≠ (n : Int) then edgesR c (n : Int) k else 0) := ⟨_, rfl⟩
        rw [← hev] at hlk HNB hev0
        have HSKIP := Lib.hid (fun (h : R' (n : Int) = true ∨ ¬ Nbr c piece (n : Int) k) => (show RIn c piece k be br b7 b8 b3 b9 b10 R w wr (n + 1) from ⟨by omega, ⟨R', by have := hd.skip h; simpa using this, hI⟩, HG.out⟩))
        clear hr hd hI hl hl2 hg0 hnn hev
        by_cases h1 : 0 < ev
        · by_cases h2 : (n : Int) = piece
          · have e2 : ((n : Int) == piece) = true := by simp [h2]
            have e3 : ((n : Int) != piece) = false := by simp [h2]
            have HF := Lib.hid (HSKIP.out (.inr fun h => (HNB.out.1 h).1 h2))
            clear h2
            go_wp2_with fail
            exact ⟨⟨n + 1, by go_num, HF.out⟩, by simp [intOf]; omega⟩
          · have e2 : ((n : Int) == piece) = false := by simp [h2]
            have e3 : ((n : Int) != piece) = true := by simp [h2]
            cases hR : R' (n : Int)
            · rw [hR] at hlr
              have HN := Lib.hid (HNB.out.2 ⟨h2, h1⟩)
              obtain ⟨W2, hup, hI2, hg2, hz2⟩ := HI.out.mark (n : Int) (by unfold I64; omega)
              have c10 := hI2.x10.c 0 _ rfl
              unfold inV at c10
              have HI2 := Lib.hid hI2
              have HG2 := Lib.hid hg2
              have HRf := Lib.hid hR
              clear hI2 hg2 hz2 hR h2 HSKIP HNB
              go_wp2_with fail
              refine (IH.out (freeP ((greatS c).toNat + 1) (fun q => R' q || decide (q = (n : Int)))) ?_ (n : Int) (fun q => R' q || decide (q = (n : Int))) W2 (Nat.le_refl _) (by omega) HI2.out).mono ?_
              · have h3 := freeP_lt (n := (greatS c).toNat + 1) (R := R') (R' := fun q => R' q || decide (q = (n : Int))) (m := (n : Int)) (by omega) HRf.out (by simp) (fun q h => by simp [h])
                have h4 : freeP ((greatS c).toNat + 1) R' ≤ freeP ((greatS c).toNat + 1) R := manyF_mono fun j _ hj => by
                  cases hr : R (j : Int) with
                  | false => rfl
                  | true => rw [HD.out.old _ hr] at hj; cases hj
                have := HM.out
                omega
              rintro e W5 ⟨⟨v', rfl⟩, R'', hd5, hI5, hg5⟩
              have HF := Lib.hid (show RIn c piece k be br b7 b8 b3 b9 b10 R w W5 (n + 1) from ⟨by omega, ⟨R'', by have := HD.out.go HN.out hd5 (by omega); simpa using this, hI5⟩, HG.out.trans (HG2.out.trans hg5)⟩)
              clear hd5 hI5 hg5 c10 hup c8 c3 c9 hlk hlr
              go_wp2_with fail
              exact ⟨⟨n + 1, by go_num, HF.out⟩, by simp [intOf]; omega⟩
            · rw [hR] at hlr
              have HF := Lib.hid (HSKIP.out (.inl hR))
              clear hR h2
              go_wp2_with fail
              exact ⟨⟨n + 1, by go_num, HF.out⟩, by simp [intOf]; omega⟩
        · have HF := Lib.hid (HSKIP.out (.inr fun h => h1 (HNB.out.1 h).2))
          go_wp2_with fail
          exact ⟨⟨n + 1, by go_num, HF.out⟩, by simp [intOf]; omega⟩
      · have HE := Lib.hid hr
        have hne : (n : Int) = greatS c + 1 := by omega
        have HNE := Lib.hid hne
        have HI := Lib.hid hI
        have HD := Lib.hid hd
        clear hr hI hd hne
        go_wp2_with fail
        refine bodyPost_ret (results_none rfl _ _ _) rfl ?_
        exact ⟨⟨_, rfl⟩, R', by have := HD.out; rw [HNE.out] at this; exact this, HI.out, HG.out⟩
end Go.Proofs.Ytjlicbdnppodgaa
