import Derived.Test.YtkcfpnpejaekjaaDoorR3
namespace Go.Proofs.YtkcfpnpejaekjaaDoor
open Go.RowKit
/-! The reference: windows, holders. -/
structure OkT (t : Tl) : Prop where
  n1 : 1 ≤ t.n
  n2 : t.n ≤ 16
  a1 : 1 ≤ t.admits.length
  a2 : t.admits.length ≤ 6
  lo : t.loans.length ≤ 12
  lk : t.looks.length ≤ 20
  lent : Lent t.loans
  per : ∀ x ∈ t.loans, x.p < t.admits.length
  look : ∀ x ∈ t.looks, (0 ≤ x.h ∧ x.h ≤ mxH) ∧ (0 ≤ x.there ∧ x.there ≤ powI t.n.toNat - 1) ∧ (0 ≤ x.gone ∧ x.gone ≤ powI t.n.toNat - 1) ∧ x.there.toNat &&& x.gone.toNat = 0
  adm : ∀ m ∈ t.admits, -1 ≤ m ∧ m ≤ 16
theorem okT_of {t : Tl} (h : okTale t = true) : OkT t := by
  unfold okTale at h
  simp only [Bool.and_eq_true, inS_iff, decide_eq_true_eq, List.all_eq_true] at h
  obtain ⟨h1, h2, h3, h4, h5, h6, h7⟩ := h
  obtain ⟨h8, h9⟩ := okLoans_lent (by omega) h5
  refine ⟨h1.1, h1.2, by omega, by omega, by omega, by omega, h8, fun x hx => (h9 x hx).1, fun x hx => ?_, fun m hm => ?_⟩
  · have := h6 x hx
    unfold okLook at this
    simp only [Bool.and_eq_true, inS_iff, decide_eq_true_eq] at this
    exact ⟨this.1, this.2.1, this.2.2.1, this.2.2.2⟩
  · have := h7 m hm
    unfold okAdm at this
    exact inS_iff.1 this
theorem seen_step {l : List Look} {i k : Nat} (hi : i < l.length) : seenS (l.take (i + 1)) k = if ibit (l.getD i ⟨0, 0, 0⟩).there k then max (seenS (l.take i) k) (l.getD i ⟨0, 0, 0⟩).h else seenS (l.take i) k := by
  have hg : l.getD i ⟨0, 0, 0⟩ = l[i] := by rw [List.getD_eq_getElem?_getD, List.getElem?_eq_getElem hi]; rfl
  unfold seenS
  rw [hg, List.take_succ_eq_append_getElem hi, List.foldl_append]; rfl
theorem gone_step {l : List Look} {i k : Nat} (hi : i < l.length) : goneS (l.take (i + 1)) k = if ibit (l.getD i ⟨0, 0, 0⟩).gone k then min (goneS (l.take i) k) (l.getD i ⟨0, 0, 0⟩).h else goneS (l.take i) k := by
  have hg : l.getD i ⟨0, 0, 0⟩ = l[i] := by rw [List.getD_eq_getElem?_getD, List.getElem?_eq_getElem hi]; rfl
  unfold goneS
  rw [hg, List.take_succ_eq_append_getElem hi, List.foldl_append]; rfl
theorem getD_mem {α : Type} {l : List α} {i : Nat} {d : α} (hi : i < l.length) : l.getD i d ∈ l := by
  rw [List.getD_eq_getElem?_getD, List.getElem?_eq_getElem hi]; exact List.getElem_mem hi
def holdR (l : List Loan) (h : Int) : Int := (holdS l h).getD (-1)
def RHo (m : Mt) (h : Int) (w0 : World) (b : Nat) (i : Value) (w : World) : Prop := ∃ k : Nat, k ≤ m.t.loans.length ∧ i = .int .i64 k ∧ Below w0.heap.size w0 w ∧ Bx w b m.cells ∧ (m.t.loans.take k).all (fun x => !inLoan h x) = true
set_option maxHeartbeats 1000000 in
theorem holderR_any (m : Mt) (h : Int) (w : World) (hr : TaleAt w w.heap.size m) : Calls Tryd.prog 35 #[.agg #[.int .i64 m.t.n, .slice m.A1 m.t.loans.length m.c1, .slice m.A2 m.t.looks.length m.c2, .slice m.A3 m.t.admits.length m.c3], .int .i64 h] w (Ret (.int .i64 (holdR m.t.loans h)) w) := by
  have HR := Lib.hid hr
  have l1 := hr.l1
  clear hr
  go_enter Tryd.func35, Tryd.ntmps35
  go_wp2
  go_loopw [5] (fun i wr => RHo m h w w.heap.size i wr) (fun i _ => m.t.loans.length - (intOf i).toNat)
  case atStart => exact ⟨0, by omega, rfl, nxA _ _, Bx.new _ _ _, rfl⟩
  case round =>
    obtain ⟨k, hk, rfl, hb, hx, hall⟩ := hrel
    have hz := hx.lt
    have c0 := hx.c 0 _ rfl
    have c1 := hx.c 1 _ rfl
    have c2 := hx.c 2 _ rfl
    have c3 := hx.c 3 _ rfl
    have HX := Lib.hid hx
    have HB := Lib.hid hb
    clear hx
    by_cases hlt : k < m.t.loans.length
    · obtain ⟨b, off, e, hbk, h0, h1, h2⟩ := loan_at (HR.out.lo.below hb) hlt
      rw [e] at c1
      have hbs : b < wr.heap.size := Nat.lt_of_lt_of_le hbk hb.size
      have hg : m.t.loans.getD k ⟨0, 0, 0⟩ = m.t.loans[k] := by rw [List.getD_eq_getElem?_getD, List.getElem?_eq_getElem hlt]; rfl
      have Ha := Lib.hid (all_step (p := fun x => !inLoan h x) hlt hall)
      have Hf := Lib.hid (find_first (p := inLoan h) hlt hall)
      rw [← hg] at Ha Hf
      generalize m.t.loans.getD k ⟨0, 0, 0⟩ = s at *
      have Hk := Lib.hid (show inLoan h s = (decide (s.a ≤ h) && decide (h < s.b)) from rfl)
      clear hall hb e hg
      rcases chain2 (decide (s.a ≤ h)) (decide (h < s.b)) with a1 | ⟨a1, a2⟩ | ⟨a1, a2⟩
      rotate_right
      · go_wp2
        go_ret
        refine ret_int ?_ HB.out
        unfold holdR holdS
        rw [Hf.out (by rw [Hk.out, a1, a2]; rfl)]; rfl
      all_goals
        go_wp2
        all_goals (first | (refine ⟨?_, ?_⟩; (unfold RHo; exact ⟨k + 1, by omega, by go_num, HB.out, HX.out, Ha.out (by rw [Hk.out]; simp [*])⟩); (simp [intOf]; omega)) | (go_roundw; (case rel => (unfold RHo; exact ⟨k + 1, by omega, by go_num, HB.out, HX.out, Ha.out (by rw [Hk.out]; simp [*])⟩)); (case measure => (simp [intOf]; omega))) | (go_round; (case rel => (unfold RHo; exact ⟨k + 1, by omega, by go_num, HB.out, HX.out, Ha.out (by rw [Hk.out]; simp [*])⟩)); (case measure => (simp [intOf]; omega))))
    · have hall := all_full hlt hall
      go_wp2
      go_ret
      refine ret_int ?_ HB.out
      unfold holdR
      rw [holdS_none.2 (any_false hall)]; rfl
def RBd (m : Mt) (p : Nat) (w0 : World) (b : Nat) (s g i : Value) (w : World) : Prop := ∃ k : Nat, k ≤ m.t.looks.length ∧ i = .int .i64 k ∧ s = .int .i64 (seenS (m.t.looks.take k) p) ∧ g = .int .i64 (goneS (m.t.looks.take k) p) ∧ Below w0.heap.size w0 w ∧ Bx w b m.cells
set_option maxHeartbeats 2000000 in
theorem bounds_any (m : Mt) (p : Nat) (w : World) (hr : TaleAt w w.heap.size m) (ok : OkT m.t) (hp : p ≤ 62) : Calls Tryd.prog 38 #[.agg #[.int .i64 m.t.n, .slice m.A1 m.t.loans.length m.c1, .slice m.A2 m.t.looks.length m.c2, .slice m.A3 m.t.admits.length m.c3], .int .i64 p] w (Ret (.tuple #[.int .i64 (seenS m.t.looks p), .int .i64 (goneS m.t.looks p)]) w) := by
  have HR := Lib.hid hr
  have OK := Lib.hid ok
  have l2 := hr.l2
  clear hr ok
  go_enter Tryd.func38, Tryd.ntmps38
  go_wp2
  go_loopw [6, 7, 8] (fun s g i wr => RBd m p w w.heap.size s g i wr) (fun _ _ i _ => m.t.looks.length - (intOf i).toNat)
  case atStart => exact ⟨0, by omega, rfl, rfl, rfl, nxA _ _, Bx.new _ _ _⟩
  case round =>
    obtain ⟨k, hk, rfl, rfl, rfl, hb, hx⟩ := hrel
    have hz := hx.lt
    have c2 := hx.c 2 _ rfl
    have HX := Lib.hid hx
    have HB := Lib.hid hb
    clear hx
    by_cases hlt : k < m.t.looks.length
    · obtain ⟨b, off, e, hbk, h0, h1, h2⟩ := look_at (HR.out.lk.below hb) hlt
      rw [e] at c2
      have hbs : b < wr.heap.size := Nat.lt_of_lt_of_le hbk hb.size
      have HSn := Lib.hid (seen_step (k := p) hlt)
      have HGn := Lib.hid (gone_step (k := p) hlt)
      have HO := OK.out.look _ (getD_mem (d := ⟨0, 0, 0⟩) hlt)
      have hn1 := OK.out.n1
      have hn2 := OK.out.n2
      have hpb := powI_bd (n := m.t.n.toNat) (by omega)
      generalize m.t.looks.getD k ⟨0, 0, 0⟩ = s at *
      obtain ⟨T, hT⟩ : ∃ T : Nat, T = s.there.toNat := ⟨_, rfl⟩
      obtain ⟨G, hG⟩ : ∃ G : Nat, G = s.gone.toNat := ⟨_, rfl⟩
      have hT1 : s.there = (T : Int) := by omega
      have hG1 : s.gone = (G : Int) := by omega
      have HT := Lib.hid (fun W => has_any T p hp (by omega) W)
      have HG := Lib.hid (fun W => has_any G p hp (by omega) W)
      have e1 : ibit s.there p = has T p := by rw [hT]; rfl
      have e2 : ibit s.gone p = has G p := by rw [hG]; rfl
      rw [e1] at HSn
      rw [e2] at HGn
      rw [hT1] at h1
      rw [hG1] at h2
      clear hb e HO hpb hn1 hn2 hT hG hT1 hG1 e1 e2
      generalize seenS (m.t.looks.take k) p = sv at *
      generalize goneS (m.t.looks.take k) p = gv at *
      cases b1 : has T p <;> cases b2 : has G p
      all_goals
        go_wp2_with (first | (go_at_call 60; (with_reducible refine (HT.out _).mono ?_); rintro e w' ⟨rfl, rfl⟩) | (go_at_call 60; (with_reducible refine (HG.out _).mono ?_); rintro e w' ⟨rfl, rfl⟩))
        all_goals (first | (refine ⟨?_, ?_⟩; (unfold RBd; exact ⟨k + 1, by omega, by go_num, by rw [HSn.out]; simp [*]; try omega, by rw [HGn.out]; simp [*]; try omega, HB.out, HX.out⟩); (simp [intOf]; omega)) | (go_roundw; (case rel => (unfold RBd; exact ⟨k + 1, by omega, by go_num, by rw [HSn.out]; simp [*]; try omega, by rw [HGn.out]; simp [*]; try omega, HB.out, HX.out⟩)); (case measure => (simp [intOf]; omega))) | (go_round; (case rel => (unfold RBd; exact ⟨k + 1, by omega, by go_num, by rw [HSn.out]; simp [*]; try omega, by rw [HGn.out]; simp [*]; try omega, HB.out, HX.out⟩)); (case measure => (simp [intOf]; omega))))
    · have e1 : m.t.looks.take k = m.t.looks := List.take_of_length_le (by omega)
      rw [e1]
      go_wp2
      (try simp only [Exit.inBlock, Exit.then])
      refine bodyPost_ret (results_tmp2 rfl _ _ _) rfl ?_
      exact ⟨rfl, HB.out⟩
end Go.Proofs.YtkcfpnpejaekjaaDoor
