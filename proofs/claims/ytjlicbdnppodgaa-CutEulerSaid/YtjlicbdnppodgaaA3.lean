import Derived.Test.YtjlicbdnppodgaaP14
import Derived.Test.YtjlicbdnppodgaaP13
import Derived.Test.YtjlicbdnppodgaaP19
import Derived.Test.YtjlicbdnppodgaaLns
import Derived.Test.YtjlicbdnppodgaaP8
import Derived.Test.YtjlicbdnppodgaaP11
import Derived.Test.YtjlicbdnppodgaaP20
import Derived.Test.YtjlicbdnppodgaaR9
namespace Go.Proofs.Ytjlicbdnppodgaa
section
open Go.RowKit
/-! The law's samples: what the plain functions say of them. -/
def spanGo (c : Cut) (k : Int) : List Nat → (Nat → Bool) → Bool
  | [], _ => true
  | i :: l, f => decide (i < c.piece.length) && (atI c i == k) && (manyF f c.piece.length == 0 || nextS c f i) && spanGo c k l (setF f i)
theorem span_srch {c : Cut} (ok : OkC c) {k : Int} : ∀ (l : List Nat) (f : Nat → Bool), Srch c k f → spanGo c k l f = true → Srch c k (l.foldl setF f)
  | [], _, h, _ => h
  | i :: l, f, h, hs => by
    unfold spanGo at hs
    simp only [Bool.and_eq_true, decide_eq_true_eq, beq_iff_eq, Bool.or_eq_true] at hs
    obtain ⟨⟨⟨h1, h2⟩, h3⟩, h4⟩ := hs
    exact span_srch ok l _ (h.add ok h1 h2 h3) h4
theorem whole_of {c : Cut} (ok : OkC c) {k : Int} (l : List Nat) (h : spanGo c k l (fun _ => false) = true) (hm : manyF (l.foldl setF (fun _ => false)) c.piece.length = cellsS c k) : wholeB c k = true := by
  rw [wholeB_iff]
  have hs := span_srch ok l _ Srch.nil h
  refine (hs.whole ok fun i hi ha hf => ?_).1 hm
  exfalso
  rw [cells_many] at hm
  have := (manyF_eq (f := l.foldl setF (fun _ => false)) (g := fun i => atI c i == k) fun j hj hfj => by simp [hs.own j hj hfj]).1 hm i hi (by simp [ha])
  rw [this] at hf
  cases hf
def pcA : List Int := [0, 0, 1, 1, 0, 2, 2, 1, 3, 3, 3, 3]
def pcB : List Int := [0, 0, 1, 2, 3, 1]
def pcR : List Int := [0, 0, 0, 0, 1, 0, 0, 0, 0]
section
variable (A : Option Addr) (n : Nat)
abbrev smA : Cut := ⟨4, 3, pcA, A, n⟩
abbrev smB : Cut := ⟨3, 2, pcB, A, n⟩
abbrev smR : Cut := ⟨3, 3, pcR, A, n⟩
theorem okA : OkC (smA A n) := (okc_iff _).1 (by kernel_rfl)
theorem okB : OkC (smB A n) := (okc_iff _).1 (by kernel_rfl)
theorem okR : OkC (smR A n) := (okc_iff _).1 (by kernel_rfl)
theorem chkA : checkS (smA A n) = (4, 0) := by
  have hg : (greatS (smA A n)).toNat = 3 := by kernel_rfl
  refine (check_good (by kernel_rfl) (fun t ht => ?_) (fun t ht => ?_)).trans (by kernel_rfl)
  · rw [hg] at ht
    rcases (by omega : t = 0 ∨ t = 1 ∨ t = 2) with rfl | rfl | rfl
    · rw [show cellsS (smA A n) ((0 : Nat) : Int) = 3 by kernel_rfl]; decide
    · rw [show cellsS (smA A n) ((1 : Nat) : Int) = 3 by kernel_rfl]; decide
    · rw [show cellsS (smA A n) ((2 : Nat) : Int) = 2 by kernel_rfl]; decide
  · rw [hg] at ht
    rcases (by omega : t = 0 ∨ t = 1 ∨ t = 2 ∨ t = 3) with rfl | rfl | rfl | rfl
    · exact whole_of (okA A n) [0, 1, 4] (by kernel_rfl) (by kernel_rfl)
    · exact whole_of (okA A n) [2, 3, 7] (by kernel_rfl) (by kernel_rfl)
    · exact whole_of (okA A n) [5, 6] (by kernel_rfl) (by kernel_rfl)
    · exact whole_of (okA A n) [8, 9, 10, 11] (by kernel_rfl) (by kernel_rfl)
theorem chkB : checkS (smB A n) = (4, 0) := by
  have hg : (greatS (smB A n)).toNat = 3 := by kernel_rfl
  refine (check_good (by kernel_rfl) (fun t ht => ?_) (fun t ht => ?_)).trans (by kernel_rfl)
  · rw [hg] at ht
    rcases (by omega : t = 0 ∨ t = 1 ∨ t = 2) with rfl | rfl | rfl
    · rw [show cellsS (smB A n) ((0 : Nat) : Int) = 2 by kernel_rfl]; decide
    · rw [show cellsS (smB A n) ((1 : Nat) : Int) = 2 by kernel_rfl]; decide
    · rw [show cellsS (smB A n) ((2 : Nat) : Int) = 1 by kernel_rfl]; decide
  · rw [hg] at ht
    rcases (by omega : t = 0 ∨ t = 1 ∨ t = 2 ∨ t = 3) with rfl | rfl | rfl | rfl
    · exact whole_of (okB A n) [0, 1] (by kernel_rfl) (by kernel_rfl)
    · exact whole_of (okB A n) [2, 5] (by kernel_rfl) (by kernel_rfl)
    · exact whole_of (okB A n) [3] (by kernel_rfl) (by kernel_rfl)
    · exact whole_of (okB A n) [4] (by kernel_rfl) (by kernel_rfl)
theorem chkR : checkS (smR A n) = (2, 0) := by
  have hg : (greatS (smR A n)).toNat = 1 := by kernel_rfl
  refine (check_good (by kernel_rfl) (fun t ht => ?_) (fun t ht => ?_)).trans (by kernel_rfl)
  · rw [hg] at ht
    obtain rfl : t = 0 := by omega
    rw [show cellsS (smR A n) ((0 : Nat) : Int) = 8 by kernel_rfl]; decide
  · rw [hg] at ht
    rcases (by omega : t = 0 ∨ t = 1) with rfl | rfl
    · exact whole_of (okR A n) [0, 1, 2, 3, 5, 6, 7, 8] (by kernel_rfl) (by kernel_rfl)
    · exact whole_of (okR A n) [4] (by kernel_rfl) (by kernel_rfl)
theorem openA0 : openE (smA A n) 0 = 0 := by
  unfold openE
  rw [chkA, if_neg (by decide), if_pos (by kernel_rfl)]
theorem openA3 : openE (smA A n) 3 = 0 := by
  unfold openE
  rw [chkA, if_neg (by decide), if_pos (by kernel_rfl)]
theorem openR0 : openE (smR A n) 0 = 0 := by
  unfold openE
  rw [chkR, if_neg (by decide), if_pos (by kernel_rfl)]
theorem sidesA : sidesL (smA A n) 0 = [(-1, 4), (1, 1), (2, 2), (3, 1)] := by
  unfold sidesL
  rw [if_pos (openA0 A n)]
  kernel_rfl
theorem cutEA : cutE (smA A n) = 0 := by unfold cutE; rw [chkA]
theorem linesA : linesS (smA A n) = (9, 2, 3, 3) := by
  unfold linesS
  rw [if_pos (cutEA A n)]
  kernel_rfl
theorem noRchR {m : Int} (h : Rch (smR A n) 0 (-1) m) : False := by
  induction h with
  | @one m h =>
    obtain ⟨h1, h2, h3, h4, h5⟩ := h
    have hg : greatS (smR A n) = 1 := by kernel_rfl
    rw [hg] at h2
    obtain rfl : m = 1 := by omega
    have : edgesR (smR A n) 1 (-1) = 0 := by kernel_rfl
    omega
  | step _ _ ih => exact ih
theorem insideR : insideL (smR A n) 0 = [1] := by
  unfold insideL
  rw [if_pos (openR0 A n), show (greatS (smR A n)).toNat + 1 = 2 by kernel_rfl, insTo_add (n := 1) ⟨by decide, by
    cases h : rchB (smR A n) 0 (1 : Nat) with
    | false => rfl
    | true => exact (noRchR A n ((rchB_iff _ _ _).1 h)).elim⟩, insTo_skip (n := 0) (by simp)]
  rfl
theorem joinEA : joinE (smA A n) 3 1 = 0 := by
  unfold joinE
  rw [if_neg (by rw [openA3]; decide), if_neg (by rw [show inS 1 0 (greatS (smA A n)) = true by kernel_rfl]; decide), if_neg (by
    have : edgesR (smA A n) 1 3 = 1 := by kernel_rfl
    rw [this]; decide)]
theorem joinPA : joinP (smA A n) 3 1 = [0, 0, 1, 1, 0, 2, 2, 1, 1, 1, 1, 1] := by
  unfold joinP
  rw [if_pos (joinEA A n)]
  kernel_rfl
theorem sawEB : sawE (smB A n) = 0 := by
  unfold sawE
  rw [chkB, if_neg (by decide), if_pos (by kernel_rfl)]
theorem sawLB : sawL (smB A n) = [(true, 2, 0, 2), (false, 1, 0, 2), (true, 1, 1, 2)] := by
  unfold sawL
  rw [if_pos (sawEB A n)]
  kernel_rfl
theorem sawEA : sawE (smA A n) = 11 := by
  unfold sawE
  rw [chkA, if_neg (by decide), if_neg (by rw [show (sawF (smA A n) 24 0 0 (smA A n).wide (smA A n).high).2 = false by kernel_rfl]; decide)]
theorem sawLA : sawL (smA A n) = [] := by
  unfold sawL
  rw [if_neg (by rw [sawEA]; decide)]
end
end
section
open Go.RowKit
/-! The law's samples, made; large. -/
set_option maxHeartbeats 400000 in
theorem large_any (c : Cut) (w : World) : Calls Try.prog 12 #[.agg #[.int .i64 c.wide, .int .i64 c.high, .slice c.A c.piece.length c.c]] w (Ret (.bool (decide (288 < (c.piece.length : Int)))) w) := by
  go_enter Try.func12, Try.ntmps12
  go_wp2
  go_ret
  exact ⟨by simp, nxA _ _⟩
theorem flat_at {α : Type} {cells : α → List Value} {size : Nat} (hs : ∀ x, (cells x).length = size) : ∀ (l : List α) (k j : Nat) (x : α) (u : Value), l[k]? = some x → (cells x)[j]? = some u → (l.flatMap cells)[k * size + j]? = some u
  | [], _, _, _, _, h, _ => by simp at h
  | y :: l, 0, j, x, u, h, hu => by
    injection h with h
    subst h
    have hj : j < (cells y).length := (List.getElem?_eq_some_iff.1 hu).1
    rw [List.flatMap_cons, Nat.zero_mul, Nat.zero_add, List.getElem?_append_left hj]
    exact hu
  | y :: l, k + 1, j, x, u, h, hu => by
    rw [List.flatMap_cons, List.getElem?_append_right (by rw [hs, Nat.add_mul]; omega), hs, show (k + 1) * size + j - size = k * size + j by rw [Nat.add_mul]; omega]
    exact flat_at hs l k j x u h hu
theorem at_bx {α : Type} {cells : α → List Value} {size : Nat} (hs : ∀ x, (cells x).length = size) {W : World} {g : Nat} {l : List α} (h : Bx W g (l.flatMap cells)) : At W W.heap.size size cells (some ⟨g, 0, none⟩) l := fun k x hx =>
  ⟨g, 0, rfl, h.lt, fun j u hu => by rw [Nat.zero_add]; exact h.c _ _ (flat_at hs l k j x u hx hu)⟩
def RetSm (f : Option Addr → Nat → Cut) (x y : Int) (n : Nat) (w : World) (e : Ending) (w' : World) : Prop := ∃ A, e = .returned (.agg #[.int .i64 x, .int .i64 y, .slice A n n]) ∧ CutAt w' w'.heap.size (f A n) ∧ Below w.heap.size w w'
set_option maxHeartbeats 400000 in
theorem cutA_any (w : World) : Calls Try.prog 39 #[] w (RetSm smA 4 3 12 w) := by
  go_enter Try.func39, Try.ntmps39
  go_wp2_with fail
  have n1 := nxA w (.cells #[.int .i64 4, .int .i64 3, .slice (some ⟨w.heap.size + 1, 0, none⟩) 12 12] 24)
  have n2 := nxA (w.alloc (.cells #[.int .i64 4, .int .i64 3, .slice (some ⟨w.heap.size + 1, 0, none⟩) 12 12] 24)) (.cells #[.int .i64 0, .int .i64 0, .int .i64 1, .int .i64 1, .int .i64 0, .int .i64 2, .int .i64 2, .int .i64 1, .int .i64 3, .int .i64 3, .int .i64 3, .int .i64 3] 3)
  have x1 := (Bx.new w #[.int .i64 4, .int .i64 3, .slice (some ⟨w.heap.size + 1, 0, none⟩) 12 12] 24).next n2
  have x2 := Bx.new (w.alloc (.cells #[.int .i64 4, .int .i64 3, .slice (some ⟨w.heap.size + 1, 0, none⟩) 12 12] 24)) #[.int .i64 0, .int .i64 0, .int .i64 1, .int .i64 1, .int .i64 0, .int .i64 2, .int .i64 2, .int .i64 1, .int .i64 3, .int .i64 3, .int .i64 3, .int .i64 3] 3
  rw [World.size_alloc] at x2
  ((try simp only [Exit.inBlock, Exit.then]); refine bodyPost_ret (results_cell1 rfl rfl (loadC x1)) rfl ?_)
  exact ⟨some ⟨w.heap.size + 1, 0, none⟩, rfl, ⟨at_bx (l := pcA) (cells := icell) (size := 1) (fun _ => rfl) x2, (by show pcA.length ≤ _; decide)⟩, n1.trans (n2.mono n1.size)⟩
set_option maxHeartbeats 400000 in
theorem cutB_any (w : World) : Calls Try.prog 40 #[] w (RetSm smB 3 2 6 w) := by
  go_enter Try.func40, Try.ntmps40
  go_wp2_with fail
  have n1 := nxA w (.cells #[.int .i64 3, .int .i64 2, .slice (some ⟨w.heap.size + 1, 0, none⟩) 6 6] 24)
  have n2 := nxA (w.alloc (.cells #[.int .i64 3, .int .i64 2, .slice (some ⟨w.heap.size + 1, 0, none⟩) 6 6] 24)) (.cells #[.int .i64 0, .int .i64 0, .int .i64 1, .int .i64 2, .int .i64 3, .int .i64 1] 3)
  have x1 := (Bx.new w #[.int .i64 3, .int .i64 2, .slice (some ⟨w.heap.size + 1, 0, none⟩) 6 6] 24).next n2
  have x2 := Bx.new (w.alloc (.cells #[.int .i64 3, .int .i64 2, .slice (some ⟨w.heap.size + 1, 0, none⟩) 6 6] 24)) #[.int .i64 0, .int .i64 0, .int .i64 1, .int .i64 2, .int .i64 3, .int .i64 1] 3
  rw [World.size_alloc] at x2
  ((try simp only [Exit.inBlock, Exit.then]); refine bodyPost_ret (results_cell1 rfl rfl (loadC x1)) rfl ?_)
  exact ⟨some ⟨w.heap.size + 1, 0, none⟩, rfl, ⟨at_bx (l := pcB) (cells := icell) (size := 1) (fun _ => rfl) x2, (by show pcB.length ≤ _; decide)⟩, n1.trans (n2.mono n1.size)⟩
end
section
open Go.RowKit
/-! The law's examples (awake): they hold. -/
theorem check_smp (A : Option Addr) (w : World) (h : CutAt w w.heap.size (smA A 12)) : Calls Try.prog 14 #[.agg #[.int .i64 4, .int .i64 3, .slice A 12 12]] w (Ret (.tuple #[.int .i64 4, .int .i64 0]) w) :=
  (CheckP_any (smA A 12) w h).mono fun e w' h => by unfold checkV at h; rw [chkA] at h; exact h
def RetS4 {α : Type} (cells : α → List Value) (size n : Nat) (l : List α) (x : Int) (w : World) (e : Ending) (w' : World) : Prop := ∃ A' cap, e = .returned (.tuple #[.slice A' n cap, .int .i64 x]) ∧ At w' w'.heap.size size cells A' l ∧ Below w.heap.size w w'
theorem sides_smp (A : Option Addr) (w : World) (h : CutAt w w.heap.size (smA A 12)) : Calls Try.prog 16 #[.agg #[.int .i64 4, .int .i64 3, .slice A 12 12], .int .i64 0] w (RetS4 sideC 2 4 [(-1, 4), (1, 1), (2, 2), (3, 1)] 0 w) :=
  (SidesP_any (smA A 12) 0 w ⟨by decide, by decide⟩ h).mono fun e w' h => by unfold RetSides at h; rw [sidesA, openA0] at h; exact h
theorem lines_smp (A : Option Addr) (w : World) (h : CutAt w w.heap.size (smA A 12)) : Calls Try.prog 22 #[.agg #[.int .i64 4, .int .i64 3, .slice A 12 12]] w (Ret (.tuple #[.agg #[.int .i64 9, .int .i64 2, .int .i64 3, .int .i64 3], .int .i64 0]) w) :=
  (LinesP_any (smA A 12) w h).mono fun e w' h => by unfold linesV at h; rw [linesA, cutEA] at h; exact h
theorem inside_smp (A : Option Addr) (w : World) (h : CutAt w w.heap.size (smR A 9)) : Calls Try.prog 18 #[.agg #[.int .i64 3, .int .i64 3, .slice A 9 9], .int .i64 0] w (RetS4 icell 1 1 [1] 0 w) :=
  (InsideP_any (smR A 9) 0 w ⟨by decide, by decide⟩ h).mono fun e w' h => by unfold RetIns at h; rw [insideR, openR0] at h; exact h
def RetJ12 (w : World) (e : Ending) (w' : World) : Prop := ∃ A' cap, e = .returned (.tuple #[.agg #[.int .i64 4, .int .i64 3, .slice A' 12 cap], .int .i64 0]) ∧ At w' w'.heap.size 1 icell A' [0, 0, 1, 1, 0, 2, 2, 1, 1, 1, 1, 1] ∧ Below w.heap.size w w'
theorem join_smp (A : Option Addr) (w : World) (h : CutAt w w.heap.size (smA A 12)) : Calls Try.prog 27 #[.agg #[.int .i64 4, .int .i64 3, .slice A 12 12], .int .i64 3, .int .i64 1] w (RetJ12 w) :=
  (JoinP_any (smA A 12) 3 1 w ⟨by decide, by decide⟩ ⟨by decide, by decide⟩ h).mono fun e w' h => by
    obtain ⟨j, A', cap, rfl, rfl, hc, hb⟩ := h
    unfold joinS at hc ⊢
    rw [joinEA, joinPA] at hc ⊢
    exact ⟨A', cap, rfl, hc.pa, hb⟩
theorem sawB_smp (A : Option Addr) (w : World) (h : CutAt w w.heap.size (smB A 6)) : Calls Try.prog 24 #[.agg #[.int .i64 3, .int .i64 2, .slice A 6 6]] w (RetS4 lineC 4 3 [(true, 2, 0, 2), (false, 1, 0, 2), (true, 1, 1, 2)] 0 w) :=
  (SawP_any (smB A 6) w h).mono fun e w' h => by unfold RetSaw at h; rw [sawLB, sawEB] at h; exact h
theorem sawA_smp (A : Option Addr) (w : World) (h : CutAt w w.heap.size (smA A 12)) : Calls Try.prog 24 #[.agg #[.int .i64 4, .int .i64 3, .slice A 12 12]] w (RetS4 lineC 4 0 [] 11 w) :=
  (SawP_any (smA A 12) w h).mono fun e w' h => by unfold RetSaw at h; rw [sawLA, sawEA] at h; exact h
end
section
open Go.RowKit
/-! The law's examples: awake is true. -/
theorem lines_eq1 : Try.prog.underlying 39 = some (.struct (Try.prog.fieldsOf 39)) := by kernel_rfl
theorem lines_eq2 : Try.prog.stoodInHeld 39 = false := by kernel_rfl
theorem lines_eql (a b c d : Int) (W : World) : (binOp .eql 39 (.agg #[.int .i64 a, .int .i64 b, .int .i64 c, .int .i64 d]) (.agg #[.int .i64 a, .int .i64 b, .int .i64 c, .int .i64 d])).run Try.prog W = .ok (.bool true) W := by
  rw [run_eql_struct, run_equalIn_struct _ _ _ _ _ lines_eq1 lines_eq2]
  simp [Op.eqFields, go_sem]
theorem same_ints {l : List Int} {A A' : Option Addr} {n c c' : Nat} {w : World} (h : At w w.heap.size 1 icell A l) (h' : At w w.heap.size 1 icell A' l) (hn : l.length = n ∧ n ≤ 1000) : Calls Try.prog 21 #[.slice A n c, .slice A' n c'] w (Ret (.bool true) w) := by
  obtain ⟨rfl, hn⟩ := hn
  exact (Ints_any l l A A' c c' w h h' hn hn).mono fun e w' h => by rw [show decide (l = l) = true by simp] at h; exact h
theorem same_sides {A A' : Option Addr} {c c' : Nat} {w : World} (h : At w w.heap.size 2 sideC A [(-1, 4), (1, 1), (2, 2), (3, 1)]) (h' : At w w.heap.size 2 sideC A' [(-1, 4), (1, 1), (2, 2), (3, 1)]) : Calls Try.prog 20 #[.slice A 4 c, .slice A' 4 c'] w (Ret (.bool true) w) :=
  (SameSides_any [(-1, 4), (1, 1), (2, 2), (3, 1)] [(-1, 4), (1, 1), (2, 2), (3, 1)] A A' c c' w h h' (by decide) (by decide)).mono fun e w' h => by rw [show decide (([(-1, 4), (1, 1), (2, 2), (3, 1)] : List Pt) = [(-1, 4), (1, 1), (2, 2), (3, 1)]) = true by decide] at h; exact h
theorem same_lines {A A' : Option Addr} {c c' : Nat} {w : World} (h : At w w.heap.size 4 lineC A [(true, 2, 0, 2), (false, 1, 0, 2), (true, 1, 1, 2)]) (h' : At w w.heap.size 4 lineC A' [(true, 2, 0, 2), (false, 1, 0, 2), (true, 1, 1, 2)]) : Calls Try.prog 26 #[.slice A 3 c, .slice A' 3 c'] w (Ret (.bool true) w) :=
  (SameLines_any [(true, 2, 0, 2), (false, 1, 0, 2), (true, 1, 1, 2)] [(true, 2, 0, 2), (false, 1, 0, 2), (true, 1, 1, 2)] A A' c c' w h h' (by decide) (by decide)).mono fun e w' h => by rw [show decide (([(true, 2, 0, 2), (false, 1, 0, 2), (true, 1, 1, 2)] : List Ln) = [(true, 2, 0, 2), (false, 1, 0, 2), (true, 1, 1, 2)]) = true by decide] at h; exact h
set_option maxRecDepth 100000 in
set_option maxHeartbeats 4000000 in
theorem awake_any (w : World) : Calls Try.prog 13 #[] w (Ret (.bool true) w) := by
  go_enter Try.func13, Try.ntmps13
  go_wp2_with fail
  refine (cutA_any _).mono ?_
  rintro e V1 ⟨A1, rfl, hc, hb⟩
  have HB := Lib.hid hb
  clear hb
  have HC1 := Lib.hid hc
  clear hc
  go_wp2_with fail
  refine (check_smp A1 V1 HC1.out).mono ?_
  rintro e V2 ⟨rfl, hb⟩
  replace HB := Lib.hid (HB.out.trans (hb.mono HB.out.size))
  replace HC1 := Lib.hid (HC1.out.next hb)
  clear hb
  clear HC1
  go_wp2_with fail
  refine (cutA_any _).mono ?_
  rintro e V3 ⟨A2, rfl, hc, hb⟩
  replace HB := Lib.hid (HB.out.trans (hb.mono HB.out.size))
  clear hb
  have HC2 := Lib.hid hc
  clear hc
  go_wp2_with fail
  refine (sides_smp A2 V3 HC2.out).mono ?_
  rintro e V4 ⟨S, sc, rfl, hs, hb⟩
  replace HB := Lib.hid (HB.out.trans (hb.mono HB.out.size))
  replace HC2 := Lib.hid (HC2.out.next hb)
  clear hb
  have HS := Lib.hid hs
  clear hs
  clear HC2
  go_wp2_with fail
  refine (cutA_any _).mono ?_
  rintro e V5 ⟨A3, rfl, hc, hb⟩
  replace HB := Lib.hid (HB.out.trans (hb.mono HB.out.size))
  replace HS := Lib.hid (HS.out.next hb)
  clear hb
  have HC3 := Lib.hid hc
  clear hc
  go_wp2_with fail
  refine (lines_smp A3 V5 HC3.out).mono ?_
  rintro e V6 ⟨rfl, hb⟩
  replace HB := Lib.hid (HB.out.trans (hb.mono HB.out.size))
  replace HS := Lib.hid (HS.out.next hb)
  replace HC3 := Lib.hid (HC3.out.next hb)
  clear hb
  clear HC3
  have hb := nxA V6 (.cells #[.int .i64 9, .int .i64 2, .int .i64 3, .int .i64 3] 39)
  have hx := Bx.new V6 #[.int .i64 9, .int .i64 2, .int .i64 3, .int .i64 3] 39
  obtain ⟨V7, hV7⟩ : ∃ W, W = V6.alloc (.cells #[.int .i64 9, .int .i64 2, .int .i64 3, .int .i64 3] 39) := ⟨_, rfl⟩
  obtain ⟨gV7, hgV7⟩ : ∃ g, g = V6.heap.size := ⟨_, rfl⟩
  rw [← hV7] at hb hx
  rw [← hgV7] at hx
  have BL := Lib.hid hx
  clear hx
  replace HB := Lib.hid (HB.out.trans (hb.mono HB.out.size))
  replace HS := Lib.hid (HS.out.next hb)
  clear hb
  have hb := nxA V7 (.cells #[.int .i64 0, .int .i64 0, .int .i64 0, .int .i64 0, .int .i64 1, .int .i64 0, .int .i64 0, .int .i64 0, .int .i64 0] 3)
  have hx := Bx.new V7 #[.int .i64 0, .int .i64 0, .int .i64 0, .int .i64 0, .int .i64 1, .int .i64 0, .int .i64 0, .int .i64 0, .int .i64 0] 3
  obtain ⟨V8, hV8⟩ : ∃ W, W = V7.alloc (.cells #[.int .i64 0, .int .i64 0, .int .i64 0, .int .i64 0, .int .i64 1, .int .i64 0, .int .i64 0, .int .i64 0, .int .i64 0] 3) := ⟨_, rfl⟩
  obtain ⟨gV8, hgV8⟩ : ∃ g, g = V7.heap.size := ⟨_, rfl⟩
  rw [← hV8] at hb hx
  rw [← hgV8] at hx
  have HR0 := Lib.hid (at_bx (l := pcR) (cells := icell) (size := 1) (fun _ => rfl) hx)
  clear hx
  replace HB := Lib.hid (HB.out.trans (hb.mono HB.out.size))
  replace HS := Lib.hid (HS.out.next hb)
  replace BL := Lib.hid (BL.out.next hb)
  clear hb
  go_wp2_with fail
  have hgg : gV7 + 1 = gV8 := by rw [hgV8, hV7, World.size_alloc, hgV7]
  rw [← hV7, ← hgV7, ← hV8, hgg]
  clear hV7 hgV7 hV8 hgV8 hgg
  refine (inside_smp (some ⟨gV8, 0, none⟩) V8 ⟨HR0.out, by show pcR.length ≤ _; decide⟩).mono ?_
  rintro e V9 ⟨I, ic, rfl, hs, hb⟩
  replace HB := Lib.hid (HB.out.trans (hb.mono HB.out.size))
  replace HS := Lib.hid (HS.out.next hb)
  replace BL := Lib.hid (BL.out.next hb)
  replace HR0 := Lib.hid (HR0.out.next hb)
  clear hb
  have HI := Lib.hid hs
  clear hs
  clear HR0
  go_wp2_with fail
  refine (cutA_any _).mono ?_
  rintro e V10 ⟨A4, rfl, hc, hb⟩
  replace HB := Lib.hid (HB.out.trans (hb.mono HB.out.size))
  replace HS := Lib.hid (HS.out.next hb)
  replace BL := Lib.hid (BL.out.next hb)
  replace HI := Lib.hid (HI.out.next hb)
  clear hb
  have HC4 := Lib.hid hc
  clear hc
  go_wp2_with fail
  refine (join_smp A4 V10 HC4.out).mono ?_
  rintro e V11 ⟨J, jc, rfl, hs, hb⟩
  replace HB := Lib.hid (HB.out.trans (hb.mono HB.out.size))
  replace HS := Lib.hid (HS.out.next hb)
  replace BL := Lib.hid (BL.out.next hb)
  replace HI := Lib.hid (HI.out.next hb)
  replace HC4 := Lib.hid (HC4.out.next hb)
  clear hb
  have HJ := Lib.hid hs
  clear hs
  clear HC4
  have hb := nxA V11 (.cells #[.int .i64 4, .int .i64 3, .slice J 12 jc] 24)
  have hx := Bx.new V11 #[.int .i64 4, .int .i64 3, .slice J 12 jc] 24
  obtain ⟨V12, hV12⟩ : ∃ W, W = V11.alloc (.cells #[.int .i64 4, .int .i64 3, .slice J 12 jc] 24) := ⟨_, rfl⟩
  obtain ⟨gV12, hgV12⟩ : ∃ g, g = V11.heap.size := ⟨_, rfl⟩
  rw [← hV12] at hb hx
  rw [← hgV12] at hx
  have BJ := Lib.hid hx
  clear hx
  replace HB := Lib.hid (HB.out.trans (hb.mono HB.out.size))
  replace HS := Lib.hid (HS.out.next hb)
  replace BL := Lib.hid (BL.out.next hb)
  replace HI := Lib.hid (HI.out.next hb)
  replace HJ := Lib.hid (HJ.out.next hb)
  clear hb
  go_wp2_with fail
  rw [← hV12, ← hgV12]
  clear hV12 hgV12
  refine (cutB_any _).mono ?_
  rintro e V13 ⟨A5, rfl, hc, hb⟩
  replace HB := Lib.hid (HB.out.trans (hb.mono HB.out.size))
  replace HS := Lib.hid (HS.out.next hb)
  replace BL := Lib.hid (BL.out.next hb)
  replace HI := Lib.hid (HI.out.next hb)
  replace HJ := Lib.hid (HJ.out.next hb)
  replace BJ := Lib.hid (BJ.out.next hb)
  clear hb
  have HC5 := Lib.hid hc
  clear hc
  go_wp2_with fail
  refine (sawB_smp A5 V13 HC5.out).mono ?_
  rintro e V14 ⟨W1, wc1, rfl, hs, hb⟩
  replace HB := Lib.hid (HB.out.trans (hb.mono HB.out.size))
  replace HS := Lib.hid (HS.out.next hb)
  replace BL := Lib.hid (BL.out.next hb)
  replace HI := Lib.hid (HI.out.next hb)
  replace HJ := Lib.hid (HJ.out.next hb)
  replace BJ := Lib.hid (BJ.out.next hb)
  replace HC5 := Lib.hid (HC5.out.next hb)
  clear hb
  have HW := Lib.hid hs
  clear hs
  clear HC5
  go_wp2_with fail
  refine (cutA_any _).mono ?_
  rintro e V15 ⟨A6, rfl, hc, hb⟩
  replace HB := Lib.hid (HB.out.trans (hb.mono HB.out.size))
  replace HS := Lib.hid (HS.out.next hb)
  replace BL := Lib.hid (BL.out.next hb)
  replace HI := Lib.hid (HI.out.next hb)
  replace HJ := Lib.hid (HJ.out.next hb)
  replace BJ := Lib.hid (BJ.out.next hb)
  replace HW := Lib.hid (HW.out.next hb)
  clear hb
  have HC6 := Lib.hid hc
  clear hc
  go_wp2_with fail
  refine (sawA_smp A6 V15 HC6.out).mono ?_
  rintro e V16 ⟨W2, wc2, rfl, hs, hb⟩
  replace HB := Lib.hid (HB.out.trans (hb.mono HB.out.size))
  replace HS := Lib.hid (HS.out.next hb)
  replace BL := Lib.hid (BL.out.next hb)
  replace HI := Lib.hid (HI.out.next hb)
  replace HJ := Lib.hid (HJ.out.next hb)
  replace BJ := Lib.hid (BJ.out.next hb)
  replace HW := Lib.hid (HW.out.next hb)
  replace HC6 := Lib.hid (HC6.out.next hb)
  clear hb
  clear hs
  clear HC6
  have hb := nxA V16 (.cells #[.int .i64 (-1), .int .i64 4, .int .i64 1, .int .i64 1, .int .i64 2, .int .i64 2, .int .i64 3, .int .i64 1] 54)
  have hx := Bx.new V16 #[.int .i64 (-1), .int .i64 4, .int .i64 1, .int .i64 1, .int .i64 2, .int .i64 2, .int .i64 3, .int .i64 1] 54
  obtain ⟨V17, hV17⟩ : ∃ W, W = V16.alloc (.cells #[.int .i64 (-1), .int .i64 4, .int .i64 1, .int .i64 1, .int .i64 2, .int .i64 2, .int .i64 3, .int .i64 1] 54) := ⟨_, rfl⟩
  obtain ⟨gV17, hgV17⟩ : ∃ g, g = V16.heap.size := ⟨_, rfl⟩
  rw [← hV17] at hb hx
  rw [← hgV17] at hx
  have HS2 := Lib.hid (at_bx (l := [(-1, 4), (1, 1), (2, 2), (3, 1)]) (cells := sideC) (size := 2) (fun _ => rfl) hx)
  clear hx
  replace HB := Lib.hid (HB.out.trans (hb.mono HB.out.size))
  replace HS := Lib.hid (HS.out.next hb)
  replace BL := Lib.hid (BL.out.next hb)
  replace HI := Lib.hid (HI.out.next hb)
  replace HJ := Lib.hid (HJ.out.next hb)
  replace BJ := Lib.hid (BJ.out.next hb)
  replace HW := Lib.hid (HW.out.next hb)
  clear hb
  go_wp2_with fail
  rw [← hV17, ← hgV17]
  clear hV17 hgV17
  refine (same_sides HS.out HS2.out).mono ?_
  rintro e V18 ⟨rfl, hb⟩
  replace HB := Lib.hid (HB.out.trans (hb.mono HB.out.size))
  replace HS := Lib.hid (HS.out.next hb)
  replace BL := Lib.hid (BL.out.next hb)
  replace HI := Lib.hid (HI.out.next hb)
  replace HJ := Lib.hid (HJ.out.next hb)
  replace BJ := Lib.hid (BJ.out.next hb)
  replace HW := Lib.hid (HW.out.next hb)
  replace HS2 := Lib.hid (HS2.out.next hb)
  clear hb
  clear HS
  clear HS2
  have l0 := BL.out.c 0 _ rfl
  have l1 := BL.out.c 1 _ rfl
  have l2 := BL.out.c 2 _ rfl
  have l3 := BL.out.c 3 _ rfl
  have HQ := lines_eql 9 2 3 3
  have hb := nxA V18 (.cells #[.int .i64 1] 3)
  have hx := Bx.new V18 #[.int .i64 1] 3
  obtain ⟨V19, hV19⟩ : ∃ W, W = V18.alloc (.cells #[.int .i64 1] 3) := ⟨_, rfl⟩
  obtain ⟨gV19, hgV19⟩ : ∃ g, g = V18.heap.size := ⟨_, rfl⟩
  rw [← hV19] at hb hx
  rw [← hgV19] at hx
  have HI2 := Lib.hid (at_bx (l := [1]) (cells := icell) (size := 1) (fun _ => rfl) hx)
  clear hx
  replace HB := Lib.hid (HB.out.trans (hb.mono HB.out.size))
  replace BL := Lib.hid (BL.out.next hb)
  replace HI := Lib.hid (HI.out.next hb)
  replace HJ := Lib.hid (HJ.out.next hb)
  replace BJ := Lib.hid (BJ.out.next hb)
  replace HW := Lib.hid (HW.out.next hb)
  clear hb
  go_wp2_with fail
  rw [← hV19, ← hgV19]
  clear hV19 hgV19
  clear l0 l1 l2 l3 HQ
  refine (same_ints HI.out HI2.out (by decide)).mono ?_
  rintro e V20 ⟨rfl, hb⟩
  replace HB := Lib.hid (HB.out.trans (hb.mono HB.out.size))
  replace BL := Lib.hid (BL.out.next hb)
  replace HI := Lib.hid (HI.out.next hb)
  replace HJ := Lib.hid (HJ.out.next hb)
  replace BJ := Lib.hid (BJ.out.next hb)
  replace HW := Lib.hid (HW.out.next hb)
  replace HI2 := Lib.hid (HI2.out.next hb)
  clear hb
  clear HI
  clear HI2
  clear BL
  have l2 := BJ.out.c 2 _ rfl
  have hb := nxA V20 (.cells #[.int .i64 0, .int .i64 0, .int .i64 1, .int .i64 1, .int .i64 0, .int .i64 2, .int .i64 2, .int .i64 1, .int .i64 1, .int .i64 1, .int .i64 1, .int .i64 1] 3)
  have hx := Bx.new V20 #[.int .i64 0, .int .i64 0, .int .i64 1, .int .i64 1, .int .i64 0, .int .i64 2, .int .i64 2, .int .i64 1, .int .i64 1, .int .i64 1, .int .i64 1, .int .i64 1] 3
  obtain ⟨V21, hV21⟩ : ∃ W, W = V20.alloc (.cells #[.int .i64 0, .int .i64 0, .int .i64 1, .int .i64 1, .int .i64 0, .int .i64 2, .int .i64 2, .int .i64 1, .int .i64 1, .int .i64 1, .int .i64 1, .int .i64 1] 3) := ⟨_, rfl⟩
  obtain ⟨gV21, hgV21⟩ : ∃ g, g = V20.heap.size := ⟨_, rfl⟩
  rw [← hV21] at hb hx
  rw [← hgV21] at hx
  have HJ2 := Lib.hid (at_bx (l := [0, 0, 1, 1, 0, 2, 2, 1, 1, 1, 1, 1]) (cells := icell) (size := 1) (fun _ => rfl) hx)
  clear hx
  replace HB := Lib.hid (HB.out.trans (hb.mono HB.out.size))
  replace HJ := Lib.hid (HJ.out.next hb)
  replace BJ := Lib.hid (BJ.out.next hb)
  replace HW := Lib.hid (HW.out.next hb)
  clear hb
  go_wp2_with fail
  rw [← hV21, ← hgV21]
  clear hV21 hgV21
  clear l2
  refine (same_ints HJ.out HJ2.out (by decide)).mono ?_
  rintro e V22 ⟨rfl, hb⟩
  replace HB := Lib.hid (HB.out.trans (hb.mono HB.out.size))
  replace HJ := Lib.hid (HJ.out.next hb)
  replace BJ := Lib.hid (BJ.out.next hb)
  replace HW := Lib.hid (HW.out.next hb)
  replace HJ2 := Lib.hid (HJ2.out.next hb)
  clear hb
  clear HJ
  clear HJ2
  clear BJ
  have hb := nxA V22 (.cells #[.bool true, .int .i64 2, .int .i64 0, .int .i64 2, .bool false, .int .i64 1, .int .i64 0, .int .i64 2, .bool true, .int .i64 1, .int .i64 1, .int .i64 2] 61)
  have hx := Bx.new V22 #[.bool true, .int .i64 2, .int .i64 0, .int .i64 2, .bool false, .int .i64 1, .int .i64 0, .int .i64 2, .bool true, .int .i64 1, .int .i64 1, .int .i64 2] 61
  obtain ⟨V23, hV23⟩ : ∃ W, W = V22.alloc (.cells #[.bool true, .int .i64 2, .int .i64 0, .int .i64 2, .bool false, .int .i64 1, .int .i64 0, .int .i64 2, .bool true, .int .i64 1, .int .i64 1, .int .i64 2] 61) := ⟨_, rfl⟩
  obtain ⟨gV23, hgV23⟩ : ∃ g, g = V22.heap.size := ⟨_, rfl⟩
  rw [← hV23] at hb hx
  rw [← hgV23] at hx
  have HW2 := Lib.hid (at_bx (l := [(true, 2, 0, 2), (false, 1, 0, 2), (true, 1, 1, 2)]) (cells := lineC) (size := 4) (fun _ => rfl) hx)
  clear hx
  replace HB := Lib.hid (HB.out.trans (hb.mono HB.out.size))
  replace HW := Lib.hid (HW.out.next hb)
  clear hb
  go_wp2_with fail
  rw [← hV23, ← hgV23]
  clear hV23 hgV23
  refine (same_lines HW.out HW2.out).mono ?_
  rintro e V24 ⟨rfl, hb⟩
  replace HB := Lib.hid (HB.out.trans (hb.mono HB.out.size))
  replace HW := Lib.hid (HW.out.next hb)
  replace HW2 := Lib.hid (HW2.out.next hb)
  clear hb
  clear HW
  clear HW2
  go_wp2_with fail
  go_ret
  exact ⟨rfl, HB.out⟩
end
end Go.Proofs.Ytjlicbdnppodgaa
