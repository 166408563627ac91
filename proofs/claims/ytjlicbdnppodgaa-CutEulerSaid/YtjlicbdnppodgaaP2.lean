import Derived.Test.YtjlicbdnppodgaaP1
import Derived.Test.YtjlicbdnppodgaaR4
import Derived.Test.YtjlicbdnppodgaaM0
namespace Go.Proofs.Ytjlicbdnppodgaa
open Go.RowKit
open Go.Maps (Keyed)
/-! The program: isCut; cells and pairs as keys; piece; newPicture. -/
theorem any_badPc (l : List Int) : l.any badPc = !l.all (fun x => inS x 0 39) := by
  rw [List.all_eq_not_any_not, Bool.not_not]; rfl
set_option maxHeartbeats 1000000 in
theorem isCut_any (c : Cut) (w : World) (hr : CutAt w w.heap.size c) : Calls Try.prog 41 #[.agg #[.int .i64 c.wide, .int .i64 c.high, .slice c.A c.piece.length c.c]] w (Ret (.bool (cutS c)) w) := by
  have l1 := hr.l1
  have HC := Lib.hid (show cutS c = (inS c.wide 1 12 && (inS c.high 1 12 && (decide ((c.piece.length : Int) = c.wide * c.high) && c.piece.all (fun x => inS x 0 39)))) from rfl)
  have hX := Bx.new w #[.int .i64 c.wide, .int .i64 c.high, .slice c.A c.piece.length c.c] 24
  have hB := nxA w (.cells #[.int .i64 c.wide, .int .i64 c.high, .slice c.A c.piece.length c.c] 24)
  have c0 := hX.c 0 _ rfl
  have c1 := hX.c 1 _ rfl
  have c2 := hX.c 2 _ rfl
  have HX := Lib.hid hX
  have HB := Lib.hid hB
  have HR := Lib.hid (hr.next hB)
  clear hX hB hr
  go_enter Try.func41, Try.ntmps41
  go_upto_region 1 with fail
  generalize (w.alloc (.cells #[.int .i64 c.wide, .int .i64 c.high, .slice c.A c.piece.length c.c] 24)) = V at *
  cases h1 : inS c.wide 1 12
  · go_wp2_with (go_at_call 59; (with_reducible refine (within_any _ _ _ _).mono ?_); rintro e w' ⟨rfl, rfl⟩)
    go_ret
    exact ⟨by rw [HC.out, h1]; rfl, HB.out⟩
  cases h2 : inS c.high 1 12
  · go_wp2_with (go_at_call 59; (with_reducible refine (within_any _ _ _ _).mono ?_); rintro e w' ⟨rfl, rfl⟩)
    go_ret
    exact ⟨by rw [HC.out, h1, h2]; rfl, HB.out⟩
  have h3 : 1 ≤ c.wide ∧ c.wide ≤ 12 ∧ 1 ≤ c.high ∧ c.high ≤ 12 := by unfold inS at h1 h2; simp at h1 h2; omega
  have h4 : 0 ≤ c.wide * c.high ∧ c.wide * c.high ≤ 144 := ⟨Int.mul_nonneg (by omega) (by omega), Int.le_trans (Int.mul_le_mul h3.2.1 h3.2.2.2 (by omega) (by omega)) (by decide)⟩
  have hw1 : IntKind.i64.wrap (c.wide * c.high) = c.wide * c.high := IntWalk.i64_in _ (by omega)
  by_cases h5 : (c.piece.length : Int) = c.wide * c.high
  · have e5 : ((c.piece.length : Int) == c.wide * c.high) = true := by simp; exact h5
    have e6 := Lib.hid (show decide ((c.piece.length : Int) = c.wide * c.high) = true by simp; exact h5)
    obtain ⟨m, hm⟩ : ∃ m, c.wide * c.high = m := ⟨_, rfl⟩
    rw [hm] at h5 h4 e5 hw1
    go_wp2_with (first | (go_at_call 59; (with_reducible refine (within_any _ _ _ _).mono ?_); rintro e w' ⟨rfl, rfl⟩) | fail)
    refine (containsBad_any _ _ _ _ HR.out.pa HR.out.l1).mono ?_
    rintro e w1 ⟨rfl, rfl⟩
    go_wp2
    go_ret
    exact ⟨by rw [HC.out, h1, h2, e6.out, any_badPc, Bool.not_not]; rfl, HB.out⟩
  · have e5 : ((c.piece.length : Int) == c.wide * c.high) = false := by simp; exact h5
    have e6 := Lib.hid (show decide ((c.piece.length : Int) = c.wide * c.high) = false by simp; exact h5)
    obtain ⟨m, hm⟩ : ∃ m, c.wide * c.high = m := ⟨_, rfl⟩
    rw [hm] at h5 h4 e5 hw1
    go_wp2_with (go_at_call 59; (with_reducible refine (within_any _ _ _ _).mono ?_); rintro e w' ⟨rfl, rfl⟩)
    go_ret
    exact ⟨by rw [HC.out, h1, h2, e6.out]; rfl, HB.out⟩
/-! Cells and pairs as keys. -/
def kv2 (p : Pt) : Value := .agg #[.int .i64 p.1, .int .i64 p.2]
def vvI (x : Int) : Value := .int .i64 x
def vvB (x : Bool) : Value := .bool x
theorem kv2_inj : ∀ p q : Pt, kv2 p = kv2 q → p = q := fun p q h => by
  unfold kv2 at h
  injection h with h
  have h1 := congrArg (fun a => a.toList) h
  simp at h1
  obtain ⟨p1, p2⟩ := p
  obtain ⟨q1, q2⟩ := q
  simp only at h1
  rw [h1.1, h1.2]
theorem kvI_inj : ∀ p q : Int, vvI p = vvI q → p = q := fun p q h => by
  unfold vvI at h
  injection h
theorem cell_und : Try.prog.underlying 90 = some (.struct (Try.prog.fieldsOf 90)) := by kernel_rfl
theorem pair_und : Try.prog.underlying 84 = some (.struct (Try.prog.fieldsOf 84)) := by kernel_rfl
theorem mapC_und : Try.prog.underlying 69 = some (.map 90 3) := by kernel_rfl
theorem mapB_und : Try.prog.underlying 106 = some (.map 90 4) := by kernel_rfl
theorem mapP_und : Try.prog.underlying 81 = some (.map 84 3) := by kernel_rfl
theorem mapI_und : Try.prog.underlying 114 = some (.map 3 3) := by kernel_rfl
theorem mapIB_und : Try.prog.underlying 86 = some (.map 3 4) := by kernel_rfl
theorem int_und : Try.prog.underlying 3 = some (.int .i64) := by kernel_rfl
theorem bool_und : Try.prog.underlying 4 = some .bool := by kernel_rfl
theorem cell_keyed : Keyed Try.prog 90 := Keyed.of_law (deep_law (m := 3) (by decide) (by kernel_rfl) (by kernel_rfl) (by rw [cell_und]))
theorem pair_keyed : Keyed Try.prog 84 := Keyed.of_law (deep_law (m := 3) (by decide) (by kernel_rfl) (by kernel_rfl) (by rw [pair_und]))
theorem int_keyed' : Keyed Try.prog 3 := Maps.int_keyed int_und
theorem zero_int (u : World) : (zeroValue 3).run Try.prog u = .ok (vvI 0) u := by kernel_rfl
theorem zero_bool (u : World) : (zeroValue 4).run Try.prog u = .ok (vvB false) u := by kernel_rfl
theorem lits_int (D : Nat) {x : Int} (h : (Lit.int .i64 x).wf = true) : Try.prog.keyLits (D + 1) 3 [.int .i64 x] = some [.int .i64 x] := by
  unfold Program.keyLits
  rw [int_und]
  simp [h]
theorem cell_lits (D : Nat) {x y : Int} (hx : (Lit.int .i64 x).wf = true) (hy : (Lit.int .i64 y).wf = true) : Try.prog.keyLits (D + 2) 90 [.int .i64 x, .int .i64 y] = some [.int .i64 x, .int .i64 y] := by
  have hs : (Try.prog.fieldsOf 90).size = 2 := by kernel_rfl
  have hl : (Try.prog.fieldsOf 90).toList = [(Try.prog.fieldsOf 90)[0], (Try.prog.fieldsOf 90)[1]] := by kernel_rfl
  have e1 : (Try.prog.fieldsOf 90)[0].type = 3 := by kernel_rfl
  have e2 : (Try.prog.fieldsOf 90)[0].offset = 0 := by kernel_rfl
  have e3 : (Try.prog.fieldsOf 90)[1].type = 3 := by kernel_rfl
  have e4 : (Try.prog.fieldsOf 90)[1].offset = 1 := by kernel_rfl
  have ea : (Try.prog.fieldsOf 90).all (·.name != "_") = true := by kernel_rfl
  have c2 : Try.prog.cellsOf 90 = 2 := by kernel_rfl
  have c1 : Try.prog.cellsOf 3 = 1 := by kernel_rfl
  unfold Program.keyLits
  rw [cell_und]
  simp only [ea, c2, hl]
  simp [e1, e2, e3, e4, c1, lits_int D hx, lits_int D hy]
theorem pair_lits (D : Nat) {x y : Int} (hx : (Lit.int .i64 x).wf = true) (hy : (Lit.int .i64 y).wf = true) : Try.prog.keyLits (D + 2) 84 [.int .i64 x, .int .i64 y] = some [.int .i64 x, .int .i64 y] := by
  have hs : (Try.prog.fieldsOf 84).size = 2 := by kernel_rfl
  have hl : (Try.prog.fieldsOf 84).toList = [(Try.prog.fieldsOf 84)[0], (Try.prog.fieldsOf 84)[1]] := by kernel_rfl
  have e1 : (Try.prog.fieldsOf 84)[0].type = 3 := by kernel_rfl
  have e2 : (Try.prog.fieldsOf 84)[0].offset = 0 := by kernel_rfl
  have e3 : (Try.prog.fieldsOf 84)[1].type = 3 := by kernel_rfl
  have e4 : (Try.prog.fieldsOf 84)[1].offset = 1 := by kernel_rfl
  have ea : (Try.prog.fieldsOf 84).all (·.name != "_") = true := by kernel_rfl
  have c2 : Try.prog.cellsOf 84 = 2 := by kernel_rfl
  have c1 : Try.prog.cellsOf 3 = 1 := by kernel_rfl
  unfold Program.keyLits
  rw [pair_und]
  simp only [ea, c2, hl]
  simp [e1, e2, e3, e4, c1, lits_int D hx, lits_int D hy]
theorem wf_of {x : Int} (h : -9223372036854775808 ≤ x ∧ x ≤ 9223372036854775807) : (Lit.int .i64 x).wf = true := WalkArith.wf_i64 h
theorem cell_key (x y : Int) (hx : -9223372036854775808 ≤ x ∧ x ≤ 9223372036854775807) (hy : -9223372036854775808 ≤ y ∧ y ≤ 9223372036854775807) : ∃ l, keyOf Try.prog 90 (.agg #[.int .i64 x, .int .i64 y]) = some l := by
  have hk : Try.prog.keyType 90 = true := by kernel_rfl
  have c2 : Try.prog.cellsOf 90 = 2 := by kernel_rfl
  have hs : Try.prog.types.size + 1 = (Try.prog.types.size - 1) + 2 := by kernel_rfl
  have hL := cell_lits (Try.prog.types.size - 1) (wf_of hx) (wf_of hy)
  rw [← hs] at hL
  unfold keyOf
  rw [cell_und]
  dsimp only
  have hf : Value.formed Try.prog 90 (.agg #[.int .i64 x, .int .i64 y]) = true := by
    unfold Value.formed
    rw [cell_und]
    simp [c2]
  rw [if_pos (by rw [hk, hf]; rfl)]
  exact ⟨_, by rw [show (Value.agg #[.int .i64 x, .int .i64 y]).cells.toList = [.int .i64 x, .int .i64 y] from rfl, hL]; rfl⟩
theorem pair_key (x y : Int) (hx : -9223372036854775808 ≤ x ∧ x ≤ 9223372036854775807) (hy : -9223372036854775808 ≤ y ∧ y ≤ 9223372036854775807) : ∃ l, keyOf Try.prog 84 (.agg #[.int .i64 x, .int .i64 y]) = some l := by
  have hk : Try.prog.keyType 84 = true := by kernel_rfl
  have c2 : Try.prog.cellsOf 84 = 2 := by kernel_rfl
  have hs : Try.prog.types.size + 1 = (Try.prog.types.size - 1) + 2 := by kernel_rfl
  have hL := pair_lits (Try.prog.types.size - 1) (wf_of hx) (wf_of hy)
  rw [← hs] at hL
  unfold keyOf
  rw [pair_und]
  dsimp only
  have hf : Value.formed Try.prog 84 (.agg #[.int .i64 x, .int .i64 y]) = true := by
    unfold Value.formed
    rw [pair_und]
    simp [c2]
  rw [if_pos (by rw [hk, hf]; rfl)]
  exact ⟨_, by rw [show (Value.agg #[.int .i64 x, .int .i64 y]).cells.toList = [.int .i64 x, .int .i64 y] from rfl, hL]; rfl⟩
theorem int_key (x : Int) (hx : -9223372036854775808 ≤ x ∧ x ≤ 9223372036854775807) : ∃ l, keyOf Try.prog 3 (.int .i64 x) = some l := ⟨_, Maps.keyOf_int_mk int_und (wf_of hx)⟩
/-! The picture. -/
def picF (c : Cut) (p : Pt) : Option Int := if isIn c p.1 p.2 = true then some (at2 c p.1 p.2) else none
abbrev PicAt (c : Cut) (b : Nat) (W : World) : Prop := MapIs Try.prog 90 kv2 vvI b (picF c) W
theorem picF_some {c : Cut} (p : Pt) : (picF c p).isSome = isIn c p.1 p.2 := by
  unfold picF
  by_cases h : isIn c p.1 p.2 = true
  · rw [if_pos h, h]; rfl
  · rw [if_neg h]; simp at h; rw [h]; rfl
theorem picF_val {c : Cut} (p : Pt) : (picF c p).getD (-1) = at2 c p.1 p.2 := by
  unfold picF
  by_cases h : isIn c p.1 p.2 = true
  · rw [if_pos h]; rfl
  · rw [if_neg h]
    unfold at2
    rw [if_neg h]; rfl
theorem PicAt.look {c : Cut} {b : Nat} {W : World} (h : PicAt c b W) (x y : Int) (hx : -9223372036854775808 ≤ x ∧ x ≤ 9223372036854775807) (hy : -9223372036854775808 ≤ y ∧ y ≤ 9223372036854775807) :
    (Instr.lookup 69 (.map (some b)) (.agg #[.int .i64 x, .int .i64 y]) false).run Try.prog W = .ok (.int .i64 ((picF c (x, y)).getD 0)) W ∧
    (Instr.lookup 69 (.map (some b)) (.agg #[.int .i64 x, .int .i64 y]) true).run Try.prog W = .ok (.tuple #[.int .i64 ((picF c (x, y)).getD 0), .bool (isIn c x y)]) W := by
  obtain ⟨l, hl⟩ := cell_key x y hx hy
  have := MapIs.look (p := ((x, y) : Pt)) h cell_keyed kv2_inj mapC_und zero_int hl
  rw [show ((picF c (x, y)).elim (vvI 0) vvI) = .int .i64 ((picF c (x, y)).getD 0) by cases picF c (x, y) <;> rfl, picF_some] at this
  exact this
end Go.Proofs.Ytjlicbdnppodgaa
