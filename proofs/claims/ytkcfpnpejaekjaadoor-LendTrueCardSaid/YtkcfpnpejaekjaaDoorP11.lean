import Derived.Test.YtkcfpnpejaekjaaDoorP10
import Derived.Laws.IdiomCopy
namespace Go.Proofs.YtkcfpnpejaekjaaDoor
open Go.RowKit
/-! The program: Clone, without; a copy into an array. -/
theorem At.vblk {W : World} {g : Nat} {l : List Int} (h : VBlk W g l.length (fun j => .int .i64 (l.getD j 0))) : At W W.heap.size 1 icell (some ⟨g, 0, none⟩) l := fun k x hx => by
  have hk := (List.getElem?_eq_some_iff.1 hx).1
  refine ⟨g, 0, rfl, h.lt, fun j u hu => ?_⟩
  cases j with
  | zero =>
    have hu : some (Value.int .i64 x) = some u := hu
    injection hu with hu
    rw [Nat.zero_add, Nat.mul_one, Nat.add_zero, h.cell k hk, ← hu, List.getD_eq_getElem?_getD, hx]; rfl
  | succ j => simp [icell] at hu
theorem ncell_len (x : Nat) : (ncell x).length = 1 := rfl
theorem icell_len (x : Int) : (icell x).length = 1 := rfl
/-- A new slice of ints, in a block of its own. -/
def RetC (l : List Int) (w : World) (e : Ending) (w' : World) : Prop := ∃ g c, e = .returned (.slice (some ⟨g, 0, none⟩) l.length c) ∧ l.length ≤ c ∧ w.heap.size ≤ g ∧ VBlk w' g l.length (fun j => .int .i64 (l.getD j 0)) ∧ Below w.heap.size w w'
theorem own_vblk {w : World} {base : Nat} {e : TypeId} {v : Value} {l : List Int} (hn : 0 < l.length) (h : w.ownsRow base e 1 v l.length (l.flatMap icell)) :
    ∃ g c, v = .slice (some ⟨g, 0, none⟩) l.length c ∧ l.length ≤ c ∧ base ≤ g ∧ VBlk w g l.length (fun j => .int .i64 (l.getD j 0)) := by
  obtain ⟨g, cap, rfl, hb, hlt⟩ := h.form hn
  have hf : ∀ l : List Int, l.flatMap icell = l.map fun x => Value.int .i64 x := fun l => by
    induction l with
    | nil => rfl
    | cons x l ih => rw [List.flatMap_cons, ih]; rfl
  rcases h.2 with ⟨e1, _⟩ | ⟨g', cap', cur, e1, _, hh, hnc, _⟩
  · cases e1
  · injection e1 with e1 _ e2
    injection e1 with e1
    injection e1 with e1
    subst e1 e2
    refine ⟨g, cap, rfl, hnc, hb, hlt, fun j hj => ?_, fun j => h.frozenAt j⟩
    rw [h.cellAt j (by omega), hf, List.getElem?_map, List.getElem?_eq_getElem hj, List.getD_eq_getElem?_getD, List.getElem?_eq_getElem hj]; rfl
theorem flat_icell (l : List Int) : l.flatMap icell = l.map fun x => Value.int .i64 x := by
  induction l with
  | nil => rfl
  | cons x l ih => rw [List.flatMap_cons, ih]; rfl
set_option maxRecDepth 100000 in
set_option maxHeartbeats 400000 in
theorem clone_any (b off c : Nat) (l : List Int) (w : World) (h0 : 0 < l.length) (hl : l.length ≤ 1000) (h : At w w.heap.size 1 icell (some ⟨b, off, none⟩) l) : Calls Tryd.prog 47 #[.slice (some ⟨b, off, none⟩) l.length c] w (RetC l w) := by
  obtain ⟨i0, hi, hz0, hz1, hz2⟩ := info_parts int_info
  have hnil := fun W => Lib.run_eql_slice_nil (P := Tryd.prog) W 24 3 (some ⟨b, off, none⟩) l.length c 0 0 Tryd.underlying24
  have hown := World.ownsRow_lit (base := w.heap.size) (e := 3) (size := 1) w #[] 0 (Nat.le_refl _) (by decide) rfl
  have hnews : ∀ j u, (l.flatMap icell)[j]? = some u → (w.alloc (.cells #[] 3)).cell? ((⟨b, off, none⟩ : Addr).add j) = some u := (h.below (nxA w (.cells #[] 3))).news icell_len
  have hlen : (l.flatMap icell).length = l.length * 1 := by rw [flat_icell]; simp
  have hone : ∀ u ∈ l.flatMap icell, u.oneCell' = true := by rw [flat_icell]; simp [Value.oneCell']
  clear h
  go_enter Tryd.func47, Tryd.ntmps47
  go_wp2_with (at_builtin; refine wpList_append_own _ rfl (.tmp 5) (.tmp 6) 24 rfl w.heap.size 3 i0 (.int .i64 0) 1 8 Tryd.underlying24 hi hz0 hz1 hz2 rfl (by decide) _ 0 [] rfl hown ⟨b, off, none⟩ l.length c (l.flatMap icell) rfl hlen hnews hone (by unfold maxLen; omega) (by omega) (by simp) ?_; intro v' w' hown' hgrow _)
  have hown2 : w'.ownsRow w.heap.size 3 1 v' l.length (l.flatMap icell) := by simpa using hown'
  have hbb : Below w.heap.size w w' := ((Below.refl _ _).alloc (Nat.le_refl _) _).grown hgrow (by simp) (fun k hk => by have := hown.lt k hk; omega)
  clear hown hown' hgrow hnews hnil hlen hone
  go_wp2
  go_ret
  obtain ⟨g, c', rfl, h1, h2, h3⟩ := own_vblk h0 hown2
  exact ⟨g, c', rfl, h1, h2, h3, hbb⟩
theorem nat_one {l : List Nat} : ∀ u ∈ l.flatMap ncell, u.oneCell' = true := fun u hu => by
  obtain ⟨x, -, h⟩ := List.mem_flatMap.1 hu
  unfold ncell at h
  rw [List.mem_singleton] at h
  rw [h]; rfl
def RetWo (l : List Nat) (i : Nat) (w : World) (e : Ending) (w' : World) : Prop := ∃ A c, e = .returned (.slice A (l.take i ++ l.drop (i + 1)).length c) ∧ At w' w'.heap.size 1 ncell A (l.take i ++ l.drop (i + 1)) ∧ Below w.heap.size w w' ∧ ∀ a, A = some a → w.heap.size ≤ a.block
set_option maxRecDepth 100000 in
set_option maxHeartbeats 1000000 in
theorem without_any (b off c : Nat) (l : List Nat) (i : Nat) (w : World) (hi : i < l.length) (hlc : l.length ≤ c) (hc : c ≤ 1000) (h : At w w.heap.size 1 ncell (some ⟨b, off, none⟩) l) : Calls Tryd.prog 63 #[.slice (some ⟨b, off, none⟩) l.length c, .int .i64 i] w (RetWo l i w) := by
  obtain ⟨i0, hi0, hz0, hz1, hz2⟩ := info_parts int_info
  obtain ⟨ad, had⟩ : ∃ ad : Addr, (if c = i + 1 then some (⟨b, off, none⟩ : Addr) else some ⟨b, off + (i + 1), none⟩) = some ad := by split <;> exact ⟨_, rfl⟩
  have hs1 : ∀ j u, ((l.take i).flatMap ncell)[j]? = some u → ∀ W : World, Below w.heap.size w W → W.cell? ((⟨b, off, none⟩ : Addr).add j) = some u := fun j u hu W hb => by
    have hp : At W w.heap.size 1 ncell (some ⟨b, off, none⟩) (l.take i) := (h.below hb).pre' (List.take_append_drop i l).symm
    exact hp.news ncell_len j u hu
  have hs2 : ∀ j u, ((l.drop (i + 1)).flatMap ncell)[j]? = some u → ∀ W : World, Below w.heap.size w W → W.cell? (ad.add j) = some u := fun j u hu W hb => by
    by_cases e : c = i + 1
    · have e2 : l.drop (i + 1) = [] := List.drop_eq_nil_of_le (by omega)
      rw [e2] at hu
      simp at hu
    · rw [if_neg e] at had
      injection had with had
      subst had
      have := (h.below hb).drop (i + 1)
      rw [Nat.mul_one] at this
      exact this.news ncell_len j u hu
  have l1 : (l.take i).length = i := by rw [List.length_take]; omega
  have l2 : (l.drop (i + 1)).length = l.length - (i + 1) := List.length_drop
  have L1 := Lib.hid (show ((l.take i).flatMap ncell).length = i * 1 from by rw [flat_len ncell_len, l1])
  have L2 := Lib.hid (show ((l.drop (i + 1)).flatMap ncell).length = (l.length - (i + 1)) * 1 from by rw [flat_len ncell_len, l2])
  have HS1 := Lib.hid hs1
  have HS2 := Lib.hid hs2
  have hlb : (l.take i ++ l.drop (i + 1)).length = i + (l.length - (i + 1)) := by rw [List.length_append, l1, l2]
  have HLB := Lib.hid hlb
  have hic : i ≤ c := by omega
  have hI1 : i + 1 ≤ l.length := by omega
  have hI2 : i + 1 ≤ c := by omega
  have hI5 : 0 ≤ (i : Int) + 1 := by omega
  have hI6 : (i : Int) + 1 ≤ (l.length : Int) := by omega
  have hw1 : IntKind.i64.wrap ((i : Int) + 1) = ((i + 1 : Nat) : Int) := by rw [IntKind.wrap_i64]; omega
  clear hs1 hs2 l1 l2 hlb h
  go_enter Tryd.func63, Tryd.ntmps63
  go_upto_region 1 with fail
  have hc : Below w.heap.size w w.drew := (Below.refl _ _).drew
  refine wp_region_noPanic ?_
  refine wp_region_held_drew (S := (fun W => True)) (by kernel_rfl) ?_ (fun hHeld => ?_)
  · (try dsimp only); try trivial
  refine htake (i := 1) (v := ?v1) rfl (by kernel_rfl) (by kernel_rfl) (by kernel_rfl) (fun _ _ _ h => h) (Or.inl ⟨by rfl, ?hy1⟩) (by assumption) ?_
  case hy1 => (intro w hSw; (try dsimp only at hSw); go_simp; try (with_reducible rfl))
  try simp only [Act.put, List.setIfInBounds_toArray, List.set_cons_zero, List.set_cons_succ]
  refine htake (i := 2) (v := ?v2) rfl (by kernel_rfl) (by kernel_rfl) (by kernel_rfl) (fun _ _ _ h => h) (Or.inl ⟨by rfl, ?hy2⟩) (by assumption) ?_
  case hy2 => (intro w hSw; (try dsimp only at hSw); go_simp; try (with_reducible rfl))
  try simp only [Act.put, List.setIfInBounds_toArray, List.set_cons_zero, List.set_cons_succ]
  refine htake (i := 3) (v := ?v3) rfl (by kernel_rfl) (by kernel_rfl) (by kernel_rfl) (fun _ _ _ h => h) (Or.inl ⟨by rfl, ?hy3⟩) (by assumption) ?_
  case hy3 => (intro w hSw; (try dsimp only at hSw); go_simp; try (with_reducible rfl))
  try simp only [Act.put, List.setIfInBounds_toArray, List.set_cons_zero, List.set_cons_succ]
  refine htake (i := 5) (v := ?v4) rfl (by kernel_rfl) (by kernel_rfl) (by kernel_rfl) (fun _ _ _ h => h) (Or.inl ⟨by rfl, ?hy4⟩) (by assumption) ?_
  case hy4 => (intro w hSw; (try dsimp only at hSw); go_simp; try (with_reducible rfl))
  try simp only [Act.put, List.setIfInBounds_toArray, List.set_cons_zero, List.set_cons_succ]
  refine htake (i := 6) (v := ?v5) rfl (by kernel_rfl) (by kernel_rfl) (by kernel_rfl) (fun _ _ _ h => h) (Or.inl ⟨by rfl, ?hy5⟩) (by assumption) ?_
  case hy5 => (intro w hSw; (try dsimp only at hSw); go_simp; try (with_reducible rfl))
  try simp only [Act.put, List.setIfInBounds_toArray, List.set_cons_zero, List.set_cons_succ]
  refine htake (i := 7) (v := ?v6) rfl (by kernel_rfl) (by kernel_rfl) (by kernel_rfl) (fun _ _ _ h => h) (Or.inl ⟨by rfl, ?hy6⟩) (by assumption) ?_
  case hy6 => (intro w hSw; (try dsimp only at hSw); go_simp; try (with_reducible rfl))
  try simp only [Act.put, List.setIfInBounds_toArray, List.set_cons_zero, List.set_cons_succ]
  refine htake (i := 8) (v := ?v7) rfl (by kernel_rfl) (by kernel_rfl) (by kernel_rfl) (fun _ _ _ h => h) (Or.inl ⟨by rfl, ?hy7⟩) (by assumption) ?_
  case hy7 => (intro w hSw; (try dsimp only at hSw); go_simp; try (with_reducible rfl))
  try simp only [Act.put, List.setIfInBounds_toArray, List.set_cons_zero, List.set_cons_succ]
  refine wpAnyH_ready (rs := [0]) (by kernel_rfl) (by simp) ?_
  refine hcons rfl (fun K hK => ?_) (AllReadyH.nil)
  go_simp
  have h16 := heap_alloc_new w (.cells #[] 3); replace hc := hc.alloc hc.size (.cells #[] 3)
  refine hK.out _ _ ?_ (fun hHeld => ?_)
  · (try dsimp only); try trivial
  clear hK K
  try simp only [Act.put, List.setIfInBounds_toArray, List.set_cons_zero, List.set_cons_succ]
  refine wpAnyH_ready (rs := [4]) (by kernel_rfl) (by simp) ?_
  refine hcons rfl (fun K hK => ?_) (AllReadyH.nil)
  refine step_append_any rfl (.tmp 5) (.tmp 8) 24 rfl w.heap.size 3 i0 (.int .i64 0) 1 8 Tryd.underlying24 hi0 hz0 hz1 hz2 rfl (by decide) _ 0 [] rfl (own_empty h16 (Nat.le_refl _)) ⟨b, off, none⟩ i c ((l.take i).flatMap ncell) rfl L1.out (fun j u hu => HS1.out j u hu _ hc) nat_one (by unfold maxLen; omega) (by omega) hc.size ?_; intro v5 w5 ho5 hg5; replace hc := grown_from hc hg5 hc.size (fun g e => by injection e with e; subst e; exact Nat.le_refl _)
  refine hK.out _ _ ?_ (fun hHeld => ?_)
  · (try dsimp only); try trivial
  clear hK K
  try simp only [Act.put, List.setIfInBounds_toArray, List.set_cons_zero, List.set_cons_succ]
  refine wpAnyH_ready (rs := [9]) (by kernel_rfl) (by simp) ?_
  refine hcons rfl (fun K hK => ?_) (AllReadyH.nil)
  refine step_append_any rfl (.tmp 9) (.tmp 13) 24 rfl w.heap.size 3 i0 (.int .i64 0) 1 8 Tryd.underlying24 hi0 hz0 hz1 hz2 rfl (by decide) v5 (0 + i) ([] ++ (l.take i).flatMap ncell) rfl ho5 ad (l.length - (i + 1)) (c - (i + 1)) ((l.drop (i + 1)).flatMap ncell) rfl L2.out (fun j u hu => HS2.out j u hu _ hc) nat_one (by unfold maxLen; omega) (by omega) hc.size ?_; intro v6 w6 ho6 hg6; replace hc := grown_from hc hg6 hc.size (fun g e => (ho5.lt g e).1)
  refine hK.out _ _ ?_ (fun hHeld => ?_)
  · (try dsimp only); try trivial
  clear hK K
  try simp only [Act.put, List.setIfInBounds_toArray, List.set_cons_zero, List.set_cons_succ]
  refine htake (i := 10) (v := ?v8) rfl (by kernel_rfl) (by kernel_rfl) (by kernel_rfl) (fun _ _ _ h => h) (Or.inl ⟨by rfl, ?hy8⟩) (by assumption) ?_
  case hy8 => (intro w hSw; (try dsimp only at hSw); go_simp; try (with_reducible rfl))
  try simp only [Act.put, List.setIfInBounds_toArray, List.set_cons_zero, List.set_cons_succ]
  refine wpAnyH_done (by kernel_rfl) ?_ _
  refine NoPanic.normal ?_
  iterate 12 (try clear hHeld)
  have ho7 : w6.ownsRow w.heap.size 3 1 v6 (l.take i ++ l.drop (i + 1)).length ((l.take i ++ l.drop (i + 1)).flatMap ncell) := by
    rw [HLB.out, List.flatMap_append]
    rw [Nat.zero_add, List.nil_append] at ho6
    exact ho6
  have HO := Lib.hid ho7
  have HC := Lib.hid hc
  clear ho6 hg6 ho5 hg5 h16 hc ho7 had hw1 hI1 hI2 hI5 hI6 hic HS1 HS2 L1 L2
  go_wp2_with fail
  go_ret
  obtain ⟨A, c', rfl, ha⟩ := own_at (size := 1) ncell_len (by omega) HO.out
  exact ⟨A, c', rfl, ha, HC.out, fun a e => (HO.out.lt a.block (by rw [e]; rfl)).1⟩
theorem At.off {α : Type} {W : World} {B size : Nat} {cells : α → List Value} {A : Option Addr} {l : List α} (h : At W B size cells A l) {b : Nat} (hne : ∀ a, A = some a → a.block ≠ b) (o : Nat) (vs : List Value) : At (W.setCells b o vs) B size cells A l := fun k x hx => by
  obtain ⟨b', off, e, hb, hc⟩ := h k x hx
  refine ⟨b', off, e, hb, fun j u hu => ?_⟩
  rw [wset_eq, setCells_other b vs o W b' _ (hne _ e)]
  exact hc j u hu
theorem wpList_copy_at {P : Program} {w : World} {ops : Array Oper} {rest : List Oper} {o : Oper} {a : Act} {Q : Exit → Act → World → Prop} (hgd : o.guard = none) (d s : Operand) (dT sT : TypeId)
    (ho : o.op = .call { callee := .builtin .copy, args := #[d, s], argTypes := #[dT, sT] }) (elem : TypeId) (hu : P.underlying dT = some (.slice elem)) (hsz : (P.info? elem).map (·.size) = some 1)
    (b off dLen dCap : Nat) (A : Option Addr) (l : List Nat) (c B : Nat) (hat : At w B 1 ncell A l) (hd : a.eval d = .slice (some ⟨b, off, none⟩) dLen dCap) (hs : a.eval s = .slice A l.length c) (hle : l.length ≤ dLen)
    (hc : ∀ j, j < l.length → (w.cell? ⟨b, off + j, none⟩).isSome = true) (hf : ∀ j, j < l.length → w.frozen? ⟨b, off + j, none⟩ = false)
    (h : wpList P ops Q rest (a.put o.dst (goInt l.length)) (w.setCells b off (l.flatMap ncell))) : wpList P ops Q (o :: rest) a w := by
  have hlen : (l.flatMap ncell).length = l.length := by rw [flat_len ncell_len, Nat.mul_one]
  refine wpList_plain hgd fun K hK => ?_
  have hrun : (Builtin.copy_ #[dT, sT] o.type #[.slice (some ⟨b, off, none⟩) dLen dCap, .slice A l.length c]).run P w = .ok (goInt l.length) (w.setCells b off (l.flatMap ncell)) := by
    rcases at_split ncell_len hat with ⟨rfl, rfl⟩ | ⟨ad, rfl, hcell⟩
    · exact run_copy_none (P := P) w dT sT o.type elem _ _ dLen dCap 0 c hu hsz (Nat.min_eq_left (Nat.zero_le _))
    · have := run_copy_cells (P := P) w dT sT o.type elem b off dLen dCap ad l.length c (l.flatMap ncell) hu hsz (by rw [hlen]; exact (Nat.min_eq_left hle).symm) (hcell w B hat) (fun j hj => hc j (by omega)) (fun j hj => hf j (by omega)) nat_one
      rw [hlen] at this
      exact this
  unfold Oper.wp
  simp [execOp, ho, resolve, invoke, builtin, hd, hs, hrun, Result.andThen]
  exact hK _ _ h
end Go.Proofs.YtkcfpnpejaekjaaDoor
