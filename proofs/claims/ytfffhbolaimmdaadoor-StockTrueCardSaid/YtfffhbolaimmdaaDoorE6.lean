/-
  The law StockTrue holds of the given program: for every input it returns true and leaves its arguments as they read. (whatever was true, what lacks and the profit are within their spans.)
  Conditions: none beyond the card's own: the two tables of math/bits read as the program's text lays them (tied).
-/
import Derived.Test.YtfffhbolaimmdaaDoorG2
import Derived.Test.YtfffhbolaimmdaaDoorE0
import Derived.Deep.Slices
namespace Go.Proofs.YtfffhbolaimmdaaDoor
open Go.ChangeShapes Go.WideShapes Go.ChangeAt Go.RowKit Go.Deep
/-! A slice of uint32 that came in as an argument. -/
section
variable {H : Type} {enc : TypeId × Value → H} {w : World}
theorem u55 : Tryd.prog.underlying 55 = some (.int .u32) := by kernel_rfl
theorem k55 : Tryd.prog.cellsOf 55 = 1 := by kernel_rfl
theorem s51 : Tryd.prog.underlying 51 = some (.slice 55) := by kernel_rfl
set_option maxRecDepth 100000 in
theorem rd_u32s {b : Nat} {v : Value} {d : DataW H} {ps : List MemPlace} (hv : Value.okWide Tryd.prog w .any b 51 v) (h : DataW.Trod enc Tryd.prog w 0 (fun _ => true) true 51 v d ps) :
    ∃ (A : Option Addr) (c : Nat) (l : List Int), v = .slice A l.length c ∧ At w w.heap.size 1 ucell A l ∧ l.length ≤ 9223372036854775807 ∧ ∀ x ∈ l, 0 ≤ x ∧ x < 4294967296 := by
  obtain ⟨a, len, cap, rfl⟩ := okWide_slice s51 hv
  obtain ⟨fuel, hf⟩ := h
  obtain ⟨A, c, l, e, h1, h2, h3⟩ := rd_slice (α := Int) (size := 1) (cells := ucell) (Good := fun x => 0 ≤ x ∧ x < 4294967296) s51 k55 (by omega) (fun m cs' h' => by
    obtain ⟨y, hy⟩ := h'
    obtain ⟨k, e, -, hw⟩ := DataW.trod_int u55 hy
    refine ⟨k, e, ?_⟩
    simp [Lit.wf, IntKind.min, IntKind.max, IntKind.bits, IntKind.signed] at hw
    omega) (⟨_, hf⟩ : Rd enc w fuel 51 [.slice a len cap])
  injection e with e
  rw [e]
  exact ⟨A, c, l, rfl, h1, h2, h3⟩
end
set_option maxRecDepth 100000 in
theorem stockTrue_lifted (os : Os) (started : os.Started) (H : Type) (enc : TypeId × Value → H) :
    ReturnsInHanded {} Tryd.checked os 6 .any (fun w args => (Rows.stockTrueSpec.pre enc Tryd.prog Tryd.f6 [] false w args ∧ laidMetH Tryd.prog laidL w) ∧ sizedMet enc Tryd.prog Tryd.f6 (OpenSpec.ofChange Rows.stockTrueSpec) false w args)
      (Rows.stockTrueSpec.post enc Tryd.prog Tryd.f6 false true false false) := by
  refine returnsInHanded_of_change_and (C := Tryd.checked) (X := fun w _ => laidMetH Tryd.prog laidL w) (fun _ _ _ hh h => h.of_heap hh) own started (by kernel_rfl) Tryd.func6
    (ChangeSpec.witness_shaped (enc := enc) (C := Tryd.checked) (os := os) (X := fun w _ => laidMetH Tryd.prog laidL w) false (World.doorLaid Tryd.prog 400 os) #[.agg #[.slice none 0 0, .slice none 0 0, .slice none 0 0, .slice none 0 0], .int .i64 0, .slice none 0 0] 8 rfl (World.shaped_of_RefB (by kernel_rfl) (by kernel_rfl)) (by kernel_rfl) (by kernel_rfl) (by kernel_rfl) (door_met os _)) ?_
  intro W base args ds gs before hval0 hW _ _ hL _
  have hval : ∀ (j : Nat) t v, Tryd.f6.params[j]? = some t → args[j]? = some v → Value.okWide Tryd.prog W .any base t v := hval0
  have hW' := hW
  obtain ⟨p, q, hA0, hV, rfl, hfz, hnd⟩ := hW
  have hA : DataW.TrodAll enc Tryd.prog W 0 (fun _ => true) true Tryd.f6.params.toList args.toList ds p := hA0
  have hA1 := hA
  rw [Tryd.params6] at hA hval
  obtain ⟨v0, v1, v2, d0, d1, d2, p0, p1, p2, rfl, rfl, rfl, h0, h1, h2⟩ := trodAll_three hA
  obtain ⟨rfl, rfl⟩ := trodVars_none hV
  obtain ⟨s, rfl, hst⟩ := rd_store (hval 0 27 v0 rfl rfl) h0
  obtain ⟨st, rfl, rfl, rfl, -⟩ := open_int u3 (hval 1 3 v1 rfl rfl) h1
  obtain ⟨A2, c2, l2, rfl, hat2, hln2, hlw2⟩ := rd_u32s (hval 2 51 v2 rfl rfl) h2
  clear hA0 hval0
  rw [List.append_nil] at hW'
  refine (StockTrue_walk s st A2 c2 l2 W hst (env_of_laid hL) hat2 hln2 hlw2).mono fun e W' ⟨he, hb⟩ => ?_
  subst he
  exact ⟨_, rfl, law_post rfl rfl ⟨rfl, rfl⟩ rfl (by kernel_rfl) hW' hA1 hb⟩
theorem stockTrue_holds : Rows.StockTrueSaid :=
  OpenClaim.holds_of_wide 6 Tryd.f6 rfl rfl rfl rfl rfl rfl rfl ⟨rfl, rfl, rfl, rfl, rfl⟩ rfl rfl rfl rfl rfl (by kernel_rfl) Tryd.func6 (by kernel_rfl)
    (of_decide_eq_true (by kernel_rfl)) (by unfold Func.isWrapper; first | (rw [if_pos (by decide +kernel)]; kernel_rfl) | (rw [if_neg (by decide +kernel)]; exact ⟨rfl, rfl⟩))
    (fun os started H enc _ => stockTrue_lifted os started H enc)
theorem stockTrue_card : Rows.StockTrueCardSaid :=
  Claim7.holds_tied_plain_at .later [] [.data, .data] true (true, "92143ec73c6be41e539ce9d1835bdbc62ce78d9d20b6ecb10f194f18b3d9fb91") false
    stockTrue_holds (fun _ h => by cases h) (by kernel_rfl) (fun _ h => by cases h) stockTrue_row_tie rfl ⟨rfl, rfl⟩ (by kernel_rfl) rfl
    (fun f fn hf hfn => by
      obtain rfl : f = 6 := Option.some.inj ((show Tryd.prog.funcNamed "jigworks/jigworkslaw13.StockTrue" = some 6 by kernel_rfl).symm.trans hf) |>.symm
      obtain rfl : fn = Tryd.f6 := (Option.some.inj (Tryd.func6.symm.trans hfn)).symm
      exact ⟨by kernel_rfl, fun j t ht => by
        rw [Tryd.params6] at ht
        have hm : t ∈ [27, 3, 51] := by simpa using Array.mem_of_getElem? ht
        have hall : ([27, 3, 51].all fun u => !Tryd.prog.wantsStandIn u) = true := by kernel_rfl
        exact (show Tryd.prog.wantsStandIn t = false by simpa using List.all_eq_true.1 hall t hm)⟩)
    (by kernel_rfl)
#print axioms stockTrue_card
end Go.Proofs.YtfffhbolaimmdaaDoor
