/-
  The law RuleMore holds of the given program: for every input it returns true and leaves its arguments as they read. (with narrower spans, a greater Bound or More, or fewer Strokes, the best plan is still good.)
  Conditions: none beyond the card's own: the two tables of math/bits read as the program's text lays them (tied).
-/
import Derived.Test.YtbhkglokdomajaaDoorC6
import Derived.Test.YtbhkglokdomajaaDoorD1
import Derived.Test.YtbhkglokdomajaaDoorE0
import Derived.Test.YtbhkglokdomajaaDoorD3
namespace Go.Proofs.YtbhkglokdomajaaDoor
open Go.ChangeShapes Go.WideShapes Go.ChangeAt Go.RowKit Go.Deep
set_option maxRecDepth 100000 in
theorem ruleMore_lifted (os : Os) (started : os.Started) (H : Type) (enc : TypeId × Value → H) :
    ReturnsInHanded {} Tryd.checked os 10 .any (fun w args => (Rows.ruleMoreSpec.pre enc Tryd.prog Tryd.f10 [] false w args ∧ laidMetH Tryd.prog laidL w) ∧ sizedMet enc Tryd.prog Tryd.f10 (OpenSpec.ofChange Rows.ruleMoreSpec) false w args)
      (Rows.ruleMoreSpec.post enc Tryd.prog Tryd.f10 false true false false) := by
  refine returnsInHanded_of_change_and (C := Tryd.checked) (X := fun w _ => laidMetH Tryd.prog laidL w) (fun _ _ _ hh h => h.of_heap hh) own started (by kernel_rfl) Tryd.func10
    (ChangeSpec.witness_shaped (enc := enc) (C := Tryd.checked) (os := os) (X := fun w _ => laidMetH Tryd.prog laidL w) false (World.doorLaid Tryd.prog 400 os) #[.agg #[.slice none 0 0, .int .i64 0, .int .i64 0, .int .i64 0], .slice none 0 0, .int .u8 0, .int .u8 0] 8 rfl (World.shaped_of_RefB (by kernel_rfl) (by kernel_rfl)) (by kernel_rfl) (by kernel_rfl) (by kernel_rfl) (door_met os _)) ?_
  intro W base args ds gs before hval0 hW _ _ hL _
  have hval : ∀ (j : Nat) t v, Tryd.f10.params[j]? = some t → args[j]? = some v → Value.okWide Tryd.prog W .any base t v := hval0
  have hW' := hW
  obtain ⟨p, q, hA0, hV, rfl, hfz, hnd⟩ := hW
  have hA : DataW.TrodAll enc Tryd.prog W 0 (fun _ => true) true Tryd.f10.params.toList args.toList ds p := hA0
  have hA1 := hA
  rw [Tryd.params10] at hA hval
  obtain ⟨v0, v1, v2, v3, d0, d1, d2, d3, p0, p1, p2, p3, rfl, rfl, rfl, h0, h1, h2, h3⟩ := trodAll_four hA
  obtain ⟨rfl, rfl⟩ := trodVars_none hV
  obtain ⟨d, rfl, hdie⟩ := rd_die (hval 0 24 v0 rfl rfl) h0
  obtain ⟨A1, c1, l1, rfl, hat1, hln1⟩ := rd_stints (hval 1 33 v1 rfl rfl) h1
  obtain ⟨x2, rfl, rfl, rfl, wf2⟩ := open_int u5 (hval 2 5 v2 rfl rfl) h2
  obtain ⟨x3, rfl, rfl, rfl, wf3⟩ := open_int u5 (hval 3 5 v3 rfl rfl) h3
  clear hA0 hval0
  rw [List.append_nil] at hW'
  refine (RuleMore_walk d A1 c1 l1 x2 x3 W hdie hat1 hln1 wf2 wf3 (env_of_laid hL)).mono fun e W' ⟨he, hb⟩ => ?_
  subst he
  exact ⟨_, rfl, law_post rfl rfl ⟨rfl, rfl⟩ rfl (by kernel_rfl) hW' hA1 hb⟩
theorem ruleMore_holds : Rows.RuleMoreSaid :=
  OpenClaim.holds_of_wide 10 Tryd.f10 rfl rfl rfl rfl rfl rfl rfl ⟨rfl, rfl, rfl, rfl, rfl⟩ rfl rfl rfl rfl rfl (by kernel_rfl) Tryd.func10 (by kernel_rfl)
    (of_decide_eq_true (by kernel_rfl)) (by unfold Func.isWrapper; first | (rw [if_pos (by decide +kernel)]; kernel_rfl) | (rw [if_neg (by decide +kernel)]; exact ⟨rfl, rfl⟩))
    (fun os started H enc _ => ruleMore_lifted os started H enc)
theorem ruleMore_card : Rows.RuleMoreCardSaid :=
  Claim7.holds_tied_plain_at .later [] [.data, .data] true (true, "771e22ddc0e741a00ffcd4cfe8e22d0324d377f5006edc475bc7924e61d59d40") false
    ruleMore_holds (fun _ h => by cases h) (by kernel_rfl) (fun _ h => by cases h) ruleMore_row_tie rfl ⟨rfl, rfl⟩ (by kernel_rfl) rfl
    (fun f fn hf hfn => by
      obtain rfl : f = 10 := Option.some.inj ((show Tryd.prog.funcNamed "jigworks/jigworkslaw04.RuleMore" = some 10 by kernel_rfl).symm.trans hf) |>.symm
      obtain rfl : fn = Tryd.f10 := (Option.some.inj (Tryd.func10.symm.trans hfn)).symm
      exact ⟨by kernel_rfl, fun j t ht => by
        rw [Tryd.params10] at ht
        have hm : t ∈ [24, 33, 5, 5] := by simpa using Array.mem_of_getElem? ht
        have hall : ([24, 33, 5, 5].all fun u => !Tryd.prog.wantsStandIn u) = true := by kernel_rfl
        exact (show Tryd.prog.wantsStandIn t = false by simpa using List.all_eq_true.1 hall t hm)⟩)
    (by kernel_rfl)
#print axioms ruleMore_card
end Go.Proofs.YtbhkglokdomajaaDoor
