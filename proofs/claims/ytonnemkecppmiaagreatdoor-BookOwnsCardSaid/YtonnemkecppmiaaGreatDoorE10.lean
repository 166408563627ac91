/-
  The law BookOwns holds of the given program: for every input it returns true and leaves its arguments as they read. (no argument is changed, and what is returned is new.)
  Conditions: none beyond the card's own: the library's tables and errors read as the program's text lays them (tied), and one table is pinned by name.
-/
import Derived.Test.YtonnemkecppmiaaGreatDoorC10
import Derived.Test.YtonnemkecppmiaaGreatDoorDor
namespace Go.Proofs.YtonnemkecppmiaaGreatDoor
open Go.ChangeShapes Go.WideShapes Go.ChangeAt Go.RowKit Go.Deep
set_option maxRecDepth 100000 in
theorem bookOwns_lifted (os : Os) (started : os.Started) (H : Type) (enc : TypeId × Value → H) :
    ReturnsInHanded {} Tryz.checked os 10 .any (fun w args => (Rows.bookOwnsSpec.pre enc Tryz.prog Tryz.f10 [] false w args ∧ laidMetH Tryz.prog laidL w) ∧ sizedMet enc Tryz.prog Tryz.f10 (OpenSpec.ofChange Rows.bookOwnsSpec) false w args)
      (Rows.bookOwnsSpec.post enc Tryz.prog Tryz.f10 false true false false) := by
  refine returns_shaped (C := Tryz.checked) (X := fun w _ => laidMetH Tryz.prog laidL w) (fun _ _ _ hh h => h.of_heap hh) own started (by kernel_rfl) Tryz.func10
    (ChangeSpec.witness_shaped (enc := enc) (C := Tryz.checked) (os := os) (X := fun w _ => laidMetH Tryz.prog laidL w) false (doorW os) #[.agg #[.int .i64 0, .int .i64 0, .int .i64 0, .int .i64 0, .int .i64 0, .int .i64 0, .int .i64 0, .bool false, .slice none 0 0], .slice none 0 0, .slice none 0 0, .slice none 0 0] 8 rfl (World.shaped_of_RefB (by kernel_rfl) (by kernel_rfl)) (by kernel_rfl) (by kernel_rfl) (by kernel_rfl) (door_met os _)) ?_
  intro W base args ds gs before hval0 hW hL hS
  have hval : ∀ (j : Nat) t v, Tryz.f10.params[j]? = some t → args[j]? = some v → Value.okWide Tryz.prog W .any base t v := hval0
  have hW' := hW
  obtain ⟨p, q, hA0, hV, rfl, hfz, hnd⟩ := hW
  have hA : DataW.TrodAll enc Tryz.prog W 0 (fun _ => true) true Tryz.f10.params.toList args.toList ds p := hA0
  have hA1 := hA
  rw [Tryz.params10] at hA hval
  obtain ⟨v0, v1, v2, v3, d0, d1, d2, d3, p0, p1, p2, p3, rfl, rfl, rfl, h0, h1, h2, h3⟩ := trodAll_four hA
  obtain ⟨rfl, rfl⟩ := trodVars_none hV
  obtain ⟨m0, rfl, hp0⟩ := rd_puzzle (hval 0 28 v0 rfl rfl) h0
  obtain ⟨A1, c1, l1, rfl, hat1, hln1, hcp1⟩ := rd_pieces (hval 1 26 v1 rfl rfl) h1
  obtain ⟨A2, c2, l2, rfl, hat2, hln2, hcp2⟩ := rd_words (hval 2 44 v2 rfl rfl) h2
  obtain ⟨A3, c3, l3, rfl, hat3, hln3, hcp3⟩ := rd_bytes (hval 3 37 v3 rfl rfl) h3
  clear hA0 hval0
  rw [List.append_nil] at hW'
  refine (BookOwns_walk m0 A1 c1 l1 A2 c2 l2 A3 c3 l3 W (env_of_laid hL hS) hp0 hat1 hln1 hcp1 hat2 hln2 hcp2 hat3 hln3 hcp3).mono fun e W' ⟨he, hb⟩ => ?_
  subst he
  exact ⟨_, rfl, law_post rfl rfl ⟨rfl, rfl⟩ rfl (by kernel_rfl) hW' hA1 hb⟩
theorem bookOwns_holds : Rows.BookOwnsSaid :=
  OpenClaim.holds_of_wide 10 Tryz.f10 rfl rfl rfl rfl rfl rfl rfl ⟨rfl, rfl, rfl, rfl, rfl⟩ rfl rfl rfl rfl rfl (by kernel_rfl) Tryz.func10 (by kernel_rfl)
    (of_decide_eq_true (by kernel_rfl)) (by unfold Func.isWrapper; first | (rw [if_pos (by decide +kernel)]; kernel_rfl) | (rw [if_neg (by decide +kernel)]; exact ⟨rfl, rfl⟩))
    (fun os started H enc _ => bookOwns_lifted os started H enc)
theorem bookOwns_card : Rows.BookOwnsCardSaid :=
  Claim7.holds_tied_plain_at .later [] [.data, .data, .data, .data, .sentinel, .sentinel, .pinned] true (true, "058208d46cc7df450fcc5471ad478e984606957e63368a8e10843ab5d8763fb2") true
    bookOwns_holds (fun _ h => by cases h) (by kernel_rfl) (fun _ h => by cases h) bookOwns_row_tie rfl ⟨rfl, rfl⟩ (by kernel_rfl) rfl
    (fun f fn hf hfn => by
      obtain rfl : f = 10 := Option.some.inj ((show Tryz.prog.funcNamed "jigworks/jigworkslaw14.BookOwns" = some 10 by kernel_rfl).symm.trans hf) |>.symm
      obtain rfl : fn = Tryz.f10 := (Option.some.inj (Tryz.func10.symm.trans hfn)).symm
      exact ⟨by kernel_rfl, fun j t ht => by
        rw [Tryz.params10] at ht
        have hm : t ∈ [28, 26, 44, 37] := by simpa using Array.mem_of_getElem? ht
        have hall : ([28, 26, 44, 37].all fun u => !Tryz.prog.wantsStandIn u) = true := by kernel_rfl
        exact (show Tryz.prog.wantsStandIn t = false by simpa using List.all_eq_true.1 hall t hm)⟩)
    (by kernel_rfl)
#print axioms bookOwns_card
end Go.Proofs.YtonnemkecppmiaaGreatDoor
