/-
  DERIVED. GIVEN WITH THE SEED: THE CARDS: each row of YtbhkglokdomajaaDoorRows.lean that lists a variable, with what it lists TIED to the program's text (the seventh form; the later family's looks); each row that meets fmt, with fmt's text TOLD by the authors' own Lean function (tested against real Go, not proved from fmt's source: count such statements apart). THE CARD IS WHAT COUNTS. Prove the row's statement (the work); the ties are given (YtbhkglokdomajaaDoorTie.lean); close each card by the builder's one call (the guide's Derived/Test/ToyasCard.lean, 'card_holds'). Laid BY PROGRAM, IN A SANDBOX (cutbox-door.mjs). By AI agents, Wed Nov 11 2026. No macro, syntax, notation, axiom, sorry.
-/
import Derived.Test.YtbhkglokdomajaaDoorRows
import GoSem.ClaimSeven
namespace Go.Proofs.YtbhkglokdomajaaDoor
namespace Rows

/-- THE TIED CARD OF 'jigworkslaw04.RuleOffs'. -/
def ruleOffsCard : Claim7 := { stood := { row := ruleOffsRow, standIns := [], harness := (true, "771e22ddc0e741a00ffcd4cfe8e22d0324d377f5006edc475bc7924e61d59d40"), looks := false }, kinds := [], alts := [], laidByText := true, laidKinds := [.data, .data], laidTests := true, laidLooks := .later }
def RuleOffsCardSaid : Prop := Claim7.holds Tryd.pinned (.plain (OpenSpec.ofChange ruleOffsSpec)) ruleOffsCard

/-- THE TIED CARD OF 'jigworkslaw04.RulePlans'. -/
def rulePlansCard : Claim7 := { stood := { row := rulePlansRow, standIns := [], harness := (true, "771e22ddc0e741a00ffcd4cfe8e22d0324d377f5006edc475bc7924e61d59d40"), looks := false }, kinds := [], alts := [], laidByText := true, laidKinds := [.data, .data], laidTests := true, laidLooks := .later }
def RulePlansCardSaid : Prop := Claim7.holds Tryd.pinned (.plain (OpenSpec.ofChange rulePlansSpec)) rulePlansCard

/-- THE TIED CARD OF 'jigworkslaw04.RuleBests'. -/
def ruleBestsCard : Claim7 := { stood := { row := ruleBestsRow, standIns := [], harness := (true, "771e22ddc0e741a00ffcd4cfe8e22d0324d377f5006edc475bc7924e61d59d40"), looks := false }, kinds := [], alts := [], laidByText := true, laidKinds := [.data, .data], laidTests := true, laidLooks := .later }
def RuleBestsCardSaid : Prop := Claim7.holds Tryd.pinned (.plain (OpenSpec.ofChange ruleBestsSpec)) ruleBestsCard

/-- THE TIED CARD OF 'jigworkslaw04.RuleTrue'. -/
def ruleTrueCard : Claim7 := { stood := { row := ruleTrueRow, standIns := [], harness := (true, "771e22ddc0e741a00ffcd4cfe8e22d0324d377f5006edc475bc7924e61d59d40"), looks := false }, kinds := [], alts := [], laidByText := true, laidKinds := [.data, .data], laidTests := true, laidLooks := .later }
def RuleTrueCardSaid : Prop := Claim7.holds Tryd.pinned (.plain (OpenSpec.ofChange ruleTrueSpec)) ruleTrueCard

/-- THE TIED CARD OF 'jigworkslaw04.RuleEnds'. -/
def ruleEndsCard : Claim7 := { stood := { row := ruleEndsRow, standIns := [], harness := (true, "771e22ddc0e741a00ffcd4cfe8e22d0324d377f5006edc475bc7924e61d59d40"), looks := false }, kinds := [], alts := [], laidByText := true, laidKinds := [.data, .data], laidTests := true, laidLooks := .later }
def RuleEndsCardSaid : Prop := Claim7.holds Tryd.pinned (.plain (OpenSpec.ofChange ruleEndsSpec)) ruleEndsCard

/-- THE TIED CARD OF 'jigworkslaw04.RuleBest'. -/
def ruleBestCard : Claim7 := { stood := { row := ruleBestRow, standIns := [], harness := (true, "771e22ddc0e741a00ffcd4cfe8e22d0324d377f5006edc475bc7924e61d59d40"), looks := false }, kinds := [], alts := [], laidByText := true, laidKinds := [.data, .data], laidTests := true, laidLooks := .later }
def RuleBestCardSaid : Prop := Claim7.holds Tryd.pinned (.plain (OpenSpec.ofChange ruleBestSpec)) ruleBestCard

/-- THE TIED CARD OF 'jigworkslaw04.RuleProof'. -/
def ruleProofCard : Claim7 := { stood := { row := ruleProofRow, standIns := [], harness := (true, "771e22ddc0e741a00ffcd4cfe8e22d0324d377f5006edc475bc7924e61d59d40"), looks := false }, kinds := [], alts := [], laidByText := true, laidKinds := [.data, .data], laidTests := true, laidLooks := .later }
def RuleProofCardSaid : Prop := Claim7.holds Tryd.pinned (.plain (OpenSpec.ofChange ruleProofSpec)) ruleProofCard

/-- THE TIED CARD OF 'jigworkslaw04.RuleMore'. -/
def ruleMoreCard : Claim7 := { stood := { row := ruleMoreRow, standIns := [], harness := (true, "771e22ddc0e741a00ffcd4cfe8e22d0324d377f5006edc475bc7924e61d59d40"), looks := false }, kinds := [], alts := [], laidByText := true, laidKinds := [.data, .data], laidTests := true, laidLooks := .later }
def RuleMoreCardSaid : Prop := Claim7.holds Tryd.pinned (.plain (OpenSpec.ofChange ruleMoreSpec)) ruleMoreCard

/-- THE TIED CARD OF 'jigworkslaw04.RuleLess'. -/
def ruleLessCard : Claim7 := { stood := { row := ruleLessRow, standIns := [], harness := (true, "771e22ddc0e741a00ffcd4cfe8e22d0324d377f5006edc475bc7924e61d59d40"), looks := false }, kinds := [], alts := [], laidByText := true, laidKinds := [.data, .data], laidTests := true, laidLooks := .later }
def RuleLessCardSaid : Prop := Claim7.holds Tryd.pinned (.plain (OpenSpec.ofChange ruleLessSpec)) ruleLessCard

/-- THE SECOND FORM's CARD OF 'jigworkslaw04.RuleOffs'. -/
def ruleOffsUptoCard : Claim7 := { stood := { row := ruleOffsUptoRow, standIns := [], harness := (true, "771e22ddc0e741a00ffcd4cfe8e22d0324d377f5006edc475bc7924e61d59d40"), looks := false }, kinds := [], alts := [], laidByText := true, laidKinds := [.data, .data], laidTests := true, laidLooks := .later }
def RuleOffsUptoCardSaid : Prop := Claim7.holds Tryd.pinned (.plain (OpenSpec.upto ruleOffsSpec)) ruleOffsUptoCard

/-- THE SECOND FORM's CARD OF 'jigworkslaw04.RulePlans'. -/
def rulePlansUptoCard : Claim7 := { stood := { row := rulePlansUptoRow, standIns := [], harness := (true, "771e22ddc0e741a00ffcd4cfe8e22d0324d377f5006edc475bc7924e61d59d40"), looks := false }, kinds := [], alts := [], laidByText := true, laidKinds := [.data, .data], laidTests := true, laidLooks := .later }
def RulePlansUptoCardSaid : Prop := Claim7.holds Tryd.pinned (.plain (OpenSpec.upto rulePlansSpec)) rulePlansUptoCard

/-- THE SECOND FORM's CARD OF 'jigworkslaw04.RuleBests'. -/
def ruleBestsUptoCard : Claim7 := { stood := { row := ruleBestsUptoRow, standIns := [], harness := (true, "771e22ddc0e741a00ffcd4cfe8e22d0324d377f5006edc475bc7924e61d59d40"), looks := false }, kinds := [], alts := [], laidByText := true, laidKinds := [.data, .data], laidTests := true, laidLooks := .later }
def RuleBestsUptoCardSaid : Prop := Claim7.holds Tryd.pinned (.plain (OpenSpec.upto ruleBestsSpec)) ruleBestsUptoCard

/-- THE SECOND FORM's CARD OF 'jigworkslaw04.RuleTrue'. -/
def ruleTrueUptoCard : Claim7 := { stood := { row := ruleTrueUptoRow, standIns := [], harness := (true, "771e22ddc0e741a00ffcd4cfe8e22d0324d377f5006edc475bc7924e61d59d40"), looks := false }, kinds := [], alts := [], laidByText := true, laidKinds := [.data, .data], laidTests := true, laidLooks := .later }
def RuleTrueUptoCardSaid : Prop := Claim7.holds Tryd.pinned (.plain (OpenSpec.upto ruleTrueSpec)) ruleTrueUptoCard

/-- THE SECOND FORM's CARD OF 'jigworkslaw04.RuleEnds'. -/
def ruleEndsUptoCard : Claim7 := { stood := { row := ruleEndsUptoRow, standIns := [], harness := (true, "771e22ddc0e741a00ffcd4cfe8e22d0324d377f5006edc475bc7924e61d59d40"), looks := false }, kinds := [], alts := [], laidByText := true, laidKinds := [.data, .data], laidTests := true, laidLooks := .later }
def RuleEndsUptoCardSaid : Prop := Claim7.holds Tryd.pinned (.plain (OpenSpec.upto ruleEndsSpec)) ruleEndsUptoCard

/-- THE SECOND FORM's CARD OF 'jigworkslaw04.RuleBest'. -/
def ruleBestUptoCard : Claim7 := { stood := { row := ruleBestUptoRow, standIns := [], harness := (true, "771e22ddc0e741a00ffcd4cfe8e22d0324d377f5006edc475bc7924e61d59d40"), looks := false }, kinds := [], alts := [], laidByText := true, laidKinds := [.data, .data], laidTests := true, laidLooks := .later }
def RuleBestUptoCardSaid : Prop := Claim7.holds Tryd.pinned (.plain (OpenSpec.upto ruleBestSpec)) ruleBestUptoCard

/-- THE SECOND FORM's CARD OF 'jigworkslaw04.RuleProof'. -/
def ruleProofUptoCard : Claim7 := { stood := { row := ruleProofUptoRow, standIns := [], harness := (true, "771e22ddc0e741a00ffcd4cfe8e22d0324d377f5006edc475bc7924e61d59d40"), looks := false }, kinds := [], alts := [], laidByText := true, laidKinds := [.data, .data], laidTests := true, laidLooks := .later }
def RuleProofUptoCardSaid : Prop := Claim7.holds Tryd.pinned (.plain (OpenSpec.upto ruleProofSpec)) ruleProofUptoCard

/-- THE SECOND FORM's CARD OF 'jigworkslaw04.RuleMore'. -/
def ruleMoreUptoCard : Claim7 := { stood := { row := ruleMoreUptoRow, standIns := [], harness := (true, "771e22ddc0e741a00ffcd4cfe8e22d0324d377f5006edc475bc7924e61d59d40"), looks := false }, kinds := [], alts := [], laidByText := true, laidKinds := [.data, .data], laidTests := true, laidLooks := .later }
def RuleMoreUptoCardSaid : Prop := Claim7.holds Tryd.pinned (.plain (OpenSpec.upto ruleMoreSpec)) ruleMoreUptoCard

/-- THE SECOND FORM's CARD OF 'jigworkslaw04.RuleLess'. -/
def ruleLessUptoCard : Claim7 := { stood := { row := ruleLessUptoRow, standIns := [], harness := (true, "771e22ddc0e741a00ffcd4cfe8e22d0324d377f5006edc475bc7924e61d59d40"), looks := false }, kinds := [], alts := [], laidByText := true, laidKinds := [.data, .data], laidTests := true, laidLooks := .later }
def RuleLessUptoCardSaid : Prop := Claim7.holds Tryd.pinned (.plain (OpenSpec.upto ruleLessSpec)) ruleLessUptoCard
end Rows
end Go.Proofs.YtbhkglokdomajaaDoor
