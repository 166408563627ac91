/-
  DERIVED. GIVEN WITH THE SEED: THE CARDS: each row of YtkcfpnpejaekjaaDoorRows.lean that lists a variable, with what it lists TIED to the program's text (the seventh form; the later family's looks); each row that meets fmt, with fmt's text TOLD by the authors' own Lean function (tested against real Go, not proved from fmt's source: count such statements apart). THE CARD IS WHAT COUNTS. Prove the row's statement (the work); the ties are given (YtkcfpnpejaekjaaDoorTie.lean); close each card by the builder's one call (the guide's Derived/Test/ToyasCard.lean, 'card_holds'). Laid BY PROGRAM, IN A SANDBOX (cutbox-door.mjs). By AI agents, Wed Nov 11 2026. No macro, syntax, notation, axiom, sorry.
-/
import Derived.Test.YtkcfpnpejaekjaaDoorRows
import GoSem.ClaimSeven
namespace Go.Proofs.YtkcfpnpejaekjaaDoor
namespace Rows

/-- THE TIED CARD OF 'jigworkslaw08.LendWindows'. -/
def lendWindowsCard : Claim7 := { stood := { row := lendWindowsRow, standIns := [], harness := (true, "a5414dae836dec5462c3d70441cbccecd59650c33f859d3acdbf0a29022240c6"), looks := true }, kinds := [], alts := [], laidByText := true, laidKinds := [.data, .data], laidTests := true, laidLooks := .later }
def LendWindowsCardSaid : Prop := Claim7.holds Tryd.pinned (.plain (OpenSpec.ofChange lendWindowsSpec)) lendWindowsCard

/-- THE TIED CARD OF 'jigworkslaw08.LendWhos'. -/
def lendWhosCard : Claim7 := { stood := { row := lendWhosRow, standIns := [], harness := (true, "a5414dae836dec5462c3d70441cbccecd59650c33f859d3acdbf0a29022240c6"), looks := true }, kinds := [], alts := [], laidByText := true, laidKinds := [.data, .data], laidTests := true, laidLooks := .later }
def LendWhosCardSaid : Prop := Claim7.holds Tryd.pinned (.plain (OpenSpec.ofChange lendWhosSpec)) lendWhosCard

/-- THE TIED CARD OF 'jigworkslaw08.LendClashes'. -/
def lendClashesCard : Claim7 := { stood := { row := lendClashesRow, standIns := [], harness := (true, "a5414dae836dec5462c3d70441cbccecd59650c33f859d3acdbf0a29022240c6"), looks := true }, kinds := [], alts := [], laidByText := true, laidKinds := [.data, .data], laidTests := true, laidLooks := .later }
def LendClashesCardSaid : Prop := Claim7.holds Tryd.pinned (.plain (OpenSpec.ofChange lendClashesSpec)) lendClashesCard

/-- THE TIED CARD OF 'jigworkslaw08.LendTrue'. -/
def lendTrueCard : Claim7 := { stood := { row := lendTrueRow, standIns := [], harness := (true, "a5414dae836dec5462c3d70441cbccecd59650c33f859d3acdbf0a29022240c6"), looks := true }, kinds := [], alts := [], laidByText := true, laidKinds := [.data, .data], laidTests := true, laidLooks := .later }
def LendTrueCardSaid : Prop := Claim7.holds Tryd.pinned (.plain (OpenSpec.ofChange lendTrueSpec)) lendTrueCard

/-- THE TIED CARD OF 'jigworkslaw08.LendSure'. -/
def lendSureCard : Claim7 := { stood := { row := lendSureRow, standIns := [], harness := (true, "a5414dae836dec5462c3d70441cbccecd59650c33f859d3acdbf0a29022240c6"), looks := true }, kinds := [], alts := [], laidByText := true, laidKinds := [.data, .data], laidTests := true, laidLooks := .later }
def LendSureCardSaid : Prop := Claim7.holds Tryd.pinned (.plain (OpenSpec.ofChange lendSureSpec)) lendSureCard

/-- THE TIED CARD OF 'jigworkslaw08.LendMany'. -/
def lendManyCard : Claim7 := { stood := { row := lendManyRow, standIns := [], harness := (true, "a5414dae836dec5462c3d70441cbccecd59650c33f859d3acdbf0a29022240c6"), looks := true }, kinds := [], alts := [], laidByText := true, laidKinds := [.data, .data], laidTests := true, laidLooks := .later }
def LendManyCardSaid : Prop := Claim7.holds Tryd.pinned (.plain (OpenSpec.ofChange lendManySpec)) lendManyCard

/-- THE TIED CARD OF 'jigworkslaw08.LendGone'. -/
def lendGoneCard : Claim7 := { stood := { row := lendGoneRow, standIns := [], harness := (true, "a5414dae836dec5462c3d70441cbccecd59650c33f859d3acdbf0a29022240c6"), looks := true }, kinds := [], alts := [], laidByText := true, laidKinds := [.data, .data], laidTests := true, laidLooks := .later }
def LendGoneCardSaid : Prop := Claim7.holds Tryd.pinned (.plain (OpenSpec.ofChange lendGoneSpec)) lendGoneCard

/-- THE TIED CARD OF 'jigworkslaw08.LendMore'. -/
def lendMoreCard : Claim7 := { stood := { row := lendMoreRow, standIns := [], harness := (true, "a5414dae836dec5462c3d70441cbccecd59650c33f859d3acdbf0a29022240c6"), looks := true }, kinds := [], alts := [], laidByText := true, laidKinds := [.data, .data], laidTests := true, laidLooks := .later }
def LendMoreCardSaid : Prop := Claim7.holds Tryd.pinned (.plain (OpenSpec.ofChange lendMoreSpec)) lendMoreCard

/-- THE TIED CARD OF 'jigworkslaw08.LendOrder'. -/
def lendOrderCard : Claim7 := { stood := { row := lendOrderRow, standIns := [], harness := (true, "a5414dae836dec5462c3d70441cbccecd59650c33f859d3acdbf0a29022240c6"), looks := true }, kinds := [], alts := [], laidByText := true, laidKinds := [.data, .data], laidTests := true, laidLooks := .later }
def LendOrderCardSaid : Prop := Claim7.holds Tryd.pinned (.plain (OpenSpec.ofChange lendOrderSpec)) lendOrderCard

/-- THE SECOND FORM's CARD OF 'jigworkslaw08.LendWindows'. -/
def lendWindowsUptoCard : Claim7 := { stood := { row := lendWindowsUptoRow, standIns := [], harness := (true, "a5414dae836dec5462c3d70441cbccecd59650c33f859d3acdbf0a29022240c6"), looks := true }, kinds := [], alts := [], laidByText := true, laidKinds := [.data, .data], laidTests := true, laidLooks := .later }
def LendWindowsUptoCardSaid : Prop := Claim7.holds Tryd.pinned (.plain (OpenSpec.upto lendWindowsSpec)) lendWindowsUptoCard

/-- THE SECOND FORM's CARD OF 'jigworkslaw08.LendWhos'. -/
def lendWhosUptoCard : Claim7 := { stood := { row := lendWhosUptoRow, standIns := [], harness := (true, "a5414dae836dec5462c3d70441cbccecd59650c33f859d3acdbf0a29022240c6"), looks := true }, kinds := [], alts := [], laidByText := true, laidKinds := [.data, .data], laidTests := true, laidLooks := .later }
def LendWhosUptoCardSaid : Prop := Claim7.holds Tryd.pinned (.plain (OpenSpec.upto lendWhosSpec)) lendWhosUptoCard

/-- THE SECOND FORM's CARD OF 'jigworkslaw08.LendClashes'. -/
def lendClashesUptoCard : Claim7 := { stood := { row := lendClashesUptoRow, standIns := [], harness := (true, "a5414dae836dec5462c3d70441cbccecd59650c33f859d3acdbf0a29022240c6"), looks := true }, kinds := [], alts := [], laidByText := true, laidKinds := [.data, .data], laidTests := true, laidLooks := .later }
def LendClashesUptoCardSaid : Prop := Claim7.holds Tryd.pinned (.plain (OpenSpec.upto lendClashesSpec)) lendClashesUptoCard

/-- THE SECOND FORM's CARD OF 'jigworkslaw08.LendTrue'. -/
def lendTrueUptoCard : Claim7 := { stood := { row := lendTrueUptoRow, standIns := [], harness := (true, "a5414dae836dec5462c3d70441cbccecd59650c33f859d3acdbf0a29022240c6"), looks := true }, kinds := [], alts := [], laidByText := true, laidKinds := [.data, .data], laidTests := true, laidLooks := .later }
def LendTrueUptoCardSaid : Prop := Claim7.holds Tryd.pinned (.plain (OpenSpec.upto lendTrueSpec)) lendTrueUptoCard

/-- THE SECOND FORM's CARD OF 'jigworkslaw08.LendSure'. -/
def lendSureUptoCard : Claim7 := { stood := { row := lendSureUptoRow, standIns := [], harness := (true, "a5414dae836dec5462c3d70441cbccecd59650c33f859d3acdbf0a29022240c6"), looks := true }, kinds := [], alts := [], laidByText := true, laidKinds := [.data, .data], laidTests := true, laidLooks := .later }
def LendSureUptoCardSaid : Prop := Claim7.holds Tryd.pinned (.plain (OpenSpec.upto lendSureSpec)) lendSureUptoCard

/-- THE SECOND FORM's CARD OF 'jigworkslaw08.LendMany'. -/
def lendManyUptoCard : Claim7 := { stood := { row := lendManyUptoRow, standIns := [], harness := (true, "a5414dae836dec5462c3d70441cbccecd59650c33f859d3acdbf0a29022240c6"), looks := true }, kinds := [], alts := [], laidByText := true, laidKinds := [.data, .data], laidTests := true, laidLooks := .later }
def LendManyUptoCardSaid : Prop := Claim7.holds Tryd.pinned (.plain (OpenSpec.upto lendManySpec)) lendManyUptoCard

/-- THE SECOND FORM's CARD OF 'jigworkslaw08.LendGone'. -/
def lendGoneUptoCard : Claim7 := { stood := { row := lendGoneUptoRow, standIns := [], harness := (true, "a5414dae836dec5462c3d70441cbccecd59650c33f859d3acdbf0a29022240c6"), looks := true }, kinds := [], alts := [], laidByText := true, laidKinds := [.data, .data], laidTests := true, laidLooks := .later }
def LendGoneUptoCardSaid : Prop := Claim7.holds Tryd.pinned (.plain (OpenSpec.upto lendGoneSpec)) lendGoneUptoCard

/-- THE SECOND FORM's CARD OF 'jigworkslaw08.LendMore'. -/
def lendMoreUptoCard : Claim7 := { stood := { row := lendMoreUptoRow, standIns := [], harness := (true, "a5414dae836dec5462c3d70441cbccecd59650c33f859d3acdbf0a29022240c6"), looks := true }, kinds := [], alts := [], laidByText := true, laidKinds := [.data, .data], laidTests := true, laidLooks := .later }
def LendMoreUptoCardSaid : Prop := Claim7.holds Tryd.pinned (.plain (OpenSpec.upto lendMoreSpec)) lendMoreUptoCard

/-- THE SECOND FORM's CARD OF 'jigworkslaw08.LendOrder'. -/
def lendOrderUptoCard : Claim7 := { stood := { row := lendOrderUptoRow, standIns := [], harness := (true, "a5414dae836dec5462c3d70441cbccecd59650c33f859d3acdbf0a29022240c6"), looks := true }, kinds := [], alts := [], laidByText := true, laidKinds := [.data, .data], laidTests := true, laidLooks := .later }
def LendOrderUptoCardSaid : Prop := Claim7.holds Tryd.pinned (.plain (OpenSpec.upto lendOrderSpec)) lendOrderUptoCard
end Rows
end Go.Proofs.YtkcfpnpejaekjaaDoor
