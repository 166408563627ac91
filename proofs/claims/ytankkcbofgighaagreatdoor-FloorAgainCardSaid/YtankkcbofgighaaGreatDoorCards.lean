/-
  DERIVED. GIVEN WITH THE SEED: THE CARDS: each row of YtankkcbofgighaaGreatDoorRows.lean that lists a variable, with what it lists TIED to the program's text (the seventh form; the later family's looks); each row that meets fmt, with fmt's text TOLD by the authors' own Lean function (tested against real Go, not proved from fmt's source: count such statements apart). THE CARD IS WHAT COUNTS. Prove the row's statement (the work); the ties are given (YtankkcbofgighaaGreatDoorTie.lean); close each card by the builder's one call (the guide's Derived/Test/ToyasCard.lean, 'card_holds'). Laid BY PROGRAM, IN A SANDBOX (cutbox-door.mjs). By AI agents, Wed Nov 11 2026. No macro, syntax, notation, axiom, sorry.
-/
import Derived.Test.YtankkcbofgighaaGreatDoorRows
import GoSem.ClaimSeven
namespace Go.Proofs.YtankkcbofgighaaGreatDoor
namespace Rows

/-- THE TIED CARD OF 'jigworkslaw15.FloorRuns'. -/
def floorRunsCard : Claim7 := { stood := { row := floorRunsRow, standIns := [], harness := (true, "315b5b201582dd7887f24a1b734c22e5030c05524ebef79acede6a4f29b64309"), looks := true }, kinds := [], alts := [], laidByText := true, laidKinds := [.data, .data, .data, .data, .pinned], laidTests := true, laidLooks := .later }
def FloorRunsCardSaid : Prop := Claim7.holds Tryz.pinned (.plain (OpenSpec.ofChange floorRunsSpec)) floorRunsCard

/-- THE TIED CARD OF 'jigworkslaw15.FloorLines'. -/
def floorLinesCard : Claim7 := { stood := { row := floorLinesRow, standIns := [], harness := (true, "315b5b201582dd7887f24a1b734c22e5030c05524ebef79acede6a4f29b64309"), looks := true }, kinds := [], alts := [], laidByText := true, laidKinds := [.data, .data, .data, .data, .pinned], laidTests := true, laidLooks := .later }
def FloorLinesCardSaid : Prop := Claim7.holds Tryz.pinned (.plain (OpenSpec.ofChange floorLinesSpec)) floorLinesCard

/-- THE TIED CARD OF 'jigworkslaw15.FloorRight'. -/
def floorRightCard : Claim7 := { stood := { row := floorRightRow, standIns := [], harness := (true, "315b5b201582dd7887f24a1b734c22e5030c05524ebef79acede6a4f29b64309"), looks := true }, kinds := [], alts := [], laidByText := true, laidKinds := [.data, .data, .data, .data, .pinned], laidTests := true, laidLooks := .later }
def FloorRightCardSaid : Prop := Claim7.holds Tryz.pinned (.plain (OpenSpec.ofChange floorRightSpec)) floorRightCard

/-- THE TIED CARD OF 'jigworkslaw15.FloorPlanned'. -/
def floorPlannedCard : Claim7 := { stood := { row := floorPlannedRow, standIns := [], harness := (true, "315b5b201582dd7887f24a1b734c22e5030c05524ebef79acede6a4f29b64309"), looks := true }, kinds := [], alts := [], laidByText := true, laidKinds := [.data, .data, .data, .data, .pinned], laidTests := true, laidLooks := .later }
def FloorPlannedCardSaid : Prop := Claim7.holds Tryz.pinned (.plain (OpenSpec.ofChange floorPlannedSpec)) floorPlannedCard

/-- THE TIED CARD OF 'jigworkslaw15.FloorOrder'. -/
def floorOrderCard : Claim7 := { stood := { row := floorOrderRow, standIns := [], harness := (true, "315b5b201582dd7887f24a1b734c22e5030c05524ebef79acede6a4f29b64309"), looks := true }, kinds := [], alts := [], laidByText := true, laidKinds := [.data, .data, .data, .data, .pinned], laidTests := true, laidLooks := .later }
def FloorOrderCardSaid : Prop := Claim7.holds Tryz.pinned (.plain (OpenSpec.ofChange floorOrderSpec)) floorOrderCard

/-- THE TIED CARD OF 'jigworkslaw15.FloorRefused'. -/
def floorRefusedCard : Claim7 := { stood := { row := floorRefusedRow, standIns := [], harness := (true, "315b5b201582dd7887f24a1b734c22e5030c05524ebef79acede6a4f29b64309"), looks := true }, kinds := [], alts := [], laidByText := true, laidKinds := [.data, .data, .data, .data, .pinned], laidTests := true, laidLooks := .later }
def FloorRefusedCardSaid : Prop := Claim7.holds Tryz.pinned (.plain (OpenSpec.ofChange floorRefusedSpec)) floorRefusedCard

/-- THE TIED CARD OF 'jigworkslaw15.FloorNone'. -/
def floorNoneCard : Claim7 := { stood := { row := floorNoneRow, standIns := [], harness := (true, "315b5b201582dd7887f24a1b734c22e5030c05524ebef79acede6a4f29b64309"), looks := true }, kinds := [], alts := [], laidByText := true, laidKinds := [.data, .data, .data, .data, .pinned], laidTests := true, laidLooks := .later }
def FloorNoneCardSaid : Prop := Claim7.holds Tryz.pinned (.plain (OpenSpec.ofChange floorNoneSpec)) floorNoneCard

/-- THE TIED CARD OF 'jigworkslaw15.FloorAgain'. -/
def floorAgainCard : Claim7 := { stood := { row := floorAgainRow, standIns := [], harness := (true, "315b5b201582dd7887f24a1b734c22e5030c05524ebef79acede6a4f29b64309"), looks := true }, kinds := [], alts := [], laidByText := true, laidKinds := [.data, .data, .data, .data, .pinned], laidTests := true, laidLooks := .later }
def FloorAgainCardSaid : Prop := Claim7.holds Tryz.pinned (.plain (OpenSpec.ofChange floorAgainSpec)) floorAgainCard

/-- THE TIED CARD OF 'jigworkstop.TopDesk'. -/
def topDeskCard : Claim7 := { stood := { row := topDeskRow, standIns := [], harness := (true, "315b5b201582dd7887f24a1b734c22e5030c05524ebef79acede6a4f29b64309"), looks := true }, kinds := [], alts := [], laidByText := true, laidKinds := [.data, .data, .data, .data, .pinned], laidTests := true, laidLooks := .later }
def TopDeskCardSaid : Prop := Claim7.holds Tryz.pinned (.plain (OpenSpec.ofChange topDeskSpec)) topDeskCard

/-- THE TIED CARD OF 'jigworkstop.TopRun'. -/
def topRunCard : Claim7 := { stood := { row := topRunRow, standIns := [], harness := (true, "315b5b201582dd7887f24a1b734c22e5030c05524ebef79acede6a4f29b64309"), looks := true }, kinds := [], alts := [], laidByText := true, laidKinds := [.data, .data, .data, .data, .pinned], laidTests := true, laidLooks := .later }
def TopRunCardSaid : Prop := Claim7.holds Tryz.pinned (.plain (OpenSpec.ofChange topRunSpec)) topRunCard

/-- THE TIED CARD OF 'jigworkstop.TopDay'. -/
def topDayCard : Claim7 := { stood := { row := topDayRow, standIns := [], harness := (true, "315b5b201582dd7887f24a1b734c22e5030c05524ebef79acede6a4f29b64309"), looks := true }, kinds := [], alts := [], laidByText := true, laidKinds := [.data, .data, .data, .data, .pinned], laidTests := true, laidLooks := .later }
def TopDayCardSaid : Prop := Claim7.holds Tryz.pinned (.plain (OpenSpec.ofChange topDaySpec)) topDayCard

/-- THE SECOND FORM's CARD OF 'jigworkslaw15.FloorRuns'. -/
def floorRunsUptoCard : Claim7 := { stood := { row := floorRunsUptoRow, standIns := [], harness := (true, "315b5b201582dd7887f24a1b734c22e5030c05524ebef79acede6a4f29b64309"), looks := true }, kinds := [], alts := [], laidByText := true, laidKinds := [.data, .data, .data, .data, .pinned], laidTests := true, laidLooks := .later }
def FloorRunsUptoCardSaid : Prop := Claim7.holds Tryz.pinned (.plain (OpenSpec.upto floorRunsSpec)) floorRunsUptoCard

/-- THE SECOND FORM's CARD OF 'jigworkslaw15.FloorLines'. -/
def floorLinesUptoCard : Claim7 := { stood := { row := floorLinesUptoRow, standIns := [], harness := (true, "315b5b201582dd7887f24a1b734c22e5030c05524ebef79acede6a4f29b64309"), looks := true }, kinds := [], alts := [], laidByText := true, laidKinds := [.data, .data, .data, .data, .pinned], laidTests := true, laidLooks := .later }
def FloorLinesUptoCardSaid : Prop := Claim7.holds Tryz.pinned (.plain (OpenSpec.upto floorLinesSpec)) floorLinesUptoCard

/-- THE SECOND FORM's CARD OF 'jigworkslaw15.FloorRight'. -/
def floorRightUptoCard : Claim7 := { stood := { row := floorRightUptoRow, standIns := [], harness := (true, "315b5b201582dd7887f24a1b734c22e5030c05524ebef79acede6a4f29b64309"), looks := true }, kinds := [], alts := [], laidByText := true, laidKinds := [.data, .data, .data, .data, .pinned], laidTests := true, laidLooks := .later }
def FloorRightUptoCardSaid : Prop := Claim7.holds Tryz.pinned (.plain (OpenSpec.upto floorRightSpec)) floorRightUptoCard

/-- THE SECOND FORM's CARD OF 'jigworkslaw15.FloorPlanned'. -/
def floorPlannedUptoCard : Claim7 := { stood := { row := floorPlannedUptoRow, standIns := [], harness := (true, "315b5b201582dd7887f24a1b734c22e5030c05524ebef79acede6a4f29b64309"), looks := true }, kinds := [], alts := [], laidByText := true, laidKinds := [.data, .data, .data, .data, .pinned], laidTests := true, laidLooks := .later }
def FloorPlannedUptoCardSaid : Prop := Claim7.holds Tryz.pinned (.plain (OpenSpec.upto floorPlannedSpec)) floorPlannedUptoCard

/-- THE SECOND FORM's CARD OF 'jigworkslaw15.FloorOrder'. -/
def floorOrderUptoCard : Claim7 := { stood := { row := floorOrderUptoRow, standIns := [], harness := (true, "315b5b201582dd7887f24a1b734c22e5030c05524ebef79acede6a4f29b64309"), looks := true }, kinds := [], alts := [], laidByText := true, laidKinds := [.data, .data, .data, .data, .pinned], laidTests := true, laidLooks := .later }
def FloorOrderUptoCardSaid : Prop := Claim7.holds Tryz.pinned (.plain (OpenSpec.upto floorOrderSpec)) floorOrderUptoCard

/-- THE SECOND FORM's CARD OF 'jigworkslaw15.FloorRefused'. -/
def floorRefusedUptoCard : Claim7 := { stood := { row := floorRefusedUptoRow, standIns := [], harness := (true, "315b5b201582dd7887f24a1b734c22e5030c05524ebef79acede6a4f29b64309"), looks := true }, kinds := [], alts := [], laidByText := true, laidKinds := [.data, .data, .data, .data, .pinned], laidTests := true, laidLooks := .later }
def FloorRefusedUptoCardSaid : Prop := Claim7.holds Tryz.pinned (.plain (OpenSpec.upto floorRefusedSpec)) floorRefusedUptoCard

/-- THE SECOND FORM's CARD OF 'jigworkslaw15.FloorNone'. -/
def floorNoneUptoCard : Claim7 := { stood := { row := floorNoneUptoRow, standIns := [], harness := (true, "315b5b201582dd7887f24a1b734c22e5030c05524ebef79acede6a4f29b64309"), looks := true }, kinds := [], alts := [], laidByText := true, laidKinds := [.data, .data, .data, .data, .pinned], laidTests := true, laidLooks := .later }
def FloorNoneUptoCardSaid : Prop := Claim7.holds Tryz.pinned (.plain (OpenSpec.upto floorNoneSpec)) floorNoneUptoCard

/-- THE SECOND FORM's CARD OF 'jigworkslaw15.FloorAgain'. -/
def floorAgainUptoCard : Claim7 := { stood := { row := floorAgainUptoRow, standIns := [], harness := (true, "315b5b201582dd7887f24a1b734c22e5030c05524ebef79acede6a4f29b64309"), looks := true }, kinds := [], alts := [], laidByText := true, laidKinds := [.data, .data, .data, .data, .pinned], laidTests := true, laidLooks := .later }
def FloorAgainUptoCardSaid : Prop := Claim7.holds Tryz.pinned (.plain (OpenSpec.upto floorAgainSpec)) floorAgainUptoCard

/-- THE SECOND FORM's CARD OF 'jigworkstop.TopDesk'. -/
def topDeskUptoCard : Claim7 := { stood := { row := topDeskUptoRow, standIns := [], harness := (true, "315b5b201582dd7887f24a1b734c22e5030c05524ebef79acede6a4f29b64309"), looks := true }, kinds := [], alts := [], laidByText := true, laidKinds := [.data, .data, .data, .data, .pinned], laidTests := true, laidLooks := .later }
def TopDeskUptoCardSaid : Prop := Claim7.holds Tryz.pinned (.plain (OpenSpec.upto topDeskSpec)) topDeskUptoCard

/-- THE SECOND FORM's CARD OF 'jigworkstop.TopRun'. -/
def topRunUptoCard : Claim7 := { stood := { row := topRunUptoRow, standIns := [], harness := (true, "315b5b201582dd7887f24a1b734c22e5030c05524ebef79acede6a4f29b64309"), looks := true }, kinds := [], alts := [], laidByText := true, laidKinds := [.data, .data, .data, .data, .pinned], laidTests := true, laidLooks := .later }
def TopRunUptoCardSaid : Prop := Claim7.holds Tryz.pinned (.plain (OpenSpec.upto topRunSpec)) topRunUptoCard

/-- THE SECOND FORM's CARD OF 'jigworkstop.TopDay'. -/
def topDayUptoCard : Claim7 := { stood := { row := topDayUptoRow, standIns := [], harness := (true, "315b5b201582dd7887f24a1b734c22e5030c05524ebef79acede6a4f29b64309"), looks := true }, kinds := [], alts := [], laidByText := true, laidKinds := [.data, .data, .data, .data, .pinned], laidTests := true, laidLooks := .later }
def TopDayUptoCardSaid : Prop := Claim7.holds Tryz.pinned (.plain (OpenSpec.upto topDaySpec)) topDayUptoCard
end Rows
end Go.Proofs.YtankkcbofgighaaGreatDoor
