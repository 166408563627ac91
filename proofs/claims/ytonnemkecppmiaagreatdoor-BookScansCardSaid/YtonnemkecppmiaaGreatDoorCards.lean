/-
  DERIVED. GIVEN WITH THE SEED: THE CARDS: each row of YtonnemkecppmiaaGreatDoorRows.lean that lists a variable, with what it lists TIED to the program's text (the seventh form; the later family's looks); each row that meets fmt, with fmt's text TOLD by the authors' own Lean function (tested against real Go, not proved from fmt's source: count such statements apart). THE CARD IS WHAT COUNTS. Prove the row's statement (the work); the ties are given (YtonnemkecppmiaaGreatDoorTie.lean); close each card by the builder's one call (the guide's Derived/Test/ToyasCard.lean, 'card_holds'). Laid BY PROGRAM, IN A SANDBOX (cutbox-door.mjs). By AI agents, Wed Nov 11 2026. No macro, syntax, notation, axiom, sorry.
-/
import Derived.Test.YtonnemkecppmiaaGreatDoorRows
import GoSem.ClaimSeven
namespace Go.Proofs.YtonnemkecppmiaaGreatDoor
namespace Rows

/-- THE TIED CARD OF 'jigworkslaw14.BookDrawings'. -/
def bookDrawingsCard : Claim7 := { stood := { row := bookDrawingsRow, standIns := [], harness := (true, "058208d46cc7df450fcc5471ad478e984606957e63368a8e10843ab5d8763fb2"), looks := true }, kinds := [], alts := [], laidByText := true, laidKinds := [.data, .data, .data, .data, .sentinel, .sentinel, .pinned], laidTests := true, laidLooks := .later }
def BookDrawingsCardSaid : Prop := Claim7.holds Tryz.pinned (.plain (OpenSpec.ofChange bookDrawingsSpec)) bookDrawingsCard

/-- THE TIED CARD OF 'jigworkslaw14.BookScans'. -/
def bookScansCard : Claim7 := { stood := { row := bookScansRow, standIns := [], harness := (true, "058208d46cc7df450fcc5471ad478e984606957e63368a8e10843ab5d8763fb2"), looks := true }, kinds := [], alts := [], laidByText := true, laidKinds := [.data, .data, .data, .data, .sentinel, .sentinel, .pinned], laidTests := true, laidLooks := .later }
def BookScansCardSaid : Prop := Claim7.holds Tryz.pinned (.plain (OpenSpec.ofChange bookScansSpec)) bookScansCard

/-- THE TIED CARD OF 'jigworkslaw14.BookNames'. -/
def bookNamesCard : Claim7 := { stood := { row := bookNamesRow, standIns := [], harness := (true, "058208d46cc7df450fcc5471ad478e984606957e63368a8e10843ab5d8763fb2"), looks := true }, kinds := [], alts := [], laidByText := true, laidKinds := [.data, .data, .data, .data, .sentinel, .sentinel, .pinned], laidTests := true, laidLooks := .later }
def BookNamesCardSaid : Prop := Claim7.holds Tryz.pinned (.plain (OpenSpec.ofChange bookNamesSpec)) bookNamesCard

/-- THE TIED CARD OF 'jigworkslaw14.BookBack'. -/
def bookBackCard : Claim7 := { stood := { row := bookBackRow, standIns := [], harness := (true, "058208d46cc7df450fcc5471ad478e984606957e63368a8e10843ab5d8763fb2"), looks := true }, kinds := [], alts := [], laidByText := true, laidKinds := [.data, .data, .data, .data, .sentinel, .sentinel, .pinned], laidTests := true, laidLooks := .later }
def BookBackCardSaid : Prop := Claim7.holds Tryz.pinned (.plain (OpenSpec.ofChange bookBackSpec)) bookBackCard

/-- THE TIED CARD OF 'jigworkslaw14.BookAgain'. -/
def bookAgainCard : Claim7 := { stood := { row := bookAgainRow, standIns := [], harness := (true, "058208d46cc7df450fcc5471ad478e984606957e63368a8e10843ab5d8763fb2"), looks := true }, kinds := [], alts := [], laidByText := true, laidKinds := [.data, .data, .data, .data, .sentinel, .sentinel, .pinned], laidTests := true, laidLooks := .later }
def BookAgainCardSaid : Prop := Claim7.holds Tryz.pinned (.plain (OpenSpec.ofChange bookAgainSpec)) bookAgainCard

/-- THE TIED CARD OF 'jigworkslaw14.BookWrong'. -/
def bookWrongCard : Claim7 := { stood := { row := bookWrongRow, standIns := [], harness := (true, "058208d46cc7df450fcc5471ad478e984606957e63368a8e10843ab5d8763fb2"), looks := true }, kinds := [], alts := [], laidByText := true, laidKinds := [.data, .data, .data, .data, .sentinel, .sentinel, .pinned], laidTests := true, laidLooks := .later }
def BookWrongCardSaid : Prop := Claim7.holds Tryz.pinned (.plain (OpenSpec.ofChange bookWrongSpec)) bookWrongCard

/-- THE TIED CARD OF 'jigworkslaw14.BookApart'. -/
def bookApartCard : Claim7 := { stood := { row := bookApartRow, standIns := [], harness := (true, "058208d46cc7df450fcc5471ad478e984606957e63368a8e10843ab5d8763fb2"), looks := true }, kinds := [], alts := [], laidByText := true, laidKinds := [.data, .data, .data, .data, .sentinel, .sentinel, .pinned], laidTests := true, laidLooks := .later }
def BookApartCardSaid : Prop := Claim7.holds Tryz.pinned (.plain (OpenSpec.ofChange bookApartSpec)) bookApartCard

/-- THE TIED CARD OF 'jigworkslaw14.BookOwns'. -/
def bookOwnsCard : Claim7 := { stood := { row := bookOwnsRow, standIns := [], harness := (true, "058208d46cc7df450fcc5471ad478e984606957e63368a8e10843ab5d8763fb2"), looks := true }, kinds := [], alts := [], laidByText := true, laidKinds := [.data, .data, .data, .data, .sentinel, .sentinel, .pinned], laidTests := true, laidLooks := .later }
def BookOwnsCardSaid : Prop := Claim7.holds Tryz.pinned (.plain (OpenSpec.ofChange bookOwnsSpec)) bookOwnsCard

/-- THE TIED CARD OF 'jigworkslaw14.BookGrows'. -/
def bookGrowsCard : Claim7 := { stood := { row := bookGrowsRow, standIns := [], harness := (true, "058208d46cc7df450fcc5471ad478e984606957e63368a8e10843ab5d8763fb2"), looks := true }, kinds := [], alts := [], laidByText := true, laidKinds := [.data, .data, .data, .data, .sentinel, .sentinel, .pinned], laidTests := true, laidLooks := .later }
def BookGrowsCardSaid : Prop := Claim7.holds Tryz.pinned (.plain (OpenSpec.ofChange bookGrowsSpec)) bookGrowsCard

/-- THE SECOND FORM's CARD OF 'jigworkslaw14.BookDrawings'. -/
def bookDrawingsUptoCard : Claim7 := { stood := { row := bookDrawingsUptoRow, standIns := [], harness := (true, "058208d46cc7df450fcc5471ad478e984606957e63368a8e10843ab5d8763fb2"), looks := true }, kinds := [], alts := [], laidByText := true, laidKinds := [.data, .data, .data, .data, .sentinel, .sentinel, .pinned], laidTests := true, laidLooks := .later }
def BookDrawingsUptoCardSaid : Prop := Claim7.holds Tryz.pinned (.plain (OpenSpec.upto bookDrawingsSpec)) bookDrawingsUptoCard

/-- THE SECOND FORM's CARD OF 'jigworkslaw14.BookScans'. -/
def bookScansUptoCard : Claim7 := { stood := { row := bookScansUptoRow, standIns := [], harness := (true, "058208d46cc7df450fcc5471ad478e984606957e63368a8e10843ab5d8763fb2"), looks := true }, kinds := [], alts := [], laidByText := true, laidKinds := [.data, .data, .data, .data, .sentinel, .sentinel, .pinned], laidTests := true, laidLooks := .later }
def BookScansUptoCardSaid : Prop := Claim7.holds Tryz.pinned (.plain (OpenSpec.upto bookScansSpec)) bookScansUptoCard

/-- THE SECOND FORM's CARD OF 'jigworkslaw14.BookNames'. -/
def bookNamesUptoCard : Claim7 := { stood := { row := bookNamesUptoRow, standIns := [], harness := (true, "058208d46cc7df450fcc5471ad478e984606957e63368a8e10843ab5d8763fb2"), looks := true }, kinds := [], alts := [], laidByText := true, laidKinds := [.data, .data, .data, .data, .sentinel, .sentinel, .pinned], laidTests := true, laidLooks := .later }
def BookNamesUptoCardSaid : Prop := Claim7.holds Tryz.pinned (.plain (OpenSpec.upto bookNamesSpec)) bookNamesUptoCard

/-- THE SECOND FORM's CARD OF 'jigworkslaw14.BookBack'. -/
def bookBackUptoCard : Claim7 := { stood := { row := bookBackUptoRow, standIns := [], harness := (true, "058208d46cc7df450fcc5471ad478e984606957e63368a8e10843ab5d8763fb2"), looks := true }, kinds := [], alts := [], laidByText := true, laidKinds := [.data, .data, .data, .data, .sentinel, .sentinel, .pinned], laidTests := true, laidLooks := .later }
def BookBackUptoCardSaid : Prop := Claim7.holds Tryz.pinned (.plain (OpenSpec.upto bookBackSpec)) bookBackUptoCard

/-- THE SECOND FORM's CARD OF 'jigworkslaw14.BookAgain'. -/
def bookAgainUptoCard : Claim7 := { stood := { row := bookAgainUptoRow, standIns := [], harness := (true, "058208d46cc7df450fcc5471ad478e984606957e63368a8e10843ab5d8763fb2"), looks := true }, kinds := [], alts := [], laidByText := true, laidKinds := [.data, .data, .data, .data, .sentinel, .sentinel, .pinned], laidTests := true, laidLooks := .later }
def BookAgainUptoCardSaid : Prop := Claim7.holds Tryz.pinned (.plain (OpenSpec.upto bookAgainSpec)) bookAgainUptoCard

/-- THE SECOND FORM's CARD OF 'jigworkslaw14.BookWrong'. -/
def bookWrongUptoCard : Claim7 := { stood := { row := bookWrongUptoRow, standIns := [], harness := (true, "058208d46cc7df450fcc5471ad478e984606957e63368a8e10843ab5d8763fb2"), looks := true }, kinds := [], alts := [], laidByText := true, laidKinds := [.data, .data, .data, .data, .sentinel, .sentinel, .pinned], laidTests := true, laidLooks := .later }
def BookWrongUptoCardSaid : Prop := Claim7.holds Tryz.pinned (.plain (OpenSpec.upto bookWrongSpec)) bookWrongUptoCard

/-- THE SECOND FORM's CARD OF 'jigworkslaw14.BookApart'. -/
def bookApartUptoCard : Claim7 := { stood := { row := bookApartUptoRow, standIns := [], harness := (true, "058208d46cc7df450fcc5471ad478e984606957e63368a8e10843ab5d8763fb2"), looks := true }, kinds := [], alts := [], laidByText := true, laidKinds := [.data, .data, .data, .data, .sentinel, .sentinel, .pinned], laidTests := true, laidLooks := .later }
def BookApartUptoCardSaid : Prop := Claim7.holds Tryz.pinned (.plain (OpenSpec.upto bookApartSpec)) bookApartUptoCard

/-- THE SECOND FORM's CARD OF 'jigworkslaw14.BookOwns'. -/
def bookOwnsUptoCard : Claim7 := { stood := { row := bookOwnsUptoRow, standIns := [], harness := (true, "058208d46cc7df450fcc5471ad478e984606957e63368a8e10843ab5d8763fb2"), looks := true }, kinds := [], alts := [], laidByText := true, laidKinds := [.data, .data, .data, .data, .sentinel, .sentinel, .pinned], laidTests := true, laidLooks := .later }
def BookOwnsUptoCardSaid : Prop := Claim7.holds Tryz.pinned (.plain (OpenSpec.upto bookOwnsSpec)) bookOwnsUptoCard

/-- THE SECOND FORM's CARD OF 'jigworkslaw14.BookGrows'. -/
def bookGrowsUptoCard : Claim7 := { stood := { row := bookGrowsUptoRow, standIns := [], harness := (true, "058208d46cc7df450fcc5471ad478e984606957e63368a8e10843ab5d8763fb2"), looks := true }, kinds := [], alts := [], laidByText := true, laidKinds := [.data, .data, .data, .data, .sentinel, .sentinel, .pinned], laidTests := true, laidLooks := .later }
def BookGrowsUptoCardSaid : Prop := Claim7.holds Tryz.pinned (.plain (OpenSpec.upto bookGrowsSpec)) bookGrowsUptoCard
end Rows
end Go.Proofs.YtonnemkecppmiaaGreatDoor
