/-
  DERIVED. GIVEN WITH THE SEED: THE CARDS: each row of YtfffhbolaimmdaaDoorRows.lean that lists a variable, with what it lists TIED to the program's text (the seventh form; the later family's looks); each row that meets fmt, with fmt's text TOLD by the authors' own Lean function (tested against real Go, not proved from fmt's source: count such statements apart). THE CARD IS WHAT COUNTS. Prove the row's statement (the work); the ties are given (YtfffhbolaimmdaaDoorTie.lean); close each card by the builder's one call (the guide's Derived/Test/ToyasCard.lean, 'card_holds'). Laid BY PROGRAM, IN A SANDBOX (cutbox-door.mjs). By AI agents, Wed Nov 11 2026. No macro, syntax, notation, axiom, sorry.
-/
import Derived.Test.YtfffhbolaimmdaaDoorRows
import GoSem.ClaimSeven
namespace Go.Proofs.YtfffhbolaimmdaaDoor
namespace Rows

/-- THE TIED CARD OF 'jigworkslaw13.StockTakes'. -/
def stockTakesCard : Claim7 := { stood := { row := stockTakesRow, standIns := [], harness := (true, "92143ec73c6be41e539ce9d1835bdbc62ce78d9d20b6ecb10f194f18b3d9fb91"), looks := false }, kinds := [], alts := [], laidByText := true, laidKinds := [.data, .data], laidTests := true, laidLooks := .later }
def StockTakesCardSaid : Prop := Claim7.holds Tryd.pinned (.plain (OpenSpec.ofChange stockTakesSpec)) stockTakesCard

/-- THE TIED CARD OF 'jigworkslaw13.StockProfits'. -/
def stockProfitsCard : Claim7 := { stood := { row := stockProfitsRow, standIns := [], harness := (true, "92143ec73c6be41e539ce9d1835bdbc62ce78d9d20b6ecb10f194f18b3d9fb91"), looks := false }, kinds := [], alts := [], laidByText := true, laidKinds := [.data, .data], laidTests := true, laidLooks := .later }
def StockProfitsCardSaid : Prop := Claim7.holds Tryd.pinned (.plain (OpenSpec.ofChange stockProfitsSpec)) stockProfitsCard

/-- THE TIED CARD OF 'jigworkslaw13.StockAccepts'. -/
def stockAcceptsCard : Claim7 := { stood := { row := stockAcceptsRow, standIns := [], harness := (true, "92143ec73c6be41e539ce9d1835bdbc62ce78d9d20b6ecb10f194f18b3d9fb91"), looks := false }, kinds := [], alts := [], laidByText := true, laidKinds := [.data, .data], laidTests := true, laidLooks := .later }
def StockAcceptsCardSaid : Prop := Claim7.holds Tryd.pinned (.plain (OpenSpec.ofChange stockAcceptsSpec)) stockAcceptsCard

/-- THE TIED CARD OF 'jigworkslaw13.StockTrue'. -/
def stockTrueCard : Claim7 := { stood := { row := stockTrueRow, standIns := [], harness := (true, "92143ec73c6be41e539ce9d1835bdbc62ce78d9d20b6ecb10f194f18b3d9fb91"), looks := false }, kinds := [], alts := [], laidByText := true, laidKinds := [.data, .data], laidTests := true, laidLooks := .later }
def StockTrueCardSaid : Prop := Claim7.holds Tryd.pinned (.plain (OpenSpec.ofChange stockTrueSpec)) stockTrueCard

/-- THE TIED CARD OF 'jigworkslaw13.StockEnds'. -/
def stockEndsCard : Claim7 := { stood := { row := stockEndsRow, standIns := [], harness := (true, "92143ec73c6be41e539ce9d1835bdbc62ce78d9d20b6ecb10f194f18b3d9fb91"), looks := false }, kinds := [], alts := [], laidByText := true, laidKinds := [.data, .data], laidTests := true, laidLooks := .later }
def StockEndsCardSaid : Prop := Claim7.holds Tryd.pinned (.plain (OpenSpec.ofChange stockEndsSpec)) stockEndsCard

/-- THE TIED CARD OF 'jigworkslaw13.StockBest'. -/
def stockBestCard : Claim7 := { stood := { row := stockBestRow, standIns := [], harness := (true, "92143ec73c6be41e539ce9d1835bdbc62ce78d9d20b6ecb10f194f18b3d9fb91"), looks := false }, kinds := [], alts := [], laidByText := true, laidKinds := [.data, .data], laidTests := true, laidLooks := .later }
def StockBestCardSaid : Prop := Claim7.holds Tryd.pinned (.plain (OpenSpec.ofChange stockBestSpec)) stockBestCard

/-- THE TIED CARD OF 'jigworkslaw13.StockMay'. -/
def stockMayCard : Claim7 := { stood := { row := stockMayRow, standIns := [], harness := (true, "92143ec73c6be41e539ce9d1835bdbc62ce78d9d20b6ecb10f194f18b3d9fb91"), looks := false }, kinds := [], alts := [], laidByText := true, laidKinds := [.data, .data], laidTests := true, laidLooks := .later }
def StockMayCardSaid : Prop := Claim7.holds Tryd.pinned (.plain (OpenSpec.ofChange stockMaySpec)) stockMayCard

/-- THE TIED CARD OF 'jigworkslaw13.StockMore'. -/
def stockMoreCard : Claim7 := { stood := { row := stockMoreRow, standIns := [], harness := (true, "92143ec73c6be41e539ce9d1835bdbc62ce78d9d20b6ecb10f194f18b3d9fb91"), looks := false }, kinds := [], alts := [], laidByText := true, laidKinds := [.data, .data], laidTests := true, laidLooks := .later }
def StockMoreCardSaid : Prop := Claim7.holds Tryd.pinned (.plain (OpenSpec.ofChange stockMoreSpec)) stockMoreCard

/-- THE TIED CARD OF 'jigworkslaw13.StockSplit'. -/
def stockSplitCard : Claim7 := { stood := { row := stockSplitRow, standIns := [], harness := (true, "92143ec73c6be41e539ce9d1835bdbc62ce78d9d20b6ecb10f194f18b3d9fb91"), looks := false }, kinds := [], alts := [], laidByText := true, laidKinds := [.data, .data], laidTests := true, laidLooks := .later }
def StockSplitCardSaid : Prop := Claim7.holds Tryd.pinned (.plain (OpenSpec.ofChange stockSplitSpec)) stockSplitCard

/-- THE SECOND FORM's CARD OF 'jigworkslaw13.StockTakes'. -/
def stockTakesUptoCard : Claim7 := { stood := { row := stockTakesUptoRow, standIns := [], harness := (true, "92143ec73c6be41e539ce9d1835bdbc62ce78d9d20b6ecb10f194f18b3d9fb91"), looks := false }, kinds := [], alts := [], laidByText := true, laidKinds := [.data, .data], laidTests := true, laidLooks := .later }
def StockTakesUptoCardSaid : Prop := Claim7.holds Tryd.pinned (.plain (OpenSpec.upto stockTakesSpec)) stockTakesUptoCard

/-- THE SECOND FORM's CARD OF 'jigworkslaw13.StockProfits'. -/
def stockProfitsUptoCard : Claim7 := { stood := { row := stockProfitsUptoRow, standIns := [], harness := (true, "92143ec73c6be41e539ce9d1835bdbc62ce78d9d20b6ecb10f194f18b3d9fb91"), looks := false }, kinds := [], alts := [], laidByText := true, laidKinds := [.data, .data], laidTests := true, laidLooks := .later }
def StockProfitsUptoCardSaid : Prop := Claim7.holds Tryd.pinned (.plain (OpenSpec.upto stockProfitsSpec)) stockProfitsUptoCard

/-- THE SECOND FORM's CARD OF 'jigworkslaw13.StockAccepts'. -/
def stockAcceptsUptoCard : Claim7 := { stood := { row := stockAcceptsUptoRow, standIns := [], harness := (true, "92143ec73c6be41e539ce9d1835bdbc62ce78d9d20b6ecb10f194f18b3d9fb91"), looks := false }, kinds := [], alts := [], laidByText := true, laidKinds := [.data, .data], laidTests := true, laidLooks := .later }
def StockAcceptsUptoCardSaid : Prop := Claim7.holds Tryd.pinned (.plain (OpenSpec.upto stockAcceptsSpec)) stockAcceptsUptoCard

/-- THE SECOND FORM's CARD OF 'jigworkslaw13.StockTrue'. -/
def stockTrueUptoCard : Claim7 := { stood := { row := stockTrueUptoRow, standIns := [], harness := (true, "92143ec73c6be41e539ce9d1835bdbc62ce78d9d20b6ecb10f194f18b3d9fb91"), looks := false }, kinds := [], alts := [], laidByText := true, laidKinds := [.data, .data], laidTests := true, laidLooks := .later }
def StockTrueUptoCardSaid : Prop := Claim7.holds Tryd.pinned (.plain (OpenSpec.upto stockTrueSpec)) stockTrueUptoCard

/-- THE SECOND FORM's CARD OF 'jigworkslaw13.StockEnds'. -/
def stockEndsUptoCard : Claim7 := { stood := { row := stockEndsUptoRow, standIns := [], harness := (true, "92143ec73c6be41e539ce9d1835bdbc62ce78d9d20b6ecb10f194f18b3d9fb91"), looks := false }, kinds := [], alts := [], laidByText := true, laidKinds := [.data, .data], laidTests := true, laidLooks := .later }
def StockEndsUptoCardSaid : Prop := Claim7.holds Tryd.pinned (.plain (OpenSpec.upto stockEndsSpec)) stockEndsUptoCard

/-- THE SECOND FORM's CARD OF 'jigworkslaw13.StockBest'. -/
def stockBestUptoCard : Claim7 := { stood := { row := stockBestUptoRow, standIns := [], harness := (true, "92143ec73c6be41e539ce9d1835bdbc62ce78d9d20b6ecb10f194f18b3d9fb91"), looks := false }, kinds := [], alts := [], laidByText := true, laidKinds := [.data, .data], laidTests := true, laidLooks := .later }
def StockBestUptoCardSaid : Prop := Claim7.holds Tryd.pinned (.plain (OpenSpec.upto stockBestSpec)) stockBestUptoCard

/-- THE SECOND FORM's CARD OF 'jigworkslaw13.StockMay'. -/
def stockMayUptoCard : Claim7 := { stood := { row := stockMayUptoRow, standIns := [], harness := (true, "92143ec73c6be41e539ce9d1835bdbc62ce78d9d20b6ecb10f194f18b3d9fb91"), looks := false }, kinds := [], alts := [], laidByText := true, laidKinds := [.data, .data], laidTests := true, laidLooks := .later }
def StockMayUptoCardSaid : Prop := Claim7.holds Tryd.pinned (.plain (OpenSpec.upto stockMaySpec)) stockMayUptoCard

/-- THE SECOND FORM's CARD OF 'jigworkslaw13.StockMore'. -/
def stockMoreUptoCard : Claim7 := { stood := { row := stockMoreUptoRow, standIns := [], harness := (true, "92143ec73c6be41e539ce9d1835bdbc62ce78d9d20b6ecb10f194f18b3d9fb91"), looks := false }, kinds := [], alts := [], laidByText := true, laidKinds := [.data, .data], laidTests := true, laidLooks := .later }
def StockMoreUptoCardSaid : Prop := Claim7.holds Tryd.pinned (.plain (OpenSpec.upto stockMoreSpec)) stockMoreUptoCard

/-- THE SECOND FORM's CARD OF 'jigworkslaw13.StockSplit'. -/
def stockSplitUptoCard : Claim7 := { stood := { row := stockSplitUptoRow, standIns := [], harness := (true, "92143ec73c6be41e539ce9d1835bdbc62ce78d9d20b6ecb10f194f18b3d9fb91"), looks := false }, kinds := [], alts := [], laidByText := true, laidKinds := [.data, .data], laidTests := true, laidLooks := .later }
def StockSplitUptoCardSaid : Prop := Claim7.holds Tryd.pinned (.plain (OpenSpec.upto stockSplitSpec)) stockSplitUptoCard
end Rows
end Go.Proofs.YtfffhbolaimmdaaDoor
