/-
  NARROWER THAN 'FOR EVERY INPUT', by the rows' own cells (each row's printed sentence says how): StockTakes: laid · StockProfits: laid · StockAccepts: laid · StockTrue: laid · StockEnds: laid · StockBest: laid · StockMay: laid · StockMore: laid · StockSplit: laid.
  DERIVED. THE GIVEN ROWS OF THIS SEAT. 9 by the template 'for every input the law returns true; each argument reads behind the call as it read before'; 0 by the template 'total and deterministic' (their statements: YtfffhbolaimmdaaDoorTotals.lean).
  GIVEN WITH THE SEED: the statements are not yours to turn. If you find one false, say at which input.
  Laid BY PROGRAM, IN A SANDBOX (cutbox-rows.mjs): the forced cells as the released guide's own fill.sh prints them over the translation 4743cc67ffe43eed… (all of the seat's roots in one cut). By AI agents, Wed Nov 11 2026. No macro, syntax, notation, axiom, sorry.
-/
import Derived.Test.YtfffhbolaimmdaaDoorChecked
import GoSem.Claim
import GoSem.ClaimJoined
import GoSem.ClaimMapViews
import Derived.JoinedTies
import Derived.KernelRfl
namespace Go.Proofs.YtfffhbolaimmdaaDoor
/- THE CELL 'sum', in the pinned program and in every row, IS THE sha256 OF THE DUMP (.gsa) THAT YtfffhbolaimmdaaDoorProg.lean LOADS. Nothing in Lean hashes anything: it is a label: what it is worth is what the hold of that sum in a sandbox is worth. -/
noncomputable def Tryd.pinned : Pinned := { name := "ytfffhbolaimmdaadoor", sum := "4743cc67ffe43eed3d07a70e35c435b039da391be2b4f68d63083544c751c845", checked := Tryd.checked }
namespace Rows
def none {H : Type} : Left H := { results := [], args := [] }

/- WHAT THE LISTED PACKAGE-LEVEL VARIABLES READ AS WHEN THE CALL BEGINS. Each datum BY PROGRAM (the guide's laid-datum.mjs) off the statement by which the dump's own 'gosem.cut.vars' lays the variable. In a bare row this is a premise. The card (YtfffhbolaimmdaaDoorCards.lean) ties it to the program's text. -/
def laid_math_bits_deBruijn32tab {H : Type} : DataW H := .agg [.lit (.int .u8 0), .lit (.int .u8 1), .lit (.int .u8 28), .lit (.int .u8 2), .lit (.int .u8 29), .lit (.int .u8 14), .lit (.int .u8 24), .lit (.int .u8 3), .lit (.int .u8 30), .lit (.int .u8 22), .lit (.int .u8 20), .lit (.int .u8 15), .lit (.int .u8 25), .lit (.int .u8 17), .lit (.int .u8 4), .lit (.int .u8 8), .lit (.int .u8 31), .lit (.int .u8 27), .lit (.int .u8 13), .lit (.int .u8 23), .lit (.int .u8 21), .lit (.int .u8 19), .lit (.int .u8 16), .lit (.int .u8 7), .lit (.int .u8 26), .lit (.int .u8 12), .lit (.int .u8 18), .lit (.int .u8 6), .lit (.int .u8 11), .lit (.int .u8 5), .lit (.int .u8 10), .lit (.int .u8 9)]
def laid_math_bits_deBruijn64tab {H : Type} : DataW H := .agg [.lit (.int .u8 0), .lit (.int .u8 1), .lit (.int .u8 56), .lit (.int .u8 2), .lit (.int .u8 57), .lit (.int .u8 49), .lit (.int .u8 28), .lit (.int .u8 3), .lit (.int .u8 61), .lit (.int .u8 58), .lit (.int .u8 42), .lit (.int .u8 50), .lit (.int .u8 38), .lit (.int .u8 29), .lit (.int .u8 17), .lit (.int .u8 4), .lit (.int .u8 62), .lit (.int .u8 47), .lit (.int .u8 59), .lit (.int .u8 36), .lit (.int .u8 45), .lit (.int .u8 43), .lit (.int .u8 51), .lit (.int .u8 22), .lit (.int .u8 53), .lit (.int .u8 39), .lit (.int .u8 33), .lit (.int .u8 30), .lit (.int .u8 24), .lit (.int .u8 18), .lit (.int .u8 12), .lit (.int .u8 5), .lit (.int .u8 63), .lit (.int .u8 55), .lit (.int .u8 48), .lit (.int .u8 27), .lit (.int .u8 60), .lit (.int .u8 41), .lit (.int .u8 37), .lit (.int .u8 16), .lit (.int .u8 46), .lit (.int .u8 35), .lit (.int .u8 44), .lit (.int .u8 21), .lit (.int .u8 52), .lit (.int .u8 32), .lit (.int .u8 23), .lit (.int .u8 11), .lit (.int .u8 54), .lit (.int .u8 26), .lit (.int .u8 40), .lit (.int .u8 15), .lit (.int .u8 34), .lit (.int .u8 20), .lit (.int .u8 31), .lit (.int .u8 10), .lit (.int .u8 25), .lit (.int .u8 14), .lit (.int .u8 19), .lit (.int .u8 9), .lit (.int .u8 13), .lit (.int .u8 8), .lit (.int .u8 7), .lit (.int .u8 6)]

/-- 'jigworkslaw13.StockTakes': WHATEVER THE INPUT: true; the input reads as it did. -/
def stockTakesSpec : ChangeSpec := { name := "stockTakes", fn := fun _ => fun
  | [d1, d2] => { results := [.lit (.bool true)], args := [d1, d2] }
  | _ => none }
def stockTakesRow : OpenClaim := { program := "ytfffhbolaimmdaadoor", sum := "4743cc67ffe43eed3d07a70e35c435b039da391be2b4f68d63083544c751c845", func := "jigworks/jigworkslaw13.StockTakes", spec := "stockTakes", unfollowed := true, recurses := true, named := ["math/bits.deBruijn32tab", "math/bits.deBruijn64tab"], apart := false, laid := [("math/bits.deBruijn32tab", laid_math_bits_deBruijn32tab), ("math/bits.deBruijn64tab", laid_math_bits_deBruijn64tab)] }
def StockTakesSaid : Prop := stockTakesRow.holds Tryd.pinned (OpenSpec.ofChange stockTakesSpec)

/-- ITS FALSE NEIGHBOUR: 'it returns false'. Refute it at one input. -/
def stockTakesWrong : ChangeSpec := { name := "stockTakes", fn := fun _ => fun
  | [d1, d2] => { results := [.lit (.bool false)], args := [d1, d2] }
  | _ => none }
def StockTakesWrongFalsely : Prop := stockTakesRow.holds Tryd.pinned (OpenSpec.ofChange stockTakesWrong)

/-- 'jigworkslaw13.StockProfits': WHATEVER THE INPUT: true; the input reads as it did. -/
def stockProfitsSpec : ChangeSpec := { name := "stockProfits", fn := fun _ => fun
  | [d1, d2] => { results := [.lit (.bool true)], args := [d1, d2] }
  | _ => none }
def stockProfitsRow : OpenClaim := { program := "ytfffhbolaimmdaadoor", sum := "4743cc67ffe43eed3d07a70e35c435b039da391be2b4f68d63083544c751c845", func := "jigworks/jigworkslaw13.StockProfits", spec := "stockProfits", unfollowed := true, recurses := true, named := ["math/bits.deBruijn32tab", "math/bits.deBruijn64tab"], apart := false, laid := [("math/bits.deBruijn32tab", laid_math_bits_deBruijn32tab), ("math/bits.deBruijn64tab", laid_math_bits_deBruijn64tab)] }
def StockProfitsSaid : Prop := stockProfitsRow.holds Tryd.pinned (OpenSpec.ofChange stockProfitsSpec)

/-- ITS FALSE NEIGHBOUR: 'it returns false'. Refute it at one input. -/
def stockProfitsWrong : ChangeSpec := { name := "stockProfits", fn := fun _ => fun
  | [d1, d2] => { results := [.lit (.bool false)], args := [d1, d2] }
  | _ => none }
def StockProfitsWrongFalsely : Prop := stockProfitsRow.holds Tryd.pinned (OpenSpec.ofChange stockProfitsWrong)

/-- 'jigworkslaw13.StockAccepts': WHATEVER THE INPUT: true; the input reads as it did. -/
def stockAcceptsSpec : ChangeSpec := { name := "stockAccepts", fn := fun _ => fun
  | [d] => { results := [.lit (.bool true)], args := [d] }
  | _ => none }
def stockAcceptsRow : OpenClaim := { program := "ytfffhbolaimmdaadoor", sum := "4743cc67ffe43eed3d07a70e35c435b039da391be2b4f68d63083544c751c845", func := "jigworks/jigworkslaw13.StockAccepts", spec := "stockAccepts", unfollowed := true, recurses := true, named := ["math/bits.deBruijn32tab", "math/bits.deBruijn64tab"], apart := false, laid := [("math/bits.deBruijn32tab", laid_math_bits_deBruijn32tab), ("math/bits.deBruijn64tab", laid_math_bits_deBruijn64tab)] }
def StockAcceptsSaid : Prop := stockAcceptsRow.holds Tryd.pinned (OpenSpec.ofChange stockAcceptsSpec)

/-- ITS FALSE NEIGHBOUR: 'it returns false'. Refute it at one input. -/
def stockAcceptsWrong : ChangeSpec := { name := "stockAccepts", fn := fun _ => fun
  | [d] => { results := [.lit (.bool false)], args := [d] }
  | _ => none }
def StockAcceptsWrongFalsely : Prop := stockAcceptsRow.holds Tryd.pinned (OpenSpec.ofChange stockAcceptsWrong)

/-- 'jigworkslaw13.StockTrue': WHATEVER THE INPUT: true; the input reads as it did. -/
def stockTrueSpec : ChangeSpec := { name := "stockTrue", fn := fun _ => fun
  | [d1, d2, d3] => { results := [.lit (.bool true)], args := [d1, d2, d3] }
  | _ => none }
def stockTrueRow : OpenClaim := { program := "ytfffhbolaimmdaadoor", sum := "4743cc67ffe43eed3d07a70e35c435b039da391be2b4f68d63083544c751c845", func := "jigworks/jigworkslaw13.StockTrue", spec := "stockTrue", unfollowed := true, recurses := true, named := ["math/bits.deBruijn32tab", "math/bits.deBruijn64tab"], apart := false, laid := [("math/bits.deBruijn32tab", laid_math_bits_deBruijn32tab), ("math/bits.deBruijn64tab", laid_math_bits_deBruijn64tab)] }
def StockTrueSaid : Prop := stockTrueRow.holds Tryd.pinned (OpenSpec.ofChange stockTrueSpec)

/-- ITS FALSE NEIGHBOUR: 'it returns false'. Refute it at one input. -/
def stockTrueWrong : ChangeSpec := { name := "stockTrue", fn := fun _ => fun
  | [d1, d2, d3] => { results := [.lit (.bool false)], args := [d1, d2, d3] }
  | _ => none }
def StockTrueWrongFalsely : Prop := stockTrueRow.holds Tryd.pinned (OpenSpec.ofChange stockTrueWrong)

/-- 'jigworkslaw13.StockEnds': WHATEVER THE INPUT: true; the input reads as it did. -/
def stockEndsSpec : ChangeSpec := { name := "stockEnds", fn := fun _ => fun
  | [d1, d2] => { results := [.lit (.bool true)], args := [d1, d2] }
  | _ => none }
def stockEndsRow : OpenClaim := { program := "ytfffhbolaimmdaadoor", sum := "4743cc67ffe43eed3d07a70e35c435b039da391be2b4f68d63083544c751c845", func := "jigworks/jigworkslaw13.StockEnds", spec := "stockEnds", unfollowed := true, recurses := true, named := ["math/bits.deBruijn32tab", "math/bits.deBruijn64tab"], apart := false, laid := [("math/bits.deBruijn32tab", laid_math_bits_deBruijn32tab), ("math/bits.deBruijn64tab", laid_math_bits_deBruijn64tab)] }
def StockEndsSaid : Prop := stockEndsRow.holds Tryd.pinned (OpenSpec.ofChange stockEndsSpec)

/-- ITS FALSE NEIGHBOUR: 'it returns false'. Refute it at one input. -/
def stockEndsWrong : ChangeSpec := { name := "stockEnds", fn := fun _ => fun
  | [d1, d2] => { results := [.lit (.bool false)], args := [d1, d2] }
  | _ => none }
def StockEndsWrongFalsely : Prop := stockEndsRow.holds Tryd.pinned (OpenSpec.ofChange stockEndsWrong)

/-- 'jigworkslaw13.StockBest': WHATEVER THE INPUT: true; the input reads as it did. -/
def stockBestSpec : ChangeSpec := { name := "stockBest", fn := fun _ => fun
  | [d1, d2] => { results := [.lit (.bool true)], args := [d1, d2] }
  | _ => none }
def stockBestRow : OpenClaim := { program := "ytfffhbolaimmdaadoor", sum := "4743cc67ffe43eed3d07a70e35c435b039da391be2b4f68d63083544c751c845", func := "jigworks/jigworkslaw13.StockBest", spec := "stockBest", unfollowed := true, recurses := true, named := ["math/bits.deBruijn32tab", "math/bits.deBruijn64tab"], apart := false, laid := [("math/bits.deBruijn32tab", laid_math_bits_deBruijn32tab), ("math/bits.deBruijn64tab", laid_math_bits_deBruijn64tab)] }
def StockBestSaid : Prop := stockBestRow.holds Tryd.pinned (OpenSpec.ofChange stockBestSpec)

/-- ITS FALSE NEIGHBOUR: 'it returns false'. Refute it at one input. -/
def stockBestWrong : ChangeSpec := { name := "stockBest", fn := fun _ => fun
  | [d1, d2] => { results := [.lit (.bool false)], args := [d1, d2] }
  | _ => none }
def StockBestWrongFalsely : Prop := stockBestRow.holds Tryd.pinned (OpenSpec.ofChange stockBestWrong)

/-- 'jigworkslaw13.StockMay': WHATEVER THE INPUT: true; the input reads as it did. -/
def stockMaySpec : ChangeSpec := { name := "stockMay", fn := fun _ => fun
  | [d1, d2, d3] => { results := [.lit (.bool true)], args := [d1, d2, d3] }
  | _ => none }
def stockMayRow : OpenClaim := { program := "ytfffhbolaimmdaadoor", sum := "4743cc67ffe43eed3d07a70e35c435b039da391be2b4f68d63083544c751c845", func := "jigworks/jigworkslaw13.StockMay", spec := "stockMay", unfollowed := true, recurses := true, named := ["math/bits.deBruijn32tab", "math/bits.deBruijn64tab"], apart := false, laid := [("math/bits.deBruijn32tab", laid_math_bits_deBruijn32tab), ("math/bits.deBruijn64tab", laid_math_bits_deBruijn64tab)] }
def StockMaySaid : Prop := stockMayRow.holds Tryd.pinned (OpenSpec.ofChange stockMaySpec)

/-- ITS FALSE NEIGHBOUR: 'it returns false'. Refute it at one input. -/
def stockMayWrong : ChangeSpec := { name := "stockMay", fn := fun _ => fun
  | [d1, d2, d3] => { results := [.lit (.bool false)], args := [d1, d2, d3] }
  | _ => none }
def StockMayWrongFalsely : Prop := stockMayRow.holds Tryd.pinned (OpenSpec.ofChange stockMayWrong)

/-- 'jigworkslaw13.StockMore': WHATEVER THE INPUT: true; the input reads as it did. -/
def stockMoreSpec : ChangeSpec := { name := "stockMore", fn := fun _ => fun
  | [d1, d2, d3, d4, d5] => { results := [.lit (.bool true)], args := [d1, d2, d3, d4, d5] }
  | _ => none }
def stockMoreRow : OpenClaim := { program := "ytfffhbolaimmdaadoor", sum := "4743cc67ffe43eed3d07a70e35c435b039da391be2b4f68d63083544c751c845", func := "jigworks/jigworkslaw13.StockMore", spec := "stockMore", unfollowed := true, recurses := true, named := ["math/bits.deBruijn32tab", "math/bits.deBruijn64tab"], apart := false, laid := [("math/bits.deBruijn32tab", laid_math_bits_deBruijn32tab), ("math/bits.deBruijn64tab", laid_math_bits_deBruijn64tab)] }
def StockMoreSaid : Prop := stockMoreRow.holds Tryd.pinned (OpenSpec.ofChange stockMoreSpec)

/-- ITS FALSE NEIGHBOUR: 'it returns false'. Refute it at one input. -/
def stockMoreWrong : ChangeSpec := { name := "stockMore", fn := fun _ => fun
  | [d1, d2, d3, d4, d5] => { results := [.lit (.bool false)], args := [d1, d2, d3, d4, d5] }
  | _ => none }
def StockMoreWrongFalsely : Prop := stockMoreRow.holds Tryd.pinned (OpenSpec.ofChange stockMoreWrong)

/-- 'jigworkslaw13.StockSplit': WHATEVER THE INPUT: true; the input reads as it did. -/
def stockSplitSpec : ChangeSpec := { name := "stockSplit", fn := fun _ => fun
  | [d1, d2, d3, d4] => { results := [.lit (.bool true)], args := [d1, d2, d3, d4] }
  | _ => none }
def stockSplitRow : OpenClaim := { program := "ytfffhbolaimmdaadoor", sum := "4743cc67ffe43eed3d07a70e35c435b039da391be2b4f68d63083544c751c845", func := "jigworks/jigworkslaw13.StockSplit", spec := "stockSplit", unfollowed := true, recurses := true, named := ["math/bits.deBruijn32tab", "math/bits.deBruijn64tab"], apart := false, laid := [("math/bits.deBruijn32tab", laid_math_bits_deBruijn32tab), ("math/bits.deBruijn64tab", laid_math_bits_deBruijn64tab)] }
def StockSplitSaid : Prop := stockSplitRow.holds Tryd.pinned (OpenSpec.ofChange stockSplitSpec)

/-- ITS FALSE NEIGHBOUR: 'it returns false'. Refute it at one input. -/
def stockSplitWrong : ChangeSpec := { name := "stockSplit", fn := fun _ => fun
  | [d1, d2, d3, d4] => { results := [.lit (.bool false)], args := [d1, d2, d3, d4] }
  | _ => none }
def StockSplitWrongFalsely : Prop := stockSplitRow.holds Tryd.pinned (OpenSpec.ofChange stockSplitWrong)

/- THE SECOND FORM. 'bulk': how many values and letters a reading holds, each counted each time it is reached (what is shared counts as often as it is met; a slice's spare places count too). A statement '..UptoSaid' is the law's where the arguments, and the package variables that the reading takes, are together of bulk at most 1048576: NARROWER than '..Said'. Prove '..Said' where nothing that the law and all that it calls make is longer than what came in: it says more and counts as full. Else prove '..UptoSaid'. A law counts once. -/
mutual
def uptoBulk {H : Type} : DataW H → Nat
  | .lit (.string bytes) => bytes.length + 1
  | .lit _ => 1
  | .nil => 1
  | .ptr d => uptoBulk d + 1
  | .slice elems spare => uptoBulkAll elems + uptoBulkAll spare + 1
  | .agg parts => uptoBulkAll parts + 1
  | .iface _ d => uptoBulk d + 1
  | .map entries => uptoBulkEntries entries + 1
  | .held _ => 1
def uptoBulkAll {H : Type} : List (DataW H) → Nat
  | [] => 0
  | d :: r => uptoBulk d + uptoBulkAll r
def uptoBulkEntries {H : Type} : List (Lit × DataW H) → Nat
  | [] => 0
  | x :: r => uptoBulkEntry x + uptoBulkEntries r
def uptoBulkEntry {H : Type} : Lit × DataW H → Nat
  | (.string bytes, d) => bytes.length + uptoBulk d + 1
  | (_, d) => uptoBulk d + 1
 end
def uptoSmall : (H : Type) → List (DataW H) → Bool := fun _ ds => decide (uptoBulkAll ds ≤ 1048576)
def OpenSpec.upto (s : _root_.Go.ChangeSpec) : _root_.Go.OpenSpec := { _root_.Go.OpenSpec.ofChange s with cond := some uptoSmall }

/-- 'jigworkslaw13.StockTakes', WHERE WHAT IT READS IS OF BULK AT MOST 1048576: true; the input reads as it did. -/
def stockTakesUptoRow : OpenClaim := { program := "ytfffhbolaimmdaadoor", sum := "4743cc67ffe43eed3d07a70e35c435b039da391be2b4f68d63083544c751c845", func := "jigworks/jigworkslaw13.StockTakes", spec := "stockTakes", unfollowed := true, recurses := true, named := ["math/bits.deBruijn32tab", "math/bits.deBruijn64tab"], apart := false, laid := [("math/bits.deBruijn32tab", laid_math_bits_deBruijn32tab), ("math/bits.deBruijn64tab", laid_math_bits_deBruijn64tab)], narrowed := true }
def StockTakesUptoSaid : Prop := stockTakesUptoRow.holds Tryd.pinned (OpenSpec.upto stockTakesSpec)

/-- 'jigworkslaw13.StockProfits', WHERE WHAT IT READS IS OF BULK AT MOST 1048576: true; the input reads as it did. -/
def stockProfitsUptoRow : OpenClaim := { program := "ytfffhbolaimmdaadoor", sum := "4743cc67ffe43eed3d07a70e35c435b039da391be2b4f68d63083544c751c845", func := "jigworks/jigworkslaw13.StockProfits", spec := "stockProfits", unfollowed := true, recurses := true, named := ["math/bits.deBruijn32tab", "math/bits.deBruijn64tab"], apart := false, laid := [("math/bits.deBruijn32tab", laid_math_bits_deBruijn32tab), ("math/bits.deBruijn64tab", laid_math_bits_deBruijn64tab)], narrowed := true }
def StockProfitsUptoSaid : Prop := stockProfitsUptoRow.holds Tryd.pinned (OpenSpec.upto stockProfitsSpec)

/-- 'jigworkslaw13.StockAccepts', WHERE WHAT IT READS IS OF BULK AT MOST 1048576: true; the input reads as it did. -/
def stockAcceptsUptoRow : OpenClaim := { program := "ytfffhbolaimmdaadoor", sum := "4743cc67ffe43eed3d07a70e35c435b039da391be2b4f68d63083544c751c845", func := "jigworks/jigworkslaw13.StockAccepts", spec := "stockAccepts", unfollowed := true, recurses := true, named := ["math/bits.deBruijn32tab", "math/bits.deBruijn64tab"], apart := false, laid := [("math/bits.deBruijn32tab", laid_math_bits_deBruijn32tab), ("math/bits.deBruijn64tab", laid_math_bits_deBruijn64tab)], narrowed := true }
def StockAcceptsUptoSaid : Prop := stockAcceptsUptoRow.holds Tryd.pinned (OpenSpec.upto stockAcceptsSpec)

/-- 'jigworkslaw13.StockTrue', WHERE WHAT IT READS IS OF BULK AT MOST 1048576: true; the input reads as it did. -/
def stockTrueUptoRow : OpenClaim := { program := "ytfffhbolaimmdaadoor", sum := "4743cc67ffe43eed3d07a70e35c435b039da391be2b4f68d63083544c751c845", func := "jigworks/jigworkslaw13.StockTrue", spec := "stockTrue", unfollowed := true, recurses := true, named := ["math/bits.deBruijn32tab", "math/bits.deBruijn64tab"], apart := false, laid := [("math/bits.deBruijn32tab", laid_math_bits_deBruijn32tab), ("math/bits.deBruijn64tab", laid_math_bits_deBruijn64tab)], narrowed := true }
def StockTrueUptoSaid : Prop := stockTrueUptoRow.holds Tryd.pinned (OpenSpec.upto stockTrueSpec)

/-- 'jigworkslaw13.StockEnds', WHERE WHAT IT READS IS OF BULK AT MOST 1048576: true; the input reads as it did. -/
def stockEndsUptoRow : OpenClaim := { program := "ytfffhbolaimmdaadoor", sum := "4743cc67ffe43eed3d07a70e35c435b039da391be2b4f68d63083544c751c845", func := "jigworks/jigworkslaw13.StockEnds", spec := "stockEnds", unfollowed := true, recurses := true, named := ["math/bits.deBruijn32tab", "math/bits.deBruijn64tab"], apart := false, laid := [("math/bits.deBruijn32tab", laid_math_bits_deBruijn32tab), ("math/bits.deBruijn64tab", laid_math_bits_deBruijn64tab)], narrowed := true }
def StockEndsUptoSaid : Prop := stockEndsUptoRow.holds Tryd.pinned (OpenSpec.upto stockEndsSpec)

/-- 'jigworkslaw13.StockBest', WHERE WHAT IT READS IS OF BULK AT MOST 1048576: true; the input reads as it did. -/
def stockBestUptoRow : OpenClaim := { program := "ytfffhbolaimmdaadoor", sum := "4743cc67ffe43eed3d07a70e35c435b039da391be2b4f68d63083544c751c845", func := "jigworks/jigworkslaw13.StockBest", spec := "stockBest", unfollowed := true, recurses := true, named := ["math/bits.deBruijn32tab", "math/bits.deBruijn64tab"], apart := false, laid := [("math/bits.deBruijn32tab", laid_math_bits_deBruijn32tab), ("math/bits.deBruijn64tab", laid_math_bits_deBruijn64tab)], narrowed := true }
def StockBestUptoSaid : Prop := stockBestUptoRow.holds Tryd.pinned (OpenSpec.upto stockBestSpec)

/-- 'jigworkslaw13.StockMay', WHERE WHAT IT READS IS OF BULK AT MOST 1048576: true; the input reads as it did. -/
def stockMayUptoRow : OpenClaim := { program := "ytfffhbolaimmdaadoor", sum := "4743cc67ffe43eed3d07a70e35c435b039da391be2b4f68d63083544c751c845", func := "jigworks/jigworkslaw13.StockMay", spec := "stockMay", unfollowed := true, recurses := true, named := ["math/bits.deBruijn32tab", "math/bits.deBruijn64tab"], apart := false, laid := [("math/bits.deBruijn32tab", laid_math_bits_deBruijn32tab), ("math/bits.deBruijn64tab", laid_math_bits_deBruijn64tab)], narrowed := true }
def StockMayUptoSaid : Prop := stockMayUptoRow.holds Tryd.pinned (OpenSpec.upto stockMaySpec)

/-- 'jigworkslaw13.StockMore', WHERE WHAT IT READS IS OF BULK AT MOST 1048576: true; the input reads as it did. -/
def stockMoreUptoRow : OpenClaim := { program := "ytfffhbolaimmdaadoor", sum := "4743cc67ffe43eed3d07a70e35c435b039da391be2b4f68d63083544c751c845", func := "jigworks/jigworkslaw13.StockMore", spec := "stockMore", unfollowed := true, recurses := true, named := ["math/bits.deBruijn32tab", "math/bits.deBruijn64tab"], apart := false, laid := [("math/bits.deBruijn32tab", laid_math_bits_deBruijn32tab), ("math/bits.deBruijn64tab", laid_math_bits_deBruijn64tab)], narrowed := true }
def StockMoreUptoSaid : Prop := stockMoreUptoRow.holds Tryd.pinned (OpenSpec.upto stockMoreSpec)

/-- 'jigworkslaw13.StockSplit', WHERE WHAT IT READS IS OF BULK AT MOST 1048576: true; the input reads as it did. -/
def stockSplitUptoRow : OpenClaim := { program := "ytfffhbolaimmdaadoor", sum := "4743cc67ffe43eed3d07a70e35c435b039da391be2b4f68d63083544c751c845", func := "jigworks/jigworkslaw13.StockSplit", spec := "stockSplit", unfollowed := true, recurses := true, named := ["math/bits.deBruijn32tab", "math/bits.deBruijn64tab"], apart := false, laid := [("math/bits.deBruijn32tab", laid_math_bits_deBruijn32tab), ("math/bits.deBruijn64tab", laid_math_bits_deBruijn64tab)], narrowed := true }
def StockSplitUptoSaid : Prop := stockSplitUptoRow.holds Tryd.pinned (OpenSpec.upto stockSplitSpec)

end Rows
end Go.Proofs.YtfffhbolaimmdaaDoor
