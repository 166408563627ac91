/-
  NARROWER THAN 'FOR EVERY INPUT', by the rows' own cells (each row's printed sentence says how): RuleOffs: laid · RulePlans: laid · RuleBests: laid · RuleTrue: laid · RuleEnds: laid · RuleBest: laid · RuleProof: laid · RuleMore: laid · RuleLess: laid.
  DERIVED. THE GIVEN ROWS OF THIS SEAT. 9 by the template 'for every input the law returns true; each argument reads behind the call as it read before'; 0 by the template 'total and deterministic' (their statements: YtbhkglokdomajaaDoorTotals.lean).
  GIVEN WITH THE SEED: the statements are not yours to turn. If you find one false, say at which input.
  Laid BY PROGRAM, IN A SANDBOX (cutbox-rows.mjs): the forced cells as the released guide's own fill.sh prints them over the translation 983bb05692847713… (all of the seat's roots in one cut). By AI agents, Wed Nov 11 2026. No macro, syntax, notation, axiom, sorry.
-/
import Derived.Test.YtbhkglokdomajaaDoorChecked
import GoSem.Claim
import GoSem.ClaimJoined
import GoSem.ClaimMapViews
import Derived.JoinedTies
import Derived.KernelRfl
namespace Go.Proofs.YtbhkglokdomajaaDoor
/- THE CELL 'sum', in the pinned program and in every row, IS THE sha256 OF THE DUMP (.gsa) THAT YtbhkglokdomajaaDoorProg.lean LOADS. Nothing in Lean hashes anything: it is a label: what it is worth is what the hold of that sum in a sandbox is worth. -/
noncomputable def Tryd.pinned : Pinned := { name := "ytbhkglokdomajaadoor", sum := "983bb05692847713965b1ca92406b27ee0a228613cb1e493ec0274482b7867fa", checked := Tryd.checked }
namespace Rows
def none {H : Type} : Left H := { results := [], args := [] }

/- WHAT THE LISTED PACKAGE-LEVEL VARIABLES READ AS WHEN THE CALL BEGINS. Each datum BY PROGRAM (the guide's laid-datum.mjs) off the statement by which the dump's own 'gosem.cut.vars' lays the variable. In a bare row this is a premise. The card (YtbhkglokdomajaaDoorCards.lean) ties it to the program's text. -/
def laid_math_bits_deBruijn32tab {H : Type} : DataW H := .agg [.lit (.int .u8 0), .lit (.int .u8 1), .lit (.int .u8 28), .lit (.int .u8 2), .lit (.int .u8 29), .lit (.int .u8 14), .lit (.int .u8 24), .lit (.int .u8 3), .lit (.int .u8 30), .lit (.int .u8 22), .lit (.int .u8 20), .lit (.int .u8 15), .lit (.int .u8 25), .lit (.int .u8 17), .lit (.int .u8 4), .lit (.int .u8 8), .lit (.int .u8 31), .lit (.int .u8 27), .lit (.int .u8 13), .lit (.int .u8 23), .lit (.int .u8 21), .lit (.int .u8 19), .lit (.int .u8 16), .lit (.int .u8 7), .lit (.int .u8 26), .lit (.int .u8 12), .lit (.int .u8 18), .lit (.int .u8 6), .lit (.int .u8 11), .lit (.int .u8 5), .lit (.int .u8 10), .lit (.int .u8 9)]
def laid_math_bits_deBruijn64tab {H : Type} : DataW H := .agg [.lit (.int .u8 0), .lit (.int .u8 1), .lit (.int .u8 56), .lit (.int .u8 2), .lit (.int .u8 57), .lit (.int .u8 49), .lit (.int .u8 28), .lit (.int .u8 3), .lit (.int .u8 61), .lit (.int .u8 58), .lit (.int .u8 42), .lit (.int .u8 50), .lit (.int .u8 38), .lit (.int .u8 29), .lit (.int .u8 17), .lit (.int .u8 4), .lit (.int .u8 62), .lit (.int .u8 47), .lit (.int .u8 59), .lit (.int .u8 36), .lit (.int .u8 45), .lit (.int .u8 43), .lit (.int .u8 51), .lit (.int .u8 22), .lit (.int .u8 53), .lit (.int .u8 39), .lit (.int .u8 33), .lit (.int .u8 30), .lit (.int .u8 24), .lit (.int .u8 18), .lit (.int .u8 12), .lit (.int .u8 5), .lit (.int .u8 63), .lit (.int .u8 55), .lit (.int .u8 48), .lit (.int .u8 27), .lit (.int .u8 60), .lit (.int .u8 41), .lit (.int .u8 37), .lit (.int .u8 16), .lit (.int .u8 46), .lit (.int .u8 35), .lit (.int .u8 44), .lit (.int .u8 21), .lit (.int .u8 52), .lit (.int .u8 32), .lit (.int .u8 23), .lit (.int .u8 11), .lit (.int .u8 54), .lit (.int .u8 26), .lit (.int .u8 40), .lit (.int .u8 15), .lit (.int .u8 34), .lit (.int .u8 20), .lit (.int .u8 31), .lit (.int .u8 10), .lit (.int .u8 25), .lit (.int .u8 14), .lit (.int .u8 19), .lit (.int .u8 9), .lit (.int .u8 13), .lit (.int .u8 8), .lit (.int .u8 7), .lit (.int .u8 6)]

/-- 'jigworkslaw04.RuleOffs': WHATEVER THE INPUT: true; the input reads as it did. -/
def ruleOffsSpec : ChangeSpec := { name := "ruleOffs", fn := fun _ => fun
  | [d1, d2, d3, d4] => { results := [.lit (.bool true)], args := [d1, d2, d3, d4] }
  | _ => none }
def ruleOffsRow : OpenClaim := { program := "ytbhkglokdomajaadoor", sum := "983bb05692847713965b1ca92406b27ee0a228613cb1e493ec0274482b7867fa", func := "jigworks/jigworkslaw04.RuleOffs", spec := "ruleOffs", unfollowed := true, recurses := true, named := ["math/bits.deBruijn32tab", "math/bits.deBruijn64tab"], plainKeys := false, apart := false, laid := [("math/bits.deBruijn32tab", laid_math_bits_deBruijn32tab), ("math/bits.deBruijn64tab", laid_math_bits_deBruijn64tab)] }
def RuleOffsSaid : Prop := ruleOffsRow.holds Tryd.pinned (OpenSpec.ofChange ruleOffsSpec)

/-- ITS FALSE NEIGHBOUR: 'it returns false'. Refute it at one input. -/
def ruleOffsWrong : ChangeSpec := { name := "ruleOffs", fn := fun _ => fun
  | [d1, d2, d3, d4] => { results := [.lit (.bool false)], args := [d1, d2, d3, d4] }
  | _ => none }
def RuleOffsWrongFalsely : Prop := ruleOffsRow.holds Tryd.pinned (OpenSpec.ofChange ruleOffsWrong)

/-- 'jigworkslaw04.RulePlans': WHATEVER THE INPUT: true; the input reads as it did. -/
def rulePlansSpec : ChangeSpec := { name := "rulePlans", fn := fun _ => fun
  | [d1, d2, d3] => { results := [.lit (.bool true)], args := [d1, d2, d3] }
  | _ => none }
def rulePlansRow : OpenClaim := { program := "ytbhkglokdomajaadoor", sum := "983bb05692847713965b1ca92406b27ee0a228613cb1e493ec0274482b7867fa", func := "jigworks/jigworkslaw04.RulePlans", spec := "rulePlans", unfollowed := true, recurses := true, named := ["math/bits.deBruijn32tab", "math/bits.deBruijn64tab"], plainKeys := false, apart := false, laid := [("math/bits.deBruijn32tab", laid_math_bits_deBruijn32tab), ("math/bits.deBruijn64tab", laid_math_bits_deBruijn64tab)] }
def RulePlansSaid : Prop := rulePlansRow.holds Tryd.pinned (OpenSpec.ofChange rulePlansSpec)

/-- ITS FALSE NEIGHBOUR: 'it returns false'. Refute it at one input. -/
def rulePlansWrong : ChangeSpec := { name := "rulePlans", fn := fun _ => fun
  | [d1, d2, d3] => { results := [.lit (.bool false)], args := [d1, d2, d3] }
  | _ => none }
def RulePlansWrongFalsely : Prop := rulePlansRow.holds Tryd.pinned (OpenSpec.ofChange rulePlansWrong)

/-- 'jigworkslaw04.RuleBests': WHATEVER THE INPUT: true; the input reads as it did. -/
def ruleBestsSpec : ChangeSpec := { name := "ruleBests", fn := fun _ => fun
  | [d1, d2] => { results := [.lit (.bool true)], args := [d1, d2] }
  | _ => none }
def ruleBestsRow : OpenClaim := { program := "ytbhkglokdomajaadoor", sum := "983bb05692847713965b1ca92406b27ee0a228613cb1e493ec0274482b7867fa", func := "jigworks/jigworkslaw04.RuleBests", spec := "ruleBests", unfollowed := true, recurses := true, named := ["math/bits.deBruijn32tab", "math/bits.deBruijn64tab"], plainKeys := false, apart := false, laid := [("math/bits.deBruijn32tab", laid_math_bits_deBruijn32tab), ("math/bits.deBruijn64tab", laid_math_bits_deBruijn64tab)] }
def RuleBestsSaid : Prop := ruleBestsRow.holds Tryd.pinned (OpenSpec.ofChange ruleBestsSpec)

/-- ITS FALSE NEIGHBOUR: 'it returns false'. Refute it at one input. -/
def ruleBestsWrong : ChangeSpec := { name := "ruleBests", fn := fun _ => fun
  | [d1, d2] => { results := [.lit (.bool false)], args := [d1, d2] }
  | _ => none }
def RuleBestsWrongFalsely : Prop := ruleBestsRow.holds Tryd.pinned (OpenSpec.ofChange ruleBestsWrong)

/-- 'jigworkslaw04.RuleTrue': WHATEVER THE INPUT: true; the input reads as it did. -/
def ruleTrueSpec : ChangeSpec := { name := "ruleTrue", fn := fun _ => fun
  | [d1, d2, d3, d4] => { results := [.lit (.bool true)], args := [d1, d2, d3, d4] }
  | _ => none }
def ruleTrueRow : OpenClaim := { program := "ytbhkglokdomajaadoor", sum := "983bb05692847713965b1ca92406b27ee0a228613cb1e493ec0274482b7867fa", func := "jigworks/jigworkslaw04.RuleTrue", spec := "ruleTrue", unfollowed := true, recurses := true, named := ["math/bits.deBruijn32tab", "math/bits.deBruijn64tab"], plainKeys := false, apart := false, laid := [("math/bits.deBruijn32tab", laid_math_bits_deBruijn32tab), ("math/bits.deBruijn64tab", laid_math_bits_deBruijn64tab)] }
def RuleTrueSaid : Prop := ruleTrueRow.holds Tryd.pinned (OpenSpec.ofChange ruleTrueSpec)

/-- ITS FALSE NEIGHBOUR: 'it returns false'. Refute it at one input. -/
def ruleTrueWrong : ChangeSpec := { name := "ruleTrue", fn := fun _ => fun
  | [d1, d2, d3, d4] => { results := [.lit (.bool false)], args := [d1, d2, d3, d4] }
  | _ => none }
def RuleTrueWrongFalsely : Prop := ruleTrueRow.holds Tryd.pinned (OpenSpec.ofChange ruleTrueWrong)

/-- 'jigworkslaw04.RuleEnds': WHATEVER THE INPUT: true; the input reads as it did. -/
def ruleEndsSpec : ChangeSpec := { name := "ruleEnds", fn := fun _ => fun
  | [d1, d2, d3, d4, d5] => { results := [.lit (.bool true)], args := [d1, d2, d3, d4, d5] }
  | _ => none }
def ruleEndsRow : OpenClaim := { program := "ytbhkglokdomajaadoor", sum := "983bb05692847713965b1ca92406b27ee0a228613cb1e493ec0274482b7867fa", func := "jigworks/jigworkslaw04.RuleEnds", spec := "ruleEnds", unfollowed := true, recurses := true, named := ["math/bits.deBruijn32tab", "math/bits.deBruijn64tab"], plainKeys := false, apart := false, laid := [("math/bits.deBruijn32tab", laid_math_bits_deBruijn32tab), ("math/bits.deBruijn64tab", laid_math_bits_deBruijn64tab)] }
def RuleEndsSaid : Prop := ruleEndsRow.holds Tryd.pinned (OpenSpec.ofChange ruleEndsSpec)

/-- ITS FALSE NEIGHBOUR: 'it returns false'. Refute it at one input. -/
def ruleEndsWrong : ChangeSpec := { name := "ruleEnds", fn := fun _ => fun
  | [d1, d2, d3, d4, d5] => { results := [.lit (.bool false)], args := [d1, d2, d3, d4, d5] }
  | _ => none }
def RuleEndsWrongFalsely : Prop := ruleEndsRow.holds Tryd.pinned (OpenSpec.ofChange ruleEndsWrong)

/-- 'jigworkslaw04.RuleBest': WHATEVER THE INPUT: true; the input reads as it did. -/
def ruleBestSpec : ChangeSpec := { name := "ruleBest", fn := fun _ => fun
  | [d1, d2, d3] => { results := [.lit (.bool true)], args := [d1, d2, d3] }
  | _ => none }
def ruleBestRow : OpenClaim := { program := "ytbhkglokdomajaadoor", sum := "983bb05692847713965b1ca92406b27ee0a228613cb1e493ec0274482b7867fa", func := "jigworks/jigworkslaw04.RuleBest", spec := "ruleBest", unfollowed := true, recurses := true, named := ["math/bits.deBruijn32tab", "math/bits.deBruijn64tab"], plainKeys := false, apart := false, laid := [("math/bits.deBruijn32tab", laid_math_bits_deBruijn32tab), ("math/bits.deBruijn64tab", laid_math_bits_deBruijn64tab)] }
def RuleBestSaid : Prop := ruleBestRow.holds Tryd.pinned (OpenSpec.ofChange ruleBestSpec)

/-- ITS FALSE NEIGHBOUR: 'it returns false'. Refute it at one input. -/
def ruleBestWrong : ChangeSpec := { name := "ruleBest", fn := fun _ => fun
  | [d1, d2, d3] => { results := [.lit (.bool false)], args := [d1, d2, d3] }
  | _ => none }
def RuleBestWrongFalsely : Prop := ruleBestRow.holds Tryd.pinned (OpenSpec.ofChange ruleBestWrong)

/-- 'jigworkslaw04.RuleProof': WHATEVER THE INPUT: true; the input reads as it did. -/
def ruleProofSpec : ChangeSpec := { name := "ruleProof", fn := fun _ => fun
  | [d1, d2, d3] => { results := [.lit (.bool true)], args := [d1, d2, d3] }
  | _ => none }
def ruleProofRow : OpenClaim := { program := "ytbhkglokdomajaadoor", sum := "983bb05692847713965b1ca92406b27ee0a228613cb1e493ec0274482b7867fa", func := "jigworks/jigworkslaw04.RuleProof", spec := "ruleProof", unfollowed := true, recurses := true, named := ["math/bits.deBruijn32tab", "math/bits.deBruijn64tab"], plainKeys := false, apart := false, laid := [("math/bits.deBruijn32tab", laid_math_bits_deBruijn32tab), ("math/bits.deBruijn64tab", laid_math_bits_deBruijn64tab)] }
def RuleProofSaid : Prop := ruleProofRow.holds Tryd.pinned (OpenSpec.ofChange ruleProofSpec)

/-- ITS FALSE NEIGHBOUR: 'it returns false'. Refute it at one input. -/
def ruleProofWrong : ChangeSpec := { name := "ruleProof", fn := fun _ => fun
  | [d1, d2, d3] => { results := [.lit (.bool false)], args := [d1, d2, d3] }
  | _ => none }
def RuleProofWrongFalsely : Prop := ruleProofRow.holds Tryd.pinned (OpenSpec.ofChange ruleProofWrong)

/-- 'jigworkslaw04.RuleMore': WHATEVER THE INPUT: true; the input reads as it did. -/
def ruleMoreSpec : ChangeSpec := { name := "ruleMore", fn := fun _ => fun
  | [d1, d2, d3, d4] => { results := [.lit (.bool true)], args := [d1, d2, d3, d4] }
  | _ => none }
def ruleMoreRow : OpenClaim := { program := "ytbhkglokdomajaadoor", sum := "983bb05692847713965b1ca92406b27ee0a228613cb1e493ec0274482b7867fa", func := "jigworks/jigworkslaw04.RuleMore", spec := "ruleMore", unfollowed := true, recurses := true, named := ["math/bits.deBruijn32tab", "math/bits.deBruijn64tab"], plainKeys := false, apart := false, laid := [("math/bits.deBruijn32tab", laid_math_bits_deBruijn32tab), ("math/bits.deBruijn64tab", laid_math_bits_deBruijn64tab)] }
def RuleMoreSaid : Prop := ruleMoreRow.holds Tryd.pinned (OpenSpec.ofChange ruleMoreSpec)

/-- ITS FALSE NEIGHBOUR: 'it returns false'. Refute it at one input. -/
def ruleMoreWrong : ChangeSpec := { name := "ruleMore", fn := fun _ => fun
  | [d1, d2, d3, d4] => { results := [.lit (.bool false)], args := [d1, d2, d3, d4] }
  | _ => none }
def RuleMoreWrongFalsely : Prop := ruleMoreRow.holds Tryd.pinned (OpenSpec.ofChange ruleMoreWrong)

/-- 'jigworkslaw04.RuleLess': WHATEVER THE INPUT: true; the input reads as it did. -/
def ruleLessSpec : ChangeSpec := { name := "ruleLess", fn := fun _ => fun
  | [d1, d2, d3] => { results := [.lit (.bool true)], args := [d1, d2, d3] }
  | _ => none }
def ruleLessRow : OpenClaim := { program := "ytbhkglokdomajaadoor", sum := "983bb05692847713965b1ca92406b27ee0a228613cb1e493ec0274482b7867fa", func := "jigworks/jigworkslaw04.RuleLess", spec := "ruleLess", unfollowed := true, recurses := true, named := ["math/bits.deBruijn32tab", "math/bits.deBruijn64tab"], plainKeys := false, apart := false, laid := [("math/bits.deBruijn32tab", laid_math_bits_deBruijn32tab), ("math/bits.deBruijn64tab", laid_math_bits_deBruijn64tab)] }
def RuleLessSaid : Prop := ruleLessRow.holds Tryd.pinned (OpenSpec.ofChange ruleLessSpec)

/-- ITS FALSE NEIGHBOUR: 'it returns false'. Refute it at one input. -/
def ruleLessWrong : ChangeSpec := { name := "ruleLess", fn := fun _ => fun
  | [d1, d2, d3] => { results := [.lit (.bool false)], args := [d1, d2, d3] }
  | _ => none }
def RuleLessWrongFalsely : Prop := ruleLessRow.holds Tryd.pinned (OpenSpec.ofChange ruleLessWrong)

/- THE SECOND FORM. 'bulk': how many values and letters a reading holds, each counted each time it is reached (what is shared counts as often as it is met; a slice's spare places count too). A statement '..UptoSaid' is the law's where the arguments, and the package variables that the reading takes, are together of bulk at most 1048576: NARROWER than '..Said'. Prove '..Said' where nothing that the law and all that it calls make is longer than what came in: it says more and counts as full. Else prove '..UptoSaid'. A law counts once. -/
mutual
def uptoBulk {H : Type} : DataW H → Nat
  | .lit (.string bytes) => bytes.length + 1
  | .lit _ => 1
  | .nil => 1
  | .ptr d => uptoBulk d + 1
  | .slice elems spare => uptoBulkAll elems + uptoBulkAll spare + 1
  | .agg parts => uptoBulkAll parts + 1
  | .iface _ d => uptoBulk d + 1
  | .map entries => uptoBulkEntries entries + 1
  | .held _ => 1
def uptoBulkAll {H : Type} : List (DataW H) → Nat
  | [] => 0
  | d :: r => uptoBulk d + uptoBulkAll r
def uptoBulkEntries {H : Type} : List (Lit × DataW H) → Nat
  | [] => 0
  | x :: r => uptoBulkEntry x + uptoBulkEntries r
def uptoBulkEntry {H : Type} : Lit × DataW H → Nat
  | (.string bytes, d) => bytes.length + uptoBulk d + 1
  | (_, d) => uptoBulk d + 1
 end
def uptoSmall : (H : Type) → List (DataW H) → Bool := fun _ ds => decide (uptoBulkAll ds ≤ 1048576)
def OpenSpec.upto (s : _root_.Go.ChangeSpec) : _root_.Go.OpenSpec := { _root_.Go.OpenSpec.ofChange s with cond := some uptoSmall }

/-- 'jigworkslaw04.RuleOffs', WHERE WHAT IT READS IS OF BULK AT MOST 1048576: true; the input reads as it did. -/
def ruleOffsUptoRow : OpenClaim := { program := "ytbhkglokdomajaadoor", sum := "983bb05692847713965b1ca92406b27ee0a228613cb1e493ec0274482b7867fa", func := "jigworks/jigworkslaw04.RuleOffs", spec := "ruleOffs", unfollowed := true, recurses := true, named := ["math/bits.deBruijn32tab", "math/bits.deBruijn64tab"], plainKeys := false, apart := false, laid := [("math/bits.deBruijn32tab", laid_math_bits_deBruijn32tab), ("math/bits.deBruijn64tab", laid_math_bits_deBruijn64tab)], narrowed := true }
def RuleOffsUptoSaid : Prop := ruleOffsUptoRow.holds Tryd.pinned (OpenSpec.upto ruleOffsSpec)

/-- 'jigworkslaw04.RulePlans', WHERE WHAT IT READS IS OF BULK AT MOST 1048576: true; the input reads as it did. -/
def rulePlansUptoRow : OpenClaim := { program := "ytbhkglokdomajaadoor", sum := "983bb05692847713965b1ca92406b27ee0a228613cb1e493ec0274482b7867fa", func := "jigworks/jigworkslaw04.RulePlans", spec := "rulePlans", unfollowed := true, recurses := true, named := ["math/bits.deBruijn32tab", "math/bits.deBruijn64tab"], plainKeys := false, apart := false, laid := [("math/bits.deBruijn32tab", laid_math_bits_deBruijn32tab), ("math/bits.deBruijn64tab", laid_math_bits_deBruijn64tab)], narrowed := true }
def RulePlansUptoSaid : Prop := rulePlansUptoRow.holds Tryd.pinned (OpenSpec.upto rulePlansSpec)

/-- 'jigworkslaw04.RuleBests', WHERE WHAT IT READS IS OF BULK AT MOST 1048576: true; the input reads as it did. -/
def ruleBestsUptoRow : OpenClaim := { program := "ytbhkglokdomajaadoor", sum := "983bb05692847713965b1ca92406b27ee0a228613cb1e493ec0274482b7867fa", func := "jigworks/jigworkslaw04.RuleBests", spec := "ruleBests", unfollowed := true, recurses := true, named := ["math/bits.deBruijn32tab", "math/bits.deBruijn64tab"], plainKeys := false, apart := false, laid := [("math/bits.deBruijn32tab", laid_math_bits_deBruijn32tab), ("math/bits.deBruijn64tab", laid_math_bits_deBruijn64tab)], narrowed := true }
def RuleBestsUptoSaid : Prop := ruleBestsUptoRow.holds Tryd.pinned (OpenSpec.upto ruleBestsSpec)

/-- 'jigworkslaw04.RuleTrue', WHERE WHAT IT READS IS OF BULK AT MOST 1048576: true; the input reads as it did. -/
def ruleTrueUptoRow : OpenClaim := { program := "ytbhkglokdomajaadoor", sum := "983bb05692847713965b1ca92406b27ee0a228613cb1e493ec0274482b7867fa", func := "jigworks/jigworkslaw04.RuleTrue", spec := "ruleTrue", unfollowed := true, recurses := true, named := ["math/bits.deBruijn32tab", "math/bits.deBruijn64tab"], plainKeys := false, apart := false, laid := [("math/bits.deBruijn32tab", laid_math_bits_deBruijn32tab), ("math/bits.deBruijn64tab", laid_math_bits_deBruijn64tab)], narrowed := true }
def RuleTrueUptoSaid : Prop := ruleTrueUptoRow.holds Tryd.pinned (OpenSpec.upto ruleTrueSpec)

/-- 'jigworkslaw04.RuleEnds', WHERE WHAT IT READS IS OF BULK AT MOST 1048576: true; the input reads as it did. -/
def ruleEndsUptoRow : OpenClaim := { program := "ytbhkglokdomajaadoor", sum := "983bb05692847713965b1ca92406b27ee0a228613cb1e493ec0274482b7867fa", func := "jigworks/jigworkslaw04.RuleEnds", spec := "ruleEnds", unfollowed := true, recurses := true, named := ["math/bits.deBruijn32tab", "math/bits.deBruijn64tab"], plainKeys := false, apart := false, laid := [("math/bits.deBruijn32tab", laid_math_bits_deBruijn32tab), ("math/bits.deBruijn64tab", laid_math_bits_deBruijn64tab)], narrowed := true }
def RuleEndsUptoSaid : Prop := ruleEndsUptoRow.holds Tryd.pinned (OpenSpec.upto ruleEndsSpec)

/-- 'jigworkslaw04.RuleBest', WHERE WHAT IT READS IS OF BULK AT MOST 1048576: true; the input reads as it did. -/
def ruleBestUptoRow : OpenClaim := { program := "ytbhkglokdomajaadoor", sum := "983bb05692847713965b1ca92406b27ee0a228613cb1e493ec0274482b7867fa", func := "jigworks/jigworkslaw04.RuleBest", spec := "ruleBest", unfollowed := true, recurses := true, named := ["math/bits.deBruijn32tab", "math/bits.deBruijn64tab"], plainKeys := false, apart := false, laid := [("math/bits.deBruijn32tab", laid_math_bits_deBruijn32tab), ("math/bits.deBruijn64tab", laid_math_bits_deBruijn64tab)], narrowed := true }
def RuleBestUptoSaid : Prop := ruleBestUptoRow.holds Tryd.pinned (OpenSpec.upto ruleBestSpec)

/-- 'jigworkslaw04.RuleProof', WHERE WHAT IT READS IS OF BULK AT MOST 1048576: true; the input reads as it did. -/
def ruleProofUptoRow : OpenClaim := { program := "ytbhkglokdomajaadoor", sum := "983bb05692847713965b1ca92406b27ee0a228613cb1e493ec0274482b7867fa", func := "jigworks/jigworkslaw04.RuleProof", spec := "ruleProof", unfollowed := true, recurses := true, named := ["math/bits.deBruijn32tab", "math/bits.deBruijn64tab"], plainKeys := false, apart := false, laid := [("math/bits.deBruijn32tab", laid_math_bits_deBruijn32tab), ("math/bits.deBruijn64tab", laid_math_bits_deBruijn64tab)], narrowed := true }
def RuleProofUptoSaid : Prop := ruleProofUptoRow.holds Tryd.pinned (OpenSpec.upto ruleProofSpec)

/-- 'jigworkslaw04.RuleMore', WHERE WHAT IT READS IS OF BULK AT MOST 1048576: true; the input reads as it did. -/
def ruleMoreUptoRow : OpenClaim := { program := "ytbhkglokdomajaadoor", sum := "983bb05692847713965b1ca92406b27ee0a228613cb1e493ec0274482b7867fa", func := "jigworks/jigworkslaw04.RuleMore", spec := "ruleMore", unfollowed := true, recurses := true, named := ["math/bits.deBruijn32tab", "math/bits.deBruijn64tab"], plainKeys := false, apart := false, laid := [("math/bits.deBruijn32tab", laid_math_bits_deBruijn32tab), ("math/bits.deBruijn64tab", laid_math_bits_deBruijn64tab)], narrowed := true }
def RuleMoreUptoSaid : Prop := ruleMoreUptoRow.holds Tryd.pinned (OpenSpec.upto ruleMoreSpec)

/-- 'jigworkslaw04.RuleLess', WHERE WHAT IT READS IS OF BULK AT MOST 1048576: true; the input reads as it did. -/
def ruleLessUptoRow : OpenClaim := { program := "ytbhkglokdomajaadoor", sum := "983bb05692847713965b1ca92406b27ee0a228613cb1e493ec0274482b7867fa", func := "jigworks/jigworkslaw04.RuleLess", spec := "ruleLess", unfollowed := true, recurses := true, named := ["math/bits.deBruijn32tab", "math/bits.deBruijn64tab"], plainKeys := false, apart := false, laid := [("math/bits.deBruijn32tab", laid_math_bits_deBruijn32tab), ("math/bits.deBruijn64tab", laid_math_bits_deBruijn64tab)], narrowed := true }
def RuleLessUptoSaid : Prop := ruleLessUptoRow.holds Tryd.pinned (OpenSpec.upto ruleLessSpec)

end Rows
end Go.Proofs.YtbhkglokdomajaaDoor
