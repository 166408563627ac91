/-
  NARROWER THAN 'FOR EVERY INPUT', by the rows' own cells (each row's printed sentence says how): LendWindows: laid · LendWhos: laid · LendClashes: laid · LendTrue: laid · LendSure: laid · LendMany: laid · LendGone: laid · LendMore: laid · LendOrder: laid.
  DERIVED. THE GIVEN ROWS OF THIS SEAT. 9 by the template 'for every input the law returns true; each argument reads behind the call as it read before'; 0 by the template 'total and deterministic' (their statements: YtkcfpnpejaekjaaDoorTotals.lean).
  GIVEN WITH THE SEED: the statements are not yours to turn. If you find one false, say at which input.
  Laid BY PROGRAM, IN A SANDBOX (cutbox-rows.mjs): the forced cells as the released guide's own fill.sh prints them over the translation 2106e3070665f9f1… (all of the seat's roots in one cut). By AI agents, Wed Nov 11 2026. No macro, syntax, notation, axiom, sorry.
-/
import Derived.Test.YtkcfpnpejaekjaaDoorChecked
import GoSem.Claim
import GoSem.ClaimJoined
import GoSem.ClaimMapViews
import Derived.JoinedTies
import Derived.KernelRfl
namespace Go.Proofs.YtkcfpnpejaekjaaDoor
/- THE CELL 'sum', in the pinned program and in every row, IS THE sha256 OF THE DUMP (.gsa) THAT YtkcfpnpejaekjaaDoorProg.lean LOADS. Nothing in Lean hashes anything: it is a label: what it is worth is what the hold of that sum in a sandbox is worth. -/
noncomputable def Tryd.pinned : Pinned := { name := "ytkcfpnpejaekjaadoor", sum := "2106e3070665f9f15db46d58decf7f97b79c4d7498b0fce9e0d4afc7690efc47", checked := Tryd.checked }
namespace Rows
def none {H : Type} : Left H := { results := [], args := [] }

/- WHAT THE LISTED PACKAGE-LEVEL VARIABLES READ AS WHEN THE CALL BEGINS. Each datum BY PROGRAM (the guide's laid-datum.mjs) off the statement by which the dump's own 'gosem.cut.vars' lays the variable. In a bare row this is a premise. The card (YtkcfpnpejaekjaaDoorCards.lean) ties it to the program's text. -/
def laid_math_bits_deBruijn32tab {H : Type} : DataW H := .agg [.lit (.int .u8 0), .lit (.int .u8 1), .lit (.int .u8 28), .lit (.int .u8 2), .lit (.int .u8 29), .lit (.int .u8 14), .lit (.int .u8 24), .lit (.int .u8 3), .lit (.int .u8 30), .lit (.int .u8 22), .lit (.int .u8 20), .lit (.int .u8 15), .lit (.int .u8 25), .lit (.int .u8 17), .lit (.int .u8 4), .lit (.int .u8 8), .lit (.int .u8 31), .lit (.int .u8 27), .lit (.int .u8 13), .lit (.int .u8 23), .lit (.int .u8 21), .lit (.int .u8 19), .lit (.int .u8 16), .lit (.int .u8 7), .lit (.int .u8 26), .lit (.int .u8 12), .lit (.int .u8 18), .lit (.int .u8 6), .lit (.int .u8 11), .lit (.int .u8 5), .lit (.int .u8 10), .lit (.int .u8 9)]
def laid_math_bits_deBruijn64tab {H : Type} : DataW H := .agg [.lit (.int .u8 0), .lit (.int .u8 1), .lit (.int .u8 56), .lit (.int .u8 2), .lit (.int .u8 57), .lit (.int .u8 49), .lit (.int .u8 28), .lit (.int .u8 3), .lit (.int .u8 61), .lit (.int .u8 58), .lit (.int .u8 42), .lit (.int .u8 50), .lit (.int .u8 38), .lit (.int .u8 29), .lit (.int .u8 17), .lit (.int .u8 4), .lit (.int .u8 62), .lit (.int .u8 47), .lit (.int .u8 59), .lit (.int .u8 36), .lit (.int .u8 45), .lit (.int .u8 43), .lit (.int .u8 51), .lit (.int .u8 22), .lit (.int .u8 53), .lit (.int .u8 39), .lit (.int .u8 33), .lit (.int .u8 30), .lit (.int .u8 24), .lit (.int .u8 18), .lit (.int .u8 12), .lit (.int .u8 5), .lit (.int .u8 63), .lit (.int .u8 55), .lit (.int .u8 48), .lit (.int .u8 27), .lit (.int .u8 60), .lit (.int .u8 41), .lit (.int .u8 37), .lit (.int .u8 16), .lit (.int .u8 46), .lit (.int .u8 35), .lit (.int .u8 44), .lit (.int .u8 21), .lit (.int .u8 52), .lit (.int .u8 32), .lit (.int .u8 23), .lit (.int .u8 11), .lit (.int .u8 54), .lit (.int .u8 26), .lit (.int .u8 40), .lit (.int .u8 15), .lit (.int .u8 34), .lit (.int .u8 20), .lit (.int .u8 31), .lit (.int .u8 10), .lit (.int .u8 25), .lit (.int .u8 14), .lit (.int .u8 19), .lit (.int .u8 9), .lit (.int .u8 13), .lit (.int .u8 8), .lit (.int .u8 7), .lit (.int .u8 6)]

/-- 'jigworkslaw08.LendWindows': WHATEVER THE INPUT: true; the input reads as it did. -/
def lendWindowsSpec : ChangeSpec := { name := "lendWindows", fn := fun _ => fun
  | [d1, d2, d3] => { results := [.lit (.bool true)], args := [d1, d2, d3] }
  | _ => none }
def lendWindowsRow : OpenClaim := { program := "ytkcfpnpejaekjaadoor", sum := "2106e3070665f9f15db46d58decf7f97b79c4d7498b0fce9e0d4afc7690efc47", func := "jigworks/jigworkslaw08.LendWindows", spec := "lendWindows", unfollowed := true, recurses := true, named := ["math/bits.deBruijn32tab", "math/bits.deBruijn64tab"], apart := false, laid := [("math/bits.deBruijn32tab", laid_math_bits_deBruijn32tab), ("math/bits.deBruijn64tab", laid_math_bits_deBruijn64tab)] }
def LendWindowsSaid : Prop := lendWindowsRow.holds Tryd.pinned (OpenSpec.ofChange lendWindowsSpec)

/-- ITS FALSE NEIGHBOUR: 'it returns false'. Refute it at one input. -/
def lendWindowsWrong : ChangeSpec := { name := "lendWindows", fn := fun _ => fun
  | [d1, d2, d3] => { results := [.lit (.bool false)], args := [d1, d2, d3] }
  | _ => none }
def LendWindowsWrongFalsely : Prop := lendWindowsRow.holds Tryd.pinned (OpenSpec.ofChange lendWindowsWrong)

/-- 'jigworkslaw08.LendWhos': WHATEVER THE INPUT: true; the input reads as it did. -/
def lendWhosSpec : ChangeSpec := { name := "lendWhos", fn := fun _ => fun
  | [d1, d2, d3] => { results := [.lit (.bool true)], args := [d1, d2, d3] }
  | _ => none }
def lendWhosRow : OpenClaim := { program := "ytkcfpnpejaekjaadoor", sum := "2106e3070665f9f15db46d58decf7f97b79c4d7498b0fce9e0d4afc7690efc47", func := "jigworks/jigworkslaw08.LendWhos", spec := "lendWhos", unfollowed := true, recurses := true, named := ["math/bits.deBruijn32tab", "math/bits.deBruijn64tab"], apart := false, laid := [("math/bits.deBruijn32tab", laid_math_bits_deBruijn32tab), ("math/bits.deBruijn64tab", laid_math_bits_deBruijn64tab)] }
def LendWhosSaid : Prop := lendWhosRow.holds Tryd.pinned (OpenSpec.ofChange lendWhosSpec)

/-- ITS FALSE NEIGHBOUR: 'it returns false'. Refute it at one input. -/
def lendWhosWrong : ChangeSpec := { name := "lendWhos", fn := fun _ => fun
  | [d1, d2, d3] => { results := [.lit (.bool false)], args := [d1, d2, d3] }
  | _ => none }
def LendWhosWrongFalsely : Prop := lendWhosRow.holds Tryd.pinned (OpenSpec.ofChange lendWhosWrong)

/-- 'jigworkslaw08.LendClashes': WHATEVER THE INPUT: true; the input reads as it did. -/
def lendClashesSpec : ChangeSpec := { name := "lendClashes", fn := fun _ => fun
  | [d] => { results := [.lit (.bool true)], args := [d] }
  | _ => none }
def lendClashesRow : OpenClaim := { program := "ytkcfpnpejaekjaadoor", sum := "2106e3070665f9f15db46d58decf7f97b79c4d7498b0fce9e0d4afc7690efc47", func := "jigworks/jigworkslaw08.LendClashes", spec := "lendClashes", unfollowed := true, recurses := true, named := ["math/bits.deBruijn32tab", "math/bits.deBruijn64tab"], apart := false, laid := [("math/bits.deBruijn32tab", laid_math_bits_deBruijn32tab), ("math/bits.deBruijn64tab", laid_math_bits_deBruijn64tab)] }
def LendClashesSaid : Prop := lendClashesRow.holds Tryd.pinned (OpenSpec.ofChange lendClashesSpec)

/-- ITS FALSE NEIGHBOUR: 'it returns false'. Refute it at one input. -/
def lendClashesWrong : ChangeSpec := { name := "lendClashes", fn := fun _ => fun
  | [d] => { results := [.lit (.bool false)], args := [d] }
  | _ => none }
def LendClashesWrongFalsely : Prop := lendClashesRow.holds Tryd.pinned (OpenSpec.ofChange lendClashesWrong)

/-- 'jigworkslaw08.LendTrue': WHATEVER THE INPUT: true; the input reads as it did. -/
def lendTrueSpec : ChangeSpec := { name := "lendTrue", fn := fun _ => fun
  | [d1, d2, d3] => { results := [.lit (.bool true)], args := [d1, d2, d3] }
  | _ => none }
def lendTrueRow : OpenClaim := { program := "ytkcfpnpejaekjaadoor", sum := "2106e3070665f9f15db46d58decf7f97b79c4d7498b0fce9e0d4afc7690efc47", func := "jigworks/jigworkslaw08.LendTrue", spec := "lendTrue", unfollowed := true, recurses := true, named := ["math/bits.deBruijn32tab", "math/bits.deBruijn64tab"], apart := false, laid := [("math/bits.deBruijn32tab", laid_math_bits_deBruijn32tab), ("math/bits.deBruijn64tab", laid_math_bits_deBruijn64tab)] }
def LendTrueSaid : Prop := lendTrueRow.holds Tryd.pinned (OpenSpec.ofChange lendTrueSpec)

/-- ITS FALSE NEIGHBOUR: 'it returns false'. Refute it at one input. -/
def lendTrueWrong : ChangeSpec := { name := "lendTrue", fn := fun _ => fun
  | [d1, d2, d3] => { results := [.lit (.bool false)], args := [d1, d2, d3] }
  | _ => none }
def LendTrueWrongFalsely : Prop := lendTrueRow.holds Tryd.pinned (OpenSpec.ofChange lendTrueWrong)

/-- 'jigworkslaw08.LendSure': WHATEVER THE INPUT: true; the input reads as it did. -/
def lendSureSpec : ChangeSpec := { name := "lendSure", fn := fun _ => fun
  | [d1, d2] => { results := [.lit (.bool true)], args := [d1, d2] }
  | _ => none }
def lendSureRow : OpenClaim := { program := "ytkcfpnpejaekjaadoor", sum := "2106e3070665f9f15db46d58decf7f97b79c4d7498b0fce9e0d4afc7690efc47", func := "jigworks/jigworkslaw08.LendSure", spec := "lendSure", unfollowed := true, recurses := true, named := ["math/bits.deBruijn32tab", "math/bits.deBruijn64tab"], apart := false, laid := [("math/bits.deBruijn32tab", laid_math_bits_deBruijn32tab), ("math/bits.deBruijn64tab", laid_math_bits_deBruijn64tab)] }
def LendSureSaid : Prop := lendSureRow.holds Tryd.pinned (OpenSpec.ofChange lendSureSpec)

/-- ITS FALSE NEIGHBOUR: 'it returns false'. Refute it at one input. -/
def lendSureWrong : ChangeSpec := { name := "lendSure", fn := fun _ => fun
  | [d1, d2] => { results := [.lit (.bool false)], args := [d1, d2] }
  | _ => none }
def LendSureWrongFalsely : Prop := lendSureRow.holds Tryd.pinned (OpenSpec.ofChange lendSureWrong)

/-- 'jigworkslaw08.LendMany': WHATEVER THE INPUT: true; the input reads as it did. -/
def lendManySpec : ChangeSpec := { name := "lendMany", fn := fun _ => fun
  | [d1, d2] => { results := [.lit (.bool true)], args := [d1, d2] }
  | _ => none }
def lendManyRow : OpenClaim := { program := "ytkcfpnpejaekjaadoor", sum := "2106e3070665f9f15db46d58decf7f97b79c4d7498b0fce9e0d4afc7690efc47", func := "jigworks/jigworkslaw08.LendMany", spec := "lendMany", unfollowed := true, recurses := true, named := ["math/bits.deBruijn32tab", "math/bits.deBruijn64tab"], apart := false, laid := [("math/bits.deBruijn32tab", laid_math_bits_deBruijn32tab), ("math/bits.deBruijn64tab", laid_math_bits_deBruijn64tab)] }
def LendManySaid : Prop := lendManyRow.holds Tryd.pinned (OpenSpec.ofChange lendManySpec)

/-- ITS FALSE NEIGHBOUR: 'it returns false'. Refute it at one input. -/
def lendManyWrong : ChangeSpec := { name := "lendMany", fn := fun _ => fun
  | [d1, d2] => { results := [.lit (.bool false)], args := [d1, d2] }
  | _ => none }
def LendManyWrongFalsely : Prop := lendManyRow.holds Tryd.pinned (OpenSpec.ofChange lendManyWrong)

/-- 'jigworkslaw08.LendGone': WHATEVER THE INPUT: true; the input reads as it did. -/
def lendGoneSpec : ChangeSpec := { name := "lendGone", fn := fun _ => fun
  | [d] => { results := [.lit (.bool true)], args := [d] }
  | _ => none }
def lendGoneRow : OpenClaim := { program := "ytkcfpnpejaekjaadoor", sum := "2106e3070665f9f15db46d58decf7f97b79c4d7498b0fce9e0d4afc7690efc47", func := "jigworks/jigworkslaw08.LendGone", spec := "lendGone", unfollowed := true, recurses := true, named := ["math/bits.deBruijn32tab", "math/bits.deBruijn64tab"], apart := false, laid := [("math/bits.deBruijn32tab", laid_math_bits_deBruijn32tab), ("math/bits.deBruijn64tab", laid_math_bits_deBruijn64tab)] }
def LendGoneSaid : Prop := lendGoneRow.holds Tryd.pinned (OpenSpec.ofChange lendGoneSpec)

/-- ITS FALSE NEIGHBOUR: 'it returns false'. Refute it at one input. -/
def lendGoneWrong : ChangeSpec := { name := "lendGone", fn := fun _ => fun
  | [d] => { results := [.lit (.bool false)], args := [d] }
  | _ => none }
def LendGoneWrongFalsely : Prop := lendGoneRow.holds Tryd.pinned (OpenSpec.ofChange lendGoneWrong)

/-- 'jigworkslaw08.LendMore': WHATEVER THE INPUT: true; the input reads as it did. -/
def lendMoreSpec : ChangeSpec := { name := "lendMore", fn := fun _ => fun
  | [d1, d2, d3, d4] => { results := [.lit (.bool true)], args := [d1, d2, d3, d4] }
  | _ => none }
def lendMoreRow : OpenClaim := { program := "ytkcfpnpejaekjaadoor", sum := "2106e3070665f9f15db46d58decf7f97b79c4d7498b0fce9e0d4afc7690efc47", func := "jigworks/jigworkslaw08.LendMore", spec := "lendMore", unfollowed := true, recurses := true, named := ["math/bits.deBruijn32tab", "math/bits.deBruijn64tab"], apart := false, laid := [("math/bits.deBruijn32tab", laid_math_bits_deBruijn32tab), ("math/bits.deBruijn64tab", laid_math_bits_deBruijn64tab)] }
def LendMoreSaid : Prop := lendMoreRow.holds Tryd.pinned (OpenSpec.ofChange lendMoreSpec)

/-- ITS FALSE NEIGHBOUR: 'it returns false'. Refute it at one input. -/
def lendMoreWrong : ChangeSpec := { name := "lendMore", fn := fun _ => fun
  | [d1, d2, d3, d4] => { results := [.lit (.bool false)], args := [d1, d2, d3, d4] }
  | _ => none }
def LendMoreWrongFalsely : Prop := lendMoreRow.holds Tryd.pinned (OpenSpec.ofChange lendMoreWrong)

/-- 'jigworkslaw08.LendOrder': WHATEVER THE INPUT: true; the input reads as it did. -/
def lendOrderSpec : ChangeSpec := { name := "lendOrder", fn := fun _ => fun
  | [d1, d2, d3, d4, d5] => { results := [.lit (.bool true)], args := [d1, d2, d3, d4, d5] }
  | _ => none }
def lendOrderRow : OpenClaim := { program := "ytkcfpnpejaekjaadoor", sum := "2106e3070665f9f15db46d58decf7f97b79c4d7498b0fce9e0d4afc7690efc47", func := "jigworks/jigworkslaw08.LendOrder", spec := "lendOrder", unfollowed := true, recurses := true, named := ["math/bits.deBruijn32tab", "math/bits.deBruijn64tab"], apart := false, laid := [("math/bits.deBruijn32tab", laid_math_bits_deBruijn32tab), ("math/bits.deBruijn64tab", laid_math_bits_deBruijn64tab)] }
def LendOrderSaid : Prop := lendOrderRow.holds Tryd.pinned (OpenSpec.ofChange lendOrderSpec)

/-- ITS FALSE NEIGHBOUR: 'it returns false'. Refute it at one input. -/
def lendOrderWrong : ChangeSpec := { name := "lendOrder", fn := fun _ => fun
  | [d1, d2, d3, d4, d5] => { results := [.lit (.bool false)], args := [d1, d2, d3, d4, d5] }
  | _ => none }
def LendOrderWrongFalsely : Prop := lendOrderRow.holds Tryd.pinned (OpenSpec.ofChange lendOrderWrong)

/- THE SECOND FORM. 'bulk': how many values and letters a reading holds, each counted each time it is reached (what is shared counts as often as it is met; a slice's spare places count too). A statement '..UptoSaid' is the law's where the arguments, and the package variables that the reading takes, are together of bulk at most 1048576: NARROWER than '..Said'. Prove '..Said' where nothing that the law and all that it calls make is longer than what came in: it says more and counts as full. Else prove '..UptoSaid'. A law counts once. -/
mutual
def uptoBulk {H : Type} : DataW H → Nat
  | .lit (.string bytes) => bytes.length + 1
  | .lit _ => 1
  | .nil => 1
  | .ptr d => uptoBulk d + 1
  | .slice elems spare => uptoBulkAll elems + uptoBulkAll spare + 1
  | .agg parts => uptoBulkAll parts + 1
  | .iface _ d => uptoBulk d + 1
  | .map entries => uptoBulkEntries entries + 1
  | .held _ => 1
def uptoBulkAll {H : Type} : List (DataW H) → Nat
  | [] => 0
  | d :: r => uptoBulk d + uptoBulkAll r
def uptoBulkEntries {H : Type} : List (Lit × DataW H) → Nat
  | [] => 0
  | x :: r => uptoBulkEntry x + uptoBulkEntries r
def uptoBulkEntry {H : Type} : Lit × DataW H → Nat
  | (.string bytes, d) => bytes.length + uptoBulk d + 1
  | (_, d) => uptoBulk d + 1
 end
def uptoSmall : (H : Type) → List (DataW H) → Bool := fun _ ds => decide (uptoBulkAll ds ≤ 1048576)
def OpenSpec.upto (s : _root_.Go.ChangeSpec) : _root_.Go.OpenSpec := { _root_.Go.OpenSpec.ofChange s with cond := some uptoSmall }

/-- 'jigworkslaw08.LendWindows', WHERE WHAT IT READS IS OF BULK AT MOST 1048576: true; the input reads as it did. -/
def lendWindowsUptoRow : OpenClaim := { program := "ytkcfpnpejaekjaadoor", sum := "2106e3070665f9f15db46d58decf7f97b79c4d7498b0fce9e0d4afc7690efc47", func := "jigworks/jigworkslaw08.LendWindows", spec := "lendWindows", unfollowed := true, recurses := true, named := ["math/bits.deBruijn32tab", "math/bits.deBruijn64tab"], apart := false, laid := [("math/bits.deBruijn32tab", laid_math_bits_deBruijn32tab), ("math/bits.deBruijn64tab", laid_math_bits_deBruijn64tab)], narrowed := true }
def LendWindowsUptoSaid : Prop := lendWindowsUptoRow.holds Tryd.pinned (OpenSpec.upto lendWindowsSpec)

/-- 'jigworkslaw08.LendWhos', WHERE WHAT IT READS IS OF BULK AT MOST 1048576: true; the input reads as it did. -/
def lendWhosUptoRow : OpenClaim := { program := "ytkcfpnpejaekjaadoor", sum := "2106e3070665f9f15db46d58decf7f97b79c4d7498b0fce9e0d4afc7690efc47", func := "jigworks/jigworkslaw08.LendWhos", spec := "lendWhos", unfollowed := true, recurses := true, named := ["math/bits.deBruijn32tab", "math/bits.deBruijn64tab"], apart := false, laid := [("math/bits.deBruijn32tab", laid_math_bits_deBruijn32tab), ("math/bits.deBruijn64tab", laid_math_bits_deBruijn64tab)], narrowed := true }
def LendWhosUptoSaid : Prop := lendWhosUptoRow.holds Tryd.pinned (OpenSpec.upto lendWhosSpec)

/-- 'jigworkslaw08.LendClashes', WHERE WHAT IT READS IS OF BULK AT MOST 1048576: true; the input reads as it did. -/
def lendClashesUptoRow : OpenClaim := { program := "ytkcfpnpejaekjaadoor", sum := "2106e3070665f9f15db46d58decf7f97b79c4d7498b0fce9e0d4afc7690efc47", func := "jigworks/jigworkslaw08.LendClashes", spec := "lendClashes", unfollowed := true, recurses := true, named := ["math/bits.deBruijn32tab", "math/bits.deBruijn64tab"], apart := false, laid := [("math/bits.deBruijn32tab", laid_math_bits_deBruijn32tab), ("math/bits.deBruijn64tab", laid_math_bits_deBruijn64tab)], narrowed := true }
def LendClashesUptoSaid : Prop := lendClashesUptoRow.holds Tryd.pinned (OpenSpec.upto lendClashesSpec)

/-- 'jigworkslaw08.LendTrue', WHERE WHAT IT READS IS OF BULK AT MOST 1048576: true; the input reads as it did. -/
def lendTrueUptoRow : OpenClaim := { program := "ytkcfpnpejaekjaadoor", sum := "2106e3070665f9f15db46d58decf7f97b79c4d7498b0fce9e0d4afc7690efc47", func := "jigworks/jigworkslaw08.LendTrue", spec := "lendTrue", unfollowed := true, recurses := true, named := ["math/bits.deBruijn32tab", "math/bits.deBruijn64tab"], apart := false, laid := [("math/bits.deBruijn32tab", laid_math_bits_deBruijn32tab), ("math/bits.deBruijn64tab", laid_math_bits_deBruijn64tab)], narrowed := true }
def LendTrueUptoSaid : Prop := lendTrueUptoRow.holds Tryd.pinned (OpenSpec.upto lendTrueSpec)

/-- 'jigworkslaw08.LendSure', WHERE WHAT IT READS IS OF BULK AT MOST 1048576: true; the input reads as it did. -/
def lendSureUptoRow : OpenClaim := { program := "ytkcfpnpejaekjaadoor", sum := "2106e3070665f9f15db46d58decf7f97b79c4d7498b0fce9e0d4afc7690efc47", func := "jigworks/jigworkslaw08.LendSure", spec := "lendSure", unfollowed := true, recurses := true, named := ["math/bits.deBruijn32tab", "math/bits.deBruijn64tab"], apart := false, laid := [("math/bits.deBruijn32tab", laid_math_bits_deBruijn32tab), ("math/bits.deBruijn64tab", laid_math_bits_deBruijn64tab)], narrowed := true }
def LendSureUptoSaid : Prop := lendSureUptoRow.holds Tryd.pinned (OpenSpec.upto lendSureSpec)

/-- 'jigworkslaw08.LendMany', WHERE WHAT IT READS IS OF BULK AT MOST 1048576: true; the input reads as it did. -/
def lendManyUptoRow : OpenClaim := { program := "ytkcfpnpejaekjaadoor", sum := "2106e3070665f9f15db46d58decf7f97b79c4d7498b0fce9e0d4afc7690efc47", func := "jigworks/jigworkslaw08.LendMany", spec := "lendMany", unfollowed := true, recurses := true, named := ["math/bits.deBruijn32tab", "math/bits.deBruijn64tab"], apart := false, laid := [("math/bits.deBruijn32tab", laid_math_bits_deBruijn32tab), ("math/bits.deBruijn64tab", laid_math_bits_deBruijn64tab)], narrowed := true }
def LendManyUptoSaid : Prop := lendManyUptoRow.holds Tryd.pinned (OpenSpec.upto lendManySpec)

/-- 'jigworkslaw08.LendGone', WHERE WHAT IT READS IS OF BULK AT MOST 1048576: true; the input reads as it did. -/
def lendGoneUptoRow : OpenClaim := { program := "ytkcfpnpejaekjaadoor", sum := "2106e3070665f9f15db46d58decf7f97b79c4d7498b0fce9e0d4afc7690efc47", func := "jigworks/jigworkslaw08.LendGone", spec := "lendGone", unfollowed := true, recurses := true, named := ["math/bits.deBruijn32tab", "math/bits.deBruijn64tab"], apart := false, laid := [("math/bits.deBruijn32tab", laid_math_bits_deBruijn32tab), ("math/bits.deBruijn64tab", laid_math_bits_deBruijn64tab)], narrowed := true }
def LendGoneUptoSaid : Prop := lendGoneUptoRow.holds Tryd.pinned (OpenSpec.upto lendGoneSpec)

/-- 'jigworkslaw08.LendMore', WHERE WHAT IT READS IS OF BULK AT MOST 1048576: true; the input reads as it did. -/
def lendMoreUptoRow : OpenClaim := { program := "ytkcfpnpejaekjaadoor", sum := "2106e3070665f9f15db46d58decf7f97b79c4d7498b0fce9e0d4afc7690efc47", func := "jigworks/jigworkslaw08.LendMore", spec := "lendMore", unfollowed := true, recurses := true, named := ["math/bits.deBruijn32tab", "math/bits.deBruijn64tab"], apart := false, laid := [("math/bits.deBruijn32tab", laid_math_bits_deBruijn32tab), ("math/bits.deBruijn64tab", laid_math_bits_deBruijn64tab)], narrowed := true }
def LendMoreUptoSaid : Prop := lendMoreUptoRow.holds Tryd.pinned (OpenSpec.upto lendMoreSpec)

/-- 'jigworkslaw08.LendOrder', WHERE WHAT IT READS IS OF BULK AT MOST 1048576: true; the input reads as it did. -/
def lendOrderUptoRow : OpenClaim := { program := "ytkcfpnpejaekjaadoor", sum := "2106e3070665f9f15db46d58decf7f97b79c4d7498b0fce9e0d4afc7690efc47", func := "jigworks/jigworkslaw08.LendOrder", spec := "lendOrder", unfollowed := true, recurses := true, named := ["math/bits.deBruijn32tab", "math/bits.deBruijn64tab"], apart := false, laid := [("math/bits.deBruijn32tab", laid_math_bits_deBruijn32tab), ("math/bits.deBruijn64tab", laid_math_bits_deBruijn64tab)], narrowed := true }
def LendOrderUptoSaid : Prop := lendOrderUptoRow.holds Tryd.pinned (OpenSpec.upto lendOrderSpec)

end Rows
end Go.Proofs.YtkcfpnpejaekjaaDoor
