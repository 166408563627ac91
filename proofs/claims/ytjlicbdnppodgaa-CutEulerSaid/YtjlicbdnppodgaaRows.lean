/-
  No cell of these rows narrows 'for every input' (looked for: loops, veiled, ifaces, maps, wideKeys, modest, calm, conditions, laid).
  DERIVED. THE GIVEN ROWS OF THIS SEAT. 9 by the template 'for every input the law returns true; each argument reads behind the call as it read before'; 0 by the template 'total and deterministic' (their statements: YtjlicbdnppodgaaTotals.lean).
  GIVEN WITH THE SEED: the statements are not yours to turn. If you find one false, say at which input.
  Laid BY PROGRAM, IN A SANDBOX (cutbox-rows.mjs): the forced cells as the released guide's own fill.sh prints them over the translation 772aac08ce124d53… (all of the seat's roots in one cut). By AI agents, Wed Nov 11 2026. No macro, syntax, notation, axiom, sorry.
-/
import Derived.Test.YtjlicbdnppodgaaChecked
import GoSem.Claim
import GoSem.ClaimJoined
import GoSem.ClaimMapViews
import Derived.JoinedTies
import Derived.KernelRfl
namespace Go.Proofs.Ytjlicbdnppodgaa
/- THE CELL 'sum', in the pinned program and in every row, IS THE sha256 OF THE DUMP (.gsa) THAT YtjlicbdnppodgaaProg.lean LOADS. Nothing in Lean hashes anything: it is a label: what it is worth is what the hold of that sum in a sandbox is worth. -/
noncomputable def Try.pinned : Pinned := { name := "ytjlicbdnppodgaa", sum := "772aac08ce124d53498cc7ff48ea200fd99fd536a3c2e875597ab746fe4d6b78", checked := Try.checked }
namespace Rows
def none {H : Type} : Left H := { results := [], args := [] }

/-- 'jigworkslaw01.CutChecks': WHATEVER THE INPUT: true; the input reads as it did. -/
def cutChecksSpec : ChangeSpec := { name := "cutChecks", fn := fun _ => fun
  | [d1, d2] => { results := [.lit (.bool true)], args := [d1, d2] }
  | _ => none }
def cutChecksRow : OpenClaim := { program := "ytjlicbdnppodgaa", sum := "772aac08ce124d53498cc7ff48ea200fd99fd536a3c2e875597ab746fe4d6b78", func := "jigworks/jigworkslaw01.CutChecks", spec := "cutChecks", unfollowed := true, recurses := true, plainKeys := false, apart := false }
def CutChecksSaid : Prop := cutChecksRow.holds Try.pinned (OpenSpec.ofChange cutChecksSpec)

/-- ITS FALSE NEIGHBOUR: 'it returns false'. Refute it at one input. -/
def cutChecksWrong : ChangeSpec := { name := "cutChecks", fn := fun _ => fun
  | [d1, d2] => { results := [.lit (.bool false)], args := [d1, d2] }
  | _ => none }
def CutChecksWrongFalsely : Prop := cutChecksRow.holds Try.pinned (OpenSpec.ofChange cutChecksWrong)

/-- 'jigworkslaw01.CutLines': WHATEVER THE INPUT: true; the input reads as it did. -/
def cutLinesSpec : ChangeSpec := { name := "cutLines", fn := fun _ => fun
  | [d] => { results := [.lit (.bool true)], args := [d] }
  | _ => none }
def cutLinesRow : OpenClaim := { program := "ytjlicbdnppodgaa", sum := "772aac08ce124d53498cc7ff48ea200fd99fd536a3c2e875597ab746fe4d6b78", func := "jigworks/jigworkslaw01.CutLines", spec := "cutLines", unfollowed := true, recurses := true, plainKeys := false, apart := false }
def CutLinesSaid : Prop := cutLinesRow.holds Try.pinned (OpenSpec.ofChange cutLinesSpec)

/-- ITS FALSE NEIGHBOUR: 'it returns false'. Refute it at one input. -/
def cutLinesWrong : ChangeSpec := { name := "cutLines", fn := fun _ => fun
  | [d] => { results := [.lit (.bool false)], args := [d] }
  | _ => none }
def CutLinesWrongFalsely : Prop := cutLinesRow.holds Try.pinned (OpenSpec.ofChange cutLinesWrong)

/-- 'jigworkslaw01.CutJoins': WHATEVER THE INPUT: true; the input reads as it did. -/
def cutJoinsSpec : ChangeSpec := { name := "cutJoins", fn := fun _ => fun
  | [d1, d2, d3] => { results := [.lit (.bool true)], args := [d1, d2, d3] }
  | _ => none }
def cutJoinsRow : OpenClaim := { program := "ytjlicbdnppodgaa", sum := "772aac08ce124d53498cc7ff48ea200fd99fd536a3c2e875597ab746fe4d6b78", func := "jigworks/jigworkslaw01.CutJoins", spec := "cutJoins", unfollowed := true, recurses := true, plainKeys := false, apart := false }
def CutJoinsSaid : Prop := cutJoinsRow.holds Try.pinned (OpenSpec.ofChange cutJoinsSpec)

/-- ITS FALSE NEIGHBOUR: 'it returns false'. Refute it at one input. -/
def cutJoinsWrong : ChangeSpec := { name := "cutJoins", fn := fun _ => fun
  | [d1, d2, d3] => { results := [.lit (.bool false)], args := [d1, d2, d3] }
  | _ => none }
def CutJoinsWrongFalsely : Prop := cutJoinsRow.holds Try.pinned (OpenSpec.ofChange cutJoinsWrong)

/-- 'jigworkslaw01.CutWhole': WHATEVER THE INPUT: true; the input reads as it did. -/
def cutWholeSpec : ChangeSpec := { name := "cutWhole", fn := fun _ => fun
  | [d] => { results := [.lit (.bool true)], args := [d] }
  | _ => none }
def cutWholeRow : OpenClaim := { program := "ytjlicbdnppodgaa", sum := "772aac08ce124d53498cc7ff48ea200fd99fd536a3c2e875597ab746fe4d6b78", func := "jigworks/jigworkslaw01.CutWhole", spec := "cutWhole", unfollowed := true, recurses := true, plainKeys := false, apart := false }
def CutWholeSaid : Prop := cutWholeRow.holds Try.pinned (OpenSpec.ofChange cutWholeSpec)

/-- ITS FALSE NEIGHBOUR: 'it returns false'. Refute it at one input. -/
def cutWholeWrong : ChangeSpec := { name := "cutWhole", fn := fun _ => fun
  | [d] => { results := [.lit (.bool false)], args := [d] }
  | _ => none }
def CutWholeWrongFalsely : Prop := cutWholeRow.holds Try.pinned (OpenSpec.ofChange cutWholeWrong)

/-- 'jigworkslaw01.CutEuler': WHATEVER THE INPUT: true; the input reads as it did. -/
def cutEulerSpec : ChangeSpec := { name := "cutEuler", fn := fun _ => fun
  | [d] => { results := [.lit (.bool true)], args := [d] }
  | _ => none }
def cutEulerRow : OpenClaim := { program := "ytjlicbdnppodgaa", sum := "772aac08ce124d53498cc7ff48ea200fd99fd536a3c2e875597ab746fe4d6b78", func := "jigworks/jigworkslaw01.CutEuler", spec := "cutEuler", unfollowed := true, recurses := true, plainKeys := false, apart := false }
def CutEulerSaid : Prop := cutEulerRow.holds Try.pinned (OpenSpec.ofChange cutEulerSpec)

/-- ITS FALSE NEIGHBOUR: 'it returns false'. Refute it at one input. -/
def cutEulerWrong : ChangeSpec := { name := "cutEuler", fn := fun _ => fun
  | [d] => { results := [.lit (.bool false)], args := [d] }
  | _ => none }
def CutEulerWrongFalsely : Prop := cutEulerRow.holds Try.pinned (OpenSpec.ofChange cutEulerWrong)

/-- 'jigworkslaw01.CutInside': WHATEVER THE INPUT: true; the input reads as it did. -/
def cutInsideSpec : ChangeSpec := { name := "cutInside", fn := fun _ => fun
  | [d1, d2] => { results := [.lit (.bool true)], args := [d1, d2] }
  | _ => none }
def cutInsideRow : OpenClaim := { program := "ytjlicbdnppodgaa", sum := "772aac08ce124d53498cc7ff48ea200fd99fd536a3c2e875597ab746fe4d6b78", func := "jigworks/jigworkslaw01.CutInside", spec := "cutInside", unfollowed := true, recurses := true, plainKeys := false, apart := false }
def CutInsideSaid : Prop := cutInsideRow.holds Try.pinned (OpenSpec.ofChange cutInsideSpec)

/-- ITS FALSE NEIGHBOUR: 'it returns false'. Refute it at one input. -/
def cutInsideWrong : ChangeSpec := { name := "cutInside", fn := fun _ => fun
  | [d1, d2] => { results := [.lit (.bool false)], args := [d1, d2] }
  | _ => none }
def CutInsideWrongFalsely : Prop := cutInsideRow.holds Try.pinned (OpenSpec.ofChange cutInsideWrong)

/-- 'jigworkslaw01.CutSawn': WHATEVER THE INPUT: true; the input reads as it did. -/
def cutSawnSpec : ChangeSpec := { name := "cutSawn", fn := fun _ => fun
  | [d1, d2, d3] => { results := [.lit (.bool true)], args := [d1, d2, d3] }
  | _ => none }
def cutSawnRow : OpenClaim := { program := "ytjlicbdnppodgaa", sum := "772aac08ce124d53498cc7ff48ea200fd99fd536a3c2e875597ab746fe4d6b78", func := "jigworks/jigworkslaw01.CutSawn", spec := "cutSawn", unfollowed := true, recurses := true, plainKeys := false, apart := false }
def CutSawnSaid : Prop := cutSawnRow.holds Try.pinned (OpenSpec.ofChange cutSawnSpec)

/-- ITS FALSE NEIGHBOUR: 'it returns false'. Refute it at one input. -/
def cutSawnWrong : ChangeSpec := { name := "cutSawn", fn := fun _ => fun
  | [d1, d2, d3] => { results := [.lit (.bool false)], args := [d1, d2, d3] }
  | _ => none }
def CutSawnWrongFalsely : Prop := cutSawnRow.holds Try.pinned (OpenSpec.ofChange cutSawnWrong)

/-- 'jigworkslaw01.CutTurned': WHATEVER THE INPUT: true; the input reads as it did. -/
def cutTurnedSpec : ChangeSpec := { name := "cutTurned", fn := fun _ => fun
  | [d1, d2, d3] => { results := [.lit (.bool true)], args := [d1, d2, d3] }
  | _ => none }
def cutTurnedRow : OpenClaim := { program := "ytjlicbdnppodgaa", sum := "772aac08ce124d53498cc7ff48ea200fd99fd536a3c2e875597ab746fe4d6b78", func := "jigworks/jigworkslaw01.CutTurned", spec := "cutTurned", unfollowed := true, recurses := true, plainKeys := false, apart := false }
def CutTurnedSaid : Prop := cutTurnedRow.holds Try.pinned (OpenSpec.ofChange cutTurnedSpec)

/-- ITS FALSE NEIGHBOUR: 'it returns false'. Refute it at one input. -/
def cutTurnedWrong : ChangeSpec := { name := "cutTurned", fn := fun _ => fun
  | [d1, d2, d3] => { results := [.lit (.bool false)], args := [d1, d2, d3] }
  | _ => none }
def CutTurnedWrongFalsely : Prop := cutTurnedRow.holds Try.pinned (OpenSpec.ofChange cutTurnedWrong)

/-- 'jigworkslaw01.CutJoined': WHATEVER THE INPUT: true; the input reads as it did. -/
def cutJoinedSpec : ChangeSpec := { name := "cutJoined", fn := fun _ => fun
  | [d1, d2, d3] => { results := [.lit (.bool true)], args := [d1, d2, d3] }
  | _ => none }
def cutJoinedRow : OpenClaim := { program := "ytjlicbdnppodgaa", sum := "772aac08ce124d53498cc7ff48ea200fd99fd536a3c2e875597ab746fe4d6b78", func := "jigworks/jigworkslaw01.CutJoined", spec := "cutJoined", unfollowed := true, recurses := true, plainKeys := false, apart := false }
def CutJoinedSaid : Prop := cutJoinedRow.holds Try.pinned (OpenSpec.ofChange cutJoinedSpec)

/-- ITS FALSE NEIGHBOUR: 'it returns false'. Refute it at one input. -/
def cutJoinedWrong : ChangeSpec := { name := "cutJoined", fn := fun _ => fun
  | [d1, d2, d3] => { results := [.lit (.bool false)], args := [d1, d2, d3] }
  | _ => none }
def CutJoinedWrongFalsely : Prop := cutJoinedRow.holds Try.pinned (OpenSpec.ofChange cutJoinedWrong)

/- THE SECOND FORM. 'bulk': how many values and letters a reading holds, each counted each time it is reached (what is shared counts as often as it is met; a slice's spare places count too). A statement '..UptoSaid' is the law's where the arguments, and the package variables that the reading takes, are together of bulk at most 1048576: NARROWER than '..Said'. Prove '..Said' where nothing that the law and all that it calls make is longer than what came in: it says more and counts as full. Else prove '..UptoSaid'. A law counts once. -/
mutual
def uptoBulk {H : Type} : DataW H → Nat
  | .lit (.string bytes) => bytes.length + 1
  | .lit _ => 1
  | .nil => 1
  | .ptr d => uptoBulk d + 1
  | .slice elems spare => uptoBulkAll elems + uptoBulkAll spare + 1
  | .agg parts => uptoBulkAll parts + 1
  | .iface _ d => uptoBulk d + 1
  | .map entries => uptoBulkEntries entries + 1
  | .held _ => 1
def uptoBulkAll {H : Type} : List (DataW H) → Nat
  | [] => 0
  | d :: r => uptoBulk d + uptoBulkAll r
def uptoBulkEntries {H : Type} : List (Lit × DataW H) → Nat
  | [] => 0
  | x :: r => uptoBulkEntry x + uptoBulkEntries r
def uptoBulkEntry {H : Type} : Lit × DataW H → Nat
  | (.string bytes, d) => bytes.length + uptoBulk d + 1
  | (_, d) => uptoBulk d + 1
 end
def uptoSmall : (H : Type) → List (DataW H) → Bool := fun _ ds => decide (uptoBulkAll ds ≤ 1048576)
def OpenSpec.upto (s : _root_.Go.ChangeSpec) : _root_.Go.OpenSpec := { _root_.Go.OpenSpec.ofChange s with cond := some uptoSmall }

/-- 'jigworkslaw01.CutChecks', WHERE WHAT IT READS IS OF BULK AT MOST 1048576: true; the input reads as it did. -/
def cutChecksUptoRow : OpenClaim := { program := "ytjlicbdnppodgaa", sum := "772aac08ce124d53498cc7ff48ea200fd99fd536a3c2e875597ab746fe4d6b78", func := "jigworks/jigworkslaw01.CutChecks", spec := "cutChecks", unfollowed := true, recurses := true, plainKeys := false, apart := false, narrowed := true }
def CutChecksUptoSaid : Prop := cutChecksUptoRow.holds Try.pinned (OpenSpec.upto cutChecksSpec)

/-- 'jigworkslaw01.CutLines', WHERE WHAT IT READS IS OF BULK AT MOST 1048576: true; the input reads as it did. -/
def cutLinesUptoRow : OpenClaim := { program := "ytjlicbdnppodgaa", sum := "772aac08ce124d53498cc7ff48ea200fd99fd536a3c2e875597ab746fe4d6b78", func := "jigworks/jigworkslaw01.CutLines", spec := "cutLines", unfollowed := true, recurses := true, plainKeys := false, apart := false, narrowed := true }
def CutLinesUptoSaid : Prop := cutLinesUptoRow.holds Try.pinned (OpenSpec.upto cutLinesSpec)

/-- 'jigworkslaw01.CutJoins', WHERE WHAT IT READS IS OF BULK AT MOST 1048576: true; the input reads as it did. -/
def cutJoinsUptoRow : OpenClaim := { program := "ytjlicbdnppodgaa", sum := "772aac08ce124d53498cc7ff48ea200fd99fd536a3c2e875597ab746fe4d6b78", func := "jigworks/jigworkslaw01.CutJoins", spec := "cutJoins", unfollowed := true, recurses := true, plainKeys := false, apart := false, narrowed := true }
def CutJoinsUptoSaid : Prop := cutJoinsUptoRow.holds Try.pinned (OpenSpec.upto cutJoinsSpec)

/-- 'jigworkslaw01.CutWhole', WHERE WHAT IT READS IS OF BULK AT MOST 1048576: true; the input reads as it did. -/
def cutWholeUptoRow : OpenClaim := { program := "ytjlicbdnppodgaa", sum := "772aac08ce124d53498cc7ff48ea200fd99fd536a3c2e875597ab746fe4d6b78", func := "jigworks/jigworkslaw01.CutWhole", spec := "cutWhole", unfollowed := true, recurses := true, plainKeys := false, apart := false, narrowed := true }
def CutWholeUptoSaid : Prop := cutWholeUptoRow.holds Try.pinned (OpenSpec.upto cutWholeSpec)

/-- 'jigworkslaw01.CutEuler', WHERE WHAT IT READS IS OF BULK AT MOST 1048576: true; the input reads as it did. -/
def cutEulerUptoRow : OpenClaim := { program := "ytjlicbdnppodgaa", sum := "772aac08ce124d53498cc7ff48ea200fd99fd536a3c2e875597ab746fe4d6b78", func := "jigworks/jigworkslaw01.CutEuler", spec := "cutEuler", unfollowed := true, recurses := true, plainKeys := false, apart := false, narrowed := true }
def CutEulerUptoSaid : Prop := cutEulerUptoRow.holds Try.pinned (OpenSpec.upto cutEulerSpec)

/-- 'jigworkslaw01.CutInside', WHERE WHAT IT READS IS OF BULK AT MOST 1048576: true; the input reads as it did. -/
def cutInsideUptoRow : OpenClaim := { program := "ytjlicbdnppodgaa", sum := "772aac08ce124d53498cc7ff48ea200fd99fd536a3c2e875597ab746fe4d6b78", func := "jigworks/jigworkslaw01.CutInside", spec := "cutInside", unfollowed := true, recurses := true, plainKeys := false, apart := false, narrowed := true }
def CutInsideUptoSaid : Prop := cutInsideUptoRow.holds Try.pinned (OpenSpec.upto cutInsideSpec)

/-- 'jigworkslaw01.CutSawn', WHERE WHAT IT READS IS OF BULK AT MOST 1048576: true; the input reads as it did. -/
def cutSawnUptoRow : OpenClaim := { program := "ytjlicbdnppodgaa", sum := "772aac08ce124d53498cc7ff48ea200fd99fd536a3c2e875597ab746fe4d6b78", func := "jigworks/jigworkslaw01.CutSawn", spec := "cutSawn", unfollowed := true, recurses := true, plainKeys := false, apart := false, narrowed := true }
def CutSawnUptoSaid : Prop := cutSawnUptoRow.holds Try.pinned (OpenSpec.upto cutSawnSpec)

/-- 'jigworkslaw01.CutTurned', WHERE WHAT IT READS IS OF BULK AT MOST 1048576: true; the input reads as it did. -/
def cutTurnedUptoRow : OpenClaim := { program := "ytjlicbdnppodgaa", sum := "772aac08ce124d53498cc7ff48ea200fd99fd536a3c2e875597ab746fe4d6b78", func := "jigworks/jigworkslaw01.CutTurned", spec := "cutTurned", unfollowed := true, recurses := true, plainKeys := false, apart := false, narrowed := true }
def CutTurnedUptoSaid : Prop := cutTurnedUptoRow.holds Try.pinned (OpenSpec.upto cutTurnedSpec)

/-- 'jigworkslaw01.CutJoined', WHERE WHAT IT READS IS OF BULK AT MOST 1048576: true; the input reads as it did. -/
def cutJoinedUptoRow : OpenClaim := { program := "ytjlicbdnppodgaa", sum := "772aac08ce124d53498cc7ff48ea200fd99fd536a3c2e875597ab746fe4d6b78", func := "jigworks/jigworkslaw01.CutJoined", spec := "cutJoined", unfollowed := true, recurses := true, plainKeys := false, apart := false, narrowed := true }
def CutJoinedUptoSaid : Prop := cutJoinedUptoRow.holds Try.pinned (OpenSpec.upto cutJoinedSpec)

end Rows
end Go.Proofs.Ytjlicbdnppodgaa
