/- The law FloorNone holds of the given program. Conditions: none beyond the card's own. -/
import Derived.Test.YtankkcbofgighaaGreatDoorK13
import Derived.Test.YtankkcbofgighaaGreatDoorK14
import Derived.Test.YtankkcbofgighaaGreatDoorK26
set_option linter.unusedVariables false
set_option linter.unusedSimpArgs false
set_option maxRecDepth 100000
set_option maxHeartbeats 40000000
namespace Go.Proofs.YtankkcbofgighaaGreatDoor
section
open Go.ChangeShapes Go.WideShapes Go.ChangeAt Go.RowKit Go.Deep
theorem zjL:OpenClaim.wfByText (OpenSpec.ofChange Rows.floorNoneSpec) Rows.floorNoneRow=true:=by kernel_rfl
theorem zhH:Program.mainIs Tryz.prog=some (true,"315b5b201582dd7887f24a1b734c22e5030c05524ebef79acede6a4f29b64309".toList):=by kernel_rfl
theorem floorNone_card:Rows.FloorNoneCardSaid:=
 Claim7.holds_tied_plain_at .later [] [.data,.data,.data,.data,.pinned] true (true,"315b5b201582dd7887f24a1b734c22e5030c05524ebef79acede6a4f29b64309") true
  zg0 (fun _ h=>by cases h) zjL (fun _ h=>by cases h) floorNone_row_tie rfl ⟨rfl,rfl⟩ zhH rfl
  (fun f fn hf ab=>by
   obtain rfl:f=9:=Option.some.inj ((show Tryz.prog.funcNamed "jigworks/jigworkslaw15.FloorNone" =some 9 by kernel_rfl).symm.trans hf) |>.symm
   obtain rfl:fn=Tryz.f9:=(Option.some.inj (Tryz.func9.symm.trans ab)).symm
   exact⟨zgZ,fun j t ht=>by
    rw[Tryz.params9] at ht
    have hm:t∈[9]:=by simpa using Array.mem_of_getElem? ht
    have aa:([9].all fun u=>!Tryz.prog.wantsStandIn u)=true:=by kernel_rfl
    exact(show Tryz.prog.wantsStandIn t=false by simpa using List.all_eq_true.1 aa t hm)⟩)
  zhI
end
end Go.Proofs.YtankkcbofgighaaGreatDoor
