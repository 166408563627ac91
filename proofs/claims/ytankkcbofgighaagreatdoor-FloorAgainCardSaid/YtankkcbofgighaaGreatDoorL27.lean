/- The law FloorAgain holds of the given program: for every input it returns true and leaves its arguments as they read. Conditions: none beyond the card's own: the library's tables read as the program's text lays them (tied), and one table is pinned by name. -/
import Derived.Test.YtankkcbofgighaaGreatDoorL13
import Derived.Test.YtankkcbofgighaaGreatDoorL14
import Derived.Test.YtankkcbofgighaaGreatDoorL26
set_option linter.all false
set_option maxRecDepth 100000
set_option maxHeartbeats 40000000
namespace Go.Proofs.YtankkcbofgighaaGreatDoor
section
open Go.ChangeShapes Go.WideShapes Go.ChangeAt Go.RowKit Go.Deep
theorem zsm:OpenClaim.wfByText (OpenSpec.ofChange Rows.floorAgainSpec) Rows.floorAgainRow=true:=by kernel_rfl
theorem zr1:Program.mainIs Tryz.prog=some (true,"315b5b201582dd7887f24a1b734c22e5030c05524ebef79acede6a4f29b64309".toList):=by kernel_rfl
theorem floorAgain_card:Rows.FloorAgainCardSaid:=
 Claim7.holds_tied_plain_at .later [] [.data,.data,.data,.data,.pinned] true (true,"315b5b201582dd7887f24a1b734c22e5030c05524ebef79acede6a4f29b64309") true
  zrX (fun _ h=>by cases h) zsm (fun _ h=>by cases h) floorAgain_row_tie rfl ⟨rfl,rfl⟩ zr1 rfl
  (fun f fn hf ab=>by
   obtain rfl:f=10:=Option.some.inj ((show Tryz.prog.funcNamed "jigworks/jigworkslaw15.FloorAgain" =some 10 by kernel_rfl).symm.trans hf) |>.symm
   obtain rfl:fn=Tryz.f10:=(Option.some.inj (Tryz.func10.symm.trans ab)).symm
   exact⟨zrW,fun j t ht=>by
    rw[Tryz.params10] at ht
    have hm:t∈[24,3,3,30,5]:=by simpa using Array.mem_of_getElem? ht
    have aa:([24,3,3,30,5].all fun u=>!Tryz.prog.wantsStandIn u)=true:=by kernel_rfl
    exact(show Tryz.prog.wantsStandIn t=false by simpa using List.all_eq_true.1 aa t hm)⟩)
  zr2
end
end Go.Proofs.YtankkcbofgighaaGreatDoor
