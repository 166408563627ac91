import Derived.Test.YtankkcbofgighaaGreatDoorK1
import Derived.Test.YtankkcbofgighaaGreatDoorRows
set_option linter.unusedVariables false
set_option linter.unusedSimpArgs false
set_option maxRecDepth 100000
set_option maxHeartbeats 40000000
namespace Go.Proofs.YtankkcbofgighaaGreatDoor
section
theorem zjY:(Rows.floorNoneRow.inPlace==Program.inPlace Tryz.prog 9)=true:=by kernel_rfl
theorem zjX:(Rows.floorNoneRow.unfollowed==Program.unfollowed Tryz.prog 9)=true:=by kernel_rfl
end
end Go.Proofs.YtankkcbofgighaaGreatDoor
