import Derived.Test.YtankkcbofgighaaGreatDoorL1
import Derived.Test.YtankkcbofgighaaGreatDoorRows
set_option linter.all false
set_option maxRecDepth 100000
set_option maxHeartbeats 40000000
namespace Go.Proofs.YtankkcbofgighaaGreatDoor
section
theorem zsz:(Rows.floorAgainRow.inPlace==Program.inPlace Tryz.prog 10)=true:=by kernel_rfl
theorem zsy:(Rows.floorAgainRow.unfollowed==Program.unfollowed Tryz.prog 10)=true:=by kernel_rfl
end
end Go.Proofs.YtankkcbofgighaaGreatDoor
