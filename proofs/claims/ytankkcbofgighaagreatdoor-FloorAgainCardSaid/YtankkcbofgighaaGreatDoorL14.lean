import Derived.Test.YtankkcbofgighaaGreatDoorL1
import Derived.Test.YtankkcbofgighaaGreatDoorCards
set_option linter.all false
set_option maxRecDepth 100000
set_option maxHeartbeats 40000000
namespace Go.Proofs.YtankkcbofgighaaGreatDoor
section
theorem zr2:false=OpenClaim.goesBy Rows.floorAgainRow Tryz.prog:=by kernel_rfl
end
end Go.Proofs.YtankkcbofgighaaGreatDoor
