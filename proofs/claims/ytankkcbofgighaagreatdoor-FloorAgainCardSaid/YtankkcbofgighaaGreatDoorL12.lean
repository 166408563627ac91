import Derived.Test.YtankkcbofgighaaGreatDoorL1
import Derived.Test.YtankkcbofgighaaGreatDoorRows
set_option linter.all false
set_option maxRecDepth 100000
set_option maxHeartbeats 40000000
namespace Go.Proofs.YtankkcbofgighaaGreatDoor
section
theorem zsx:(Rows.floorAgainRow.recurses==Program.recurses Tryz.prog 10)=true:=by kernel_rfl
theorem zsw:(Rows.floorAgainRow.named==Program.varsNamed Tryz.prog 10)=true:=by kernel_rfl
end
end Go.Proofs.YtankkcbofgighaaGreatDoor
