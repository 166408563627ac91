import Derived.Test.YtankkcbofgighaaGreatDoorK11
import Derived.Test.YtankkcbofgighaaGreatDoorK12
import Derived.Test.YtankkcbofgighaaGreatDoorK25
set_option linter.unusedVariables false
set_option linter.unusedSimpArgs false
set_option maxRecDepth 100000
set_option maxHeartbeats 40000000
namespace Go.Proofs.YtankkcbofgighaaGreatDoor
section
open Go.ChangeShapes Go.WideShapes Go.ChangeAt Go.RowKit Go.Deep
theorem zjU:OpenClaim.wf (OpenSpec.ofChange Rows.floorNoneSpec) Rows.floorNoneRow=true:=by kernel_rfl
theorem zjT:laidOutB Tryz.prog=true:=by kernel_rfl
theorem zjS:mapsRowed Tryz.prog=true:=by kernel_rfl
theorem zjR:(Tryz.f9.params.all (Program.readableRec Tryz.prog ·))=true:=by kernel_rfl
theorem zjQ:namedTie Tryz.prog Rows.floorNoneRow.named Rows.floorNoneSpec.vars=true:=by kernel_rfl
theorem zjP:(Rows.floorNoneRow.stops==[])=true:=by kernel_rfl
theorem zjO:(Program.stops Tryz.prog==[])=true:=by kernel_rfl
theorem zjN:(Rows.floorNoneRow.knobs==[])=true:=by kernel_rfl
theorem zjM:(Program.stopKnobs Tryz.prog==[])=true:=by kernel_rfl
theorem ziM:(Rows.floorNoneRow.maps==(Tryz.f9.params.toList++DataSpec.varTypes Tryz.prog Rows.floorNoneSpec.plain).any (Program.mapsRec Tryz.prog ·))=true:=by kernel_rfl
theorem ziL:(Rows.floorNoneRow.ifaces==(Tryz.f9.params.toList++DataSpec.varTypes Tryz.prog Rows.floorNoneSpec.plain).any (Program.ifacesRec Tryz.prog ·))=true:=by kernel_rfl
theorem ziK:(Rows.floorNoneRow.mapsOut==Program.mapsAmong Tryz.prog Tryz.f9.resultTypes.toList)=true:=by kernel_rfl
theorem ziJ:(Rows.floorNoneRow.loops==(Tryz.f9.params.toList++DataSpec.varTypes Tryz.prog Rows.floorNoneSpec.plain).any (Program.loopsFrom Tryz.prog ·))=true:=by kernel_rfl
theorem ziI:(Rows.floorNoneRow.wideKeys==(Tryz.f9.params.toList++DataSpec.varTypes Tryz.prog Rows.floorNoneSpec.plain++Tryz.f9.resultTypes.toList).any (Program.wideKeysFrom Tryz.prog ·))=true:=by kernel_rfl
theorem ziH:(Rows.floorNoneSpec.vars.all (Program.varReadable Tryz.prog ·))=true:=by kernel_rfl
theorem ziG:(Tryz.f9.resultTypes.all (fun t=>Program.readableRec Tryz.prog t&&decide (t<(Tryz.prog.types).size)))=true:=by kernel_rfl
theorem ziF:(Rows.floorNoneRow.ifacesOut==Tryz.f9.resultTypes.toList.any (Program.ifacesRec Tryz.prog ·))=true:=by kernel_rfl
theorem ziE:(Rows.floorNoneRow.loopsOut==Tryz.f9.resultTypes.toList.any (Program.loopsFrom Tryz.prog ·))=true:=by kernel_rfl
theorem ziD:(Rows.floorNoneRow.plainKeys==Program.plainKeys Tryz.prog)=true:=by kernel_rfl
theorem ziC:Rows.floorNoneRow.shortTexts.isNone=true:=by kernel_rfl
theorem ziB:Program.stopsHeard Tryz.prog=true:=by kernel_rfl
theorem ziA:Program.mayEnter Tryz.prog=true:=by kernel_rfl
theorem ziz:(Rows.floorNoneRow.lifted==Program.liftsFinal Tryz.prog)=true:=by kernel_rfl
theorem ziy:(Program.make Tryz.prog==some Rows.floorNoneRow.make)=true:=by kernel_rfl
theorem zrl{a b:Bool}(ha:a=true)(hb:b=true):(a&&b)=true:=by rw[ha,hb];rfl
theorem zg1:joinedFacts Tryz.prog 9 Tryz.f9 Rows.floorNoneSpec Rows.floorNoneRow=true:=by
 unfold joinedFacts
 repeat' (with_reducible refine zrl ?_ ?_)
 .exact zjU
 .exact zjT
 .exact zjS
 .exact zjR
 .exact zjQ
 .exact zjP
 .exact zjO
 .exact zjN
 .exact zjM
 .exact zjY
 .exact zjX
 .exact zjW
 .exact zjV
 .exact ziM
 .exact ziL
 .exact ziK
 .exact ziJ
 .exact ziI
 .exact ziH
 .exact ziG
 .exact ziF
 .exact ziE
 .exact ziD
 .exact ziC
 .exact ziB
 .exact ziA
 .exact ziz
 .exact ziy
 all_goals kernel_rfl
theorem zg0:Rows.FloorNoneSaid:=
 OpenClaim.holds_of_wide 9 Tryz.f9 rfl rfl rfl rfl rfl rfl rfl ⟨rfl,rfl,rfl,rfl,rfl⟩ rfl rfl rfl rfl rfl (by kernel_rfl) Tryz.func9 zg1
  (of_decide_eq_true (by kernel_rfl)) (by unfold Func.isWrapper;first|(rw[if_pos (by decide +kernel)];kernel_rfl)|(rw[if_neg (by decide +kernel)];exact⟨rfl,rfl⟩))
  (fun os started H enc _=>zgp os started H enc)
end
end Go.Proofs.YtankkcbofgighaaGreatDoor
