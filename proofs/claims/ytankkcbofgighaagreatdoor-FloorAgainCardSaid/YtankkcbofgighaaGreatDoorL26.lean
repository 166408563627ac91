import Derived.Test.YtankkcbofgighaaGreatDoorL11
import Derived.Test.YtankkcbofgighaaGreatDoorL12
import Derived.Test.YtankkcbofgighaaGreatDoorL25
set_option linter.all false
set_option maxRecDepth 100000
set_option maxHeartbeats 40000000
namespace Go.Proofs.YtankkcbofgighaaGreatDoor
section
open Go.ChangeShapes Go.WideShapes Go.ChangeAt Go.RowKit Go.Deep
theorem zsv:OpenClaim.wf (OpenSpec.ofChange Rows.floorAgainSpec) Rows.floorAgainRow=true:=by kernel_rfl
theorem zsu:laidOutB Tryz.prog=true:=by kernel_rfl
theorem zst:mapsRowed Tryz.prog=true:=by kernel_rfl
theorem zss:(Tryz.f10.params.all (Program.readableRec Tryz.prog ·))=true:=by kernel_rfl
theorem zsr:namedTie Tryz.prog Rows.floorAgainRow.named Rows.floorAgainSpec.vars=true:=by kernel_rfl
theorem zsq:(Rows.floorAgainRow.stops==[])=true:=by kernel_rfl
theorem zsp:(Program.stops Tryz.prog==[])=true:=by kernel_rfl
theorem zso:(Rows.floorAgainRow.knobs==[])=true:=by kernel_rfl
theorem zsn:(Program.stopKnobs Tryz.prog==[])=true:=by kernel_rfl
theorem zsj:(Rows.floorAgainRow.maps==(Tryz.f10.params.toList++DataSpec.varTypes Tryz.prog Rows.floorAgainSpec.plain).any (Program.mapsRec Tryz.prog ·))=true:=by kernel_rfl
theorem zsi:(Rows.floorAgainRow.ifaces==(Tryz.f10.params.toList++DataSpec.varTypes Tryz.prog Rows.floorAgainSpec.plain).any (Program.ifacesRec Tryz.prog ·))=true:=by kernel_rfl
theorem zsh:(Rows.floorAgainRow.mapsOut==Program.mapsAmong Tryz.prog Tryz.f10.resultTypes.toList)=true:=by kernel_rfl
theorem zsg:(Rows.floorAgainRow.loops==(Tryz.f10.params.toList++DataSpec.varTypes Tryz.prog Rows.floorAgainSpec.plain).any (Program.loopsFrom Tryz.prog ·))=true:=by kernel_rfl
theorem zsf:(Rows.floorAgainRow.wideKeys==(Tryz.f10.params.toList++DataSpec.varTypes Tryz.prog Rows.floorAgainSpec.plain++Tryz.f10.resultTypes.toList).any (Program.wideKeysFrom Tryz.prog ·))=true:=by kernel_rfl
theorem zse:(Rows.floorAgainSpec.vars.all (Program.varReadable Tryz.prog ·))=true:=by kernel_rfl
theorem zsd:(Tryz.f10.resultTypes.all (fun t=>Program.readableRec Tryz.prog t&&decide (t<(Tryz.prog.types).size)))=true:=by kernel_rfl
theorem zsc:(Rows.floorAgainRow.ifacesOut==Tryz.f10.resultTypes.toList.any (Program.ifacesRec Tryz.prog ·))=true:=by kernel_rfl
theorem zsb:(Rows.floorAgainRow.loopsOut==Tryz.f10.resultTypes.toList.any (Program.loopsFrom Tryz.prog ·))=true:=by kernel_rfl
theorem zsa:(Rows.floorAgainRow.plainKeys==Program.plainKeys Tryz.prog)=true:=by kernel_rfl
theorem zr9:Rows.floorAgainRow.shortTexts.isNone=true:=by kernel_rfl
theorem zr8:Program.stopsHeard Tryz.prog=true:=by kernel_rfl
theorem zr7:Program.mayEnter Tryz.prog=true:=by kernel_rfl
theorem zr6:(Rows.floorAgainRow.lifted==Program.liftsFinal Tryz.prog)=true:=by kernel_rfl
theorem zr5:(Program.make Tryz.prog==some Rows.floorAgainRow.make)=true:=by kernel_rfl
theorem zrl{a b:Bool}(ha:a=true)(hb:b=true):(a&&b)=true:=by rw[ha,hb];rfl
theorem zrY:joinedFacts Tryz.prog 10 Tryz.f10 Rows.floorAgainSpec Rows.floorAgainRow=true:=by
 unfold joinedFacts
 repeat' (with_reducible refine zrl ?_ ?_)
 .exact zsv
 .exact zsu
 .exact zst
 .exact zss
 .exact zsr
 .exact zsq
 .exact zsp
 .exact zso
 .exact zsn
 .exact zsz
 .exact zsy
 .exact zsx
 .exact zsw
 .exact zsj
 .exact zsi
 .exact zsh
 .exact zsg
 .exact zsf
 .exact zse
 .exact zsd
 .exact zsc
 .exact zsb
 .exact zsa
 .exact zr9
 .exact zr8
 .exact zr7
 .exact zr6
 .exact zr5
 all_goals kernel_rfl
theorem zrX:Rows.FloorAgainSaid:=
 OpenClaim.holds_of_wide 10 Tryz.f10 rfl rfl rfl rfl rfl rfl rfl ⟨rfl,rfl,rfl,rfl,rfl⟩ rfl rfl rfl rfl rfl (by kernel_rfl) Tryz.func10 zrY
  (of_decide_eq_true (by kernel_rfl)) (by unfold Func.isWrapper;first|(rw[if_pos (by decide +kernel)];kernel_rfl)|(rw[if_neg (by decide +kernel)];exact⟨rfl,rfl⟩))
  (fun os started H enc _=>zrU os started H enc)
end
end Go.Proofs.YtankkcbofgighaaGreatDoor
