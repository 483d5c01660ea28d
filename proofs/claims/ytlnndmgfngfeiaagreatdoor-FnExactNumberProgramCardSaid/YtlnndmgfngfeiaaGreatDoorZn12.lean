/- The closed facts of the row of FnExactNumberProgram. -/
import Derived.Test.YtlnndmgfngfeiaaGreatDoorRows
import Derived.ProofKit
import Derived.Carry
import Derived.WalkKit
import Derived.Test.YtlnndmgfngfeiaaGreatDoorZn11
set_option linter.all false
set_option maxHeartbeats 4000000
set_option maxRecDepth 4000
open Go.Proofs.Tryz renaming f9->kH,prog->aF
open Go.Proofs.YtlnndmgfngfeiaaGreatDoor.Rows renaming fnExactNumberProgramRow->jQ,fnExactNumberProgramSpec->rv
namespace Go.Proofs.YtlnndmgfngfeiaaGreatDoor
section
open Go
theorem iP{a b:Bool}(I:a=true)(J:b=true):(a&&b)=true:=by rw[I,J];rfl
theorem Zo:(jQ.wf (OpenSpec.ofChange rv))=true:=by kernel_rfl
theorem Zp:(laidOutB aF)=true:=by kernel_rfl
theorem ZA:(mapsRowed aF)=true:=by kernel_rfl
theorem ZL:(kH.params.all (aF.readableRec ·))=true:=by kernel_rfl
theorem ZO:(namedTie aF jQ.named rv.vars)=true:=by kernel_rfl
theorem ZP:((jQ.stops==[]))=true:=by kernel_rfl
theorem ZQ:((aF.stops==[]))=true:=by kernel_rfl
theorem ZR:((jQ.knobs==[]))=true:=by kernel_rfl
theorem ZS:((aF.stopKnobs==[]))=true:=by kernel_rfl
theorem ZT:((jQ.inPlace==aF.inPlace 9))=true:=by kernel_rfl
theorem Zq:((jQ.unfollowed==aF.unfollowed 9))=true:=by kernel_rfl
theorem Zr:((jQ.recurses==aF.recurses 9))=true:=by kernel_rfl
theorem Zs:((jQ.named==aF.varsNamed 9))=true:=by kernel_rfl
theorem Zt:((jQ.maps==(kH.params.toList++rv.plain.varTypes aF).any (aF.mapsRec ·)))=true:=by kernel_rfl
theorem Zu:((jQ.ifaces==(kH.params.toList++rv.plain.varTypes aF).any (aF.ifacesRec ·)))=true:=by kernel_rfl
theorem Zv:((jQ.mapsOut==aF.mapsAmong kH.resultTypes.toList))=true:=by kernel_rfl
theorem Zw:((jQ.loops==(kH.params.toList++rv.plain.varTypes aF).any (aF.loopsFrom ·)))=true:=by kernel_rfl
theorem Zx:((jQ.wideKeys==(kH.params.toList++rv.plain.varTypes aF++kH.resultTypes.toList).any (aF.wideKeysFrom ·)))=true:=by kernel_rfl
theorem Zy:(rv.vars.all (aF.varReadable ·))=true:=by kernel_rfl
theorem Zz:(kH.resultTypes.all (fun t=>aF.readableRec t&&decide (t<aF.types.size)))=true:=by kernel_rfl
theorem ZB:((jQ.ifacesOut==kH.resultTypes.toList.any (aF.ifacesRec ·)))=true:=by kernel_rfl
theorem ZC:((jQ.loopsOut==kH.resultTypes.toList.any (aF.loopsFrom ·)))=true:=by kernel_rfl
theorem ZD:((jQ.plainKeys==aF.plainKeys))=true:=by kernel_rfl
theorem ZE:(jQ.shortTexts.isNone)=true:=by kernel_rfl
theorem ZF:(aF.stopsHeard)=true:=by kernel_rfl
theorem ZG:(aF.mayEnter)=true:=by kernel_rfl
theorem ZH:((jQ.lifted==aF.liftsFinal))=true:=by kernel_rfl
theorem ZI:((aF.make==some jQ.make))=true:=by kernel_rfl
theorem ZJ:((jQ.kinds==(if jQ.domain.isEmpty then []else kH.params.toList.map fun t=>match aF.underlying t with|some (.int k)=>some k|_=>none)))=true:=by kernel_rfl
theorem ZK:((jQ.pinned==jQ.pinnedBy))=true:=by kernel_rfl
theorem ZM:((jQ.veiled==(kH.params.toList++rv.plain.varTypes aF++kH.resultTypes.toList).any (aF.veiledRec ·)))=true:=by kernel_rfl
theorem ZN:(jQ.veiledFits aF kH.params.toList (kH.params.toList++rv.plain.varTypes aF++kH.resultTypes.toList))=true:=by kernel_rfl
end
end Go.Proofs.YtlnndmgfngfeiaaGreatDoor
