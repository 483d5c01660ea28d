/- The closed facts of the row of FnCompile. -/
import Derived.Test.YtlnndmgfngfeiaaGreatDoorRows
import Derived.ProofKit
import Derived.Carry
import Derived.WalkKit
import Derived.Test.YtlnndmgfngfeiaaGreatDoorZ10
set_option linter.all false
set_option maxHeartbeats 4000000
set_option maxRecDepth 4000
open Go.Proofs.Tryz renaming f6->jK,prog->aP
open Go.Proofs.YtlnndmgfngfeiaaGreatDoor.Rows renaming fnCompileRow->iS,fnCompileSpec->qj
namespace Go.Proofs.YtlnndmgfngfeiaaGreatDoor
section
open Go
theorem h0{a b:Bool}(I:a=true)(J:b=true):(a&&b)=true:=by rw[I,J];rfl
theorem VG:(iS.wf (OpenSpec.ofChange qj))=true:=by kernel_rfl
theorem VH:(laidOutB aP)=true:=by kernel_rfl
theorem VT:(mapsRowed aP)=true:=by kernel_rfl
theorem V4:(jK.params.all (aP.readableRec ·))=true:=by kernel_rfl
theorem V7:(namedTie aP iS.named qj.vars)=true:=by kernel_rfl
theorem V8:((iS.stops==[]))=true:=by kernel_rfl
theorem V9:((aP.stops==[]))=true:=by kernel_rfl
theorem Wa:((iS.knobs==[]))=true:=by kernel_rfl
theorem Wb:((aP.stopKnobs==[]))=true:=by kernel_rfl
theorem Wc:((iS.inPlace==aP.inPlace 6))=true:=by kernel_rfl
theorem VJ:((iS.unfollowed==aP.unfollowed 6))=true:=by kernel_rfl
theorem VK:((iS.recurses==aP.recurses 6))=true:=by kernel_rfl
theorem VL:((iS.named==aP.varsNamed 6))=true:=by kernel_rfl
theorem VM:((iS.maps==(jK.params.toList++qj.plain.varTypes aP).any (aP.mapsRec ·)))=true:=by kernel_rfl
theorem VN:((iS.ifaces==(jK.params.toList++qj.plain.varTypes aP).any (aP.ifacesRec ·)))=true:=by kernel_rfl
theorem VO:((iS.mapsOut==aP.mapsAmong jK.resultTypes.toList))=true:=by kernel_rfl
theorem VP:((iS.loops==(jK.params.toList++qj.plain.varTypes aP).any (aP.loopsFrom ·)))=true:=by kernel_rfl
theorem VQ:((iS.wideKeys==(jK.params.toList++qj.plain.varTypes aP++jK.resultTypes.toList).any (aP.wideKeysFrom ·)))=true:=by kernel_rfl
theorem VR:(qj.vars.all (aP.varReadable ·))=true:=by kernel_rfl
theorem VS:(jK.resultTypes.all (fun t=>aP.readableRec t&&decide (t<aP.types.size)))=true:=by kernel_rfl
theorem VU:((iS.ifacesOut==jK.resultTypes.toList.any (aP.ifacesRec ·)))=true:=by kernel_rfl
theorem VV:((iS.loopsOut==jK.resultTypes.toList.any (aP.loopsFrom ·)))=true:=by kernel_rfl
theorem VW:((iS.plainKeys==aP.plainKeys))=true:=by kernel_rfl
theorem VX:(iS.shortTexts.isNone)=true:=by kernel_rfl
theorem VY:(aP.stopsHeard)=true:=by kernel_rfl
theorem VZ:(aP.mayEnter)=true:=by kernel_rfl
theorem V0:((iS.lifted==aP.liftsFinal))=true:=by kernel_rfl
theorem V1:((aP.make==some iS.make))=true:=by kernel_rfl
theorem V2:((iS.kinds==(if iS.domain.isEmpty then []else jK.params.toList.map fun t=>match aP.underlying t with|some (.int k)=>some k|_=>none)))=true:=by kernel_rfl
theorem V3:((iS.pinned==iS.pinnedBy))=true:=by kernel_rfl
theorem V5:((iS.veiled==(jK.params.toList++qj.plain.varTypes aP++jK.resultTypes.toList).any (aP.veiledRec ·)))=true:=by kernel_rfl
theorem V6:(iS.veiledFits aP jK.params.toList (jK.params.toList++qj.plain.varTypes aP++jK.resultTypes.toList))=true:=by kernel_rfl
end
end Go.Proofs.YtlnndmgfngfeiaaGreatDoor
