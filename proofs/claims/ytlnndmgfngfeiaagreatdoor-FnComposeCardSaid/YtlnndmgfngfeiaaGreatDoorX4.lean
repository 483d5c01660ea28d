/- The closed facts of the row of FnCompose. -/
import Derived.Test.YtlnndmgfngfeiaaGreatDoorRows
import Derived.ProofKit
import Derived.Carry
import Derived.WalkKit
import Derived.Test.YtlnndmgfngfeiaaGreatDoorX3
set_option linter.all false
set_option maxHeartbeats 4000000
set_option maxRecDepth 4000
open Go.Proofs.Tryz renaming f4->gr,prog->aI
open Go.Proofs.YtlnndmgfngfeiaaGreatDoor.Rows renaming fnComposeRow->fP,fnComposeSpec->ks
namespace Go.Proofs.YtlnndmgfngfeiaaGreatDoor
section
open Go
theorem fa{a b:Bool}(I:a=true)(J:b=true):(a&&b)=true:=by rw[I,J];rfl
theorem HK:(fP.wf (OpenSpec.ofChange ks))=true:=by kernel_rfl
theorem HL:(laidOutB aI)=true:=by kernel_rfl
theorem HW:(mapsRowed aI)=true:=by kernel_rfl
theorem H8:(gr.params.all (aI.readableRec ·))=true:=by kernel_rfl
theorem Ib:(namedTie aI fP.named ks.vars)=true:=by kernel_rfl
theorem Ic:((fP.stops==[]))=true:=by kernel_rfl
theorem Ie:((aI.stops==[]))=true:=by kernel_rfl
theorem If:((fP.knobs==[]))=true:=by kernel_rfl
theorem Ig:((aI.stopKnobs==[]))=true:=by kernel_rfl
theorem Ih:((fP.inPlace==aI.inPlace 4))=true:=by kernel_rfl
theorem HM:((fP.unfollowed==aI.unfollowed 4))=true:=by kernel_rfl
theorem HN:((fP.recurses==aI.recurses 4))=true:=by kernel_rfl
theorem HO:((fP.named==aI.varsNamed 4))=true:=by kernel_rfl
theorem HP:((fP.maps==(gr.params.toList++ks.plain.varTypes aI).any (aI.mapsRec ·)))=true:=by kernel_rfl
theorem HQ:((fP.ifaces==(gr.params.toList++ks.plain.varTypes aI).any (aI.ifacesRec ·)))=true:=by kernel_rfl
theorem HR:((fP.mapsOut==aI.mapsAmong gr.resultTypes.toList))=true:=by kernel_rfl
theorem HS:((fP.loops==(gr.params.toList++ks.plain.varTypes aI).any (aI.loopsFrom ·)))=true:=by kernel_rfl
theorem HT:((fP.wideKeys==(gr.params.toList++ks.plain.varTypes aI++gr.resultTypes.toList).any (aI.wideKeysFrom ·)))=true:=by kernel_rfl
theorem HU:(ks.vars.all (aI.varReadable ·))=true:=by kernel_rfl
theorem HV:(gr.resultTypes.all (fun t=>aI.readableRec t&&decide (t<aI.types.size)))=true:=by kernel_rfl
theorem HX:((fP.ifacesOut==gr.resultTypes.toList.any (aI.ifacesRec ·)))=true:=by kernel_rfl
theorem HY:((fP.loopsOut==gr.resultTypes.toList.any (aI.loopsFrom ·)))=true:=by kernel_rfl
theorem HZ:((fP.plainKeys==aI.plainKeys))=true:=by kernel_rfl
theorem H0:(fP.shortTexts.isNone)=true:=by kernel_rfl
theorem H2:(aI.stopsHeard)=true:=by kernel_rfl
theorem H3:(aI.mayEnter)=true:=by kernel_rfl
theorem H4:((fP.lifted==aI.liftsFinal))=true:=by kernel_rfl
theorem H5:((aI.make==some fP.make))=true:=by kernel_rfl
theorem H6:((fP.kinds==(if fP.domain.isEmpty then []else gr.params.toList.map fun t=>match aI.underlying t with|some (.int k)=>some k|_=>none)))=true:=by kernel_rfl
theorem H7:((fP.pinned==fP.pinnedBy))=true:=by kernel_rfl
theorem H9:((fP.veiled==(gr.params.toList++ks.plain.varTypes aI++gr.resultTypes.toList).any (aI.veiledRec ·)))=true:=by kernel_rfl
theorem Ia:(fP.veiledFits aI gr.params.toList (gr.params.toList++ks.plain.varTypes aI++gr.resultTypes.toList))=true:=by kernel_rfl
end
end Go.Proofs.YtlnndmgfngfeiaaGreatDoor
