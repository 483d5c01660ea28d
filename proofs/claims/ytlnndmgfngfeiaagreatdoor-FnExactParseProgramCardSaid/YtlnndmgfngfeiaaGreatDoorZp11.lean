/- The closed facts of the row of FnExactParseProgram. -/
import Derived.Test.YtlnndmgfngfeiaaGreatDoorRows
import Derived.ProofKit
import Derived.Carry
import Derived.WalkKit
import Derived.Test.YtlnndmgfngfeiaaGreatDoorZp10
set_option linter.all false
set_option maxHeartbeats 4000000
set_option maxRecDepth 4000
open Go.Proofs.Tryz renaming f7->jM,prog->aQ
open Go.Proofs.YtlnndmgfngfeiaaGreatDoor.Rows renaming fnExactParseProgramRow->iW,fnExactParseProgramSpec->p9
namespace Go.Proofs.YtlnndmgfngfeiaaGreatDoor
section
open Go
theorem h0{a b:Bool}(I:a=true)(J:b=true):(a&&b)=true:=by rw[I,J];rfl
theorem T2:(iW.wf (OpenSpec.ofChange p9))=true:=by kernel_rfl
theorem T3:(laidOutB aQ)=true:=by kernel_rfl
theorem Ue:(mapsRowed aQ)=true:=by kernel_rfl
theorem Up:(jM.params.all (aQ.readableRec ·))=true:=by kernel_rfl
theorem Us:(namedTie aQ iW.named p9.vars)=true:=by kernel_rfl
theorem Ut:((iW.stops==[]))=true:=by kernel_rfl
theorem Uu:((aQ.stops==[]))=true:=by kernel_rfl
theorem Uv:((iW.knobs==[]))=true:=by kernel_rfl
theorem Uw:((aQ.stopKnobs==[]))=true:=by kernel_rfl
theorem Ux:((iW.inPlace==aQ.inPlace 7))=true:=by kernel_rfl
theorem T4:((iW.unfollowed==aQ.unfollowed 7))=true:=by kernel_rfl
theorem T5:((iW.recurses==aQ.recurses 7))=true:=by kernel_rfl
theorem T6:((iW.named==aQ.varsNamed 7))=true:=by kernel_rfl
theorem T7:((iW.maps==(jM.params.toList++p9.plain.varTypes aQ).any (aQ.mapsRec ·)))=true:=by kernel_rfl
theorem T8:((iW.ifaces==(jM.params.toList++p9.plain.varTypes aQ).any (aQ.ifacesRec ·)))=true:=by kernel_rfl
theorem T9:((iW.mapsOut==aQ.mapsAmong jM.resultTypes.toList))=true:=by kernel_rfl
theorem Ua:((iW.loops==(jM.params.toList++p9.plain.varTypes aQ).any (aQ.loopsFrom ·)))=true:=by kernel_rfl
theorem Ub:((iW.wideKeys==(jM.params.toList++p9.plain.varTypes aQ++jM.resultTypes.toList).any (aQ.wideKeysFrom ·)))=true:=by kernel_rfl
theorem Uc:(p9.vars.all (aQ.varReadable ·))=true:=by kernel_rfl
theorem Ud:(jM.resultTypes.all (fun t=>aQ.readableRec t&&decide (t<aQ.types.size)))=true:=by kernel_rfl
theorem Uf:((iW.ifacesOut==jM.resultTypes.toList.any (aQ.ifacesRec ·)))=true:=by kernel_rfl
theorem Ug:((iW.loopsOut==jM.resultTypes.toList.any (aQ.loopsFrom ·)))=true:=by kernel_rfl
theorem Uh:((iW.plainKeys==aQ.plainKeys))=true:=by kernel_rfl
theorem Ui:(iW.shortTexts.isNone)=true:=by kernel_rfl
theorem Uj:(aQ.stopsHeard)=true:=by kernel_rfl
theorem Uk:(aQ.mayEnter)=true:=by kernel_rfl
theorem Ul:((iW.lifted==aQ.liftsFinal))=true:=by kernel_rfl
theorem Um:((aQ.make==some iW.make))=true:=by kernel_rfl
theorem Un:((iW.kinds==(if iW.domain.isEmpty then []else jM.params.toList.map fun t=>match aQ.underlying t with|some (.int k)=>some k|_=>none)))=true:=by kernel_rfl
theorem Uo:((iW.pinned==iW.pinnedBy))=true:=by kernel_rfl
theorem Uq:((iW.veiled==(jM.params.toList++p9.plain.varTypes aQ++jM.resultTypes.toList).any (aQ.veiledRec ·)))=true:=by kernel_rfl
theorem Ur:(iW.veiledFits aQ jM.params.toList (jM.params.toList++p9.plain.varTypes aQ++jM.resultTypes.toList))=true:=by kernel_rfl
end
end Go.Proofs.YtlnndmgfngfeiaaGreatDoor
