/- The closed facts of the row of FnExactParseGoal. -/
import Derived.Test.YtlnndmgfngfeiaaDoorRows
import Derived.ProofKit
import Derived.Carry
import Derived.WalkKit
import Derived.Test.YtlnndmgfngfeiaaDoorZg8
set_option linter.all false
set_option maxHeartbeats 4000000
set_option maxRecDepth 4000
open Go.Proofs.Tryd renaming f3->ie,prog->aP
open Go.Proofs.YtlnndmgfngfeiaaDoor.Rows renaming fnExactParseGoalRow->hH,fnExactParseGoalSpec->nH
namespace Go.Proofs.YtlnndmgfngfeiaaDoor
section
open Go
theorem gS{a b:Bool}(I:a=true)(aa:b=true):(a&&b)=true:=by rw[I,aa];rfl
theorem MG:(hH.wf (OpenSpec.ofChange nH))=true:=by kernel_rfl
theorem MH:(laidOutB aP)=true:=by kernel_rfl
theorem MS:(mapsRowed aP)=true:=by kernel_rfl
theorem M3:(ie.params.all (aP.readableRec ·))=true:=by kernel_rfl
theorem M6:(namedTie aP hH.named nH.vars)=true:=by kernel_rfl
theorem M7:((hH.stops==[]))=true:=by kernel_rfl
theorem M8:((aP.stops==[]))=true:=by kernel_rfl
theorem M9:((hH.knobs==[]))=true:=by kernel_rfl
theorem Na:((aP.stopKnobs==[]))=true:=by kernel_rfl
theorem Nb:((hH.inPlace==aP.inPlace 3))=true:=by kernel_rfl
theorem MI:((hH.unfollowed==aP.unfollowed 3))=true:=by kernel_rfl
theorem MJ:((hH.recurses==aP.recurses 3))=true:=by kernel_rfl
theorem MK:((hH.named==aP.varsNamed 3))=true:=by kernel_rfl
theorem ML:((hH.maps==(ie.params.toList++nH.plain.varTypes aP).any (aP.mapsRec ·)))=true:=by kernel_rfl
theorem MM:((hH.ifaces==(ie.params.toList++nH.plain.varTypes aP).any (aP.ifacesRec ·)))=true:=by kernel_rfl
theorem MN:((hH.mapsOut==aP.mapsAmong ie.resultTypes.toList))=true:=by kernel_rfl
theorem MO:((hH.loops==(ie.params.toList++nH.plain.varTypes aP).any (aP.loopsFrom ·)))=true:=by kernel_rfl
theorem MP:((hH.wideKeys==(ie.params.toList++nH.plain.varTypes aP++ie.resultTypes.toList).any (aP.wideKeysFrom ·)))=true:=by kernel_rfl
theorem MQ:(nH.vars.all (aP.varReadable ·))=true:=by kernel_rfl
theorem MR:(ie.resultTypes.all (fun t=>aP.readableRec t&&decide (t<aP.types.size)))=true:=by kernel_rfl
theorem MT:((hH.ifacesOut==ie.resultTypes.toList.any (aP.ifacesRec ·)))=true:=by kernel_rfl
theorem MU:((hH.loopsOut==ie.resultTypes.toList.any (aP.loopsFrom ·)))=true:=by kernel_rfl
theorem MV:((hH.plainKeys==aP.plainKeys))=true:=by kernel_rfl
theorem MW:(hH.shortTexts.isNone)=true:=by kernel_rfl
theorem MX:(aP.stopsHeard)=true:=by kernel_rfl
theorem MY:(aP.mayEnter)=true:=by kernel_rfl
theorem MZ:((hH.lifted==aP.liftsFinal))=true:=by kernel_rfl
theorem M0:((aP.make==some hH.make))=true:=by kernel_rfl
theorem M1:((hH.kinds==(if hH.domain.isEmpty then []else ie.params.toList.map fun t=>match aP.underlying t with|some (.int k)=>some k|_=>none)))=true:=by kernel_rfl
theorem M2:((hH.pinned==hH.pinnedBy))=true:=by kernel_rfl
theorem M4:((hH.veiled==(ie.params.toList++nH.plain.varTypes aP++ie.resultTypes.toList).any (aP.veiledRec ·)))=true:=by kernel_rfl
theorem M5:(hH.veiledFits aP ie.params.toList (ie.params.toList++nH.plain.varTypes aP++ie.resultTypes.toList))=true:=by kernel_rfl
end
end Go.Proofs.YtlnndmgfngfeiaaDoor
