/- The closed facts of the row of FnSolutions. -/
import Derived.Test.YtohaalphocaebaaGreatRows
import Derived.ProofKit
import Derived.Carry
import Derived.WalkKit
set_option linter.all false
set_option maxHeartbeats 4000000
set_option maxRecDepth 4000
open Go.Proofs.Tryz renaming f6->k7,prog->ax
open Go.Proofs.YtohaalphocaebaaGreat.Rows renaming fnSolutionsRow->ka,fnSolutionsSpec->tA
namespace Go.Proofs.YtohaalphocaebaaGreat
section
open Go
theorem iE{a b:Bool}(J:a=true)(U:b=true):(a&&b)=true:=by rw[J,U];rfl
theorem aci:(ka.wf (OpenSpec.ofChange tA))=true:=by kernel_rfl
theorem acj:(laidOutB ax)=true:=by kernel_rfl
theorem acw:(mapsRowed ax)=true:=by kernel_rfl
theorem acH:(k7.params.all (ax.readableRec ·))=true:=by kernel_rfl
theorem acK:(namedTie ax ka.named tA.vars)=true:=by kernel_rfl
theorem acL:((ka.stops==[]))=true:=by kernel_rfl
theorem acM:((ax.stops==[]))=true:=by kernel_rfl
theorem acN:((ka.knobs==[]))=true:=by kernel_rfl
theorem acO:((ax.stopKnobs==[]))=true:=by kernel_rfl
theorem acP:((ka.inPlace==ax.inPlace 6))=true:=by kernel_rfl
theorem ack:((ka.unfollowed==ax.unfollowed 6))=true:=by kernel_rfl
theorem acm:((ka.recurses==ax.recurses 6))=true:=by kernel_rfl
theorem acn:((ka.named==ax.varsNamed 6))=true:=by kernel_rfl
theorem aco:((ka.maps==(k7.params.toList++tA.plain.varTypes ax).any (ax.mapsRec ·)))=true:=by kernel_rfl
theorem acp:((ka.ifaces==(k7.params.toList++tA.plain.varTypes ax).any (ax.ifacesRec ·)))=true:=by kernel_rfl
theorem acq:((ka.mapsOut==ax.mapsAmong k7.resultTypes.toList))=true:=by kernel_rfl
theorem acr:((ka.loops==(k7.params.toList++tA.plain.varTypes ax).any (ax.loopsFrom ·)))=true:=by kernel_rfl
theorem acs:((ka.wideKeys==(k7.params.toList++tA.plain.varTypes ax++k7.resultTypes.toList).any (ax.wideKeysFrom ·)))=true:=by kernel_rfl
theorem acu:(tA.vars.all (ax.varReadable ·))=true:=by kernel_rfl
theorem acv:(k7.resultTypes.all (fun t=>ax.readableRec t&&decide (t<ax.types.size)))=true:=by kernel_rfl
theorem acx:((ka.ifacesOut==k7.resultTypes.toList.any (ax.ifacesRec ·)))=true:=by kernel_rfl
theorem acy:((ka.loopsOut==k7.resultTypes.toList.any (ax.loopsFrom ·)))=true:=by kernel_rfl
theorem acz:((ka.plainKeys==ax.plainKeys))=true:=by kernel_rfl
theorem acA:(ka.shortTexts.isNone)=true:=by kernel_rfl
theorem acB:(ax.stopsHeard)=true:=by kernel_rfl
theorem acC:(ax.mayEnter)=true:=by kernel_rfl
theorem acD:((ka.lifted==ax.liftsFinal))=true:=by kernel_rfl
theorem acE:((ax.make==some ka.make))=true:=by kernel_rfl
theorem acF:((ka.kinds==(if ka.domain.isEmpty then []else k7.params.toList.map fun t=>match ax.underlying t with|some (.int k)=>some k|_=>none)))=true:=by kernel_rfl
theorem acG:((ka.pinned==ka.pinnedBy))=true:=by kernel_rfl
theorem acI:((ka.veiled==(k7.params.toList++tA.plain.varTypes ax++k7.resultTypes.toList).any (ax.veiledRec ·)))=true:=by kernel_rfl
theorem acJ:(ka.veiledFits ax k7.params.toList (k7.params.toList++tA.plain.varTypes ax++k7.resultTypes.toList))=true:=by kernel_rfl
end
end Go.Proofs.YtohaalphocaebaaGreat
