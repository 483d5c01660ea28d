/- The closed facts of the row of FnExactSubsumes. -/
import Derived.Test.YtohaalphocaebaaGreatRows
import Derived.ProofKit
import Derived.Carry
import Derived.WalkKit
import Derived.Test.YtohaalphocaebaaGreatH5
set_option linter.all false
set_option maxHeartbeats 4000000
set_option maxRecDepth 4000
open Go.Proofs.Tryz renaming f8->k2,prog->al
open Go.Proofs.YtohaalphocaebaaGreat.Rows renaming fnExactSubsumesRow->kh,fnExactSubsumesSpec->tj
namespace Go.Proofs.YtohaalphocaebaaGreat
section
open Go
theorem iH{a b:Bool}(J:a=true)(U:b=true):(a&&b)=true:=by rw[J,U];rfl
theorem acs:(kh.wf (OpenSpec.ofChange tj))=true:=by kernel_rfl
theorem acu:(laidOutB al)=true:=by kernel_rfl
theorem acF:(mapsRowed al)=true:=by kernel_rfl
theorem acQ:(k2.params.all (al.readableRec ·))=true:=by kernel_rfl
theorem acT:(namedTie al kh.named tj.vars)=true:=by kernel_rfl
theorem acU:((kh.stops==[]))=true:=by kernel_rfl
theorem acV:((al.stops==[]))=true:=by kernel_rfl
theorem acW:((kh.knobs==[]))=true:=by kernel_rfl
theorem acX:((al.stopKnobs==[]))=true:=by kernel_rfl
theorem acY:((kh.inPlace==al.inPlace 8))=true:=by kernel_rfl
theorem acv:((kh.unfollowed==al.unfollowed 8))=true:=by kernel_rfl
theorem acw:((kh.recurses==al.recurses 8))=true:=by kernel_rfl
theorem acx:((kh.named==al.varsNamed 8))=true:=by kernel_rfl
theorem acy:((kh.maps==(k2.params.toList++tj.plain.varTypes al).any (al.mapsRec ·)))=true:=by kernel_rfl
theorem acz:((kh.ifaces==(k2.params.toList++tj.plain.varTypes al).any (al.ifacesRec ·)))=true:=by kernel_rfl
theorem acA:((kh.mapsOut==al.mapsAmong k2.resultTypes.toList))=true:=by kernel_rfl
theorem acB:((kh.loops==(k2.params.toList++tj.plain.varTypes al).any (al.loopsFrom ·)))=true:=by kernel_rfl
theorem acC:((kh.wideKeys==(k2.params.toList++tj.plain.varTypes al++k2.resultTypes.toList).any (al.wideKeysFrom ·)))=true:=by kernel_rfl
theorem acD:(tj.vars.all (al.varReadable ·))=true:=by kernel_rfl
theorem acE:(k2.resultTypes.all (fun t=>al.readableRec t&&decide (t<al.types.size)))=true:=by kernel_rfl
theorem acG:((kh.ifacesOut==k2.resultTypes.toList.any (al.ifacesRec ·)))=true:=by kernel_rfl
theorem acH:((kh.loopsOut==k2.resultTypes.toList.any (al.loopsFrom ·)))=true:=by kernel_rfl
theorem acI:((kh.plainKeys==al.plainKeys))=true:=by kernel_rfl
theorem acJ:(kh.shortTexts.isNone)=true:=by kernel_rfl
theorem acK:(al.stopsHeard)=true:=by kernel_rfl
theorem acL:(al.mayEnter)=true:=by kernel_rfl
theorem acM:((kh.lifted==al.liftsFinal))=true:=by kernel_rfl
theorem acN:((al.make==some kh.make))=true:=by kernel_rfl
theorem acO:((kh.kinds==(if kh.domain.isEmpty then []else k2.params.toList.map fun t=>match al.underlying t with|some (.int k)=>some k|_=>none)))=true:=by kernel_rfl
theorem acP:((kh.pinned==kh.pinnedBy))=true:=by kernel_rfl
theorem acR:((kh.veiled==(k2.params.toList++tj.plain.varTypes al++k2.resultTypes.toList).any (al.veiledRec ·)))=true:=by kernel_rfl
theorem acS:(kh.veiledFits al k2.params.toList (k2.params.toList++tj.plain.varTypes al++k2.resultTypes.toList))=true:=by kernel_rfl
end
end Go.Proofs.YtohaalphocaebaaGreat
