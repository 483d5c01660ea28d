/- The closed facts of the row of FnExactCountSolutions. -/
import Derived.Test.YtahlgcidhnjlbaaGreatRows
import Derived.ProofKit
import Derived.Carry
import Derived.WalkKit
import Derived.Test.YtahlgcidhnjlbaaGreatF5
set_option linter.all false
set_option maxHeartbeats 4000000
open Go.Proofs.Tryz renaming f8→kO,prog→ao
open Go.Proofs.YtahlgcidhnjlbaaGreat.Rows renaming fnExactCountSolutionsRow→jS,fnExactCountSolutionsSpec→su
namespace Go.Proofs.YtahlgcidhnjlbaaGreat
open Go
theorem ib{a b:Bool}(J:a=true)(U:b=true):(a&&b)=true:=by rw[J,U];rfl
theorem ZF:(jS.wf (OpenSpec.ofChange su))=true:=by kernel_rfl
theorem ZG:(laidOutB ao)=true:=by kernel_rfl
theorem ZR:(mapsRowed ao)=true:=by kernel_rfl
theorem Z2:(kO.params.all (ao.readableRec ·))=true:=by kernel_rfl
theorem Z5:(namedTie ao jS.named su.vars)=true:=by kernel_rfl
theorem Z6:((jS.stops==[]))=true:=by kernel_rfl
theorem Z7:((ao.stops==[]))=true:=by kernel_rfl
theorem Z8:((jS.knobs==[]))=true:=by kernel_rfl
theorem Z9:((ao.stopKnobs==[]))=true:=by kernel_rfl
theorem aaa:((jS.inPlace==ao.inPlace 8))=true:=by kernel_rfl
theorem ZH:((jS.unfollowed==ao.unfollowed 8))=true:=by kernel_rfl
theorem ZI:((jS.recurses==ao.recurses 8))=true:=by kernel_rfl
theorem ZJ:((jS.named==ao.varsNamed 8))=true:=by kernel_rfl
theorem ZK:((jS.maps==(kO.params.toList++su.plain.varTypes ao).any (ao.mapsRec ·)))=true:=by kernel_rfl
theorem ZL:((jS.ifaces==(kO.params.toList++su.plain.varTypes ao).any (ao.ifacesRec ·)))=true:=by kernel_rfl
theorem ZM:((jS.mapsOut==ao.mapsAmong kO.resultTypes.toList))=true:=by kernel_rfl
theorem ZN:((jS.loops==(kO.params.toList++su.plain.varTypes ao).any (ao.loopsFrom ·)))=true:=by kernel_rfl
theorem ZO:((jS.wideKeys==(kO.params.toList++su.plain.varTypes ao++kO.resultTypes.toList).any (ao.wideKeysFrom ·)))=true:=by kernel_rfl
theorem ZP:(su.vars.all (ao.varReadable ·))=true:=by kernel_rfl
theorem ZQ:(kO.resultTypes.all (fun t=>ao.readableRec t&&decide (t<ao.types.size)))=true:=by kernel_rfl
theorem ZS:((jS.ifacesOut==kO.resultTypes.toList.any (ao.ifacesRec ·)))=true:=by kernel_rfl
theorem ZT:((jS.loopsOut==kO.resultTypes.toList.any (ao.loopsFrom ·)))=true:=by kernel_rfl
theorem ZU:((jS.plainKeys==ao.plainKeys))=true:=by kernel_rfl
theorem ZV:(jS.shortTexts.isNone)=true:=by kernel_rfl
theorem ZW:(ao.stopsHeard)=true:=by kernel_rfl
theorem ZX:(ao.mayEnter)=true:=by kernel_rfl
theorem ZY:((jS.lifted==ao.liftsFinal))=true:=by kernel_rfl
theorem ZZ:((ao.make==some jS.make))=true:=by kernel_rfl
theorem Z0:((jS.kinds==(if jS.domain.isEmpty then []else kO.params.toList.map fun t=>match ao.underlying t with|some (.int k)=>some k|_=>none)))=true:=by kernel_rfl
theorem Z1:((jS.pinned==jS.pinnedBy))=true:=by kernel_rfl
theorem Z3:((jS.veiled==(kO.params.toList++su.plain.varTypes ao++kO.resultTypes.toList).any (ao.veiledRec ·)))=true:=by kernel_rfl
theorem Z4:(jS.veiledFits ao kO.params.toList (kO.params.toList++su.plain.varTypes ao++kO.resultTypes.toList))=true:=by kernel_rfl
end Go.Proofs.YtahlgcidhnjlbaaGreat
