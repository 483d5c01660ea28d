/- The closed facts of the row of FnExactFormatState. -/
import Derived.Test.YtfeencekjcjalaaGreatDoorRows
import Derived.ProofKit
import Derived.Carry
import Derived.WalkKit
import Derived.Test.YtfeencekjcjalaaGreatDoorQ11
set_option linter.all false
set_option maxHeartbeats 4000000
set_option maxRecDepth 4000
open Go.Proofs.Tryz renaming f3->kM,prog->ar
open Go.Proofs.YtfeencekjcjalaaGreatDoor.Rows renaming fnExactFormatStateRow->jY,fnExactFormatStateSpec->rz
namespace Go.Proofs.YtfeencekjcjalaaGreatDoor
section
open Go
theorem iR{a b:Bool}(J:a=true)(U:b=true):(a&&b)=true:=by rw[J,U];rfl
theorem acE:(jY.wf (OpenSpec.ofChange rz))=true:=an
theorem acF:(laidOutB ar)=true:=an
theorem acQ:(mapsRowed ar)=true:=an
theorem ac1:(kM.params.all (ar.readableRec ·))=true:=an
theorem ac4:(namedTie ar jY.named rz.vars)=true:=an
theorem ac5:((jY.stops==[]))=true:=an
theorem ac6:((ar.stops==[]))=true:=an
theorem ac7:((jY.knobs==[]))=true:=an
theorem ac8:((ar.stopKnobs==[]))=true:=an
theorem ac9:((jY.inPlace==ar.inPlace 3))=true:=an
theorem acG:((jY.unfollowed==ar.unfollowed 3))=true:=an
theorem acH:((jY.recurses==ar.recurses 3))=true:=an
theorem acI:((jY.named==ar.varsNamed 3))=true:=an
theorem acJ:((jY.maps==(kM.params.toList++rz.plain.varTypes ar).any (ar.mapsRec ·)))=true:=an
theorem acK:((jY.ifaces==(kM.params.toList++rz.plain.varTypes ar).any (ar.ifacesRec ·)))=true:=an
theorem acL:((jY.mapsOut==ar.mapsAmong kM.resultTypes.toList))=true:=an
theorem acM:((jY.loops==(kM.params.toList++rz.plain.varTypes ar).any (ar.loopsFrom ·)))=true:=an
theorem acN:((jY.wideKeys==(kM.params.toList++rz.plain.varTypes ar++kM.resultTypes.toList).any (ar.wideKeysFrom ·)))=true:=an
theorem acO:(rz.vars.all (ar.varReadable ·))=true:=an
theorem acP:(kM.resultTypes.all (fun t=>ar.readableRec t&&decide (t<ar.types.size)))=true:=an
theorem acR:((jY.ifacesOut==kM.resultTypes.toList.any (ar.ifacesRec ·)))=true:=an
theorem acS:((jY.loopsOut==kM.resultTypes.toList.any (ar.loopsFrom ·)))=true:=an
theorem acT:((jY.plainKeys==ar.plainKeys))=true:=an
theorem acU:(jY.shortTexts.isNone)=true:=an
theorem acV:(ar.stopsHeard)=true:=an
theorem acW:(ar.mayEnter)=true:=an
theorem acX:((jY.lifted==ar.liftsFinal))=true:=an
theorem acY:((ar.make==some jY.make))=true:=an
theorem acZ:((jY.kinds==(if jY.domain.isEmpty then []else kM.params.toList.map fun t=>match ar.underlying t with|some (.int k)=>some k|_=>none)))=true:=an
theorem ac0:((jY.pinned==jY.pinnedBy))=true:=an
theorem ac2:((jY.veiled==(kM.params.toList++rz.plain.varTypes ar++kM.resultTypes.toList).any (ar.veiledRec ·)))=true:=an
theorem ac3:(jY.veiledFits ar kM.params.toList (kM.params.toList++rz.plain.varTypes ar++kM.resultTypes.toList))=true:=an
end
end Go.Proofs.YtfeencekjcjalaaGreatDoor
