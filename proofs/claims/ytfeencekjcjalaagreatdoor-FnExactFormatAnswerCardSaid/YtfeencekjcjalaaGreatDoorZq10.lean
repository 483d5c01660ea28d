/- The closed facts of the row of FnExactFormatAnswer. -/
import Derived.Test.YtfeencekjcjalaaGreatDoorRows
import Derived.ProofKit
import Derived.Carry
import Derived.WalkKit
import Derived.Test.YtfeencekjcjalaaGreatDoorZq9
set_option linter.all false
set_option maxHeartbeats 4000000
set_option maxRecDepth 4000
open Go.Proofs.Tryz renaming f4->kS,prog->ar
open Go.Proofs.YtfeencekjcjalaaGreatDoor.Rows renaming fnExactFormatAnswerRow->jZ,fnExactFormatAnswerSpec->rP
namespace Go.Proofs.YtfeencekjcjalaaGreatDoor
section
open Go
def jd{a b:Bool}(J:a=true)(U:b=true):(a&&b)=true:=by rw[J,U];rfl
def adU:(jZ.wf (OpenSpec.ofChange rP))=true:=an
def adV:(laidOutB ar)=true:=an
def ad6:(mapsRowed ar)=true:=an
def aeh:(kS.params.all (ar.readableRec ·))=true:=an
def aek:(namedTie ar jZ.named rP.vars)=true:=an
def ael:((jZ.stops==[]))=true:=an
def aem:((ar.stops==[]))=true:=an
def aen:((jZ.knobs==[]))=true:=an
def aeo:((ar.stopKnobs==[]))=true:=an
def aep:((jZ.inPlace==ar.inPlace 4))=true:=an
def adW:((jZ.unfollowed==ar.unfollowed 4))=true:=an
def adX:((jZ.recurses==ar.recurses 4))=true:=an
def adY:((jZ.named==ar.varsNamed 4))=true:=an
def adZ:((jZ.maps==(kS.params.toList++rP.plain.varTypes ar).any (ar.mapsRec ·)))=true:=an
def ad0:((jZ.ifaces==(kS.params.toList++rP.plain.varTypes ar).any (ar.ifacesRec ·)))=true:=an
def ad1:((jZ.mapsOut==ar.mapsAmong kS.resultTypes.toList))=true:=an
def ad2:((jZ.loops==(kS.params.toList++rP.plain.varTypes ar).any (ar.loopsFrom ·)))=true:=an
def ad3:((jZ.wideKeys==(kS.params.toList++rP.plain.varTypes ar++kS.resultTypes.toList).any (ar.wideKeysFrom ·)))=true:=an
def ad4:(rP.vars.all (ar.varReadable ·))=true:=an
def ad5:(kS.resultTypes.all (fun t=>ar.readableRec t&&decide (t<ar.types.size)))=true:=an
def ad7:((jZ.ifacesOut==kS.resultTypes.toList.any (ar.ifacesRec ·)))=true:=an
def ad8:((jZ.loopsOut==kS.resultTypes.toList.any (ar.loopsFrom ·)))=true:=an
def ad9:((jZ.plainKeys==ar.plainKeys))=true:=an
def aea:(jZ.shortTexts.isNone)=true:=an
def aeb:(ar.stopsHeard)=true:=an
def aec:(ar.mayEnter)=true:=an
def aed:((jZ.lifted==ar.liftsFinal))=true:=an
def aee:((ar.make==some jZ.make))=true:=an
def aef:((jZ.kinds==(if jZ.domain.isEmpty then []else kS.params.toList.map fun t=>match ar.underlying t with|some (.int k)=>some k|_=>none)))=true:=an
def aeg:((jZ.pinned==jZ.pinnedBy))=true:=an
def aei:((jZ.veiled==(kS.params.toList++rP.plain.varTypes ar++kS.resultTypes.toList).any (ar.veiledRec ·)))=true:=an
def aej:(jZ.veiledFits ar kS.params.toList (kS.params.toList++rP.plain.varTypes ar++kS.resultTypes.toList))=true:=an
end
end Go.Proofs.YtfeencekjcjalaaGreatDoor
