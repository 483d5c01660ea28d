/- The closed facts of the row of FnExactEquate. -/
import Derived.Test.YtahlgcidhnjlbaaGreatRows
import Derived.ProofKit
import Derived.Carry
import Derived.WalkKit
import Derived.Test.YtahlgcidhnjlbaaGreatX6
set_option linter.all false
set_option maxHeartbeats 4000000
set_option maxRecDepth 4000
open Go.Proofs.Tryz renaming f13->lF,prog->au
open Go.Proofs.YtahlgcidhnjlbaaGreat.Rows renaming fnExactEquateRow->kB,fnExactEquateSpec->ui
namespace Go.Proofs.YtahlgcidhnjlbaaGreat
section
open Go
def jg{a b:Bool}(J:a=true)(U:b=true):(a&&b)=true:=by rw[J,U];rfl
def aeD:(kB.wf (OpenSpec.ofChange ui))=true:=bi
def aeE:(laidOutB au)=true:=bi
def aeP:(mapsRowed au)=true:=bi
def ae0:(lF.params.all (au.readableRec ·))=true:=bi
def ae3:(namedTie au kB.named ui.vars)=true:=bi
def ae4:((kB.stops==[]))=true:=bi
def ae5:((au.stops==[]))=true:=bi
def ae6:((kB.knobs==[]))=true:=bi
def ae7:((au.stopKnobs==[]))=true:=bi
def ae8:((kB.inPlace==au.inPlace 13))=true:=bi
def aeF:((kB.unfollowed==au.unfollowed 13))=true:=bi
def aeG:((kB.recurses==au.recurses 13))=true:=bi
def aeH:((kB.named==au.varsNamed 13))=true:=bi
def aeI:((kB.maps==(lF.params.toList++ui.plain.varTypes au).any (au.mapsRec ·)))=true:=bi
def aeJ:((kB.ifaces==(lF.params.toList++ui.plain.varTypes au).any (au.ifacesRec ·)))=true:=bi
def aeK:((kB.mapsOut==au.mapsAmong lF.resultTypes.toList))=true:=bi
def aeL:((kB.loops==(lF.params.toList++ui.plain.varTypes au).any (au.loopsFrom ·)))=true:=bi
def aeM:((kB.wideKeys==(lF.params.toList++ui.plain.varTypes au++lF.resultTypes.toList).any (au.wideKeysFrom ·)))=true:=bi
def aeN:(ui.vars.all (au.varReadable ·))=true:=bi
def aeO:(lF.resultTypes.all (fun t=>au.readableRec t&&decide (t<au.types.size)))=true:=bi
def aeQ:((kB.ifacesOut==lF.resultTypes.toList.any (au.ifacesRec ·)))=true:=bi
def aeR:((kB.loopsOut==lF.resultTypes.toList.any (au.loopsFrom ·)))=true:=bi
def aeS:((kB.plainKeys==au.plainKeys))=true:=bi
def aeT:(kB.shortTexts.isNone)=true:=bi
def aeU:(au.stopsHeard)=true:=bi
def aeV:(au.mayEnter)=true:=bi
def aeW:((kB.lifted==au.liftsFinal))=true:=bi
def aeX:((au.make==some kB.make))=true:=bi
def aeY:((kB.kinds==(if kB.domain.isEmpty then []else lF.params.toList.map fun t=>match au.underlying t with|some (.int k)=>some k|_=>none)))=true:=bi
def aeZ:((kB.pinned==kB.pinnedBy))=true:=bi
def ae1:((kB.veiled==(lF.params.toList++ui.plain.varTypes au++lF.resultTypes.toList).any (au.veiledRec ·)))=true:=bi
def ae2:(kB.veiledFits au lF.params.toList (lF.params.toList++ui.plain.varTypes au++lF.resultTypes.toList))=true:=bi
end
end Go.Proofs.YtahlgcidhnjlbaaGreat
