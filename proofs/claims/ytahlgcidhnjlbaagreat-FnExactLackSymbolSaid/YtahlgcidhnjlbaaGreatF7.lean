/- The closed facts of the row of FnExactLackSymbol. -/
import Derived.Test.YtahlgcidhnjlbaaGreatRows
import Derived.ProofKit
import Derived.Carry
import Derived.WalkKit
import Derived.Test.YtahlgcidhnjlbaaGreatF6
set_option linter.all false
set_option maxHeartbeats 4000000
set_option maxRecDepth 4000
open Go.Proofs.Tryz renaming f12->lG,prog->au
open Go.Proofs.YtahlgcidhnjlbaaGreat.Rows renaming fnExactLackSymbolRow->kD,fnExactLackSymbolSpec->ue
namespace Go.Proofs.YtahlgcidhnjlbaaGreat
section
open Go
def jj{a b:Bool}(J:a=true)(U:b=true):(a&&b)=true:=by rw[J,U];rfl
def aex:(kD.wf (OpenSpec.ofChange ue))=true:=bi
def aey:(laidOutB au)=true:=bi
def aeJ:(mapsRowed au)=true:=bi
def aeU:(lG.params.all (au.readableRec ·))=true:=bi
def aeX:(namedTie au kD.named ue.vars)=true:=bi
def aeY:((kD.stops==[]))=true:=bi
def aeZ:((au.stops==[]))=true:=bi
def ae0:((kD.knobs==[]))=true:=bi
def ae1:((au.stopKnobs==[]))=true:=bi
def ae2:((kD.inPlace==au.inPlace 12))=true:=bi
def aez:((kD.unfollowed==au.unfollowed 12))=true:=bi
def aeA:((kD.recurses==au.recurses 12))=true:=bi
def aeB:((kD.named==au.varsNamed 12))=true:=bi
def aeC:((kD.maps==(lG.params.toList++ue.plain.varTypes au).any (au.mapsRec ·)))=true:=bi
def aeD:((kD.ifaces==(lG.params.toList++ue.plain.varTypes au).any (au.ifacesRec ·)))=true:=bi
def aeE:((kD.mapsOut==au.mapsAmong lG.resultTypes.toList))=true:=bi
def aeF:((kD.loops==(lG.params.toList++ue.plain.varTypes au).any (au.loopsFrom ·)))=true:=bi
def aeG:((kD.wideKeys==(lG.params.toList++ue.plain.varTypes au++lG.resultTypes.toList).any (au.wideKeysFrom ·)))=true:=bi
def aeH:(ue.vars.all (au.varReadable ·))=true:=bi
def aeI:(lG.resultTypes.all (fun t=>au.readableRec t&&decide (t<au.types.size)))=true:=bi
def aeK:((kD.ifacesOut==lG.resultTypes.toList.any (au.ifacesRec ·)))=true:=bi
def aeL:((kD.loopsOut==lG.resultTypes.toList.any (au.loopsFrom ·)))=true:=bi
def aeM:((kD.plainKeys==au.plainKeys))=true:=bi
def aeN:(kD.shortTexts.isNone)=true:=bi
def aeO:(au.stopsHeard)=true:=bi
def aeP:(au.mayEnter)=true:=bi
def aeQ:((kD.lifted==au.liftsFinal))=true:=bi
def aeR:((au.make==some kD.make))=true:=bi
def aeS:((kD.kinds==(if kD.domain.isEmpty then []else lG.params.toList.map fun t=>match au.underlying t with|some (.int k)=>some k|_=>none)))=true:=bi
def aeT:((kD.pinned==kD.pinnedBy))=true:=bi
def aeV:((kD.veiled==(lG.params.toList++ue.plain.varTypes au++lG.resultTypes.toList).any (au.veiledRec ·)))=true:=bi
def aeW:(kD.veiledFits au lG.params.toList (lG.params.toList++ue.plain.varTypes au++lG.resultTypes.toList))=true:=bi
end
end Go.Proofs.YtahlgcidhnjlbaaGreat
