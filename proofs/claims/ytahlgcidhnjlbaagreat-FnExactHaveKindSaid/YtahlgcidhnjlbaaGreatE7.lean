/- The closed facts of the row of FnExactHaveKind. -/
import Derived.Test.YtahlgcidhnjlbaaGreatRows
import Derived.ProofKit
import Derived.Carry
import Derived.WalkKit
import Derived.Test.YtahlgcidhnjlbaaGreatE6
set_option linter.all false
set_option maxHeartbeats 4000000
set_option maxRecDepth 4000
open Go.Proofs.Tryz renaming f11->lF,prog->au
open Go.Proofs.YtahlgcidhnjlbaaGreat.Rows renaming fnExactHaveKindRow->kC,fnExactHaveKindSpec->uc
namespace Go.Proofs.YtahlgcidhnjlbaaGreat
section
open Go
def jh{a b:Bool}(J:a=true)(U:b=true):(a&&b)=true:=by rw[J,U];rfl
def aet:(kC.wf (OpenSpec.ofChange uc))=true:=bi
def aeu:(laidOutB au)=true:=bi
def aeF:(mapsRowed au)=true:=bi
def aeQ:(lF.params.all (au.readableRec ·))=true:=bi
def aeT:(namedTie au kC.named uc.vars)=true:=bi
def aeU:((kC.stops==[]))=true:=bi
def aeV:((au.stops==[]))=true:=bi
def aeW:((kC.knobs==[]))=true:=bi
def aeX:((au.stopKnobs==[]))=true:=bi
def aeY:((kC.inPlace==au.inPlace 11))=true:=bi
def aev:((kC.unfollowed==au.unfollowed 11))=true:=bi
def aew:((kC.recurses==au.recurses 11))=true:=bi
def aex:((kC.named==au.varsNamed 11))=true:=bi
def aey:((kC.maps==(lF.params.toList++uc.plain.varTypes au).any (au.mapsRec ·)))=true:=bi
def aez:((kC.ifaces==(lF.params.toList++uc.plain.varTypes au).any (au.ifacesRec ·)))=true:=bi
def aeA:((kC.mapsOut==au.mapsAmong lF.resultTypes.toList))=true:=bi
def aeB:((kC.loops==(lF.params.toList++uc.plain.varTypes au).any (au.loopsFrom ·)))=true:=bi
def aeC:((kC.wideKeys==(lF.params.toList++uc.plain.varTypes au++lF.resultTypes.toList).any (au.wideKeysFrom ·)))=true:=bi
def aeD:(uc.vars.all (au.varReadable ·))=true:=bi
def aeE:(lF.resultTypes.all (fun t=>au.readableRec t&&decide (t<au.types.size)))=true:=bi
def aeG:((kC.ifacesOut==lF.resultTypes.toList.any (au.ifacesRec ·)))=true:=bi
def aeH:((kC.loopsOut==lF.resultTypes.toList.any (au.loopsFrom ·)))=true:=bi
def aeI:((kC.plainKeys==au.plainKeys))=true:=bi
def aeJ:(kC.shortTexts.isNone)=true:=bi
def aeK:(au.stopsHeard)=true:=bi
def aeL:(au.mayEnter)=true:=bi
def aeM:((kC.lifted==au.liftsFinal))=true:=bi
def aeN:((au.make==some kC.make))=true:=bi
def aeO:((kC.kinds==(if kC.domain.isEmpty then []else lF.params.toList.map fun t=>match au.underlying t with|some (.int k)=>some k|_=>none)))=true:=bi
def aeP:((kC.pinned==kC.pinnedBy))=true:=bi
def aeR:((kC.veiled==(lF.params.toList++uc.plain.varTypes au++lF.resultTypes.toList).any (au.veiledRec ·)))=true:=bi
def aeS:(kC.veiledFits au lF.params.toList (lF.params.toList++uc.plain.varTypes au++lF.resultTypes.toList))=true:=bi
end
end Go.Proofs.YtahlgcidhnjlbaaGreat
