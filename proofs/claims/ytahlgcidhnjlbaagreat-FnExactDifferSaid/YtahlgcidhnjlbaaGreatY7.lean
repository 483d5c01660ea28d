/- The closed facts of the row of FnExactDiffer. -/
import Derived.Test.YtahlgcidhnjlbaaGreatRows
import Derived.ProofKit
import Derived.Carry
import Derived.WalkKit
import Derived.Test.YtahlgcidhnjlbaaGreatY6
set_option linter.all false
set_option maxHeartbeats 4000000
set_option maxRecDepth 4000
open Go.Proofs.Tryz renaming f14->lI,prog->au
open Go.Proofs.YtahlgcidhnjlbaaGreat.Rows renaming fnExactDifferRow->kE,fnExactDifferSpec->uq
namespace Go.Proofs.YtahlgcidhnjlbaaGreat
section
open Go
def jf{a b:Bool}(J:a=true)(U:b=true):(a&&b)=true:=by rw[J,U];rfl
def ae4:(kE.wf (OpenSpec.ofChange uq))=true:=bi
def ae5:(laidOutB au)=true:=bi
def afg:(mapsRowed au)=true:=bi
def afr:(lI.params.all (au.readableRec ·))=true:=bi
def afu:(namedTie au kE.named uq.vars)=true:=bi
def afv:((kE.stops==[]))=true:=bi
def afw:((au.stops==[]))=true:=bi
def afx:((kE.knobs==[]))=true:=bi
def afy:((au.stopKnobs==[]))=true:=bi
def afz:((kE.inPlace==au.inPlace 14))=true:=bi
def ae6:((kE.unfollowed==au.unfollowed 14))=true:=bi
def ae7:((kE.recurses==au.recurses 14))=true:=bi
def ae8:((kE.named==au.varsNamed 14))=true:=bi
def ae9:((kE.maps==(lI.params.toList++uq.plain.varTypes au).any (au.mapsRec ·)))=true:=bi
def afa:((kE.ifaces==(lI.params.toList++uq.plain.varTypes au).any (au.ifacesRec ·)))=true:=bi
def afb:((kE.mapsOut==au.mapsAmong lI.resultTypes.toList))=true:=bi
def afc:((kE.loops==(lI.params.toList++uq.plain.varTypes au).any (au.loopsFrom ·)))=true:=bi
def afd:((kE.wideKeys==(lI.params.toList++uq.plain.varTypes au++lI.resultTypes.toList).any (au.wideKeysFrom ·)))=true:=bi
def afe:(uq.vars.all (au.varReadable ·))=true:=bi
def aff:(lI.resultTypes.all (fun t=>au.readableRec t&&decide (t<au.types.size)))=true:=bi
def afh:((kE.ifacesOut==lI.resultTypes.toList.any (au.ifacesRec ·)))=true:=bi
def afi:((kE.loopsOut==lI.resultTypes.toList.any (au.loopsFrom ·)))=true:=bi
def afj:((kE.plainKeys==au.plainKeys))=true:=bi
def afk:(kE.shortTexts.isNone)=true:=bi
def afl:(au.stopsHeard)=true:=bi
def afm:(au.mayEnter)=true:=bi
def afn:((kE.lifted==au.liftsFinal))=true:=bi
def afo:((au.make==some kE.make))=true:=bi
def afp:((kE.kinds==(if kE.domain.isEmpty then []else lI.params.toList.map fun t=>match au.underlying t with|some (.int k)=>some k|_=>none)))=true:=bi
def afq:((kE.pinned==kE.pinnedBy))=true:=bi
def afs:((kE.veiled==(lI.params.toList++uq.plain.varTypes au++lI.resultTypes.toList).any (au.veiledRec ·)))=true:=bi
def aft:(kE.veiledFits au lI.params.toList (lI.params.toList++uq.plain.varTypes au++lI.resultTypes.toList))=true:=bi
end
end Go.Proofs.YtahlgcidhnjlbaaGreat
