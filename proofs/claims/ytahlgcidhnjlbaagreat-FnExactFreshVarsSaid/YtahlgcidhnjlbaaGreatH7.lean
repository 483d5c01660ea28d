/- The closed facts of the row of FnExactFreshVars. -/
import Derived.Test.YtahlgcidhnjlbaaGreatRows
import Derived.ProofKit
import Derived.Carry
import Derived.WalkKit
import Derived.Test.YtahlgcidhnjlbaaGreatH6
set_option linter.all false
set_option maxHeartbeats 4000000
set_option maxRecDepth 4000
open Go.Proofs.Tryz renaming f9->lz,prog->au
open Go.Proofs.YtahlgcidhnjlbaaGreat.Rows renaming fnExactFreshVarsRow->kv,fnExactFreshVarsSpec->tR
namespace Go.Proofs.YtahlgcidhnjlbaaGreat
section
open Go
def jb{a b:Bool}(J:a=true)(U:b=true):(a&&b)=true:=by rw[J,U];rfl
def adD:(kv.wf (OpenSpec.ofChange tR))=true:=bi
def adE:(laidOutB au)=true:=bi
def adP:(mapsRowed au)=true:=bi
def ad0:(lz.params.all (au.readableRec ·))=true:=bi
def ad3:(namedTie au kv.named tR.vars)=true:=bi
def ad4:((kv.stops==[]))=true:=bi
def ad5:((au.stops==[]))=true:=bi
def ad6:((kv.knobs==[]))=true:=bi
def ad7:((au.stopKnobs==[]))=true:=bi
def ad8:((kv.inPlace==au.inPlace 9))=true:=bi
def adF:((kv.unfollowed==au.unfollowed 9))=true:=bi
def adG:((kv.recurses==au.recurses 9))=true:=bi
def adH:((kv.named==au.varsNamed 9))=true:=bi
def adI:((kv.maps==(lz.params.toList++tR.plain.varTypes au).any (au.mapsRec ·)))=true:=bi
def adJ:((kv.ifaces==(lz.params.toList++tR.plain.varTypes au).any (au.ifacesRec ·)))=true:=bi
def adK:((kv.mapsOut==au.mapsAmong lz.resultTypes.toList))=true:=bi
def adL:((kv.loops==(lz.params.toList++tR.plain.varTypes au).any (au.loopsFrom ·)))=true:=bi
def adM:((kv.wideKeys==(lz.params.toList++tR.plain.varTypes au++lz.resultTypes.toList).any (au.wideKeysFrom ·)))=true:=bi
def adN:(tR.vars.all (au.varReadable ·))=true:=bi
def adO:(lz.resultTypes.all (fun t=>au.readableRec t&&decide (t<au.types.size)))=true:=bi
def adQ:((kv.ifacesOut==lz.resultTypes.toList.any (au.ifacesRec ·)))=true:=bi
def adR:((kv.loopsOut==lz.resultTypes.toList.any (au.loopsFrom ·)))=true:=bi
def adS:((kv.plainKeys==au.plainKeys))=true:=bi
def adT:(kv.shortTexts.isNone)=true:=bi
def adU:(au.stopsHeard)=true:=bi
def adV:(au.mayEnter)=true:=bi
def adW:((kv.lifted==au.liftsFinal))=true:=bi
def adX:((au.make==some kv.make))=true:=bi
def adY:((kv.kinds==(if kv.domain.isEmpty then []else lz.params.toList.map fun t=>match au.underlying t with|some (.int k)=>some k|_=>none)))=true:=bi
def adZ:((kv.pinned==kv.pinnedBy))=true:=bi
def ad1:((kv.veiled==(lz.params.toList++tR.plain.varTypes au++lz.resultTypes.toList).any (au.veiledRec ·)))=true:=bi
def ad2:(kv.veiledFits au lz.params.toList (lz.params.toList++tR.plain.varTypes au++lz.resultTypes.toList))=true:=bi
end
end Go.Proofs.YtahlgcidhnjlbaaGreat
