/- The closed facts of the row of FnExactStateImplies. -/
import Derived.Test.YtahlgcidhnjlbaaGreatRows
import Derived.ProofKit
import Derived.Carry
import Derived.WalkKit
import Derived.Test.YtahlgcidhnjlbaaGreatH5
set_option linter.all false
set_option maxHeartbeats 4000000
open Go.Proofs.Tryz renaming f10→kR,prog→al
open Go.Proofs.YtahlgcidhnjlbaaGreat.Rows renaming fnExactStateImpliesRow→jZ,fnExactStateImpliesSpec→sB
namespace Go.Proofs.YtahlgcidhnjlbaaGreat
open Go
theorem iq{a b:Bool}(J:a=true)(U:b=true):(a&&b)=true:=by rw[J,U];rfl
theorem aai:(jZ.wf (OpenSpec.ofChange sB))=true:=by kernel_rfl
theorem aaj:(laidOutB al)=true:=by kernel_rfl
theorem aau:(mapsRowed al)=true:=by kernel_rfl
theorem aaF:(kR.params.all (al.readableRec ·))=true:=by kernel_rfl
theorem aaI:(namedTie al jZ.named sB.vars)=true:=by kernel_rfl
theorem aaJ:((jZ.stops==[]))=true:=by kernel_rfl
theorem aaK:((al.stops==[]))=true:=by kernel_rfl
theorem aaL:((jZ.knobs==[]))=true:=by kernel_rfl
theorem aaM:((al.stopKnobs==[]))=true:=by kernel_rfl
theorem aaN:((jZ.inPlace==al.inPlace 10))=true:=by kernel_rfl
theorem aak:((jZ.unfollowed==al.unfollowed 10))=true:=by kernel_rfl
theorem aal:((jZ.recurses==al.recurses 10))=true:=by kernel_rfl
theorem aam:((jZ.named==al.varsNamed 10))=true:=by kernel_rfl
theorem aan:((jZ.maps==(kR.params.toList++sB.plain.varTypes al).any (al.mapsRec ·)))=true:=by kernel_rfl
theorem aao:((jZ.ifaces==(kR.params.toList++sB.plain.varTypes al).any (al.ifacesRec ·)))=true:=by kernel_rfl
theorem aap:((jZ.mapsOut==al.mapsAmong kR.resultTypes.toList))=true:=by kernel_rfl
theorem aaq:((jZ.loops==(kR.params.toList++sB.plain.varTypes al).any (al.loopsFrom ·)))=true:=by kernel_rfl
theorem aar:((jZ.wideKeys==(kR.params.toList++sB.plain.varTypes al++kR.resultTypes.toList).any (al.wideKeysFrom ·)))=true:=by kernel_rfl
theorem aas:(sB.vars.all (al.varReadable ·))=true:=by kernel_rfl
theorem aat:(kR.resultTypes.all (fun t=>al.readableRec t&&decide (t<al.types.size)))=true:=by kernel_rfl
theorem aav:((jZ.ifacesOut==kR.resultTypes.toList.any (al.ifacesRec ·)))=true:=by kernel_rfl
theorem aaw:((jZ.loopsOut==kR.resultTypes.toList.any (al.loopsFrom ·)))=true:=by kernel_rfl
theorem aax:((jZ.plainKeys==al.plainKeys))=true:=by kernel_rfl
theorem aay:(jZ.shortTexts.isNone)=true:=by kernel_rfl
theorem aaz:(al.stopsHeard)=true:=by kernel_rfl
theorem aaA:(al.mayEnter)=true:=by kernel_rfl
theorem aaB:((jZ.lifted==al.liftsFinal))=true:=by kernel_rfl
theorem aaC:((al.make==some jZ.make))=true:=by kernel_rfl
theorem aaD:((jZ.kinds==(if jZ.domain.isEmpty then []else kR.params.toList.map fun t=>match al.underlying t with|some (.int k)=>some k|_=>none)))=true:=by kernel_rfl
theorem aaE:((jZ.pinned==jZ.pinnedBy))=true:=by kernel_rfl
theorem aaG:((jZ.veiled==(kR.params.toList++sB.plain.varTypes al++kR.resultTypes.toList).any (al.veiledRec ·)))=true:=by kernel_rfl
theorem aaH:(jZ.veiledFits al kR.params.toList (kR.params.toList++sB.plain.varTypes al++kR.resultTypes.toList))=true:=by kernel_rfl
end Go.Proofs.YtahlgcidhnjlbaaGreat
