/- The closed facts of the row of FnExactEntailsEqual. -/
import Derived.Test.YtahlgcidhnjlbaaGreatRows
import Derived.ProofKit
import Derived.Carry
import Derived.WalkKit
import Derived.Test.YtahlgcidhnjlbaaGreatE5
set_option linter.all false
set_option maxHeartbeats 4000000
open Go.Proofs.Tryz renaming f7→kA,prog→al
open Go.Proofs.YtahlgcidhnjlbaaGreat.Rows renaming fnExactEntailsEqualRow→jI,fnExactEntailsEqualSpec→rZ
namespace Go.Proofs.YtahlgcidhnjlbaaGreat
open Go
theorem h2{a b:Bool}(J:a=true)(U:b=true):(a&&b)=true:=by rw[J,U];rfl
theorem YN:(jI.wf (OpenSpec.ofChange rZ))=true:=by kernel_rfl
theorem YO:(laidOutB al)=true:=by kernel_rfl
theorem YZ:(mapsRowed al)=true:=by kernel_rfl
theorem Za:(kA.params.all (al.readableRec ·))=true:=by kernel_rfl
theorem Zd:(namedTie al jI.named rZ.vars)=true:=by kernel_rfl
theorem Ze:((jI.stops==[]))=true:=by kernel_rfl
theorem Zf:((al.stops==[]))=true:=by kernel_rfl
theorem Zg:((jI.knobs==[]))=true:=by kernel_rfl
theorem Zh:((al.stopKnobs==[]))=true:=by kernel_rfl
theorem Zi:((jI.inPlace==al.inPlace 7))=true:=by kernel_rfl
theorem YP:((jI.unfollowed==al.unfollowed 7))=true:=by kernel_rfl
theorem YQ:((jI.recurses==al.recurses 7))=true:=by kernel_rfl
theorem YR:((jI.named==al.varsNamed 7))=true:=by kernel_rfl
theorem YS:((jI.maps==(kA.params.toList++rZ.plain.varTypes al).any (al.mapsRec ·)))=true:=by kernel_rfl
theorem YT:((jI.ifaces==(kA.params.toList++rZ.plain.varTypes al).any (al.ifacesRec ·)))=true:=by kernel_rfl
theorem YU:((jI.mapsOut==al.mapsAmong kA.resultTypes.toList))=true:=by kernel_rfl
theorem YV:((jI.loops==(kA.params.toList++rZ.plain.varTypes al).any (al.loopsFrom ·)))=true:=by kernel_rfl
theorem YW:((jI.wideKeys==(kA.params.toList++rZ.plain.varTypes al++kA.resultTypes.toList).any (al.wideKeysFrom ·)))=true:=by kernel_rfl
theorem YX:(rZ.vars.all (al.varReadable ·))=true:=by kernel_rfl
theorem YY:(kA.resultTypes.all (fun t=>al.readableRec t&&decide (t<al.types.size)))=true:=by kernel_rfl
theorem Y0:((jI.ifacesOut==kA.resultTypes.toList.any (al.ifacesRec ·)))=true:=by kernel_rfl
theorem Y1:((jI.loopsOut==kA.resultTypes.toList.any (al.loopsFrom ·)))=true:=by kernel_rfl
theorem Y2:((jI.plainKeys==al.plainKeys))=true:=by kernel_rfl
theorem Y3:(jI.shortTexts.isNone)=true:=by kernel_rfl
theorem Y4:(al.stopsHeard)=true:=by kernel_rfl
theorem Y5:(al.mayEnter)=true:=by kernel_rfl
theorem Y6:((jI.lifted==al.liftsFinal))=true:=by kernel_rfl
theorem Y7:((al.make==some jI.make))=true:=by kernel_rfl
theorem Y8:((jI.kinds==(if jI.domain.isEmpty then []else kA.params.toList.map fun t=>match al.underlying t with|some (.int k)=>some k|_=>none)))=true:=by kernel_rfl
theorem Y9:((jI.pinned==jI.pinnedBy))=true:=by kernel_rfl
theorem Zb:((jI.veiled==(kA.params.toList++rZ.plain.varTypes al++kA.resultTypes.toList).any (al.veiledRec ·)))=true:=by kernel_rfl
theorem Zc:(jI.veiledFits al kA.params.toList (kA.params.toList++rZ.plain.varTypes al++kA.resultTypes.toList))=true:=by kernel_rfl
end Go.Proofs.YtahlgcidhnjlbaaGreat
