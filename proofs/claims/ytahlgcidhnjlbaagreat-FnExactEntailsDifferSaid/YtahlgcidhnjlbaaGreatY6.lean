/- The closed facts of the row of FnExactEntailsDiffer. -/
import Derived.Test.YtahlgcidhnjlbaaGreatRows
import Derived.ProofKit
import Derived.Carry
import Derived.WalkKit
import Derived.Test.YtahlgcidhnjlbaaGreatY5
set_option linter.all false
set_option maxHeartbeats 4000000
open Go.Proofs.Tryz renaming f5→kv,prog→al
open Go.Proofs.YtahlgcidhnjlbaaGreat.Rows renaming fnExactEntailsDifferRow→jG,fnExactEntailsDifferSpec→rR
namespace Go.Proofs.YtahlgcidhnjlbaaGreat
open Go
theorem h2{a b:Bool}(J:a=true)(U:b=true):(a&&b)=true:=by rw[J,U];rfl
theorem Yl:(jG.wf (OpenSpec.ofChange rR))=true:=by kernel_rfl
theorem Ym:(laidOutB al)=true:=by kernel_rfl
theorem Yx:(mapsRowed al)=true:=by kernel_rfl
theorem YI:(kv.params.all (al.readableRec ·))=true:=by kernel_rfl
theorem YL:(namedTie al jG.named rR.vars)=true:=by kernel_rfl
theorem YM:((jG.stops==[]))=true:=by kernel_rfl
theorem YN:((al.stops==[]))=true:=by kernel_rfl
theorem YO:((jG.knobs==[]))=true:=by kernel_rfl
theorem YP:((al.stopKnobs==[]))=true:=by kernel_rfl
theorem YQ:((jG.inPlace==al.inPlace 5))=true:=by kernel_rfl
theorem Yn:((jG.unfollowed==al.unfollowed 5))=true:=by kernel_rfl
theorem Yo:((jG.recurses==al.recurses 5))=true:=by kernel_rfl
theorem Yp:((jG.named==al.varsNamed 5))=true:=by kernel_rfl
theorem Yq:((jG.maps==(kv.params.toList++rR.plain.varTypes al).any (al.mapsRec ·)))=true:=by kernel_rfl
theorem Yr:((jG.ifaces==(kv.params.toList++rR.plain.varTypes al).any (al.ifacesRec ·)))=true:=by kernel_rfl
theorem Ys:((jG.mapsOut==al.mapsAmong kv.resultTypes.toList))=true:=by kernel_rfl
theorem Yt:((jG.loops==(kv.params.toList++rR.plain.varTypes al).any (al.loopsFrom ·)))=true:=by kernel_rfl
theorem Yu:((jG.wideKeys==(kv.params.toList++rR.plain.varTypes al++kv.resultTypes.toList).any (al.wideKeysFrom ·)))=true:=by kernel_rfl
theorem Yv:(rR.vars.all (al.varReadable ·))=true:=by kernel_rfl
theorem Yw:(kv.resultTypes.all (fun t=>al.readableRec t&&decide (t<al.types.size)))=true:=by kernel_rfl
theorem Yy:((jG.ifacesOut==kv.resultTypes.toList.any (al.ifacesRec ·)))=true:=by kernel_rfl
theorem Yz:((jG.loopsOut==kv.resultTypes.toList.any (al.loopsFrom ·)))=true:=by kernel_rfl
theorem YA:((jG.plainKeys==al.plainKeys))=true:=by kernel_rfl
theorem YB:(jG.shortTexts.isNone)=true:=by kernel_rfl
theorem YC:(al.stopsHeard)=true:=by kernel_rfl
theorem YD:(al.mayEnter)=true:=by kernel_rfl
theorem YE:((jG.lifted==al.liftsFinal))=true:=by kernel_rfl
theorem YF:((al.make==some jG.make))=true:=by kernel_rfl
theorem YG:((jG.kinds==(if jG.domain.isEmpty then []else kv.params.toList.map fun t=>match al.underlying t with|some (.int k)=>some k|_=>none)))=true:=by kernel_rfl
theorem YH:((jG.pinned==jG.pinnedBy))=true:=by kernel_rfl
theorem YJ:((jG.veiled==(kv.params.toList++rR.plain.varTypes al++kv.resultTypes.toList).any (al.veiledRec ·)))=true:=by kernel_rfl
theorem YK:(jG.veiledFits al kv.params.toList (kv.params.toList++rR.plain.varTypes al++kv.resultTypes.toList))=true:=by kernel_rfl
end Go.Proofs.YtahlgcidhnjlbaaGreat
