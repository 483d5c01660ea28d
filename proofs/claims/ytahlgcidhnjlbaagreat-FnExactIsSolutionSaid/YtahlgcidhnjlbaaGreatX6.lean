/- The closed facts of the row of FnExactIsSolution. -/
import Derived.Test.YtahlgcidhnjlbaaGreatRows
import Derived.ProofKit
import Derived.Carry
import Derived.WalkKit
import Derived.Test.YtahlgcidhnjlbaaGreatX5
set_option linter.all false
set_option maxHeartbeats 4000000
open Go.Proofs.Tryz renaming f6→kx,prog→al
open Go.Proofs.YtahlgcidhnjlbaaGreat.Rows renaming fnExactIsSolutionRow→jH,fnExactIsSolutionSpec→r6
namespace Go.Proofs.YtahlgcidhnjlbaaGreat
open Go
theorem h5{a b:Bool}(J:a=true)(U:b=true):(a&&b)=true:=by rw[J,U];rfl
theorem X9:(jH.wf (OpenSpec.ofChange r6))=true:=by kernel_rfl
theorem Ya:(laidOutB al)=true:=by kernel_rfl
theorem Yl:(mapsRowed al)=true:=by kernel_rfl
theorem Yw:(kx.params.all (al.readableRec ·))=true:=by kernel_rfl
theorem Yz:(namedTie al jH.named r6.vars)=true:=by kernel_rfl
theorem YA:((jH.stops==[]))=true:=by kernel_rfl
theorem YB:((al.stops==[]))=true:=by kernel_rfl
theorem YC:((jH.knobs==[]))=true:=by kernel_rfl
theorem YD:((al.stopKnobs==[]))=true:=by kernel_rfl
theorem YE:((jH.inPlace==al.inPlace 6))=true:=by kernel_rfl
theorem Yb:((jH.unfollowed==al.unfollowed 6))=true:=by kernel_rfl
theorem Yc:((jH.recurses==al.recurses 6))=true:=by kernel_rfl
theorem Yd:((jH.named==al.varsNamed 6))=true:=by kernel_rfl
theorem Ye:((jH.maps==(kx.params.toList++r6.plain.varTypes al).any (al.mapsRec ·)))=true:=by kernel_rfl
theorem Yf:((jH.ifaces==(kx.params.toList++r6.plain.varTypes al).any (al.ifacesRec ·)))=true:=by kernel_rfl
theorem Yg:((jH.mapsOut==al.mapsAmong kx.resultTypes.toList))=true:=by kernel_rfl
theorem Yh:((jH.loops==(kx.params.toList++r6.plain.varTypes al).any (al.loopsFrom ·)))=true:=by kernel_rfl
theorem Yi:((jH.wideKeys==(kx.params.toList++r6.plain.varTypes al++kx.resultTypes.toList).any (al.wideKeysFrom ·)))=true:=by kernel_rfl
theorem Yj:(r6.vars.all (al.varReadable ·))=true:=by kernel_rfl
theorem Yk:(kx.resultTypes.all (fun t=>al.readableRec t&&decide (t<al.types.size)))=true:=by kernel_rfl
theorem Ym:((jH.ifacesOut==kx.resultTypes.toList.any (al.ifacesRec ·)))=true:=by kernel_rfl
theorem Yn:((jH.loopsOut==kx.resultTypes.toList.any (al.loopsFrom ·)))=true:=by kernel_rfl
theorem Yo:((jH.plainKeys==al.plainKeys))=true:=by kernel_rfl
theorem Yp:(jH.shortTexts.isNone)=true:=by kernel_rfl
theorem Yq:(al.stopsHeard)=true:=by kernel_rfl
theorem Yr:(al.mayEnter)=true:=by kernel_rfl
theorem Ys:((jH.lifted==al.liftsFinal))=true:=by kernel_rfl
theorem Yt:((al.make==some jH.make))=true:=by kernel_rfl
theorem Yu:((jH.kinds==(if jH.domain.isEmpty then []else kx.params.toList.map fun t=>match al.underlying t with|some (.int k)=>some k|_=>none)))=true:=by kernel_rfl
theorem Yv:((jH.pinned==jH.pinnedBy))=true:=by kernel_rfl
theorem Yx:((jH.veiled==(kx.params.toList++r6.plain.varTypes al++kx.resultTypes.toList).any (al.veiledRec ·)))=true:=by kernel_rfl
theorem Yy:(jH.veiledFits al kx.params.toList (kx.params.toList++r6.plain.varTypes al++kx.resultTypes.toList))=true:=by kernel_rfl
end Go.Proofs.YtahlgcidhnjlbaaGreat
