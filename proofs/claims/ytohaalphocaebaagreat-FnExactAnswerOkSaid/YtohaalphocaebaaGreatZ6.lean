/- The closed facts of the row of FnExactAnswerOk. -/
import Derived.Test.YtohaalphocaebaaGreatRows
import Derived.ProofKit
import Derived.Carry
import Derived.WalkKit
import Derived.Test.YtohaalphocaebaaGreatZ5
set_option linter.all false
set_option maxHeartbeats 4000000
open Go.Proofs.Tryz renaming f5→kt,prog→al
open Go.Proofs.YtohaalphocaebaaGreat.Rows renaming fnExactAnswerOkRow→jD,fnExactAnswerOkSpec→r3
namespace Go.Proofs.YtohaalphocaebaaGreat
open Go
theorem h6{a b:Bool}(J:a=true)(U:b=true):(a&&b)=true:=by rw[J,U];rfl
theorem YX:(jD.wf (OpenSpec.ofChange r3))=true:=by kernel_rfl
theorem YY:(laidOutB al)=true:=by kernel_rfl
theorem Y9:(mapsRowed al)=true:=by kernel_rfl
theorem Zk:(kt.params.all (al.readableRec ·))=true:=by kernel_rfl
theorem Zn:(namedTie al jD.named r3.vars)=true:=by kernel_rfl
theorem Zo:((jD.stops==[]))=true:=by kernel_rfl
theorem Zp:((al.stops==[]))=true:=by kernel_rfl
theorem Zq:((jD.knobs==[]))=true:=by kernel_rfl
theorem Zr:((al.stopKnobs==[]))=true:=by kernel_rfl
theorem Zs:((jD.inPlace==al.inPlace 5))=true:=by kernel_rfl
theorem YZ:((jD.unfollowed==al.unfollowed 5))=true:=by kernel_rfl
theorem Y0:((jD.recurses==al.recurses 5))=true:=by kernel_rfl
theorem Y1:((jD.named==al.varsNamed 5))=true:=by kernel_rfl
theorem Y2:((jD.maps==(kt.params.toList++r3.plain.varTypes al).any (al.mapsRec ·)))=true:=by kernel_rfl
theorem Y3:((jD.ifaces==(kt.params.toList++r3.plain.varTypes al).any (al.ifacesRec ·)))=true:=by kernel_rfl
theorem Y4:((jD.mapsOut==al.mapsAmong kt.resultTypes.toList))=true:=by kernel_rfl
theorem Y5:((jD.loops==(kt.params.toList++r3.plain.varTypes al).any (al.loopsFrom ·)))=true:=by kernel_rfl
theorem Y6:((jD.wideKeys==(kt.params.toList++r3.plain.varTypes al++kt.resultTypes.toList).any (al.wideKeysFrom ·)))=true:=by kernel_rfl
theorem Y7:(r3.vars.all (al.varReadable ·))=true:=by kernel_rfl
theorem Y8:(kt.resultTypes.all (fun t=>al.readableRec t&&decide (t<al.types.size)))=true:=by kernel_rfl
theorem Za:((jD.ifacesOut==kt.resultTypes.toList.any (al.ifacesRec ·)))=true:=by kernel_rfl
theorem Zb:((jD.loopsOut==kt.resultTypes.toList.any (al.loopsFrom ·)))=true:=by kernel_rfl
theorem Zc:((jD.plainKeys==al.plainKeys))=true:=by kernel_rfl
theorem Zd:(jD.shortTexts.isNone)=true:=by kernel_rfl
theorem Ze:(al.stopsHeard)=true:=by kernel_rfl
theorem Zf:(al.mayEnter)=true:=by kernel_rfl
theorem Zg:((jD.lifted==al.liftsFinal))=true:=by kernel_rfl
theorem Zh:((al.make==some jD.make))=true:=by kernel_rfl
theorem Zi:((jD.kinds==(if jD.domain.isEmpty then []else kt.params.toList.map fun t=>match al.underlying t with|some (.int k)=>some k|_=>none)))=true:=by kernel_rfl
theorem Zj:((jD.pinned==jD.pinnedBy))=true:=by kernel_rfl
theorem Zl:((jD.veiled==(kt.params.toList++r3.plain.varTypes al++kt.resultTypes.toList).any (al.veiledRec ·)))=true:=by kernel_rfl
theorem Zm:(jD.veiledFits al kt.params.toList (kt.params.toList++r3.plain.varTypes al++kt.resultTypes.toList))=true:=by kernel_rfl
end Go.Proofs.YtohaalphocaebaaGreat
