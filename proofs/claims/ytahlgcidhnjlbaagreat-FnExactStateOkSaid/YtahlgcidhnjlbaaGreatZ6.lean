/- The closed facts of the row of FnExactStateOk. -/
import Derived.Test.YtahlgcidhnjlbaaGreatRows
import Derived.ProofKit
import Derived.Carry
import Derived.WalkKit
import Derived.Test.YtahlgcidhnjlbaaGreatZ5
set_option linter.all false
set_option maxHeartbeats 4000000
open Go.Proofs.Tryz renaming f4→kh,prog→ao
open Go.Proofs.YtahlgcidhnjlbaaGreat.Rows renaming fnExactStateOkRow→jt,fnExactStateOkSpec→rB
namespace Go.Proofs.YtahlgcidhnjlbaaGreat
open Go
theorem hT{a b:Bool}(J:a=true)(U:b=true):(a&&b)=true:=by rw[J,U];rfl
theorem W0:(jt.wf (OpenSpec.ofChange rB))=true:=by kernel_rfl
theorem W1:(laidOutB ao)=true:=by kernel_rfl
theorem Xc:(mapsRowed ao)=true:=by kernel_rfl
theorem Xn:(kh.params.all (ao.readableRec ·))=true:=by kernel_rfl
theorem Xq:(namedTie ao jt.named rB.vars)=true:=by kernel_rfl
theorem Xr:((jt.stops==[]))=true:=by kernel_rfl
theorem Xs:((ao.stops==[]))=true:=by kernel_rfl
theorem Xt:((jt.knobs==[]))=true:=by kernel_rfl
theorem Xu:((ao.stopKnobs==[]))=true:=by kernel_rfl
theorem Xv:((jt.inPlace==ao.inPlace 4))=true:=by kernel_rfl
theorem W2:((jt.unfollowed==ao.unfollowed 4))=true:=by kernel_rfl
theorem W3:((jt.recurses==ao.recurses 4))=true:=by kernel_rfl
theorem W4:((jt.named==ao.varsNamed 4))=true:=by kernel_rfl
theorem W5:((jt.maps==(kh.params.toList++rB.plain.varTypes ao).any (ao.mapsRec ·)))=true:=by kernel_rfl
theorem W6:((jt.ifaces==(kh.params.toList++rB.plain.varTypes ao).any (ao.ifacesRec ·)))=true:=by kernel_rfl
theorem W7:((jt.mapsOut==ao.mapsAmong kh.resultTypes.toList))=true:=by kernel_rfl
theorem W8:((jt.loops==(kh.params.toList++rB.plain.varTypes ao).any (ao.loopsFrom ·)))=true:=by kernel_rfl
theorem W9:((jt.wideKeys==(kh.params.toList++rB.plain.varTypes ao++kh.resultTypes.toList).any (ao.wideKeysFrom ·)))=true:=by kernel_rfl
theorem Xa:(rB.vars.all (ao.varReadable ·))=true:=by kernel_rfl
theorem Xb:(kh.resultTypes.all (fun t=>ao.readableRec t&&decide (t<ao.types.size)))=true:=by kernel_rfl
theorem Xd:((jt.ifacesOut==kh.resultTypes.toList.any (ao.ifacesRec ·)))=true:=by kernel_rfl
theorem Xe:((jt.loopsOut==kh.resultTypes.toList.any (ao.loopsFrom ·)))=true:=by kernel_rfl
theorem Xf:((jt.plainKeys==ao.plainKeys))=true:=by kernel_rfl
theorem Xg:(jt.shortTexts.isNone)=true:=by kernel_rfl
theorem Xh:(ao.stopsHeard)=true:=by kernel_rfl
theorem Xi:(ao.mayEnter)=true:=by kernel_rfl
theorem Xj:((jt.lifted==ao.liftsFinal))=true:=by kernel_rfl
theorem Xk:((ao.make==some jt.make))=true:=by kernel_rfl
theorem Xl:((jt.kinds==(if jt.domain.isEmpty then []else kh.params.toList.map fun t=>match ao.underlying t with|some (.int k)=>some k|_=>none)))=true:=by kernel_rfl
theorem Xm:((jt.pinned==jt.pinnedBy))=true:=by kernel_rfl
theorem Xo:((jt.veiled==(kh.params.toList++rB.plain.varTypes ao++kh.resultTypes.toList).any (ao.veiledRec ·)))=true:=by kernel_rfl
theorem Xp:(jt.veiledFits ao kh.params.toList (kh.params.toList++rB.plain.varTypes ao++kh.resultTypes.toList))=true:=by kernel_rfl
end Go.Proofs.YtahlgcidhnjlbaaGreat
