/- The closed facts of the row of FnGoals. -/
import Derived.Test.YtohaalphocaebaaGreatRows
import Derived.ProofKit
import Derived.Carry
import Derived.WalkKit
import Derived.Test.YtohaalphocaebaaGreatP6
set_option linter.all false
set_option maxHeartbeats 4000000
set_option maxRecDepth 4000
open Go.Proofs.Tryz renaming f9->kL,prog->ay
open Go.Proofs.YtohaalphocaebaaGreat.Rows renaming fnGoalsRow->jR,fnGoalsSpec->sA
namespace Go.Proofs.YtohaalphocaebaaGreat
section
open Go
theorem ih{a b:Bool}(J:a=true)(U:b=true):(a&&b)=true:=by rw[J,U];rfl
theorem Y6:(jR.wf (OpenSpec.ofChange sA))=true:=by kernel_rfl
theorem Y7:(laidOutB ay)=true:=by kernel_rfl
theorem Zi:(mapsRowed ay)=true:=by kernel_rfl
theorem Zt:(kL.params.all (ay.readableRec ·))=true:=by kernel_rfl
theorem Zw:(namedTie ay jR.named sA.vars)=true:=by kernel_rfl
theorem Zx:((jR.stops==[]))=true:=by kernel_rfl
theorem Zy:((ay.stops==[]))=true:=by kernel_rfl
theorem Zz:((jR.knobs==[]))=true:=by kernel_rfl
theorem ZA:((ay.stopKnobs==[]))=true:=by kernel_rfl
theorem ZB:((jR.inPlace==ay.inPlace 9))=true:=by kernel_rfl
theorem Y8:((jR.unfollowed==ay.unfollowed 9))=true:=by kernel_rfl
theorem Y9:((jR.recurses==ay.recurses 9))=true:=by kernel_rfl
theorem Za:((jR.named==ay.varsNamed 9))=true:=by kernel_rfl
theorem Zb:((jR.maps==(kL.params.toList++sA.plain.varTypes ay).any (ay.mapsRec ·)))=true:=by kernel_rfl
theorem Zc:((jR.ifaces==(kL.params.toList++sA.plain.varTypes ay).any (ay.ifacesRec ·)))=true:=by kernel_rfl
theorem Zd:((jR.mapsOut==ay.mapsAmong kL.resultTypes.toList))=true:=by kernel_rfl
theorem Ze:((jR.loops==(kL.params.toList++sA.plain.varTypes ay).any (ay.loopsFrom ·)))=true:=by kernel_rfl
theorem Zf:((jR.wideKeys==(kL.params.toList++sA.plain.varTypes ay++kL.resultTypes.toList).any (ay.wideKeysFrom ·)))=true:=by kernel_rfl
theorem Zg:(sA.vars.all (ay.varReadable ·))=true:=by kernel_rfl
theorem Zh:(kL.resultTypes.all (fun t=>ay.readableRec t&&decide (t<ay.types.size)))=true:=by kernel_rfl
theorem Zj:((jR.ifacesOut==kL.resultTypes.toList.any (ay.ifacesRec ·)))=true:=by kernel_rfl
theorem Zk:((jR.loopsOut==kL.resultTypes.toList.any (ay.loopsFrom ·)))=true:=by kernel_rfl
theorem Zl:((jR.plainKeys==ay.plainKeys))=true:=by kernel_rfl
theorem Zm:(jR.shortTexts.isNone)=true:=by kernel_rfl
theorem Zn:(ay.stopsHeard)=true:=by kernel_rfl
theorem Zo:(ay.mayEnter)=true:=by kernel_rfl
theorem Zp:((jR.lifted==ay.liftsFinal))=true:=by kernel_rfl
theorem Zq:((ay.make==some jR.make))=true:=by kernel_rfl
theorem Zr:((jR.kinds==(if jR.domain.isEmpty then []else kL.params.toList.map fun t=>match ay.underlying t with|some (.int k)=>some k|_=>none)))=true:=by kernel_rfl
theorem Zs:((jR.pinned==jR.pinnedBy))=true:=by kernel_rfl
theorem Zu:((jR.veiled==(kL.params.toList++sA.plain.varTypes ay++kL.resultTypes.toList).any (ay.veiledRec ·)))=true:=by kernel_rfl
theorem Zv:(jR.veiledFits ay kL.params.toList (kL.params.toList++sA.plain.varTypes ay++kL.resultTypes.toList))=true:=by kernel_rfl
end
end Go.Proofs.YtohaalphocaebaaGreat
