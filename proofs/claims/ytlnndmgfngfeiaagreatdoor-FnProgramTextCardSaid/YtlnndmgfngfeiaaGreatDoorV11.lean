/- The closed facts of the row of FnProgramText. -/
import Derived.Test.YtlnndmgfngfeiaaGreatDoorRows
import Derived.ProofKit
import Derived.Carry
import Derived.WalkKit
import Derived.Test.YtlnndmgfngfeiaaGreatDoorV10
set_option linter.all false
set_option maxHeartbeats 4000000
set_option maxRecDepth 4000
open Go.Proofs.Tryz renaming f8->j2,prog->aQ
open Go.Proofs.YtlnndmgfngfeiaaGreatDoor.Rows renaming fnProgramTextRow->jj,fnProgramTextSpec->qC
namespace Go.Proofs.YtlnndmgfngfeiaaGreatDoor
section
open Go
theorem il{a b:Bool}(I:a=true)(J:b=true):(a&&b)=true:=by rw[I,J];rfl
theorem Xg:(jj.wf (OpenSpec.ofChange qC))=true:=by kernel_rfl
theorem Xh:(laidOutB aQ)=true:=by kernel_rfl
theorem Xs:(mapsRowed aQ)=true:=by kernel_rfl
theorem XD:(j2.params.all (aQ.readableRec ·))=true:=by kernel_rfl
theorem XG:(namedTie aQ jj.named qC.vars)=true:=by kernel_rfl
theorem XH:((jj.stops==[]))=true:=by kernel_rfl
theorem XI:((aQ.stops==[]))=true:=by kernel_rfl
theorem XJ:((jj.knobs==[]))=true:=by kernel_rfl
theorem XK:((aQ.stopKnobs==[]))=true:=by kernel_rfl
theorem XL:((jj.inPlace==aQ.inPlace 8))=true:=by kernel_rfl
theorem Xi:((jj.unfollowed==aQ.unfollowed 8))=true:=by kernel_rfl
theorem Xj:((jj.recurses==aQ.recurses 8))=true:=by kernel_rfl
theorem Xk:((jj.named==aQ.varsNamed 8))=true:=by kernel_rfl
theorem Xl:((jj.maps==(j2.params.toList++qC.plain.varTypes aQ).any (aQ.mapsRec ·)))=true:=by kernel_rfl
theorem Xm:((jj.ifaces==(j2.params.toList++qC.plain.varTypes aQ).any (aQ.ifacesRec ·)))=true:=by kernel_rfl
theorem Xn:((jj.mapsOut==aQ.mapsAmong j2.resultTypes.toList))=true:=by kernel_rfl
theorem Xo:((jj.loops==(j2.params.toList++qC.plain.varTypes aQ).any (aQ.loopsFrom ·)))=true:=by kernel_rfl
theorem Xp:((jj.wideKeys==(j2.params.toList++qC.plain.varTypes aQ++j2.resultTypes.toList).any (aQ.wideKeysFrom ·)))=true:=by kernel_rfl
theorem Xq:(qC.vars.all (aQ.varReadable ·))=true:=by kernel_rfl
theorem Xr:(j2.resultTypes.all (fun t=>aQ.readableRec t&&decide (t<aQ.types.size)))=true:=by kernel_rfl
theorem Xt:((jj.ifacesOut==j2.resultTypes.toList.any (aQ.ifacesRec ·)))=true:=by kernel_rfl
theorem Xu:((jj.loopsOut==j2.resultTypes.toList.any (aQ.loopsFrom ·)))=true:=by kernel_rfl
theorem Xv:((jj.plainKeys==aQ.plainKeys))=true:=by kernel_rfl
theorem Xw:(jj.shortTexts.isNone)=true:=by kernel_rfl
theorem Xx:(aQ.stopsHeard)=true:=by kernel_rfl
theorem Xy:(aQ.mayEnter)=true:=by kernel_rfl
theorem Xz:((jj.lifted==aQ.liftsFinal))=true:=by kernel_rfl
theorem XA:((aQ.make==some jj.make))=true:=by kernel_rfl
theorem XB:((jj.kinds==(if jj.domain.isEmpty then []else j2.params.toList.map fun t=>match aQ.underlying t with|some (.int k)=>some k|_=>none)))=true:=by kernel_rfl
theorem XC:((jj.pinned==jj.pinnedBy))=true:=by kernel_rfl
theorem XE:((jj.veiled==(j2.params.toList++qC.plain.varTypes aQ++j2.resultTypes.toList).any (aQ.veiledRec ·)))=true:=by kernel_rfl
theorem XF:(jj.veiledFits aQ j2.params.toList (j2.params.toList++qC.plain.varTypes aQ++j2.resultTypes.toList))=true:=by kernel_rfl
end
end Go.Proofs.YtlnndmgfngfeiaaGreatDoor
