/- The closed facts of a card, one theorem each. -/
import Derived.Test.YtlnndmgfngfeiaaGreatDoorRows
import Derived.Test.YtlnndmgfngfeiaaGreatDoorTie
import Derived.Test.YtlnndmgfngfeiaaGreatDoorCards
import Derived.ProofKit
import Derived.Carry
import Derived.WalkKit
import Derived.LaidMore
import Derived.SevenTiedAt
import Derived.Test.YtlnndmgfngfeiaaGreatDoorZ12
set_option linter.all false
set_option maxHeartbeats 4000000
set_option maxRecDepth 4000
open Go.Proofs.Tryz renaming prog->aP
open Go.Proofs.YtlnndmgfngfeiaaGreatDoor.Rows renaming fnCompileRow->iS,fnCompileSpec->qj
namespace Go.Proofs.YtlnndmgfngfeiaaGreatDoor
section
open Go
theorem Vu:iS.wfByText (OpenSpec.ofChange qj)=true:=by kernel_rfl
theorem Vs:Tryz.pinned.checked.prog.mainIs=some (Rows.fnCompileCard.stood.harness.1,Rows.fnCompileCard.stood.harness.2.toList):=by kernel_rfl
theorem Vr:true=Tryz.pinned.checked.prog.looks []:=by kernel_rfl
theorem Vq:false=iS.goesBy Tryz.pinned.checked.prog:=by kernel_rfl
theorem Vp:aP.funcNamed iS.func=some 6:=by kernel_rfl
theorem Vt:([35].all fun u=> !aP.wantsStandIn u)=true:=by kernel_rfl
end
end Go.Proofs.YtlnndmgfngfeiaaGreatDoor
