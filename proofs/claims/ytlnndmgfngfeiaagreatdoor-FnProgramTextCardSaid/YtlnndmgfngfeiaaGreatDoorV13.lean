/- The closed facts of a card, one theorem each. -/
import Derived.Test.YtlnndmgfngfeiaaGreatDoorRows
import Derived.Test.YtlnndmgfngfeiaaGreatDoorTie
import Derived.Test.YtlnndmgfngfeiaaGreatDoorCards
import Derived.ProofKit
import Derived.Carry
import Derived.WalkKit
import Derived.LaidMore
import Derived.SevenTiedAt
import Derived.Test.YtlnndmgfngfeiaaGreatDoorV12
set_option linter.all false
set_option maxHeartbeats 4000000
set_option maxRecDepth 4000
open Go.Proofs.Tryz renaming prog->aQ
open Go.Proofs.YtlnndmgfngfeiaaGreatDoor.Rows renaming fnProgramTextRow->jj,fnProgramTextSpec->qC
namespace Go.Proofs.YtlnndmgfngfeiaaGreatDoor
section
open Go
theorem W8:jj.wfByText (OpenSpec.ofChange qC)=true:=by kernel_rfl
theorem W6:Tryz.pinned.checked.prog.mainIs=some (Rows.fnProgramTextCard.stood.harness.1,Rows.fnProgramTextCard.stood.harness.2.toList):=by kernel_rfl
theorem W5:true=Tryz.pinned.checked.prog.looks []:=by kernel_rfl
theorem W4:false=jj.goesBy Tryz.pinned.checked.prog:=by kernel_rfl
theorem W3:aQ.funcNamed jj.func=some 8:=by kernel_rfl
theorem W7:([35].all fun u=> !aQ.wantsStandIn u)=true:=by kernel_rfl
end
end Go.Proofs.YtlnndmgfngfeiaaGreatDoor
