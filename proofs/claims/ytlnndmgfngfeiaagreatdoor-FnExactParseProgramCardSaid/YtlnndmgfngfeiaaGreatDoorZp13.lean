/- The closed facts of a card, one theorem each. -/
import Derived.Test.YtlnndmgfngfeiaaGreatDoorRows
import Derived.Test.YtlnndmgfngfeiaaGreatDoorTie
import Derived.Test.YtlnndmgfngfeiaaGreatDoorCards
import Derived.ProofKit
import Derived.Carry
import Derived.WalkKit
import Derived.LaidMore
import Derived.SevenTiedAt
import Derived.Test.YtlnndmgfngfeiaaGreatDoorZp12
set_option linter.all false
set_option maxHeartbeats 4000000
set_option maxRecDepth 4000
open Go.Proofs.Tryz renaming prog->aQ
open Go.Proofs.YtlnndmgfngfeiaaGreatDoor.Rows renaming fnExactParseProgramRow->iW,fnExactParseProgramSpec->p9
namespace Go.Proofs.YtlnndmgfngfeiaaGreatDoor
section
open Go
theorem TW:iW.wfByText (OpenSpec.ofChange p9)=true:=by kernel_rfl
theorem TU:Tryz.pinned.checked.prog.mainIs=some (Rows.fnExactParseProgramCard.stood.harness.1,Rows.fnExactParseProgramCard.stood.harness.2.toList):=by kernel_rfl
theorem TT:true=Tryz.pinned.checked.prog.looks []:=by kernel_rfl
theorem TS:false=iW.goesBy Tryz.pinned.checked.prog:=by kernel_rfl
theorem TR:aQ.funcNamed iW.func=some 7:=by kernel_rfl
theorem TV:([9].all fun u=> !aQ.wantsStandIn u)=true:=by kernel_rfl
end
end Go.Proofs.YtlnndmgfngfeiaaGreatDoor
