/- The closed facts of a card, one theorem each. -/
import Derived.Test.YtlnndmgfngfeiaaGreatDoorRows
import Derived.Test.YtlnndmgfngfeiaaGreatDoorTie
import Derived.Test.YtlnndmgfngfeiaaGreatDoorCards
import Derived.ProofKit
import Derived.Carry
import Derived.WalkKit
import Derived.LaidMore
import Derived.SevenTiedAt
import Derived.Test.YtlnndmgfngfeiaaGreatDoorX5
set_option linter.all false
set_option maxHeartbeats 4000000
set_option maxRecDepth 4000
open Go.Proofs.Tryz renaming prog->aI
open Go.Proofs.YtlnndmgfngfeiaaGreatDoor.Rows renaming fnComposeRow->fP,fnComposeSpec->ks
namespace Go.Proofs.YtlnndmgfngfeiaaGreatDoor
section
open Go
theorem HG:fP.wfByText (OpenSpec.ofChange ks)=true:=by kernel_rfl
theorem HE:Tryz.pinned.checked.prog.mainIs=some (Rows.fnComposeCard.stood.harness.1,Rows.fnComposeCard.stood.harness.2.toList):=by kernel_rfl
theorem HD:true=Tryz.pinned.checked.prog.looks []:=by kernel_rfl
theorem HC:false=fP.goesBy Tryz.pinned.checked.prog:=by kernel_rfl
theorem HB:aI.funcNamed fP.func=some 4:=by kernel_rfl
theorem HF:([35].all fun u=> !aI.wantsStandIn u)=true:=by kernel_rfl
end
end Go.Proofs.YtlnndmgfngfeiaaGreatDoor
