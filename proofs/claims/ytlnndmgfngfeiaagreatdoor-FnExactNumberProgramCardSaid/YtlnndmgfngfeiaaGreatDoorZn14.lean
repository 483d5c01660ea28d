/- The closed facts of a card, one theorem each. -/
import Derived.Test.YtlnndmgfngfeiaaGreatDoorRows
import Derived.Test.YtlnndmgfngfeiaaGreatDoorTie
import Derived.Test.YtlnndmgfngfeiaaGreatDoorCards
import Derived.ProofKit
import Derived.Carry
import Derived.WalkKit
import Derived.LaidMore
import Derived.SevenTiedAt
import Derived.Test.YtlnndmgfngfeiaaGreatDoorZn13
set_option linter.all false
set_option maxHeartbeats 4000000
set_option maxRecDepth 4000
open Go.Proofs.Tryz renaming prog->aF
open Go.Proofs.YtlnndmgfngfeiaaGreatDoor.Rows renaming fnExactNumberProgramRow->jQ,fnExactNumberProgramSpec->rv
namespace Go.Proofs.YtlnndmgfngfeiaaGreatDoor
section
open Go
theorem Zd:jQ.wfByText (OpenSpec.ofChange rv)=true:=by kernel_rfl
theorem Zb:Tryz.pinned.checked.prog.mainIs=some (Rows.fnExactNumberProgramCard.stood.harness.1,Rows.fnExactNumberProgramCard.stood.harness.2.toList):=by kernel_rfl
theorem Za:true=Tryz.pinned.checked.prog.looks []:=by kernel_rfl
theorem Y9:false=jQ.goesBy Tryz.pinned.checked.prog:=by kernel_rfl
theorem Y8:aF.funcNamed jQ.func=some 9:=by kernel_rfl
theorem Zc:([92].all fun u=> !aF.wantsStandIn u)=true:=by kernel_rfl
end
end Go.Proofs.YtlnndmgfngfeiaaGreatDoor
