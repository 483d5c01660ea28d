/- The closed facts of a card, one theorem each. -/
import Derived.Test.YtfeencekjcjalaaGreatDoorRows
import Derived.Test.YtfeencekjcjalaaGreatDoorTie
import Derived.Test.YtfeencekjcjalaaGreatDoorCards
import Derived.ProofKit
import Derived.Carry
import Derived.WalkKit
import Derived.LaidMore
import Derived.SevenTiedAt
import Derived.Test.YtfeencekjcjalaaGreatDoorQ13
set_option linter.all false
set_option maxHeartbeats 4000000
set_option maxRecDepth 4000
open Go.Proofs.Tryz renaming prog->ar
open Go.Proofs.YtfeencekjcjalaaGreatDoor.Rows renaming fnExactFormatStateRow->jY,fnExactFormatStateSpec->rz
namespace Go.Proofs.YtfeencekjcjalaaGreatDoor
section
open Go
theorem acu:jY.wfByText (OpenSpec.ofChange rz)=true:=an
theorem acr:Tryz.pinned.checked.prog.mainIs=some (Rows.fnExactFormatStateCard.stood.harness.1,Rows.fnExactFormatStateCard.stood.harness.2.toList):=an
theorem acq:false=Tryz.pinned.checked.prog.looks []:=an
theorem acp:false=jY.goesBy Tryz.pinned.checked.prog:=an
theorem aco:ar.funcNamed jY.func=some 3:=an
theorem acs:([27].all fun u=> !ar.wantsStandIn u)=true:=an
end
end Go.Proofs.YtfeencekjcjalaaGreatDoor
