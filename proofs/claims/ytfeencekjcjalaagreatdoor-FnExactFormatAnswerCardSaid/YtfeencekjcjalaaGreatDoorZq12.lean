/- The closed facts of a card, one theorem each. -/
import Derived.Test.YtfeencekjcjalaaGreatDoorRows
import Derived.Test.YtfeencekjcjalaaGreatDoorTie
import Derived.Test.YtfeencekjcjalaaGreatDoorCards
import Derived.ProofKit
import Derived.Carry
import Derived.WalkKit
import Derived.LaidMore
import Derived.SevenTiedAt
import Derived.Test.YtfeencekjcjalaaGreatDoorZq11
set_option linter.all false
set_option maxHeartbeats 4000000
set_option maxRecDepth 4000
open Go.Proofs.Tryz renaming prog->ar
open Go.Proofs.YtfeencekjcjalaaGreatDoor.Rows renaming fnExactFormatAnswerRow->jZ,fnExactFormatAnswerSpec->rP
namespace Go.Proofs.YtfeencekjcjalaaGreatDoor
section
open Go
def adL:jZ.wfByText (OpenSpec.ofChange rP)=true:=an
def adJ:Tryz.pinned.checked.prog.mainIs=some (Rows.fnExactFormatAnswerCard.stood.harness.1,Rows.fnExactFormatAnswerCard.stood.harness.2.toList):=an
def adI:false=Tryz.pinned.checked.prog.looks []:=an
def adH:false=jZ.goesBy Tryz.pinned.checked.prog:=an
def adG:ar.funcNamed jZ.func=some 4:=an
def adK:([41].all fun u=> !ar.wantsStandIn u)=true:=an
end
end Go.Proofs.YtfeencekjcjalaaGreatDoor
