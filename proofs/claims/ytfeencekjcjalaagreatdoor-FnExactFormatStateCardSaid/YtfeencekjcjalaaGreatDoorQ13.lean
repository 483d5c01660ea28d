/- The closed facts of the row of FnExactFormatState, together. -/
import Derived.Test.YtfeencekjcjalaaGreatDoorQ12
set_option linter.all false
set_option maxHeartbeats 4000000
set_option maxRecDepth 4000
open Go.Proofs.Tryz renaming f3->kM,prog->ar
open Go.Proofs.YtfeencekjcjalaaGreatDoor.Rows renaming fnExactFormatStateRow->jY,fnExactFormatStateSpec->rz
namespace Go.Proofs.YtfeencekjcjalaaGreatDoor
section
open Go
set_option maxRecDepth 100000 in
theorem ada:joinedFacts ar 3 kM rz jY=true:=(iR (iR (iR (iR (iR (iR (iR (iR (iR (iR (iR (iR (iR (iR (iR (iR (iR (iR (iR (iR (iR (iR (iR (iR (iR (iR (iR (iR (iR (iR (iR acE acF) acQ) ac1) ac4) ac5) ac6) ac7) ac8) ac9) acG) acH) acI) acJ) acK) acL) acM) acN) acO) acP) acR) acS) acT) acU) acV) acW) acX) acY) acZ) ac0) ac2) ac3)
end
end Go.Proofs.YtfeencekjcjalaaGreatDoor
