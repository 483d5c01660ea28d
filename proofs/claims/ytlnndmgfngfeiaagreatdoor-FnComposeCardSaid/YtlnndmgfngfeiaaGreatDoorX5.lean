/- The closed facts of the row of FnCompose, together. -/
import Derived.Test.YtlnndmgfngfeiaaGreatDoorX4
set_option linter.all false
set_option maxHeartbeats 4000000
set_option maxRecDepth 4000
open Go.Proofs.Tryz renaming f4->gr,prog->aI
open Go.Proofs.YtlnndmgfngfeiaaGreatDoor.Rows renaming fnComposeRow->fP,fnComposeSpec->ks
namespace Go.Proofs.YtlnndmgfngfeiaaGreatDoor
section
open Go
set_option maxRecDepth 100000 in
theorem Ii:joinedFacts aI 4 gr ks fP=true:=(fa (fa (fa (fa (fa (fa (fa (fa (fa (fa (fa (fa (fa (fa (fa (fa (fa (fa (fa (fa (fa (fa (fa (fa (fa (fa (fa (fa (fa (fa (fa HK HL) HW) H8) Ib) Ic) Ie) If) Ig) Ih) HM) HN) HO) HP) HQ) HR) HS) HT) HU) HV) HX) HY) HZ) H0) H2) H3) H4) H5) H6) H7) H9) Ia)
end
end Go.Proofs.YtlnndmgfngfeiaaGreatDoor
