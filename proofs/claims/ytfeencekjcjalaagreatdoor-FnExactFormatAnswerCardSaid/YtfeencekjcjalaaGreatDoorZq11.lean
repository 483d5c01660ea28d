/- The closed facts of the row of FnExactFormatAnswer, together. -/
import Derived.Test.YtfeencekjcjalaaGreatDoorZq10
set_option linter.all false
set_option maxHeartbeats 4000000
set_option maxRecDepth 4000
open Go.Proofs.Tryz renaming f4->kS,prog->ar
open Go.Proofs.YtfeencekjcjalaaGreatDoor.Rows renaming fnExactFormatAnswerRow->jZ,fnExactFormatAnswerSpec->rP
namespace Go.Proofs.YtfeencekjcjalaaGreatDoor
section
open Go
set_option maxRecDepth 100000 in
def aeq:joinedFacts ar 4 kS rP jZ=true:=(jd (jd (jd (jd (jd (jd (jd (jd (jd (jd (jd (jd (jd (jd (jd (jd (jd (jd (jd (jd (jd (jd (jd (jd (jd (jd (jd (jd (jd (jd (jd adU adV) ad6) aeh) aek) ael) aem) aen) aeo) aep) adW) adX) adY) adZ) ad0) ad1) ad2) ad3) ad4) ad5) ad7) ad8) ad9) aea) aeb) aec) aed) aee) aef) aeg) aei) aej)
end
end Go.Proofs.YtfeencekjcjalaaGreatDoor
