/- The closed facts of the row of FnExactParseGoal, together. -/
import Derived.Test.YtlnndmgfngfeiaaDoorZg9
set_option linter.all false
set_option maxHeartbeats 4000000
set_option maxRecDepth 4000
open Go.Proofs.Tryd renaming f3->ie,prog->aP
open Go.Proofs.YtlnndmgfngfeiaaDoor.Rows renaming fnExactParseGoalRow->hH,fnExactParseGoalSpec->nH
namespace Go.Proofs.YtlnndmgfngfeiaaDoor
section
open Go
set_option maxRecDepth 100000 in
theorem Nc:joinedFacts aP 3 ie nH hH=true:=(gS (gS (gS (gS (gS (gS (gS (gS (gS (gS (gS (gS (gS (gS (gS (gS (gS (gS (gS (gS (gS (gS (gS (gS (gS (gS (gS (gS (gS (gS (gS MG MH) MS) M3) M6) M7) M8) M9) Na) Nb) MI) MJ) MK) ML) MM) MN) MO) MP) MQ) MR) MT) MU) MV) MW) MX) MY) MZ) M0) M1) M2) M4) M5)
end
end Go.Proofs.YtlnndmgfngfeiaaDoor
