/- The closed facts of a card, one theorem each. -/
import Derived.Test.YtlnndmgfngfeiaaDoorRows
import Derived.Test.YtlnndmgfngfeiaaDoorTie
import Derived.Test.YtlnndmgfngfeiaaDoorCards
import Derived.ProofKit
import Derived.Carry
import Derived.WalkKit
import Derived.LaidMore
import Derived.SevenTiedAt
import Derived.Test.YtlnndmgfngfeiaaDoorZg10
set_option linter.all false
set_option maxHeartbeats 4000000
set_option maxRecDepth 4000
open Go.Proofs.Tryd renaming prog->aP
open Go.Proofs.YtlnndmgfngfeiaaDoor.Rows renaming fnExactParseGoalRow->hH,fnExactParseGoalSpec->nH
namespace Go.Proofs.YtlnndmgfngfeiaaDoor
section
open Go
theorem ME:hH.wfByText (OpenSpec.ofChange nH)=true:=by kernel_rfl
theorem MC:Tryd.pinned.checked.prog.mainIs=some (Rows.fnExactParseGoalCard.stood.harness.1,Rows.fnExactParseGoalCard.stood.harness.2.toList):=by kernel_rfl
theorem MB:true=Tryd.pinned.checked.prog.looks []:=by kernel_rfl
theorem MA:false=hH.goesBy Tryd.pinned.checked.prog:=by kernel_rfl
theorem Mz:aP.funcNamed hH.func=some 3:=by kernel_rfl
theorem MD:([9].all fun u=> !aP.wantsStandIn u)=true:=by kernel_rfl
end
end Go.Proofs.YtlnndmgfngfeiaaDoor
