/- The closed facts of the row of FnSolutions, together. -/
import Derived.Test.YtohaalphocaebaaGreatE6
import Derived.Test.YtohaalphocaebaaGreatE7
set_option linter.all false
set_option maxHeartbeats 4000000
set_option maxRecDepth 4000
open Go.Proofs.Tryz renaming f6->k7,prog->ax
open Go.Proofs.YtohaalphocaebaaGreat.Rows renaming fnSolutionsRow->ka,fnSolutionsSpec->tA
namespace Go.Proofs.YtohaalphocaebaaGreat
section
open Go
set_option maxRecDepth 100000 in
theorem acQ:joinedFacts ax 6 k7 tA ka=true:=(iE (iE (iE (iE (iE (iE (iE (iE (iE (iE (iE (iE (iE (iE (iE (iE (iE (iE (iE (iE (iE (iE (iE (iE (iE (iE (iE (iE (iE (iE (iE aci acj) acw) acH) acK) acL) acM) acN) acO) acP) ack) acm) acn) aco) acp) acq) acr) acs) acu) acv) acx) acy) acz) acA) acB) acC) acD) acE) acF) acG) acI) acJ)
end
end Go.Proofs.YtohaalphocaebaaGreat
