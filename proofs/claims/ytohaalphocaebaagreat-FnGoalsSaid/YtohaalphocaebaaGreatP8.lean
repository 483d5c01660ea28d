/- The closed facts of the row of FnGoals, together. -/
import Derived.Test.YtohaalphocaebaaGreatP7
set_option linter.all false
set_option maxHeartbeats 4000000
set_option maxRecDepth 4000
open Go.Proofs.Tryz renaming f9->kL,prog->ay
open Go.Proofs.YtohaalphocaebaaGreat.Rows renaming fnGoalsRow->jR,fnGoalsSpec->sA
namespace Go.Proofs.YtohaalphocaebaaGreat
section
open Go
set_option maxRecDepth 100000 in
theorem ZC:joinedFacts ay 9 kL sA jR=true:=(ih (ih (ih (ih (ih (ih (ih (ih (ih (ih (ih (ih (ih (ih (ih (ih (ih (ih (ih (ih (ih (ih (ih (ih (ih (ih (ih (ih (ih (ih (ih Y6 Y7) Zi) Zt) Zw) Zx) Zy) Zz) ZA) ZB) Y8) Y9) Za) Zb) Zc) Zd) Ze) Zf) Zg) Zh) Zj) Zk) Zl) Zm) Zn) Zo) Zp) Zq) Zr) Zs) Zu) Zv)
end
end Go.Proofs.YtohaalphocaebaaGreat
