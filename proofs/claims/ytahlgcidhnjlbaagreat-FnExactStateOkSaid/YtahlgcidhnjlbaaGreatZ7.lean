/- The closed facts of the row of FnExactStateOk, together. -/
import Derived.Test.YtahlgcidhnjlbaaGreatZ6
set_option linter.all false
set_option maxHeartbeats 4000000
open Go.Proofs.Tryz renaming f4→kh,prog→ao
open Go.Proofs.YtahlgcidhnjlbaaGreat.Rows renaming fnExactStateOkRow→jt,fnExactStateOkSpec→rB
namespace Go.Proofs.YtahlgcidhnjlbaaGreat
open Go
set_option maxRecDepth 100000 in
theorem Xw:joinedFacts ao 4 kh rB jt=true:=(hT (hT (hT (hT (hT (hT (hT (hT (hT (hT (hT (hT (hT (hT (hT (hT (hT (hT (hT (hT (hT (hT (hT (hT (hT (hT (hT (hT (hT (hT (hT W0 W1) Xc) Xn) Xq) Xr) Xs) Xt) Xu) Xv) W2) W3) W4) W5) W6) W7) W8) W9) Xa) Xb) Xd) Xe) Xf) Xg) Xh) Xi) Xj) Xk) Xl) Xm) Xo) Xp)
end Go.Proofs.YtahlgcidhnjlbaaGreat
