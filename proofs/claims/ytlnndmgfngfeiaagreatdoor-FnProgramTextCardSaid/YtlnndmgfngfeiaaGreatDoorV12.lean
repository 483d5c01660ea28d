/- The closed facts of the row of FnProgramText, together. -/
import Derived.Test.YtlnndmgfngfeiaaGreatDoorV11
set_option linter.all false
set_option maxHeartbeats 4000000
set_option maxRecDepth 4000
open Go.Proofs.Tryz renaming f8->j2,prog->aQ
open Go.Proofs.YtlnndmgfngfeiaaGreatDoor.Rows renaming fnProgramTextRow->jj,fnProgramTextSpec->qC
namespace Go.Proofs.YtlnndmgfngfeiaaGreatDoor
section
open Go
set_option maxRecDepth 100000 in
theorem XM:joinedFacts aQ 8 j2 qC jj=true:=(il (il (il (il (il (il (il (il (il (il (il (il (il (il (il (il (il (il (il (il (il (il (il (il (il (il (il (il (il (il (il Xg Xh) Xs) XD) XG) XH) XI) XJ) XK) XL) Xi) Xj) Xk) Xl) Xm) Xn) Xo) Xp) Xq) Xr) Xt) Xu) Xv) Xw) Xx) Xy) Xz) XA) XB) XC) XE) XF)
end
end Go.Proofs.YtlnndmgfngfeiaaGreatDoor
