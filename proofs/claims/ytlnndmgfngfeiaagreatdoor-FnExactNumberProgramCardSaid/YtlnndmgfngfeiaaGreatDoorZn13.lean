/- The closed facts of the row of FnExactNumberProgram, together. -/
import Derived.Test.YtlnndmgfngfeiaaGreatDoorZn12
set_option linter.all false
set_option maxHeartbeats 4000000
set_option maxRecDepth 4000
open Go.Proofs.Tryz renaming f9->kH,prog->aF
open Go.Proofs.YtlnndmgfngfeiaaGreatDoor.Rows renaming fnExactNumberProgramRow->jQ,fnExactNumberProgramSpec->rv
namespace Go.Proofs.YtlnndmgfngfeiaaGreatDoor
section
open Go
set_option maxRecDepth 100000 in
theorem ZU:joinedFacts aF 9 kH rv jQ=true:=(iP (iP (iP (iP (iP (iP (iP (iP (iP (iP (iP (iP (iP (iP (iP (iP (iP (iP (iP (iP (iP (iP (iP (iP (iP (iP (iP (iP (iP (iP (iP Zo Zp) ZA) ZL) ZO) ZP) ZQ) ZR) ZS) ZT) Zq) Zr) Zs) Zt) Zu) Zv) Zw) Zx) Zy) Zz) ZB) ZC) ZD) ZE) ZF) ZG) ZH) ZI) ZJ) ZK) ZM) ZN)
end
end Go.Proofs.YtlnndmgfngfeiaaGreatDoor
