/- The closed facts of the row of FnCompile, together. -/
import Derived.Test.YtlnndmgfngfeiaaGreatDoorZ11
set_option linter.all false
set_option maxHeartbeats 4000000
set_option maxRecDepth 4000
open Go.Proofs.Tryz renaming f6->jK,prog->aP
open Go.Proofs.YtlnndmgfngfeiaaGreatDoor.Rows renaming fnCompileRow->iS,fnCompileSpec->qj
namespace Go.Proofs.YtlnndmgfngfeiaaGreatDoor
section
open Go
set_option maxRecDepth 100000 in
theorem Wd:joinedFacts aP 6 jK qj iS=true:=(h0 (h0 (h0 (h0 (h0 (h0 (h0 (h0 (h0 (h0 (h0 (h0 (h0 (h0 (h0 (h0 (h0 (h0 (h0 (h0 (h0 (h0 (h0 (h0 (h0 (h0 (h0 (h0 (h0 (h0 (h0 VG VH) VT) V4) V7) V8) V9) Wa) Wb) Wc) VJ) VK) VL) VM) VN) VO) VP) VQ) VR) VS) VU) VV) VW) VX) VY) VZ) V0) V1) V2) V3) V5) V6)
end
end Go.Proofs.YtlnndmgfngfeiaaGreatDoor
