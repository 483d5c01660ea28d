/- The closed facts of the row of FnExactParseProgram, together. -/
import Derived.Test.YtlnndmgfngfeiaaGreatDoorZp11
set_option linter.all false
set_option maxHeartbeats 4000000
set_option maxRecDepth 4000
open Go.Proofs.Tryz renaming f7->jM,prog->aQ
open Go.Proofs.YtlnndmgfngfeiaaGreatDoor.Rows renaming fnExactParseProgramRow->iW,fnExactParseProgramSpec->p9
namespace Go.Proofs.YtlnndmgfngfeiaaGreatDoor
section
open Go
set_option maxRecDepth 100000 in
theorem Uy:joinedFacts aQ 7 jM p9 iW=true:=(h0 (h0 (h0 (h0 (h0 (h0 (h0 (h0 (h0 (h0 (h0 (h0 (h0 (h0 (h0 (h0 (h0 (h0 (h0 (h0 (h0 (h0 (h0 (h0 (h0 (h0 (h0 (h0 (h0 (h0 (h0 T2 T3) Ue) Up) Us) Ut) Uu) Uv) Uw) Ux) T4) T5) T6) T7) T8) T9) Ua) Ub) Uc) Ud) Uf) Ug) Uh) Ui) Uj) Uk) Ul) Um) Un) Uo) Uq) Ur)
end
end Go.Proofs.YtlnndmgfngfeiaaGreatDoor
