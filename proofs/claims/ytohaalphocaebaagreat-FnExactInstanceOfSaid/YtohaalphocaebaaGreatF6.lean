/- The closed facts of the row of FnExactInstanceOf. -/
import Derived.Test.YtohaalphocaebaaGreatRows
import Derived.ProofKit
import Derived.Carry
import Derived.WalkKit
import Derived.Test.YtohaalphocaebaaGreatF5
set_option linter.all false
set_option maxHeartbeats 4000000
set_option maxRecDepth 4000
open Go.Proofs.Tryz renaming f7->kW,prog->ak
open Go.Proofs.YtohaalphocaebaaGreat.Rows renaming fnExactInstanceOfRow->j6,fnExactInstanceOfSpec->tb
namespace Go.Proofs.YtohaalphocaebaaGreat
section
open Go
theorem ix{a b:Bool}(J:a=true)(U:b=true):(a&&b)=true:=by rw[J,U];rfl
theorem abP:(j6.wf (OpenSpec.ofChange tb))=true:=by kernel_rfl
theorem abQ:(laidOutB ak)=true:=by kernel_rfl
theorem ab1:(mapsRowed ak)=true:=by kernel_rfl
theorem acd:(kW.params.all (ak.readableRec ·))=true:=by kernel_rfl
theorem acg:(namedTie ak j6.named tb.vars)=true:=by kernel_rfl
theorem ach:((j6.stops==[]))=true:=by kernel_rfl
theorem aci:((ak.stops==[]))=true:=by kernel_rfl
theorem acj:((j6.knobs==[]))=true:=by kernel_rfl
theorem ack:((ak.stopKnobs==[]))=true:=by kernel_rfl
theorem acm:((j6.inPlace==ak.inPlace 7))=true:=by kernel_rfl
theorem abR:((j6.unfollowed==ak.unfollowed 7))=true:=by kernel_rfl
theorem abS:((j6.recurses==ak.recurses 7))=true:=by kernel_rfl
theorem abT:((j6.named==ak.varsNamed 7))=true:=by kernel_rfl
theorem abU:((j6.maps==(kW.params.toList++tb.plain.varTypes ak).any (ak.mapsRec ·)))=true:=by kernel_rfl
theorem abV:((j6.ifaces==(kW.params.toList++tb.plain.varTypes ak).any (ak.ifacesRec ·)))=true:=by kernel_rfl
theorem abW:((j6.mapsOut==ak.mapsAmong kW.resultTypes.toList))=true:=by kernel_rfl
theorem abX:((j6.loops==(kW.params.toList++tb.plain.varTypes ak).any (ak.loopsFrom ·)))=true:=by kernel_rfl
theorem abY:((j6.wideKeys==(kW.params.toList++tb.plain.varTypes ak++kW.resultTypes.toList).any (ak.wideKeysFrom ·)))=true:=by kernel_rfl
theorem abZ:(tb.vars.all (ak.varReadable ·))=true:=by kernel_rfl
theorem ab0:(kW.resultTypes.all (fun t=>ak.readableRec t&&decide (t<ak.types.size)))=true:=by kernel_rfl
theorem ab2:((j6.ifacesOut==kW.resultTypes.toList.any (ak.ifacesRec ·)))=true:=by kernel_rfl
theorem ab3:((j6.loopsOut==kW.resultTypes.toList.any (ak.loopsFrom ·)))=true:=by kernel_rfl
theorem ab4:((j6.plainKeys==ak.plainKeys))=true:=by kernel_rfl
theorem ab5:(j6.shortTexts.isNone)=true:=by kernel_rfl
theorem ab6:(ak.stopsHeard)=true:=by kernel_rfl
theorem ab7:(ak.mayEnter)=true:=by kernel_rfl
theorem ab8:((j6.lifted==ak.liftsFinal))=true:=by kernel_rfl
theorem ab9:((ak.make==some j6.make))=true:=by kernel_rfl
theorem aca:((j6.kinds==(if j6.domain.isEmpty then []else kW.params.toList.map fun t=>match ak.underlying t with|some (.int k)=>some k|_=>none)))=true:=by kernel_rfl
theorem acb:((j6.pinned==j6.pinnedBy))=true:=by kernel_rfl
theorem ace:((j6.veiled==(kW.params.toList++tb.plain.varTypes ak++kW.resultTypes.toList).any (ak.veiledRec ·)))=true:=by kernel_rfl
theorem acf:(j6.veiledFits ak kW.params.toList (kW.params.toList++tb.plain.varTypes ak++kW.resultTypes.toList))=true:=by kernel_rfl
end
end Go.Proofs.YtohaalphocaebaaGreat
