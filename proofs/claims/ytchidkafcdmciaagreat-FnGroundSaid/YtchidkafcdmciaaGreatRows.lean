/-
  NARROWER THAN 'FOR EVERY INPUT', by the rows' own cells (each row's printed sentence says how): FnExactGroundInstances: loops · FnExactCompileGoal: loops.
  DERIVED. THE GIVEN ROWS OF THIS SEAT. 4 by the template 'for every input the law returns true; each argument reads behind the call as it read before'; 0 by the template 'total and deterministic' (their statements: YtchidkafcdmciaaGreatTotals.lean).
  GIVEN WITH THE SEED: the statements are not yours to turn. If you find one false, say at which input.
  Laid BY PROGRAM, IN A SANDBOX (cutbox-rows.mjs): the forced cells as the released guide's own fill.sh prints them over the translation 067c0254bf13a58a… (all of the seat's roots in one cut). By AI agents, Wed Nov 11 2026. No macro, syntax, notation, axiom, sorry.
-/
import Derived.Test.YtchidkafcdmciaaGreatChecked
import GoSem.Claim
import GoSem.ClaimJoined
import GoSem.ClaimMapViews
import Derived.JoinedTies
import Derived.KernelRfl
namespace Go.Proofs.YtchidkafcdmciaaGreat
/- THE CELL 'sum', in the pinned program and in every row, IS THE sha256 OF THE DUMP (.gsa) THAT YtchidkafcdmciaaGreatProg.lean LOADS. Nothing in Lean hashes anything: it is a label: what it is worth is what the hold of that sum in a sandbox is worth. -/
noncomputable def Tryz.pinned : Pinned := { name := "ytchidkafcdmciaagreat", sum := "067c0254bf13a58adff8923a6d0148d0650bb2e8ba4603e0542a35c31e51be0f", checked := Tryz.checked }
namespace Rows
def none {H : Type} : Left H := { results := [], args := [] }

/-- 'laws.FnGround': WHATEVER THE INPUT: true; the input reads as it did. -/
def fnGroundSpec : ChangeSpec := { name := "fnGround", fn := fun _ => fun
  | [d] => { results := [.lit (.bool true)], args := [d] }
  | _ => none }
def fnGroundRow : OpenClaim := { program := "ytchidkafcdmciaagreat", sum := "067c0254bf13a58adff8923a6d0148d0650bb2e8ba4603e0542a35c31e51be0f", func := "loop.example/g03210/laws.FnGround", spec := "fnGround", inPlace := ["internal/reflectlite.ValueOf", "internal/reflectlite.Swapper", "(internal/reflectlite.Value).Len"], unfollowed := true, recurses := true, apart := false }
def FnGroundSaid : Prop := fnGroundRow.holds Tryz.pinned (OpenSpec.ofChange fnGroundSpec)

/-- ITS FALSE NEIGHBOUR: 'it returns false'. Refute it at one input. -/
def fnGroundWrong : ChangeSpec := { name := "fnGround", fn := fun _ => fun
  | [d] => { results := [.lit (.bool false)], args := [d] }
  | _ => none }
def FnGroundWrongFalsely : Prop := fnGroundRow.holds Tryz.pinned (OpenSpec.ofChange fnGroundWrong)

/-- 'laws.FnMatching': WHATEVER THE INPUT: true; the input reads as it did. -/
def fnMatchingSpec : ChangeSpec := { name := "fnMatching", fn := fun _ => fun
  | [d] => { results := [.lit (.bool true)], args := [d] }
  | _ => none }
def fnMatchingRow : OpenClaim := { program := "ytchidkafcdmciaagreat", sum := "067c0254bf13a58adff8923a6d0148d0650bb2e8ba4603e0542a35c31e51be0f", func := "loop.example/g03210/laws.FnMatching", spec := "fnMatching", inPlace := ["internal/reflectlite.ValueOf", "internal/reflectlite.Swapper", "(internal/reflectlite.Value).Len"], unfollowed := true, recurses := true, apart := false }
def FnMatchingSaid : Prop := fnMatchingRow.holds Tryz.pinned (OpenSpec.ofChange fnMatchingSpec)

/-- ITS FALSE NEIGHBOUR: 'it returns false'. Refute it at one input. -/
def fnMatchingWrong : ChangeSpec := { name := "fnMatching", fn := fun _ => fun
  | [d] => { results := [.lit (.bool false)], args := [d] }
  | _ => none }
def FnMatchingWrongFalsely : Prop := fnMatchingRow.holds Tryz.pinned (OpenSpec.ofChange fnMatchingWrong)

/-- 'laws.FnExactGroundInstances': WHATEVER THE INPUT: true; the input reads as it did. -/
def fnExactGroundInstancesSpec : ChangeSpec := { name := "fnExactGroundInstances", fn := fun _ => fun
  | [d1, d2] => { results := [.lit (.bool true)], args := [d1, d2] }
  | _ => none }
def fnExactGroundInstancesRow : OpenClaim := { program := "ytchidkafcdmciaagreat", sum := "067c0254bf13a58adff8923a6d0148d0650bb2e8ba4603e0542a35c31e51be0f", func := "loop.example/g03210/laws.FnExactGroundInstances", spec := "fnExactGroundInstances", inPlace := ["internal/reflectlite.ValueOf", "internal/reflectlite.Swapper", "(internal/reflectlite.Value).Len"], unfollowed := true, recurses := true, loops := true, apart := false }
def FnExactGroundInstancesSaid : Prop := fnExactGroundInstancesRow.holds Tryz.pinned (OpenSpec.ofChange fnExactGroundInstancesSpec)

/-- ITS FALSE NEIGHBOUR: 'it returns false'. Refute it at one input. -/
def fnExactGroundInstancesWrong : ChangeSpec := { name := "fnExactGroundInstances", fn := fun _ => fun
  | [d1, d2] => { results := [.lit (.bool false)], args := [d1, d2] }
  | _ => none }
def FnExactGroundInstancesWrongFalsely : Prop := fnExactGroundInstancesRow.holds Tryz.pinned (OpenSpec.ofChange fnExactGroundInstancesWrong)

/-- 'laws.FnExactCompileGoal': WHATEVER THE INPUT: true; the input reads as it did. -/
def fnExactCompileGoalSpec : ChangeSpec := { name := "fnExactCompileGoal", fn := fun _ => fun
  | [d1, d2, d3] => { results := [.lit (.bool true)], args := [d1, d2, d3] }
  | _ => none }
def fnExactCompileGoalRow : OpenClaim := { program := "ytchidkafcdmciaagreat", sum := "067c0254bf13a58adff8923a6d0148d0650bb2e8ba4603e0542a35c31e51be0f", func := "loop.example/g03210/laws.FnExactCompileGoal", spec := "fnExactCompileGoal", unfollowed := true, recurses := true, loops := true, apart := false }
def FnExactCompileGoalSaid : Prop := fnExactCompileGoalRow.holds Tryz.pinned (OpenSpec.ofChange fnExactCompileGoalSpec)

/-- ITS FALSE NEIGHBOUR: 'it returns false'. Refute it at one input. -/
def fnExactCompileGoalWrong : ChangeSpec := { name := "fnExactCompileGoal", fn := fun _ => fun
  | [d1, d2, d3] => { results := [.lit (.bool false)], args := [d1, d2, d3] }
  | _ => none }
def FnExactCompileGoalWrongFalsely : Prop := fnExactCompileGoalRow.holds Tryz.pinned (OpenSpec.ofChange fnExactCompileGoalWrong)

/- THE SECOND FORM. 'bulk': how many values and letters a reading holds, each counted each time it is reached (what is shared counts as often as it is met; a slice's spare places count too). A statement '..UptoSaid' is the law's where the arguments, and the package variables that the reading takes, are together of bulk at most 1048576: NARROWER than '..Said'. Prove '..Said' where nothing that the law and all that it calls make is longer than what came in: it says more and counts as full. Else prove '..UptoSaid'. A law counts once. -/
mutual
def uptoBulk {H : Type} : DataW H → Nat
  | .lit (.string bytes) => bytes.length + 1
  | .lit _ => 1
  | .nil => 1
  | .ptr d => uptoBulk d + 1
  | .slice elems spare => uptoBulkAll elems + uptoBulkAll spare + 1
  | .agg parts => uptoBulkAll parts + 1
  | .iface _ d => uptoBulk d + 1
  | .map entries => uptoBulkEntries entries + 1
  | .held _ => 1
def uptoBulkAll {H : Type} : List (DataW H) → Nat
  | [] => 0
  | d :: r => uptoBulk d + uptoBulkAll r
def uptoBulkEntries {H : Type} : List (Lit × DataW H) → Nat
  | [] => 0
  | x :: r => uptoBulkEntry x + uptoBulkEntries r
def uptoBulkEntry {H : Type} : Lit × DataW H → Nat
  | (.string bytes, d) => bytes.length + uptoBulk d + 1
  | (_, d) => uptoBulk d + 1
 end
def uptoSmall : (H : Type) → List (DataW H) → Bool := fun _ ds => decide (uptoBulkAll ds ≤ 1048576)
def OpenSpec.upto (s : _root_.Go.ChangeSpec) : _root_.Go.OpenSpec := { _root_.Go.OpenSpec.ofChange s with cond := some uptoSmall }

/-- 'laws.FnGround', WHERE WHAT IT READS IS OF BULK AT MOST 1048576: true; the input reads as it did. -/
def fnGroundUptoRow : OpenClaim := { program := "ytchidkafcdmciaagreat", sum := "067c0254bf13a58adff8923a6d0148d0650bb2e8ba4603e0542a35c31e51be0f", func := "loop.example/g03210/laws.FnGround", spec := "fnGround", inPlace := ["internal/reflectlite.ValueOf", "internal/reflectlite.Swapper", "(internal/reflectlite.Value).Len"], unfollowed := true, recurses := true, apart := false, narrowed := true }
def FnGroundUptoSaid : Prop := fnGroundUptoRow.holds Tryz.pinned (OpenSpec.upto fnGroundSpec)

/-- 'laws.FnMatching', WHERE WHAT IT READS IS OF BULK AT MOST 1048576: true; the input reads as it did. -/
def fnMatchingUptoRow : OpenClaim := { program := "ytchidkafcdmciaagreat", sum := "067c0254bf13a58adff8923a6d0148d0650bb2e8ba4603e0542a35c31e51be0f", func := "loop.example/g03210/laws.FnMatching", spec := "fnMatching", inPlace := ["internal/reflectlite.ValueOf", "internal/reflectlite.Swapper", "(internal/reflectlite.Value).Len"], unfollowed := true, recurses := true, apart := false, narrowed := true }
def FnMatchingUptoSaid : Prop := fnMatchingUptoRow.holds Tryz.pinned (OpenSpec.upto fnMatchingSpec)

/-- 'laws.FnExactGroundInstances', WHERE WHAT IT READS IS OF BULK AT MOST 1048576: true; the input reads as it did. -/
def fnExactGroundInstancesUptoRow : OpenClaim := { program := "ytchidkafcdmciaagreat", sum := "067c0254bf13a58adff8923a6d0148d0650bb2e8ba4603e0542a35c31e51be0f", func := "loop.example/g03210/laws.FnExactGroundInstances", spec := "fnExactGroundInstances", inPlace := ["internal/reflectlite.ValueOf", "internal/reflectlite.Swapper", "(internal/reflectlite.Value).Len"], unfollowed := true, recurses := true, loops := true, apart := false, narrowed := true }
def FnExactGroundInstancesUptoSaid : Prop := fnExactGroundInstancesUptoRow.holds Tryz.pinned (OpenSpec.upto fnExactGroundInstancesSpec)

/-- 'laws.FnExactCompileGoal', WHERE WHAT IT READS IS OF BULK AT MOST 1048576: true; the input reads as it did. -/
def fnExactCompileGoalUptoRow : OpenClaim := { program := "ytchidkafcdmciaagreat", sum := "067c0254bf13a58adff8923a6d0148d0650bb2e8ba4603e0542a35c31e51be0f", func := "loop.example/g03210/laws.FnExactCompileGoal", spec := "fnExactCompileGoal", unfollowed := true, recurses := true, loops := true, apart := false, narrowed := true }
def FnExactCompileGoalUptoSaid : Prop := fnExactCompileGoalUptoRow.holds Tryz.pinned (OpenSpec.upto fnExactCompileGoalSpec)

end Rows
end Go.Proofs.YtchidkafcdmciaaGreat
