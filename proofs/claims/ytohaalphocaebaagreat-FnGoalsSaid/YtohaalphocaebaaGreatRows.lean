/-
  NARROWER THAN 'FOR EVERY INPUT', by the rows' own cells (each row's printed sentence says how): FnExactAnswerOk: loops · FnExactInstanceOf: loops · FnExactSubsumes: loops.
  DERIVED. THE GIVEN ROWS OF THIS SEAT. 7 by the template 'for every input the law returns true; each argument reads behind the call as it read before'; 0 by the template 'total and deterministic' (their statements: YtohaalphocaebaaGreatTotals.lean).
  GIVEN WITH THE SEED: the statements are not yours to turn. If you find one false, say at which input.
  Laid BY PROGRAM, IN A SANDBOX (cutbox-rows.mjs): the forced cells as the released guide's own fill.sh prints them over the translation e6107fc8c7a9efb2… (all of the seat's roots in one cut). By AI agents, Wed Nov 11 2026. No macro, syntax, notation, axiom, sorry.
-/
import Derived.Test.YtohaalphocaebaaGreatChecked
import GoSem.Claim
import GoSem.ClaimJoined
import GoSem.ClaimMapViews
import Derived.JoinedTies
import Derived.KernelRfl
namespace Go.Proofs.YtohaalphocaebaaGreat
/- THE CELL 'sum', in the pinned program and in every row, IS THE sha256 OF THE DUMP (.gsa) THAT YtohaalphocaebaaGreatProg.lean LOADS. Nothing in Lean hashes anything: it is a label: what it is worth is what the hold of that sum in a sandbox is worth. -/
noncomputable def Tryz.pinned : Pinned := { name := "ytohaalphocaebaagreat", sum := "e6107fc8c7a9efb2c899d8b9688973405cc478ccc618aeb1a0337ee001bf20de", checked := Tryz.checked }
namespace Rows
def none {H : Type} : Left H := { results := [], args := [] }

/-- 'laws.FnStates': WHATEVER THE INPUT: true; the input reads as it did. -/
def fnStatesSpec : ChangeSpec := { name := "fnStates", fn := fun _ => fun
  | [d] => { results := [.lit (.bool true)], args := [d] }
  | _ => none }
def fnStatesRow : OpenClaim := { program := "ytohaalphocaebaagreat", sum := "e6107fc8c7a9efb2c899d8b9688973405cc478ccc618aeb1a0337ee001bf20de", func := "loop.example/g03210/laws.FnStates", spec := "fnStates", inPlace := ["internal/reflectlite.ValueOf", "internal/reflectlite.Swapper", "(internal/reflectlite.Value).Len"], unfollowed := true, recurses := true, plainKeys := false, apart := false }
def FnStatesSaid : Prop := fnStatesRow.holds Tryz.pinned (OpenSpec.ofChange fnStatesSpec)

/-- ITS FALSE NEIGHBOUR: 'it returns false'. Refute it at one input. -/
def fnStatesWrong : ChangeSpec := { name := "fnStates", fn := fun _ => fun
  | [d] => { results := [.lit (.bool false)], args := [d] }
  | _ => none }
def FnStatesWrongFalsely : Prop := fnStatesRow.holds Tryz.pinned (OpenSpec.ofChange fnStatesWrong)

/-- 'laws.FnStateOrder': WHATEVER THE INPUT: true; the input reads as it did. -/
def fnStateOrderSpec : ChangeSpec := { name := "fnStateOrder", fn := fun _ => fun
  | [d] => { results := [.lit (.bool true)], args := [d] }
  | _ => none }
def fnStateOrderRow : OpenClaim := { program := "ytohaalphocaebaagreat", sum := "e6107fc8c7a9efb2c899d8b9688973405cc478ccc618aeb1a0337ee001bf20de", func := "loop.example/g03210/laws.FnStateOrder", spec := "fnStateOrder", inPlace := ["internal/reflectlite.ValueOf", "internal/reflectlite.Swapper", "(internal/reflectlite.Value).Len"], unfollowed := true, recurses := true, plainKeys := false, apart := false }
def FnStateOrderSaid : Prop := fnStateOrderRow.holds Tryz.pinned (OpenSpec.ofChange fnStateOrderSpec)

/-- ITS FALSE NEIGHBOUR: 'it returns false'. Refute it at one input. -/
def fnStateOrderWrong : ChangeSpec := { name := "fnStateOrder", fn := fun _ => fun
  | [d] => { results := [.lit (.bool false)], args := [d] }
  | _ => none }
def FnStateOrderWrongFalsely : Prop := fnStateOrderRow.holds Tryz.pinned (OpenSpec.ofChange fnStateOrderWrong)

/-- 'laws.FnExactAnswerOk': WHATEVER THE INPUT: true; the input reads as it did. -/
def fnExactAnswerOkSpec : ChangeSpec := { name := "fnExactAnswerOk", fn := fun _ => fun
  | [d] => { results := [.lit (.bool true)], args := [d] }
  | _ => none }
def fnExactAnswerOkRow : OpenClaim := { program := "ytohaalphocaebaagreat", sum := "e6107fc8c7a9efb2c899d8b9688973405cc478ccc618aeb1a0337ee001bf20de", func := "loop.example/g03210/laws.FnExactAnswerOk", spec := "fnExactAnswerOk", inPlace := ["internal/reflectlite.ValueOf", "internal/reflectlite.Swapper", "(internal/reflectlite.Value).Len"], unfollowed := true, recurses := true, loops := true, plainKeys := false, apart := false }
def FnExactAnswerOkSaid : Prop := fnExactAnswerOkRow.holds Tryz.pinned (OpenSpec.ofChange fnExactAnswerOkSpec)

/-- ITS FALSE NEIGHBOUR: 'it returns false'. Refute it at one input. -/
def fnExactAnswerOkWrong : ChangeSpec := { name := "fnExactAnswerOk", fn := fun _ => fun
  | [d] => { results := [.lit (.bool false)], args := [d] }
  | _ => none }
def FnExactAnswerOkWrongFalsely : Prop := fnExactAnswerOkRow.holds Tryz.pinned (OpenSpec.ofChange fnExactAnswerOkWrong)

/-- 'laws.FnSolutions': WHATEVER THE INPUT: true; the input reads as it did. -/
def fnSolutionsSpec : ChangeSpec := { name := "fnSolutions", fn := fun _ => fun
  | [d] => { results := [.lit (.bool true)], args := [d] }
  | _ => none }
def fnSolutionsRow : OpenClaim := { program := "ytohaalphocaebaagreat", sum := "e6107fc8c7a9efb2c899d8b9688973405cc478ccc618aeb1a0337ee001bf20de", func := "loop.example/g03210/laws.FnSolutions", spec := "fnSolutions", inPlace := ["internal/reflectlite.ValueOf", "internal/reflectlite.Swapper", "(internal/reflectlite.Value).Len"], unfollowed := true, recurses := true, plainKeys := false, apart := false }
def FnSolutionsSaid : Prop := fnSolutionsRow.holds Tryz.pinned (OpenSpec.ofChange fnSolutionsSpec)

/-- ITS FALSE NEIGHBOUR: 'it returns false'. Refute it at one input. -/
def fnSolutionsWrong : ChangeSpec := { name := "fnSolutions", fn := fun _ => fun
  | [d] => { results := [.lit (.bool false)], args := [d] }
  | _ => none }
def FnSolutionsWrongFalsely : Prop := fnSolutionsRow.holds Tryz.pinned (OpenSpec.ofChange fnSolutionsWrong)

/-- 'laws.FnExactInstanceOf': WHATEVER THE INPUT: true; the input reads as it did. -/
def fnExactInstanceOfSpec : ChangeSpec := { name := "fnExactInstanceOf", fn := fun _ => fun
  | [d1, d2] => { results := [.lit (.bool true)], args := [d1, d2] }
  | _ => none }
def fnExactInstanceOfRow : OpenClaim := { program := "ytohaalphocaebaagreat", sum := "e6107fc8c7a9efb2c899d8b9688973405cc478ccc618aeb1a0337ee001bf20de", func := "loop.example/g03210/laws.FnExactInstanceOf", spec := "fnExactInstanceOf", inPlace := ["internal/reflectlite.ValueOf", "internal/reflectlite.Swapper", "(internal/reflectlite.Value).Len"], unfollowed := true, recurses := true, loops := true, plainKeys := false, apart := false }
def FnExactInstanceOfSaid : Prop := fnExactInstanceOfRow.holds Tryz.pinned (OpenSpec.ofChange fnExactInstanceOfSpec)

/-- ITS FALSE NEIGHBOUR: 'it returns false'. Refute it at one input. -/
def fnExactInstanceOfWrong : ChangeSpec := { name := "fnExactInstanceOf", fn := fun _ => fun
  | [d1, d2] => { results := [.lit (.bool false)], args := [d1, d2] }
  | _ => none }
def FnExactInstanceOfWrongFalsely : Prop := fnExactInstanceOfRow.holds Tryz.pinned (OpenSpec.ofChange fnExactInstanceOfWrong)

/-- 'laws.FnExactSubsumes': WHATEVER THE INPUT: true; the input reads as it did. -/
def fnExactSubsumesSpec : ChangeSpec := { name := "fnExactSubsumes", fn := fun _ => fun
  | [d1, d2] => { results := [.lit (.bool true)], args := [d1, d2] }
  | _ => none }
def fnExactSubsumesRow : OpenClaim := { program := "ytohaalphocaebaagreat", sum := "e6107fc8c7a9efb2c899d8b9688973405cc478ccc618aeb1a0337ee001bf20de", func := "loop.example/g03210/laws.FnExactSubsumes", spec := "fnExactSubsumes", inPlace := ["internal/reflectlite.ValueOf", "internal/reflectlite.Swapper", "(internal/reflectlite.Value).Len"], unfollowed := true, recurses := true, loops := true, plainKeys := false, apart := false }
def FnExactSubsumesSaid : Prop := fnExactSubsumesRow.holds Tryz.pinned (OpenSpec.ofChange fnExactSubsumesSpec)

/-- ITS FALSE NEIGHBOUR: 'it returns false'. Refute it at one input. -/
def fnExactSubsumesWrong : ChangeSpec := { name := "fnExactSubsumes", fn := fun _ => fun
  | [d1, d2] => { results := [.lit (.bool false)], args := [d1, d2] }
  | _ => none }
def FnExactSubsumesWrongFalsely : Prop := fnExactSubsumesRow.holds Tryz.pinned (OpenSpec.ofChange fnExactSubsumesWrong)

/-- 'laws.FnGoals': WHATEVER THE INPUT: true; the input reads as it did. -/
def fnGoalsSpec : ChangeSpec := { name := "fnGoals", fn := fun _ => fun
  | [d] => { results := [.lit (.bool true)], args := [d] }
  | _ => none }
def fnGoalsRow : OpenClaim := { program := "ytohaalphocaebaagreat", sum := "e6107fc8c7a9efb2c899d8b9688973405cc478ccc618aeb1a0337ee001bf20de", func := "loop.example/g03210/laws.FnGoals", spec := "fnGoals", inPlace := ["internal/reflectlite.ValueOf", "internal/reflectlite.Swapper", "(internal/reflectlite.Value).Len"], unfollowed := true, recurses := true, plainKeys := false, apart := false }
def FnGoalsSaid : Prop := fnGoalsRow.holds Tryz.pinned (OpenSpec.ofChange fnGoalsSpec)

/-- ITS FALSE NEIGHBOUR: 'it returns false'. Refute it at one input. -/
def fnGoalsWrong : ChangeSpec := { name := "fnGoals", fn := fun _ => fun
  | [d] => { results := [.lit (.bool false)], args := [d] }
  | _ => none }
def FnGoalsWrongFalsely : Prop := fnGoalsRow.holds Tryz.pinned (OpenSpec.ofChange fnGoalsWrong)

/- THE SECOND FORM. 'bulk': how many values and letters a reading holds, each counted each time it is reached (what is shared counts as often as it is met; a slice's spare places count too). A statement '..UptoSaid' is the law's where the arguments, and the package variables that the reading takes, are together of bulk at most 1048576: NARROWER than '..Said'. Prove '..Said' where nothing that the law and all that it calls make is longer than what came in: it says more and counts as full. Else prove '..UptoSaid'. A law counts once. -/
mutual
def uptoBulk {H : Type} : DataW H → Nat
  | .lit (.string bytes) => bytes.length + 1
  | .lit _ => 1
  | .nil => 1
  | .ptr d => uptoBulk d + 1
  | .slice elems spare => uptoBulkAll elems + uptoBulkAll spare + 1
  | .agg parts => uptoBulkAll parts + 1
  | .iface _ d => uptoBulk d + 1
  | .map entries => uptoBulkEntries entries + 1
  | .held _ => 1
def uptoBulkAll {H : Type} : List (DataW H) → Nat
  | [] => 0
  | d :: r => uptoBulk d + uptoBulkAll r
def uptoBulkEntries {H : Type} : List (Lit × DataW H) → Nat
  | [] => 0
  | x :: r => uptoBulkEntry x + uptoBulkEntries r
def uptoBulkEntry {H : Type} : Lit × DataW H → Nat
  | (.string bytes, d) => bytes.length + uptoBulk d + 1
  | (_, d) => uptoBulk d + 1
 end
def uptoSmall : (H : Type) → List (DataW H) → Bool := fun _ ds => decide (uptoBulkAll ds ≤ 1048576)
def OpenSpec.upto (s : _root_.Go.ChangeSpec) : _root_.Go.OpenSpec := { _root_.Go.OpenSpec.ofChange s with cond := some uptoSmall }

/-- 'laws.FnStates', WHERE WHAT IT READS IS OF BULK AT MOST 1048576: true; the input reads as it did. -/
def fnStatesUptoRow : OpenClaim := { program := "ytohaalphocaebaagreat", sum := "e6107fc8c7a9efb2c899d8b9688973405cc478ccc618aeb1a0337ee001bf20de", func := "loop.example/g03210/laws.FnStates", spec := "fnStates", inPlace := ["internal/reflectlite.ValueOf", "internal/reflectlite.Swapper", "(internal/reflectlite.Value).Len"], unfollowed := true, recurses := true, plainKeys := false, apart := false, narrowed := true }
def FnStatesUptoSaid : Prop := fnStatesUptoRow.holds Tryz.pinned (OpenSpec.upto fnStatesSpec)

/-- 'laws.FnStateOrder', WHERE WHAT IT READS IS OF BULK AT MOST 1048576: true; the input reads as it did. -/
def fnStateOrderUptoRow : OpenClaim := { program := "ytohaalphocaebaagreat", sum := "e6107fc8c7a9efb2c899d8b9688973405cc478ccc618aeb1a0337ee001bf20de", func := "loop.example/g03210/laws.FnStateOrder", spec := "fnStateOrder", inPlace := ["internal/reflectlite.ValueOf", "internal/reflectlite.Swapper", "(internal/reflectlite.Value).Len"], unfollowed := true, recurses := true, plainKeys := false, apart := false, narrowed := true }
def FnStateOrderUptoSaid : Prop := fnStateOrderUptoRow.holds Tryz.pinned (OpenSpec.upto fnStateOrderSpec)

/-- 'laws.FnExactAnswerOk', WHERE WHAT IT READS IS OF BULK AT MOST 1048576: true; the input reads as it did. -/
def fnExactAnswerOkUptoRow : OpenClaim := { program := "ytohaalphocaebaagreat", sum := "e6107fc8c7a9efb2c899d8b9688973405cc478ccc618aeb1a0337ee001bf20de", func := "loop.example/g03210/laws.FnExactAnswerOk", spec := "fnExactAnswerOk", inPlace := ["internal/reflectlite.ValueOf", "internal/reflectlite.Swapper", "(internal/reflectlite.Value).Len"], unfollowed := true, recurses := true, loops := true, plainKeys := false, apart := false, narrowed := true }
def FnExactAnswerOkUptoSaid : Prop := fnExactAnswerOkUptoRow.holds Tryz.pinned (OpenSpec.upto fnExactAnswerOkSpec)

/-- 'laws.FnSolutions', WHERE WHAT IT READS IS OF BULK AT MOST 1048576: true; the input reads as it did. -/
def fnSolutionsUptoRow : OpenClaim := { program := "ytohaalphocaebaagreat", sum := "e6107fc8c7a9efb2c899d8b9688973405cc478ccc618aeb1a0337ee001bf20de", func := "loop.example/g03210/laws.FnSolutions", spec := "fnSolutions", inPlace := ["internal/reflectlite.ValueOf", "internal/reflectlite.Swapper", "(internal/reflectlite.Value).Len"], unfollowed := true, recurses := true, plainKeys := false, apart := false, narrowed := true }
def FnSolutionsUptoSaid : Prop := fnSolutionsUptoRow.holds Tryz.pinned (OpenSpec.upto fnSolutionsSpec)

/-- 'laws.FnExactInstanceOf', WHERE WHAT IT READS IS OF BULK AT MOST 1048576: true; the input reads as it did. -/
def fnExactInstanceOfUptoRow : OpenClaim := { program := "ytohaalphocaebaagreat", sum := "e6107fc8c7a9efb2c899d8b9688973405cc478ccc618aeb1a0337ee001bf20de", func := "loop.example/g03210/laws.FnExactInstanceOf", spec := "fnExactInstanceOf", inPlace := ["internal/reflectlite.ValueOf", "internal/reflectlite.Swapper", "(internal/reflectlite.Value).Len"], unfollowed := true, recurses := true, loops := true, plainKeys := false, apart := false, narrowed := true }
def FnExactInstanceOfUptoSaid : Prop := fnExactInstanceOfUptoRow.holds Tryz.pinned (OpenSpec.upto fnExactInstanceOfSpec)

/-- 'laws.FnExactSubsumes', WHERE WHAT IT READS IS OF BULK AT MOST 1048576: true; the input reads as it did. -/
def fnExactSubsumesUptoRow : OpenClaim := { program := "ytohaalphocaebaagreat", sum := "e6107fc8c7a9efb2c899d8b9688973405cc478ccc618aeb1a0337ee001bf20de", func := "loop.example/g03210/laws.FnExactSubsumes", spec := "fnExactSubsumes", inPlace := ["internal/reflectlite.ValueOf", "internal/reflectlite.Swapper", "(internal/reflectlite.Value).Len"], unfollowed := true, recurses := true, loops := true, plainKeys := false, apart := false, narrowed := true }
def FnExactSubsumesUptoSaid : Prop := fnExactSubsumesUptoRow.holds Tryz.pinned (OpenSpec.upto fnExactSubsumesSpec)

/-- 'laws.FnGoals', WHERE WHAT IT READS IS OF BULK AT MOST 1048576: true; the input reads as it did. -/
def fnGoalsUptoRow : OpenClaim := { program := "ytohaalphocaebaagreat", sum := "e6107fc8c7a9efb2c899d8b9688973405cc478ccc618aeb1a0337ee001bf20de", func := "loop.example/g03210/laws.FnGoals", spec := "fnGoals", inPlace := ["internal/reflectlite.ValueOf", "internal/reflectlite.Swapper", "(internal/reflectlite.Value).Len"], unfollowed := true, recurses := true, plainKeys := false, apart := false, narrowed := true }
def FnGoalsUptoSaid : Prop := fnGoalsUptoRow.holds Tryz.pinned (OpenSpec.upto fnGoalsSpec)

end Rows
end Go.Proofs.YtohaalphocaebaaGreat
