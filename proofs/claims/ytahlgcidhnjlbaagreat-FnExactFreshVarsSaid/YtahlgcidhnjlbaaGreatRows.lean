/-
  NARROWER THAN 'FOR EVERY INPUT', by the rows' own cells (each row's printed sentence says how): FnExactGroundInstances: loops · FnExactStateOk: loops · FnExactEntailsDiffer: loops · FnExactIsSolution: loops · FnExactEntailsEqual: loops · FnExactCountSolutions: loops · FnExactFreshVars: loops · FnExactStateImplies: loops · FnExactHaveKind: loops · FnExactLackSymbol: loops · FnExactEquate: loops · FnExactDiffer: loops.
  DERIVED. THE GIVEN ROWS OF THIS SEAT. 12 by the template 'for every input the law returns true; each argument reads behind the call as it read before'; 0 by the template 'total and deterministic' (their statements: YtahlgcidhnjlbaaGreatTotals.lean).
  GIVEN WITH THE SEED: the statements are not yours to turn. If you find one false, say at which input.
  Laid BY PROGRAM, IN A SANDBOX (cutbox-rows.mjs): the forced cells as the released guide's own fill.sh prints them over the translation 5348705ba17ac769… (all of the seat's roots in one cut). By AI agents, Wed Nov 11 2026. No macro, syntax, notation, axiom, sorry.
-/
import Derived.Test.YtahlgcidhnjlbaaGreatChecked
import GoSem.Claim
import GoSem.ClaimJoined
import GoSem.ClaimMapViews
import Derived.JoinedTies
import Derived.KernelRfl
namespace Go.Proofs.YtahlgcidhnjlbaaGreat
/- THE CELL 'sum', in the pinned program and in every row, IS THE sha256 OF THE DUMP (.gsa) THAT YtahlgcidhnjlbaaGreatProg.lean LOADS. Nothing in Lean hashes anything: it is a label: what it is worth is what the hold of that sum in a sandbox is worth. -/
noncomputable def Tryz.pinned : Pinned := { name := "ytahlgcidhnjlbaagreat", sum := "5348705ba17ac769cbb8c1b7a22fcb42bce9943a44bbd045a78a7161de2682d3", checked := Tryz.checked }
namespace Rows
def none {H : Type} : Left H := { results := [], args := [] }

/-- 'laws.FnExactGroundInstances': WHATEVER THE INPUT: true; the input reads as it did. -/
def fnExactGroundInstancesSpec : ChangeSpec := { name := "fnExactGroundInstances", fn := fun _ => fun
  | [d1, d2] => { results := [.lit (.bool true)], args := [d1, d2] }
  | _ => none }
def fnExactGroundInstancesRow : OpenClaim := { program := "ytahlgcidhnjlbaagreat", sum := "5348705ba17ac769cbb8c1b7a22fcb42bce9943a44bbd045a78a7161de2682d3", func := "loop.example/g03210/laws.FnExactGroundInstances", spec := "fnExactGroundInstances", inPlace := ["internal/reflectlite.ValueOf", "internal/reflectlite.Swapper", "(internal/reflectlite.Value).Len"], unfollowed := true, recurses := true, loops := true, plainKeys := false, apart := false }
def FnExactGroundInstancesSaid : Prop := fnExactGroundInstancesRow.holds Tryz.pinned (OpenSpec.ofChange fnExactGroundInstancesSpec)

/-- ITS FALSE NEIGHBOUR: 'it returns false'. Refute it at one input. -/
def fnExactGroundInstancesWrong : ChangeSpec := { name := "fnExactGroundInstances", fn := fun _ => fun
  | [d1, d2] => { results := [.lit (.bool false)], args := [d1, d2] }
  | _ => none }
def FnExactGroundInstancesWrongFalsely : Prop := fnExactGroundInstancesRow.holds Tryz.pinned (OpenSpec.ofChange fnExactGroundInstancesWrong)

/-- 'laws.FnExactStateOk': WHATEVER THE INPUT: true; the input reads as it did. -/
def fnExactStateOkSpec : ChangeSpec := { name := "fnExactStateOk", fn := fun _ => fun
  | [d] => { results := [.lit (.bool true)], args := [d] }
  | _ => none }
def fnExactStateOkRow : OpenClaim := { program := "ytahlgcidhnjlbaagreat", sum := "5348705ba17ac769cbb8c1b7a22fcb42bce9943a44bbd045a78a7161de2682d3", func := "loop.example/g03210/laws.FnExactStateOk", spec := "fnExactStateOk", inPlace := ["internal/reflectlite.ValueOf", "internal/reflectlite.Swapper", "(internal/reflectlite.Value).Len"], unfollowed := true, recurses := true, loops := true, plainKeys := false, apart := false }
def FnExactStateOkSaid : Prop := fnExactStateOkRow.holds Tryz.pinned (OpenSpec.ofChange fnExactStateOkSpec)

/-- ITS FALSE NEIGHBOUR: 'it returns false'. Refute it at one input. -/
def fnExactStateOkWrong : ChangeSpec := { name := "fnExactStateOk", fn := fun _ => fun
  | [d] => { results := [.lit (.bool false)], args := [d] }
  | _ => none }
def FnExactStateOkWrongFalsely : Prop := fnExactStateOkRow.holds Tryz.pinned (OpenSpec.ofChange fnExactStateOkWrong)

/-- 'laws.FnExactEntailsDiffer': WHATEVER THE INPUT: true; the input reads as it did. -/
def fnExactEntailsDifferSpec : ChangeSpec := { name := "fnExactEntailsDiffer", fn := fun _ => fun
  | [d1, d2, d3] => { results := [.lit (.bool true)], args := [d1, d2, d3] }
  | _ => none }
def fnExactEntailsDifferRow : OpenClaim := { program := "ytahlgcidhnjlbaagreat", sum := "5348705ba17ac769cbb8c1b7a22fcb42bce9943a44bbd045a78a7161de2682d3", func := "loop.example/g03210/laws.FnExactEntailsDiffer", spec := "fnExactEntailsDiffer", inPlace := ["internal/reflectlite.ValueOf", "internal/reflectlite.Swapper", "(internal/reflectlite.Value).Len"], unfollowed := true, recurses := true, loops := true, plainKeys := false, apart := false }
def FnExactEntailsDifferSaid : Prop := fnExactEntailsDifferRow.holds Tryz.pinned (OpenSpec.ofChange fnExactEntailsDifferSpec)

/-- ITS FALSE NEIGHBOUR: 'it returns false'. Refute it at one input. -/
def fnExactEntailsDifferWrong : ChangeSpec := { name := "fnExactEntailsDiffer", fn := fun _ => fun
  | [d1, d2, d3] => { results := [.lit (.bool false)], args := [d1, d2, d3] }
  | _ => none }
def FnExactEntailsDifferWrongFalsely : Prop := fnExactEntailsDifferRow.holds Tryz.pinned (OpenSpec.ofChange fnExactEntailsDifferWrong)

/-- 'laws.FnExactIsSolution': WHATEVER THE INPUT: true; the input reads as it did. -/
def fnExactIsSolutionSpec : ChangeSpec := { name := "fnExactIsSolution", fn := fun _ => fun
  | [d1, d2] => { results := [.lit (.bool true)], args := [d1, d2] }
  | _ => none }
def fnExactIsSolutionRow : OpenClaim := { program := "ytahlgcidhnjlbaagreat", sum := "5348705ba17ac769cbb8c1b7a22fcb42bce9943a44bbd045a78a7161de2682d3", func := "loop.example/g03210/laws.FnExactIsSolution", spec := "fnExactIsSolution", inPlace := ["internal/reflectlite.ValueOf", "internal/reflectlite.Swapper", "(internal/reflectlite.Value).Len"], unfollowed := true, recurses := true, loops := true, plainKeys := false, apart := false }
def FnExactIsSolutionSaid : Prop := fnExactIsSolutionRow.holds Tryz.pinned (OpenSpec.ofChange fnExactIsSolutionSpec)

/-- ITS FALSE NEIGHBOUR: 'it returns false'. Refute it at one input. -/
def fnExactIsSolutionWrong : ChangeSpec := { name := "fnExactIsSolution", fn := fun _ => fun
  | [d1, d2] => { results := [.lit (.bool false)], args := [d1, d2] }
  | _ => none }
def FnExactIsSolutionWrongFalsely : Prop := fnExactIsSolutionRow.holds Tryz.pinned (OpenSpec.ofChange fnExactIsSolutionWrong)

/-- 'laws.FnExactEntailsEqual': WHATEVER THE INPUT: true; the input reads as it did. -/
def fnExactEntailsEqualSpec : ChangeSpec := { name := "fnExactEntailsEqual", fn := fun _ => fun
  | [d1, d2, d3] => { results := [.lit (.bool true)], args := [d1, d2, d3] }
  | _ => none }
def fnExactEntailsEqualRow : OpenClaim := { program := "ytahlgcidhnjlbaagreat", sum := "5348705ba17ac769cbb8c1b7a22fcb42bce9943a44bbd045a78a7161de2682d3", func := "loop.example/g03210/laws.FnExactEntailsEqual", spec := "fnExactEntailsEqual", inPlace := ["internal/reflectlite.ValueOf", "internal/reflectlite.Swapper", "(internal/reflectlite.Value).Len"], unfollowed := true, recurses := true, loops := true, plainKeys := false, apart := false }
def FnExactEntailsEqualSaid : Prop := fnExactEntailsEqualRow.holds Tryz.pinned (OpenSpec.ofChange fnExactEntailsEqualSpec)

/-- ITS FALSE NEIGHBOUR: 'it returns false'. Refute it at one input. -/
def fnExactEntailsEqualWrong : ChangeSpec := { name := "fnExactEntailsEqual", fn := fun _ => fun
  | [d1, d2, d3] => { results := [.lit (.bool false)], args := [d1, d2, d3] }
  | _ => none }
def FnExactEntailsEqualWrongFalsely : Prop := fnExactEntailsEqualRow.holds Tryz.pinned (OpenSpec.ofChange fnExactEntailsEqualWrong)

/-- 'laws.FnExactCountSolutions': WHATEVER THE INPUT: true; the input reads as it did. -/
def fnExactCountSolutionsSpec : ChangeSpec := { name := "fnExactCountSolutions", fn := fun _ => fun
  | [d1, d2] => { results := [.lit (.bool true)], args := [d1, d2] }
  | _ => none }
def fnExactCountSolutionsRow : OpenClaim := { program := "ytahlgcidhnjlbaagreat", sum := "5348705ba17ac769cbb8c1b7a22fcb42bce9943a44bbd045a78a7161de2682d3", func := "loop.example/g03210/laws.FnExactCountSolutions", spec := "fnExactCountSolutions", inPlace := ["internal/reflectlite.ValueOf", "internal/reflectlite.Swapper", "(internal/reflectlite.Value).Len"], unfollowed := true, recurses := true, loops := true, plainKeys := false, apart := false }
def FnExactCountSolutionsSaid : Prop := fnExactCountSolutionsRow.holds Tryz.pinned (OpenSpec.ofChange fnExactCountSolutionsSpec)

/-- ITS FALSE NEIGHBOUR: 'it returns false'. Refute it at one input. -/
def fnExactCountSolutionsWrong : ChangeSpec := { name := "fnExactCountSolutions", fn := fun _ => fun
  | [d1, d2] => { results := [.lit (.bool false)], args := [d1, d2] }
  | _ => none }
def FnExactCountSolutionsWrongFalsely : Prop := fnExactCountSolutionsRow.holds Tryz.pinned (OpenSpec.ofChange fnExactCountSolutionsWrong)

/-- 'laws.FnExactFreshVars': WHATEVER THE INPUT: true; the input reads as it did. -/
def fnExactFreshVarsSpec : ChangeSpec := { name := "fnExactFreshVars", fn := fun _ => fun
  | [d1, d2] => { results := [.lit (.bool true)], args := [d1, d2] }
  | _ => none }
def fnExactFreshVarsRow : OpenClaim := { program := "ytahlgcidhnjlbaagreat", sum := "5348705ba17ac769cbb8c1b7a22fcb42bce9943a44bbd045a78a7161de2682d3", func := "loop.example/g03210/laws.FnExactFreshVars", spec := "fnExactFreshVars", inPlace := ["internal/reflectlite.ValueOf", "internal/reflectlite.Swapper", "(internal/reflectlite.Value).Len"], unfollowed := true, recurses := true, loops := true, plainKeys := false, apart := false }
def FnExactFreshVarsSaid : Prop := fnExactFreshVarsRow.holds Tryz.pinned (OpenSpec.ofChange fnExactFreshVarsSpec)

/-- ITS FALSE NEIGHBOUR: 'it returns false'. Refute it at one input. -/
def fnExactFreshVarsWrong : ChangeSpec := { name := "fnExactFreshVars", fn := fun _ => fun
  | [d1, d2] => { results := [.lit (.bool false)], args := [d1, d2] }
  | _ => none }
def FnExactFreshVarsWrongFalsely : Prop := fnExactFreshVarsRow.holds Tryz.pinned (OpenSpec.ofChange fnExactFreshVarsWrong)

/-- 'laws.FnExactStateImplies': WHATEVER THE INPUT: true; the input reads as it did. -/
def fnExactStateImpliesSpec : ChangeSpec := { name := "fnExactStateImplies", fn := fun _ => fun
  | [d1, d2] => { results := [.lit (.bool true)], args := [d1, d2] }
  | _ => none }
def fnExactStateImpliesRow : OpenClaim := { program := "ytahlgcidhnjlbaagreat", sum := "5348705ba17ac769cbb8c1b7a22fcb42bce9943a44bbd045a78a7161de2682d3", func := "loop.example/g03210/laws.FnExactStateImplies", spec := "fnExactStateImplies", inPlace := ["internal/reflectlite.ValueOf", "internal/reflectlite.Swapper", "(internal/reflectlite.Value).Len"], unfollowed := true, recurses := true, loops := true, plainKeys := false, apart := false }
def FnExactStateImpliesSaid : Prop := fnExactStateImpliesRow.holds Tryz.pinned (OpenSpec.ofChange fnExactStateImpliesSpec)

/-- ITS FALSE NEIGHBOUR: 'it returns false'. Refute it at one input. -/
def fnExactStateImpliesWrong : ChangeSpec := { name := "fnExactStateImplies", fn := fun _ => fun
  | [d1, d2] => { results := [.lit (.bool false)], args := [d1, d2] }
  | _ => none }
def FnExactStateImpliesWrongFalsely : Prop := fnExactStateImpliesRow.holds Tryz.pinned (OpenSpec.ofChange fnExactStateImpliesWrong)

/-- 'laws.FnExactHaveKind': WHATEVER THE INPUT: true; the input reads as it did. -/
def fnExactHaveKindSpec : ChangeSpec := { name := "fnExactHaveKind", fn := fun _ => fun
  | [d1, d2, d3] => { results := [.lit (.bool true)], args := [d1, d2, d3] }
  | _ => none }
def fnExactHaveKindRow : OpenClaim := { program := "ytahlgcidhnjlbaagreat", sum := "5348705ba17ac769cbb8c1b7a22fcb42bce9943a44bbd045a78a7161de2682d3", func := "loop.example/g03210/laws.FnExactHaveKind", spec := "fnExactHaveKind", inPlace := ["internal/reflectlite.ValueOf", "internal/reflectlite.Swapper", "(internal/reflectlite.Value).Len"], unfollowed := true, recurses := true, loops := true, plainKeys := false, apart := false }
def FnExactHaveKindSaid : Prop := fnExactHaveKindRow.holds Tryz.pinned (OpenSpec.ofChange fnExactHaveKindSpec)

/-- ITS FALSE NEIGHBOUR: 'it returns false'. Refute it at one input. -/
def fnExactHaveKindWrong : ChangeSpec := { name := "fnExactHaveKind", fn := fun _ => fun
  | [d1, d2, d3] => { results := [.lit (.bool false)], args := [d1, d2, d3] }
  | _ => none }
def FnExactHaveKindWrongFalsely : Prop := fnExactHaveKindRow.holds Tryz.pinned (OpenSpec.ofChange fnExactHaveKindWrong)

/-- 'laws.FnExactLackSymbol': WHATEVER THE INPUT: true; the input reads as it did. -/
def fnExactLackSymbolSpec : ChangeSpec := { name := "fnExactLackSymbol", fn := fun _ => fun
  | [d1, d2, d3] => { results := [.lit (.bool true)], args := [d1, d2, d3] }
  | _ => none }
def fnExactLackSymbolRow : OpenClaim := { program := "ytahlgcidhnjlbaagreat", sum := "5348705ba17ac769cbb8c1b7a22fcb42bce9943a44bbd045a78a7161de2682d3", func := "loop.example/g03210/laws.FnExactLackSymbol", spec := "fnExactLackSymbol", inPlace := ["internal/reflectlite.ValueOf", "internal/reflectlite.Swapper", "(internal/reflectlite.Value).Len"], unfollowed := true, recurses := true, loops := true, plainKeys := false, apart := false }
def FnExactLackSymbolSaid : Prop := fnExactLackSymbolRow.holds Tryz.pinned (OpenSpec.ofChange fnExactLackSymbolSpec)

/-- ITS FALSE NEIGHBOUR: 'it returns false'. Refute it at one input. -/
def fnExactLackSymbolWrong : ChangeSpec := { name := "fnExactLackSymbol", fn := fun _ => fun
  | [d1, d2, d3] => { results := [.lit (.bool false)], args := [d1, d2, d3] }
  | _ => none }
def FnExactLackSymbolWrongFalsely : Prop := fnExactLackSymbolRow.holds Tryz.pinned (OpenSpec.ofChange fnExactLackSymbolWrong)

/-- 'laws.FnExactEquate': WHATEVER THE INPUT: true; the input reads as it did. -/
def fnExactEquateSpec : ChangeSpec := { name := "fnExactEquate", fn := fun _ => fun
  | [d1, d2, d3] => { results := [.lit (.bool true)], args := [d1, d2, d3] }
  | _ => none }
def fnExactEquateRow : OpenClaim := { program := "ytahlgcidhnjlbaagreat", sum := "5348705ba17ac769cbb8c1b7a22fcb42bce9943a44bbd045a78a7161de2682d3", func := "loop.example/g03210/laws.FnExactEquate", spec := "fnExactEquate", inPlace := ["internal/reflectlite.ValueOf", "internal/reflectlite.Swapper", "(internal/reflectlite.Value).Len"], unfollowed := true, recurses := true, loops := true, plainKeys := false, apart := false }
def FnExactEquateSaid : Prop := fnExactEquateRow.holds Tryz.pinned (OpenSpec.ofChange fnExactEquateSpec)

/-- ITS FALSE NEIGHBOUR: 'it returns false'. Refute it at one input. -/
def fnExactEquateWrong : ChangeSpec := { name := "fnExactEquate", fn := fun _ => fun
  | [d1, d2, d3] => { results := [.lit (.bool false)], args := [d1, d2, d3] }
  | _ => none }
def FnExactEquateWrongFalsely : Prop := fnExactEquateRow.holds Tryz.pinned (OpenSpec.ofChange fnExactEquateWrong)

/-- 'laws.FnExactDiffer': WHATEVER THE INPUT: true; the input reads as it did. -/
def fnExactDifferSpec : ChangeSpec := { name := "fnExactDiffer", fn := fun _ => fun
  | [d1, d2, d3] => { results := [.lit (.bool true)], args := [d1, d2, d3] }
  | _ => none }
def fnExactDifferRow : OpenClaim := { program := "ytahlgcidhnjlbaagreat", sum := "5348705ba17ac769cbb8c1b7a22fcb42bce9943a44bbd045a78a7161de2682d3", func := "loop.example/g03210/laws.FnExactDiffer", spec := "fnExactDiffer", inPlace := ["internal/reflectlite.ValueOf", "internal/reflectlite.Swapper", "(internal/reflectlite.Value).Len"], unfollowed := true, recurses := true, loops := true, plainKeys := false, apart := false }
def FnExactDifferSaid : Prop := fnExactDifferRow.holds Tryz.pinned (OpenSpec.ofChange fnExactDifferSpec)

/-- ITS FALSE NEIGHBOUR: 'it returns false'. Refute it at one input. -/
def fnExactDifferWrong : ChangeSpec := { name := "fnExactDiffer", fn := fun _ => fun
  | [d1, d2, d3] => { results := [.lit (.bool false)], args := [d1, d2, d3] }
  | _ => none }
def FnExactDifferWrongFalsely : Prop := fnExactDifferRow.holds Tryz.pinned (OpenSpec.ofChange fnExactDifferWrong)

/- THE SECOND FORM. 'bulk': how many values and letters a reading holds, each counted each time it is reached (what is shared counts as often as it is met; a slice's spare places count too). A statement '..UptoSaid' is the law's where the arguments, and the package variables that the reading takes, are together of bulk at most 1048576: NARROWER than '..Said'. Prove '..Said' where nothing that the law and all that it calls make is longer than what came in: it says more and counts as full. Else prove '..UptoSaid'. A law counts once. -/
mutual
def uptoBulk {H : Type} : DataW H → Nat
  | .lit (.string bytes) => bytes.length + 1
  | .lit _ => 1
  | .nil => 1
  | .ptr d => uptoBulk d + 1
  | .slice elems spare => uptoBulkAll elems + uptoBulkAll spare + 1
  | .agg parts => uptoBulkAll parts + 1
  | .iface _ d => uptoBulk d + 1
  | .map entries => uptoBulkEntries entries + 1
  | .held _ => 1
def uptoBulkAll {H : Type} : List (DataW H) → Nat
  | [] => 0
  | d :: r => uptoBulk d + uptoBulkAll r
def uptoBulkEntries {H : Type} : List (Lit × DataW H) → Nat
  | [] => 0
  | x :: r => uptoBulkEntry x + uptoBulkEntries r
def uptoBulkEntry {H : Type} : Lit × DataW H → Nat
  | (.string bytes, d) => bytes.length + uptoBulk d + 1
  | (_, d) => uptoBulk d + 1
 end
def uptoSmall : (H : Type) → List (DataW H) → Bool := fun _ ds => decide (uptoBulkAll ds ≤ 1048576)
def OpenSpec.upto (s : _root_.Go.ChangeSpec) : _root_.Go.OpenSpec := { _root_.Go.OpenSpec.ofChange s with cond := some uptoSmall }

/-- 'laws.FnExactGroundInstances', WHERE WHAT IT READS IS OF BULK AT MOST 1048576: true; the input reads as it did. -/
def fnExactGroundInstancesUptoRow : OpenClaim := { program := "ytahlgcidhnjlbaagreat", sum := "5348705ba17ac769cbb8c1b7a22fcb42bce9943a44bbd045a78a7161de2682d3", func := "loop.example/g03210/laws.FnExactGroundInstances", spec := "fnExactGroundInstances", inPlace := ["internal/reflectlite.ValueOf", "internal/reflectlite.Swapper", "(internal/reflectlite.Value).Len"], unfollowed := true, recurses := true, loops := true, plainKeys := false, apart := false, narrowed := true }
def FnExactGroundInstancesUptoSaid : Prop := fnExactGroundInstancesUptoRow.holds Tryz.pinned (OpenSpec.upto fnExactGroundInstancesSpec)

/-- 'laws.FnExactStateOk', WHERE WHAT IT READS IS OF BULK AT MOST 1048576: true; the input reads as it did. -/
def fnExactStateOkUptoRow : OpenClaim := { program := "ytahlgcidhnjlbaagreat", sum := "5348705ba17ac769cbb8c1b7a22fcb42bce9943a44bbd045a78a7161de2682d3", func := "loop.example/g03210/laws.FnExactStateOk", spec := "fnExactStateOk", inPlace := ["internal/reflectlite.ValueOf", "internal/reflectlite.Swapper", "(internal/reflectlite.Value).Len"], unfollowed := true, recurses := true, loops := true, plainKeys := false, apart := false, narrowed := true }
def FnExactStateOkUptoSaid : Prop := fnExactStateOkUptoRow.holds Tryz.pinned (OpenSpec.upto fnExactStateOkSpec)

/-- 'laws.FnExactEntailsDiffer', WHERE WHAT IT READS IS OF BULK AT MOST 1048576: true; the input reads as it did. -/
def fnExactEntailsDifferUptoRow : OpenClaim := { program := "ytahlgcidhnjlbaagreat", sum := "5348705ba17ac769cbb8c1b7a22fcb42bce9943a44bbd045a78a7161de2682d3", func := "loop.example/g03210/laws.FnExactEntailsDiffer", spec := "fnExactEntailsDiffer", inPlace := ["internal/reflectlite.ValueOf", "internal/reflectlite.Swapper", "(internal/reflectlite.Value).Len"], unfollowed := true, recurses := true, loops := true, plainKeys := false, apart := false, narrowed := true }
def FnExactEntailsDifferUptoSaid : Prop := fnExactEntailsDifferUptoRow.holds Tryz.pinned (OpenSpec.upto fnExactEntailsDifferSpec)

/-- 'laws.FnExactIsSolution', WHERE WHAT IT READS IS OF BULK AT MOST 1048576: true; the input reads as it did. -/
def fnExactIsSolutionUptoRow : OpenClaim := { program := "ytahlgcidhnjlbaagreat", sum := "5348705ba17ac769cbb8c1b7a22fcb42bce9943a44bbd045a78a7161de2682d3", func := "loop.example/g03210/laws.FnExactIsSolution", spec := "fnExactIsSolution", inPlace := ["internal/reflectlite.ValueOf", "internal/reflectlite.Swapper", "(internal/reflectlite.Value).Len"], unfollowed := true, recurses := true, loops := true, plainKeys := false, apart := false, narrowed := true }
def FnExactIsSolutionUptoSaid : Prop := fnExactIsSolutionUptoRow.holds Tryz.pinned (OpenSpec.upto fnExactIsSolutionSpec)

/-- 'laws.FnExactEntailsEqual', WHERE WHAT IT READS IS OF BULK AT MOST 1048576: true; the input reads as it did. -/
def fnExactEntailsEqualUptoRow : OpenClaim := { program := "ytahlgcidhnjlbaagreat", sum := "5348705ba17ac769cbb8c1b7a22fcb42bce9943a44bbd045a78a7161de2682d3", func := "loop.example/g03210/laws.FnExactEntailsEqual", spec := "fnExactEntailsEqual", inPlace := ["internal/reflectlite.ValueOf", "internal/reflectlite.Swapper", "(internal/reflectlite.Value).Len"], unfollowed := true, recurses := true, loops := true, plainKeys := false, apart := false, narrowed := true }
def FnExactEntailsEqualUptoSaid : Prop := fnExactEntailsEqualUptoRow.holds Tryz.pinned (OpenSpec.upto fnExactEntailsEqualSpec)

/-- 'laws.FnExactCountSolutions', WHERE WHAT IT READS IS OF BULK AT MOST 1048576: true; the input reads as it did. -/
def fnExactCountSolutionsUptoRow : OpenClaim := { program := "ytahlgcidhnjlbaagreat", sum := "5348705ba17ac769cbb8c1b7a22fcb42bce9943a44bbd045a78a7161de2682d3", func := "loop.example/g03210/laws.FnExactCountSolutions", spec := "fnExactCountSolutions", inPlace := ["internal/reflectlite.ValueOf", "internal/reflectlite.Swapper", "(internal/reflectlite.Value).Len"], unfollowed := true, recurses := true, loops := true, plainKeys := false, apart := false, narrowed := true }
def FnExactCountSolutionsUptoSaid : Prop := fnExactCountSolutionsUptoRow.holds Tryz.pinned (OpenSpec.upto fnExactCountSolutionsSpec)

/-- 'laws.FnExactFreshVars', WHERE WHAT IT READS IS OF BULK AT MOST 1048576: true; the input reads as it did. -/
def fnExactFreshVarsUptoRow : OpenClaim := { program := "ytahlgcidhnjlbaagreat", sum := "5348705ba17ac769cbb8c1b7a22fcb42bce9943a44bbd045a78a7161de2682d3", func := "loop.example/g03210/laws.FnExactFreshVars", spec := "fnExactFreshVars", inPlace := ["internal/reflectlite.ValueOf", "internal/reflectlite.Swapper", "(internal/reflectlite.Value).Len"], unfollowed := true, recurses := true, loops := true, plainKeys := false, apart := false, narrowed := true }
def FnExactFreshVarsUptoSaid : Prop := fnExactFreshVarsUptoRow.holds Tryz.pinned (OpenSpec.upto fnExactFreshVarsSpec)

/-- 'laws.FnExactStateImplies', WHERE WHAT IT READS IS OF BULK AT MOST 1048576: true; the input reads as it did. -/
def fnExactStateImpliesUptoRow : OpenClaim := { program := "ytahlgcidhnjlbaagreat", sum := "5348705ba17ac769cbb8c1b7a22fcb42bce9943a44bbd045a78a7161de2682d3", func := "loop.example/g03210/laws.FnExactStateImplies", spec := "fnExactStateImplies", inPlace := ["internal/reflectlite.ValueOf", "internal/reflectlite.Swapper", "(internal/reflectlite.Value).Len"], unfollowed := true, recurses := true, loops := true, plainKeys := false, apart := false, narrowed := true }
def FnExactStateImpliesUptoSaid : Prop := fnExactStateImpliesUptoRow.holds Tryz.pinned (OpenSpec.upto fnExactStateImpliesSpec)

/-- 'laws.FnExactHaveKind', WHERE WHAT IT READS IS OF BULK AT MOST 1048576: true; the input reads as it did. -/
def fnExactHaveKindUptoRow : OpenClaim := { program := "ytahlgcidhnjlbaagreat", sum := "5348705ba17ac769cbb8c1b7a22fcb42bce9943a44bbd045a78a7161de2682d3", func := "loop.example/g03210/laws.FnExactHaveKind", spec := "fnExactHaveKind", inPlace := ["internal/reflectlite.ValueOf", "internal/reflectlite.Swapper", "(internal/reflectlite.Value).Len"], unfollowed := true, recurses := true, loops := true, plainKeys := false, apart := false, narrowed := true }
def FnExactHaveKindUptoSaid : Prop := fnExactHaveKindUptoRow.holds Tryz.pinned (OpenSpec.upto fnExactHaveKindSpec)

/-- 'laws.FnExactLackSymbol', WHERE WHAT IT READS IS OF BULK AT MOST 1048576: true; the input reads as it did. -/
def fnExactLackSymbolUptoRow : OpenClaim := { program := "ytahlgcidhnjlbaagreat", sum := "5348705ba17ac769cbb8c1b7a22fcb42bce9943a44bbd045a78a7161de2682d3", func := "loop.example/g03210/laws.FnExactLackSymbol", spec := "fnExactLackSymbol", inPlace := ["internal/reflectlite.ValueOf", "internal/reflectlite.Swapper", "(internal/reflectlite.Value).Len"], unfollowed := true, recurses := true, loops := true, plainKeys := false, apart := false, narrowed := true }
def FnExactLackSymbolUptoSaid : Prop := fnExactLackSymbolUptoRow.holds Tryz.pinned (OpenSpec.upto fnExactLackSymbolSpec)

/-- 'laws.FnExactEquate', WHERE WHAT IT READS IS OF BULK AT MOST 1048576: true; the input reads as it did. -/
def fnExactEquateUptoRow : OpenClaim := { program := "ytahlgcidhnjlbaagreat", sum := "5348705ba17ac769cbb8c1b7a22fcb42bce9943a44bbd045a78a7161de2682d3", func := "loop.example/g03210/laws.FnExactEquate", spec := "fnExactEquate", inPlace := ["internal/reflectlite.ValueOf", "internal/reflectlite.Swapper", "(internal/reflectlite.Value).Len"], unfollowed := true, recurses := true, loops := true, plainKeys := false, apart := false, narrowed := true }
def FnExactEquateUptoSaid : Prop := fnExactEquateUptoRow.holds Tryz.pinned (OpenSpec.upto fnExactEquateSpec)

/-- 'laws.FnExactDiffer', WHERE WHAT IT READS IS OF BULK AT MOST 1048576: true; the input reads as it did. -/
def fnExactDifferUptoRow : OpenClaim := { program := "ytahlgcidhnjlbaagreat", sum := "5348705ba17ac769cbb8c1b7a22fcb42bce9943a44bbd045a78a7161de2682d3", func := "loop.example/g03210/laws.FnExactDiffer", spec := "fnExactDiffer", inPlace := ["internal/reflectlite.ValueOf", "internal/reflectlite.Swapper", "(internal/reflectlite.Value).Len"], unfollowed := true, recurses := true, loops := true, plainKeys := false, apart := false, narrowed := true }
def FnExactDifferUptoSaid : Prop := fnExactDifferUptoRow.holds Tryz.pinned (OpenSpec.upto fnExactDifferSpec)

end Rows
end Go.Proofs.YtahlgcidhnjlbaaGreat
