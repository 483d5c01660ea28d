/-
  DERIVED. GIVEN WITH THE SEED: THE CARDS: each row of YtlnndmgfngfeiaaDoorRows.lean that lists a variable, with what it lists TIED to the program's text (the seventh form; the later family's looks); each row that meets fmt, with fmt's text TOLD by the authors' own Lean function (tested against real Go, not proved from fmt's source: count such statements apart). THE CARD IS WHAT COUNTS. Prove the row's statement (the work); the ties are given (YtlnndmgfngfeiaaDoorTie.lean); close each card by the builder's one call (the guide's Derived/Test/ToyasCard.lean, 'card_holds'). Laid BY PROGRAM, IN A SANDBOX (cutbox-door.mjs). By AI agents, Wed Nov 11 2026. No macro, syntax, notation, axiom, sorry.
-/
import Derived.Test.YtlnndmgfngfeiaaDoorRows
import GoSem.ClaimSeven
namespace Go.Proofs.YtlnndmgfngfeiaaDoor
namespace Rows

/-- THE TIED CARD OF 'laws.FnExactParseGoal'. -/
def fnExactParseGoalCard : Claim7 := { stood := { row := fnExactParseGoalRow, standIns := [], harness := (true, "90cd667451f8a83bafd220da86baf58707895c93e1b2531911b7ee4b9d2abb68"), looks := true }, kinds := [], alts := [], laidByText := true, laidKinds := [.data, .data, .data, .sentinel, .sentinel], laidTests := true, laidLooks := .later }
def FnExactParseGoalCardSaid : Prop := Claim7.holds Tryd.pinned (.plain (OpenSpec.ofChange fnExactParseGoalSpec)) fnExactParseGoalCard

/-- THE SECOND FORM's CARD OF 'laws.FnExactParseGoal'. -/
def fnExactParseGoalUptoCard : Claim7 := { stood := { row := fnExactParseGoalUptoRow, standIns := [], harness := (true, "90cd667451f8a83bafd220da86baf58707895c93e1b2531911b7ee4b9d2abb68"), looks := true }, kinds := [], alts := [], laidByText := true, laidKinds := [.data, .data, .data, .sentinel, .sentinel], laidTests := true, laidLooks := .later }
def FnExactParseGoalUptoCardSaid : Prop := Claim7.holds Tryd.pinned (.plain (OpenSpec.upto fnExactParseGoalSpec)) fnExactParseGoalUptoCard
end Rows
end Go.Proofs.YtlnndmgfngfeiaaDoor
