/-
  DERIVED. GIVEN WITH THE SEED: THE CARDS: each row of YtfeencekjcjalaaGreatDoorRows.lean that lists a variable, with what it lists TIED to the program's text (the seventh form; the later family's looks); each row that meets fmt, with fmt's text TOLD by the authors' own Lean function (tested against real Go, not proved from fmt's source: count such statements apart). THE CARD IS WHAT COUNTS. Prove the row's statement (the work); the ties are given (YtfeencekjcjalaaGreatDoorTie.lean); close each card by the builder's one call (the guide's Derived/Test/ToyasCard.lean, 'card_holds'). Laid BY PROGRAM, IN A SANDBOX (cutbox-door.mjs). By AI agents, Wed Nov 11 2026. No macro, syntax, notation, axiom, sorry.
-/
import Derived.Test.YtfeencekjcjalaaGreatDoorRows
import GoSem.ClaimSeven
namespace Go.Proofs.YtfeencekjcjalaaGreatDoor
namespace Rows

/-- THE TIED CARD OF 'laws.FnExactFormatState'. -/
def fnExactFormatStateCard : Claim7 := { stood := { row := fnExactFormatStateRow, standIns := [], harness := (true, "01bfe277029767bd3921b0bd7b221d3772e7d9851168e5ff9f9129a0888a3aba"), looks := false }, kinds := [], alts := [], laidByText := true, laidKinds := [.data, .data, .data], laidTests := true, laidLooks := .later }
def FnExactFormatStateCardSaid : Prop := Claim7.holds Tryz.pinned (.plain (OpenSpec.ofChange fnExactFormatStateSpec)) fnExactFormatStateCard

/-- THE TIED CARD OF 'laws.FnExactFormatAnswer'. -/
def fnExactFormatAnswerCard : Claim7 := { stood := { row := fnExactFormatAnswerRow, standIns := [], harness := (true, "01bfe277029767bd3921b0bd7b221d3772e7d9851168e5ff9f9129a0888a3aba"), looks := false }, kinds := [], alts := [], laidByText := true, laidKinds := [.data, .data, .data], laidTests := true, laidLooks := .later }
def FnExactFormatAnswerCardSaid : Prop := Claim7.holds Tryz.pinned (.plain (OpenSpec.ofChange fnExactFormatAnswerSpec)) fnExactFormatAnswerCard

/-- THE TIED CARD OF 'laws.FnExactWitness'. -/
def fnExactWitnessCard : Claim7 := { stood := { row := fnExactWitnessRow, standIns := [], harness := (true, "01bfe277029767bd3921b0bd7b221d3772e7d9851168e5ff9f9129a0888a3aba"), looks := false }, kinds := [], alts := [], laidByText := true, laidKinds := [.data, .data, .data], laidTests := true, laidLooks := .later }
def FnExactWitnessCardSaid : Prop := Claim7.holds Tryz.pinned (.plain (OpenSpec.ofChange fnExactWitnessSpec)) fnExactWitnessCard

/-- THE SECOND FORM's CARD OF 'laws.FnExactFormatState'. -/
def fnExactFormatStateUptoCard : Claim7 := { stood := { row := fnExactFormatStateUptoRow, standIns := [], harness := (true, "01bfe277029767bd3921b0bd7b221d3772e7d9851168e5ff9f9129a0888a3aba"), looks := false }, kinds := [], alts := [], laidByText := true, laidKinds := [.data, .data, .data], laidTests := true, laidLooks := .later }
def FnExactFormatStateUptoCardSaid : Prop := Claim7.holds Tryz.pinned (.plain (OpenSpec.upto fnExactFormatStateSpec)) fnExactFormatStateUptoCard

/-- THE SECOND FORM's CARD OF 'laws.FnExactFormatAnswer'. -/
def fnExactFormatAnswerUptoCard : Claim7 := { stood := { row := fnExactFormatAnswerUptoRow, standIns := [], harness := (true, "01bfe277029767bd3921b0bd7b221d3772e7d9851168e5ff9f9129a0888a3aba"), looks := false }, kinds := [], alts := [], laidByText := true, laidKinds := [.data, .data, .data], laidTests := true, laidLooks := .later }
def FnExactFormatAnswerUptoCardSaid : Prop := Claim7.holds Tryz.pinned (.plain (OpenSpec.upto fnExactFormatAnswerSpec)) fnExactFormatAnswerUptoCard

/-- THE SECOND FORM's CARD OF 'laws.FnExactWitness'. -/
def fnExactWitnessUptoCard : Claim7 := { stood := { row := fnExactWitnessUptoRow, standIns := [], harness := (true, "01bfe277029767bd3921b0bd7b221d3772e7d9851168e5ff9f9129a0888a3aba"), looks := false }, kinds := [], alts := [], laidByText := true, laidKinds := [.data, .data, .data], laidTests := true, laidLooks := .later }
def FnExactWitnessUptoCardSaid : Prop := Claim7.holds Tryz.pinned (.plain (OpenSpec.upto fnExactWitnessSpec)) fnExactWitnessUptoCard
end Rows
end Go.Proofs.YtfeencekjcjalaaGreatDoor
