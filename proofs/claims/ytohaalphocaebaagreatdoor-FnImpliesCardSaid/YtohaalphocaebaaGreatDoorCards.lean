/-
  DERIVED. GIVEN WITH THE SEED: THE CARDS: each row of YtohaalphocaebaaGreatDoorRows.lean that lists a variable, with what it lists TIED to the program's text (the seventh form; the later family's looks); each row that meets fmt, with fmt's text TOLD by the authors' own Lean function (tested against real Go, not proved from fmt's source: count such statements apart). THE CARD IS WHAT COUNTS. Prove the row's statement (the work); the ties are given (YtohaalphocaebaaGreatDoorTie.lean); close each card by the builder's one call (the guide's Derived/Test/ToyasCard.lean, 'card_holds'). Laid BY PROGRAM, IN A SANDBOX (cutbox-door.mjs). By AI agents, Wed Nov 11 2026. No macro, syntax, notation, axiom, sorry.
-/
import Derived.Test.YtohaalphocaebaaGreatDoorRows
import GoSem.ClaimSeven
namespace Go.Proofs.YtohaalphocaebaaGreatDoor
namespace Rows

/-- THE TIED CARD OF 'laws.FnWitness'. -/
def fnWitnessCard : Claim7 := { stood := { row := fnWitnessRow, standIns := [], harness := (true, "0343b0816abbc296e4d9ef5337d712762ee8f3ca34c3288612370ad5d4e463b6"), looks := false }, kinds := [], alts := [], laidByText := true, laidKinds := [.data, .data, .data], laidTests := true, laidLooks := .later }
def FnWitnessCardSaid : Prop := Claim7.holds Tryz.pinned (.plain (OpenSpec.ofChange fnWitnessSpec)) fnWitnessCard

/-- THE TIED CARD OF 'laws.FnEntails'. -/
def fnEntailsCard : Claim7 := { stood := { row := fnEntailsRow, standIns := [], harness := (true, "0343b0816abbc296e4d9ef5337d712762ee8f3ca34c3288612370ad5d4e463b6"), looks := false }, kinds := [], alts := [], laidByText := true, laidKinds := [.data, .data, .data], laidTests := true, laidLooks := .later }
def FnEntailsCardSaid : Prop := Claim7.holds Tryz.pinned (.plain (OpenSpec.ofChange fnEntailsSpec)) fnEntailsCard

/-- THE TIED CARD OF 'laws.FnImplies'. -/
def fnImpliesCard : Claim7 := { stood := { row := fnImpliesRow, standIns := [], harness := (true, "0343b0816abbc296e4d9ef5337d712762ee8f3ca34c3288612370ad5d4e463b6"), looks := false }, kinds := [], alts := [], laidByText := true, laidKinds := [.data, .data, .data], laidTests := true, laidLooks := .later }
def FnImpliesCardSaid : Prop := Claim7.holds Tryz.pinned (.plain (OpenSpec.ofChange fnImpliesSpec)) fnImpliesCard

/-- THE SECOND FORM's CARD OF 'laws.FnWitness'. -/
def fnWitnessUptoCard : Claim7 := { stood := { row := fnWitnessUptoRow, standIns := [], harness := (true, "0343b0816abbc296e4d9ef5337d712762ee8f3ca34c3288612370ad5d4e463b6"), looks := false }, kinds := [], alts := [], laidByText := true, laidKinds := [.data, .data, .data], laidTests := true, laidLooks := .later }
def FnWitnessUptoCardSaid : Prop := Claim7.holds Tryz.pinned (.plain (OpenSpec.upto fnWitnessSpec)) fnWitnessUptoCard

/-- THE SECOND FORM's CARD OF 'laws.FnEntails'. -/
def fnEntailsUptoCard : Claim7 := { stood := { row := fnEntailsUptoRow, standIns := [], harness := (true, "0343b0816abbc296e4d9ef5337d712762ee8f3ca34c3288612370ad5d4e463b6"), looks := false }, kinds := [], alts := [], laidByText := true, laidKinds := [.data, .data, .data], laidTests := true, laidLooks := .later }
def FnEntailsUptoCardSaid : Prop := Claim7.holds Tryz.pinned (.plain (OpenSpec.upto fnEntailsSpec)) fnEntailsUptoCard

/-- THE SECOND FORM's CARD OF 'laws.FnImplies'. -/
def fnImpliesUptoCard : Claim7 := { stood := { row := fnImpliesUptoRow, standIns := [], harness := (true, "0343b0816abbc296e4d9ef5337d712762ee8f3ca34c3288612370ad5d4e463b6"), looks := false }, kinds := [], alts := [], laidByText := true, laidKinds := [.data, .data, .data], laidTests := true, laidLooks := .later }
def FnImpliesUptoCardSaid : Prop := Claim7.holds Tryz.pinned (.plain (OpenSpec.upto fnImpliesSpec)) fnImpliesUptoCard
end Rows
end Go.Proofs.YtohaalphocaebaaGreatDoor
