/-
  DERIVED. GIVEN WITH THE SEED: THE CARDS: each row of YtlnndmgfngfeiaaGreatDoorRows.lean that lists a variable, with what it lists TIED to the program's text (the seventh form; the later family's looks); each row that meets fmt, with fmt's text TOLD by the authors' own Lean function (tested against real Go, not proved from fmt's source: count such statements apart). THE CARD IS WHAT COUNTS. Prove the row's statement (the work); the ties are given (YtlnndmgfngfeiaaGreatDoorTie.lean); close each card by the builder's one call (the guide's Derived/Test/ToyasCard.lean, 'card_holds'). Laid BY PROGRAM, IN A SANDBOX (cutbox-door.mjs). By AI agents, Wed Nov 11 2026. No macro, syntax, notation, axiom, sorry.
-/
import Derived.Test.YtlnndmgfngfeiaaGreatDoorRows
import GoSem.ClaimSeven
namespace Go.Proofs.YtlnndmgfngfeiaaGreatDoor
namespace Rows

/-- THE TIED CARD OF 'laws.FnExactFormatCode'. -/
def fnExactFormatCodeCard : Claim7 := { stood := { row := fnExactFormatCodeRow, standIns := [], harness := (true, "826d101d869aef005ecfec82ab31583cee6707f018b6d3cfb2cfe069225e8827"), looks := true }, kinds := [], alts := [], laidByText := true, laidKinds := [.data, .data, .data], laidTests := true, laidLooks := .later }
def FnExactFormatCodeCardSaid : Prop := Claim7.holds Tryz.pinned (.plain (OpenSpec.ofChange fnExactFormatCodeSpec)) fnExactFormatCodeCard

/-- THE TIED CARD OF 'laws.FnCompose'. -/
def fnComposeCard : Claim7 := { stood := { row := fnComposeRow, standIns := [], harness := (true, "826d101d869aef005ecfec82ab31583cee6707f018b6d3cfb2cfe069225e8827"), looks := true }, kinds := [], alts := [], laidByText := true, laidKinds := [.data, .data, .data, .sentinel, .sentinel], laidTests := true, laidLooks := .later }
def FnComposeCardSaid : Prop := Claim7.holds Tryz.pinned (.plain (OpenSpec.ofChange fnComposeSpec)) fnComposeCard

/-- THE TIED CARD OF 'laws.FnExactParseFact'. -/
def fnExactParseFactCard : Claim7 := { stood := { row := fnExactParseFactRow, standIns := [], harness := (true, "826d101d869aef005ecfec82ab31583cee6707f018b6d3cfb2cfe069225e8827"), looks := true }, kinds := [], alts := [], laidByText := true, laidKinds := [.data, .data, .data, .sentinel, .sentinel], laidTests := true, laidLooks := .later }
def FnExactParseFactCardSaid : Prop := Claim7.holds Tryz.pinned (.plain (OpenSpec.ofChange fnExactParseFactSpec)) fnExactParseFactCard

/-- THE TIED CARD OF 'laws.FnCompile'. -/
def fnCompileCard : Claim7 := { stood := { row := fnCompileRow, standIns := [], harness := (true, "826d101d869aef005ecfec82ab31583cee6707f018b6d3cfb2cfe069225e8827"), looks := true }, kinds := [], alts := [], laidByText := true, laidKinds := [.data, .data, .data], laidTests := true, laidLooks := .later }
def FnCompileCardSaid : Prop := Claim7.holds Tryz.pinned (.plain (OpenSpec.ofChange fnCompileSpec)) fnCompileCard

/-- THE TIED CARD OF 'laws.FnExactParseProgram'. -/
def fnExactParseProgramCard : Claim7 := { stood := { row := fnExactParseProgramRow, standIns := [], harness := (true, "826d101d869aef005ecfec82ab31583cee6707f018b6d3cfb2cfe069225e8827"), looks := true }, kinds := [], alts := [], laidByText := true, laidKinds := [.data, .data, .data, .sentinel, .sentinel], laidTests := true, laidLooks := .later }
def FnExactParseProgramCardSaid : Prop := Claim7.holds Tryz.pinned (.plain (OpenSpec.ofChange fnExactParseProgramSpec)) fnExactParseProgramCard

/-- THE TIED CARD OF 'laws.FnProgramText'. -/
def fnProgramTextCard : Claim7 := { stood := { row := fnProgramTextRow, standIns := [], harness := (true, "826d101d869aef005ecfec82ab31583cee6707f018b6d3cfb2cfe069225e8827"), looks := true }, kinds := [], alts := [], laidByText := true, laidKinds := [.data, .data, .data, .sentinel, .sentinel], laidTests := true, laidLooks := .later }
def FnProgramTextCardSaid : Prop := Claim7.holds Tryz.pinned (.plain (OpenSpec.ofChange fnProgramTextSpec)) fnProgramTextCard

/-- THE TIED CARD OF 'laws.FnExactNumberProgram'. -/
def fnExactNumberProgramCard : Claim7 := { stood := { row := fnExactNumberProgramRow, standIns := [], harness := (true, "826d101d869aef005ecfec82ab31583cee6707f018b6d3cfb2cfe069225e8827"), looks := true }, kinds := [], alts := [], laidByText := true, laidKinds := [.data, .data, .data, .sentinel, .sentinel], laidTests := true, laidLooks := .later }
def FnExactNumberProgramCardSaid : Prop := Claim7.holds Tryz.pinned (.plain (OpenSpec.ofChange fnExactNumberProgramSpec)) fnExactNumberProgramCard

/-- THE SECOND FORM's CARD OF 'laws.FnExactFormatCode'. -/
def fnExactFormatCodeUptoCard : Claim7 := { stood := { row := fnExactFormatCodeUptoRow, standIns := [], harness := (true, "826d101d869aef005ecfec82ab31583cee6707f018b6d3cfb2cfe069225e8827"), looks := true }, kinds := [], alts := [], laidByText := true, laidKinds := [.data, .data, .data], laidTests := true, laidLooks := .later }
def FnExactFormatCodeUptoCardSaid : Prop := Claim7.holds Tryz.pinned (.plain (OpenSpec.upto fnExactFormatCodeSpec)) fnExactFormatCodeUptoCard

/-- THE SECOND FORM's CARD OF 'laws.FnCompose'. -/
def fnComposeUptoCard : Claim7 := { stood := { row := fnComposeUptoRow, standIns := [], harness := (true, "826d101d869aef005ecfec82ab31583cee6707f018b6d3cfb2cfe069225e8827"), looks := true }, kinds := [], alts := [], laidByText := true, laidKinds := [.data, .data, .data, .sentinel, .sentinel], laidTests := true, laidLooks := .later }
def FnComposeUptoCardSaid : Prop := Claim7.holds Tryz.pinned (.plain (OpenSpec.upto fnComposeSpec)) fnComposeUptoCard

/-- THE SECOND FORM's CARD OF 'laws.FnExactParseFact'. -/
def fnExactParseFactUptoCard : Claim7 := { stood := { row := fnExactParseFactUptoRow, standIns := [], harness := (true, "826d101d869aef005ecfec82ab31583cee6707f018b6d3cfb2cfe069225e8827"), looks := true }, kinds := [], alts := [], laidByText := true, laidKinds := [.data, .data, .data, .sentinel, .sentinel], laidTests := true, laidLooks := .later }
def FnExactParseFactUptoCardSaid : Prop := Claim7.holds Tryz.pinned (.plain (OpenSpec.upto fnExactParseFactSpec)) fnExactParseFactUptoCard

/-- THE SECOND FORM's CARD OF 'laws.FnCompile'. -/
def fnCompileUptoCard : Claim7 := { stood := { row := fnCompileUptoRow, standIns := [], harness := (true, "826d101d869aef005ecfec82ab31583cee6707f018b6d3cfb2cfe069225e8827"), looks := true }, kinds := [], alts := [], laidByText := true, laidKinds := [.data, .data, .data], laidTests := true, laidLooks := .later }
def FnCompileUptoCardSaid : Prop := Claim7.holds Tryz.pinned (.plain (OpenSpec.upto fnCompileSpec)) fnCompileUptoCard

/-- THE SECOND FORM's CARD OF 'laws.FnExactParseProgram'. -/
def fnExactParseProgramUptoCard : Claim7 := { stood := { row := fnExactParseProgramUptoRow, standIns := [], harness := (true, "826d101d869aef005ecfec82ab31583cee6707f018b6d3cfb2cfe069225e8827"), looks := true }, kinds := [], alts := [], laidByText := true, laidKinds := [.data, .data, .data, .sentinel, .sentinel], laidTests := true, laidLooks := .later }
def FnExactParseProgramUptoCardSaid : Prop := Claim7.holds Tryz.pinned (.plain (OpenSpec.upto fnExactParseProgramSpec)) fnExactParseProgramUptoCard

/-- THE SECOND FORM's CARD OF 'laws.FnProgramText'. -/
def fnProgramTextUptoCard : Claim7 := { stood := { row := fnProgramTextUptoRow, standIns := [], harness := (true, "826d101d869aef005ecfec82ab31583cee6707f018b6d3cfb2cfe069225e8827"), looks := true }, kinds := [], alts := [], laidByText := true, laidKinds := [.data, .data, .data, .sentinel, .sentinel], laidTests := true, laidLooks := .later }
def FnProgramTextUptoCardSaid : Prop := Claim7.holds Tryz.pinned (.plain (OpenSpec.upto fnProgramTextSpec)) fnProgramTextUptoCard

/-- THE SECOND FORM's CARD OF 'laws.FnExactNumberProgram'. -/
def fnExactNumberProgramUptoCard : Claim7 := { stood := { row := fnExactNumberProgramUptoRow, standIns := [], harness := (true, "826d101d869aef005ecfec82ab31583cee6707f018b6d3cfb2cfe069225e8827"), looks := true }, kinds := [], alts := [], laidByText := true, laidKinds := [.data, .data, .data, .sentinel, .sentinel], laidTests := true, laidLooks := .later }
def FnExactNumberProgramUptoCardSaid : Prop := Claim7.holds Tryz.pinned (.plain (OpenSpec.upto fnExactNumberProgramSpec)) fnExactNumberProgramUptoCard
end Rows
end Go.Proofs.YtlnndmgfngfeiaaGreatDoor
