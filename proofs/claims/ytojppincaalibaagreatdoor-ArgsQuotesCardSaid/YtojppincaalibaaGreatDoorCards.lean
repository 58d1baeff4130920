/-
  DERIVED. GIVEN WITH THE SEED: THE CARDS: each row of YtojppincaalibaaGreatDoorRows.lean that lists a variable, with what it lists TIED to the program's text (the seventh form; the later family's looks); each row that meets fmt, with fmt's text TOLD by the authors' own Lean function (tested against real Go, not proved from fmt's source: count such statements apart). THE CARD IS WHAT COUNTS. Prove the row's statement (the work); the ties are given (YtojppincaalibaaGreatDoorTie.lean); close each card by the builder's one call (the guide's Derived/Test/ToyasCard.lean, 'card_holds'). Laid BY PROGRAM, IN A SANDBOX (cutbox-door.mjs). By AI agents, Wed Nov 11 2026. No macro, syntax, notation, axiom, sorry.
-/
import Derived.Test.YtojppincaalibaaGreatDoorRows
import GoSem.ClaimSeven
namespace Go.Proofs.YtojppincaalibaaGreatDoor
namespace Rows

/-- THE TIED CARD OF 'bluebelllaw25.ArgsWords'. -/
def argsWordsCard : Claim7 := { stood := { row := argsWordsRow, standIns := [], harness := (true, "751db233e6a2e784877b2a88a8afaf535e16907ccd163c703b78b1eede6ecb7a"), looks := true }, kinds := [], alts := [], laidByText := true, laidKinds := [.data, .data, .data, .data, .sentinel, .sentinel, .pinned, .pinned], laidTests := true, laidLooks := .later }
def ArgsWordsCardSaid : Prop := Claim7.holds Tryz.pinned (.plain (OpenSpec.ofChange argsWordsSpec)) argsWordsCard

/-- THE TIED CARD OF 'bluebelllaw25.ArgsQuotes'. -/
def argsQuotesCard : Claim7 := { stood := { row := argsQuotesRow, standIns := [], harness := (true, "751db233e6a2e784877b2a88a8afaf535e16907ccd163c703b78b1eede6ecb7a"), looks := true }, kinds := [], alts := [], laidByText := true, laidKinds := [.data, .data, .data, .data, .sentinel, .sentinel, .pinned, .pinned], laidTests := true, laidLooks := .later }
def ArgsQuotesCardSaid : Prop := Claim7.holds Tryz.pinned (.plain (OpenSpec.ofChange argsQuotesSpec)) argsQuotesCard

/-- THE TIED CARD OF 'bluebelllaw25.ArgsFormats'. -/
def argsFormatsCard : Claim7 := { stood := { row := argsFormatsRow, standIns := [], harness := (true, "751db233e6a2e784877b2a88a8afaf535e16907ccd163c703b78b1eede6ecb7a"), looks := true }, kinds := [], alts := [], laidByText := true, laidKinds := [.data, .data, .data, .data, .sentinel, .sentinel, .pinned, .pinned], laidTests := true, laidLooks := .later }
def ArgsFormatsCardSaid : Prop := Claim7.holds Tryz.pinned (.plain (OpenSpec.ofChange argsFormatsSpec)) argsFormatsCard

/-- THE TIED CARD OF 'bluebelllaw25.ArgsBack'. -/
def argsBackCard : Claim7 := { stood := { row := argsBackRow, standIns := [], harness := (true, "751db233e6a2e784877b2a88a8afaf535e16907ccd163c703b78b1eede6ecb7a"), looks := true }, kinds := [], alts := [], laidByText := true, laidKinds := [.data, .data, .data, .data, .sentinel, .sentinel, .pinned, .pinned], laidTests := true, laidLooks := .later }
def ArgsBackCardSaid : Prop := Claim7.holds Tryz.pinned (.plain (OpenSpec.ofChange argsBackSpec)) argsBackCard

/-- THE SECOND FORM's CARD OF 'bluebelllaw25.ArgsWords'. -/
def argsWordsUptoCard : Claim7 := { stood := { row := argsWordsUptoRow, standIns := [], harness := (true, "751db233e6a2e784877b2a88a8afaf535e16907ccd163c703b78b1eede6ecb7a"), looks := true }, kinds := [], alts := [], laidByText := true, laidKinds := [.data, .data, .data, .data, .sentinel, .sentinel, .pinned, .pinned], laidTests := true, laidLooks := .later }
def ArgsWordsUptoCardSaid : Prop := Claim7.holds Tryz.pinned (.plain (OpenSpec.upto argsWordsSpec)) argsWordsUptoCard

/-- THE SECOND FORM's CARD OF 'bluebelllaw25.ArgsQuotes'. -/
def argsQuotesUptoCard : Claim7 := { stood := { row := argsQuotesUptoRow, standIns := [], harness := (true, "751db233e6a2e784877b2a88a8afaf535e16907ccd163c703b78b1eede6ecb7a"), looks := true }, kinds := [], alts := [], laidByText := true, laidKinds := [.data, .data, .data, .data, .sentinel, .sentinel, .pinned, .pinned], laidTests := true, laidLooks := .later }
def ArgsQuotesUptoCardSaid : Prop := Claim7.holds Tryz.pinned (.plain (OpenSpec.upto argsQuotesSpec)) argsQuotesUptoCard

/-- THE SECOND FORM's CARD OF 'bluebelllaw25.ArgsFormats'. -/
def argsFormatsUptoCard : Claim7 := { stood := { row := argsFormatsUptoRow, standIns := [], harness := (true, "751db233e6a2e784877b2a88a8afaf535e16907ccd163c703b78b1eede6ecb7a"), looks := true }, kinds := [], alts := [], laidByText := true, laidKinds := [.data, .data, .data, .data, .sentinel, .sentinel, .pinned, .pinned], laidTests := true, laidLooks := .later }
def ArgsFormatsUptoCardSaid : Prop := Claim7.holds Tryz.pinned (.plain (OpenSpec.upto argsFormatsSpec)) argsFormatsUptoCard

/-- THE SECOND FORM's CARD OF 'bluebelllaw25.ArgsBack'. -/
def argsBackUptoCard : Claim7 := { stood := { row := argsBackUptoRow, standIns := [], harness := (true, "751db233e6a2e784877b2a88a8afaf535e16907ccd163c703b78b1eede6ecb7a"), looks := true }, kinds := [], alts := [], laidByText := true, laidKinds := [.data, .data, .data, .data, .sentinel, .sentinel, .pinned, .pinned], laidTests := true, laidLooks := .later }
def ArgsBackUptoCardSaid : Prop := Claim7.holds Tryz.pinned (.plain (OpenSpec.upto argsBackSpec)) argsBackUptoCard
end Rows
end Go.Proofs.YtojppincaalibaaGreatDoor
