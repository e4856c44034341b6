/-
  DERIVED. GIVEN WITH THE SEED: THE CARDS: each row of YtlimlmjljjmcpaaGreatDoorRows.lean that lists a variable, with what it lists TIED to the program's text (the seventh form; the later family's looks); each row that meets fmt, with fmt's text TOLD by the authors' own Lean function (tested against real Go, not proved from fmt's source: count such statements apart). THE CARD IS WHAT COUNTS. Prove the row's statement (the work); the ties are given (YtlimlmjljjmcpaaGreatDoorTie.lean); close each card by the builder's one call (the guide's Derived/Test/ToyasCard.lean, 'card_holds'). Laid BY PROGRAM, IN A SANDBOX (cutbox-door.mjs). By AI agents, Wed Nov 11 2026. No macro, syntax, notation, axiom, sorry.
-/
import Derived.Test.YtlimlmjljjmcpaaGreatDoorRows
import GoSem.ClaimSeven
namespace Go.Proofs.YtlimlmjljjmcpaaGreatDoor
namespace Rows

/-- THE TIED CARD OF 'bitemporallaw19.PrinterExpressions'. -/
def printerExpressionsCard : Claim7 := { stood := { row := printerExpressionsRow, standIns := [], harness := (true, "297a48b778f3249619e400f8eb4362e1d07b90767249d7c9c2704f18435ede41"), looks := true }, kinds := [], alts := [], laidByText := true, laidKinds := [.data, .data, .data, .data, .listed, .data, .pinned, .pinned], laidTests := true, laidLooks := .later }
def PrinterExpressionsCardSaid : Prop := Claim7.holds Tryz.pinned (.plain (OpenSpec.ofChange printerExpressionsSpec)) printerExpressionsCard

/-- THE TIED CARD OF 'bitemporallaw19.PrinterSame'. -/
def printerSameCard : Claim7 := { stood := { row := printerSameRow, standIns := [], harness := (true, "297a48b778f3249619e400f8eb4362e1d07b90767249d7c9c2704f18435ede41"), looks := true }, kinds := [], alts := [], laidByText := true, laidKinds := [.data, .data, .data, .data, .listed, .data, .pinned, .pinned], laidTests := true, laidLooks := .later }
def PrinterSameCardSaid : Prop := Claim7.holds Tryz.pinned (.plain (OpenSpec.ofChange printerSameSpec)) printerSameCard

/-- THE TIED CARD OF 'bitemporallaw19.PrinterCanonical'. -/
def printerCanonicalCard : Claim7 := { stood := { row := printerCanonicalRow, standIns := [], harness := (true, "297a48b778f3249619e400f8eb4362e1d07b90767249d7c9c2704f18435ede41"), looks := true }, kinds := [], alts := [], laidByText := true, laidKinds := [.data, .data, .data, .data, .listed, .data, .pinned, .pinned], laidTests := true, laidLooks := .later }
def PrinterCanonicalCardSaid : Prop := Claim7.holds Tryz.pinned (.plain (OpenSpec.ofChange printerCanonicalSpec)) printerCanonicalCard

/-- THE TIED CARD OF 'bitemporallaw19.PrinterBack'. -/
def printerBackCard : Claim7 := { stood := { row := printerBackRow, standIns := [], harness := (true, "297a48b778f3249619e400f8eb4362e1d07b90767249d7c9c2704f18435ede41"), looks := true }, kinds := [], alts := [], laidByText := true, laidKinds := [.data, .data, .data, .data, .listed, .data, .pinned, .pinned], laidTests := true, laidLooks := .later }
def PrinterBackCardSaid : Prop := Claim7.holds Tryz.pinned (.plain (OpenSpec.ofChange printerBackSpec)) printerBackCard

/-- THE TIED CARD OF 'bitemporallaw19.PrinterTables'. -/
def printerTablesCard : Claim7 := { stood := { row := printerTablesRow, standIns := [], harness := (true, "297a48b778f3249619e400f8eb4362e1d07b90767249d7c9c2704f18435ede41"), looks := true }, kinds := [], alts := [], laidByText := true, laidKinds := [.data, .data, .data, .data, .listed, .data, .pinned, .pinned], laidTests := true, laidLooks := .later }
def PrinterTablesCardSaid : Prop := Claim7.holds Tryz.pinned (.plain (OpenSpec.ofChange printerTablesSpec)) printerTablesCard

/-- THE SECOND FORM's CARD OF 'bitemporallaw19.PrinterExpressions'. -/
def printerExpressionsUptoCard : Claim7 := { stood := { row := printerExpressionsUptoRow, standIns := [], harness := (true, "297a48b778f3249619e400f8eb4362e1d07b90767249d7c9c2704f18435ede41"), looks := true }, kinds := [], alts := [], laidByText := true, laidKinds := [.data, .data, .data, .data, .listed, .data, .pinned, .pinned], laidTests := true, laidLooks := .later }
def PrinterExpressionsUptoCardSaid : Prop := Claim7.holds Tryz.pinned (.plain (OpenSpec.upto printerExpressionsSpec)) printerExpressionsUptoCard

/-- THE SECOND FORM's CARD OF 'bitemporallaw19.PrinterSame'. -/
def printerSameUptoCard : Claim7 := { stood := { row := printerSameUptoRow, standIns := [], harness := (true, "297a48b778f3249619e400f8eb4362e1d07b90767249d7c9c2704f18435ede41"), looks := true }, kinds := [], alts := [], laidByText := true, laidKinds := [.data, .data, .data, .data, .listed, .data, .pinned, .pinned], laidTests := true, laidLooks := .later }
def PrinterSameUptoCardSaid : Prop := Claim7.holds Tryz.pinned (.plain (OpenSpec.upto printerSameSpec)) printerSameUptoCard

/-- THE SECOND FORM's CARD OF 'bitemporallaw19.PrinterCanonical'. -/
def printerCanonicalUptoCard : Claim7 := { stood := { row := printerCanonicalUptoRow, standIns := [], harness := (true, "297a48b778f3249619e400f8eb4362e1d07b90767249d7c9c2704f18435ede41"), looks := true }, kinds := [], alts := [], laidByText := true, laidKinds := [.data, .data, .data, .data, .listed, .data, .pinned, .pinned], laidTests := true, laidLooks := .later }
def PrinterCanonicalUptoCardSaid : Prop := Claim7.holds Tryz.pinned (.plain (OpenSpec.upto printerCanonicalSpec)) printerCanonicalUptoCard

/-- THE SECOND FORM's CARD OF 'bitemporallaw19.PrinterBack'. -/
def printerBackUptoCard : Claim7 := { stood := { row := printerBackUptoRow, standIns := [], harness := (true, "297a48b778f3249619e400f8eb4362e1d07b90767249d7c9c2704f18435ede41"), looks := true }, kinds := [], alts := [], laidByText := true, laidKinds := [.data, .data, .data, .data, .listed, .data, .pinned, .pinned], laidTests := true, laidLooks := .later }
def PrinterBackUptoCardSaid : Prop := Claim7.holds Tryz.pinned (.plain (OpenSpec.upto printerBackSpec)) printerBackUptoCard

/-- THE SECOND FORM's CARD OF 'bitemporallaw19.PrinterTables'. -/
def printerTablesUptoCard : Claim7 := { stood := { row := printerTablesUptoRow, standIns := [], harness := (true, "297a48b778f3249619e400f8eb4362e1d07b90767249d7c9c2704f18435ede41"), looks := true }, kinds := [], alts := [], laidByText := true, laidKinds := [.data, .data, .data, .data, .listed, .data, .pinned, .pinned], laidTests := true, laidLooks := .later }
def PrinterTablesUptoCardSaid : Prop := Claim7.holds Tryz.pinned (.plain (OpenSpec.upto printerTablesSpec)) printerTablesUptoCard
end Rows
end Go.Proofs.YtlimlmjljjmcpaaGreatDoor
