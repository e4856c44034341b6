/-
  DERIVED. GIVEN WITH THE SEED: THE CARDS: each row of YtkicpmdojmnmeaaGreatDoorRows.lean that lists a variable, with what it lists TIED to the program's text (the seventh form; the later family's looks); each row that meets fmt, with fmt's text TOLD by the authors' own Lean function (tested against real Go, not proved from fmt's source: count such statements apart). THE CARD IS WHAT COUNTS. Prove the row's statement (the work); the ties are given (YtkicpmdojmnmeaaGreatDoorTie.lean); close each card by the builder's one call (the guide's Derived/Test/ToyasCard.lean, 'card_holds'). Laid BY PROGRAM, IN A SANDBOX (cutbox-door.mjs). By AI agents, Wed Nov 11 2026. No macro, syntax, notation, axiom, sorry.
-/
import Derived.Test.YtkicpmdojmnmeaaGreatDoorRows
import GoSem.ClaimSeven
namespace Go.Proofs.YtkicpmdojmnmeaaGreatDoor
namespace Rows

/-- THE TIED CARD OF 'bitemporallaw47.TxnEnds'. -/
def txnEndsCard : Claim7 := { stood := { row := txnEndsRow, standIns := [], harness := (true, "bc03e096c54c0545073f21018afd70245a647f5226a01f97cb3029adcd1e40fe"), looks := true }, kinds := [], alts := [], laidByText := true, laidKinds := [.data, .data, .data, .data, .pinned], laidTests := true, laidLooks := .later }
def TxnEndsCardSaid : Prop := Claim7.holds Tryz.pinned (.plain (OpenSpec.ofChange txnEndsSpec)) txnEndsCard

/-- THE SECOND FORM's CARD OF 'bitemporallaw47.TxnEnds'. -/
def txnEndsUptoCard : Claim7 := { stood := { row := txnEndsUptoRow, standIns := [], harness := (true, "bc03e096c54c0545073f21018afd70245a647f5226a01f97cb3029adcd1e40fe"), looks := true }, kinds := [], alts := [], laidByText := true, laidKinds := [.data, .data, .data, .data, .pinned], laidTests := true, laidLooks := .later }
def TxnEndsUptoCardSaid : Prop := Claim7.holds Tryz.pinned (.plain (OpenSpec.upto txnEndsSpec)) txnEndsUptoCard
end Rows
end Go.Proofs.YtkicpmdojmnmeaaGreatDoor
