/-
  DERIVED. GIVEN WITH THE SEED: THE CARDS: each row of YthkhdbfohaaojaaGreatDoorRows.lean that lists a variable, with what it lists TIED to the program's text (the seventh form; the later family's looks); each row that meets fmt, with fmt's text TOLD by the authors' own Lean function (tested against real Go, not proved from fmt's source: count such statements apart). THE CARD IS WHAT COUNTS. Prove the row's statement (the work); the ties are given (YthkhdbfohaaojaaGreatDoorTie.lean); close each card by the builder's one call (the guide's Derived/Test/ToyasCard.lean, 'card_holds'). Laid BY PROGRAM, IN A SANDBOX (cutbox-door.mjs). By AI agents, Wed Nov 11 2026. No macro, syntax, notation, axiom, sorry.
-/
import Derived.Test.YthkhdbfohaaojaaGreatDoorRows
import GoSem.ClaimSeven
namespace Go.Proofs.YthkhdbfohaaojaaGreatDoor
namespace Rows

/-- THE TIED CARD OF 'bitemporallaw40.RecoveryNil'. -/
def recoveryNilCard : Claim7 := { stood := { row := recoveryNilRow, standIns := [], harness := (true, "b5288c94b7b1c92a2c8160176809376a2a36dd4beffeb589fdb3844cb9d58df3"), looks := true }, kinds := [], alts := [], laidByText := true, laidKinds := [.data, .data, .data, .data, .pinned], laidTests := true, laidLooks := .later }
def RecoveryNilCardSaid : Prop := Claim7.holds Tryz.pinned (.plain (OpenSpec.ofChange recoveryNilSpec)) recoveryNilCard

/-- THE SECOND FORM's CARD OF 'bitemporallaw40.RecoveryNil'. -/
def recoveryNilUptoCard : Claim7 := { stood := { row := recoveryNilUptoRow, standIns := [], harness := (true, "b5288c94b7b1c92a2c8160176809376a2a36dd4beffeb589fdb3844cb9d58df3"), looks := true }, kinds := [], alts := [], laidByText := true, laidKinds := [.data, .data, .data, .data, .pinned], laidTests := true, laidLooks := .later }
def RecoveryNilUptoCardSaid : Prop := Claim7.holds Tryz.pinned (.plain (OpenSpec.upto recoveryNilSpec)) recoveryNilUptoCard
end Rows
end Go.Proofs.YthkhdbfohaaojaaGreatDoor
