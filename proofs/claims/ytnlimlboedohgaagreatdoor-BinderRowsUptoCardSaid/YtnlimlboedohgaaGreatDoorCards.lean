/-
  DERIVED. GIVEN WITH THE SEED: THE CARDS: each row of YtnlimlboedohgaaGreatDoorRows.lean that lists a variable, with what it lists TIED to the program's text (the seventh form; the later family's looks); each row that meets fmt, with fmt's text TOLD by the authors' own Lean function (tested against real Go, not proved from fmt's source: count such statements apart). THE CARD IS WHAT COUNTS. Prove the row's statement (the work); the ties are given (YtnlimlboedohgaaGreatDoorTie.lean); close each card by the builder's one call (the guide's Derived/Test/ToyasCard.lean, 'card_holds'). Laid BY PROGRAM, IN A SANDBOX (cutbox-door.mjs). By AI agents, Wed Nov 11 2026. No macro, syntax, notation, axiom, sorry.
-/
import Derived.Test.YtnlimlboedohgaaGreatDoorRows
import GoSem.ClaimSeven
namespace Go.Proofs.YtnlimlboedohgaaGreatDoor
namespace Rows

/-- THE TIED CARD OF 'bitemporallaw20.BinderConditions'. -/
def binderConditionsCard : Claim7 := { stood := { row := binderConditionsRow, standIns := [], harness := (true, "d44809e9118cfbf416b46fbcb1aa58f4bc130aa1f720f6d2b085f78ee343d729"), looks := true }, kinds := [], alts := [], laidByText := true, laidKinds := [.data, .data, .data, .data, .listed, .data, .pinned, .pinned], laidTests := true, laidLooks := .later }
def BinderConditionsCardSaid : Prop := Claim7.holds Tryz.pinned (.plain (OpenSpec.ofChange binderConditionsSpec)) binderConditionsCard

/-- THE TIED CARD OF 'bitemporallaw20.BinderSets'. -/
def binderSetsCard : Claim7 := { stood := { row := binderSetsRow, standIns := [], harness := (true, "d44809e9118cfbf416b46fbcb1aa58f4bc130aa1f720f6d2b085f78ee343d729"), looks := true }, kinds := [], alts := [], laidByText := true, laidKinds := [.data, .data, .data, .data, .listed, .data, .pinned, .pinned], laidTests := true, laidLooks := .later }
def BinderSetsCardSaid : Prop := Claim7.holds Tryz.pinned (.plain (OpenSpec.ofChange binderSetsSpec)) binderSetsCard

/-- THE TIED CARD OF 'bitemporallaw20.BinderRows'. -/
def binderRowsCard : Claim7 := { stood := { row := binderRowsRow, standIns := [], harness := (true, "d44809e9118cfbf416b46fbcb1aa58f4bc130aa1f720f6d2b085f78ee343d729"), looks := true }, kinds := [], alts := [], laidByText := true, laidKinds := [.data, .data, .data, .data, .listed, .data, .pinned, .pinned], laidTests := true, laidLooks := .later }
def BinderRowsCardSaid : Prop := Claim7.holds Tryz.pinned (.plain (OpenSpec.ofChange binderRowsSpec)) binderRowsCard

/-- THE TIED CARD OF 'bitemporallaw20.BinderAliases'. -/
def binderAliasesCard : Claim7 := { stood := { row := binderAliasesRow, standIns := [], harness := (true, "d44809e9118cfbf416b46fbcb1aa58f4bc130aa1f720f6d2b085f78ee343d729"), looks := true }, kinds := [], alts := [], laidByText := true, laidKinds := [.data, .data, .data, .data, .listed, .data, .pinned, .pinned], laidTests := true, laidLooks := .later }
def BinderAliasesCardSaid : Prop := Claim7.holds Tryz.pinned (.plain (OpenSpec.ofChange binderAliasesSpec)) binderAliasesCard

/-- THE SECOND FORM's CARD OF 'bitemporallaw20.BinderConditions'. -/
def binderConditionsUptoCard : Claim7 := { stood := { row := binderConditionsUptoRow, standIns := [], harness := (true, "d44809e9118cfbf416b46fbcb1aa58f4bc130aa1f720f6d2b085f78ee343d729"), looks := true }, kinds := [], alts := [], laidByText := true, laidKinds := [.data, .data, .data, .data, .listed, .data, .pinned, .pinned], laidTests := true, laidLooks := .later }
def BinderConditionsUptoCardSaid : Prop := Claim7.holds Tryz.pinned (.plain (OpenSpec.upto binderConditionsSpec)) binderConditionsUptoCard

/-- THE SECOND FORM's CARD OF 'bitemporallaw20.BinderSets'. -/
def binderSetsUptoCard : Claim7 := { stood := { row := binderSetsUptoRow, standIns := [], harness := (true, "d44809e9118cfbf416b46fbcb1aa58f4bc130aa1f720f6d2b085f78ee343d729"), looks := true }, kinds := [], alts := [], laidByText := true, laidKinds := [.data, .data, .data, .data, .listed, .data, .pinned, .pinned], laidTests := true, laidLooks := .later }
def BinderSetsUptoCardSaid : Prop := Claim7.holds Tryz.pinned (.plain (OpenSpec.upto binderSetsSpec)) binderSetsUptoCard

/-- THE SECOND FORM's CARD OF 'bitemporallaw20.BinderRows'. -/
def binderRowsUptoCard : Claim7 := { stood := { row := binderRowsUptoRow, standIns := [], harness := (true, "d44809e9118cfbf416b46fbcb1aa58f4bc130aa1f720f6d2b085f78ee343d729"), looks := true }, kinds := [], alts := [], laidByText := true, laidKinds := [.data, .data, .data, .data, .listed, .data, .pinned, .pinned], laidTests := true, laidLooks := .later }
def BinderRowsUptoCardSaid : Prop := Claim7.holds Tryz.pinned (.plain (OpenSpec.upto binderRowsSpec)) binderRowsUptoCard

/-- THE SECOND FORM's CARD OF 'bitemporallaw20.BinderAliases'. -/
def binderAliasesUptoCard : Claim7 := { stood := { row := binderAliasesUptoRow, standIns := [], harness := (true, "d44809e9118cfbf416b46fbcb1aa58f4bc130aa1f720f6d2b085f78ee343d729"), looks := true }, kinds := [], alts := [], laidByText := true, laidKinds := [.data, .data, .data, .data, .listed, .data, .pinned, .pinned], laidTests := true, laidLooks := .later }
def BinderAliasesUptoCardSaid : Prop := Claim7.holds Tryz.pinned (.plain (OpenSpec.upto binderAliasesSpec)) binderAliasesUptoCard
end Rows
end Go.Proofs.YtnlimlboedohgaaGreatDoor
