/-
  A closed fact of BinderConditions's row (apart, for each takes 7 GB).
-/
import Derived.Test.YtnlimlboedohgaaGreatDoorRows
import Derived.ProofKit
import Derived.JoinedOf
namespace Go.Proofs.YtnlimlboedohgaaGreatDoor.binderConditions
open Go
set_option maxRecDepth 100000 in
theorem fact_named : (Rows.binderConditionsUptoRow.named == Tryz.pinned.checked.prog.varsNamed 3) = true := by kernel_rfl
end Go.Proofs.YtnlimlboedohgaaGreatDoor.binderConditions
