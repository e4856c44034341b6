/-
  A closed fact of BinderRows's row (apart, for each takes 7 GB).
-/
import Derived.Test.YtnlimlboedohgaaGreatDoorRows
import Derived.ProofKit
import Derived.JoinedOf
namespace Go.Proofs.YtnlimlboedohgaaGreatDoor.binderRows
open Go
set_option maxRecDepth 100000 in
theorem fact_recurses : (Rows.binderRowsUptoRow.recurses == Tryz.pinned.checked.prog.recurses 5) = true := by kernel_rfl
end Go.Proofs.YtnlimlboedohgaaGreatDoor.binderRows
