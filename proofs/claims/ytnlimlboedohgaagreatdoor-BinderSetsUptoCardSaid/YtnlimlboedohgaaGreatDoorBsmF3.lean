/-
  A closed fact of BinderSets's row (apart, for each takes 7 GB).
-/
import Derived.Test.YtnlimlboedohgaaGreatDoorRows
import Derived.ProofKit
import Derived.JoinedOf
namespace Go.Proofs.YtnlimlboedohgaaGreatDoor.binderSets
open Go
set_option maxRecDepth 100000 in
theorem fact_recurses : (Rows.binderSetsUptoRow.recurses == Tryz.pinned.checked.prog.recurses 4) = true := by kernel_rfl
end Go.Proofs.YtnlimlboedohgaaGreatDoor.binderSets
