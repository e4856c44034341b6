/-
  A closed fact of TxnEnds's row (apart, for each takes 7 GB).
-/
import Derived.Test.YtkicpmdojmnmeaaGreatDoorRows
import Derived.ProofKit
import Derived.JoinedOf
namespace Go.Proofs.YtkicpmdojmnmeaaGreatDoor.txnEnds
open Go
set_option maxRecDepth 100000 in
theorem fact_recurses : (Rows.txnEndsRow.recurses == Tryz.pinned.checked.prog.recurses 3) = true := by kernel_rfl
end Go.Proofs.YtkicpmdojmnmeaaGreatDoor.txnEnds
