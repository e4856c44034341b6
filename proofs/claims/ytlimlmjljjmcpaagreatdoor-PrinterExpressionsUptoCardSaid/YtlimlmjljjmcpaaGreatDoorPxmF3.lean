/-
  A closed fact of PrinterExpressions's row (apart, for each takes 7 GB).
-/
import Derived.Test.YtlimlmjljjmcpaaGreatDoorRows
import Derived.ProofKit
import Derived.JoinedOf
namespace Go.Proofs.YtlimlmjljjmcpaaGreatDoor.printerExpressions
open Go
set_option maxRecDepth 100000 in
theorem fact_recurses : (Rows.printerExpressionsUptoRow.recurses == Tryz.pinned.checked.prog.recurses 3) = true := by kernel_rfl
end Go.Proofs.YtlimlmjljjmcpaaGreatDoor.printerExpressions
