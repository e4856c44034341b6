/-
  A closed fact of PrinterSame's row (apart, for each takes 7 GB).
-/
import Derived.Test.YtlimlmjljjmcpaaGreatDoorRows
import Derived.ProofKit
import Derived.JoinedOf
namespace Go.Proofs.YtlimlmjljjmcpaaGreatDoor.printerSame
open Go
set_option maxRecDepth 100000 in
theorem fact_unfollowed : (Rows.printerSameRow.unfollowed == Tryz.pinned.checked.prog.unfollowed 4) = true := by kernel_rfl
end Go.Proofs.YtlimlmjljjmcpaaGreatDoor.printerSame
