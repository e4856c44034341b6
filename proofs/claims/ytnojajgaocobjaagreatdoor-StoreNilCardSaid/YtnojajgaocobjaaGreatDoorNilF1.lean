/-
  A closed fact of StoreNil's row (apart, for each takes 7 GB).
-/
import Derived.Test.YtnojajgaocobjaaGreatDoorRows
import Derived.ProofKit
import Derived.JoinedOf
namespace Go.Proofs.YtnojajgaocobjaaGreatDoor.storeNil
open Go
set_option maxRecDepth 100000 in
theorem fact_inPlace : (Rows.storeNilRow.inPlace == Tryz.pinned.checked.prog.inPlace 3) = true := by kernel_rfl
end Go.Proofs.YtnojajgaocobjaaGreatDoor.storeNil
