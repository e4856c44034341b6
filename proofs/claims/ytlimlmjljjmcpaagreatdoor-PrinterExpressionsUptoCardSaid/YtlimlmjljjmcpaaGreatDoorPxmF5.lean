/-
  The closed facts of PrinterExpressions's row, joined.
-/
import Derived.Test.YtlimlmjljjmcpaaGreatDoorPxmF1
import Derived.Test.YtlimlmjljjmcpaaGreatDoorPxmF2
import Derived.Test.YtlimlmjljjmcpaaGreatDoorPxmF3
import Derived.Test.YtlimlmjljjmcpaaGreatDoorPxmF4
namespace Go.Proofs.YtlimlmjljjmcpaaGreatDoor.printerExpressions
open Go
theorem andT {a b : Bool} (h : a = true) (k : b = true) : (a && b) = true := by rw [h, k]; rfl
set_option maxRecDepth 100000 in
set_option maxHeartbeats 0 in
theorem closed : joinedFacts Tryz.pinned.checked.prog 3 Tryz.f3 (Rows.OpenSpec.upto Rows.printerExpressionsSpec).bare Rows.printerExpressionsUptoRow = true := by
  unfold joinedFacts
  repeat' with_reducible apply andT
  any_goals with_reducible exact fact_inPlace
  any_goals with_reducible exact fact_unfollowed
  any_goals with_reducible exact fact_recurses
  any_goals with_reducible exact fact_named
  all_goals as_aux_lemma => kernel_rfl
end Go.Proofs.YtlimlmjljjmcpaaGreatDoor.printerExpressions
