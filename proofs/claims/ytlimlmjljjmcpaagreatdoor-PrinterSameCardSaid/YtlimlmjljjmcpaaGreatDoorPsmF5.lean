/-
  The closed facts of PrinterSame's row, joined.
-/
import Derived.Test.YtlimlmjljjmcpaaGreatDoorPsmF1
import Derived.Test.YtlimlmjljjmcpaaGreatDoorPsmF2
import Derived.Test.YtlimlmjljjmcpaaGreatDoorPsmF3
import Derived.Test.YtlimlmjljjmcpaaGreatDoorPsmF4
namespace Go.Proofs.YtlimlmjljjmcpaaGreatDoor.printerSame
open Go
theorem andT {a b : Bool} (h : a = true) (k : b = true) : (a && b) = true := by rw [h, k]; rfl
set_option maxRecDepth 100000 in
set_option maxHeartbeats 0 in
theorem closed : joinedFacts Tryz.pinned.checked.prog 4 Tryz.f4 Rows.printerSameSpec Rows.printerSameRow = true := by
  unfold joinedFacts
  repeat' with_reducible apply andT
  any_goals with_reducible exact fact_inPlace
  any_goals with_reducible exact fact_unfollowed
  any_goals with_reducible exact fact_recurses
  any_goals with_reducible exact fact_named
  all_goals as_aux_lemma => kernel_rfl
end Go.Proofs.YtlimlmjljjmcpaaGreatDoor.printerSame
