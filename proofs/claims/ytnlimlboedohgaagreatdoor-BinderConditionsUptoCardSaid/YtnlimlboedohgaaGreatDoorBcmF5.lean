/-
  The closed facts of BinderConditions's row, joined.
-/
import Derived.Test.YtnlimlboedohgaaGreatDoorBcmF1
import Derived.Test.YtnlimlboedohgaaGreatDoorBcmF2
import Derived.Test.YtnlimlboedohgaaGreatDoorBcmF3
import Derived.Test.YtnlimlboedohgaaGreatDoorBcmF4
namespace Go.Proofs.YtnlimlboedohgaaGreatDoor.binderConditions
open Go
theorem andT {a b : Bool} (h : a = true) (k : b = true) : (a && b) = true := by rw [h, k]; rfl
set_option maxRecDepth 100000 in
set_option maxHeartbeats 0 in
theorem closed : joinedFacts Tryz.pinned.checked.prog 3 Tryz.f3 (Rows.OpenSpec.upto Rows.binderConditionsSpec).bare Rows.binderConditionsUptoRow = true := by
  unfold joinedFacts
  repeat' with_reducible apply andT
  any_goals with_reducible exact fact_inPlace
  any_goals with_reducible exact fact_unfollowed
  any_goals with_reducible exact fact_recurses
  any_goals with_reducible exact fact_named
  all_goals as_aux_lemma => kernel_rfl
end Go.Proofs.YtnlimlboedohgaaGreatDoor.binderConditions
