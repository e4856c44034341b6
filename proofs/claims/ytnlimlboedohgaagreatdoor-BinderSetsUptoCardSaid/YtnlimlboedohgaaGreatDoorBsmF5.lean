/-
  The closed facts of BinderSets's row, joined.
-/
import Derived.Test.YtnlimlboedohgaaGreatDoorBsmF1
import Derived.Test.YtnlimlboedohgaaGreatDoorBsmF2
import Derived.Test.YtnlimlboedohgaaGreatDoorBsmF3
import Derived.Test.YtnlimlboedohgaaGreatDoorBsmF4
namespace Go.Proofs.YtnlimlboedohgaaGreatDoor.binderSets
open Go
theorem andT {a b : Bool} (h : a = true) (k : b = true) : (a && b) = true := by rw [h, k]; rfl
set_option maxRecDepth 100000 in
set_option maxHeartbeats 0 in
theorem closed : joinedFacts Tryz.pinned.checked.prog 4 Tryz.f4 (Rows.OpenSpec.upto Rows.binderSetsSpec).bare Rows.binderSetsUptoRow = true := by
  unfold joinedFacts
  repeat' with_reducible apply andT
  any_goals with_reducible exact fact_inPlace
  any_goals with_reducible exact fact_unfollowed
  any_goals with_reducible exact fact_recurses
  any_goals with_reducible exact fact_named
  all_goals as_aux_lemma => kernel_rfl
end Go.Proofs.YtnlimlboedohgaaGreatDoor.binderSets
