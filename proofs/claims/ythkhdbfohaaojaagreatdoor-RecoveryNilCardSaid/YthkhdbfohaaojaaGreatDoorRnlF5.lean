/-
  The closed facts of RecoveryNil's row, joined.
-/
import Derived.Test.YthkhdbfohaaojaaGreatDoorRnlF1
import Derived.Test.YthkhdbfohaaojaaGreatDoorRnlF2
import Derived.Test.YthkhdbfohaaojaaGreatDoorRnlF3
import Derived.Test.YthkhdbfohaaojaaGreatDoorRnlF4
namespace Go.Proofs.YthkhdbfohaaojaaGreatDoor.recoveryNil
open Go
theorem andT {a b : Bool} (h : a = true) (k : b = true) : (a && b) = true := by rw [h, k]; rfl
set_option maxRecDepth 100000 in
set_option maxHeartbeats 0 in
theorem closed : joinedFacts Tryz.pinned.checked.prog 3 Tryz.f3 Rows.recoveryNilSpec Rows.recoveryNilRow = true := by
  unfold joinedFacts
  repeat' with_reducible apply andT
  any_goals with_reducible exact fact_inPlace
  any_goals with_reducible exact fact_unfollowed
  any_goals with_reducible exact fact_recurses
  any_goals with_reducible exact fact_named
  all_goals as_aux_lemma => kernel_rfl
end Go.Proofs.YthkhdbfohaaojaaGreatDoor.recoveryNil
