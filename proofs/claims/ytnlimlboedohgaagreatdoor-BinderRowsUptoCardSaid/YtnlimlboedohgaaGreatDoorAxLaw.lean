/-
  Laws whose arguments are unknown: what a run of the seat's own program yields, in whatever world.
-/
import Derived.Test.YtnlimlboedohgaaGreatDoorAxDrawE
set_option linter.unusedVariables false
namespace Go.Proofs.YtnlimlboedohgaaGreatDoor.Ax
open Go Go.RowKit
theorem rl_nil {g : Gm} {env : Nat -> Value} : RL g env [] [] := ⟨rfl, fun i h => by cases h⟩
/-- the run ended with true -/
def saysTrue : Option (RE × Hp × Nat) -> Bool
 | some (.ret (.lit (.bool b)), _, _) => b
 | _ => false
theorem of_saysTrue {x : Option (RE × Hp × Nat)} (h : saysTrue x = true) : ∃ h' nx', x = some (.ret (.lit (.bool true)), h', nx') := by
 unfold saysTrue at h
 split at h
 ·subst h
  exact ⟨_, _, rfl⟩
 ·cases h
end Go.Proofs.YtnlimlboedohgaaGreatDoor.Ax
