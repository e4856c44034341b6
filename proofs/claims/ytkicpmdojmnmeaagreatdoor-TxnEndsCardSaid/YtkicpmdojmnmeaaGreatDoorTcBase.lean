/-
  What the contracts of clones share: values whatever, in memory whatever.
-/
import Derived.Test.YtkicpmdojmnmeaaGreatDoorProg
import Derived.Test.YtkicpmdojmnmeaaGreatDoorPsRep
import Derived.WalkKit
import Derived.Deep.AppendLies
import Derived.Deep.LoopGhost
import Derived.Lib.SliceRun
import Derived.Lib.Walk
import Derived.Lib.Hide
namespace Go.Proofs.YtkicpmdojmnmeaaGreatDoor
open Go.RowKit
set_option linter.unusedVariables false
set_option linter.unusedSimpArgs false
/-- some slice -/
def IsSl (v : Value) : Prop := ∃ a len cap, v = .slice a len cap
theorem IsSl.one {v : Value} (h : IsSl v) : v.oneCell' = true := by
  obtain ⟨a, len, cap, rfl⟩ := h
  rfl
end Go.Proofs.YtkicpmdojmnmeaaGreatDoor
