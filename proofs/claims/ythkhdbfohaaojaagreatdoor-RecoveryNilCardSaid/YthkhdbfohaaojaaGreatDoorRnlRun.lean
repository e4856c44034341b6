/-
  RecoveryNil's run over arguments that are not known.
-/
import Derived.Test.YthkhdbfohaaojaaGreatDoorRnlSrtLaw
import Derived.KernelRfl
import Derived.Test.YthkhdbfohaaojaaGreatDoorProg
set_option linter.unusedVariables false
namespace Go.Proofs.YthkhdbfohaaojaaGreatDoor.Ax
open Go Go.RowKit
set_option maxRecDepth 100000 in
theorem nil_true : saysTrue (callQ Tryz.prog (viewOf Tryz.prog) (sortO 254 358 9) 100 (.fn 3) [.agg (unk 0 10)] .leaf 0) = true := by kernel_rfl
end Go.Proofs.YthkhdbfohaaojaaGreatDoor.Ax
