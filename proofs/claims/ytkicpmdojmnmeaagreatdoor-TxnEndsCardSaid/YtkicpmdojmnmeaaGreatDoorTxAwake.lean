/-
  The law's runs: operations of each kind; what the examples of the chapter yield.
-/
import Derived.Test.YtkicpmdojmnmeaaGreatDoorTxLaw
import Derived.KernelRfl
set_option linter.unusedVariables false
namespace Go.Proofs.YtkicpmdojmnmeaaGreatDoor.Ax
open Go Go.RowKit
set_option maxRecDepth 100000 in
theorem awake_true : saysTrue (callQ Tryz.prog (viewOf Tryz.prog) noOrc 100 (.fn 12) [] .leaf 0) = true := by kernel_rfl
def awkO : CallR := factO 12 [] (.lit (.bool true))
theorem awkO_ok : CallOK Tryz.prog awkO := factT_ok (noOrc_ok Tryz.prog) awake_true rfl
end Go.Proofs.YtkicpmdojmnmeaaGreatDoor.Ax
