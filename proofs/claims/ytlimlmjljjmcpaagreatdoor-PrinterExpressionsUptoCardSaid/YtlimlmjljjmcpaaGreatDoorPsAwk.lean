/-
  What the examples of the chapter yield: awake, run by the kernel.
-/
import Derived.Test.YtlimlmjljjmcpaaGreatDoorPsOrc
set_option linter.unusedVariables false
namespace Go.Proofs.YtlimlmjljjmcpaaGreatDoor.Ax
open Go Go.RowKit
set_option maxRecDepth 100000 in
theorem awake_true : saysTrue (callQ Tryz.prog (viewOf Tryz.prog) awkO 100 (.fn 9) [] .leaf 0) = true := by kernel_rfl
theorem awake_call (w : World) (ht : TabW w) : Calls Tryz.prog 9 #[] w fun e w' => e = .returned (.bool true) ∧ Below w.heap.size w w' :=
  calls_true_q awkO_ok awake_true (fun _ => .tuple #[]) [] rl_nil w ht trivial
end Go.Proofs.YtlimlmjljjmcpaaGreatDoor.Ax
