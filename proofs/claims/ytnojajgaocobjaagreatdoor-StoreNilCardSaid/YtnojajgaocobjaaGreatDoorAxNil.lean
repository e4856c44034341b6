/-
  StoreNil's run over a commit, a name and a time that are not known.
-/
import Derived.Test.YtnojajgaocobjaaGreatDoorAxLaw
import Derived.KernelRfl
import Derived.Test.YtnojajgaocobjaaGreatDoorProg
set_option linter.unusedVariables false
namespace Go.Proofs.YtnojajgaocobjaaGreatDoor.Ax
open Go Go.RowKit
set_option maxRecDepth 100000 in
theorem nil_true : saysTrue (callR Tryz.prog noOrc (drawR Tryz.prog) 100 3 [.agg (unk 0 10), .opq 10, .opq 11] .leaf 0) = true := by kernel_rfl
end Go.Proofs.YtnojajgaocobjaaGreatDoor.Ax
