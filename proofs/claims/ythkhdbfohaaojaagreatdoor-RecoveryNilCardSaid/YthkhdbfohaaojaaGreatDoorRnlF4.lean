/-
  A closed fact of RecoveryNil's row (apart, for each takes 7 GB).
-/
import Derived.Test.YthkhdbfohaaojaaGreatDoorRows
import Derived.ProofKit
import Derived.JoinedOf
namespace Go.Proofs.YthkhdbfohaaojaaGreatDoor.recoveryNil
open Go
set_option maxRecDepth 100000 in
theorem fact_named : (Rows.recoveryNilRow.named == Tryz.pinned.checked.prog.varsNamed 3) = true := by kernel_rfl
end Go.Proofs.YthkhdbfohaaojaaGreatDoor.recoveryNil
