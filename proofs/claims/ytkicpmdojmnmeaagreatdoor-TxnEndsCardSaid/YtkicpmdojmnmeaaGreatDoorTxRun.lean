/-
  The law's runs: an operation of each kind, and one of no kind.
-/
import Derived.Test.YtkicpmdojmnmeaaGreatDoorTxAwake
set_option linter.unusedVariables false
namespace Go.Proofs.YtkicpmdojmnmeaaGreatDoor.Ax
open Go Go.RowKit
def allO : CallR := orO insO (orO delO (orO updO (orO creO awkO)))
theorem allO_ok : CallOK Tryz.prog allO := orO_ok insO_ok (orO_ok delO_ok (orO_ok updO_ok (orO_ok creO_ok awkO_ok)))
/-- which operation, of no kind -/
noncomputable def noneO : CallR := hintO Tryz.prog (callQ Tryz.prog (viewOf Tryz.prog) allO 100) (drawR Tryz.prog (callQ Tryz.prog (viewOf Tryz.prog) allO 100)) (hintNe 35 9) 7
theorem noneO_ok : CallOK Tryz.prog noneO := hintO_ok (quick_sound allO_ok 100) (draw_sound (quick_sound allO_ok 100)) fun K env he => by
  obtain ⟨wX, c, h1, h2, ⟨n, e, hn⟩, h3⟩ := he
  exact hintNe_ok e hn
noncomputable def lastO : CallR := orO noneO allO
theorem lastO_ok : CallOK Tryz.prog lastO := orO_ok noneO_ok allO_ok
noncomputable def ends (k : RV) (orc : CallR) : Bool := saysTrue (callQ Tryz.prog (viewOf Tryz.prog) orc 100 (.fn 3) [.agg (k :: unk 1 33), .opq 34] .leaf 0)
set_option maxRecDepth 100000 in
theorem ends0 : ends (.lit (.int .i64 (.ofNat 0))) allO = true := by kernel_rfl
set_option maxRecDepth 100000 in
theorem ends1 : ends (.lit (.int .i64 (.ofNat 1))) allO = true := by kernel_rfl
set_option maxRecDepth 100000 in
theorem ends2 : ends (.lit (.int .i64 (.ofNat 2))) allO = true := by kernel_rfl
set_option maxRecDepth 100000 in
theorem ends3 : ends (.lit (.int .i64 (.ofNat 3))) allO = true := by kernel_rfl
set_option maxRecDepth 100000 in
theorem ends4 : ends (.lit (.int .i64 (.ofNat 4))) allO = true := by kernel_rfl
set_option maxRecDepth 100000 in
theorem ends5 : ends (.lit (.int .i64 (.ofNat 5))) allO = true := by kernel_rfl
set_option maxRecDepth 100000 in
theorem ends6 : ends (.lit (.int .i64 (.ofNat 6))) allO = true := by kernel_rfl
set_option maxRecDepth 100000 in
theorem ends7 : ends (.lit (.int .i64 (.ofNat 7))) allO = true := by kernel_rfl
set_option maxRecDepth 100000 in
theorem ends8 : ends (.lit (.int .i64 (.ofNat 8))) allO = true := by kernel_rfl
set_option maxRecDepth 100000 in
theorem ends9 : ends (.lit (.int .i64 (.ofNat 9))) allO = true := by kernel_rfl
set_option maxRecDepth 100000 in
theorem endsN : ends (.opq 35) lastO = true := by kernel_rfl
end Go.Proofs.YtkicpmdojmnmeaaGreatDoor.Ax
