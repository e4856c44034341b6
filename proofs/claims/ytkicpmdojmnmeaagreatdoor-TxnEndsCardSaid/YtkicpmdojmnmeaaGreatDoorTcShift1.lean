/-
  expr.Shift's closure: some expression; the old memory stays as it was.
-/
import Derived.Test.YtkicpmdojmnmeaaGreatDoorTcCloneE
namespace Go.Proofs.YtkicpmdojmnmeaaGreatDoor
open Go.RowKit Go.Proofs.YtkicpmdojmnmeaaGreatDoor.Ps
set_option linter.unusedVariables false
set_option linter.unusedSimpArgs false
set_option maxHeartbeats 4000000 in
set_option maxRecDepth 100000 in
theorem shift1_call (op i kd vi : Int) (s nm : ByteArray) (a : Option Addr) (n m : Nat) (p : Nat) (z : Int) (w : World) (hp : w.cell? ⟨p, 0, none⟩ = some (.int .i64 z)) (hpl : p < w.heap.size) :
    Calls Tryz.prog 271 #[.agg #[.int .i64 op, .int .i64 i, .int .i64 kd, .int .i64 vi, .string s, .string nm, .slice a n m], .pointer (some ⟨p, 0, none⟩)] w fun e w' => (∃ v, e = .returned v ∧ IsE v) ∧ Below w.heap.size w w' := by
  go_enter Tryz.func271, Tryz.ntmps271
  go_wp2_with fail
  refine name_alloc2 (K := fun W => bodyPost _ _ _ _ _ W) fun w1 hB hX hw1 hsz1 => ?_
  refine bodyPost_ret (results_cell_row Tryz.results271 _ _ (w.heap.size + 1) _ _ _ _ rfl hX Tryz.underlying27 rfl (by kernel_rfl)) rfl ?_
  exact ⟨⟨_, rfl, _, _, _, _, _, _, _, _, _, rfl⟩, hw1⟩
end Go.Proofs.YtkicpmdojmnmeaaGreatDoor
