/-
  expr.Shift: some expression; the old memory stays as it was.
-/
import Derived.Test.YtkicpmdojmnmeaaGreatDoorTcMapped
namespace Go.Proofs.YtkicpmdojmnmeaaGreatDoor
open Go.RowKit Go.Proofs.YtkicpmdojmnmeaaGreatDoor.Ps
set_option linter.unusedVariables false
set_option linter.unusedSimpArgs false
set_option maxHeartbeats 4000000 in
set_option maxRecDepth 100000 in
theorem shift_call {c : C} {cs : List Value} {w : World} (z : Int) (h : Rp Tryz.prog w 27 cs c) (hs : Sm c) : Calls Tryz.prog 167 #[.agg cs.toArray, .int .i64 z] w fun e w' => (∃ v, e = .returned v ∧ IsE v) ∧ Below w.heap.size w w' := by
  obtain ⟨op, i, kd, vi, s, nm, a, n, m, xs, rfl, hr, ys0, hc0, hmem⟩ := rp_expr h
  have HP := Lib.hid h
  have HS := Lib.hid hs
  clear h hs hr hc0 hmem
  go_enter Tryz.func167, Tryz.ntmps167
  go_wp2_with fail
  refine name_alloc3 (K := fun W => Calls _ _ _ W _) fun w1 hA hZ hX hw1 hsz1 => ?_
  refine (mapped_call _ c (Nat.le_refl _) _ (w.heap.size + 1) z w1 (hZ.cell 0 rfl) (by omega) (HP.out.kept hw1 (Nat.le_refl _)) HS.out).mono ?_
  rintro e' w4 ⟨⟨v, rfl, op4, i4, kd4, vi4, s4, nm4, A4, n4, m4, rfl⟩, hw4⟩
  have hX4 := hX.below hw4
  have HW := Lib.hid (hw1.trans (hw4.mono (by omega)))
  have hz4 := hw4.size
  clear hw4 hA hZ hX hw1
  go_wp2_with (refine store_blk rfl 27 (.tmp 4) (.tmp 7) rfl (w.heap.size + 1 + 1) [.int .i64 op4, .int .i64 i4, .int .i64 kd4, .int .i64 vi4, .string s4, .string nm4, .slice A4 n4 m4] rfl rfl 27 _ hX4 (by kernel_rfl) rfl ?one ?_)
  case one => intro u hu; exact one7 hu
  intro w6 hB6 hg6 hz6
  go_wp2_with fail
  refine bodyPost_ret (results_cell_row Tryz.results167 _ _ (w.heap.size + 1 + 1) _ _ _ _ rfl hB6 Tryz.underlying27 rfl (by kernel_rfl)) rfl ?_
  exact ⟨⟨_, rfl, _, _, _, _, _, _, _, _, _, rfl⟩, HW.out.grown hg6 (by omega) (fun q e => by injection e with e; omega)⟩
end Go.Proofs.YtkicpmdojmnmeaaGreatDoor
