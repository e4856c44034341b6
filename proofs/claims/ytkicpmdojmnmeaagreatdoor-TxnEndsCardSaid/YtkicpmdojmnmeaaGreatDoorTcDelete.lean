/-
  Delete from a transaction that has ended: refused; the old memory stays as it was.
-/
import Derived.Test.YtkicpmdojmnmeaaGreatDoorTcAcc
namespace Go.Proofs.YtkicpmdojmnmeaaGreatDoor
open Go.RowKit Go.Proofs.YtkicpmdojmnmeaaGreatDoor.Ps
set_option linter.unusedVariables false
set_option linter.unusedSimpArgs false
set_option maxHeartbeats 4000000 in
set_option maxRecDepth 100000 in
theorem delete_call {t : Value} {s : ByteArray} {cs : List Value} {c : C} {p1 p2 : Int} {w : World} (ht : TxE t w) (h : Rp Tryz.prog w 27 cs c) (hs : Sm c) :
    Calls Tryz.prog 16 #[t, .string s, .agg cs.toArray, .agg #[.int .i64 p1, .int .i64 p2]] w fun e w' => e = .returned (.tuple #[.int .i64 0, .int .i64 20]) ∧ Below w.heap.size w w' := by
  obtain ⟨op, i, kd, vi, sv, nm, a, n, m, xs, rfl, hr, ys0, hc0, hmem⟩ := rp_expr h
  have HP := Lib.hid h
  have HS := Lib.hid hs
  have HT := Lib.hid ht
  clear h hs hr hc0 hmem ht
  go_enter Tryz.func16, Tryz.ntmps16
  go_wp2_with fail
  refine name_alloc3 (K := fun W => Calls _ _ _ W _) fun w1 hA hZ hX hw1 hsz1 => ?_
  refine (cloneE_call _ c (Nat.le_refl _) _ w1 (HP.out.kept hw1 (Nat.le_refl _)) HS.out).mono ?_
  rintro e' w4 ⟨⟨v, rfl, op4, i4, kd4, vi4, s4, nm4, A4, n4, m4, rfl⟩, hw4⟩
  have HA := Lib.hid ((hA.below hw4).alloc (.cells #[.int .i64 0, .int .i64 0, .int .i64 0, .int .i64 0, .string ⟨#[]⟩, .string ⟨#[]⟩, .slice none 0 0] 27))
  have HW := Lib.hid ((hw1.trans (hw4.mono (by omega))).alloc (show w.heap.size ≤ w4.heap.size by have := hw4.size; omega) (.cells #[.int .i64 0, .int .i64 0, .int .i64 0, .int .i64 0, .string ⟨#[]⟩, .string ⟨#[]⟩, .slice none 0 0] 27))
  have hz4 := hw4.size
  clear hw4 hA hZ hX hw1
  go_wp2_with (refine store_blk rfl 27 (.tmp 10) (.tmp 14) rfl w4.heap.size [.int .i64 op4, .int .i64 i4, .int .i64 kd4, .int .i64 vi4, .string s4, .string nm4, .slice A4 n4 m4] rfl rfl 27 _ (Blk.new w4 _ _) (by kernel_rfl) rfl ?one ?_)
  case one => intro u hu; exact one7 hu
  intro w6 hB6 hg6 hz6
  have hA6 := (HA.out.grown hg6 (by omega)).cell 0 rfl
  have HW6 := Lib.hid (HW.out.grown hg6 (by simp; omega) (fun q e => by injection e with e; omega))
  have HT6 := Lib.hid (HT.out.kept HW6.out)
  clear hg6 HW HA HT
  go_wp2_with fail
  refine (perform_call HT6.out).mono ?_
  rintro e' w7 ⟨rfl, rfl⟩
  go_wp2_with fail
  go_ret2
  exact ⟨rfl, HW6.out⟩
end Go.Proofs.YtkicpmdojmnmeaaGreatDoor
