/-
  Create in a transaction that has ended: refused; the old memory stays as it was.
-/
import Derived.Test.YtkicpmdojmnmeaaGreatDoorTcTable
namespace Go.Proofs.YtkicpmdojmnmeaaGreatDoor
open Go.RowKit Go.Proofs.YtkicpmdojmnmeaaGreatDoor.Ps
set_option linter.unusedVariables false
set_option linter.unusedSimpArgs false
set_option maxHeartbeats 4000000 in
set_option maxRecDepth 100000 in
theorem create_call {t : Value} {cs : List Value} {c : C} {w : World} (ht : TxE t w) (h : Rp Tryz.prog w 34 cs c) (hs : Sm c) :
    Calls Tryz.prog 18 #[t, .agg cs.toArray] w fun e w' => e = .returned (.int .i64 20) ∧ Below w.heap.size w w' := by
  obtain ⟨nm, a1, n1, m1, a2, n2, m2, a3, n3, m3, a4, n4, m4, x1, x2, x3, x4, rfl, _, _, _, _, _, _, _, _, _⟩ := rp_table h
  have HP := Lib.hid h
  have HS := Lib.hid hs
  have HT := Lib.hid ht
  clear h hs ht
  go_enter Tryz.func18, Tryz.ntmps18
  go_wp2_with fail
  refine name_alloc (K := fun W => Calls _ _ _ W _) fun w1 hA hw1 hsz1 => ?_
  refine (table_call (HP.out.kept hw1 (Nat.le_refl _)) HS.out).mono ?_
  rintro e' w4 ⟨⟨v, rfl, nm9, c1, k1, l1, c2, k2, l2, c3, k3, l3, c4, k4, l4, rfl⟩, hw4⟩
  have HA := Lib.hid ((hA.below hw4).alloc (.cells #[.string ⟨#[]⟩, .slice none 0 0, .slice none 0 0, .slice none 0 0, .slice none 0 0] 34))
  have HW := Lib.hid ((hw1.trans (hw4.mono (by omega))).alloc (show w.heap.size ≤ w4.heap.size by have := hw4.size; omega) (.cells #[.string ⟨#[]⟩, .slice none 0 0, .slice none 0 0, .slice none 0 0, .slice none 0 0] 34))
  have hz4 := hw4.size
  clear hw4 hA hw1
  go_wp2_with (refine store_blk rfl 34 (.tmp 5) (.tmp 9) rfl w4.heap.size [.string nm9, .slice c1 k1 l1, .slice c2 k2 l2, .slice c3 k3 l3, .slice c4 k4 l4] rfl rfl 34 _ (Blk.new w4 _ _) (by kernel_rfl) rfl ?one ?_)
  case one =>
    intro u hu
    simp only [List.mem_cons, List.not_mem_nil, or_false] at hu
    rcases hu with rfl | rfl | rfl | rfl | rfl <;> rfl
  intro w6 hB6 hg6 hz6
  have hA6 := (HA.out.grown hg6 (by omega)).cell 0 rfl
  have HW6 := Lib.hid (HW.out.grown hg6 (by simp; omega) (fun q e => by injection e with e; omega))
  have HT6 := Lib.hid (HT.out.kept HW6.out)
  clear hg6 HW HA HT
  go_wp2_with fail
  refine (perform_call HT6.out).mono ?_
  rintro e' w7 ⟨rfl, rfl⟩
  go_wp2_with fail
  go_ret
  exact ⟨rfl, HW6.out⟩
end Go.Proofs.YtkicpmdojmnmeaaGreatDoor
