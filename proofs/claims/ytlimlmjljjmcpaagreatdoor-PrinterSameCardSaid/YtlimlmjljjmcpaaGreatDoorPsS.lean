/-
  sameSelect (Printed by gen_same2.py.)
-/
import Derived.Test.YtlimlmjljjmcpaaGreatDoorPsI
namespace Go.Proofs.YtlimlmjljjmcpaaGreatDoor.Ps
open Go Go.RowKit
set_option linter.unusedVariables false
set_option linter.unusedSimpArgs false
set_option maxHeartbeats 20000000 in
set_option maxRecDepth 100000 in
theorem same_Select (N : Nat) : SameN 83 42 N := fun x y cs ds w hN h1 h2 => by
  obtain ⟨ab0, aq1, an1, am1, ax1, as2_0, as2_1, ai2_2_0, ai2_2_1, ai2_2_2, ai2_3, aq3, an3, am3, ax3, ab4, ay5, aq6, an6, am6, ax6, an, rfl, ac0, ac1, ac2, ac3, ac4, ac5, ac6, ac7, ac8, ac9, ac10, ac11, ac12, ac13, ac14, ac15, ac16, ac17, ac18, ac19⟩ := shp_Select h1
  obtain ⟨ai5i0, ai5i1, ai5i2_0, ai5i2_1, ai5s2_2, ai5s3, ai5q4, ai5n4, ai5m4, ai5x4, ac16e, _, _, _, _, _⟩ := shp_Expr ac16
  have ac16_0 := of_take ac16e (j := 0) rfl (by omega)
  have ac16_1 := of_take ac16e (j := 1) rfl (by omega)
  have ac16_2 := of_take ac16e (j := 2) rfl (by omega)
  have ac16_3 := of_take ac16e (j := 3) rfl (by omega)
  have ac16_4 := of_take ac16e (j := 4) rfl (by omega)
  have ac16_5 := of_take ac16e (j := 5) rfl (by omega)
  have ac16_6 := of_take ac16e (j := 6) rfl (by omega)
  rw [ac16e] at ac16
  obtain ⟨bb0, bq1, bn1, bm1, bx1, bs2_0, bs2_1, bi2_2_0, bi2_2_1, bi2_2_2, bi2_3, bq3, bn3, bm3, bx3, bb4, by5, bq6, bn6, bm6, bx6, bn, rfl, bc0, bc1, bc2, bc3, bc4, bc5, bc6, bc7, bc8, bc9, bc10, bc11, bc12, bc13, bc14, bc15, bc16, bc17, bc18, bc19⟩ := shp_Select h2
  obtain ⟨bi5i0, bi5i1, bi5i2_0, bi5i2_1, bi5s2_2, bi5s3, bi5q4, bi5n4, bi5m4, bi5x4, bc16e, _, _, _, _, _⟩ := shp_Expr bc16
  have bc16_0 := of_take bc16e (j := 0) rfl (by omega)
  have bc16_1 := of_take bc16e (j := 1) rfl (by omega)
  have bc16_2 := of_take bc16e (j := 2) rfl (by omega)
  have bc16_3 := of_take bc16e (j := 3) rfl (by omega)
  have bc16_4 := of_take bc16e (j := 4) rfl (by omega)
  have bc16_5 := of_take bc16e (j := 5) rfl (by omega)
  have bc16_6 := of_take bc16e (j := 6) rfl (by omega)
  rw [bc16e] at bc16
  have Hac3 := Lib.hid ac3
  have Hac14 := Lib.hid ac14
  have Hac16 := Lib.hid ac16
  have Hac19 := Lib.hid ac19
  have Hbc3 := Lib.hid bc3
  have Hbc14 := Lib.hid bc14
  have Hbc16 := Lib.hid bc16
  have Hbc19 := Lib.hid bc19
  have HNa := Lib.hid an
  have HNb := Lib.hid bn
  have Hac0_ := Lib.hid ac0
  have Hac2_ := Lib.hid ac2
  have Hac6_ := Lib.hid ac6
  have Hac7_ := Lib.hid ac7
  have Hac8_ := Lib.hid ac8
  have Hac9_ := Lib.hid ac9
  have Hac10_ := Lib.hid ac10
  have Hac11_ := Lib.hid ac11
  have Hac13_ := Lib.hid ac13
  have Hac15_ := Lib.hid ac15
  have Hac16_0_ := Lib.hid ac16_0
  have Hac16_1_ := Lib.hid ac16_1
  have Hac16_2_ := Lib.hid ac16_2
  have Hac16_3_ := Lib.hid ac16_3
  have Hac16_4_ := Lib.hid ac16_4
  have Hac16_5_ := Lib.hid ac16_5
  have Hac16_6_ := Lib.hid ac16_6
  have Hac18_ := Lib.hid ac18
  have Hbc0_ := Lib.hid bc0
  have Hbc2_ := Lib.hid bc2
  have Hbc6_ := Lib.hid bc6
  have Hbc7_ := Lib.hid bc7
  have Hbc8_ := Lib.hid bc8
  have Hbc9_ := Lib.hid bc9
  have Hbc10_ := Lib.hid bc10
  have Hbc11_ := Lib.hid bc11
  have Hbc13_ := Lib.hid bc13
  have Hbc15_ := Lib.hid bc15
  have Hbc16_0_ := Lib.hid bc16_0
  have Hbc16_1_ := Lib.hid bc16_1
  have Hbc16_2_ := Lib.hid bc16_2
  have Hbc16_3_ := Lib.hid bc16_3
  have Hbc16_4_ := Lib.hid bc16_4
  have Hbc16_5_ := Lib.hid bc16_5
  have Hbc16_6_ := Lib.hid bc16_6
  have Hbc18_ := Lib.hid bc18
  clear h1 h2 hN an bn ac3 ac14 ac16 ac19 bc3 bc14 bc16 bc19 ac0 ac2 ac6 ac7 ac8 ac9 ac10 ac11 ac13 ac15 ac16_0 ac16_1 ac16_2 ac16_3 ac16_4 ac16_5 ac16_6 ac18 bc0 bc2 bc6 bc7 bc8 bc9 bc10 bc11 bc13 bc15 bc16_0 bc16_1 bc16_2 bc16_3 bc16_4 bc16_5 bc16_6 bc18
  go_enter Tryz.func83, Tryz.ntmps83
  go_wp2_with (refine box_new rfl 42 (.tmp 0) rfl cs rfl ?_)
  intro w1 hB hw1 hz1
  go_wp2_with (refine box_new rfl 42 (.tmp 1) rfl ds rfl ?_)
  intro w2 hX hw2 hz2
  rw [← hz1] at hw2
  have HW0 := Lib.hid (hw1.trans (hw2.mono hw1.size))
  have HBk := Lib.hid (hB.below hw2)
  have HXk := Lib.hid hX
  have p0 := (HBk.out).cell 0 Hac0_.out
  have p1 := (HBk.out).cell 1 Hac2_.out
  have p2 := (HBk.out).cell 2 Hac6_.out
  have p3 := (HBk.out).cell 3 Hac7_.out
  have p4 := (HBk.out).cell 4 Hac8_.out
  have p5 := (HBk.out).cell 5 Hac9_.out
  have p6 := (HBk.out).cell 6 Hac10_.out
  have p7 := (HBk.out).cell 7 Hac11_.out
  have p8 := (HBk.out).cell 8 Hac13_.out
  have p9 := (HBk.out).cell 9 Hac15_.out
  have p10 := (HBk.out).cell 10 Hac16_0_.out
  have p11 := (HBk.out).cell 11 Hac16_1_.out
  have p12 := (HBk.out).cell 12 Hac16_2_.out
  have p13 := (HBk.out).cell 13 Hac16_3_.out
  have p14 := (HBk.out).cell 14 Hac16_4_.out
  have p15 := (HBk.out).cell 15 Hac16_5_.out
  have p16 := (HBk.out).cell 16 Hac16_6_.out
  have p17 := (HBk.out).cell 17 Hac18_.out
  have q0 := (HXk.out).cell 0 Hbc0_.out
  have q1 := (HXk.out).cell 1 Hbc2_.out
  have q2 := (HXk.out).cell 2 Hbc6_.out
  have q3 := (HXk.out).cell 3 Hbc7_.out
  have q4 := (HXk.out).cell 4 Hbc8_.out
  have q5 := (HXk.out).cell 5 Hbc9_.out
  have q6 := (HXk.out).cell 6 Hbc10_.out
  have q7 := (HXk.out).cell 7 Hbc11_.out
  have q8 := (HXk.out).cell 8 Hbc13_.out
  have q9 := (HXk.out).cell 9 Hbc15_.out
  have q10 := (HXk.out).cell 10 Hbc16_0_.out
  have q11 := (HXk.out).cell 11 Hbc16_1_.out
  have q12 := (HXk.out).cell 12 Hbc16_2_.out
  have q13 := (HXk.out).cell 13 Hbc16_3_.out
  have q14 := (HXk.out).cell 14 Hbc16_4_.out
  have q15 := (HXk.out).cell 15 Hbc16_5_.out
  have q16 := (HXk.out).cell 16 Hbc16_6_.out
  have q17 := (HXk.out).cell 17 Hbc18_.out
  have hz3 : w.heap.size + 2 ≤ w2.heap.size := by omega
  clear hw1 hw2 hB hX
  go_wp2_with fail
  all_goals (try (refine (same_Expr _ ay5 by5 _ _ w2 (Nat.le_refl _) (Hac16.out.kept HW0.out (Nat.le_refl _)) (Hbc16.out.kept HW0.out (Nat.le_refl _))).mono ?_; rintro e' w4 ⟨rfl, hw4⟩; have HW1 := Lib.hid (HW0.out.trans (hw4.mono HW0.out.size)); have HW1b := Lib.hid hw4; have hz4 : w.heap.size + 2 ≤ w4.heap.size := (by have := hw4.size; omega); clear hw4 hz3 p0 q0 p1 q1 p2 q2 p3 q3 p4 q4 p5 q5 p6 q6 p7 q7 p8 q8 p9 q9 p10 q10 p11 q11 p12 q12 p13 q13 p14 q14 p15 q15 p16 q16 p17 q17; have p1 := (HBk.out.below HW1b.out).cell 1 Hac2_.out; have p8 := (HBk.out.below HW1b.out).cell 8 Hac13_.out; have p17 := (HBk.out.below HW1b.out).cell 17 Hac18_.out; have q1 := (HXk.out.below HW1b.out).cell 1 Hbc2_.out; have q8 := (HXk.out.below HW1b.out).cell 8 Hbc13_.out; have q17 := (HXk.out.below HW1b.out).cell 17 Hbc18_.out; cases hq0 : eqC (ay5) (by5) <;> go_wp2_with fail))
  all_goals (try (refine (eqf_Item _ (same_Item (SizeOf.sizeOf (C.s ax1))) ax1 bx1 (fun x hx => by have := List.sizeOf_lt_of_mem hx; simp; omega) _ _ _ _ _ _ w4 (Hac3.out.kept HW1.out (Nat.le_refl _)) (Hbc3.out.kept HW1.out (Nat.le_refl _))).mono ?_; rintro e' w5 ⟨rfl, hw5⟩; have HW2 := Lib.hid (HW1.out.trans (hw5.mono HW1.out.size)); have HW2b := Lib.hid (HW1b.out.trans (hw5.mono HW1b.out.size)); have hz5 : w.heap.size + 2 ≤ w5.heap.size := (by have := hw5.size; omega); clear hw5 hz4 p1 q1 p8 q8 p17 q17; have p8 := (HBk.out.below HW2b.out).cell 8 Hac13_.out; have p17 := (HBk.out.below HW2b.out).cell 17 Hac18_.out; have q8 := (HXk.out.below HW2b.out).cell 8 Hbc13_.out; have q17 := (HXk.out.below HW2b.out).cell 17 Hbc18_.out; cases hq1 : eqC (C.s ax1) (C.s bx1) <;> go_wp2_with fail))
  all_goals (try (refine (eqf_Join _ (same_Join (SizeOf.sizeOf (C.s ax3))) ax3 bx3 (fun x hx => by have := List.sizeOf_lt_of_mem hx; simp; omega) _ _ _ _ _ _ w5 (Hac14.out.kept HW2.out (Nat.le_refl _)) (Hbc14.out.kept HW2.out (Nat.le_refl _))).mono ?_; rintro e' w6 ⟨rfl, hw6⟩; have HW3 := Lib.hid (HW2.out.trans (hw6.mono HW2.out.size)); have HW3b := Lib.hid (HW2b.out.trans (hw6.mono HW2b.out.size)); have hz6 : w.heap.size + 2 ≤ w6.heap.size := (by have := hw6.size; omega); clear hw6 hz5 p8 q8 p17 q17; have p17 := (HBk.out.below HW3b.out).cell 17 Hac18_.out; have q17 := (HXk.out.below HW3b.out).cell 17 Hbc18_.out; cases hq2 : eqC (C.s ax3) (C.s bx3) <;> go_wp2_with fail))
  all_goals (try (refine (eqf_Expr _ (same_Expr (SizeOf.sizeOf (C.s ax6))) ax6 bx6 (fun x hx => by have := List.sizeOf_lt_of_mem hx; simp; omega) _ _ _ _ _ _ w6 (Hac19.out.kept HW3.out (Nat.le_refl _)) (Hbc19.out.kept HW3.out (Nat.le_refl _))).mono ?_; rintro e' w7 ⟨rfl, hw7⟩; have HW4 := Lib.hid (HW3.out.trans (hw7.mono HW3.out.size)); have HW4b := Lib.hid (HW3b.out.trans (hw7.mono HW3b.out.size)); have hz7 : w.heap.size + 2 ≤ w7.heap.size := (by have := hw7.size; omega); clear hw7 hz6 p17 q17; cases hq3 : eqC (C.s ax6) (C.s bx6) <;> go_wp2_with fail))
  all_goals
    go_ret
    first
    | exact SamePost.no (by intro e; simp at e; simp_all [toList_iff, eqC_true, eqC_false]) HW0.out
    | exact SamePost.no (by intro e; simp at e; simp_all [toList_iff, eqC_true, eqC_false]) HW1.out
    | exact SamePost.no (by intro e; simp at e; simp_all [toList_iff, eqC_true, eqC_false]) HW2.out
    | exact SamePost.no (by intro e; simp at e; simp_all [toList_iff, eqC_true, eqC_false]) HW3.out
    | exact SamePost.no (by intro e; simp at e; simp_all [toList_iff, eqC_true, eqC_false]) HW4.out
    | exact SamePost.yes (by simp_all [toList_iff, eqC_true, eqC_false]) HW4.out
end Go.Proofs.YtlimlmjljjmcpaaGreatDoor.Ps
