/-
  printer.Same (Printed by gen_same2.py.)
-/
import Derived.Test.YtlimlmjljjmcpaaGreatDoorPsY
import Derived.Test.YtlimlmjljjmcpaaGreatDoorPsT
namespace Go.Proofs.YtlimlmjljjmcpaaGreatDoor.Ps
open Go Go.RowKit
set_option linter.unusedVariables false
set_option linter.unusedSimpArgs false
set_option maxHeartbeats 20000000 in
set_option maxRecDepth 100000 in
theorem same_Statement (N : Nat) : SameN 12 63 N := fun x y cs ds w hN h1 h2 => by
  obtain ⟨ai0, ai1, ai2_0, ai2_1, ay3, as4, aq5, an5, am5, ax5, aq6, an6, am6, ax6, ab7, ay8, ay9, aq10, an10, am10, ax10, ai11_0, as11_1, as11_2, as11_3_0, ai11_3_1, ab11_3_2, ai11_4_0, ai11_4_1, as11_4_2, as12_0, as12_1, ai12_2_0_0, ai12_2_0_1, ai12_2_1_0, ai12_2_1_1, ai13, an, rfl, ac0, ac1, ac2, ac3, ac4, ac5, ac6, ac7, ac8, ac9, ac10, ac11, ac12, ac13, ac14, ac15, ac16, ac17, ac18, ac19, ac20, ac21, ac22, ac23, ac24, ac25, ac26, ac27, ac28, ac29, ac30, ac31, ac32, ac33, ac34, ac35, ac36, ac37, ac38, ac39, ac40⟩ := shp_Statement h1
  obtain ⟨ai8i0, ai8i1, ai8i2_0, ai8i2_1, ai8s2_2, ai8s3, ai8q4, ai8n4, ai8m4, ai8x4, ac14e, _, _, _, _, _⟩ := shp_Expr ac14
  have ac14_0 := of_take ac14e (j := 0) rfl (by omega)
  have ac14_1 := of_take ac14e (j := 1) rfl (by omega)
  have ac14_2 := of_take ac14e (j := 2) rfl (by omega)
  have ac14_3 := of_take ac14e (j := 3) rfl (by omega)
  have ac14_4 := of_take ac14e (j := 4) rfl (by omega)
  have ac14_5 := of_take ac14e (j := 5) rfl (by omega)
  have ac14_6 := of_take ac14e (j := 6) rfl (by omega)
  rw [ac14e] at ac14
  obtain ⟨ai9s0, ai9q1, ai9n1, ai9m1, ai9x1, ai9q2, ai9n2, ai9m2, ai9x2, ai9q3, ai9n3, ai9m3, ai9x3, ai9q4, ai9n4, ai9m4, ai9x4, ac15e, _, _, _, _, _, _, _, _, _, _⟩ := shp_Table ac15
  have ac15_0 := of_take ac15e (j := 0) rfl (by omega)
  have ac15_1 := of_take ac15e (j := 1) rfl (by omega)
  have ac15_2 := of_take ac15e (j := 2) rfl (by omega)
  have ac15_3 := of_take ac15e (j := 3) rfl (by omega)
  have ac15_4 := of_take ac15e (j := 4) rfl (by omega)
  rw [ac15e] at ac15
  obtain ⟨bi0, bi1, bi2_0, bi2_1, by3, bs4, bq5, bn5, bm5, bx5, bq6, bn6, bm6, bx6, bb7, by8, by9, bq10, bn10, bm10, bx10, bi11_0, bs11_1, bs11_2, bs11_3_0, bi11_3_1, bb11_3_2, bi11_4_0, bi11_4_1, bs11_4_2, bs12_0, bs12_1, bi12_2_0_0, bi12_2_0_1, bi12_2_1_0, bi12_2_1_1, bi13, bn, rfl, bc0, bc1, bc2, bc3, bc4, bc5, bc6, bc7, bc8, bc9, bc10, bc11, bc12, bc13, bc14, bc15, bc16, bc17, bc18, bc19, bc20, bc21, bc22, bc23, bc24, bc25, bc26, bc27, bc28, bc29, bc30, bc31, bc32, bc33, bc34, bc35, bc36, bc37, bc38, bc39, bc40⟩ := shp_Statement h2
  obtain ⟨bi8i0, bi8i1, bi8i2_0, bi8i2_1, bi8s2_2, bi8s3, bi8q4, bi8n4, bi8m4, bi8x4, bc14e, _, _, _, _, _⟩ := shp_Expr bc14
  have bc14_0 := of_take bc14e (j := 0) rfl (by omega)
  have bc14_1 := of_take bc14e (j := 1) rfl (by omega)
  have bc14_2 := of_take bc14e (j := 2) rfl (by omega)
  have bc14_3 := of_take bc14e (j := 3) rfl (by omega)
  have bc14_4 := of_take bc14e (j := 4) rfl (by omega)
  have bc14_5 := of_take bc14e (j := 5) rfl (by omega)
  have bc14_6 := of_take bc14e (j := 6) rfl (by omega)
  rw [bc14e] at bc14
  obtain ⟨bi9s0, bi9q1, bi9n1, bi9m1, bi9x1, bi9q2, bi9n2, bi9m2, bi9x2, bi9q3, bi9n3, bi9m3, bi9x3, bi9q4, bi9n4, bi9m4, bi9x4, bc15e, _, _, _, _, _, _, _, _, _, _⟩ := shp_Table bc15
  have bc15_0 := of_take bc15e (j := 0) rfl (by omega)
  have bc15_1 := of_take bc15e (j := 1) rfl (by omega)
  have bc15_2 := of_take bc15e (j := 2) rfl (by omega)
  have bc15_3 := of_take bc15e (j := 3) rfl (by omega)
  have bc15_4 := of_take bc15e (j := 4) rfl (by omega)
  rw [bc15e] at bc15
  have Hac4 := Lib.hid ac4
  have Hac9 := Lib.hid ac9
  have Hac12 := Lib.hid ac12
  have Hac14 := Lib.hid ac14
  have Hac15 := Lib.hid ac15
  have Hac18 := Lib.hid ac18
  have Hbc4 := Lib.hid bc4
  have Hbc9 := Lib.hid bc9
  have Hbc12 := Lib.hid bc12
  have Hbc14 := Lib.hid bc14
  have Hbc15 := Lib.hid bc15
  have Hbc18 := Lib.hid bc18
  have HNa := Lib.hid an
  have HNb := Lib.hid bn
  have Hac0_ := Lib.hid ac0
  have Hac1_ := Lib.hid ac1
  have Hac2_ := Lib.hid ac2
  have Hac3_ := Lib.hid ac3
  have Hac6_ := Lib.hid ac6
  have Hac8_ := Lib.hid ac8
  have Hac11_ := Lib.hid ac11
  have Hac13_ := Lib.hid ac13
  have Hac14_0_ := Lib.hid ac14_0
  have Hac14_1_ := Lib.hid ac14_1
  have Hac14_2_ := Lib.hid ac14_2
  have Hac14_3_ := Lib.hid ac14_3
  have Hac14_4_ := Lib.hid ac14_4
  have Hac14_5_ := Lib.hid ac14_5
  have Hac14_6_ := Lib.hid ac14_6
  have Hac15_0_ := Lib.hid ac15_0
  have Hac15_1_ := Lib.hid ac15_1
  have Hac15_2_ := Lib.hid ac15_2
  have Hac15_3_ := Lib.hid ac15_3
  have Hac15_4_ := Lib.hid ac15_4
  have Hac17_ := Lib.hid ac17
  have Hac23_ := Lib.hid ac23
  have Hac24_ := Lib.hid ac24
  have Hac25_ := Lib.hid ac25
  have Hac26_ := Lib.hid ac26
  have Hac27_ := Lib.hid ac27
  have Hac28_ := Lib.hid ac28
  have Hac29_ := Lib.hid ac29
  have Hac30_ := Lib.hid ac30
  have Hac31_ := Lib.hid ac31
  have Hac34_ := Lib.hid ac34
  have Hac35_ := Lib.hid ac35
  have Hac36_ := Lib.hid ac36
  have Hac37_ := Lib.hid ac37
  have Hac38_ := Lib.hid ac38
  have Hac39_ := Lib.hid ac39
  have Hac40_ := Lib.hid ac40
  have Hbc0_ := Lib.hid bc0
  have Hbc1_ := Lib.hid bc1
  have Hbc2_ := Lib.hid bc2
  have Hbc3_ := Lib.hid bc3
  have Hbc6_ := Lib.hid bc6
  have Hbc8_ := Lib.hid bc8
  have Hbc11_ := Lib.hid bc11
  have Hbc13_ := Lib.hid bc13
  have Hbc14_0_ := Lib.hid bc14_0
  have Hbc14_1_ := Lib.hid bc14_1
  have Hbc14_2_ := Lib.hid bc14_2
  have Hbc14_3_ := Lib.hid bc14_3
  have Hbc14_4_ := Lib.hid bc14_4
  have Hbc14_5_ := Lib.hid bc14_5
  have Hbc14_6_ := Lib.hid bc14_6
  have Hbc15_0_ := Lib.hid bc15_0
  have Hbc15_1_ := Lib.hid bc15_1
  have Hbc15_2_ := Lib.hid bc15_2
  have Hbc15_3_ := Lib.hid bc15_3
  have Hbc15_4_ := Lib.hid bc15_4
  have Hbc17_ := Lib.hid bc17
  have Hbc23_ := Lib.hid bc23
  have Hbc24_ := Lib.hid bc24
  have Hbc25_ := Lib.hid bc25
  have Hbc26_ := Lib.hid bc26
  have Hbc27_ := Lib.hid bc27
  have Hbc28_ := Lib.hid bc28
  have Hbc29_ := Lib.hid bc29
  have Hbc30_ := Lib.hid bc30
  have Hbc31_ := Lib.hid bc31
  have Hbc34_ := Lib.hid bc34
  have Hbc35_ := Lib.hid bc35
  have Hbc36_ := Lib.hid bc36
  have Hbc37_ := Lib.hid bc37
  have Hbc38_ := Lib.hid bc38
  have Hbc39_ := Lib.hid bc39
  have Hbc40_ := Lib.hid bc40
  clear h1 h2 hN an bn ac4 ac9 ac12 ac14 ac15 ac18 bc4 bc9 bc12 bc14 bc15 bc18 ac0 ac1 ac2 ac3 ac6 ac8 ac11 ac13 ac14_0 ac14_1 ac14_2 ac14_3 ac14_4 ac14_5 ac14_6 ac15_0 ac15_1 ac15_2 ac15_3 ac15_4 ac17 ac23 ac24 ac25 ac26 ac27 ac28 ac29 ac30 ac31 ac34 ac35 ac36 ac37 ac38 ac39 ac40 bc0 bc1 bc2 bc3 bc6 bc8 bc11 bc13 bc14_0 bc14_1 bc14_2 bc14_3 bc14_4 bc14_5 bc14_6 bc15_0 bc15_1 bc15_2 bc15_3 bc15_4 bc17 bc23 bc24 bc25 bc26 bc27 bc28 bc29 bc30 bc31 bc34 bc35 bc36 bc37 bc38 bc39 bc40
  go_enter Tryz.func12, Tryz.ntmps12
  go_wp2_with (refine box_new rfl 63 (.tmp 0) rfl cs rfl ?_)
  intro w1 hB hw1 hz1
  go_wp2_with (refine box_new rfl 63 (.tmp 1) rfl ds rfl ?_)
  intro w2 hX hw2 hz2
  rw [← hz1] at hw2
  have HW0 := Lib.hid (hw1.trans (hw2.mono hw1.size))
  have HBk := Lib.hid (hB.below hw2)
  have HXk := Lib.hid hX
  have p0 := (HBk.out).cell 0 Hac0_.out
  have p1 := (HBk.out).cell 1 Hac1_.out
  have p2 := (HBk.out).cell 2 Hac2_.out
  have p3 := (HBk.out).cell 3 Hac3_.out
  have p27 := (HBk.out).cell 27 Hac6_.out
  have p28 := (HBk.out).cell 28 Hac8_.out
  have p29 := (HBk.out).cell 29 Hac11_.out
  have p30 := (HBk.out).cell 30 Hac13_.out
  have p31 := (HBk.out).cell 31 Hac14_0_.out
  have p32 := (HBk.out).cell 32 Hac14_1_.out
  have p33 := (HBk.out).cell 33 Hac14_2_.out
  have p34 := (HBk.out).cell 34 Hac14_3_.out
  have p35 := (HBk.out).cell 35 Hac14_4_.out
  have p36 := (HBk.out).cell 36 Hac14_5_.out
  have p37 := (HBk.out).cell 37 Hac14_6_.out
  have p38 := (HBk.out).cell 38 Hac15_0_.out
  have p39 := (HBk.out).cell 39 Hac15_1_.out
  have p40 := (HBk.out).cell 40 Hac15_2_.out
  have p41 := (HBk.out).cell 41 Hac15_3_.out
  have p42 := (HBk.out).cell 42 Hac15_4_.out
  have p43 := (HBk.out).cell 43 Hac17_.out
  have p44 := (HBk.out).cell 44 Hac23_.out
  have p45 := (HBk.out).cell 45 Hac24_.out
  have p46 := (HBk.out).cell 46 Hac25_.out
  have p47 := (HBk.out).cell 47 Hac26_.out
  have p48 := (HBk.out).cell 48 Hac27_.out
  have p49 := (HBk.out).cell 49 Hac28_.out
  have p50 := (HBk.out).cell 50 Hac29_.out
  have p51 := (HBk.out).cell 51 Hac30_.out
  have p52 := (HBk.out).cell 52 Hac31_.out
  have p53 := (HBk.out).cell 53 Hac34_.out
  have p54 := (HBk.out).cell 54 Hac35_.out
  have p55 := (HBk.out).cell 55 Hac36_.out
  have p56 := (HBk.out).cell 56 Hac37_.out
  have p57 := (HBk.out).cell 57 Hac38_.out
  have p58 := (HBk.out).cell 58 Hac39_.out
  have p59 := (HBk.out).cell 59 Hac40_.out
  have q0 := (HXk.out).cell 0 Hbc0_.out
  have q1 := (HXk.out).cell 1 Hbc1_.out
  have q2 := (HXk.out).cell 2 Hbc2_.out
  have q3 := (HXk.out).cell 3 Hbc3_.out
  have q27 := (HXk.out).cell 27 Hbc6_.out
  have q28 := (HXk.out).cell 28 Hbc8_.out
  have q29 := (HXk.out).cell 29 Hbc11_.out
  have q30 := (HXk.out).cell 30 Hbc13_.out
  have q31 := (HXk.out).cell 31 Hbc14_0_.out
  have q32 := (HXk.out).cell 32 Hbc14_1_.out
  have q33 := (HXk.out).cell 33 Hbc14_2_.out
  have q34 := (HXk.out).cell 34 Hbc14_3_.out
  have q35 := (HXk.out).cell 35 Hbc14_4_.out
  have q36 := (HXk.out).cell 36 Hbc14_5_.out
  have q37 := (HXk.out).cell 37 Hbc14_6_.out
  have q38 := (HXk.out).cell 38 Hbc15_0_.out
  have q39 := (HXk.out).cell 39 Hbc15_1_.out
  have q40 := (HXk.out).cell 40 Hbc15_2_.out
  have q41 := (HXk.out).cell 41 Hbc15_3_.out
  have q42 := (HXk.out).cell 42 Hbc15_4_.out
  have q43 := (HXk.out).cell 43 Hbc17_.out
  have q44 := (HXk.out).cell 44 Hbc23_.out
  have q45 := (HXk.out).cell 45 Hbc24_.out
  have q46 := (HXk.out).cell 46 Hbc25_.out
  have q47 := (HXk.out).cell 47 Hbc26_.out
  have q48 := (HXk.out).cell 48 Hbc27_.out
  have q49 := (HXk.out).cell 49 Hbc28_.out
  have q50 := (HXk.out).cell 50 Hbc29_.out
  have q51 := (HXk.out).cell 51 Hbc30_.out
  have q52 := (HXk.out).cell 52 Hbc31_.out
  have q53 := (HXk.out).cell 53 Hbc34_.out
  have q54 := (HXk.out).cell 54 Hbc35_.out
  have q55 := (HXk.out).cell 55 Hbc36_.out
  have q56 := (HXk.out).cell 56 Hbc37_.out
  have q57 := (HXk.out).cell 57 Hbc38_.out
  have q58 := (HXk.out).cell 58 Hbc39_.out
  have q59 := (HXk.out).cell 59 Hbc40_.out
  have hz3 : w.heap.size + 2 ≤ w2.heap.size := by omega
  clear hw1 hw2 hB hX
  go_wp2_with (first | (refine op_met rfl (wpList_load_mid rfl 46 (.tmp 65) rfl w.heap.size 4 rfl ((cs.drop 4).take 23) _ (HBk.out.part 4 23) Tryz.underlying46 rfl (by rw [List.length_take, List.length_drop, HNa.out]; kernel_rfl) ?_)) | (refine op_met rfl (wpList_load_mid rfl 46 (.tmp 67) rfl (w.heap.size + 1) 4 rfl ((ds.drop 4).take 23) _ (HXk.out.part 4 23) Tryz.underlying46 rfl (by rw [List.length_take, List.length_drop, HNb.out]; kernel_rfl) ?_)))
  all_goals (try (refine (same_Expr _ ay8 by8 _ _ w2 (Nat.le_refl _) (Hac14.out.kept HW0.out (Nat.le_refl _)) (Hbc14.out.kept HW0.out (Nat.le_refl _))).mono ?_; rintro e' w4 ⟨rfl, hw4⟩; have HW1 := Lib.hid (HW0.out.trans (hw4.mono HW0.out.size)); have HW1b := Lib.hid hw4; have hz4 : w.heap.size + 2 ≤ w4.heap.size := (by have := hw4.size; omega); clear hw4 hz3 p0 q0 p1 q1 p2 q2 p3 q3 p27 q27 p28 q28 p29 q29 p30 q30 p31 q31 p32 q32 p33 q33 p34 q34 p35 q35 p36 q36 p37 q37 p38 q38 p39 q39 p40 q40 p41 q41 p42 q42 p43 q43 p44 q44 p45 q45 p46 q46 p47 q47 p48 q48 p49 q49 p50 q50 p51 q51 p52 q52 p53 q53 p54 q54 p55 q55 p56 q56 p57 q57 p58 q58 p59 q59; have p28 := (HBk.out.below HW1b.out).cell 28 Hac8_.out; have p29 := (HBk.out.below HW1b.out).cell 29 Hac11_.out; have p38 := (HBk.out.below HW1b.out).cell 38 Hac15_0_.out; have p39 := (HBk.out.below HW1b.out).cell 39 Hac15_1_.out; have p40 := (HBk.out.below HW1b.out).cell 40 Hac15_2_.out; have p41 := (HBk.out.below HW1b.out).cell 41 Hac15_3_.out; have p42 := (HBk.out.below HW1b.out).cell 42 Hac15_4_.out; have p43 := (HBk.out.below HW1b.out).cell 43 Hac17_.out; have q28 := (HXk.out.below HW1b.out).cell 28 Hbc8_.out; have q29 := (HXk.out.below HW1b.out).cell 29 Hbc11_.out; have q38 := (HXk.out.below HW1b.out).cell 38 Hbc15_0_.out; have q39 := (HXk.out.below HW1b.out).cell 39 Hbc15_1_.out; have q40 := (HXk.out.below HW1b.out).cell 40 Hbc15_2_.out; have q41 := (HXk.out.below HW1b.out).cell 41 Hbc15_3_.out; have q42 := (HXk.out.below HW1b.out).cell 42 Hbc15_4_.out; have q43 := (HXk.out.below HW1b.out).cell 43 Hbc17_.out; cases hq0 : eqC (ay8) (by8) <;> go_wp2_with (first | (refine op_met rfl (wpList_load_mid rfl 46 (.tmp 65) rfl w.heap.size 4 rfl ((cs.drop 4).take 23) _ ((HBk.out.below HW1b.out).part 4 23) Tryz.underlying46 rfl (by rw [List.length_take, List.length_drop, HNa.out]; kernel_rfl) ?_)) | (refine op_met rfl (wpList_load_mid rfl 46 (.tmp 67) rfl (w.heap.size + 1) 4 rfl ((ds.drop 4).take 23) _ ((HXk.out.below HW1b.out).part 4 23) Tryz.underlying46 rfl (by rw [List.length_take, List.length_drop, HNb.out]; kernel_rfl) ?_)))))
  all_goals (try (refine (same_Query _ ay3 by3 _ _ w4 (Nat.le_refl _) (Hac4.out.kept HW1.out (Nat.le_refl _)) (Hbc4.out.kept HW1.out (Nat.le_refl _))).mono ?_; rintro e' w5 ⟨rfl, hw5⟩; have HW2 := Lib.hid (HW1.out.trans (hw5.mono HW1.out.size)); have HW2b := Lib.hid (HW1b.out.trans (hw5.mono HW1b.out.size)); have hz5 : w.heap.size + 2 ≤ w5.heap.size := (by have := hw5.size; omega); clear hw5 hz4 p28 q28 p29 q29 p38 q38 p39 q39 p40 q40 p41 q41 p42 q42 p43 q43; have p28 := (HBk.out.below HW2b.out).cell 28 Hac8_.out; have p29 := (HBk.out.below HW2b.out).cell 29 Hac11_.out; have p38 := (HBk.out.below HW2b.out).cell 38 Hac15_0_.out; have p39 := (HBk.out.below HW2b.out).cell 39 Hac15_1_.out; have p40 := (HBk.out.below HW2b.out).cell 40 Hac15_2_.out; have p41 := (HBk.out.below HW2b.out).cell 41 Hac15_3_.out; have p42 := (HBk.out.below HW2b.out).cell 42 Hac15_4_.out; have p43 := (HBk.out.below HW2b.out).cell 43 Hac17_.out; have q28 := (HXk.out.below HW2b.out).cell 28 Hbc8_.out; have q29 := (HXk.out.below HW2b.out).cell 29 Hbc11_.out; have q38 := (HXk.out.below HW2b.out).cell 38 Hbc15_0_.out; have q39 := (HXk.out.below HW2b.out).cell 39 Hbc15_1_.out; have q40 := (HXk.out.below HW2b.out).cell 40 Hbc15_2_.out; have q41 := (HXk.out.below HW2b.out).cell 41 Hbc15_3_.out; have q42 := (HXk.out.below HW2b.out).cell 42 Hbc15_4_.out; have q43 := (HXk.out.below HW2b.out).cell 43 Hbc17_.out; cases hq1 : eqC (ay3) (by3) <;> go_wp2_with (first | (refine op_met rfl (wpList_load_mid rfl 46 (.tmp 65) rfl w.heap.size 4 rfl ((cs.drop 4).take 23) _ ((HBk.out.below HW2b.out).part 4 23) Tryz.underlying46 rfl (by rw [List.length_take, List.length_drop, HNa.out]; kernel_rfl) ?_)) | (refine op_met rfl (wpList_load_mid rfl 46 (.tmp 67) rfl (w.heap.size + 1) 4 rfl ((ds.drop 4).take 23) _ ((HXk.out.below HW2b.out).part 4 23) Tryz.underlying46 rfl (by rw [List.length_take, List.length_drop, HNb.out]; kernel_rfl) ?_)))))
  all_goals (try (refine (same_Table _ ay9 by9 _ _ w5 (Nat.le_refl _) (Hac15.out.kept HW2.out (Nat.le_refl _)) (Hbc15.out.kept HW2.out (Nat.le_refl _))).mono ?_; rintro e' w6 ⟨rfl, hw6⟩; have HW3 := Lib.hid (HW2.out.trans (hw6.mono HW2.out.size)); have HW3b := Lib.hid (HW2b.out.trans (hw6.mono HW2b.out.size)); have hz6 : w.heap.size + 2 ≤ w6.heap.size := (by have := hw6.size; omega); clear hw6 hz5 p28 q28 p29 q29 p38 q38 p39 q39 p40 q40 p41 q41 p42 q42 p43 q43; have p28 := (HBk.out.below HW3b.out).cell 28 Hac8_.out; have p29 := (HBk.out.below HW3b.out).cell 29 Hac11_.out; have p43 := (HBk.out.below HW3b.out).cell 43 Hac17_.out; have q28 := (HXk.out.below HW3b.out).cell 28 Hbc8_.out; have q29 := (HXk.out.below HW3b.out).cell 29 Hbc11_.out; have q43 := (HXk.out.below HW3b.out).cell 43 Hbc17_.out; cases hq2 : eqC (ay9) (by9) <;> go_wp2_with (first | (refine op_met rfl (wpList_load_mid rfl 46 (.tmp 65) rfl w.heap.size 4 rfl ((cs.drop 4).take 23) _ ((HBk.out.below HW3b.out).part 4 23) Tryz.underlying46 rfl (by rw [List.length_take, List.length_drop, HNa.out]; kernel_rfl) ?_)) | (refine op_met rfl (wpList_load_mid rfl 46 (.tmp 67) rfl (w.heap.size + 1) 4 rfl ((ds.drop 4).take 23) _ ((HXk.out.below HW3b.out).part 4 23) Tryz.underlying46 rfl (by rw [List.length_take, List.length_drop, HNb.out]; kernel_rfl) ?_)))))
  all_goals (try (refine (eqf_Row _ (same_Row (SizeOf.sizeOf (C.s ax5))) ax5 bx5 (fun x hx => by have := List.sizeOf_lt_of_mem hx; simp; omega) _ _ _ _ _ _ w6 (Hac9.out.kept HW3.out (Nat.le_refl _)) (Hbc9.out.kept HW3.out (Nat.le_refl _))).mono ?_; rintro e' w7 ⟨rfl, hw7⟩; have HW4 := Lib.hid (HW3.out.trans (hw7.mono HW3.out.size)); have HW4b := Lib.hid (HW3b.out.trans (hw7.mono HW3b.out.size)); have hz7 : w.heap.size + 2 ≤ w7.heap.size := (by have := hw7.size; omega); clear hw7 hz6 p28 q28 p29 q29 p43 q43; have p29 := (HBk.out.below HW4b.out).cell 29 Hac11_.out; have p43 := (HBk.out.below HW4b.out).cell 43 Hac17_.out; have q29 := (HXk.out.below HW4b.out).cell 29 Hbc11_.out; have q43 := (HXk.out.below HW4b.out).cell 43 Hbc17_.out; cases hq3 : eqC (C.s ax5) (C.s bx5) <;> go_wp2_with (first | (refine op_met rfl (wpList_load_mid rfl 46 (.tmp 65) rfl w.heap.size 4 rfl ((cs.drop 4).take 23) _ ((HBk.out.below HW4b.out).part 4 23) Tryz.underlying46 rfl (by rw [List.length_take, List.length_drop, HNa.out]; kernel_rfl) ?_)) | (refine op_met rfl (wpList_load_mid rfl 46 (.tmp 67) rfl (w.heap.size + 1) 4 rfl ((ds.drop 4).take 23) _ ((HXk.out.below HW4b.out).part 4 23) Tryz.underlying46 rfl (by rw [List.length_take, List.length_drop, HNb.out]; kernel_rfl) ?_)))))
  all_goals (try (refine (eqf_Set _ (same_Set (SizeOf.sizeOf (C.s ax6))) ax6 bx6 (fun x hx => by have := List.sizeOf_lt_of_mem hx; simp; omega) _ _ _ _ _ _ w7 (Hac12.out.kept HW4.out (Nat.le_refl _)) (Hbc12.out.kept HW4.out (Nat.le_refl _))).mono ?_; rintro e' w8 ⟨rfl, hw8⟩; have HW5 := Lib.hid (HW4.out.trans (hw8.mono HW4.out.size)); have HW5b := Lib.hid (HW4b.out.trans (hw8.mono HW4b.out.size)); have hz8 : w.heap.size + 2 ≤ w8.heap.size := (by have := hw8.size; omega); clear hw8 hz7 p29 q29 p43 q43; have p43 := (HBk.out.below HW5b.out).cell 43 Hac17_.out; have q43 := (HXk.out.below HW5b.out).cell 43 Hbc17_.out; cases hq4 : eqC (C.s ax6) (C.s bx6) <;> go_wp2_with (first | (refine op_met rfl (wpList_load_mid rfl 46 (.tmp 65) rfl w.heap.size 4 rfl ((cs.drop 4).take 23) _ ((HBk.out.below HW5b.out).part 4 23) Tryz.underlying46 rfl (by rw [List.length_take, List.length_drop, HNa.out]; kernel_rfl) ?_)) | (refine op_met rfl (wpList_load_mid rfl 46 (.tmp 67) rfl (w.heap.size + 1) 4 rfl ((ds.drop 4).take 23) _ ((HXk.out.below HW5b.out).part 4 23) Tryz.underlying46 rfl (by rw [List.length_take, List.length_drop, HNb.out]; kernel_rfl) ?_)))))
  all_goals (try (refine (eqf_Expr _ (same_Expr (SizeOf.sizeOf (C.s ax10))) ax10 bx10 (fun x hx => by have := List.sizeOf_lt_of_mem hx; simp; omega) _ _ _ _ _ _ w8 (Hac18.out.kept HW5.out (Nat.le_refl _)) (Hbc18.out.kept HW5.out (Nat.le_refl _))).mono ?_; rintro e' w9 ⟨rfl, hw9⟩; have HW6 := Lib.hid (HW5.out.trans (hw9.mono HW5.out.size)); have HW6b := Lib.hid (HW5b.out.trans (hw9.mono HW5b.out.size)); have hz9 : w.heap.size + 2 ≤ w9.heap.size := (by have := hw9.size; omega); clear hw9 hz8 p43 q43; cases hq5 : eqC (C.s ax10) (C.s bx10) <;> go_wp2_with (first | (refine op_met rfl (wpList_load_mid rfl 46 (.tmp 65) rfl w.heap.size 4 rfl ((cs.drop 4).take 23) _ ((HBk.out.below HW6b.out).part 4 23) Tryz.underlying46 rfl (by rw [List.length_take, List.length_drop, HNa.out]; kernel_rfl) ?_)) | (refine op_met rfl (wpList_load_mid rfl 46 (.tmp 67) rfl (w.heap.size + 1) 4 rfl ((ds.drop 4).take 23) _ ((HXk.out.below HW6b.out).part 4 23) Tryz.underlying46 rfl (by rw [List.length_take, List.length_drop, HNb.out]; kernel_rfl) ?_)))))
  all_goals
    go_ret
    first
    | exact SamePost.no (by intro e; simp at e; simp_all [toList_iff, eqC_true, eqC_false]) HW0.out
    | exact SamePost.no (by intro e; simp at e; simp_all [toList_iff, eqC_true, eqC_false]) HW1.out
    | exact SamePost.no (by intro e; simp at e; simp_all [toList_iff, eqC_true, eqC_false]) HW2.out
    | exact SamePost.no (by intro e; simp at e; simp_all [toList_iff, eqC_true, eqC_false]) HW3.out
    | exact SamePost.no (by intro e; simp at e; simp_all [toList_iff, eqC_true, eqC_false]) HW4.out
    | exact SamePost.no (by intro e; simp at e; simp_all [toList_iff, eqC_true, eqC_false]) HW5.out
    | exact SamePost.no (by intro e; simp at e; simp_all [toList_iff, eqC_true, eqC_false]) HW6.out
    | exact SamePost.yes (by simp_all [toList_iff, eqC_true, eqC_false]) HW6.out
end Go.Proofs.YtlimlmjljjmcpaaGreatDoor.Ps
