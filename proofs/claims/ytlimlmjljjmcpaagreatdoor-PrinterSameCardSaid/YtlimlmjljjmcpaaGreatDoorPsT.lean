/-
  schema.Same (Printed by gen_same2.py.)
-/
import Derived.Test.YtlimlmjljjmcpaaGreatDoorPsI
namespace Go.Proofs.YtlimlmjljjmcpaaGreatDoor.Ps
open Go Go.RowKit
set_option linter.unusedVariables false
set_option linter.unusedSimpArgs false
set_option maxHeartbeats 8000000 in
set_option maxRecDepth 100000 in
theorem same_Table (N : Nat) : SameN 34 53 N := fun x y cs ds w hN h1 h2 => by
  obtain ⟨as0, aq1, an1, am1, ax1, aq2, an2, am2, ax2, aq3, an3, am3, ax3, aq4, an4, am4, ax4, rfl, rfl, _, _, ah2, _, ah4, _, ah6, _, ah8⟩ := shp_Table h1
  have HA2 := Lib.hid ah2
  have HA4 := Lib.hid ah4
  have HA6 := Lib.hid ah6
  have HA8 := Lib.hid ah8
  obtain ⟨bs0, bq1, bn1, bm1, bx1, bq2, bn2, bm2, bx2, bq3, bn3, bm3, bx3, bq4, bn4, bm4, bx4, rfl, rfl, _, _, bh2, _, bh4, _, bh6, _, bh8⟩ := shp_Table h2
  have HB2 := Lib.hid bh2
  have HB4 := Lib.hid bh4
  have HB6 := Lib.hid bh6
  have HB8 := Lib.hid bh8
  clear h1 h2 hN ah2 ah4 ah6 ah8 bh2 bh4 bh6 bh8
  go_enter Tryz.func34, Tryz.ntmps34
  go_upto_region 1 with (fail)
  refine name_alloc2 (K := Code.wp _ _ _ _) fun w1 hB hX hw1 hz1 => ?_
  have p0 := hB.cell 0 rfl
  have q0 := hX.cell 0 rfl
  have p1 := hB.cell 1 rfl
  have q1 := hX.cell 1 rfl
  have p2 := hB.cell 2 rfl
  have q2 := hX.cell 2 rfl
  have p3 := hB.cell 3 rfl
  have q3 := hX.cell 3 rfl
  have p4 := hB.cell 4 rfl
  have q4 := hX.cell 4 rfl
  have HBk := Lib.hid hB
  have HXk := Lib.hid hX
  have HW0 := Lib.hid hw1
  clear hB hX hw1
  go_wp2_with fail
  all_goals (try (refine (eq_Column ax1 bx1 _ _ _ _ _ _ w1 (HA2.out.kept HW0.out (Nat.le_refl _)) (HB2.out.kept HW0.out (Nat.le_refl _))).mono ?_; rintro e' w4 ⟨rfl, hw4⟩; have HW1 := Lib.hid (HW0.out.trans (hw4.mono HW0.out.size)); have HW1b := Lib.hid hw4; clear hw4 p0 q0 p1 q1 p2 q2 p3 q3 p4 q4; have p0 := (HBk.out.below HW1b.out).cell 0 rfl; have q0 := (HXk.out.below HW1b.out).cell 0 rfl; have p1 := (HBk.out.below HW1b.out).cell 1 rfl; have q1 := (HXk.out.below HW1b.out).cell 1 rfl; have p2 := (HBk.out.below HW1b.out).cell 2 rfl; have q2 := (HXk.out.below HW1b.out).cell 2 rfl; have p3 := (HBk.out.below HW1b.out).cell 3 rfl; have q3 := (HXk.out.below HW1b.out).cell 3 rfl; have p4 := (HBk.out.below HW1b.out).cell 4 rfl; have q4 := (HXk.out.below HW1b.out).cell 4 rfl; cases hq0 : eqC (C.s ax1) (C.s bx1) <;> go_wp2_with fail))
  all_goals (try (refine (eq_int ax2 bx2 _ _ _ _ _ _ w4 (HA4.out.kept HW1.out (Nat.le_refl _)) (HB4.out.kept HW1.out (Nat.le_refl _))).mono ?_; rintro e' w5 ⟨rfl, hw5⟩; have HW2 := Lib.hid (HW1.out.trans (hw5.mono HW1.out.size)); have HW2b := Lib.hid (HW1b.out.trans (hw5.mono HW1b.out.size)); clear hw5 p0 q0 p1 q1 p2 q2 p3 q3 p4 q4; have p0 := (HBk.out.below HW2b.out).cell 0 rfl; have q0 := (HXk.out.below HW2b.out).cell 0 rfl; have p1 := (HBk.out.below HW2b.out).cell 1 rfl; have q1 := (HXk.out.below HW2b.out).cell 1 rfl; have p2 := (HBk.out.below HW2b.out).cell 2 rfl; have q2 := (HXk.out.below HW2b.out).cell 2 rfl; have p3 := (HBk.out.below HW2b.out).cell 3 rfl; have q3 := (HXk.out.below HW2b.out).cell 3 rfl; have p4 := (HBk.out.below HW2b.out).cell 4 rfl; have q4 := (HXk.out.below HW2b.out).cell 4 rfl; cases hq1 : eqC (C.s ax2) (C.s bx2) <;> go_wp2_with fail))
  all_goals (try (refine (eqf_Foreign _ (same_Foreign (SizeOf.sizeOf (C.s ax3))) ax3 bx3 (fun x hx => by have := List.sizeOf_lt_of_mem hx; simp; omega) _ _ _ _ _ _ w5 (HA6.out.kept HW2.out (Nat.le_refl _)) (HB6.out.kept HW2.out (Nat.le_refl _))).mono ?_; rintro e' w6 ⟨rfl, hw6⟩; have HW3 := Lib.hid (HW2.out.trans (hw6.mono HW2.out.size)); have HW3b := Lib.hid (HW2b.out.trans (hw6.mono HW2b.out.size)); clear hw6 p0 q0 p1 q1 p2 q2 p3 q3 p4 q4; have p0 := (HBk.out.below HW3b.out).cell 0 rfl; have q0 := (HXk.out.below HW3b.out).cell 0 rfl; have p1 := (HBk.out.below HW3b.out).cell 1 rfl; have q1 := (HXk.out.below HW3b.out).cell 1 rfl; have p2 := (HBk.out.below HW3b.out).cell 2 rfl; have q2 := (HXk.out.below HW3b.out).cell 2 rfl; have p3 := (HBk.out.below HW3b.out).cell 3 rfl; have q3 := (HXk.out.below HW3b.out).cell 3 rfl; have p4 := (HBk.out.below HW3b.out).cell 4 rfl; have q4 := (HXk.out.below HW3b.out).cell 4 rfl; cases hq2 : eqC (C.s ax3) (C.s bx3) <;> go_wp2_with fail))
  all_goals (try (refine (eqf_Expr _ (same_Expr (SizeOf.sizeOf (C.s ax4))) ax4 bx4 (fun x hx => by have := List.sizeOf_lt_of_mem hx; simp; omega) _ _ _ _ _ _ w6 (HA8.out.kept HW3.out (Nat.le_refl _)) (HB8.out.kept HW3.out (Nat.le_refl _))).mono ?_; rintro e' w7 ⟨rfl, hw7⟩; have HW4 := Lib.hid (HW3.out.trans (hw7.mono HW3.out.size)); have HW4b := Lib.hid (HW3b.out.trans (hw7.mono HW3b.out.size)); clear hw7 p0 q0 p1 q1 p2 q2 p3 q3 p4 q4; have p0 := (HBk.out.below HW4b.out).cell 0 rfl; have q0 := (HXk.out.below HW4b.out).cell 0 rfl; have p1 := (HBk.out.below HW4b.out).cell 1 rfl; have q1 := (HXk.out.below HW4b.out).cell 1 rfl; have p2 := (HBk.out.below HW4b.out).cell 2 rfl; have q2 := (HXk.out.below HW4b.out).cell 2 rfl; have p3 := (HBk.out.below HW4b.out).cell 3 rfl; have q3 := (HXk.out.below HW4b.out).cell 3 rfl; have p4 := (HBk.out.below HW4b.out).cell 4 rfl; have q4 := (HXk.out.below HW4b.out).cell 4 rfl; cases hq3 : eqC (C.s ax4) (C.s bx4) <;> go_wp2_with fail))
  all_goals
    go_ret
    first
    | exact SamePost.no (by intro e; simp at e; simp_all [toList_iff, eqC_true, eqC_false]) HW0.out
    | exact SamePost.no (by intro e; simp at e; simp_all [toList_iff, eqC_true, eqC_false]) HW1.out
    | exact SamePost.no (by intro e; simp at e; simp_all [toList_iff, eqC_true, eqC_false]) HW2.out
    | exact SamePost.no (by intro e; simp at e; simp_all [toList_iff, eqC_true, eqC_false]) HW3.out
    | exact SamePost.no (by intro e; simp at e; simp_all [toList_iff, eqC_true, eqC_false]) HW4.out
    | exact SamePost.yes (by simp_all [toList_iff, eqC_true, eqC_false]) HW4.out
end Go.Proofs.YtlimlmjljjmcpaaGreatDoor.Ps
