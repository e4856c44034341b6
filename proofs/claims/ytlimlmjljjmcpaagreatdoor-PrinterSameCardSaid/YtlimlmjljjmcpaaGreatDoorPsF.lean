/-
  sameItem, sameJoin, sameSet, sameRow, sameForeign (Printed by gen_same2.py.)
-/
import Derived.Test.YtlimlmjljjmcpaaGreatDoorPsE
import Derived.Test.YtlimlmjljjmcpaaGreatDoorPsQ
namespace Go.Proofs.YtlimlmjljjmcpaaGreatDoor.Ps
open Go Go.RowKit
set_option linter.unusedVariables false
set_option linter.unusedSimpArgs false
set_option maxHeartbeats 8000000 in
set_option maxRecDepth 100000 in
theorem same_Item (N : Nat) : SameN 154 171 N := fun x y cs ds w hN h1 h2 => by
  obtain ⟨ay0, au0, au1, au2, au3, au4, au5, au6, ai1, ab2, as3, rfl, rfl, ah0, _⟩ := shp_Item h1
  obtain ⟨aii0, aii1, aii2_0, aii2_1, ais2_2, ais3, aiq4, ain4, aim4, aix4, ah0e, _, _, _, _, _⟩ := shp_Expr ah0
  cases ah0e
  have HA0 := Lib.hid ah0
  obtain ⟨by0, bu0, bu1, bu2, bu3, bu4, bu5, bu6, bi1, bb2, bs3, rfl, rfl, bh0, _⟩ := shp_Item h2
  obtain ⟨bii0, bii1, bii2_0, bii2_1, bis2_2, bis3, biq4, bin4, bim4, bix4, bh0e, _, _, _, _, _⟩ := shp_Expr bh0
  cases bh0e
  have HB0 := Lib.hid bh0
  clear h1 h2 hN ah0 bh0
  go_enter Tryz.func154, Tryz.ntmps154
  go_upto_region 1 with (fail)
  refine name_alloc2 (K := Code.wp _ _ _ _) fun w1 hB hX hw1 hz1 => ?_
  have p0 := hB.cell 0 rfl
  have q0 := hX.cell 0 rfl
  have p1 := hB.cell 1 rfl
  have q1 := hX.cell 1 rfl
  have p2 := hB.cell 2 rfl
  have q2 := hX.cell 2 rfl
  have p3 := hB.cell 3 rfl
  have q3 := hX.cell 3 rfl
  have p4 := hB.cell 4 rfl
  have q4 := hX.cell 4 rfl
  have p5 := hB.cell 5 rfl
  have q5 := hX.cell 5 rfl
  have p6 := hB.cell 6 rfl
  have q6 := hX.cell 6 rfl
  have p7 := hB.cell 7 rfl
  have q7 := hX.cell 7 rfl
  have p8 := hB.cell 8 rfl
  have q8 := hX.cell 8 rfl
  have p9 := hB.cell 9 rfl
  have q9 := hX.cell 9 rfl
  have HBk := Lib.hid hB
  have HXk := Lib.hid hX
  have HW0 := Lib.hid hw1
  clear hB hX hw1
  go_wp2_with fail
  all_goals (try (refine (same_Expr _ ay0 by0 _ _ w1 (Nat.le_refl _) (HA0.out.kept HW0.out (Nat.le_refl _)) (HB0.out.kept HW0.out (Nat.le_refl _))).mono ?_; rintro e' w4 ⟨rfl, hw4⟩; have HW1 := Lib.hid (HW0.out.trans (hw4.mono HW0.out.size)); have HW1b := Lib.hid hw4; clear hw4 p0 q0 p1 q1 p2 q2 p3 q3 p4 q4 p5 q5 p6 q6 p7 q7 p8 q8 p9 q9; have p0 := (HBk.out.below HW1b.out).cell 0 rfl; have q0 := (HXk.out.below HW1b.out).cell 0 rfl; have p1 := (HBk.out.below HW1b.out).cell 1 rfl; have q1 := (HXk.out.below HW1b.out).cell 1 rfl; have p2 := (HBk.out.below HW1b.out).cell 2 rfl; have q2 := (HXk.out.below HW1b.out).cell 2 rfl; have p3 := (HBk.out.below HW1b.out).cell 3 rfl; have q3 := (HXk.out.below HW1b.out).cell 3 rfl; have p4 := (HBk.out.below HW1b.out).cell 4 rfl; have q4 := (HXk.out.below HW1b.out).cell 4 rfl; have p5 := (HBk.out.below HW1b.out).cell 5 rfl; have q5 := (HXk.out.below HW1b.out).cell 5 rfl; have p6 := (HBk.out.below HW1b.out).cell 6 rfl; have q6 := (HXk.out.below HW1b.out).cell 6 rfl; have p7 := (HBk.out.below HW1b.out).cell 7 rfl; have q7 := (HXk.out.below HW1b.out).cell 7 rfl; have p8 := (HBk.out.below HW1b.out).cell 8 rfl; have q8 := (HXk.out.below HW1b.out).cell 8 rfl; have p9 := (HBk.out.below HW1b.out).cell 9 rfl; have q9 := (HXk.out.below HW1b.out).cell 9 rfl; cases hq0 : eqC (ay0) (by0) <;> go_wp2_with fail))
  all_goals
    go_ret
    first
    | exact SamePost.no (by intro e; simp at e; simp_all [toList_iff, eqC_true, eqC_false]) HW0.out
    | exact SamePost.no (by intro e; simp at e; simp_all [toList_iff, eqC_true, eqC_false]) HW1.out
    | exact SamePost.yes (by simp_all [toList_iff, eqC_true, eqC_false]) HW1.out
set_option maxHeartbeats 8000000 in
set_option maxRecDepth 100000 in
theorem same_Join (N : Nat) : SameN 156 175 N := fun x y cs ds w hN h1 h2 => by
  obtain ⟨as0_0, as0_1, ai0_2_0, ai0_2_1, ai0_2_2, ai0_3, ab1, ay2, au7, au8, au9, au10, au11, au12, au13, rfl, rfl, _, _, ah2⟩ := shp_Join h1
  obtain ⟨aii0, aii1, aii2_0, aii2_1, ais2_2, ais3, aiq4, ain4, aim4, aix4, ah2e, _, _, _, _, _⟩ := shp_Expr ah2
  cases ah2e
  have HA2 := Lib.hid ah2
  obtain ⟨bs0_0, bs0_1, bi0_2_0, bi0_2_1, bi0_2_2, bi0_3, bb1, by2, bu7, bu8, bu9, bu10, bu11, bu12, bu13, rfl, rfl, _, _, bh2⟩ := shp_Join h2
  obtain ⟨bii0, bii1, bii2_0, bii2_1, bis2_2, bis3, biq4, bin4, bim4, bix4, bh2e, _, _, _, _, _⟩ := shp_Expr bh2
  cases bh2e
  have HB2 := Lib.hid bh2
  clear h1 h2 hN ah2 bh2
  go_enter Tryz.func156, Tryz.ntmps156
  go_upto_region 1 with (fail)
  refine name_alloc2 (K := Code.wp _ _ _ _) fun w1 hB hX hw1 hz1 => ?_
  have p0 := hB.cell 0 rfl
  have q0 := hX.cell 0 rfl
  have p1 := hB.cell 1 rfl
  have q1 := hX.cell 1 rfl
  have p2 := hB.cell 2 rfl
  have q2 := hX.cell 2 rfl
  have p3 := hB.cell 3 rfl
  have q3 := hX.cell 3 rfl
  have p4 := hB.cell 4 rfl
  have q4 := hX.cell 4 rfl
  have p5 := hB.cell 5 rfl
  have q5 := hX.cell 5 rfl
  have p6 := hB.cell 6 rfl
  have q6 := hX.cell 6 rfl
  have p7 := hB.cell 7 rfl
  have q7 := hX.cell 7 rfl
  have p8 := hB.cell 8 rfl
  have q8 := hX.cell 8 rfl
  have p9 := hB.cell 9 rfl
  have q9 := hX.cell 9 rfl
  have p10 := hB.cell 10 rfl
  have q10 := hX.cell 10 rfl
  have p11 := hB.cell 11 rfl
  have q11 := hX.cell 11 rfl
  have p12 := hB.cell 12 rfl
  have q12 := hX.cell 12 rfl
  have p13 := hB.cell 13 rfl
  have q13 := hX.cell 13 rfl
  have HBk := Lib.hid hB
  have HXk := Lib.hid hX
  have HW0 := Lib.hid hw1
  clear hB hX hw1
  go_wp2_with fail
  all_goals (try (refine (same_Expr _ ay2 by2 _ _ w1 (Nat.le_refl _) (HA2.out.kept HW0.out (Nat.le_refl _)) (HB2.out.kept HW0.out (Nat.le_refl _))).mono ?_; rintro e' w4 ⟨rfl, hw4⟩; have HW1 := Lib.hid (HW0.out.trans (hw4.mono HW0.out.size)); have HW1b := Lib.hid hw4; clear hw4 p0 q0 p1 q1 p2 q2 p3 q3 p4 q4 p5 q5 p6 q6 p7 q7 p8 q8 p9 q9 p10 q10 p11 q11 p12 q12 p13 q13; have p0 := (HBk.out.below HW1b.out).cell 0 rfl; have q0 := (HXk.out.below HW1b.out).cell 0 rfl; have p1 := (HBk.out.below HW1b.out).cell 1 rfl; have q1 := (HXk.out.below HW1b.out).cell 1 rfl; have p2 := (HBk.out.below HW1b.out).cell 2 rfl; have q2 := (HXk.out.below HW1b.out).cell 2 rfl; have p3 := (HBk.out.below HW1b.out).cell 3 rfl; have q3 := (HXk.out.below HW1b.out).cell 3 rfl; have p4 := (HBk.out.below HW1b.out).cell 4 rfl; have q4 := (HXk.out.below HW1b.out).cell 4 rfl; have p5 := (HBk.out.below HW1b.out).cell 5 rfl; have q5 := (HXk.out.below HW1b.out).cell 5 rfl; have p6 := (HBk.out.below HW1b.out).cell 6 rfl; have q6 := (HXk.out.below HW1b.out).cell 6 rfl; have p7 := (HBk.out.below HW1b.out).cell 7 rfl; have q7 := (HXk.out.below HW1b.out).cell 7 rfl; have p8 := (HBk.out.below HW1b.out).cell 8 rfl; have q8 := (HXk.out.below HW1b.out).cell 8 rfl; have p9 := (HBk.out.below HW1b.out).cell 9 rfl; have q9 := (HXk.out.below HW1b.out).cell 9 rfl; have p10 := (HBk.out.below HW1b.out).cell 10 rfl; have q10 := (HXk.out.below HW1b.out).cell 10 rfl; have p11 := (HBk.out.below HW1b.out).cell 11 rfl; have q11 := (HXk.out.below HW1b.out).cell 11 rfl; have p12 := (HBk.out.below HW1b.out).cell 12 rfl; have q12 := (HXk.out.below HW1b.out).cell 12 rfl; have p13 := (HBk.out.below HW1b.out).cell 13 rfl; have q13 := (HXk.out.below HW1b.out).cell 13 rfl; cases hq0 : eqC (ay2) (by2) <;> go_wp2_with fail))
  all_goals
    go_ret
    first
    | exact SamePost.no (by intro e; simp at e; simp_all [toList_iff, eqC_true, eqC_false]) HW0.out
    | exact SamePost.no (by intro e; simp at e; simp_all [toList_iff, eqC_true, eqC_false]) HW1.out
    | exact SamePost.yes (by simp_all [toList_iff, eqC_true, eqC_false]) HW1.out
set_option maxHeartbeats 8000000 in
set_option maxRecDepth 100000 in
theorem same_Set (N : Nat) : SameN 38 87 N := fun x y cs ds w hN h1 h2 => by
  obtain ⟨as0, ay1, au1, au2, au3, au4, au5, au6, au7, rfl, rfl, _, ah1⟩ := shp_Set h1
  obtain ⟨aii0, aii1, aii2_0, aii2_1, ais2_2, ais3, aiq4, ain4, aim4, aix4, ah1e, _, _, _, _, _⟩ := shp_Expr ah1
  cases ah1e
  have HA1 := Lib.hid ah1
  obtain ⟨bs0, by1, bu1, bu2, bu3, bu4, bu5, bu6, bu7, rfl, rfl, _, bh1⟩ := shp_Set h2
  obtain ⟨bii0, bii1, bii2_0, bii2_1, bis2_2, bis3, biq4, bin4, bim4, bix4, bh1e, _, _, _, _, _⟩ := shp_Expr bh1
  cases bh1e
  have HB1 := Lib.hid bh1
  clear h1 h2 hN ah1 bh1
  go_enter Tryz.func38, Tryz.ntmps38
  go_upto_region 1 with (fail)
  refine name_alloc2 (K := Code.wp _ _ _ _) fun w1 hB hX hw1 hz1 => ?_
  have p0 := hB.cell 0 rfl
  have q0 := hX.cell 0 rfl
  have p1 := hB.cell 1 rfl
  have q1 := hX.cell 1 rfl
  have p2 := hB.cell 2 rfl
  have q2 := hX.cell 2 rfl
  have p3 := hB.cell 3 rfl
  have q3 := hX.cell 3 rfl
  have p4 := hB.cell 4 rfl
  have q4 := hX.cell 4 rfl
  have p5 := hB.cell 5 rfl
  have q5 := hX.cell 5 rfl
  have p6 := hB.cell 6 rfl
  have q6 := hX.cell 6 rfl
  have p7 := hB.cell 7 rfl
  have q7 := hX.cell 7 rfl
  have HBk := Lib.hid hB
  have HXk := Lib.hid hX
  have HW0 := Lib.hid hw1
  clear hB hX hw1
  go_wp2_with fail
  all_goals (try (refine (same_Expr _ ay1 by1 _ _ w1 (Nat.le_refl _) (HA1.out.kept HW0.out (Nat.le_refl _)) (HB1.out.kept HW0.out (Nat.le_refl _))).mono ?_; rintro e' w4 ⟨rfl, hw4⟩; have HW1 := Lib.hid (HW0.out.trans (hw4.mono HW0.out.size)); have HW1b := Lib.hid hw4; clear hw4 p0 q0 p1 q1 p2 q2 p3 q3 p4 q4 p5 q5 p6 q6 p7 q7; have p0 := (HBk.out.below HW1b.out).cell 0 rfl; have q0 := (HXk.out.below HW1b.out).cell 0 rfl; have p1 := (HBk.out.below HW1b.out).cell 1 rfl; have q1 := (HXk.out.below HW1b.out).cell 1 rfl; have p2 := (HBk.out.below HW1b.out).cell 2 rfl; have q2 := (HXk.out.below HW1b.out).cell 2 rfl; have p3 := (HBk.out.below HW1b.out).cell 3 rfl; have q3 := (HXk.out.below HW1b.out).cell 3 rfl; have p4 := (HBk.out.below HW1b.out).cell 4 rfl; have q4 := (HXk.out.below HW1b.out).cell 4 rfl; have p5 := (HBk.out.below HW1b.out).cell 5 rfl; have q5 := (HXk.out.below HW1b.out).cell 5 rfl; have p6 := (HBk.out.below HW1b.out).cell 6 rfl; have q6 := (HXk.out.below HW1b.out).cell 6 rfl; have p7 := (HBk.out.below HW1b.out).cell 7 rfl; have q7 := (HXk.out.below HW1b.out).cell 7 rfl; cases hq0 : eqC (ay1) (by1) <;> go_wp2_with fail))
  all_goals
    go_ret
    first
    | exact SamePost.no (by intro e; simp at e; simp_all [toList_iff, eqC_true, eqC_false]) HW0.out
    | exact SamePost.no (by intro e; simp at e; simp_all [toList_iff, eqC_true, eqC_false]) HW1.out
    | exact SamePost.yes (by simp_all [toList_iff, eqC_true, eqC_false]) HW1.out
set_option maxHeartbeats 8000000 in
set_option maxRecDepth 100000 in
theorem same_Foreign (N : Nat) : SameN 88 122 N := fun x y cs ds w hN h1 h2 => by
  obtain ⟨aq0, an0, am0, ax0, as1, rfl, rfl, _, ah1, _⟩ := shp_Foreign h1
  have HA1 := Lib.hid ah1
  obtain ⟨bq0, bn0, bm0, bx0, bs1, rfl, rfl, _, bh1, _⟩ := shp_Foreign h2
  have HB1 := Lib.hid bh1
  clear h1 h2 hN ah1 bh1
  go_enter Tryz.func88, Tryz.ntmps88
  go_upto_region 1 with (fail)
  refine name_alloc2 (K := Code.wp _ _ _ _) fun w1 hB hX hw1 hz1 => ?_
  have p0 := hB.cell 0 rfl
  have q0 := hX.cell 0 rfl
  have p1 := hB.cell 1 rfl
  have q1 := hX.cell 1 rfl
  have HBk := Lib.hid hB
  have HXk := Lib.hid hX
  have HW0 := Lib.hid hw1
  clear hB hX hw1
  go_wp2_with fail
  all_goals (try (refine (eq_int ax0 bx0 _ _ _ _ _ _ w1 (HA1.out.kept HW0.out (Nat.le_refl _)) (HB1.out.kept HW0.out (Nat.le_refl _))).mono ?_; rintro e' w4 ⟨rfl, hw4⟩; have HW1 := Lib.hid (HW0.out.trans (hw4.mono HW0.out.size)); have HW1b := Lib.hid hw4; clear hw4 p0 q0 p1 q1; have p0 := (HBk.out.below HW1b.out).cell 0 rfl; have q0 := (HXk.out.below HW1b.out).cell 0 rfl; have p1 := (HBk.out.below HW1b.out).cell 1 rfl; have q1 := (HXk.out.below HW1b.out).cell 1 rfl; cases hq0 : eqC (C.s ax0) (C.s bx0) <;> go_wp2_with fail))
  all_goals
    go_ret
    first
    | exact SamePost.no (by intro e; simp at e; simp_all [toList_iff, eqC_true, eqC_false]) HW0.out
    | exact SamePost.no (by intro e; simp at e; simp_all [toList_iff, eqC_true, eqC_false]) HW1.out
    | exact SamePost.yes (by simp_all [toList_iff, eqC_true, eqC_false]) HW1.out
set_option maxHeartbeats 4000000 in
theorem same_Row (N : Nat) : SameS 36 24 N := fun x y v u w hN h1 h2 => by
  obtain ⟨A, n, m, xs, e1, rfl, _⟩ := h1.slice_inv Tryz.underlying24
  obtain ⟨B, n', m', ys, e2, rfl, _⟩ := h2.slice_inv Tryz.underlying24
  cases e1
  cases e2
  have HX := Lib.hid h1
  have HY := Lib.hid h2
  clear h1 h2
  go_enter Tryz.func36, Tryz.ntmps36
  go_wp2_with fail
  refine (eqf_Expr _ (same_Expr (SizeOf.sizeOf (C.s xs))) xs ys (fun x hx => by have := List.sizeOf_lt_of_mem hx; simp; omega) _ _ _ _ _ _ w HX.out HY.out).mono ?_
  rintro e' w4 ⟨rfl, hw4⟩
  have HW4 := Lib.hid hw4
  clear hw4
  go_wp2_with fail
  go_ret
  exact ⟨rfl, HW4.out⟩
end Go.Proofs.YtlimlmjljjmcpaaGreatDoor.Ps
