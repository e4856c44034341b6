/-
  The reference's comparison of selects (Printed by gen_rsame.py.)
-/
import Derived.Test.YtlimlmjljjmcpaaGreatDoorPsR2
namespace Go.Proofs.YtlimlmjljjmcpaaGreatDoor.Ps
open Go Go.RowKit
set_option linter.unusedVariables false
set_option linter.unusedSimpArgs false
set_option maxHeartbeats 20000000 in
set_option maxRecDepth 100000 in
theorem rsame_Select (N : Nat) : SameN 157 42 N := fun x y cs ds w hN h1 h2 => by
  obtain ⟨ab0, aq1, an1, am1, ax1, as2_0, as2_1, ai2_2_0, ai2_2_1, ai2_2_2, ai2_3, aq3, an3, am3, ax3, ab4, ay5, aq6, an6, am6, ax6, an, rfl, ac0, ac1, ac2, ac3, ac4, ac5, ac6, ac7, ac8, ac9, ac10, ac11, ac12, ac13, ac14, ac15, ac16, ac17, ac18, ac19⟩ := shp_Select h1
  obtain ⟨ai5i0, ai5i1, ai5i2_0, ai5i2_1, ai5s2_2, ai5s3, ai5q4, ai5n4, ai5m4, ai5x4, ac16e, _, _, _, _, _⟩ := shp_Expr ac16
  have ac16_0 := of_take ac16e (j := 0) rfl (by omega)
  have ac16_1 := of_take ac16e (j := 1) rfl (by omega)
  have ac16_2 := of_take ac16e (j := 2) rfl (by omega)
  have ac16_3 := of_take ac16e (j := 3) rfl (by omega)
  have ac16_4 := of_take ac16e (j := 4) rfl (by omega)
  have ac16_5 := of_take ac16e (j := 5) rfl (by omega)
  have ac16_6 := of_take ac16e (j := 6) rfl (by omega)
  rw [ac16e] at ac16
  obtain ⟨bb0, bq1, bn1, bm1, bx1, bs2_0, bs2_1, bi2_2_0, bi2_2_1, bi2_2_2, bi2_3, bq3, bn3, bm3, bx3, bb4, by5, bq6, bn6, bm6, bx6, bn, rfl, bc0, bc1, bc2, bc3, bc4, bc5, bc6, bc7, bc8, bc9, bc10, bc11, bc12, bc13, bc14, bc15, bc16, bc17, bc18, bc19⟩ := shp_Select h2
  obtain ⟨bi5i0, bi5i1, bi5i2_0, bi5i2_1, bi5s2_2, bi5s3, bi5q4, bi5n4, bi5m4, bi5x4, bc16e, _, _, _, _, _⟩ := shp_Expr bc16
  have bc16_0 := of_take bc16e (j := 0) rfl (by omega)
  have bc16_1 := of_take bc16e (j := 1) rfl (by omega)
  have bc16_2 := of_take bc16e (j := 2) rfl (by omega)
  have bc16_3 := of_take bc16e (j := 3) rfl (by omega)
  have bc16_4 := of_take bc16e (j := 4) rfl (by omega)
  have bc16_5 := of_take bc16e (j := 5) rfl (by omega)
  have bc16_6 := of_take bc16e (j := 6) rfl (by omega)
  rw [bc16e] at bc16
  have Hac3 := Lib.hid ac3
  have Hac14 := Lib.hid ac14
  have Hac16 := Lib.hid ac16
  have Hac19 := Lib.hid ac19
  have Hbc3 := Lib.hid bc3
  have Hbc14 := Lib.hid bc14
  have Hbc16 := Lib.hid bc16
  have Hbc19 := Lib.hid bc19
  obtain ⟨la1, na1⟩ := slice_len Tryz.underlying35 (by kernel_rfl : Tryz.prog.bytesOf 171 = 120) (by decide) ac3
  have La1 := Lib.hid la1
  obtain ⟨lb1, nb1⟩ := slice_len Tryz.underlying35 (by kernel_rfl : Tryz.prog.bytesOf 171 = 120) (by decide) bc3
  have Lb1 := Lib.hid lb1
  obtain ⟨la3, na3⟩ := slice_len Tryz.underlying40 (by kernel_rfl : Tryz.prog.bytesOf 175 = 160) (by decide) ac14
  have La3 := Lib.hid la3
  obtain ⟨lb3, nb3⟩ := slice_len Tryz.underlying40 (by kernel_rfl : Tryz.prog.bytesOf 175 = 160) (by decide) bc14
  have Lb3 := Lib.hid lb3
  obtain ⟨la6, na6⟩ := slice_len Tryz.underlying24 (by kernel_rfl : Tryz.prog.bytesOf 26 = 88) (by decide) ac19
  have La6 := Lib.hid la6
  obtain ⟨lb6, nb6⟩ := slice_len Tryz.underlying24 (by kernel_rfl : Tryz.prog.bytesOf 26 = 88) (by decide) bc19
  have Lb6 := Lib.hid lb6
  have HNa := Lib.hid an
  have HNb := Lib.hid bn
  have Hac0_ := Lib.hid ac0
  have Hac2_ := Lib.hid ac2
  have Hac6_ := Lib.hid ac6
  have Hac7_ := Lib.hid ac7
  have Hac8_ := Lib.hid ac8
  have Hac9_ := Lib.hid ac9
  have Hac10_ := Lib.hid ac10
  have Hac11_ := Lib.hid ac11
  have Hac13_ := Lib.hid ac13
  have Hac15_ := Lib.hid ac15
  have Hac16_0_ := Lib.hid ac16_0
  have Hac16_1_ := Lib.hid ac16_1
  have Hac16_2_ := Lib.hid ac16_2
  have Hac16_3_ := Lib.hid ac16_3
  have Hac16_4_ := Lib.hid ac16_4
  have Hac16_5_ := Lib.hid ac16_5
  have Hac16_6_ := Lib.hid ac16_6
  have Hac18_ := Lib.hid ac18
  have Hbc0_ := Lib.hid bc0
  have Hbc2_ := Lib.hid bc2
  have Hbc6_ := Lib.hid bc6
  have Hbc7_ := Lib.hid bc7
  have Hbc8_ := Lib.hid bc8
  have Hbc9_ := Lib.hid bc9
  have Hbc10_ := Lib.hid bc10
  have Hbc11_ := Lib.hid bc11
  have Hbc13_ := Lib.hid bc13
  have Hbc15_ := Lib.hid bc15
  have Hbc16_0_ := Lib.hid bc16_0
  have Hbc16_1_ := Lib.hid bc16_1
  have Hbc16_2_ := Lib.hid bc16_2
  have Hbc16_3_ := Lib.hid bc16_3
  have Hbc16_4_ := Lib.hid bc16_4
  have Hbc16_5_ := Lib.hid bc16_5
  have Hbc16_6_ := Lib.hid bc16_6
  have Hbc18_ := Lib.hid bc18
  clear h1 h2 hN an bn ac3 ac14 ac16 ac19 bc3 bc14 bc16 bc19 ac0 ac2 ac6 ac7 ac8 ac9 ac10 ac11 ac13 ac15 ac16_0 ac16_1 ac16_2 ac16_3 ac16_4 ac16_5 ac16_6 ac18 bc0 bc2 bc6 bc7 bc8 bc9 bc10 bc11 bc13 bc15 bc16_0 bc16_1 bc16_2 bc16_3 bc16_4 bc16_5 bc16_6 bc18 la1 lb1 la3 lb3 la6 lb6 na6 nb6
  go_enter Tryz.func157, Tryz.ntmps157
  go_wp2_with (refine box_new rfl 42 (.tmp 0) rfl cs rfl ?_)
  intro w1 hB hw1 hz1
  go_wp2_with (refine box_new rfl 42 (.tmp 1) rfl ds rfl ?_)
  intro w2 hX hw2 hz2
  rw [← hz1] at hw2
  have HW0 := Lib.hid (hw1.trans (hw2.mono hw1.size))
  have HBk := Lib.hid (hB.below hw2)
  have HXk := Lib.hid hX
  have hz3 : w.heap.size + 2 ≤ w2.heap.size := by omega
  clear hw1 hw2 hB hX hz1 hz2
  have p0 := (HBk.out).cell 0 Hac0_.out
  have q0 := (HXk.out).cell 0 Hbc0_.out
  have p1 := (HBk.out).cell 1 Hac2_.out
  have q1 := (HXk.out).cell 1 Hbc2_.out
  have p2 := (HBk.out).cell 2 Hac6_.out
  have q2 := (HXk.out).cell 2 Hbc6_.out
  have p3 := (HBk.out).cell 3 Hac7_.out
  have q3 := (HXk.out).cell 3 Hbc7_.out
  have p4 := (HBk.out).cell 4 Hac8_.out
  have q4 := (HXk.out).cell 4 Hbc8_.out
  have p5 := (HBk.out).cell 5 Hac9_.out
  have q5 := (HXk.out).cell 5 Hbc9_.out
  have p6 := (HBk.out).cell 6 Hac10_.out
  have q6 := (HXk.out).cell 6 Hbc10_.out
  have p7 := (HBk.out).cell 7 Hac11_.out
  have q7 := (HXk.out).cell 7 Hbc11_.out
  have p8 := (HBk.out).cell 8 Hac13_.out
  have q8 := (HXk.out).cell 8 Hbc13_.out
  have p9 := (HBk.out).cell 9 Hac15_.out
  have q9 := (HXk.out).cell 9 Hbc15_.out
  have p10 := (HBk.out).cell 10 Hac16_0_.out
  have q10 := (HXk.out).cell 10 Hbc16_0_.out
  have p11 := (HBk.out).cell 11 Hac16_1_.out
  have q11 := (HXk.out).cell 11 Hbc16_1_.out
  have p12 := (HBk.out).cell 12 Hac16_2_.out
  have q12 := (HXk.out).cell 12 Hbc16_2_.out
  have p13 := (HBk.out).cell 13 Hac16_3_.out
  have q13 := (HXk.out).cell 13 Hbc16_3_.out
  have p14 := (HBk.out).cell 14 Hac16_4_.out
  have q14 := (HXk.out).cell 14 Hbc16_4_.out
  have p15 := (HBk.out).cell 15 Hac16_5_.out
  have q15 := (HXk.out).cell 15 Hbc16_5_.out
  have p16 := (HBk.out).cell 16 Hac16_6_.out
  have q16 := (HXk.out).cell 16 Hbc16_6_.out
  have p17 := (HBk.out).cell 17 Hac18_.out
  have q17 := (HXk.out).cell 17 Hbc18_.out
  go_wp2_with fail
  all_goals (try (refine (rsame_Expr _ ay5 by5 _ _ w2 (Nat.le_refl _) (Hac16.out.kept HW0.out (Nat.le_refl _)) (Hbc16.out.kept HW0.out (Nat.le_refl _))).mono ?_; rintro e' w14 ⟨rfl, hw14⟩; have HW1 := Lib.hid (HW0.out.trans (hw14.mono HW0.out.size)); have HW1b := Lib.hid hw14; have hz4 : w.heap.size + 2 ≤ w14.heap.size := (by have := hw14.size; omega); clear hw14 hz3 p0 q0 p1 q1 p2 q2 p3 q3 p4 q4 p5 q5 p6 q6 p7 q7 p8 q8 p9 q9 p10 q10 p11 q11 p12 q12 p13 q13 p14 q14 p15 q15 p16 q16 p17 q17; have p1 := (HBk.out.below HW1b.out).cell 1 Hac2_.out; have q1 := (HXk.out.below HW1b.out).cell 1 Hbc2_.out; have p8 := (HBk.out.below HW1b.out).cell 8 Hac13_.out; have q8 := (HXk.out.below HW1b.out).cell 8 Hbc13_.out; have p17 := (HBk.out.below HW1b.out).cell 17 Hac18_.out; have q17 := (HXk.out.below HW1b.out).cell 17 Hbc18_.out; cases hq0 : eqC ay5 by5 <;> go_wp2_with fail))
  all_goals (try (refine (r_List ax6 bx6 _ _ _ _ _ _ w14 (Hac19.out.kept HW1.out (Nat.le_refl _)) (Hbc19.out.kept HW1.out (Nat.le_refl _))).mono ?_; rintro e' w15 ⟨rfl, hw15⟩; have HW2 := Lib.hid (HW1.out.trans (hw15.mono HW1.out.size)); have HW2b := Lib.hid (HW1b.out.trans (hw15.mono HW1b.out.size)); have hz5 : w.heap.size + 2 ≤ w15.heap.size := (by have := hw15.size; omega); clear hw15 hz4 p1 q1 p8 q8 p17 q17; have p1 := (HBk.out.below HW2b.out).cell 1 Hac2_.out; have q1 := (HXk.out.below HW2b.out).cell 1 Hbc2_.out; have p8 := (HBk.out.below HW2b.out).cell 8 Hac13_.out; have q8 := (HXk.out.below HW2b.out).cell 8 Hbc13_.out; cases hq1 : eqC (C.s ax6) (C.s bx6) <;> go_wp2_with fail))
  all_goals (try (go_ret; first | exact SamePost.no (by intro e; simp at e; have := La1.out; have := Lb1.out; have := La3.out; have := Lb3.out; simp_all [toList_iff, eqC_true, eqC_false, eqL_self]) HW0.out | exact SamePost.no (by intro e; simp at e; have := La1.out; have := Lb1.out; have := La3.out; have := Lb3.out; simp_all [toList_iff, eqC_true, eqC_false, eqL_self]) HW1.out | exact SamePost.no (by intro e; simp at e; have := La1.out; have := Lb1.out; have := La3.out; have := Lb3.out; simp_all [toList_iff, eqC_true, eqC_false, eqL_self]) HW2.out))
  obtain rfl : ab0 = bb0 := by first | exact ‹ab0 = bb0› | (have h := ‹(ab0 != bb0) = false›; simpa using h)
  obtain rfl : as2_0 = bs2_0 := by first | exact toList_inj ‹as2_0.toList = bs2_0.toList› | exact toList_inj (by have h := ‹(as2_0.toList != bs2_0.toList) = false›; simpa using h)
  obtain rfl : as2_1 = bs2_1 := by first | exact toList_inj ‹as2_1.toList = bs2_1.toList› | exact toList_inj (by have h := ‹(as2_1.toList != bs2_1.toList) = false›; simpa using h)
  obtain rfl : ai2_2_0 = bi2_2_0 := by first | exact ‹ai2_2_0 = bi2_2_0› | (have h := ‹(ai2_2_0 != bi2_2_0) = false›; simpa using h)
  obtain rfl : ai2_2_1 = bi2_2_1 := by first | exact ‹ai2_2_1 = bi2_2_1› | (have h := ‹(ai2_2_1 != bi2_2_1) = false›; simpa using h)
  obtain rfl : ai2_2_2 = bi2_2_2 := by first | exact ‹ai2_2_2 = bi2_2_2› | (have h := ‹(ai2_2_2 != bi2_2_2) = false›; simpa using h)
  obtain rfl : ai2_3 = bi2_3 := by first | exact ‹ai2_3 = bi2_3› | (have h := ‹(ai2_3 != bi2_3) = false›; simpa using h)
  obtain rfl : ab4 = bb4 := by first | exact ‹ab4 = bb4› | (have h := ‹(ab4 != bb4) = false›; simpa using h)
  obtain rfl : an1 = bn1 := by first | (have h := ‹(an1 : Int) = (bn1 : Int)›; omega) | (have h := ‹((an1 : Int) != (bn1 : Int)) = false›; have h2 : (an1 : Int) = (bn1 : Int) := (by simpa using h); omega)
  obtain rfl : an3 = bn3 := by first | (have h := ‹(an3 : Int) = (bn3 : Int)›; omega) | (have h := ‹((an3 : Int) != (bn3 : Int)) = false›; have h2 : (an3 : Int) = (bn3 : Int) := (by simpa using h); omega)
  try simp only [bne_self_eq_false]
  clear p1 q1 p8 q8
  have hqe0 := eqC_true.1 hq0
  have hqe1 := eqC_true.1 hq1
  go_loopw [5] (fun c wr => ∃ k, LoopR w15 an1 k ax1 bx1 c wr) (fun c _ => an1 - (intOf c).toNat)
  case atStart => exact ⟨0, ⟨Nat.zero_le _, rfl, upTo_zero _ _, Below.refl _ _⟩⟩
  case round =>
    obtain ⟨k, ⟨hk, rfl, hs, hb⟩⟩ := hrel
    have HS := Lib.hid hs
    have p1 := ((HBk.out.below HW2b.out).below hb).cell 1 Hac2_.out
    have q1 := ((HXk.out.below HW2b.out).below hb).cell 1 Hbc2_.out
    clear hs
    by_cases hlt : k < an1
    · obtain ⟨g, o, us, eq, hgl, hul, hcell, hkx, hrx⟩ := elem_at Tryz.underlying35 zc_Item (by omega) Hac3.out hlt
      obtain ⟨g', o', vs, eq', hgl', hul', hcell', hkx', hrx'⟩ := elem_at Tryz.underlying35 zc_Item (by omega) Hbc3.out hlt
      subst eq eq'
      have HX := Lib.hid hrx
      have HY := Lib.hid hrx'
      have hwb := HW2.out.trans (hb.mono HW2.out.size)
      obtain ⟨uy0, uu0, uu1, uu2, uu3, uu4, uu5, uu6, ui1, ub2, us3, rfl, hx0, uh0, _⟩ := shp_Item hrx
      obtain ⟨uii0, uii1, uii2_0, uii2_1, uis2_2, uis3, uiq4, uin4, uim4, uix4, uh0e, _, _, _, _, _⟩ := shp_Expr uh0
      cases uh0e
      have Huh0 := Lib.hid uh0
      obtain ⟨vy0, vu0, vu1, vu2, vu3, vu4, vu5, vu6, vi1, vb2, vs3, rfl, hy0, vh0, _⟩ := shp_Item hrx'
      obtain ⟨vii0, vii1, vii2_0, vii2_1, vis2_2, vis3, viq4, vin4, vim4, vix4, vh0e, _, _, _, _, _⟩ := shp_Expr vh0
      cases vh0e
      have Hvh0 := Lib.hid vh0
      have HXE := Lib.hid hx0
      have HYE := Lib.hid hy0
      have rr : ∀ j (u : Value), ([.int .i64 uii0, .int .i64 uii1, .int .i64 uii2_0, .int .i64 uii2_1, .string uis2_2, .string uis3, .slice uiq4 uin4 uim4, .int .i64 ui1, .bool ub2, .string us3] : List Value)[j]? = some u → wr.cell? ⟨g, o + k * 10 + j, none⟩ = some u := fun j u hu => (hwb.cell (by exact hgl)).trans (hcell j u hu)
      have ss : ∀ j (u : Value), ([.int .i64 vii0, .int .i64 vii1, .int .i64 vii2_0, .int .i64 vii2_1, .string vis2_2, .string vis3, .slice viq4 vin4 vim4, .int .i64 vi1, .bool vb2, .string vs3] : List Value)[j]? = some u → wr.cell? ⟨g', o' + k * 10 + j, none⟩ = some u := fun j u hu => (hwb.cell (by exact hgl')).trans (hcell' j u hu)
      have r0 := rr 0 _ rfl
      have s0 := ss 0 _ rfl
      have r1 := rr 1 _ rfl
      have s1 := ss 1 _ rfl
      have r2 := rr 2 _ rfl
      have s2 := ss 2 _ rfl
      have r3 := rr 3 _ rfl
      have s3 := ss 3 _ rfl
      have r4 := rr 4 _ rfl
      have s4 := ss 4 _ rfl
      have r5 := rr 5 _ rfl
      have s5 := ss 5 _ rfl
      have r6 := rr 6 _ rfl
      have s6 := ss 6 _ rfl
      have r7 := rr 7 _ rfl
      have s7 := ss 7 _ rfl
      have r8 := rr 8 _ rfl
      have s8 := ss 8 _ rfl
      have r9 := rr 9 _ rfl
      have s9 := ss 9 _ rfl
      simp only [Nat.add_zero] at r0 s0
      have c2 : (k : Int) < (an1 : Int) := by omega
      have c3 : (0 : Int) ≤ (k : Int) := by omega
      have d1 : decide ((k : Int) < (an1 : Int)) = true := decide_eq_true c2
      have gl : g < wr.heap.size := by have := hwb.size; omega
      have gl' : g' < wr.heap.size := by have := hwb.size; omega
      have HWB := Lib.hid hwb
      have HB := Lib.hid hb
      clear rr ss hcell hcell' hul hul' hrx hrx' hwb hb hx0 hy0 uh0 vh0
      have hzr : w.heap.size + 1 < wr.heap.size := by have := HB.out.size; omega
      have hzr0 : w.heap.size < wr.heap.size := by omega
      go_wp2_with fail
      all_goals (try (refine (rsame_Expr _ uy0 vy0 _ _ _ (Nat.le_refl _) (Huh0.out.kept (HWB.out.trans (((below1 wr _).trans (below1' _ _)).mono HWB.out.size)) (Nat.le_refl _)) (Hvh0.out.kept (HWB.out.trans (((below1 wr _).trans (below1' _ _)).mono HWB.out.size)) (Nat.le_refl _))).mono ?_; rintro e' w4 ⟨rfl, hw4⟩; have HB4 := Lib.hid ((HB.out.trans (((below1 wr _).trans (below1' _ _)).mono HB.out.size)).trans (hw4.mono (by have := HB.out.size; simp; omega))); clear hw4; cases hqi : eqC uy0 vy0 <;> go_wp2_with fail))
      all_goals (try (go_ret; have hq : eqC ax1[k] bx1[k] = false := (by rw [HXE.out, HYE.out, eqC_false]; intro e2; simp at e2; simp_all [toList_iff, eqC_true, eqC_false, eqL_self]); first | exact SamePost.no (by intro e; simp at e; have e3 := eqL_at hkx hkx' hq; simp_all [toList_iff, eqC_true, eqC_false, eqL_self]) (HW2.out.trans (HB4.out.mono HW2.out.size)) | exact SamePost.no (by intro e; simp at e; have e3 := eqL_at hkx hkx' hq; simp_all [toList_iff, eqC_true, eqC_false, eqL_self]) (HW2.out.trans ((HB.out.trans (((below1 wr _).trans (below1' _ _)).mono HB.out.size)).mono HW2.out.size))))
      have hq : eqC ax1[k] bx1[k] = true := (by rw [HXE.out, HYE.out, eqC_true]; simp_all [toList_iff, eqC_true, eqC_false, eqL_self])
      go_roundw
      case rel => exact ⟨k + 1, ⟨by omega, by go_num, upTo_succ HS.out _ _ hq, HB4.out⟩⟩
      case measure => simp [intOf]; omega
    · obtain rfl : k = an1 := by omega
      have d1 : decide ((k : Int) < (k : Int)) = false := decide_eq_false (by omega)
      have HE1 := Lib.hid (eqL_true.1 (upTo_all HS.out La1.out Lb1.out))
      have HWL0 := Lib.hid (HW2.out.trans (hb.mono HW2.out.size))
      have HWL0b := Lib.hid (HW2b.out.trans (hb.mono HW2b.out.size))
      have hzl0 : w.heap.size + 2 ≤ wr.heap.size := by have := hb.size; omega
      clear hb
      go_wp2_with fail
      clear p1 q1 d1
      generalize hwq : (wr : World) = w30 at HWL0 HWL0b hzl0 ⊢
      clear hwq
      go_loopw [8] (fun c wr => ∃ k, LoopR w30 an3 k ax3 bx3 c wr) (fun c _ => an3 - (intOf c).toNat)
      case atStart => exact ⟨0, ⟨Nat.zero_le _, rfl, upTo_zero _ _, Below.refl _ _⟩⟩
      case round =>
        obtain ⟨k, ⟨hk, rfl, hs, hb⟩⟩ := hrel
        have HS := Lib.hid hs
        have p8 := ((HBk.out.below HWL0b.out).below hb).cell 8 Hac13_.out
        have q8 := ((HXk.out.below HWL0b.out).below hb).cell 8 Hbc13_.out
        clear hs
        by_cases hlt : k < an3
        · obtain ⟨g, o, us, eq, hgl, hul, hcell, hkx, hrx⟩ := elem_at Tryz.underlying40 zc_Join (by omega) Hac14.out hlt
          obtain ⟨g', o', vs, eq', hgl', hul', hcell', hkx', hrx'⟩ := elem_at Tryz.underlying40 zc_Join (by omega) Hbc14.out hlt
          subst eq eq'
          have HX := Lib.hid hrx
          have HY := Lib.hid hrx'
          have hwb := HWL0.out.trans (hb.mono HWL0.out.size)
          obtain ⟨us0_0, us0_1, ui0_2_0, ui0_2_1, ui0_2_2, ui0_3, ub1, uy2, uu7, uu8, uu9, uu10, uu11, uu12, uu13, rfl, hx0, _, _, uh2⟩ := shp_Join hrx
          obtain ⟨uii0, uii1, uii2_0, uii2_1, uis2_2, uis3, uiq4, uin4, uim4, uix4, uh2e, _, _, _, _, _⟩ := shp_Expr uh2
          cases uh2e
          have Huh2 := Lib.hid uh2
          obtain ⟨vs0_0, vs0_1, vi0_2_0, vi0_2_1, vi0_2_2, vi0_3, vb1, vy2, vu7, vu8, vu9, vu10, vu11, vu12, vu13, rfl, hy0, _, _, vh2⟩ := shp_Join hrx'
          obtain ⟨vii0, vii1, vii2_0, vii2_1, vis2_2, vis3, viq4, vin4, vim4, vix4, vh2e, _, _, _, _, _⟩ := shp_Expr vh2
          cases vh2e
          have Hvh2 := Lib.hid vh2
          have HXE := Lib.hid hx0
          have HYE := Lib.hid hy0
          have rr : ∀ j (u : Value), ([.string us0_0, .string us0_1, .int .i64 ui0_2_0, .int .i64 ui0_2_1, .int .i64 ui0_2_2, .int .i64 ui0_3, .bool ub1, .int .i64 uii0, .int .i64 uii1, .int .i64 uii2_0, .int .i64 uii2_1, .string uis2_2, .string uis3, .slice uiq4 uin4 uim4] : List Value)[j]? = some u → wr.cell? ⟨g, o + k * 14 + j, none⟩ = some u := fun j u hu => (hwb.cell (by exact hgl)).trans (hcell j u hu)
          have ss : ∀ j (u : Value), ([.string vs0_0, .string vs0_1, .int .i64 vi0_2_0, .int .i64 vi0_2_1, .int .i64 vi0_2_2, .int .i64 vi0_3, .bool vb1, .int .i64 vii0, .int .i64 vii1, .int .i64 vii2_0, .int .i64 vii2_1, .string vis2_2, .string vis3, .slice viq4 vin4 vim4] : List Value)[j]? = some u → wr.cell? ⟨g', o' + k * 14 + j, none⟩ = some u := fun j u hu => (hwb.cell (by exact hgl')).trans (hcell' j u hu)
          have r0 := rr 0 _ rfl
          have s0 := ss 0 _ rfl
          have r1 := rr 1 _ rfl
          have s1 := ss 1 _ rfl
          have r2 := rr 2 _ rfl
          have s2 := ss 2 _ rfl
          have r3 := rr 3 _ rfl
          have s3 := ss 3 _ rfl
          have r4 := rr 4 _ rfl
          have s4 := ss 4 _ rfl
          have r5 := rr 5 _ rfl
          have s5 := ss 5 _ rfl
          have r6 := rr 6 _ rfl
          have s6 := ss 6 _ rfl
          have r7 := rr 7 _ rfl
          have s7 := ss 7 _ rfl
          have r8 := rr 8 _ rfl
          have s8 := ss 8 _ rfl
          have r9 := rr 9 _ rfl
          have s9 := ss 9 _ rfl
          have r10 := rr 10 _ rfl
          have s10 := ss 10 _ rfl
          have r11 := rr 11 _ rfl
          have s11 := ss 11 _ rfl
          have r12 := rr 12 _ rfl
          have s12 := ss 12 _ rfl
          have r13 := rr 13 _ rfl
          have s13 := ss 13 _ rfl
          simp only [Nat.add_zero] at r0 s0
          have c2 : (k : Int) < (an3 : Int) := by omega
          have c3 : (0 : Int) ≤ (k : Int) := by omega
          have d1 : decide ((k : Int) < (an3 : Int)) = true := decide_eq_true c2
          have gl : g < wr.heap.size := by have := hwb.size; omega
          have gl' : g' < wr.heap.size := by have := hwb.size; omega
          have HWB := Lib.hid hwb
          have HB := Lib.hid hb
          clear rr ss hcell hcell' hul hul' hrx hrx' hwb hb hx0 hy0 uh2 vh2
          by_cases hne : us0_0 = vs0_0
          case neg =>
            have hn : ¬ us0_0.toList = vs0_0.toList := fun e => hne (toList_inj e)
            have hm : (us0_0.toList == vs0_0.toList) = false := beq_eq_false_iff_ne.2 hn
            have hq : eqC ax3[k] bx3[k] = false := by rw [HXE.out, HYE.out, eqC_false]; intro e2; simp at e2; simp_all
            go_upto_region 13 with (fail)
            go_quiet (fail)
            refine name_drew (K := Exit.then _ _ _ _) fun w4 hw4 hz4 => ?_
            have HB4 := Lib.hid (HB.out.trans (hw4.mono HB.out.size))
            clear hw4 HB HWB r0 s0 r1 s1 r2 s2 r3 s3 r4 s4 r5 s5 r6 s6 r7 s7 r8 s8 r9 s9 r10 s10 r11 s11 r12 s12 r13 s13 p8 q8
            go_wp2_with fail
            go_ret
            exact SamePost.no (by intro e; simp at e; have e3 := eqL_at hkx hkx' hq; simp_all [toList_iff, eqC_true, eqC_false, eqL_self]) (HWL0.out.trans (HB4.out.mono HWL0.out.size))
          subst hne
          by_cases hne : us0_1 = vs0_1
          case neg =>
            have hn : ¬ us0_1.toList = vs0_1.toList := fun e => hne (toList_inj e)
            have hm : (us0_1.toList == vs0_1.toList) = false := beq_eq_false_iff_ne.2 hn
            have hq : eqC ax3[k] bx3[k] = false := by rw [HXE.out, HYE.out, eqC_false]; intro e2; simp at e2; simp_all
            go_upto_region 13 with (fail)
            go_quiet (fail)
            refine name_drew (K := Exit.then _ _ _ _) fun w4 hw4 hz4 => ?_
            have HB4 := Lib.hid (HB.out.trans (hw4.mono HB.out.size))
            clear hw4 HB HWB r0 s0 r1 s1 r2 s2 r3 s3 r4 s4 r5 s5 r6 s6 r7 s7 r8 s8 r9 s9 r10 s10 r11 s11 r12 s12 r13 s13 p8 q8
            go_wp2_with fail
            go_ret
            exact SamePost.no (by intro e; simp at e; have e3 := eqL_at hkx hkx' hq; simp_all [toList_iff, eqC_true, eqC_false, eqL_self]) (HWL0.out.trans (HB4.out.mono HWL0.out.size))
          subst hne
          by_cases hne : ui0_2_0 = vi0_2_0
          case neg =>
            have hn : decide (ui0_2_0 = vi0_2_0) = false := decide_eq_false hne
            have hq : eqC ax3[k] bx3[k] = false := by rw [HXE.out, HYE.out, eqC_false]; intro e2; simp at e2; simp_all
            go_upto_region 13 with (fail)
            go_quiet (fail)
            refine name_drew (K := Exit.then _ _ _ _) fun w4 hw4 hz4 => ?_
            have HB4 := Lib.hid (HB.out.trans (hw4.mono HB.out.size))
            clear hw4 HB HWB r0 s0 r1 s1 r2 s2 r3 s3 r4 s4 r5 s5 r6 s6 r7 s7 r8 s8 r9 s9 r10 s10 r11 s11 r12 s12 r13 s13 p8 q8
            go_wp2_with fail
            go_ret
            exact SamePost.no (by intro e; simp at e; have e3 := eqL_at hkx hkx' hq; simp_all [toList_iff, eqC_true, eqC_false, eqL_self]) (HWL0.out.trans (HB4.out.mono HWL0.out.size))
          subst hne
          by_cases hne : ui0_2_1 = vi0_2_1
          case neg =>
            have hn : decide (ui0_2_1 = vi0_2_1) = false := decide_eq_false hne
            have hq : eqC ax3[k] bx3[k] = false := by rw [HXE.out, HYE.out, eqC_false]; intro e2; simp at e2; simp_all
            go_upto_region 13 with (fail)
            go_quiet (fail)
            refine name_drew (K := Exit.then _ _ _ _) fun w4 hw4 hz4 => ?_
            have HB4 := Lib.hid (HB.out.trans (hw4.mono HB.out.size))
            clear hw4 HB HWB r0 s0 r1 s1 r2 s2 r3 s3 r4 s4 r5 s5 r6 s6 r7 s7 r8 s8 r9 s9 r10 s10 r11 s11 r12 s12 r13 s13 p8 q8
            go_wp2_with fail
            go_ret
            exact SamePost.no (by intro e; simp at e; have e3 := eqL_at hkx hkx' hq; simp_all [toList_iff, eqC_true, eqC_false, eqL_self]) (HWL0.out.trans (HB4.out.mono HWL0.out.size))
          subst hne
          by_cases hne : ui0_2_2 = vi0_2_2
          case neg =>
            have hn : decide (ui0_2_2 = vi0_2_2) = false := decide_eq_false hne
            have hq : eqC ax3[k] bx3[k] = false := by rw [HXE.out, HYE.out, eqC_false]; intro e2; simp at e2; simp_all
            go_upto_region 13 with (fail)
            go_quiet (fail)
            refine name_drew (K := Exit.then _ _ _ _) fun w4 hw4 hz4 => ?_
            have HB4 := Lib.hid (HB.out.trans (hw4.mono HB.out.size))
            clear hw4 HB HWB r0 s0 r1 s1 r2 s2 r3 s3 r4 s4 r5 s5 r6 s6 r7 s7 r8 s8 r9 s9 r10 s10 r11 s11 r12 s12 r13 s13 p8 q8
            go_wp2_with fail
            go_ret
            exact SamePost.no (by intro e; simp at e; have e3 := eqL_at hkx hkx' hq; simp_all [toList_iff, eqC_true, eqC_false, eqL_self]) (HWL0.out.trans (HB4.out.mono HWL0.out.size))
          subst hne
          by_cases hne : ui0_3 = vi0_3
          case neg =>
            have hn : decide (ui0_3 = vi0_3) = false := decide_eq_false hne
            have hq : eqC ax3[k] bx3[k] = false := by rw [HXE.out, HYE.out, eqC_false]; intro e2; simp at e2; simp_all
            go_upto_region 13 with (fail)
            go_quiet (fail)
            refine name_drew (K := Exit.then _ _ _ _) fun w4 hw4 hz4 => ?_
            have HB4 := Lib.hid (HB.out.trans (hw4.mono HB.out.size))
            clear hw4 HB HWB r0 s0 r1 s1 r2 s2 r3 s3 r4 s4 r5 s5 r6 s6 r7 s7 r8 s8 r9 s9 r10 s10 r11 s11 r12 s12 r13 s13 p8 q8
            go_wp2_with fail
            go_ret
            exact SamePost.no (by intro e; simp at e; have e3 := eqL_at hkx hkx' hq; simp_all [toList_iff, eqC_true, eqC_false, eqL_self]) (HWL0.out.trans (HB4.out.mono HWL0.out.size))
          subst hne
          by_cases hne : ub1 = vb1
          case neg =>
            have hn : (ub1 == vb1) = false := beq_eq_false_iff_ne.2 hne
            have hq : eqC ax3[k] bx3[k] = false := by rw [HXE.out, HYE.out, eqC_false]; intro e2; simp at e2; simp_all
            go_upto_region 13 with (fail)
            go_quiet (fail)
            refine name_drew (K := Exit.then _ _ _ _) fun w4 hw4 hz4 => ?_
            have HB4 := Lib.hid (HB.out.trans (hw4.mono HB.out.size))
            clear hw4 HB HWB r0 s0 r1 s1 r2 s2 r3 s3 r4 s4 r5 s5 r6 s6 r7 s7 r8 s8 r9 s9 r10 s10 r11 s11 r12 s12 r13 s13 p8 q8
            go_wp2_with fail
            go_ret
            exact SamePost.no (by intro e; simp at e; have e3 := eqL_at hkx hkx' hq; simp_all [toList_iff, eqC_true, eqC_false, eqL_self]) (HWL0.out.trans (HB4.out.mono HWL0.out.size))
          subst hne
          go_upto_region 13 with (fail)
          go_still_tail 41, (by kernel_rfl)
          change wpList _ _ _ _ _ (wr.drewN 1)
          have HB3 := Lib.hid (HB.out.trans ((belowD wr 1).mono HB.out.size))
          have HW3 := Lib.hid (HWB.out.trans ((belowD wr 1).mono HWB.out.size))
          clear HB HWB r0 s0 r1 s1 r2 s2 r3 s3 r4 s4 r5 s5 r6 s6 r7 s7 r8 s8 r9 s9 r10 s10 r11 s11 r12 s12 r13 s13 p8 q8
          generalize wr.drewN 1 = w3 at HB3 HW3 ⊢
          go_wp2_with fail
          refine (rsame_Expr _ uy2 vy2 _ _ _ (Nat.le_refl _) (Huh2.out.kept HW3.out (Nat.le_refl _)) (Hvh2.out.kept HW3.out (Nat.le_refl _))).mono ?_
          rintro e' w4 ⟨rfl, hw4⟩
          have HB4 := Lib.hid (HB3.out.trans (hw4.mono HB3.out.size))
          clear hw4 HB3 HW3
          cases hqi : eqC uy2 vy2 with
          | true =>
            have hqe := eqC_true.1 hqi
            have hq : eqC ax3[k] bx3[k] = true := by rw [HXE.out, HYE.out, hqe, eqC_self]
            go_wp2_with fail
            go_roundw
            case rel => exact ⟨k + 1, ⟨by omega, by go_num, upTo_succ HS.out _ _ hq, HB4.out⟩⟩
            case measure => simp [intOf]; omega
          | false =>
            have hqe := eqC_false.1 hqi
            have hq : eqC ax3[k] bx3[k] = false := by rw [HXE.out, HYE.out, eqC_false]; intro e2; simp at e2; simp_all
            go_wp2_with fail
            go_ret
            exact SamePost.no (by intro e; simp at e; have e3 := eqL_at hkx hkx' hq; simp_all [toList_iff, eqC_true, eqC_false, eqL_self]) (HWL0.out.trans (HB4.out.mono HWL0.out.size))
        · obtain rfl : k = an3 := by omega
          have d1 : decide ((k : Int) < (k : Int)) = false := decide_eq_false (by omega)
          have HE2 := Lib.hid (eqL_true.1 (upTo_all HS.out La3.out Lb3.out))
          have HB := Lib.hid (HWL0.out.trans (hb.mono HWL0.out.size))
          clear hb
          go_wp2_with fail
          go_ret
          exact SamePost.yes (by have k1 := HE1.out; have k2 := HE2.out; simp_all [toList_iff, eqC_true, eqC_false, eqL_self]) HB.out
end Go.Proofs.YtlimlmjljjmcpaaGreatDoor.Ps
