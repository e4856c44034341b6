/-
  The reference's comparison of statements' lists (Printed by gen_rsame.py.)
-/
import Derived.Test.YtlimlmjljjmcpaaGreatDoorPsR2
namespace Go.Proofs.YtlimlmjljjmcpaaGreatDoor.Ps
open Go Go.RowKit
set_option linter.unusedVariables false
set_option linter.unusedSimpArgs false
theorem rsame_List (N : Nat) : SameS 158 24 N := fun x y v u w hN h1 h2 => by
  obtain ⟨A, n, m, xs, e1, rfl, _⟩ := h1.slice_inv Tryz.underlying24
  obtain ⟨B, n', m', ys, e2, rfl, _⟩ := h2.slice_inv Tryz.underlying24
  cases e1
  cases e2
  exact r_List xs ys _ _ _ _ _ _ w h1 h2
set_option maxHeartbeats 20000000 in
set_option maxRecDepth 100000 in
theorem r_Lists {t0 t1 t2 t3 t4 t5 t6 t7 t8 t9 t10 t11 t12 t13 s0 s1 s2 s3 s4 s5 s6 s7 s8 s9 s10 s11 s12 s13 : C} {x y : C} {cs ds : List Value} {w : World} (hx : x = .a [t0, t1, t2, t3, t4, t5, t6, t7, t8, t9, t10, t11, t12, t13]) (hy : y = .a [s0, s1, s2, s3, s4, s5, s6, s7, s8, s9, s10, s11, s12, s13]) (h1 : Rp Tryz.prog w 63 cs x) (h2 : Rp Tryz.prog w 63 ds y) :
    Calls Tryz.prog 90 #[.agg cs.toArray, .agg ds.toArray] w (SamePost w (.a [t5, t6, t10]) (.a [s5, s6, s10])) := by
  obtain ⟨ai0, ai1, ai2_0, ai2_1, ay3, as4, aq5, an5, am5, ax5, aq6, an6, am6, ax6, ab7, ay8, ay9, aq10, an10, am10, ax10, ai11_0, as11_1, as11_2, as11_3_0, ai11_3_1, ab11_3_2, ai11_4_0, ai11_4_1, as11_4_2, as12_0, as12_1, ai12_2_0_0, ai12_2_0_1, ai12_2_1_0, ai12_2_1_1, ai13, an, rfl, ac0, ac1, ac2, ac3, ac4, ac5, ac6, ac7, ac8, ac9, ac10, ac11, ac12, ac13, ac14, ac15, ac16, ac17, ac18, ac19, ac20, ac21, ac22, ac23, ac24, ac25, ac26, ac27, ac28, ac29, ac30, ac31, ac32, ac33, ac34, ac35, ac36, ac37, ac38, ac39, ac40⟩ := shp_Statement h1
  obtain ⟨ai8i0, ai8i1, ai8i2_0, ai8i2_1, ai8s2_2, ai8s3, ai8q4, ai8n4, ai8m4, ai8x4, ac14e, _, _, _, _, _⟩ := shp_Expr ac14
  have ac14_0 := of_take ac14e (j := 0) rfl (by omega)
  have ac14_1 := of_take ac14e (j := 1) rfl (by omega)
  have ac14_2 := of_take ac14e (j := 2) rfl (by omega)
  have ac14_3 := of_take ac14e (j := 3) rfl (by omega)
  have ac14_4 := of_take ac14e (j := 4) rfl (by omega)
  have ac14_5 := of_take ac14e (j := 5) rfl (by omega)
  have ac14_6 := of_take ac14e (j := 6) rfl (by omega)
  rw [ac14e] at ac14
  obtain ⟨ai9s0, ai9q1, ai9n1, ai9m1, ai9x1, ai9q2, ai9n2, ai9m2, ai9x2, ai9q3, ai9n3, ai9m3, ai9x3, ai9q4, ai9n4, ai9m4, ai9x4, ac15e, _, _, _, _, _, _, _, _, _, _⟩ := shp_Table ac15
  have ac15_0 := of_take ac15e (j := 0) rfl (by omega)
  have ac15_1 := of_take ac15e (j := 1) rfl (by omega)
  have ac15_2 := of_take ac15e (j := 2) rfl (by omega)
  have ac15_3 := of_take ac15e (j := 3) rfl (by omega)
  have ac15_4 := of_take ac15e (j := 4) rfl (by omega)
  rw [ac15e] at ac15
  obtain ⟨bi0, bi1, bi2_0, bi2_1, by3, bs4, bq5, bn5, bm5, bx5, bq6, bn6, bm6, bx6, bb7, by8, by9, bq10, bn10, bm10, bx10, bi11_0, bs11_1, bs11_2, bs11_3_0, bi11_3_1, bb11_3_2, bi11_4_0, bi11_4_1, bs11_4_2, bs12_0, bs12_1, bi12_2_0_0, bi12_2_0_1, bi12_2_1_0, bi12_2_1_1, bi13, bn, rfl, bc0, bc1, bc2, bc3, bc4, bc5, bc6, bc7, bc8, bc9, bc10, bc11, bc12, bc13, bc14, bc15, bc16, bc17, bc18, bc19, bc20, bc21, bc22, bc23, bc24, bc25, bc26, bc27, bc28, bc29, bc30, bc31, bc32, bc33, bc34, bc35, bc36, bc37, bc38, bc39, bc40⟩ := shp_Statement h2
  obtain ⟨bi8i0, bi8i1, bi8i2_0, bi8i2_1, bi8s2_2, bi8s3, bi8q4, bi8n4, bi8m4, bi8x4, bc14e, _, _, _, _, _⟩ := shp_Expr bc14
  have bc14_0 := of_take bc14e (j := 0) rfl (by omega)
  have bc14_1 := of_take bc14e (j := 1) rfl (by omega)
  have bc14_2 := of_take bc14e (j := 2) rfl (by omega)
  have bc14_3 := of_take bc14e (j := 3) rfl (by omega)
  have bc14_4 := of_take bc14e (j := 4) rfl (by omega)
  have bc14_5 := of_take bc14e (j := 5) rfl (by omega)
  have bc14_6 := of_take bc14e (j := 6) rfl (by omega)
  rw [bc14e] at bc14
  obtain ⟨bi9s0, bi9q1, bi9n1, bi9m1, bi9x1, bi9q2, bi9n2, bi9m2, bi9x2, bi9q3, bi9n3, bi9m3, bi9x3, bi9q4, bi9n4, bi9m4, bi9x4, bc15e, _, _, _, _, _, _, _, _, _, _⟩ := shp_Table bc15
  have bc15_0 := of_take bc15e (j := 0) rfl (by omega)
  have bc15_1 := of_take bc15e (j := 1) rfl (by omega)
  have bc15_2 := of_take bc15e (j := 2) rfl (by omega)
  have bc15_3 := of_take bc15e (j := 3) rfl (by omega)
  have bc15_4 := of_take bc15e (j := 4) rfl (by omega)
  rw [bc15e] at bc15
  have Hac4 := Lib.hid ac4
  have Hac9 := Lib.hid ac9
  have Hac12 := Lib.hid ac12
  have Hac14 := Lib.hid ac14
  have Hac15 := Lib.hid ac15
  have Hac18 := Lib.hid ac18
  have Hbc4 := Lib.hid bc4
  have Hbc9 := Lib.hid bc9
  have Hbc12 := Lib.hid bc12
  have Hbc14 := Lib.hid bc14
  have Hbc15 := Lib.hid bc15
  have Hbc18 := Lib.hid bc18
  obtain ⟨la5, na5⟩ := slice_len Tryz.underlying47 (by kernel_rfl : Tryz.prog.bytesOf 24 = 24) (by decide) ac9
  have La5 := Lib.hid la5
  obtain ⟨lb5, nb5⟩ := slice_len Tryz.underlying47 (by kernel_rfl : Tryz.prog.bytesOf 24 = 24) (by decide) bc9
  have Lb5 := Lib.hid lb5
  obtain ⟨la6, na6⟩ := slice_len Tryz.underlying48 (by kernel_rfl : Tryz.prog.bytesOf 87 = 104) (by decide) ac12
  have La6 := Lib.hid la6
  obtain ⟨lb6, nb6⟩ := slice_len Tryz.underlying48 (by kernel_rfl : Tryz.prog.bytesOf 87 = 104) (by decide) bc12
  have Lb6 := Lib.hid lb6
  obtain ⟨la10, na10⟩ := slice_len Tryz.underlying24 (by kernel_rfl : Tryz.prog.bytesOf 26 = 88) (by decide) ac18
  have La10 := Lib.hid la10
  obtain ⟨lb10, nb10⟩ := slice_len Tryz.underlying24 (by kernel_rfl : Tryz.prog.bytesOf 26 = 88) (by decide) bc18
  have Lb10 := Lib.hid lb10
  cases hx
  cases hy
  have HNa := Lib.hid an
  have HNb := Lib.hid bn
  have Hac0_ := Lib.hid ac0
  have Hac1_ := Lib.hid ac1
  have Hac2_ := Lib.hid ac2
  have Hac3_ := Lib.hid ac3
  have Hac6_ := Lib.hid ac6
  have Hac8_ := Lib.hid ac8
  have Hac11_ := Lib.hid ac11
  have Hac13_ := Lib.hid ac13
  have Hac14_0_ := Lib.hid ac14_0
  have Hac14_1_ := Lib.hid ac14_1
  have Hac14_2_ := Lib.hid ac14_2
  have Hac14_3_ := Lib.hid ac14_3
  have Hac14_4_ := Lib.hid ac14_4
  have Hac14_5_ := Lib.hid ac14_5
  have Hac14_6_ := Lib.hid ac14_6
  have Hac15_0_ := Lib.hid ac15_0
  have Hac15_1_ := Lib.hid ac15_1
  have Hac15_2_ := Lib.hid ac15_2
  have Hac15_3_ := Lib.hid ac15_3
  have Hac15_4_ := Lib.hid ac15_4
  have Hac17_ := Lib.hid ac17
  have Hac23_ := Lib.hid ac23
  have Hac24_ := Lib.hid ac24
  have Hac25_ := Lib.hid ac25
  have Hac26_ := Lib.hid ac26
  have Hac27_ := Lib.hid ac27
  have Hac28_ := Lib.hid ac28
  have Hac29_ := Lib.hid ac29
  have Hac30_ := Lib.hid ac30
  have Hac31_ := Lib.hid ac31
  have Hac34_ := Lib.hid ac34
  have Hac35_ := Lib.hid ac35
  have Hac36_ := Lib.hid ac36
  have Hac37_ := Lib.hid ac37
  have Hac38_ := Lib.hid ac38
  have Hac39_ := Lib.hid ac39
  have Hac40_ := Lib.hid ac40
  have Hbc0_ := Lib.hid bc0
  have Hbc1_ := Lib.hid bc1
  have Hbc2_ := Lib.hid bc2
  have Hbc3_ := Lib.hid bc3
  have Hbc6_ := Lib.hid bc6
  have Hbc8_ := Lib.hid bc8
  have Hbc11_ := Lib.hid bc11
  have Hbc13_ := Lib.hid bc13
  have Hbc14_0_ := Lib.hid bc14_0
  have Hbc14_1_ := Lib.hid bc14_1
  have Hbc14_2_ := Lib.hid bc14_2
  have Hbc14_3_ := Lib.hid bc14_3
  have Hbc14_4_ := Lib.hid bc14_4
  have Hbc14_5_ := Lib.hid bc14_5
  have Hbc14_6_ := Lib.hid bc14_6
  have Hbc15_0_ := Lib.hid bc15_0
  have Hbc15_1_ := Lib.hid bc15_1
  have Hbc15_2_ := Lib.hid bc15_2
  have Hbc15_3_ := Lib.hid bc15_3
  have Hbc15_4_ := Lib.hid bc15_4
  have Hbc17_ := Lib.hid bc17
  have Hbc23_ := Lib.hid bc23
  have Hbc24_ := Lib.hid bc24
  have Hbc25_ := Lib.hid bc25
  have Hbc26_ := Lib.hid bc26
  have Hbc27_ := Lib.hid bc27
  have Hbc28_ := Lib.hid bc28
  have Hbc29_ := Lib.hid bc29
  have Hbc30_ := Lib.hid bc30
  have Hbc31_ := Lib.hid bc31
  have Hbc34_ := Lib.hid bc34
  have Hbc35_ := Lib.hid bc35
  have Hbc36_ := Lib.hid bc36
  have Hbc37_ := Lib.hid bc37
  have Hbc38_ := Lib.hid bc38
  have Hbc39_ := Lib.hid bc39
  have Hbc40_ := Lib.hid bc40
  clear h1 h2 an bn ac4 ac9 ac12 ac14 ac15 ac18 bc4 bc9 bc12 bc14 bc15 bc18 ac0 ac1 ac2 ac3 ac6 ac8 ac11 ac13 ac14_0 ac14_1 ac14_2 ac14_3 ac14_4 ac14_5 ac14_6 ac15_0 ac15_1 ac15_2 ac15_3 ac15_4 ac17 ac23 ac24 ac25 ac26 ac27 ac28 ac29 ac30 ac31 ac34 ac35 ac36 ac37 ac38 ac39 ac40 bc0 bc1 bc2 bc3 bc6 bc8 bc11 bc13 bc14_0 bc14_1 bc14_2 bc14_3 bc14_4 bc14_5 bc14_6 bc15_0 bc15_1 bc15_2 bc15_3 bc15_4 bc17 bc23 bc24 bc25 bc26 bc27 bc28 bc29 bc30 bc31 bc34 bc35 bc36 bc37 bc38 bc39 bc40 la5 lb5 la6 lb6 la10 lb10 na10 nb10
  go_enter Tryz.func90, Tryz.ntmps90
  go_wp2_with (refine box_new rfl 63 (.tmp 0) rfl cs rfl ?_)
  intro w1 hB hw1 hz1
  go_wp2_with (refine box_new rfl 63 (.tmp 1) rfl ds rfl ?_)
  intro w2 hX hw2 hz2
  rw [← hz1] at hw2
  have HW0 := Lib.hid (hw1.trans (hw2.mono hw1.size))
  have HBk := Lib.hid (hB.below hw2)
  have HXk := Lib.hid hX
  have hz3 : w.heap.size + 2 ≤ w2.heap.size := by omega
  clear hw1 hw2 hB hX hz1 hz2
  have p28 := (HBk.out).cell 28 Hac8_.out
  have q28 := (HXk.out).cell 28 Hbc8_.out
  have p29 := (HBk.out).cell 29 Hac11_.out
  have q29 := (HXk.out).cell 29 Hbc11_.out
  have p43 := (HBk.out).cell 43 Hac17_.out
  have q43 := (HXk.out).cell 43 Hbc17_.out
  go_wp2_with fail
  all_goals (try (refine (r_List ax10 bx10 _ _ _ _ _ _ w2 (Hac18.out.kept HW0.out (Nat.le_refl _)) (Hbc18.out.kept HW0.out (Nat.le_refl _))).mono ?_; rintro e' w14 ⟨rfl, hw14⟩; have HW1 := Lib.hid (HW0.out.trans (hw14.mono HW0.out.size)); have HW1b := Lib.hid hw14; have hz4 : w.heap.size + 2 ≤ w14.heap.size := (by have := hw14.size; omega); clear hw14 hz3 p28 q28 p29 q29 p43 q43; have p28 := (HBk.out.below HW1b.out).cell 28 Hac8_.out; have q28 := (HXk.out.below HW1b.out).cell 28 Hbc8_.out; have p29 := (HBk.out.below HW1b.out).cell 29 Hac11_.out; have q29 := (HXk.out.below HW1b.out).cell 29 Hbc11_.out; cases hq0 : eqC (C.s ax10) (C.s bx10) <;> go_wp2_with fail))
  all_goals (try (go_ret; first | exact SamePost.no (by intro e; simp at e; have := La5.out; have := Lb5.out; have := La6.out; have := Lb6.out; simp_all [toList_iff, eqC_true, eqC_false, eqL_self]) HW0.out | exact SamePost.no (by intro e; simp at e; have := La5.out; have := Lb5.out; have := La6.out; have := Lb6.out; simp_all [toList_iff, eqC_true, eqC_false, eqL_self]) HW1.out))
  obtain rfl : an5 = bn5 := by first | (have h := ‹(an5 : Int) = (bn5 : Int)›; omega) | (have h := ‹((an5 : Int) != (bn5 : Int)) = false›; have h2 : (an5 : Int) = (bn5 : Int) := (by simpa using h); omega)
  obtain rfl : an6 = bn6 := by first | (have h := ‹(an6 : Int) = (bn6 : Int)›; omega) | (have h := ‹((an6 : Int) != (bn6 : Int)) = false›; have h2 : (an6 : Int) = (bn6 : Int) := (by simpa using h); omega)
  try simp only [bne_self_eq_false]
  clear p28 q28 p29 q29
  have hqe0 := eqC_true.1 hq0
  go_loopw [5] (fun c wr => ∃ k, LoopR w14 an5 k ax5 bx5 c wr) (fun c _ => an5 - (intOf c).toNat)
  case atStart => exact ⟨0, ⟨Nat.zero_le _, rfl, upTo_zero _ _, Below.refl _ _⟩⟩
  case round =>
    obtain ⟨k, ⟨hk, rfl, hs, hb⟩⟩ := hrel
    have HS := Lib.hid hs
    have p28 := ((HBk.out.below HW1b.out).below hb).cell 28 Hac8_.out
    have q28 := ((HXk.out.below HW1b.out).below hb).cell 28 Hbc8_.out
    clear hs
    by_cases hlt : k < an5
    · obtain ⟨g, o, us, eq, hgl, hul, hcell, hkx, hrx⟩ := elem_at Tryz.underlying47 zc_LExpr (by omega) Hac9.out hlt
      obtain ⟨g', o', vs, eq', hgl', hul', hcell', hkx', hrx'⟩ := elem_at Tryz.underlying47 zc_LExpr (by omega) Hbc9.out hlt
      subst eq eq'
      have HX := Lib.hid hrx
      have HY := Lib.hid hrx'
      have hwb := HW1.out.trans (hb.mono HW1.out.size)
      obtain ⟨U, u6, u7, _, rfl, _⟩ := hrx.slice_inv Tryz.underlying24
      obtain ⟨V, v6, v7, _, rfl, _⟩ := hrx'.slice_inv Tryz.underlying24
      have rr : ∀ j (u : Value), ([.slice U u6 u7] : List Value)[j]? = some u → wr.cell? ⟨g, o + k * 1 + j, none⟩ = some u := fun j u hu => (hwb.cell (by exact hgl)).trans (hcell j u hu)
      have ss : ∀ j (u : Value), ([.slice V v6 v7] : List Value)[j]? = some u → wr.cell? ⟨g', o' + k * 1 + j, none⟩ = some u := fun j u hu => (hwb.cell (by exact hgl')).trans (hcell' j u hu)
      have r0 := rr 0 _ rfl
      have s0 := ss 0 _ rfl
      simp only [Nat.add_zero, Nat.mul_one] at r0 s0
      have c2 : (k : Int) < (an5 : Int) := by omega
      have c3 : (0 : Int) ≤ (k : Int) := by omega
      have d1 : decide ((k : Int) < (an5 : Int)) = true := decide_eq_true c2
      have gl : g < wr.heap.size := by have := hwb.size; omega
      have gl' : g' < wr.heap.size := by have := hwb.size; omega
      have HWB := Lib.hid hwb
      have HB := Lib.hid hb
      clear rr ss hcell hcell' hul hul' hrx hrx' hwb hb
      go_upto_region 6 with (fail)
      go_still_tail 10, (by kernel_rfl)
      change wpList _ _ _ _ _ (wr.drewN 1)
      have HB3 := Lib.hid (HB.out.trans ((belowD wr 1).mono HB.out.size))
      have HW3 := Lib.hid (HWB.out.trans ((belowD wr 1).mono HWB.out.size))
      clear HB HWB r0 s0 p28 q28
      generalize wr.drewN 1 = w3 at HB3 HW3 ⊢
      go_wp2_with fail
      refine (rsame_List _ ax5[k] bx5[k] _ _ _ (Nat.le_refl _) (HX.out.kept HW3.out (Nat.le_refl _)) (HY.out.kept HW3.out (Nat.le_refl _))).mono ?_
      rintro e' w4 ⟨rfl, hw4⟩
      have HB4 := Lib.hid (HB3.out.trans (hw4.mono HB3.out.size))
      clear hw4 HB3 HW3
      cases hq : eqC ax5[k] bx5[k] with
      | true =>
        go_wp2_with fail
        go_roundw
        case rel => exact ⟨k + 1, ⟨by omega, by go_num, upTo_succ HS.out _ _ hq, HB4.out⟩⟩
        case measure => simp [intOf]; omega
      | false =>
        go_wp2_with fail
        go_ret
        exact SamePost.no (by intro e; simp at e; have e3 := eqL_at hkx hkx' hq; simp_all [toList_iff, eqC_true, eqC_false, eqL_self]) (HW1.out.trans (HB4.out.mono HW1.out.size))
    · obtain rfl : k = an5 := by omega
      have d1 : decide ((k : Int) < (k : Int)) = false := decide_eq_false (by omega)
      have HE1 := Lib.hid (eqL_true.1 (upTo_all HS.out La5.out Lb5.out))
      have HWL0 := Lib.hid (HW1.out.trans (hb.mono HW1.out.size))
      have HWL0b := Lib.hid (HW1b.out.trans (hb.mono HW1b.out.size))
      have hzl0 : w.heap.size + 2 ≤ wr.heap.size := by have := hb.size; omega
      clear hb
      go_wp2_with fail
      clear p28 q28 d1
      generalize hwq : (wr : World) = w30 at HWL0 HWL0b hzl0 ⊢
      clear hwq
      go_loopw [6] (fun c wr => ∃ k, LoopR w30 an6 k ax6 bx6 c wr) (fun c _ => an6 - (intOf c).toNat)
      case atStart => exact ⟨0, ⟨Nat.zero_le _, rfl, upTo_zero _ _, Below.refl _ _⟩⟩
      case round =>
        obtain ⟨k, ⟨hk, rfl, hs, hb⟩⟩ := hrel
        have HS := Lib.hid hs
        have p29 := ((HBk.out.below HWL0b.out).below hb).cell 29 Hac11_.out
        have q29 := ((HXk.out.below HWL0b.out).below hb).cell 29 Hbc11_.out
        clear hs
        by_cases hlt : k < an6
        · obtain ⟨g, o, us, eq, hgl, hul, hcell, hkx, hrx⟩ := elem_at Tryz.underlying48 zc_Set (by omega) Hac12.out hlt
          obtain ⟨g', o', vs, eq', hgl', hul', hcell', hkx', hrx'⟩ := elem_at Tryz.underlying48 zc_Set (by omega) Hbc12.out hlt
          subst eq eq'
          have HX := Lib.hid hrx
          have HY := Lib.hid hrx'
          have hwb := HWL0.out.trans (hb.mono HWL0.out.size)
          obtain ⟨us0, uy1, uu1, uu2, uu3, uu4, uu5, uu6, uu7, rfl, hx0, _, uh1⟩ := shp_Set hrx
          obtain ⟨uii0, uii1, uii2_0, uii2_1, uis2_2, uis3, uiq4, uin4, uim4, uix4, uh1e, _, _, _, _, _⟩ := shp_Expr uh1
          cases uh1e
          have Huh1 := Lib.hid uh1
          obtain ⟨vs0, vy1, vu1, vu2, vu3, vu4, vu5, vu6, vu7, rfl, hy0, _, vh1⟩ := shp_Set hrx'
          obtain ⟨vii0, vii1, vii2_0, vii2_1, vis2_2, vis3, viq4, vin4, vim4, vix4, vh1e, _, _, _, _, _⟩ := shp_Expr vh1
          cases vh1e
          have Hvh1 := Lib.hid vh1
          have HXE := Lib.hid hx0
          have HYE := Lib.hid hy0
          have rr : ∀ j (u : Value), ([.string us0, .int .i64 uii0, .int .i64 uii1, .int .i64 uii2_0, .int .i64 uii2_1, .string uis2_2, .string uis3, .slice uiq4 uin4 uim4] : List Value)[j]? = some u → wr.cell? ⟨g, o + k * 8 + j, none⟩ = some u := fun j u hu => (hwb.cell (by exact hgl)).trans (hcell j u hu)
          have ss : ∀ j (u : Value), ([.string vs0, .int .i64 vii0, .int .i64 vii1, .int .i64 vii2_0, .int .i64 vii2_1, .string vis2_2, .string vis3, .slice viq4 vin4 vim4] : List Value)[j]? = some u → wr.cell? ⟨g', o' + k * 8 + j, none⟩ = some u := fun j u hu => (hwb.cell (by exact hgl')).trans (hcell' j u hu)
          have r0 := rr 0 _ rfl
          have s0 := ss 0 _ rfl
          have r1 := rr 1 _ rfl
          have s1 := ss 1 _ rfl
          have r2 := rr 2 _ rfl
          have s2 := ss 2 _ rfl
          have r3 := rr 3 _ rfl
          have s3 := ss 3 _ rfl
          have r4 := rr 4 _ rfl
          have s4 := ss 4 _ rfl
          have r5 := rr 5 _ rfl
          have s5 := ss 5 _ rfl
          have r6 := rr 6 _ rfl
          have s6 := ss 6 _ rfl
          have r7 := rr 7 _ rfl
          have s7 := ss 7 _ rfl
          simp only [Nat.add_zero] at r0 s0
          have c2 : (k : Int) < (an6 : Int) := by omega
          have c3 : (0 : Int) ≤ (k : Int) := by omega
          have d1 : decide ((k : Int) < (an6 : Int)) = true := decide_eq_true c2
          have gl : g < wr.heap.size := by have := hwb.size; omega
          have gl' : g' < wr.heap.size := by have := hwb.size; omega
          have HWB := Lib.hid hwb
          have HB := Lib.hid hb
          clear rr ss hcell hcell' hul hul' hrx hrx' hwb hb hx0 hy0 uh1 vh1
          by_cases hne : us0 = vs0
          case neg =>
            have hn : ¬ us0.toList = vs0.toList := fun e => hne (toList_inj e)
            have hm : (us0.toList == vs0.toList) = false := beq_eq_false_iff_ne.2 hn
            have hq : eqC ax6[k] bx6[k] = false := by rw [HXE.out, HYE.out, eqC_false]; intro e2; simp at e2; simp_all
            go_upto_region 11 with (fail)
            go_quiet (fail)
            refine name_drew (K := Exit.then _ _ _ _) fun w4 hw4 hz4 => ?_
            have HB4 := Lib.hid (HB.out.trans (hw4.mono HB.out.size))
            clear hw4 HB HWB r0 s0 r1 s1 r2 s2 r3 s3 r4 s4 r5 s5 r6 s6 r7 s7 p29 q29
            go_wp2_with fail
            go_ret
            exact SamePost.no (by intro e; simp at e; have e3 := eqL_at hkx hkx' hq; simp_all [toList_iff, eqC_true, eqC_false, eqL_self]) (HWL0.out.trans (HB4.out.mono HWL0.out.size))
          subst hne
          go_upto_region 11 with (fail)
          go_still_tail 26, (by kernel_rfl)
          change wpList _ _ _ _ _ (wr.drewN 1)
          have HB3 := Lib.hid (HB.out.trans ((belowD wr 1).mono HB.out.size))
          have HW3 := Lib.hid (HWB.out.trans ((belowD wr 1).mono HWB.out.size))
          clear HB HWB r0 s0 r1 s1 r2 s2 r3 s3 r4 s4 r5 s5 r6 s6 r7 s7 p29 q29
          generalize wr.drewN 1 = w3 at HB3 HW3 ⊢
          go_wp2_with fail
          refine (rsame_Expr _ uy1 vy1 _ _ _ (Nat.le_refl _) (Huh1.out.kept HW3.out (Nat.le_refl _)) (Hvh1.out.kept HW3.out (Nat.le_refl _))).mono ?_
          rintro e' w4 ⟨rfl, hw4⟩
          have HB4 := Lib.hid (HB3.out.trans (hw4.mono HB3.out.size))
          clear hw4 HB3 HW3
          cases hqi : eqC uy1 vy1 with
          | true =>
            have hqe := eqC_true.1 hqi
            have hq : eqC ax6[k] bx6[k] = true := by rw [HXE.out, HYE.out, hqe, eqC_self]
            go_wp2_with fail
            go_roundw
            case rel => exact ⟨k + 1, ⟨by omega, by go_num, upTo_succ HS.out _ _ hq, HB4.out⟩⟩
            case measure => simp [intOf]; omega
          | false =>
            have hqe := eqC_false.1 hqi
            have hq : eqC ax6[k] bx6[k] = false := by rw [HXE.out, HYE.out, eqC_false]; intro e2; simp at e2; simp_all
            go_wp2_with fail
            go_ret
            exact SamePost.no (by intro e; simp at e; have e3 := eqL_at hkx hkx' hq; simp_all [toList_iff, eqC_true, eqC_false, eqL_self]) (HWL0.out.trans (HB4.out.mono HWL0.out.size))
        · obtain rfl : k = an6 := by omega
          have d1 : decide ((k : Int) < (k : Int)) = false := decide_eq_false (by omega)
          have HE2 := Lib.hid (eqL_true.1 (upTo_all HS.out La6.out Lb6.out))
          have HB := Lib.hid (HWL0.out.trans (hb.mono HWL0.out.size))
          clear hb
          go_wp2_with fail
          go_ret
          exact SamePost.yes (by have k1 := HE1.out; have k2 := HE2.out; simp_all [toList_iff, eqC_true, eqC_false, eqL_self]) HB.out
end Go.Proofs.YtlimlmjljjmcpaaGreatDoor.Ps
