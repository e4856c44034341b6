/-
  The reference's comparison of tables (Printed by gen_rsame.py.)
-/
import Derived.Test.YtlimlmjljjmcpaaGreatDoorPsR2
namespace Go.Proofs.YtlimlmjljjmcpaaGreatDoor.Ps
open Go Go.RowKit
set_option linter.unusedVariables false
set_option linter.unusedSimpArgs false
set_option maxHeartbeats 20000000 in
set_option maxRecDepth 100000 in
theorem rsame_Table (N : Nat) : SameN 91 53 N := fun x y cs ds w hN h1 h2 => by
  obtain ⟨as0, aq1, an1, am1, ax1, aq2, an2, am2, ax2, aq3, an3, am3, ax3, aq4, an4, am4, ax4, rfl, rfl, _, _, ac2, _, ac4, _, ac6, _, ac8⟩ := shp_Table h1
  obtain ⟨bs0, bq1, bn1, bm1, bx1, bq2, bn2, bm2, bx2, bq3, bn3, bm3, bx3, bq4, bn4, bm4, bx4, rfl, rfl, _, _, bc2, _, bc4, _, bc6, _, bc8⟩ := shp_Table h2
  have Hac2 := Lib.hid ac2
  have Hac4 := Lib.hid ac4
  have Hac6 := Lib.hid ac6
  have Hac8 := Lib.hid ac8
  have Hbc2 := Lib.hid bc2
  have Hbc4 := Lib.hid bc4
  have Hbc6 := Lib.hid bc6
  have Hbc8 := Lib.hid bc8
  obtain ⟨la1, na1⟩ := slice_len Tryz.underlying49 (by kernel_rfl : Tryz.prog.bytesOf 55 = 32) (by decide) ac2
  have La1 := Lib.hid la1
  obtain ⟨lb1, nb1⟩ := slice_len Tryz.underlying49 (by kernel_rfl : Tryz.prog.bytesOf 55 = 32) (by decide) bc2
  have Lb1 := Lib.hid lb1
  obtain ⟨la2, na2⟩ := slice_len Tryz.underlying50 (by kernel_rfl : Tryz.prog.bytesOf 3 = 8) (by decide) ac4
  have La2 := Lib.hid la2
  obtain ⟨lb2, nb2⟩ := slice_len Tryz.underlying50 (by kernel_rfl : Tryz.prog.bytesOf 3 = 8) (by decide) bc4
  have Lb2 := Lib.hid lb2
  obtain ⟨la3, na3⟩ := slice_len Tryz.underlying51 (by kernel_rfl : Tryz.prog.bytesOf 122 = 40) (by decide) ac6
  have La3 := Lib.hid la3
  obtain ⟨lb3, nb3⟩ := slice_len Tryz.underlying51 (by kernel_rfl : Tryz.prog.bytesOf 122 = 40) (by decide) bc6
  have Lb3 := Lib.hid lb3
  obtain ⟨la4, na4⟩ := slice_len Tryz.underlying24 (by kernel_rfl : Tryz.prog.bytesOf 26 = 88) (by decide) ac8
  have La4 := Lib.hid la4
  obtain ⟨lb4, nb4⟩ := slice_len Tryz.underlying24 (by kernel_rfl : Tryz.prog.bytesOf 26 = 88) (by decide) bc8
  have Lb4 := Lib.hid lb4
  clear h1 h2 hN ac2 ac4 ac6 ac8 bc2 bc4 bc6 bc8 la1 lb1 la2 lb2 la3 lb3 la4 lb4 na2 nb2 na4 nb4
  go_enter Tryz.func91, Tryz.ntmps91
  go_upto_region 1 with (fail)
  refine name_alloc2 (K := Code.wp _ _ _ _) fun w2 hB hX hw1 hz1 => ?_
  have HW0 := Lib.hid hw1
  have HBk := Lib.hid hB
  have HXk := Lib.hid hX
  have hz3 : w.heap.size + 2 ≤ w2.heap.size := by omega
  clear hw1 hB hX hz1
  have p0 := (HBk.out).cell 0 rfl
  have q0 := (HXk.out).cell 0 rfl
  have p1 := (HBk.out).cell 1 rfl
  have q1 := (HXk.out).cell 1 rfl
  have p2 := (HBk.out).cell 2 rfl
  have q2 := (HXk.out).cell 2 rfl
  have p3 := (HBk.out).cell 3 rfl
  have q3 := (HXk.out).cell 3 rfl
  have p4 := (HBk.out).cell 4 rfl
  have q4 := (HXk.out).cell 4 rfl
  go_wp2_with fail
  all_goals (try (refine (r_Ints ax2 bx2 _ _ _ _ _ _ w2 (Hac4.out.kept HW0.out (Nat.le_refl _)) (Hbc4.out.kept HW0.out (Nat.le_refl _))).mono ?_; rintro e' w14 ⟨rfl, hw14⟩; have HW1 := Lib.hid (HW0.out.trans (hw14.mono HW0.out.size)); have HW1b := Lib.hid hw14; have hz4 : w.heap.size + 2 ≤ w14.heap.size := (by have := hw14.size; omega); clear hw14 hz3 p0 q0 p1 q1 p2 q2 p3 q3 p4 q4; have p1 := (HBk.out.below HW1b.out).cell 1 rfl; have q1 := (HXk.out.below HW1b.out).cell 1 rfl; have p3 := (HBk.out.below HW1b.out).cell 3 rfl; have q3 := (HXk.out.below HW1b.out).cell 3 rfl; have p4 := (HBk.out.below HW1b.out).cell 4 rfl; have q4 := (HXk.out.below HW1b.out).cell 4 rfl; cases hq0 : eqC (C.s ax2) (C.s bx2) <;> go_wp2_with fail))
  all_goals (try (refine (r_List ax4 bx4 _ _ _ _ _ _ w14 (Hac8.out.kept HW1.out (Nat.le_refl _)) (Hbc8.out.kept HW1.out (Nat.le_refl _))).mono ?_; rintro e' w15 ⟨rfl, hw15⟩; have HW2 := Lib.hid (HW1.out.trans (hw15.mono HW1.out.size)); have HW2b := Lib.hid (HW1b.out.trans (hw15.mono HW1b.out.size)); have hz5 : w.heap.size + 2 ≤ w15.heap.size := (by have := hw15.size; omega); clear hw15 hz4 p1 q1 p3 q3 p4 q4; have p1 := (HBk.out.below HW2b.out).cell 1 rfl; have q1 := (HXk.out.below HW2b.out).cell 1 rfl; have p3 := (HBk.out.below HW2b.out).cell 3 rfl; have q3 := (HXk.out.below HW2b.out).cell 3 rfl; cases hq1 : eqC (C.s ax4) (C.s bx4) <;> go_wp2_with fail))
  all_goals (try (go_ret; first | exact SamePost.no (by intro e; simp at e; have := La1.out; have := Lb1.out; have := La3.out; have := Lb3.out; simp_all [toList_iff, eqC_true, eqC_false, eqL_self]) HW0.out | exact SamePost.no (by intro e; simp at e; have := La1.out; have := Lb1.out; have := La3.out; have := Lb3.out; simp_all [toList_iff, eqC_true, eqC_false, eqL_self]) HW1.out | exact SamePost.no (by intro e; simp at e; have := La1.out; have := Lb1.out; have := La3.out; have := Lb3.out; simp_all [toList_iff, eqC_true, eqC_false, eqL_self]) HW2.out))
  obtain rfl : as0 = bs0 := by first | exact toList_inj ‹as0.toList = bs0.toList› | exact toList_inj (by have h := ‹(as0.toList != bs0.toList) = false›; simpa using h)
  obtain rfl : an1 = bn1 := by first | (have h := ‹(an1 : Int) = (bn1 : Int)›; omega) | (have h := ‹((an1 : Int) != (bn1 : Int)) = false›; have h2 : (an1 : Int) = (bn1 : Int) := (by simpa using h); omega)
  obtain rfl : an3 = bn3 := by first | (have h := ‹(an3 : Int) = (bn3 : Int)›; omega) | (have h := ‹((an3 : Int) != (bn3 : Int)) = false›; have h2 : (an3 : Int) = (bn3 : Int) := (by simpa using h); omega)
  try simp only [bne_self_eq_false]
  clear p1 q1 p3 q3
  have hqe0 := eqC_true.1 hq0
  have hqe1 := eqC_true.1 hq1
  go_loopw [5] (fun c wr => ∃ k, LoopR w15 an1 k ax1 bx1 c wr) (fun c _ => an1 - (intOf c).toNat)
  case atStart => exact ⟨0, ⟨Nat.zero_le _, rfl, upTo_zero _ _, Below.refl _ _⟩⟩
  case round =>
    obtain ⟨k, ⟨hk, rfl, hs, hb⟩⟩ := hrel
    have HS := Lib.hid hs
    have p1 := ((HBk.out.below HW2b.out).below hb).cell 1 rfl
    have q1 := ((HXk.out.below HW2b.out).below hb).cell 1 rfl
    clear hs
    by_cases hlt : k < an1
    · obtain ⟨g, o, us, eq, hgl, hul, hcell, hkx, hrx⟩ := elem_at Tryz.underlying49 zc_Column (by omega) Hac2.out hlt
      obtain ⟨g', o', vs, eq', hgl', hul', hcell', hkx', hrx'⟩ := elem_at Tryz.underlying49 zc_Column (by omega) Hbc2.out hlt
      subst eq eq'
      have HX := Lib.hid hrx
      have HY := Lib.hid hrx'
      have hwb := HW2.out.trans (hb.mono HW2.out.size)
      obtain ⟨us0, ui1, ub2, rfl, hx0, _⟩ := shp_Column hrx
      obtain ⟨vs0, vi1, vb2, rfl, hy0, _⟩ := shp_Column hrx'
      have HXE := Lib.hid hx0
      have HYE := Lib.hid hy0
      have rr : ∀ j (u : Value), ([.string us0, .int .i64 ui1, .bool ub2] : List Value)[j]? = some u → wr.cell? ⟨g, o + k * 3 + j, none⟩ = some u := fun j u hu => (hwb.cell (by exact hgl)).trans (hcell j u hu)
      have ss : ∀ j (u : Value), ([.string vs0, .int .i64 vi1, .bool vb2] : List Value)[j]? = some u → wr.cell? ⟨g', o' + k * 3 + j, none⟩ = some u := fun j u hu => (hwb.cell (by exact hgl')).trans (hcell' j u hu)
      have r0 := rr 0 _ rfl
      have s0 := ss 0 _ rfl
      have r1 := rr 1 _ rfl
      have s1 := ss 1 _ rfl
      have r2 := rr 2 _ rfl
      have s2 := ss 2 _ rfl
      simp only [Nat.add_zero] at r0 s0
      have c2 : (k : Int) < (an1 : Int) := by omega
      have c3 : (0 : Int) ≤ (k : Int) := by omega
      have d1 : decide ((k : Int) < (an1 : Int)) = true := decide_eq_true c2
      have gl : g < wr.heap.size := by have := hwb.size; omega
      have gl' : g' < wr.heap.size := by have := hwb.size; omega
      have HWB := Lib.hid hwb
      have HB := Lib.hid hb
      clear rr ss hcell hcell' hul hul' hrx hrx' hwb hb hx0 hy0
      by_cases hne : us0 = vs0
      case neg =>
        have hn : ¬ us0.toList = vs0.toList := fun e => hne (toList_inj e)
        have hm : (us0.toList == vs0.toList) = false := beq_eq_false_iff_ne.2 hn
        have hq : eqC ax1[k] bx1[k] = false := by rw [HXE.out, HYE.out, eqC_false]; intro e2; simp at e2; simp_all
        go_upto_region 6 with (fail)
        go_quiet (fail)
        refine name_drew (K := Exit.then _ _ _ _) fun w4 hw4 hz4 => ?_
        have HB4 := Lib.hid (HB.out.trans (hw4.mono HB.out.size))
        clear hw4 HB HWB r0 s0 r1 s1 r2 s2 p1 q1
        go_wp2_with fail
        go_ret
        exact SamePost.no (by intro e; simp at e; have e3 := eqL_at hkx hkx' hq; simp_all [toList_iff, eqC_true, eqC_false, eqL_self]) (HW2.out.trans (HB4.out.mono HW2.out.size))
      subst hne
      by_cases hne : ui1 = vi1
      case neg =>
        have hn : decide (ui1 = vi1) = false := decide_eq_false hne
        have hq : eqC ax1[k] bx1[k] = false := by rw [HXE.out, HYE.out, eqC_false]; intro e2; simp at e2; simp_all
        go_upto_region 6 with (fail)
        go_quiet (fail)
        refine name_drew (K := Exit.then _ _ _ _) fun w4 hw4 hz4 => ?_
        have HB4 := Lib.hid (HB.out.trans (hw4.mono HB.out.size))
        clear hw4 HB HWB r0 s0 r1 s1 r2 s2 p1 q1
        go_wp2_with fail
        go_ret
        exact SamePost.no (by intro e; simp at e; have e3 := eqL_at hkx hkx' hq; simp_all [toList_iff, eqC_true, eqC_false, eqL_self]) (HW2.out.trans (HB4.out.mono HW2.out.size))
      subst hne
      by_cases hne : ub2 = vb2
      case neg =>
        have hn : (ub2 == vb2) = false := beq_eq_false_iff_ne.2 hne
        have hq : eqC ax1[k] bx1[k] = false := by rw [HXE.out, HYE.out, eqC_false]; intro e2; simp at e2; simp_all
        go_upto_region 6 with (fail)
        go_quiet (fail)
        refine name_drew (K := Exit.then _ _ _ _) fun w4 hw4 hz4 => ?_
        have HB4 := Lib.hid (HB.out.trans (hw4.mono HB.out.size))
        clear hw4 HB HWB r0 s0 r1 s1 r2 s2 p1 q1
        go_wp2_with fail
        go_ret
        exact SamePost.no (by intro e; simp at e; have e3 := eqL_at hkx hkx' hq; simp_all [toList_iff, eqC_true, eqC_false, eqL_self]) (HW2.out.trans (HB4.out.mono HW2.out.size))
      subst hne
      have hq : eqC ax1[k] bx1[k] = true := by rw [HXE.out, HYE.out]; exact eqC_self _
      go_upto_region 6 with (fail)
      go_quiet (fail)
      refine name_drew (K := Exit.then _ _ _ _) fun w4 hw4 hz4 => ?_
      have HB4 := Lib.hid (HB.out.trans (hw4.mono HB.out.size))
      clear hw4 HB HWB r0 s0 r1 s1 r2 s2 p1 q1
      go_wp2_with fail
      go_roundw
      case rel => exact ⟨k + 1, ⟨by omega, by go_num, upTo_succ HS.out _ _ hq, HB4.out⟩⟩
      case measure => simp [intOf]; omega
    · obtain rfl : k = an1 := by omega
      have d1 : decide ((k : Int) < (k : Int)) = false := decide_eq_false (by omega)
      have HE1 := Lib.hid (eqL_true.1 (upTo_all HS.out La1.out Lb1.out))
      have HWL0 := Lib.hid (HW2.out.trans (hb.mono HW2.out.size))
      have HWL0b := Lib.hid (HW2b.out.trans (hb.mono HW2b.out.size))
      have hzl0 : w.heap.size + 2 ≤ wr.heap.size := by have := hb.size; omega
      clear hb
      go_wp2_with fail
      clear p1 q1 d1
      generalize hwq : (wr : World) = w30 at HWL0 HWL0b hzl0 ⊢
      clear hwq
      go_loopw [6] (fun c wr => ∃ k, LoopR w30 an3 k ax3 bx3 c wr) (fun c _ => an3 - (intOf c).toNat)
      case atStart => exact ⟨0, ⟨Nat.zero_le _, rfl, upTo_zero _ _, Below.refl _ _⟩⟩
      case round =>
        obtain ⟨k, ⟨hk, rfl, hs, hb⟩⟩ := hrel
        have HS := Lib.hid hs
        have p3 := ((HBk.out.below HWL0b.out).below hb).cell 3 rfl
        have q3 := ((HXk.out.below HWL0b.out).below hb).cell 3 rfl
        clear hs
        by_cases hlt : k < an3
        · obtain ⟨g, o, us, eq, hgl, hul, hcell, hkx, hrx⟩ := elem_at Tryz.underlying51 zc_Foreign (by omega) Hac6.out hlt
          obtain ⟨g', o', vs, eq', hgl', hul', hcell', hkx', hrx'⟩ := elem_at Tryz.underlying51 zc_Foreign (by omega) Hbc6.out hlt
          subst eq eq'
          have HX := Lib.hid hrx
          have HY := Lib.hid hrx'
          have hwb := HWL0.out.trans (hb.mono HWL0.out.size)
          obtain ⟨uq0, un0, um0, ux0, us1, rfl, hx0, _, uh1, _⟩ := shp_Foreign hrx
          have Huh1 := Lib.hid uh1
          obtain ⟨vq0, vn0, vm0, vx0, vs1, rfl, hy0, _, vh1, _⟩ := shp_Foreign hrx'
          have Hvh1 := Lib.hid vh1
          have HXE := Lib.hid hx0
          have HYE := Lib.hid hy0
          have rr : ∀ j (u : Value), ([.slice uq0 un0 um0, .string us1] : List Value)[j]? = some u → wr.cell? ⟨g, o + k * 2 + j, none⟩ = some u := fun j u hu => (hwb.cell (by exact hgl)).trans (hcell j u hu)
          have ss : ∀ j (u : Value), ([.slice vq0 vn0 vm0, .string vs1] : List Value)[j]? = some u → wr.cell? ⟨g', o' + k * 2 + j, none⟩ = some u := fun j u hu => (hwb.cell (by exact hgl')).trans (hcell' j u hu)
          have r0 := rr 0 _ rfl
          have s0 := ss 0 _ rfl
          have r1 := rr 1 _ rfl
          have s1 := ss 1 _ rfl
          simp only [Nat.add_zero] at r0 s0
          have c2 : (k : Int) < (an3 : Int) := by omega
          have c3 : (0 : Int) ≤ (k : Int) := by omega
          have d1 : decide ((k : Int) < (an3 : Int)) = true := decide_eq_true c2
          have gl : g < wr.heap.size := by have := hwb.size; omega
          have gl' : g' < wr.heap.size := by have := hwb.size; omega
          have HWB := Lib.hid hwb
          have HB := Lib.hid hb
          clear rr ss hcell hcell' hul hul' hrx hrx' hwb hb hx0 hy0 uh1 vh1
          by_cases hne : us1 = vs1
          case neg =>
            have hn : ¬ us1.toList = vs1.toList := fun e => hne (toList_inj e)
            have hm : (us1.toList == vs1.toList) = false := beq_eq_false_iff_ne.2 hn
            have hq : eqC ax3[k] bx3[k] = false := by rw [HXE.out, HYE.out, eqC_false]; intro e2; simp at e2; simp_all
            go_upto_region 11 with (fail)
            go_quiet (fail)
            refine name_drew (K := Exit.then _ _ _ _) fun w4 hw4 hz4 => ?_
            have HB4 := Lib.hid (HB.out.trans (hw4.mono HB.out.size))
            clear hw4 HB HWB r0 s0 r1 s1 p3 q3
            go_wp2_with fail
            go_ret
            exact SamePost.no (by intro e; simp at e; have e3 := eqL_at hkx hkx' hq; simp_all [toList_iff, eqC_true, eqC_false, eqL_self]) (HWL0.out.trans (HB4.out.mono HWL0.out.size))
          subst hne
          go_upto_region 11 with (fail)
          go_still_tail 26, (by kernel_rfl)
          change wpList _ _ _ _ _ (wr.drewN 1)
          have HB3 := Lib.hid (HB.out.trans ((belowD wr 1).mono HB.out.size))
          have HW3 := Lib.hid (HWB.out.trans ((belowD wr 1).mono HWB.out.size))
          clear HB HWB r0 s0 r1 s1 p3 q3
          generalize wr.drewN 1 = w3 at HB3 HW3 ⊢
          go_wp2_with fail
          refine (r_Ints ux0 vx0 _ _ _ _ _ _ _ (Huh1.out.kept HW3.out (Nat.le_refl _)) (Hvh1.out.kept HW3.out (Nat.le_refl _))).mono ?_
          rintro e' w4 ⟨rfl, hw4⟩
          have HB4 := Lib.hid (HB3.out.trans (hw4.mono HB3.out.size))
          clear hw4 HB3 HW3
          cases hqi : eqC (C.s ux0) (C.s vx0) with
          | true =>
            have hqe := eqC_true.1 hqi
            have hq : eqC ax3[k] bx3[k] = true := by rw [HXE.out, HYE.out, hqe, eqC_self]
            go_wp2_with fail
            go_roundw
            case rel => exact ⟨k + 1, ⟨by omega, by go_num, upTo_succ HS.out _ _ hq, HB4.out⟩⟩
            case measure => simp [intOf]; omega
          | false =>
            have hqe := eqC_false.1 hqi
            have hq : eqC ax3[k] bx3[k] = false := by rw [HXE.out, HYE.out, eqC_false]; intro e2; simp at e2; simp_all
            go_wp2_with fail
            go_ret
            exact SamePost.no (by intro e; simp at e; have e3 := eqL_at hkx hkx' hq; simp_all [toList_iff, eqC_true, eqC_false, eqL_self]) (HWL0.out.trans (HB4.out.mono HWL0.out.size))
        · obtain rfl : k = an3 := by omega
          have d1 : decide ((k : Int) < (k : Int)) = false := decide_eq_false (by omega)
          have HE2 := Lib.hid (eqL_true.1 (upTo_all HS.out La3.out Lb3.out))
          have HB := Lib.hid (HWL0.out.trans (hb.mono HWL0.out.size))
          clear hb
          go_wp2_with fail
          go_ret
          exact SamePost.yes (by have k1 := HE1.out; have k2 := HE2.out; simp_all [toList_iff, eqC_true, eqC_false, eqL_self]) HB.out
end Go.Proofs.YtlimlmjljjmcpaaGreatDoor.Ps
