/-
  The reference's comparison of queries (Printed by gen_rsame.py.)
-/
import Derived.Test.YtlimlmjljjmcpaaGreatDoorPsR4
namespace Go.Proofs.YtlimlmjljjmcpaaGreatDoor.Ps
open Go Go.RowKit
set_option linter.unusedVariables false
set_option linter.unusedSimpArgs false
/-- the load of a struct in a region that draws its order -/
theorem still_load {P : Program} {ops : Array Oper} {w : World} {Q : Act → Prop} {a : Act} {o : Oper} {rest : List Oper} (hw : Region.wanted o (yielded ops a.tmps) = true) (ty : TypeId) (x : Operand) (ho : o.op = .load ty x)
    (b k : Nat) (hx : a.eval x = .pointer (some ⟨b, k, none⟩)) (cs : List Value) (d : TypeDesc) (hc : w.rangeAt b k cs)
    (hu : P.underlying ty = some d) (hd : d.isRow = true) (hi : (P.info? ty).map (·.size) = some cs.length)
    (h : wpStill P ops w Q rest (a.put o.dst (.agg cs.toArray))) : wpStill P ops w Q (o :: rest) a :=
  wpStill_step fun K hK => by
    rw [if_pos hw]
    unfold Oper.still execOp
    simp only [ho, hx, Instr.loadAt, Instr.sureAddr, Sem.run_bind, Sem.run_pure, Result.andThen_ok, run_loadVar_mid w b k ty cs d hc hu hd hi]
    rw [Oper.stillUpon_value]
    exact hK _ h
set_option maxHeartbeats 20000000 in
set_option maxRecDepth 100000 in
theorem rsame_Query_step (N : Nat) (HI0 : SameN 89 46 N) : SameN 89 46 (N + 1) := fun x y cs ds w hN h1 h2 => by
  obtain ⟨ai0, ab1, ay2, aq3, an3, am3, ax3, aq4, an4, am4, ax4, ai5, an, rfl, ac0, ac1, ac2, ac3, ac4, ac5, ac6, ac7, ac8, ac9⟩ := shp_Query h1
  obtain ⟨bi0, bb1, by2, bq3, bn3, bm3, bx3, bq4, bn4, bm4, bx4, bi5, bn, rfl, bc0, bc1, bc2, bc3, bc4, bc5, bc6, bc7, bc8, bc9⟩ := shp_Query h2
  have Hac2 := Lib.hid ac2
  have Hac5 := Lib.hid ac5
  have Hac8 := Lib.hid ac8
  have Hbc2 := Lib.hid bc2
  have Hbc5 := Lib.hid bc5
  have Hbc8 := Lib.hid bc8
  obtain ⟨la3, na3⟩ := slice_len Tryz.underlying43 (by kernel_rfl : Tryz.prog.bytesOf 46 = 312) (by decide) ac5
  have La3 := Lib.hid la3
  obtain ⟨lb3, nb3⟩ := slice_len Tryz.underlying43 (by kernel_rfl : Tryz.prog.bytesOf 46 = 312) (by decide) bc5
  have Lb3 := Lib.hid lb3
  obtain ⟨la4, na4⟩ := slice_len Tryz.underlying44 (by kernel_rfl : Tryz.prog.bytesOf 115 = 16) (by decide) ac8
  have La4 := Lib.hid la4
  obtain ⟨lb4, nb4⟩ := slice_len Tryz.underlying44 (by kernel_rfl : Tryz.prog.bytesOf 115 = 16) (by decide) bc8
  have Lb4 := Lib.hid lb4
  have HI := Lib.hid HI0
  have HNr : ∀ x ∈ ax3, SizeOf.sizeOf x ≤ N := fun x hx => by
    have := List.sizeOf_lt_of_mem hx
    simp at hN
    omega
  have HNr := Lib.hid HNr
  clear HI0
  have HNa := Lib.hid an
  have HNb := Lib.hid bn
  have Hac0_ := Lib.hid ac0
  have Hac1_ := Lib.hid ac1
  have Hac4_ := Lib.hid ac4
  have Hac7_ := Lib.hid ac7
  have Hac9_ := Lib.hid ac9
  have Hbc0_ := Lib.hid bc0
  have Hbc1_ := Lib.hid bc1
  have Hbc4_ := Lib.hid bc4
  have Hbc7_ := Lib.hid bc7
  have Hbc9_ := Lib.hid bc9
  clear h1 h2 hN an bn ac2 ac5 ac8 bc2 bc5 bc8 ac0 ac1 ac4 ac7 ac9 bc0 bc1 bc4 bc7 bc9 la3 lb3 la4 lb4 
  go_enter Tryz.func89, Tryz.ntmps89
  go_wp2_with (refine box_new rfl 46 (.tmp 0) rfl cs rfl ?_)
  intro w1 hB hw1 hz1
  go_wp2_with (refine box_new rfl 46 (.tmp 1) rfl ds rfl ?_)
  intro w2 hX hw2 hz2
  rw [← hz1] at hw2
  have HW0 := Lib.hid (hw1.trans (hw2.mono hw1.size))
  have HBk := Lib.hid (hB.below hw2)
  have HXk := Lib.hid hX
  have hz3 : w.heap.size + 2 ≤ w2.heap.size := by omega
  clear hw1 hw2 hB hX hz1 hz2
  have p0 := (HBk.out).cell 0 Hac0_.out
  have q0 := (HXk.out).cell 0 Hbc0_.out
  have p1 := (HBk.out).cell 1 Hac1_.out
  have q1 := (HXk.out).cell 1 Hbc1_.out
  have p20 := (HBk.out).cell 20 Hac4_.out
  have q20 := (HXk.out).cell 20 Hbc4_.out
  have p21 := (HBk.out).cell 21 Hac7_.out
  have q21 := (HXk.out).cell 21 Hbc7_.out
  have p22 := (HBk.out).cell 22 Hac9_.out
  have q22 := (HXk.out).cell 22 Hbc9_.out
  go_wp2_with (first | (refine op_met rfl (wpList_load_mid rfl 42 (.tmp 45) rfl w.heap.size 2 rfl ((cs.drop 2).take 18) _ (HBk.out.part 2 18) Tryz.underlying42 rfl (by rw [List.length_take, List.length_drop, HNa.out]; kernel_rfl) ?_)) | (refine op_met rfl (wpList_load_mid rfl 42 (.tmp 47) rfl (w.heap.size + 1) 2 rfl ((ds.drop 2).take 18) _ (HXk.out.part 2 18) Tryz.underlying42 rfl (by rw [List.length_take, List.length_drop, HNb.out]; kernel_rfl) ?_)))
  all_goals (try (refine (rsame_Select _ ay2 by2 _ _ w2 (Nat.le_refl _) (Hac2.out.kept HW0.out (Nat.le_refl _)) (Hbc2.out.kept HW0.out (Nat.le_refl _))).mono ?_; rintro e' w14 ⟨rfl, hw14⟩; have HW1 := Lib.hid (HW0.out.trans (hw14.mono HW0.out.size)); have HW1b := Lib.hid hw14; have hz4 : w.heap.size + 2 ≤ w14.heap.size := (by have := hw14.size; omega); clear hw14 hz3 p0 q0 p1 q1 p20 q20 p21 q21 p22 q22; have p20 := (HBk.out.below HW1b.out).cell 20 Hac4_.out; have q20 := (HXk.out.below HW1b.out).cell 20 Hbc4_.out; have p21 := (HBk.out.below HW1b.out).cell 21 Hac7_.out; have q21 := (HXk.out.below HW1b.out).cell 21 Hbc7_.out; cases hq0 : eqC ay2 by2 <;> go_wp2_with (first | (refine op_met rfl (wpList_load_mid rfl 42 (.tmp 45) rfl w.heap.size 2 rfl ((cs.drop 2).take 18) _ ((HBk.out.below HW1b.out).part 2 18) Tryz.underlying42 rfl (by rw [List.length_take, List.length_drop, HNa.out]; kernel_rfl) ?_)) | (refine op_met rfl (wpList_load_mid rfl 42 (.tmp 47) rfl (w.heap.size + 1) 2 rfl ((ds.drop 2).take 18) _ ((HXk.out.below HW1b.out).part 2 18) Tryz.underlying42 rfl (by rw [List.length_take, List.length_drop, HNb.out]; kernel_rfl) ?_)))))
  all_goals (try (go_ret; first | exact SamePost.no (by intro e; simp at e; have := La3.out; have := Lb3.out; have := La4.out; have := Lb4.out; simp_all [toList_iff, eqC_true, eqC_false, eqL_self]) HW0.out | exact SamePost.no (by intro e; simp at e; have := La3.out; have := Lb3.out; have := La4.out; have := Lb4.out; simp_all [toList_iff, eqC_true, eqC_false, eqL_self]) HW1.out))
  obtain rfl : ai0 = bi0 := by first | exact ‹ai0 = bi0› | (have h := ‹(ai0 != bi0) = false›; simpa using h)
  obtain rfl : ab1 = bb1 := by first | exact ‹ab1 = bb1› | (have h := ‹(ab1 != bb1) = false›; simpa using h)
  obtain rfl : ai5 = bi5 := by first | exact ‹ai5 = bi5› | (have h := ‹(ai5 != bi5) = false›; simpa using h)
  obtain rfl : an3 = bn3 := by first | (have h := ‹(an3 : Int) = (bn3 : Int)›; omega) | (have h := ‹((an3 : Int) != (bn3 : Int)) = false›; have h2 : (an3 : Int) = (bn3 : Int) := (by simpa using h); omega)
  obtain rfl : an4 = bn4 := by first | (have h := ‹(an4 : Int) = (bn4 : Int)›; omega) | (have h := ‹((an4 : Int) != (bn4 : Int)) = false›; have h2 : (an4 : Int) = (bn4 : Int) := (by simpa using h); omega)
  try simp only [bne_self_eq_false]
  clear p20 q20 p21 q21
  have hqe0 := eqC_true.1 hq0
  go_loopw [5] (fun c wr => ∃ k, LoopR w14 an4 k ax4 bx4 c wr) (fun c _ => an4 - (intOf c).toNat)
  case atStart => exact ⟨0, ⟨Nat.zero_le _, rfl, upTo_zero _ _, Below.refl _ _⟩⟩
  case round =>
    obtain ⟨k, ⟨hk, rfl, hs, hb⟩⟩ := hrel
    have HS := Lib.hid hs
    have p21 := ((HBk.out.below HW1b.out).below hb).cell 21 Hac7_.out
    have q21 := ((HXk.out.below HW1b.out).below hb).cell 21 Hbc7_.out
    clear hs
    by_cases hlt : k < an4
    · obtain ⟨g, o, us, eq, hgl, hul, hcell, hkx, hrx⟩ := elem_at Tryz.underlying44 zc_Order (by omega) Hac8.out hlt
      obtain ⟨g', o', vs, eq', hgl', hul', hcell', hkx', hrx'⟩ := elem_at Tryz.underlying44 zc_Order (by omega) Hbc8.out hlt
      subst eq eq'
      have HX := Lib.hid hrx
      have HY := Lib.hid hrx'
      have hwb := HW1.out.trans (hb.mono HW1.out.size)
      obtain ⟨ui0, ub1, rfl, hx0⟩ := shp_Order hrx
      obtain ⟨vi0, vb1, rfl, hy0⟩ := shp_Order hrx'
      have HXE := Lib.hid hx0
      have HYE := Lib.hid hy0
      have rr : ∀ j (u : Value), ([.int .i64 ui0, .bool ub1] : List Value)[j]? = some u → wr.cell? ⟨g, o + k * 2 + j, none⟩ = some u := fun j u hu => (hwb.cell (by exact hgl)).trans (hcell j u hu)
      have ss : ∀ j (u : Value), ([.int .i64 vi0, .bool vb1] : List Value)[j]? = some u → wr.cell? ⟨g', o' + k * 2 + j, none⟩ = some u := fun j u hu => (hwb.cell (by exact hgl')).trans (hcell' j u hu)
      have r0 := rr 0 _ rfl
      have s0 := ss 0 _ rfl
      have r1 := rr 1 _ rfl
      have s1 := ss 1 _ rfl
      simp only [Nat.add_zero] at r0 s0
      have c2 : (k : Int) < (an4 : Int) := by omega
      have c3 : (0 : Int) ≤ (k : Int) := by omega
      have d1 : decide ((k : Int) < (an4 : Int)) = true := decide_eq_true c2
      have gl : g < wr.heap.size := by have := hwb.size; omega
      have gl' : g' < wr.heap.size := by have := hwb.size; omega
      have HWB := Lib.hid hwb
      have HB := Lib.hid hb
      clear rr ss hcell hcell' hul hul' hrx hrx' hwb hb hx0 hy0
      by_cases hne : ui0 = vi0
      case neg =>
        have hn : decide (ui0 = vi0) = false := decide_eq_false hne
        have hq : eqC ax4[k] bx4[k] = false := by rw [HXE.out, HYE.out, eqC_false]; intro e2; simp at e2; simp_all
        go_upto_region 6 with (fail)
        go_quiet (fail)
        refine name_drew (K := Exit.then _ _ _ _) fun w4 hw4 hz4 => ?_
        have HB4 := Lib.hid (HB.out.trans (hw4.mono HB.out.size))
        clear hw4 HB HWB r0 s0 r1 s1 p21 q21
        go_wp2_with fail
        go_ret
        exact SamePost.no (by intro e; simp at e; have e3 := eqL_at hkx hkx' hq; simp_all [toList_iff, eqC_true, eqC_false, eqL_self]) (HW1.out.trans (HB4.out.mono HW1.out.size))
      subst hne
      by_cases hne : ub1 = vb1
      case neg =>
        have hn : (ub1 == vb1) = false := beq_eq_false_iff_ne.2 hne
        have hq : eqC ax4[k] bx4[k] = false := by rw [HXE.out, HYE.out, eqC_false]; intro e2; simp at e2; simp_all
        go_upto_region 6 with (fail)
        go_quiet (fail)
        refine name_drew (K := Exit.then _ _ _ _) fun w4 hw4 hz4 => ?_
        have HB4 := Lib.hid (HB.out.trans (hw4.mono HB.out.size))
        clear hw4 HB HWB r0 s0 r1 s1 p21 q21
        go_wp2_with fail
        go_ret
        exact SamePost.no (by intro e; simp at e; have e3 := eqL_at hkx hkx' hq; simp_all [toList_iff, eqC_true, eqC_false, eqL_self]) (HW1.out.trans (HB4.out.mono HW1.out.size))
      subst hne
      have hq : eqC ax4[k] bx4[k] = true := by rw [HXE.out, HYE.out]; exact eqC_self _
      go_upto_region 6 with (fail)
      go_quiet (fail)
      refine name_drew (K := Exit.then _ _ _ _) fun w4 hw4 hz4 => ?_
      have HB4 := Lib.hid (HB.out.trans (hw4.mono HB.out.size))
      clear hw4 HB HWB r0 s0 r1 s1 p21 q21
      go_wp2_with fail
      go_roundw
      case rel => exact ⟨k + 1, ⟨by omega, by go_num, upTo_succ HS.out _ _ hq, HB4.out⟩⟩
      case measure => simp [intOf]; omega
    · obtain rfl : k = an4 := by omega
      have d1 : decide ((k : Int) < (k : Int)) = false := decide_eq_false (by omega)
      have HE1 := Lib.hid (eqL_true.1 (upTo_all HS.out La4.out Lb4.out))
      have HWL0 := Lib.hid (HW1.out.trans (hb.mono HW1.out.size))
      have HWL0b := Lib.hid (HW1b.out.trans (hb.mono HW1b.out.size))
      have hzl0 : w.heap.size + 2 ≤ wr.heap.size := by have := hb.size; omega
      clear hb
      go_wp2_with fail
      clear p21 q21 d1
      generalize hwq : (wr : World) = w30 at HWL0 HWL0b hzl0 ⊢
      clear hwq
      go_loopw [6] (fun c wr => ∃ k, LoopR w30 an3 k ax3 bx3 c wr) (fun c _ => an3 - (intOf c).toNat)
      case atStart => exact ⟨0, ⟨Nat.zero_le _, rfl, upTo_zero _ _, Below.refl _ _⟩⟩
      case round =>
        obtain ⟨k, ⟨hk, rfl, hs, hb⟩⟩ := hrel
        have HS := Lib.hid hs
        have p20 := ((HBk.out.below HWL0b.out).below hb).cell 20 Hac4_.out
        have q20 := ((HXk.out.below HWL0b.out).below hb).cell 20 Hbc4_.out
        clear hs
        by_cases hlt : k < an3
        · obtain ⟨g, o, us, eq, hgl, hul, hcell, hkx, hrx⟩ := elem_at Tryz.underlying43 zc_Query (by omega) Hac5.out hlt
          obtain ⟨g', o', vs, eq', hgl', hul', hcell', hkx', hrx'⟩ := elem_at Tryz.underlying43 zc_Query (by omega) Hbc5.out hlt
          subst eq eq'
          have HX := Lib.hid hrx
          have HY := Lib.hid hrx'
          have hwb := HWL0.out.trans (hb.mono HWL0.out.size)
          have c2 : (k : Int) < (an3 : Int) := by omega
          have c3 : (0 : Int) ≤ (k : Int) := by omega
          have d1 : decide ((k : Int) < (an3 : Int)) = true := decide_eq_true c2
          have gl : g < wr.heap.size := by have := hwb.size; omega
          have gl' : g' < wr.heap.size := by have := hwb.size; omega
          have HWB := Lib.hid hwb
          have HB := Lib.hid hb
          have HU := Lib.hid hul
          have HV := Lib.hid hul'
          have HR : Hid (wr.rangeAt g (o + k * 23) us) := Lib.hid (fun j u hu => (hwb.cell (by exact hgl)).trans (hcell j u hu))
          have HQ : Hid (wr.rangeAt g' (o' + k * 23) vs) := Lib.hid (fun j u hu => (hwb.cell (by exact hgl')).trans (hcell' j u hu))
          clear hcell hcell' hul hul' hrx hrx' hwb hb
          go_upto_region 11 with (fail)
          go_still_tail 10, (by kernel_rfl)
          refine still_load rfl 46 (.tmp 80) rfl g (o + k * 23) rfl us _ HR.out Tryz.underlying46 rfl (by rw [HU.out]; kernel_rfl) ?_
          repeat still_step
          refine still_load rfl 46 (.tmp 85) rfl g' (o' + k * 23) rfl vs _ HQ.out Tryz.underlying46 rfl (by rw [HV.out]; kernel_rfl) ?_
          refine wpStill_nil ?_
          change wpList _ _ _ _ _ (wr.drewN 1)
          have HB3 := Lib.hid (HB.out.trans ((belowD wr 1).mono HB.out.size))
          have HW3 := Lib.hid (HWB.out.trans ((belowD wr 1).mono HWB.out.size))
          clear HB HWB HR HQ p20 q20
          generalize wr.drewN 1 = w3 at HB3 HW3 ⊢
          go_wp2_with fail
          refine (HI.out ax3[k] bx3[k] _ _ _ (HNr.out _ (List.getElem_mem _)) (HX.out.kept HW3.out (Nat.le_refl _)) (HY.out.kept HW3.out (Nat.le_refl _))).mono ?_
          rintro e' w4 ⟨rfl, hw4⟩
          have HB4 := Lib.hid (HB3.out.trans (hw4.mono HB3.out.size))
          clear hw4 HB3 HW3
          cases hq : eqC ax3[k] bx3[k] with
          | true =>
            go_wp2_with fail
            go_roundw
            case rel => exact ⟨k + 1, ⟨by omega, by go_num, upTo_succ HS.out _ _ hq, HB4.out⟩⟩
            case measure => simp [intOf]; omega
          | false =>
            go_wp2_with fail
            go_ret
            exact SamePost.no (by intro e; simp at e; have e3 := eqL_at hkx hkx' hq; simp_all [toList_iff, eqC_true, eqC_false, eqL_self]) (HWL0.out.trans (HB4.out.mono HWL0.out.size))
        · obtain rfl : k = an3 := by omega
          have d1 : decide ((k : Int) < (k : Int)) = false := decide_eq_false (by omega)
          have HE2 := Lib.hid (eqL_true.1 (upTo_all HS.out La3.out Lb3.out))
          have HB := Lib.hid (HWL0.out.trans (hb.mono HWL0.out.size))
          clear hb
          go_wp2_with fail
          go_ret
          exact SamePost.yes (by have k1 := HE1.out; have k2 := HE2.out; simp_all [toList_iff, eqC_true, eqC_false, eqL_self]) HB.out
theorem rsame_Query : ∀ N, SameN 89 46 N
  | 0 => fun x y cs ds w hN => by cases x <;> simp at hN
  | N + 1 => rsame_Query_step N (rsame_Query N)
end Go.Proofs.YtlimlmjljjmcpaaGreatDoor.Ps
