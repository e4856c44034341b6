/-
  sameQuery, and slices.EqualFunc over it (Printed by gen_same2.py.)
-/
import Derived.Test.YtlimlmjljjmcpaaGreatDoorPsS
namespace Go.Proofs.YtlimlmjljjmcpaaGreatDoor.Ps
open Go Go.RowKit
set_option linter.unusedVariables false
set_option linter.unusedSimpArgs false
set_option maxHeartbeats 8000000 in
set_option maxRecDepth 100000 in
theorem eqf_Query (N : Nat) (HI0 : SameN 33 46 N) (xs ys : List C) (hN : ∀ x ∈ xs, SizeOf.sizeOf x ≤ N) (a b : Option Addr) (n m n' m' : Nat) (w : World)
    (h1 : Rp Tryz.prog w 43 [.slice a n m] (.s xs)) (h2 : Rp Tryz.prog w 43 [.slice b n' m'] (.s ys)) :
    Calls Tryz.prog 84 #[.slice a n m, .slice b n' m', .func (.func 33) #[] #[]] w (SamePost w (.s xs) (.s ys)) := by
  obtain ⟨l1, n1⟩ := slice_len Tryz.underlying43 (by kernel_rfl : Tryz.prog.bytesOf 46 = 312) (by decide) h1
  obtain ⟨l2, n2⟩ := slice_len Tryz.underlying43 (by kernel_rfl : Tryz.prog.bytesOf 46 = 312) (by decide) h2
  have H1 := Lib.hid h1
  have H2 := Lib.hid h2
  have HI := Lib.hid HI0
  have HN := Lib.hid hN
  have L1 := Lib.hid l1
  have L2 := Lib.hid l2
  clear h1 h2 HI0 hN l1 l2
  by_cases hlen : n = n'
  · subst hlen
    go_enter Tryz.func84, Tryz.ntmps84
    go_wp2_with fail
    go_loopw [17] (fun c wr => ∃ k, LoopR w n k xs ys c wr) (fun c _ => n - (intOf c).toNat)
    case atStart => exact ⟨0, ⟨Nat.zero_le _, rfl, upTo_zero _ _, Below.refl _ _⟩⟩
    case round =>
      obtain ⟨k, ⟨hk, rfl, hs, hb⟩⟩ := hrel
      have HS := Lib.hid hs
      clear hs
      by_cases hlt : k < n
      · obtain ⟨g, o, us, eq, hgl, hul, hcell, hkx, hrx⟩ := elem_at Tryz.underlying43 zc_Query (by omega) H1.out hlt
        obtain ⟨g', o', vs, eq', hgl', hul', hcell', hkx', hrx'⟩ := elem_at Tryz.underlying43 zc_Query (by omega) H2.out hlt
        subst eq eq'
        have HX := Lib.hid hrx
        have HY := Lib.hid hrx'
        have HO := Lib.hid hrx.one
        have HO' := Lib.hid hrx'.one
        have HU := Lib.hid hul
        have HV := Lib.hid hul'
        have HR : Hid (wr.rangeAt g (o + k * 23) us) := Lib.hid (fun j u hu => (hb.cell (by exact hgl)).trans (hcell j u hu))
        have HQ : Hid (∀ w5 : World, Below w.heap.size w w5 → w5.rangeAt g' (o' + k * 23) vs) := Lib.hid (fun w5 h5 j u hu => (h5.cell (by exact hgl')).trans (hcell' j u hu))
        have c2 : (k : Int) < (n : Int) := by omega
        have c3 : (0 : Int) ≤ (k : Int) := by omega
        have d1 : decide ((k : Int) < (n : Int)) = true := decide_eq_true c2
        have HB := Lib.hid hb
        have hz := hb.size
        clear hcell hcell' hul hul' hrx hrx' hb
        go_wp2_with (first | (refine wpList_load_mid rfl 46 (.tmp 20) rfl g (o + k * 23) rfl us _ HR.out Tryz.underlying46 rfl (by rw [HU.out]; kernel_rfl) ?_) | (refine store_blk rfl 46 (.tmp 8) (.tmp 21) rfl wr.heap.size us rfl rfl 46 _ (Blk.new wr _ _) (by rw [HU.out]; kernel_rfl) (by rw [HU.out]; rfl) HO.out ?_))
        intro w5 hB5 hg5 hz5
        have HB5 := Lib.hid ((HB.out.alloc HB.out.size _).grown hg5 (by simp; omega) (fun q e => by injection e with e; omega))
        have HK5 := Lib.hid hB5
        have HR5 := Lib.hid (HQ.out w5 HB5.out)
        have HZ5 : Hid (w5.heap.size = wr.heap.size + 1) := Lib.hid (by simpa using hz5)
        clear hB5 hg5 hz5
        go_wp2_with (first | (refine wpList_load_mid rfl 46 (.tmp 24) rfl g' (o' + k * 23) rfl vs _ HR5.out Tryz.underlying46 rfl (by rw [HV.out]; kernel_rfl) ?_) | (refine store_blk rfl 46 (.tmp 9) (.tmp 25) rfl w5.heap.size vs rfl rfl 46 _ (Blk.new w5 _ _) (by rw [HV.out]; kernel_rfl) (by rw [HV.out]; rfl) HO'.out ?_))
        intro w6 hB6 hg6 hz6
        have HB6 := Lib.hid ((HB5.out.alloc HB5.out.size _).grown hg6 (by simp; have := HZ5.out; omega) (fun q e => by injection e with e; have := HZ5.out; omega))
        have HK6 := Lib.hid hB6
        have HK56 := Lib.hid ((HK5.out.alloc _).grown hg6 (by have := HZ5.out; omega))
        clear hB6 hg6 hz6
        go_wp2_with (first | (refine wpList_load_mid rfl 46 (.tmp 8) rfl wr.heap.size 0 rfl us _ HK56.out.all Tryz.underlying46 rfl (by rw [HU.out]; kernel_rfl) ?_) | (refine wpList_load_mid rfl 46 (.tmp 9) rfl w5.heap.size 0 rfl vs _ HK6.out.all Tryz.underlying46 rfl (by rw [HV.out]; kernel_rfl) ?_))
        refine (HI.out xs[k] ys[k] _ _ _ (HN.out _ (List.getElem_mem _)) (HX.out.kept HB6.out (Nat.le_refl _)) (HY.out.kept HB6.out (Nat.le_refl _))).mono ?_
        rintro e' w4 ⟨rfl, hw4⟩
        have HB4 := Lib.hid (HB6.out.trans (hw4.mono HB6.out.size))
        clear hw4 HX HY HB HB5 HB6 HK5 HK6 HK56 HR5 HR
        cases hq : eqC xs[k] ys[k] with
        | true =>
          go_wp2_with fail
          go_roundw
          case rel => exact ⟨k + 1, ⟨by omega, by go_num, upTo_succ HS.out _ _ hq, HB4.out⟩⟩
          case measure => simp [intOf]; omega
        | false =>
          go_wp2_with fail
          go_ret
          exact SamePost.no (fun e => by injection e with e; rw [← eqL_true, eqL_at hkx hkx' hq] at e; cases e) HB4.out
      · obtain rfl : k = n := by omega
        have d1 : decide ((k : Int) < (k : Int)) = false := decide_eq_false (by omega)
        have HB := Lib.hid hb
        clear hb
        go_wp2_with fail
        go_ret
        exact SamePost.yes (by rw [eqL_true.1 (upTo_all HS.out L1.out L2.out)]) HB.out
  · have d0 : decide ((n : Int) = (n' : Int)) = false := decide_eq_false (by omega)
    go_enter Tryz.func84, Tryz.ntmps84
    go_wp2_with fail
    go_ret
    exact SamePost.no (fun e => by injection e with e; exact hlen (L1.out.symm.trans ((congrArg List.length e).trans L2.out))) (Below.refl _ _)
set_option maxHeartbeats 20000000 in
set_option maxRecDepth 100000 in
theorem same_Query_step (N : Nat) (HI0 : SameN 33 46 N) : SameN 33 46 (N + 1) := fun x y cs ds w hN h1 h2 => by
  obtain ⟨ai0, ab1, ay2, aq3, an3, am3, ax3, aq4, an4, am4, ax4, ai5, an, rfl, ac0, ac1, ac2, ac3, ac4, ac5, ac6, ac7, ac8, ac9⟩ := shp_Query h1
  obtain ⟨bi0, bb1, by2, bq3, bn3, bm3, bx3, bq4, bn4, bm4, bx4, bi5, bn, rfl, bc0, bc1, bc2, bc3, bc4, bc5, bc6, bc7, bc8, bc9⟩ := shp_Query h2
  have Hac2 := Lib.hid ac2
  have Hac5 := Lib.hid ac5
  have Hac8 := Lib.hid ac8
  have Hbc2 := Lib.hid bc2
  have Hbc5 := Lib.hid bc5
  have Hbc8 := Lib.hid bc8
  have HNa := Lib.hid an
  have HNb := Lib.hid bn
  have HI := Lib.hid HI0
  have HNr : ∀ x ∈ ax3, SizeOf.sizeOf x ≤ N := fun x hx => by
    have := List.sizeOf_lt_of_mem hx
    simp at hN
    omega
  have HNr := Lib.hid HNr
  have Hac0_ := Lib.hid ac0
  have Hac1_ := Lib.hid ac1
  have Hac4_ := Lib.hid ac4
  have Hac7_ := Lib.hid ac7
  have Hac9_ := Lib.hid ac9
  have Hbc0_ := Lib.hid bc0
  have Hbc1_ := Lib.hid bc1
  have Hbc4_ := Lib.hid bc4
  have Hbc7_ := Lib.hid bc7
  have Hbc9_ := Lib.hid bc9
  clear HI0 h1 h2 hN an bn ac2 ac5 ac8 bc2 bc5 bc8 ac0 ac1 ac4 ac7 ac9 bc0 bc1 bc4 bc7 bc9
  go_enter Tryz.func33, Tryz.ntmps33
  go_wp2_with (refine box_new rfl 46 (.tmp 0) rfl cs rfl ?_)
  intro w1 hB hw1 hz1
  go_wp2_with (refine box_new rfl 46 (.tmp 1) rfl ds rfl ?_)
  intro w2 hX hw2 hz2
  rw [← hz1] at hw2
  have HW0 := Lib.hid (hw1.trans (hw2.mono hw1.size))
  have HBk := Lib.hid (hB.below hw2)
  have HXk := Lib.hid hX
  have p0 := (HBk.out).cell 0 Hac0_.out
  have p1 := (HBk.out).cell 1 Hac1_.out
  have p20 := (HBk.out).cell 20 Hac4_.out
  have p21 := (HBk.out).cell 21 Hac7_.out
  have p22 := (HBk.out).cell 22 Hac9_.out
  have q0 := (HXk.out).cell 0 Hbc0_.out
  have q1 := (HXk.out).cell 1 Hbc1_.out
  have q20 := (HXk.out).cell 20 Hbc4_.out
  have q21 := (HXk.out).cell 21 Hbc7_.out
  have q22 := (HXk.out).cell 22 Hbc9_.out
  have hz3 : w.heap.size + 2 ≤ w2.heap.size := by omega
  clear hw1 hw2 hB hX
  go_wp2_with (first | (refine op_met rfl (wpList_load_mid rfl 42 (.tmp 32) rfl w.heap.size 2 rfl ((cs.drop 2).take 18) _ (HBk.out.part 2 18) Tryz.underlying42 rfl (by rw [List.length_take, List.length_drop, HNa.out]; kernel_rfl) ?_)) | (refine op_met rfl (wpList_load_mid rfl 42 (.tmp 34) rfl (w.heap.size + 1) 2 rfl ((ds.drop 2).take 18) _ (HXk.out.part 2 18) Tryz.underlying42 rfl (by rw [List.length_take, List.length_drop, HNb.out]; kernel_rfl) ?_)))
  all_goals (try (refine (eq_Order ax4 bx4 _ _ _ _ _ _ w2 (Hac8.out.kept HW0.out (Nat.le_refl _)) (Hbc8.out.kept HW0.out (Nat.le_refl _))).mono ?_; rintro e' w4 ⟨rfl, hw4⟩; have HW1 := Lib.hid (HW0.out.trans (hw4.mono HW0.out.size)); have HW1b := Lib.hid hw4; have hz4 : w.heap.size + 2 ≤ w4.heap.size := (by have := hw4.size; omega); clear hw4 hz3 p0 q0 p1 q1 p20 q20 p21 q21 p22 q22; have p20 := (HBk.out.below HW1b.out).cell 20 Hac4_.out; have q20 := (HXk.out.below HW1b.out).cell 20 Hbc4_.out; cases hq0 : eqC (C.s ax4) (C.s bx4) <;> go_wp2_with (first | (refine op_met rfl (wpList_load_mid rfl 42 (.tmp 32) rfl w.heap.size 2 rfl ((cs.drop 2).take 18) _ ((HBk.out.below HW1b.out).part 2 18) Tryz.underlying42 rfl (by rw [List.length_take, List.length_drop, HNa.out]; kernel_rfl) ?_)) | (refine op_met rfl (wpList_load_mid rfl 42 (.tmp 34) rfl (w.heap.size + 1) 2 rfl ((ds.drop 2).take 18) _ ((HXk.out.below HW1b.out).part 2 18) Tryz.underlying42 rfl (by rw [List.length_take, List.length_drop, HNb.out]; kernel_rfl) ?_)))))
  all_goals (try (refine (same_Select _ ay2 by2 _ _ w4 (Nat.le_refl _) (Hac2.out.kept HW1.out (Nat.le_refl _)) (Hbc2.out.kept HW1.out (Nat.le_refl _))).mono ?_; rintro e' w5 ⟨rfl, hw5⟩; have HW2 := Lib.hid (HW1.out.trans (hw5.mono HW1.out.size)); have HW2b := Lib.hid (HW1b.out.trans (hw5.mono HW1b.out.size)); have hz5 : w.heap.size + 2 ≤ w5.heap.size := (by have := hw5.size; omega); clear hw5 hz4 p20 q20; have p20 := (HBk.out.below HW2b.out).cell 20 Hac4_.out; have q20 := (HXk.out.below HW2b.out).cell 20 Hbc4_.out; cases hq1 : eqC (ay2) (by2) <;> go_wp2_with (first | (refine op_met rfl (wpList_load_mid rfl 42 (.tmp 32) rfl w.heap.size 2 rfl ((cs.drop 2).take 18) _ ((HBk.out.below HW2b.out).part 2 18) Tryz.underlying42 rfl (by rw [List.length_take, List.length_drop, HNa.out]; kernel_rfl) ?_)) | (refine op_met rfl (wpList_load_mid rfl 42 (.tmp 34) rfl (w.heap.size + 1) 2 rfl ((ds.drop 2).take 18) _ ((HXk.out.below HW2b.out).part 2 18) Tryz.underlying42 rfl (by rw [List.length_take, List.length_drop, HNb.out]; kernel_rfl) ?_)))))
  all_goals (try (refine (eqf_Query N HI.out ax3 bx3 HNr.out _ _ _ _ _ _ w5 (Hac5.out.kept HW2.out (Nat.le_refl _)) (Hbc5.out.kept HW2.out (Nat.le_refl _))).mono ?_; rintro e' w6 ⟨rfl, hw6⟩; have HW3 := Lib.hid (HW2.out.trans (hw6.mono HW2.out.size)); have HW3b := Lib.hid (HW2b.out.trans (hw6.mono HW2b.out.size)); have hz6 : w.heap.size + 2 ≤ w6.heap.size := (by have := hw6.size; omega); clear hw6 hz5 p20 q20; cases hq2 : eqC (C.s ax3) (C.s bx3) <;> go_wp2_with (first | (refine op_met rfl (wpList_load_mid rfl 42 (.tmp 32) rfl w.heap.size 2 rfl ((cs.drop 2).take 18) _ ((HBk.out.below HW3b.out).part 2 18) Tryz.underlying42 rfl (by rw [List.length_take, List.length_drop, HNa.out]; kernel_rfl) ?_)) | (refine op_met rfl (wpList_load_mid rfl 42 (.tmp 34) rfl (w.heap.size + 1) 2 rfl ((ds.drop 2).take 18) _ ((HXk.out.below HW3b.out).part 2 18) Tryz.underlying42 rfl (by rw [List.length_take, List.length_drop, HNb.out]; kernel_rfl) ?_)))))
  all_goals
    go_ret
    first
    | exact SamePost.no (by intro e; simp at e; simp_all [toList_iff, eqC_true, eqC_false]) HW0.out
    | exact SamePost.no (by intro e; simp at e; simp_all [toList_iff, eqC_true, eqC_false]) HW1.out
    | exact SamePost.no (by intro e; simp at e; simp_all [toList_iff, eqC_true, eqC_false]) HW2.out
    | exact SamePost.no (by intro e; simp at e; simp_all [toList_iff, eqC_true, eqC_false]) HW3.out
    | exact SamePost.yes (by simp_all [toList_iff, eqC_true, eqC_false]) HW3.out
theorem same_Query : ∀ N, SameN 33 46 N
  | 0 => fun x y cs ds w hN => by cases x <;> simp at hN
  | N + 1 => same_Query_step N (same_Query N)
end Go.Proofs.YtlimlmjljjmcpaaGreatDoor.Ps
