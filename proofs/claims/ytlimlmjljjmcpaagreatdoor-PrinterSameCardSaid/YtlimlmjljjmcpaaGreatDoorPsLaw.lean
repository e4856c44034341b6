/-
  bitemporalref19.Same; the law's walk.
-/
import Derived.Test.YtlimlmjljjmcpaaGreatDoorPsZ
import Derived.Test.YtlimlmjljjmcpaaGreatDoorPsR7
import Derived.Test.YtlimlmjljjmcpaaGreatDoorPsAwk
import Derived.Test.YtlimlmjljjmcpaaGreatDoorGrow
namespace Go.Proofs.YtlimlmjljjmcpaaGreatDoor.Ps
open Go Go.RowKit
set_option linter.unusedVariables false
set_option linter.unusedSimpArgs false
theorem st_len {w : World} {cs : List Value} {x : C} (h : Rp Tryz.prog w 63 cs x) : cs.length = 60 := by
  obtain ⟨ys, rfl, hn, hl, hx⟩ := h.struct_inv Tryz.underlying63
  rw [zc_Statement] at hn
  exact hn
set_option maxHeartbeats 20000000 in
set_option maxRecDepth 100000 in
theorem rsame19 {x y : C} {cs ds : List Value} {w : World} (h1 : Rp Tryz.prog w 63 cs x) (h2 : Rp Tryz.prog w 63 ds y) :
    Calls Tryz.prog 13 #[.agg cs.toArray, .agg ds.toArray] w (SamePost w x y) := by
  have HNa := Lib.hid (st_len h1)
  have HNb := Lib.hid (st_len h2)
  have H1 := Lib.hid h1
  have H2 := Lib.hid h2
  clear h1 h2
  go_enter Tryz.func13, Tryz.ntmps13
  go_wp2_with (refine box_new rfl 63 (.tmp 0) rfl cs rfl ?_)
  intro w1 hB hw1 hz1
  go_wp2_with (refine box_new rfl 63 (.tmp 1) rfl ds rfl ?_)
  intro w2 hX hw2 hz2
  rw [← hz1] at hw2
  have HW0 := Lib.hid (hw1.trans (hw2.mono hw1.size))
  have HBk := Lib.hid (hB.below hw2)
  have HXk := Lib.hid hX
  have hz3 : w.heap.size + 2 ≤ w2.heap.size := by omega
  clear hw1 hw2 hB hX hz1 hz2
  go_wp2_with (first | (refine op_met rfl (wpList_load_mid rfl 63 (.tmp 2) rfl w.heap.size 0 rfl cs _ HBk.out.all Tryz.underlying63 rfl (by rw [HNa.out]; kernel_rfl) ?_)) | (refine op_met rfl (wpList_load_mid rfl 63 (.tmp 3) rfl (w.heap.size + 1) 0 rfl ds _ HXk.out.all Tryz.underlying63 rfl (by rw [HNb.out]; kernel_rfl) ?_)))
  refine (rsame_St _ x y _ _ w2 (Nat.le_refl _) (H1.out.kept HW0.out (Nat.le_refl _)) (H2.out.kept HW0.out (Nat.le_refl _))).mono ?_
  rintro e' w3 ⟨rfl, hw3⟩
  have HW1 := Lib.hid (HW0.out.trans (hw3.mono HW0.out.size))
  clear hw3
  go_wp2_with fail
  go_ret
  exact ⟨rfl, HW1.out⟩
set_option maxHeartbeats 20000000 in
set_option maxRecDepth 100000 in
theorem same_walk {x y : C} {cs ds : List Value} {w : World} (ht : Ax.TabW w) (h1 : Rp Tryz.prog w 63 cs x) (h2 : Rp Tryz.prog w 63 ds y) :
    Calls Tryz.prog 4 #[.agg cs.toArray, .agg ds.toArray] w fun e w' => e = .returned (.bool true) ∧ Below w.heap.size w w' := by
  have HNa := Lib.hid (st_len h1)
  have HNb := Lib.hid (st_len h2)
  have H1 := Lib.hid h1
  have H2 := Lib.hid h2
  have HT := Lib.hid ht
  clear h1 h2 ht
  go_enter Tryz.func4, Tryz.ntmps4
  go_wp2_with (refine box_new rfl 63 (.tmp 0) rfl cs rfl ?_)
  intro w1 hB hw1 hz1
  go_wp2_with (refine box_new rfl 63 (.tmp 1) rfl ds rfl ?_)
  intro w2 hX hw2 hz2
  rw [← hz1] at hw2
  have HW0 := Lib.hid (hw1.trans (hw2.mono hw1.size))
  have HBk := Lib.hid (hB.below hw2)
  have HXk := Lib.hid hX
  have hz3 : w.heap.size + 2 ≤ w2.heap.size := by omega
  clear hw1 hw2 hB hX hz1 hz2
  go_upto_region 1 with (fail)
  have hb0 : Below w2.heap.size w2 { w2 with drawn := w2.drawn + 1 } := belowD w2 1
  refine Gr.region_grow 15 (by kernel_rfl) (by kernel_rfl) (fun w' => Below w2.heap.size w2 w') hb0 ?_
  simp only [List.take_succ_cons, List.take_zero, List.drop_succ_cons, List.drop_zero]
  have la : ∀ w', Below w2.heap.size w2 w' → w'.rangeAt w.heap.size 0 cs := fun w' h => (HBk.out.below h).all
  have lb : ∀ w', Below w2.heap.size w2 w' → w'.rangeAt (w.heap.size + 1) 0 ds := fun w' h => (HXk.out.below h).all
  have r1 : ∀ w', Below w2.heap.size w2 w' → Rp Tryz.prog w' 63 cs x := fun w' h => H1.out.kept (HW0.out.trans (h.mono HW0.out.size)) (Nat.le_refl _)
  have r2 : ∀ w', Below w2.heap.size w2 w' → Rp Tryz.prog w' 63 ds y := fun w' h => H2.out.kept (HW0.out.trans (h.mono HW0.out.size)) (Nat.le_refl _)
  have fam : ∀ (F : FuncId) (args : Array Value) (v : Value) (w' : World), Below w2.heap.size w2 w' → Calls Tryz.prog F args w' (fun e w'' => e = .returned v ∧ Below w'.heap.size w' w'') → Calls Tryz.prog F args w' (fun e w'' => e = .returned v ∧ Below w2.heap.size w2 w'') := fun F args v w' h hc => hc.mono fun e w'' ⟨h1, h2⟩ => ⟨h1, h.trans (h2.mono h.size)⟩
  have LA := Lib.hid la
  have LB := Lib.hid lb
  have R1 := Lib.hid r1
  have R2 := Lib.hid r2
  have FM := Lib.hid fam
  have hsx : eqC x x = true := eqC_self x
  clear la lb r1 r2 fam hb0
  refine Gr.line_load rfl 63 (.tmp 2) rfl w.heap.size 0 rfl cs _ LA.out Tryz.underlying63 rfl (by rw [HNa.out]; kernel_rfl) ?_
  refine Gr.line_norm fun K hK => ?_; go_simp; refine hK _ ?_; clear hK K
  refine Gr.line_load rfl 63 (.tmp 3) rfl (w.heap.size + 1) 0 rfl ds _ LB.out Tryz.underlying63 rfl (by rw [HNb.out]; kernel_rfl) ?_
  refine Gr.line_norm fun K hK => ?_; go_simp; refine hK _ ?_; clear hK K
  refine Gr.line_step (.bool (eqC x y)) (by go_simp; intro w' hw'; go_simp; rw [Gr.grown_enter]; exact FM.out _ _ _ w' hw' (same_Statement _ x y _ _ w' (Nat.le_refl _) (R1.out w' hw') (R2.out w' hw'))) ?_
  refine Gr.line_norm fun K hK => ?_; go_simp; refine hK _ ?_; clear hK K
  refine Gr.line_load rfl 63 (.tmp 2) rfl w.heap.size 0 rfl cs _ LA.out Tryz.underlying63 rfl (by rw [HNa.out]; kernel_rfl) ?_
  refine Gr.line_norm fun K hK => ?_; go_simp; refine hK _ ?_; clear hK K
  refine Gr.line_load rfl 63 (.tmp 3) rfl (w.heap.size + 1) 0 rfl ds _ LB.out Tryz.underlying63 rfl (by rw [HNb.out]; kernel_rfl) ?_
  refine Gr.line_norm fun K hK => ?_; go_simp; refine hK _ ?_; clear hK K
  refine Gr.line_step (.bool (eqC x y)) (by go_simp; intro w' hw'; go_simp; rw [Gr.grown_enter]; exact FM.out _ _ _ w' hw' (rsame19 (R1.out w' hw') (R2.out w' hw'))) ?_
  refine Gr.line_norm fun K hK => ?_; go_simp; refine hK _ ?_; clear hK K
  refine Gr.line_step (.bool true) (by go_simp; intro w' hw'; go_simp; rw [Gr.grown_value]) ?_
  refine Gr.line_norm fun K hK => ?_; go_simp; refine hK _ ?_; clear hK K
  refine Gr.line_step (.bool true) (by go_simp; intro w' hw'; go_simp; rw [Gr.grown_value]) ?_
  refine Gr.line_norm fun K hK => ?_; go_simp; refine hK _ ?_; clear hK K
  refine Gr.line_load rfl 63 (.tmp 2) rfl w.heap.size 0 rfl cs _ LA.out Tryz.underlying63 rfl (by rw [HNa.out]; kernel_rfl) ?_
  refine Gr.line_norm fun K hK => ?_; go_simp; refine hK _ ?_; clear hK K
  refine Gr.line_load rfl 63 (.tmp 2) rfl w.heap.size 0 rfl cs _ LA.out Tryz.underlying63 rfl (by rw [HNa.out]; kernel_rfl) ?_
  refine Gr.line_norm fun K hK => ?_; go_simp; refine hK _ ?_; clear hK K
  have SS : Hid (∀ w', Below w2.heap.size w2 w' → Calls Tryz.prog 12 #[.agg cs.toArray, .agg cs.toArray] w' (fun e w'' => e = .returned (.bool true) ∧ Below w'.heap.size w' w'')) := Lib.hid (fun w' hw' => by have h := same_Statement _ x x _ _ w' (Nat.le_refl _) (R1.out w' hw') (R1.out w' hw'); unfold SamePost at h; rw [hsx] at h; exact h)
  refine Gr.line_step (.bool true) (by go_simp; intro w' hw'; go_simp; rw [Gr.grown_enter]; exact FM.out _ _ _ w' hw' (SS.out w' hw')) ?_
  refine Gr.line_norm fun K hK => ?_; go_simp; refine hK _ ?_; clear hK K
  refine Gr.line_step (.bool true) (by go_simp; intro w' hw'; go_simp; rw [Gr.grown_value]) ?_
  refine Gr.line_norm fun K hK => ?_; go_simp; refine hK _ ?_; clear hK K
  refine Gr.line_step (.bool true) (by go_simp; intro w' hw'; go_simp; rw [Gr.grown_value]) ?_
  refine Gr.line_norm fun K hK => ?_; go_simp; refine hK _ ?_; clear hK K
  refine Gr.line_step (.bool true) (by go_simp; intro w' hw'; go_simp; rw [Gr.grown_enter]; exact FM.out _ _ _ w' hw' (Ax.awake_call w' (Ax.tabW_below HT.out (HW0.out.trans (hw'.mono HW0.out.size))))) ?_
  refine Gr.line_norm fun K hK => ?_; go_simp; refine hK _ ?_; clear hK K
  refine Gr.line_step (.bool true) (by go_simp; intro w' hw'; go_simp; rw [Gr.grown_value]) ?_
  refine Gr.line_norm fun K hK => ?_; go_simp; refine hK _ ?_; clear hK K
  refine Gr.line_nil fun w' hw' => ?_
  have HE := Lib.hid (HW0.out.trans (hw'.mono HW0.out.size))
  clear hw'
  go_wp2_with fail
  go_ret
  exact ⟨rfl, HE.out⟩
end Go.Proofs.YtlimlmjljjmcpaaGreatDoor.Ps
