/-
  The reference's comparison of selects, at equal values.
-/
import Derived.Test.YtpmncgbpbcgfaaaGreatDoorSsB
namespace Go.Proofs.YtpmncgbpbcgfaaaGreatDoor
open Go.RowKit
set_option linter.unusedVariables false
set_option linter.unusedSimpArgs false

theorem item_cells {w : World} {g : Nat} {t : TypeId} {xs : List Value} {a : Item} (h : Blk w g (xs ++ [natV a.agg, .bool a.star, strV a.name]) t) (hl : xs.length = 7) :
    w.rangeAt g 0 xs ∧ w.cell? ⟨g, 7, none⟩ = some (.int .i64 (a.agg : Int)) ∧ w.cell? ⟨g, 8, none⟩ = some (.bool a.star) ∧ w.cell? ⟨g, 9, none⟩ = some (strV a.name) :=
  ⟨h.part (pre := []), cell_at h ⟨_, rfl⟩ hl, cell_at (pre := xs ++ [natV a.agg]) h ⟨_, by rw [List.append_assoc]; rfl⟩ (by simp [hl]), cell_at (pre := xs ++ [natV a.agg, .bool a.star]) h ⟨_, by rw [List.append_assoc]; rfl⟩ (by simp [hl])⟩
def itemZ : List Value := zeroE7 ++ [natV 0, .bool false, strV []]
theorem SelIs.below {w w' : World} {F : Nat → Prop} {a : Sel} {vi vj vg : Value} {es : List Value} (h : SelIs w F a vi vj vg es) (hb : Below w.heap.size w w') : SelIs w' F a vi vj vg es := ⟨h.items.below goodItem hb, h.joins.below goodJn hb, goodE.below h.cond hb, h.group.below goodE hb⟩
set_option maxHeartbeats 8000000 in
set_option maxRecDepth 100000 in
theorem sameSel_call (a : Sel) (cs ds : List Value) (w : World) (F G : Nat → Prop) (h1 : SelRep w F a cs) (h2 : SelRep w G a ds) :
    Calls Tryz.prog 38 #[.agg cs.toArray, .agg ds.toArray] w fun e' w' => e' = .returned (.bool true) ∧ Below w.heap.size w w' := by
  obtain ⟨vi, vj, vg, es, hs, rfl⟩ := h1
  obtain ⟨ui, uj, ug, fs, ht, rfl⟩ := h2
  obtain ⟨AI, cI, rfl⟩ := hs.items.form
  obtain ⟨AJ, cJ, rfl⟩ := hs.joins.form
  obtain ⟨BI, dI, rfl⟩ := ht.items.form
  obtain ⟨BJ, dJ, rfl⟩ := ht.joins.form
  have hlenI := hs.items.len_le
  have hlenJ := hs.joins.len_le
  unfold maxLen at hlenI hlenJ
  have HS := Lib.hid hs
  have HT := Lib.hid ht
  have HEL := Lib.hid hs.cond.len
  have HFL := Lib.hid ht.cond.len
  clear hs ht
  go_enter Tryz.func38, Tryz.ntmps38
  go_wp2_with (refine box_new rfl 36 (.tmp 0) rfl (selCells a (.slice AI a.items.length cI) (.slice AJ a.joins.length cJ) vg es) rfl ?_)
  intro w1 hB hw1 hz1
  go_wp2_with (refine box_new rfl 36 (.tmp 1) rfl (selCells a (.slice BI a.items.length dI) (.slice BJ a.joins.length dJ) ug fs) rfl ?_)
  intro w2 hX hw2 hz2
  rw [← hz1] at hw2
  replace HS := Lib.hid ((HS.out.below hw1).below hw2)
  replace HT := Lib.hid ((HT.out.below hw1).below hw2)
  replace hB := hB.below hw2
  have hbl : Below w.heap.size w w2 := hw1.trans (hw2.mono hw1.size)
  have HCB := Lib.hid (SCells.mk' hB HEL.out)
  have HCX := Lib.hid (SCells.mk' hX HFL.out)
  have b0 := HCB.out.c0
  have x0 := HCX.out.c0
  have b1 := HCB.out.items
  have x1 := HCX.out.items
  have b8 := HCB.out.joins
  have x8 := HCX.out.joins
  have b9 := HCB.out.has
  have x9 := HCX.out.has
  have b17 := HCB.out.group
  have x17 := HCX.out.group
  have b2 : w2.cell? ⟨w.heap.size, 2, none⟩ = some (.string ⟨a.src.table.toArray⟩) := HCB.out.src 0 _ rfl
  have x2 : w2.cell? ⟨w.heap.size + 1, 2, none⟩ = some (.string ⟨a.src.table.toArray⟩) := HCX.out.src 0 _ rfl
  have b3 : w2.cell? ⟨w.heap.size, 3, none⟩ = some (.string ⟨a.src.alias_.toArray⟩) := HCB.out.src 1 _ rfl
  have x3 : w2.cell? ⟨w.heap.size + 1, 3, none⟩ = some (.string ⟨a.src.alias_.toArray⟩) := HCX.out.src 1 _ rfl
  have b4 : w2.cell? ⟨w.heap.size, 4, none⟩ = some (.int .i64 (a.src.clause.kind : Int)) := HCB.out.src 2 _ rfl
  have x4 : w2.cell? ⟨w.heap.size + 1, 4, none⟩ = some (.int .i64 (a.src.clause.kind : Int)) := HCX.out.src 2 _ rfl
  have b5 : w2.cell? ⟨w.heap.size, 5, none⟩ = some (.int .i64 (a.src.clause.lo : Int)) := HCB.out.src 3 _ rfl
  have x5 : w2.cell? ⟨w.heap.size + 1, 5, none⟩ = some (.int .i64 (a.src.clause.lo : Int)) := HCX.out.src 3 _ rfl
  have b6 : w2.cell? ⟨w.heap.size, 6, none⟩ = some (.int .i64 (a.src.clause.hi : Int)) := HCB.out.src 4 _ rfl
  have x6 : w2.cell? ⟨w.heap.size + 1, 6, none⟩ = some (.int .i64 (a.src.clause.hi : Int)) := HCX.out.src 4 _ rfl
  have b7 : w2.cell? ⟨w.heap.size, 7, none⟩ = some (.int .i64 a.src.under) := HCB.out.src 5 _ rfl
  have x7 : w2.cell? ⟨w.heap.size + 1, 7, none⟩ = some (.int .i64 a.src.under) := HCX.out.src 5 _ rfl
  clear hw1 hw2 hz1
  have hz2 : w.heap.size + 2 ≤ w2.heap.size := by omega
  go_wp2_with (first | (refine op_met rfl (wpList_load_mid rfl 34 (.tmp 47) rfl w.heap.size 10 rfl es _ HCB.out.cond Tryz.underlying34 rfl (by rw [HEL.out]; kernel_rfl) ?_)) | (refine op_met rfl (wpList_load_mid rfl 34 (.tmp 49) rfl (w.heap.size + 1) 10 rfl fs _ HCX.out.cond Tryz.underlying34 rfl (by rw [HFL.out]; kernel_rfl) ?_)))
  refine (sameE HS.out.cond HT.out.cond).mono ?_
  rintro e' w3 ⟨rfl, hw3⟩
  replace hbl := hbl.trans (hw3.mono hbl.size)
  replace HS := Lib.hid (HS.out.below hw3)
  replace HT := Lib.hid (HT.out.below hw3)
  replace hB := hB.below hw3
  replace hX := hX.below hw3
  have hz3 : w.heap.size + 2 ≤ w3.heap.size := by have := hw3.size; omega
  clear hw3 HCB HCX hz2 b0 x0 b1 x1 b8 x8 b9 x9 b17 x17 b2 x2 b3 x3 b4 x4 b5 x5 b6 x6 b7 x7
  have b17 := (SCells.mk' hB HEL.out).group
  have x17 := (SCells.mk' hX HFL.out).group
  go_wp2_with fail
  refine (listE_call a.groupBy _ _ w3 F G HS.out.group HT.out.group).mono ?_
  rintro e' w4 ⟨rfl, hw4⟩
  replace hbl := hbl.trans (hw4.mono hbl.size)
  replace HS := Lib.hid (HS.out.below hw4)
  replace HT := Lib.hid (HT.out.below hw4)
  replace hB := hB.below hw4
  replace hX := hX.below hw4
  have hz4 : w.heap.size + 2 ≤ w4.heap.size := by have := hw4.size; omega
  clear hw4 b17 x17 hz3
  go_wp2_with fail
  go_loopw [5] (fun c5 wr => ∃ k, LoopAt w4 a.items.length k c5 wr) (fun c5 _ => a.items.length - (intOf c5).toNat)
  case atStart => exact ⟨0, ⟨Nat.zero_le _, rfl, Below.refl _ _⟩⟩
  case round =>
    obtain ⟨k, ⟨hk, rfl, hb⟩⟩ := hrel
    have b1 := (SCells.mk' (hB.below hb) HEL.out).items
    have x1 := (SCells.mk' (hX.below hb) HFL.out).items
    by_cases hlt : k < a.items.length
    · obtain ⟨g, us, he⟩ := HS.out.items.at_ hlt
      obtain ⟨g', vs, hf⟩ := HT.out.items.at_ hlt
      obtain rfl := he.addr
      obtain rfl := hf.addr
      replace he := he.below goodItem (hb.mono (Nat.le_refl _))
      replace hf := hf.below goodItem (hb.mono (Nat.le_refl _))
      have HR := Lib.hid (he.range goodItem)
      have HQ := Lib.hid (hf.range goodItem)
      have HLU := Lib.hid (goodItem.len he.rep)
      have HLV := Lib.hid (goodItem.len hf.rep)
      have HOU := Lib.hid (goodItem.one he.rep)
      have HOV := Lib.hid (goodItem.one hf.rep)
      have HE := Lib.hid he.rep
      have HF := Lib.hid hf.rep
      have c2 : (k : Int) < (a.items.length : Int) := by omega
      have c3 : (0 : Int) ≤ (k : Int) := by omega
      have d1 : decide ((k : Int) < (a.items.length : Int)) = true := decide_eq_true c2
      clear he hf
      generalize a.items[k] = x at HE HF
      go_wp2_with (first | (refine wpList_load_mid rfl 113 (.tmp 72) rfl g (k * 10) rfl us _ HR.out Tryz.underlying113 rfl (by rw [HLU.out]; kernel_rfl) ?_) | (refine store_new rfl 113 (.tmp 6) (.tmp 73) rfl us rfl rfl 113 itemZ (by rw [HLU.out]; kernel_rfl) (by rw [HLU.out]; rfl) HOU.out ?_))
      intro w5 hI hw5 hz5
      have hb5 := hb.trans (hw5.mono hb.size)
      replace x1 := (SCells.mk' (hX.below hb5) HFL.out).items
      have HQ5 : Hid (w5.rangeAt g' (k * 10) vs) := Lib.hid (fun j v hj => (hw5.cell (p := ⟨g', k * 10 + j, none⟩) (World.block_lt_of_cell? wr _ (HQ.out j v hj))).trans (HQ.out j v hj))
      replace HE := Lib.hid (goodItem.below HE.out hw5)
      replace HF := Lib.hid (goodItem.below HF.out hw5)
      have hg5 : wr.heap.size < w5.heap.size := by omega
      clear hw5 hz5 b1 HR HQ hb
      generalize wr.heap.size = g5 at hI hg5 ⊢
      go_wp2_with (first | (refine wpList_load_mid rfl 113 (.tmp 77) rfl g' (k * 10) rfl vs _ HQ5.out Tryz.underlying113 rfl (by rw [HLV.out]; kernel_rfl) ?_) | (refine store_new rfl 113 (.tmp 7) (.tmp 78) rfl vs rfl rfl 113 itemZ (by rw [HLV.out]; kernel_rfl) (by rw [HLV.out]; rfl) HOV.out ?_))
      intro w6 hJ hw6 hz6
      have hb6 := hb5.trans (hw6.mono hb5.size)
      replace hI := hI.below hw6
      obtain ⟨xs, hx, rfl⟩ := goodItem.below HE.out hw6
      obtain ⟨ys, hy, rfl⟩ := goodItem.below HF.out hw6
      have HXL := Lib.hid hx.len
      have HYL := Lib.hid hy.len
      obtain ⟨p0, p7, p8, p9⟩ := item_cells hI hx.len
      obtain ⟨q0, q7, q8, q9⟩ := item_cells hJ hy.len
      have HP0 := Lib.hid p0
      have HQ0 := Lib.hid q0
      have HX := Lib.hid hx
      have HY := Lib.hid hy
      unfold strV at p9 q9
      clear hw6 hz6 x1 HQ5 HE HF hI hJ hx hy hb5 p0 q0
      generalize w5.heap.size = g6 at *
      go_wp2_with (first | (refine op_met rfl (wpList_load_mid rfl 34 (.tmp 99) rfl g5 0 rfl xs _ HP0.out Tryz.underlying34 rfl (by rw [HXL.out]; kernel_rfl) ?_)) | (refine op_met rfl (wpList_load_mid rfl 34 (.tmp 101) rfl g6 0 rfl ys _ HQ0.out Tryz.underlying34 rfl (by rw [HYL.out]; kernel_rfl) ?_)))
      refine (sameE HX.out HY.out).mono ?_
      rintro e' w7 ⟨rfl, hw7⟩
      have hb7 := hb6.trans (hw7.mono hb6.size)
      clear hw7 HX HY hb6 p7 p8 p9 q7 q8 q9
      go_wp2_with fail
      go_roundw
      case rel => exact ⟨k + 1, ⟨by omega, by go_num, hb7⟩⟩
      case measure => simp [intOf]; omega
    · obtain rfl : k = a.items.length := by omega
      have d1 : decide ((a.items.length : Int) < (a.items.length : Int)) = false := decide_eq_false (by omega)
      replace hbl := hbl.trans (hb.mono hbl.size)
      replace HS := Lib.hid (HS.out.below hb)
      replace HT := Lib.hid (HT.out.below hb)
      replace hB := hB.below hb
      replace hX := hX.below hb
      replace hz4 : w.heap.size + 2 ≤ wr.heap.size := by have := hb.size; omega
      clear hb
      go_wp2_with fail
      clear b1 x1 d1
      generalize hwq : (wr : World) = w9 at hB hX HS HT hbl hz4 ⊢
      clear hwq
      go_loopw [8] (fun c8 wr => ∃ k, LoopAt w9 a.joins.length k c8 wr) (fun c8 _ => a.joins.length - (intOf c8).toNat)
      case atStart => exact ⟨0, ⟨Nat.zero_le _, rfl, Below.refl _ _⟩⟩
      case round =>
        obtain ⟨k, ⟨hk, rfl, hb⟩⟩ := hrel
        have b8 := (SCells.mk' (hB.below hb) HEL.out).joins
        have x8 := (SCells.mk' (hX.below hb) HFL.out).joins
        by_cases hlt : k < a.joins.length
        · obtain ⟨g, us, he⟩ := HS.out.joins.at_ hlt
          obtain ⟨g', vs, hf⟩ := HT.out.joins.at_ hlt
          obtain rfl := he.addr
          obtain rfl := hf.addr
          replace he := he.below goodJn (hb.mono (Nat.le_refl _))
          replace hf := hf.below goodJn (hb.mono (Nat.le_refl _))
          obtain ⟨xs, hx, rfl⟩ := he.rep
          obtain ⟨ys, hy, rfl⟩ := hf.rep
          have HE := Lib.hid hx
          have HF := Lib.hid hy
          obtain ⟨p0, p1, p2, p3, p4, p5, P, p6, p7, rfl⟩ := erep_lit hx
          obtain ⟨q0, q1, q2, q3, q4, q5, Q, q6, q7, rfl⟩ := erep_lit hy
          have r0 := he.cell 0 (by omega)
          have s0 := hf.cell 0 (by omega)
          have r1 := he.cell 1 (by omega)
          have s1 := hf.cell 1 (by omega)
          have r2 := he.cell 2 (by omega)
          have s2 := hf.cell 2 (by omega)
          have r3 := he.cell 3 (by omega)
          have s3 := hf.cell 3 (by omega)
          have r4 := he.cell 4 (by omega)
          have s4 := hf.cell 4 (by omega)
          have r5 := he.cell 5 (by omega)
          have s5 := hf.cell 5 (by omega)
          have r6 := he.cell 6 (by omega)
          have s6 := hf.cell 6 (by omega)
          have r7 := he.cell 7 (by omega)
          have s7 := hf.cell 7 (by omega)
          have r8 := he.cell 8 (by omega)
          have s8 := hf.cell 8 (by omega)
          have r9 := he.cell 9 (by omega)
          have s9 := hf.cell 9 (by omega)
          have r10 := he.cell 10 (by omega)
          have s10 := hf.cell 10 (by omega)
          have r11 := he.cell 11 (by omega)
          have s11 := hf.cell 11 (by omega)
          have r12 := he.cell 12 (by omega)
          have s12 := hf.cell 12 (by omega)
          have r13 := he.cell 13 (by omega)
          have s13 := hf.cell 13 (by omega)
          have c2 : (k : Int) < (a.joins.length : Int) := by omega
          have c3 : (0 : Int) ≤ (k : Int) := by omega
          have d1 : decide ((k : Int) < (a.joins.length : Int)) = true := decide_eq_true c2
          clear he hf hx hy
          generalize a.joins[k] = x at *
          simp only [srcCells, natV, strV, List.cons_append, List.nil_append, List.getElem?_cons_zero, List.getElem?_cons_succ, Nat.add_zero] at r0 s0 r1 s1 r2 s2 r3 s3 r4 s4 r5 s5 r6 s6 r7 s7 r8 s8 r9 s9 r10 s10 r11 s11 r12 s12 r13 s13
          go_upto_region 13 with (fail)
          go_still_tail 41, (by kernel_rfl)
          change wpList _ _ _ _ _ (wr.drewN 1)
          have hb3 := hb.trans ((belowD wr 1).mono hb.size)
          replace HE := Lib.hid (goodE.below HE.out (belowD wr 1))
          replace HF := Lib.hid (goodE.below HF.out (belowD wr 1))
          clear b8 x8 hb r0 s0 r1 s1 r2 s2 r3 s3 r4 s4 r5 s5 r6 s6 r7 s7 r8 s8 r9 s9 r10 s10 r11 s11 r12 s12 r13 s13
          generalize wr.drewN 1 = w3 at hb3 HE HF ⊢
          go_wp2_with fail
          refine (sameE HE.out HF.out).mono ?_
          rintro e' w7 ⟨rfl, hw7⟩
          have hb7 := hb3.trans (hw7.mono hb3.size)
          clear hw7 HE HF hb3
          go_wp2_with fail
          go_roundw
          case rel => exact ⟨k + 1, ⟨by omega, by go_num, hb7⟩⟩
          case measure => simp [intOf]; omega
        · obtain rfl : k = a.joins.length := by omega
          have d1 : decide ((a.joins.length : Int) < (a.joins.length : Int)) = false := decide_eq_false (by omega)
          have HB := Lib.hid (hbl.trans (hb.mono hbl.size))
          clear hb hbl
          go_wp2_with fail
          go_ret
          exact ⟨rfl, HB.out⟩
end Go.Proofs.YtpmncgbpbcgfaaaGreatDoor
