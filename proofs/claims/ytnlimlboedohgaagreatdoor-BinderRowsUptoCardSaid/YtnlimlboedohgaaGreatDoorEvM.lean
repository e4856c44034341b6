import Derived.Test.YtnlimlboedohgaaGreatDoorEvP
import Derived.Test.YtnlimlboedohgaaGreatDoorBnH
import Derived.Test.YtnlimlboedohgaaGreatDoorBnB
/-
  The reference's Eval on plain expressions. (Printed by gen_evall.py.)
-/
set_option maxHeartbeats 40000000
set_option maxRecDepth 100000
namespace Go.Proofs.YtnlimlboedohgaaGreatDoor.Px
open Go Go.RowKit Go.Proofs.YtnlimlboedohgaaGreatDoor.Ps
set_option linter.unusedVariables false
set_option linter.unusedSimpArgs false
theorem well_cnt {op int vk vi : Int} {vs nm : S} {n : Nat} (h : wellB op int vk vi vs nm n = true) : (arity op).1 <= (n : Int) /\ (n : Int) <= (arity op).2 := by
 unfold wellB cntB at h
 simp only [Bool.and_eq_true, Bool.not_eq_true', decide_eq_false_iff_not] at h
 omega
theorem infoValue : (Tryz.prog.info? 29).map (fun i => (i.zero, i.size, i.bytes)) = some (some (vV zV), 3, 32) := by kernel_rfl
theorem vlen1 {L : List V} (h : L.length = 1) : ∃ x, L = [x] := by
 match L, h with | [x], _ => exact ⟨x, rfl⟩
theorem vlen2 {L : List V} (h : L.length = 2) : ∃ x y, L = [x, y] := by
 match L, h with | [x, y], _ => exact ⟨x, y, rfl⟩
theorem vlen3 {L : List V} (h : L.length = 3) : ∃ x y z, L = [x, y, z] := by
 match L, h with | [x, y, z], _ => exact ⟨x, y, z, rfl⟩
/-- what is known of the operands: each is computed, by any call of this function -/
def HIT (l : List X) (f : FuncId) (row : Value) (w : World) : Prop := ∀ k (hk : k < l.length) (us : List Value) (w' : World), Below w.heap.size w w' -> XR w' l[k] us -> Calls Tryz.prog f #[.agg us.toArray, row] w' (Ret w' (vV (evalX l[k])))
theorem revalA (op int vk vi : Int) (vs nm : S) (l : List X) (cs : List Value) (row : Value) (w : World) (hop : op = 5 \/ op = 6 \/ op = 1 \/ op = 4 \/ op = 7 \/ op = 8 \/ op = 9 \/ op = 10 \/ op = 11 \/ op = 12 \/ op = 13 \/ op = 14 \/ op = 15 \/ op = 16 \/ op = 17 \/ op = 18 \/ op = 19 \/ op = 20 \/ op = 21 \/ op = 22 \/ op = 23) (hN : nodes (.mk op int vk vi vs nm l) <= 1000000) (hvs : vs.length < 4294967281) (h : XR w (.mk op int vk vi vs nm l) cs) (hi : HIT l 84 row w) : Calls Tryz.prog 84 #[.agg cs.toArray, row] w (Ret w (vV (evalX (.mk op int vk vi vs nm l)))) := by
 obtain ⟨ix, hix, hx0, hx1, hx2⟩ := info_parts infoValue
 obtain ⟨a, m, rfl, hl, _, _, hlen⟩ := h.lits
 have hkn : ¬ (arity op).1 < 0 := by rcases hop with rfl | rfl | rfl | rfl | rfl | rfl | rfl | rfl | rfl | rfl | rfl | rfl | rfl | rfl | rfl | rfl | rfl | rfl | rfl | rfl | rfl <;> decide
 have HFM := h_ fun w' (hw' : Below w.heap.size w w') => rwell_call op int vk vi vs nm l _ w' hkn hvs (h.kept hw' (Nat.le_refl _))
 have hll : l.length <= 1000000 := by rw [nodes] at hN; have := nodesL_len l; omega
 have HWC : Hid (wellB op int vk vi vs nm l.length = true -> (arity op).1 <= (l.length : Int) /\ (l.length : Int) <= (arity op).2) := h_ well_cnt
 have HWV : Hid (op = 1 -> wellB op int vk vi vs nm l.length = true -> validV vk vi vs = true) := h_ (by rintro rfl; exact well_valid)
 have HL := h_ hl
 have HXR := h_ h
 have HIH := h_ hi
 have HOK := h_ (evalXs_ok l)
 have HEL := h_ (evalXs_len l)
 have HN : Hid (evalX (.mk op int vk vi vs nm l) = if wellB op int vk vi vs nm l.length then opV op ⟨vk, vi, vs⟩ (evalXs l) else zV) := h_ (by rw [evalX])
 generalize evalX (.mk op int vk vi vs nm l) = q at HN |-
 generalize wellB op int vk vi vs nm l.length = wb at HFM HN HWC HWV
 have HOP := h_ hop
 have HKN := h_ hkn
 have HVS := h_ hvs
 have HZ : Hid (∀ w', Calls Tryz.prog 139 #[] w' (Ret w' (vV zV))) := h_ fun w' => null_call w'
 have HTB : Hid (∀ b w', Calls Tryz.prog 149 #[.bool b] w' (Ret w' (vV (bV b)))) := h_ fun b w' => by cases b; exact false_call w'; exact true_call w'
 clear h hl hi hN hop hkn hvs
 go_enter Tryz.func84, Tryz.ntmps84
 go_upto_region 1 with (fail)
 refine nB fun w1 hA hB hw1 hz1 => ?_
 have HA := h_ hA
 have HC := h_ hB
 have HW := h_ hw1
 obtain ⟨p0, p1, p2, p3, p4, p5, p6⟩ := hA.c7
 clear hA hB hw1 hz1
 go_wp2_with fail
 refine (HFM.out w1 HW.out).mono ?_
 rintro e w2 ⟨rfl, hw2⟩
 have HA2 := h_ (HA.out.below hw2)
 have HC2 := h_ (HC.out.below hw2)
 have HW2 := t_ HW hw2
 clear p0 p1 p2 p3 p4 p5 p6 hw2 HA HC HW HFM
 cases wb with
 | false =>
  have HQ : Hid (q = zV) := HN
  go_wp2_with fail
  refine (HZ.out w2).mono ?_
  rintro e w8 ⟨rfl, hw8⟩
  have HD := h_ (HC2.out.below hw8)
  have HX := t_ HW2 hw8
  clear hw8
  generalize zV = qq at HQ |-
  obtain ⟨q0, q1, q2⟩ := qq
  unfold vV
  simp only
  obtain ⟨r0, r1, r2, f0, f1, f2⟩ := HD.out.f3
  go_wp2_with fail
  refine name_set3W (K := fun w' => bodyPost _ _ _ _ _ w') HD.out fun w9 hM => ?_
  exact bodyPost_ret (results_cell_row Tryz.results84 _ _ (w.heap.size + 1) _ _ (0, 0) _ rfl hM.blk Tryz.underlying29 rfl (by kernel_rfl)) rfl ⟨by rw [HQ.out]; rfl, HX.out.trans (hM.low.mono (by first | exact Nat.le_refl _ | omega))⟩
 | true =>
  have HNN : Hid (q = opV op ⟨vk, vi, vs⟩ (evalXs l)) := HN
  have HCN := h_ (HWC.out rfl)
  clear HN HWC
  go_upto_region 4 with (fail)
  refine nA fun w3 hE hw3 hz3 => ?_
  have HO3 := h_ (OwnV.made hE (Nat.le_refl _))
  have HW3 := h_ hw3
  clear hE hw3
  go_upto_region 5 with (fail)
  go_loopw [5, 6] (fun v i wr => ∃ k : Nat, k <= l.length /\ i = .int .i64 (k : Int) /\ OwnV w2.heap.size v (evalXs (l.take k)) wr /\ Below w2.heap.size w2 wr) (fun _ i _ => l.length - (intOf i).toNat)
  case atStart => exact ⟨0, Nat.zero_le _, rfl, HO3.out, HW3.out⟩
  case round =>
   obtain ⟨k, hk, rfl, ho, hb⟩ := hrel
   have HO := h_ ho
   have HBr := h_ (HA2.out.below hb)
   have HCr := h_ (HC2.out.below hb)
   have HB := h_ hb
   have HWr := t_ HW2 hb
   have p6 := HBr.out.cell 6 rfl
   clear ho hb HO3 HW3
   by_cases hlt : k < l.length
   ·have k1 : (k : Int) < (l.length : Int) := by omega
    have k0 : (0 : Int) <= (k : Int) := by omega
    obtain ⟨g, o, us, eq, hec, hkx, hrx⟩ := HL.out.ec hlt
    subst eq
    have HIK := h_ (HIH.out k hkx us wr HWr.out (hrx.kept HWr.out (Nat.le_refl _)))
    have HST := h_ (evalXs_step hkx)
    have HTL : Hid ((evalXs (l.take k)).length <= 1000000) := h_ (by rw [evalXs_len, List.length_take]; omega)
    generalize evalX l[k] = y at HIK HST
    generalize l[k] = xk at hrx HIK
    obtain ⟨eop, eint, evk, evi, evs, enm, el⟩ := xk
    obtain ⟨ea, em, rfl, _⟩ := hrx.lits
    obtain ⟨e0, e1, e2, e3, e4, e5, e6⟩ := hec.c7 HWr.out
    have lg : g < wr.heap.size := Nat.lt_of_lt_of_le hec.1 HWr.out.size
    clear hrx hec
    go_wp2_with fail
    refine HIK.out.mono ?_
    rintro e w4 ⟨rfl, hw4⟩
    have HO4 := h_ (HO.out.below hw4)
    have HB4 := t_ HB hw4
    clear p6 e0 e1 e2 e3 e4 e5 e6 lg hw4 HO HB HBr HCr HWr HIK
    generalize hM : evalXs (l.take (k + 1)) = M1 at HST
    have HM := h_ hM
    clear hM
    generalize evalXs (l.take k) = M at HO4 HST HTL
    obtain ⟨y0, y1, y2⟩ := y
    have hlt2 : ∀ g, u5.ownBlock = some g -> w2.heap.size <= g := fun g e => (World.ownsRow.lt HO4.out g e).1
    have hml : M.length <= 1000000 := HTL.out
    unfold vV
    simp only
    go_upto_region 6 with (at_builtin; refine wpList_append_own_at _ rfl (.tmp 19) (.tmp 27) 118 rfl w2.heap.size 29 ix _ 3 32 Tryz.underlying118 hix hx0 hx1 hx2 rfl (by omega) u5 M.length _ rfl (World.ownsRow.alloc HO4.out _) ⟨w4.heap.size, 0, none⟩ 1 1 [.int .i64 y0, .int .i64 y1, .string ⟨y2.toArray⟩] rfl rfl (fun j u hj => by rw [Addr.add_lit]; exact (Blk.new w4 [.int .i64 y0, .int .i64 y1, .string ⟨y2.toArray⟩] 29).cell _ (by simpa using hj)) (fun u hu => by simp at hu; rcases hu with rfl | rfl | rfl <;> rfl) (by unfold maxLen; omega) (by omega) (Nat.le_trans HB4.out.size (by simp)) ?_)
    intro v5 w5 hown hg5 _ hat5
    have hb5 : Below w2.heap.size w2 w5 := (HB4.out.alloc HB4.out.size _).grown hg5 (Nat.le_trans HB4.out.size (by simp)) hlt2
    have HO5 : Hid (OwnV w2.heap.size v5 M1 w5) := h_ (by rw [HST.out]; exact OwnV.snoc hown)
    clear hown hg5 hat5
    go_wp2_with fail
    go_roundw
    case rel => exact ⟨k + 1, by omega, by go_num, by rw [HM.out]; exact HO5.out, hb5⟩
    case measure => simp [intOf]; omega
   ·obtain rfl : k = l.length := by omega
    have d1 : decide ((l.length : Int) < (l.length : Int)) = false := decide_eq_false (by omega)
    rw [List.take_length] at HO
    obtain ⟨av, cv, rfl, hcv, hvi⟩ := OwnV.vi HO.out
    generalize evalXs l = L at HNN HOK HEL HO hcv hvi
    have HV := h_ hvi
    have ll : L.length <= 1000000 := by rw [HEL.out]; exact hll
    have p0 := HBr.out.cell 0 rfl
    have HCN2 : Hid ((arity op).1 <= (L.length : Int) /\ (L.length : Int) <= (arity op).2) := h_ (by rw [HEL.out]; exact HCN.out)
    clear hvi HO HCN HB hlt
    go_upto_region 8 with (fail)
    have hcase : (op = 5 \/ op = 6) \/ op = 1 \/ op = 4 \/ (op = 7 \/ op = 8 \/ op = 9 \/ op = 10 \/ op = 11 \/ op = 12) \/ (op = 13 \/ op = 14 \/ op = 15 \/ op = 16 \/ op = 17) \/ op = 18 \/ op = 19 \/ op = 20 \/ op = 21 \/ op = 22 \/ op = 23 := by have := HOP.out; omega
    clear HOP
    rcases hcase with ho | ho | ho | ho | ho | ho | ho | ho | ho | ho | ho
    ·have HOP := h_ ho
     clear ho
     rcases HOP.out with rfl | rfl
     ·have hl1 : 1 < L.length := by have := HCN2.out; simp [arity] at this; omega
      have HQ : Hid (q = logicV 5 L) := h_ (by rw [HNN.out]; rfl)
      go_wp2_with fail
      refine (rlogic_call 5 L av cv wr (by decide) HV.out (by omega) (by omega)).mono ?_
      rintro e w8 ⟨rfl, hw8⟩
      have HD := h_ (HCr.out.below hw8)
      have HX := t_ HWr hw8
      clear hw8
      generalize logicV 5 L = qq at HQ |-
      obtain ⟨q0, q1, q2⟩ := qq
      unfold vV
      simp only
      obtain ⟨r0, r1, r2, f0, f1, f2⟩ := HD.out.f3
      go_wp2_with fail
      refine name_set3W (K := fun w' => bodyPost _ _ _ _ _ w') HD.out fun w9 hM => ?_
      exact bodyPost_ret (results_cell_row Tryz.results84 _ _ (w.heap.size + 1) _ _ (0, 0) _ rfl hM.blk Tryz.underlying29 rfl (by kernel_rfl)) rfl ⟨by rw [HQ.out]; rfl, HX.out.trans (hM.low.mono (by first | exact Nat.le_refl _ | omega))⟩
     ·have hl1 : 1 < L.length := by have := HCN2.out; simp [arity] at this; omega
      have HQ : Hid (q = logicV 6 L) := h_ (by rw [HNN.out]; rfl)
      go_wp2_with fail
      refine (rlogic_call 6 L av cv wr (by decide) HV.out (by omega) (by omega)).mono ?_
      rintro e w8 ⟨rfl, hw8⟩
      have HD := h_ (HCr.out.below hw8)
      have HX := t_ HWr hw8
      clear hw8
      generalize logicV 6 L = qq at HQ |-
      obtain ⟨q0, q1, q2⟩ := qq
      unfold vV
      simp only
      obtain ⟨r0, r1, r2, f0, f1, f2⟩ := HD.out.f3
      go_wp2_with fail
      refine name_set3W (K := fun w' => bodyPost _ _ _ _ _ w') HD.out fun w9 hM => ?_
      exact bodyPost_ret (results_cell_row Tryz.results84 _ _ (w.heap.size + 1) _ _ (0, 0) _ rfl hM.blk Tryz.underlying29 rfl (by kernel_rfl)) rfl ⟨by rw [HQ.out]; rfl, HX.out.trans (hM.low.mono (by first | exact Nat.le_refl _ | omega))⟩
    ·have HOP := h_ ho
     clear ho
     obtain rfl := HOP.out
     have HQ : Hid (q = ⟨vk, vi, vs⟩) := h_ (by rw [HNN.out]; rfl)
     have hvv : validV vk vi vs = true := by simpa using HWV.out
     have p1 := HBr.out.cell 1 rfl
     have p2 := HBr.out.cell 2 rfl
     have p3 := HBr.out.cell 3 rfl
     have p4 := HBr.out.cell 4 rfl
     have p5 := HBr.out.cell 5 rfl
     have p6 := HBr.out.cell 6 rfl
     go_wp2_with fail
     refine (rleaf1 int vk vi vs nm l _ row wr (HXR.out.kept HWr.out (Nat.le_refl _)) hvv (by have := HVS.out; omega)).mono ?_
     rintro e w8 ⟨rfl, hw8⟩
     have HD := h_ (HCr.out.below hw8)
     have HX := t_ HWr hw8
     clear hw8
     unfold vV
     simp only
     obtain ⟨r0, r1, r2, f0, f1, f2⟩ := HD.out.f3
     go_wp2_with fail
     refine name_set3W (K := fun w' => bodyPost _ _ _ _ _ w') HD.out fun w9 hM => ?_
     exact bodyPost_ret (results_cell_row Tryz.results84 _ _ (w.heap.size + 1) _ _ (0, 0) _ rfl hM.blk Tryz.underlying29 rfl (by kernel_rfl)) rfl ⟨by rw [HQ.out]; rfl, HX.out.trans (hM.low.mono (by first | exact Nat.le_refl _ | omega))⟩
    ·have HOP := h_ ho
     clear ho
     have hLn : L.length = 1 := by
      have := HCN2.out
      clear HNN HXR
      have ho := HOP.out
      have e : arity op = (1, 1) := by (subst ho; exact rfl)
      rw [e] at this; simp at this; omega
     obtain rfl := HOP.out
     obtain ⟨x, rfl⟩ := vlen1 hLn
     have HQ : Hid (q = ofT (notT (truthV x))) := h_ (by rw [HNN.out]; rfl)
     have HT := h_ (rtruth_call x)
     have HTV := h_ (truthV_tv x)
     generalize truthV x = t at HQ HT HTV
     obtain ⟨g, o, rfl, hgl, r0, r1, r2⟩ := HV.out.head
     obtain ⟨x0, x1, x2⟩ := x
     unfold vV at HT
     simp only at HT r0 r1 r2
     go_wp2_with fail
     refine (HT.out wr).mono ?_
     rintro e w4 ⟨rfl, hw4⟩
     have HC4 := h_ (HCr.out.below hw4)
     have HW4 := t_ HWr hw4
     go_wp2_with fail
     refine (rnot_call t w4 HTV.out).mono ?_
     rintro e w5 ⟨rfl, hw5⟩
     have HC5 := h_ (HC4.out.below hw5)
     have HW5 := t_ HW4 hw5
     go_wp2_with fail
     refine (rof_call (notT t) w5 (notT_tv HTV.out)).mono ?_
     rintro e w8 ⟨rfl, hw8⟩
     have HD := h_ (HC5.out.below hw8)
     have HX := t_ HW5 hw8
     clear hw8
     generalize ofT (notT t) = qq at HQ |-
     obtain ⟨q0, q1, q2⟩ := qq
     unfold vV
     simp only
     obtain ⟨r0, r1, r2, f0, f1, f2⟩ := HD.out.f3
     go_wp2_with fail
     refine name_set3W (K := fun w' => bodyPost _ _ _ _ _ w') HD.out fun w9 hM => ?_
     exact bodyPost_ret (results_cell_row Tryz.results84 _ _ (w.heap.size + 1) _ _ (0, 0) _ rfl hM.blk Tryz.underlying29 rfl (by kernel_rfl)) rfl ⟨by rw [HQ.out]; rfl, HX.out.trans (hM.low.mono (by first | exact Nat.le_refl _ | omega))⟩
    ·have HOP := h_ ho
     clear ho
     have hLn : L.length = 2 := by
      have := HCN2.out
      clear HNN HXR
      have ho := HOP.out
      have e : arity op = (2, 2) := by (rcases ho with rfl | rfl | rfl | rfl | rfl | rfl) <;> rfl
      rw [e] at this; simp at this; omega
     obtain ⟨x, y, rfl⟩ := vlen2 hLn
     have HQ : Hid (q = ofT (compT op x y)) := h_ (by rw [HNN.out]; rcases HOP.out with rfl | rfl | rfl | rfl | rfl | rfl <;> rfl)
     have HT := h_ fun w' => rcomp_call op x y w' HOP.out
     have HF := h_ fun w' => rof_call (compT op x y) w' (compT_tv op x y)
     generalize compT op x y = t at HQ HT HF
     generalize ofT t = qq at HQ HF
     obtain ⟨g, o, rfl, hgl, r0, r1, r2⟩ := HV.out.head
     obtain ⟨g', o', e', hgl', s0, s1, s2⟩ := HV.out.tail.head
     obtain ⟨rfl, rfl⟩ : g = g' /\ o + 3 = o' := by cases e'; exact ⟨rfl, rfl⟩
     clear e' hgl'
     obtain ⟨x0, x1, x2⟩ := x
     obtain ⟨y0, y1, y2⟩ := y
     obtain ⟨q0, q1, q2⟩ := qq
     unfold vV at HT HF
     simp only at HT HF r0 r1 r2 s0 s1 s2
     have hops := HOP.out
     clear HNN HCN2 HKN HWV HXR HIH HOK HEL hLn
     rcases hops with rfl | rfl | rfl | rfl | rfl | rfl
     all_goals
      go_upto_region 23 with (fail)
      refine Gr.region_grow 10 (by kernel_rfl) (by kernel_rfl) (fun w' => Below wr.heap.size wr w') ⟨rfl, rfl, rfl, Nat.le_refl _, fun _ _ => rfl⟩ ?_
      simp only [List.take_succ_cons, List.take_zero, List.drop_succ_cons, List.drop_zero]
      iterate 8
       first
       | apply Gr.sn; focus (go_simp; intro w' hw'; go_simp; rw [Gr.grown_value]; done)
       | apply Gr.sn; focus (go_simp; intro w' hw'; have p0 := (HBr.out.below hw').cell 0 rfl; go_simp; rw [Gr.grown_value]; done)
       | apply Gr.sn; focus (go_simp; intro w' hw'; have lg := Nat.lt_of_lt_of_le hgl hw'.size; have r0 := (hw'.cell hgl).trans r0; have r1 := (hw'.cell hgl).trans r1; have r2 := (hw'.cell hgl).trans r2; go_simp; rw [Gr.grown_value]; done)
       | apply Gr.sn; focus (go_simp; intro w' hw'; have lg := Nat.lt_of_lt_of_le hgl hw'.size; have s0 := (hw'.cell hgl).trans s0; have s1 := (hw'.cell hgl).trans s1; have s2 := (hw'.cell hgl).trans s2; go_simp; rw [Gr.grown_value]; done)
       intro K hK; go_simp; refine hK _ ?_; clear hK K
      refine Gr.sn (.int .i64 t) (by go_simp; intro w' hw'; go_simp; rw [Gr.grown_enter]; exact Ret.fam (HT.out w') hw') fun K hK => ?_; go_simp; refine hK _ ?_; clear hK K
      refine Gr.sn (.agg #[.int .i64 q0, .int .i64 q1, .string ⟨q2.toArray⟩]) (by go_simp; intro w' hw'; go_simp; rw [Gr.grown_enter]; exact Ret.fam (HF.out w') hw') fun K hK => ?_; go_simp; refine hK _ ?_; clear hK K
      refine Gr.line_nil fun w6 hw6 => ?_
      have HD := h_ (HCr.out.below hw6)
      have HX := t_ HWr hw6
      clear hw6
      obtain ⟨r0, r1, r2, f0, f1, f2⟩ := HD.out.f3
      go_wp2_with fail
      refine name_set3W (K := fun w' => bodyPost _ _ _ _ _ w') HD.out fun w9 hM => ?_
      exact bodyPost_ret (results_cell_row Tryz.results84 _ _ (w.heap.size + 1) _ _ (0, 0) _ rfl hM.blk Tryz.underlying29 rfl (by kernel_rfl)) rfl ⟨by rw [HQ.out]; rfl, HX.out.trans (hM.low.mono (by first | exact Nat.le_refl _ | omega))⟩
    ·have HOP := h_ ho
     clear ho
     have hLn : L.length = 2 := by
      have := HCN2.out
      clear HNN HXR
      have ho := HOP.out
      have e : arity op = (2, 2) := by (rcases ho with rfl | rfl | rfl | rfl | rfl) <;> rfl
      rw [e] at this; simp at this; omega
     have HAR := h_ (are_call L 1 av cv wr HV.out (by omega))
     obtain ⟨x, y, rfl⟩ := vlen2 hLn
     have HNK : Hid (q = if kinds 1 [x, y] then arithV op x.i y.i else zV) := h_ (by rw [HNN.out]; rcases HOP.out with rfl | rfl | rfl | rfl | rfl <;> rfl)
     have HBD0 : Hid (kinds 1 [x, y] = true -> -1125899906842624 <= x.i /\ x.i <= 1125899906842624) := h_ fun h => okV_int (HOK.out x (by simp)) (kinds_get (L := [x, y]) h (j := 0) (by simp))
     have HBD1 : Hid (kinds 1 [x, y] = true -> -1125899906842624 <= y.i /\ y.i <= 1125899906842624) := h_ fun h => okV_int (HOK.out y (by simp)) (kinds_get (L := [x, y]) h (j := 1) (by simp))
     generalize kinds 1 [x, y] = b at HAR HNK HBD0 HBD1
     simp only [List.length_cons, List.length_nil, Nat.zero_add, Nat.reduceAdd] at HAR |-
     have hops := HOP.out
     clear HNN HCN2 HKN HWV HXR HIH HOK HEL hLn
     rcases hops with rfl | rfl | rfl | rfl | rfl
     ·go_wp2_with fail
      refine HAR.out.mono ?_
      rintro e w4 ⟨rfl, hw4⟩
      have HC4 := h_ (HCr.out.below hw4)
      have HW4 := t_ HWr hw4
      have HV4 := h_ (HV.out.below hw4)
      have HB4 := h_ (HBr.out.below hw4)
      clear hw4 HAR p0
      cases b with
      | false =>
       have HQ : Hid (q = zV) := HNK
       go_wp2_with fail
       refine (HZ.out w4).mono ?_
       rintro e w8 ⟨rfl, hw8⟩
       have HD := h_ (HC4.out.below hw8)
       have HX := t_ HW4 hw8
       clear hw8
       generalize zV = qq at HQ |-
       obtain ⟨q0, q1, q2⟩ := qq
       unfold vV
       simp only
       obtain ⟨r0, r1, r2, f0, f1, f2⟩ := HD.out.f3
       go_wp2_with fail
       refine name_set3W (K := fun w' => bodyPost _ _ _ _ _ w') HD.out fun w9 hM => ?_
       exact bodyPost_ret (results_cell_row Tryz.results84 _ _ (w.heap.size + 1) _ _ (0, 0) _ rfl hM.blk Tryz.underlying29 rfl (by kernel_rfl)) rfl ⟨by rw [HQ.out]; rfl, HX.out.trans (hM.low.mono (by first | exact Nat.le_refl _ | omega))⟩
      | true =>
       have HQ : Hid (q = arithV 13 x.i y.i) := HNK
       have HT := h_ fun w' => rcomputed_call 13 x.i y.i w' (by decide) (HBD0.out rfl) (HBD1.out rfl)
       obtain ⟨g, o, rfl, hgl, r0, r1, r2⟩ := HV4.out.head
       obtain ⟨g', o', e', hgl', s0, s1, s2⟩ := HV4.out.tail.head
       obtain ⟨rfl, rfl⟩ : g = g' /\ o + 3 = o' := by cases e'; exact ⟨rfl, rfl⟩
       clear e' hgl'
       generalize x.i = xi at HQ HT r1
       generalize y.i = yi at HQ HT s1
       generalize arithV 13 xi yi = qq at HQ HT
       obtain ⟨q0, q1, q2⟩ := qq
       unfold vV at HT
       simp only at HT
       have p0 := HB4.out.cell 0 rfl
       go_upto_region 40 with (fail)
       refine Gr.region_grow 11 (by kernel_rfl) (by kernel_rfl) (fun w' => Below w4.heap.size w4 w') ⟨rfl, rfl, rfl, Nat.le_refl _, fun _ _ => rfl⟩ ?_
       simp only [List.take_succ_cons, List.take_zero, List.drop_succ_cons, List.drop_zero]
       iterate 11
        first
        | apply Gr.sn (.agg #[.int .i64 q0, .int .i64 q1, .string ⟨q2.toArray⟩]); focus (go_simp; intro w' hw'; go_simp; rw [Gr.grown_enter]; exact Ret.fam (HT.out w') hw'; done)
        | apply Gr.sn; focus (go_simp; intro w' hw'; go_simp; rw [Gr.grown_value]; done)
        | apply Gr.sn; focus (go_simp; intro w' hw'; have p0 := (HB4.out.below hw').cell 0 rfl; go_simp; rw [Gr.grown_value]; done)
        | apply Gr.sn; focus (go_simp; intro w' hw'; have lg := Nat.lt_of_lt_of_le hgl hw'.size; have r1 := (hw'.cell hgl).trans r1; go_simp; rw [Gr.grown_value]; done)
        | apply Gr.sn; focus (go_simp; intro w' hw'; have lg := Nat.lt_of_lt_of_le hgl hw'.size; have s1 := (hw'.cell hgl).trans s1; go_simp; rw [Gr.grown_value]; done)
        intro K hK; go_simp; refine hK _ ?_; clear hK K
       refine Gr.line_nil fun w6 hw6 => ?_
       have HD := h_ (HC4.out.below hw6)
       have HX := t_ HW4 hw6
       clear hw6
       obtain ⟨r0, r1, r2, f0, f1, f2⟩ := HD.out.f3
       go_wp2_with fail
       refine name_set3W (K := fun w' => bodyPost _ _ _ _ _ w') HD.out fun w9 hM => ?_
       exact bodyPost_ret (results_cell_row Tryz.results84 _ _ (w.heap.size + 1) _ _ (0, 0) _ rfl hM.blk Tryz.underlying29 rfl (by kernel_rfl)) rfl ⟨by rw [HQ.out]; rfl, HX.out.trans (hM.low.mono (by first | exact Nat.le_refl _ | omega))⟩
     ·go_wp2_with fail
      refine HAR.out.mono ?_
      rintro e w4 ⟨rfl, hw4⟩
      have HC4 := h_ (HCr.out.below hw4)
      have HW4 := t_ HWr hw4
      have HV4 := h_ (HV.out.below hw4)
      have HB4 := h_ (HBr.out.below hw4)
      clear hw4 HAR p0
      cases b with
      | false =>
       have HQ : Hid (q = zV) := HNK
       go_wp2_with fail
       refine (HZ.out w4).mono ?_
       rintro e w8 ⟨rfl, hw8⟩
       have HD := h_ (HC4.out.below hw8)
       have HX := t_ HW4 hw8
       clear hw8
       generalize zV = qq at HQ |-
       obtain ⟨q0, q1, q2⟩ := qq
       unfold vV
       simp only
       obtain ⟨r0, r1, r2, f0, f1, f2⟩ := HD.out.f3
       go_wp2_with fail
       refine name_set3W (K := fun w' => bodyPost _ _ _ _ _ w') HD.out fun w9 hM => ?_
       exact bodyPost_ret (results_cell_row Tryz.results84 _ _ (w.heap.size + 1) _ _ (0, 0) _ rfl hM.blk Tryz.underlying29 rfl (by kernel_rfl)) rfl ⟨by rw [HQ.out]; rfl, HX.out.trans (hM.low.mono (by first | exact Nat.le_refl _ | omega))⟩
      | true =>
       have HQ : Hid (q = arithV 14 x.i y.i) := HNK
       have HT := h_ fun w' => rcomputed_call 14 x.i y.i w' (by decide) (HBD0.out rfl) (HBD1.out rfl)
       obtain ⟨g, o, rfl, hgl, r0, r1, r2⟩ := HV4.out.head
       obtain ⟨g', o', e', hgl', s0, s1, s2⟩ := HV4.out.tail.head
       obtain ⟨rfl, rfl⟩ : g = g' /\ o + 3 = o' := by cases e'; exact ⟨rfl, rfl⟩
       clear e' hgl'
       generalize x.i = xi at HQ HT r1
       generalize y.i = yi at HQ HT s1
       generalize arithV 14 xi yi = qq at HQ HT
       obtain ⟨q0, q1, q2⟩ := qq
       unfold vV at HT
       simp only at HT
       have p0 := HB4.out.cell 0 rfl
       go_upto_region 40 with (fail)
       refine Gr.region_grow 11 (by kernel_rfl) (by kernel_rfl) (fun w' => Below w4.heap.size w4 w') ⟨rfl, rfl, rfl, Nat.le_refl _, fun _ _ => rfl⟩ ?_
       simp only [List.take_succ_cons, List.take_zero, List.drop_succ_cons, List.drop_zero]
       iterate 11
        first
        | apply Gr.sn (.agg #[.int .i64 q0, .int .i64 q1, .string ⟨q2.toArray⟩]); focus (go_simp; intro w' hw'; go_simp; rw [Gr.grown_enter]; exact Ret.fam (HT.out w') hw'; done)
        | apply Gr.sn; focus (go_simp; intro w' hw'; go_simp; rw [Gr.grown_value]; done)
        | apply Gr.sn; focus (go_simp; intro w' hw'; have p0 := (HB4.out.below hw').cell 0 rfl; go_simp; rw [Gr.grown_value]; done)
        | apply Gr.sn; focus (go_simp; intro w' hw'; have lg := Nat.lt_of_lt_of_le hgl hw'.size; have r1 := (hw'.cell hgl).trans r1; go_simp; rw [Gr.grown_value]; done)
        | apply Gr.sn; focus (go_simp; intro w' hw'; have lg := Nat.lt_of_lt_of_le hgl hw'.size; have s1 := (hw'.cell hgl).trans s1; go_simp; rw [Gr.grown_value]; done)
        intro K hK; go_simp; refine hK _ ?_; clear hK K
       refine Gr.line_nil fun w6 hw6 => ?_
       have HD := h_ (HC4.out.below hw6)
       have HX := t_ HW4 hw6
       clear hw6
       obtain ⟨r0, r1, r2, f0, f1, f2⟩ := HD.out.f3
       go_wp2_with fail
       refine name_set3W (K := fun w' => bodyPost _ _ _ _ _ w') HD.out fun w9 hM => ?_
       exact bodyPost_ret (results_cell_row Tryz.results84 _ _ (w.heap.size + 1) _ _ (0, 0) _ rfl hM.blk Tryz.underlying29 rfl (by kernel_rfl)) rfl ⟨by rw [HQ.out]; rfl, HX.out.trans (hM.low.mono (by first | exact Nat.le_refl _ | omega))⟩
     ·go_wp2_with fail
      refine HAR.out.mono ?_
      rintro e w4 ⟨rfl, hw4⟩
      have HC4 := h_ (HCr.out.below hw4)
      have HW4 := t_ HWr hw4
      have HV4 := h_ (HV.out.below hw4)
      have HB4 := h_ (HBr.out.below hw4)
      clear hw4 HAR p0
      cases b with
      | false =>
       have HQ : Hid (q = zV) := HNK
       go_wp2_with fail
       refine (HZ.out w4).mono ?_
       rintro e w8 ⟨rfl, hw8⟩
       have HD := h_ (HC4.out.below hw8)
       have HX := t_ HW4 hw8
       clear hw8
       generalize zV = qq at HQ |-
       obtain ⟨q0, q1, q2⟩ := qq
       unfold vV
       simp only
       obtain ⟨r0, r1, r2, f0, f1, f2⟩ := HD.out.f3
       go_wp2_with fail
       refine name_set3W (K := fun w' => bodyPost _ _ _ _ _ w') HD.out fun w9 hM => ?_
       exact bodyPost_ret (results_cell_row Tryz.results84 _ _ (w.heap.size + 1) _ _ (0, 0) _ rfl hM.blk Tryz.underlying29 rfl (by kernel_rfl)) rfl ⟨by rw [HQ.out]; rfl, HX.out.trans (hM.low.mono (by first | exact Nat.le_refl _ | omega))⟩
      | true =>
       have HQ : Hid (q = arithV 15 x.i y.i) := HNK
       have HT := h_ fun w' => rcomputed_call 15 x.i y.i w' (by decide) (HBD0.out rfl) (HBD1.out rfl)
       obtain ⟨g, o, rfl, hgl, r0, r1, r2⟩ := HV4.out.head
       obtain ⟨g', o', e', hgl', s0, s1, s2⟩ := HV4.out.tail.head
       obtain ⟨rfl, rfl⟩ : g = g' /\ o + 3 = o' := by cases e'; exact ⟨rfl, rfl⟩
       clear e' hgl'
       generalize x.i = xi at HQ HT r1
       generalize y.i = yi at HQ HT s1
       generalize arithV 15 xi yi = qq at HQ HT
       obtain ⟨q0, q1, q2⟩ := qq
       unfold vV at HT
       simp only at HT
       have p0 := HB4.out.cell 0 rfl
       go_upto_region 40 with (fail)
       refine Gr.region_grow 11 (by kernel_rfl) (by kernel_rfl) (fun w' => Below w4.heap.size w4 w') ⟨rfl, rfl, rfl, Nat.le_refl _, fun _ _ => rfl⟩ ?_
       simp only [List.take_succ_cons, List.take_zero, List.drop_succ_cons, List.drop_zero]
       iterate 11
        first
        | apply Gr.sn (.agg #[.int .i64 q0, .int .i64 q1, .string ⟨q2.toArray⟩]); focus (go_simp; intro w' hw'; go_simp; rw [Gr.grown_enter]; exact Ret.fam (HT.out w') hw'; done)
        | apply Gr.sn; focus (go_simp; intro w' hw'; go_simp; rw [Gr.grown_value]; done)
        | apply Gr.sn; focus (go_simp; intro w' hw'; have p0 := (HB4.out.below hw').cell 0 rfl; go_simp; rw [Gr.grown_value]; done)
        | apply Gr.sn; focus (go_simp; intro w' hw'; have lg := Nat.lt_of_lt_of_le hgl hw'.size; have r1 := (hw'.cell hgl).trans r1; go_simp; rw [Gr.grown_value]; done)
        | apply Gr.sn; focus (go_simp; intro w' hw'; have lg := Nat.lt_of_lt_of_le hgl hw'.size; have s1 := (hw'.cell hgl).trans s1; go_simp; rw [Gr.grown_value]; done)
        intro K hK; go_simp; refine hK _ ?_; clear hK K
       refine Gr.line_nil fun w6 hw6 => ?_
       have HD := h_ (HC4.out.below hw6)
       have HX := t_ HW4 hw6
       clear hw6
       obtain ⟨r0, r1, r2, f0, f1, f2⟩ := HD.out.f3
       go_wp2_with fail
       refine name_set3W (K := fun w' => bodyPost _ _ _ _ _ w') HD.out fun w9 hM => ?_
       exact bodyPost_ret (results_cell_row Tryz.results84 _ _ (w.heap.size + 1) _ _ (0, 0) _ rfl hM.blk Tryz.underlying29 rfl (by kernel_rfl)) rfl ⟨by rw [HQ.out]; rfl, HX.out.trans (hM.low.mono (by first | exact Nat.le_refl _ | omega))⟩
     ·go_wp2_with fail
      refine HAR.out.mono ?_
      rintro e w4 ⟨rfl, hw4⟩
      have HC4 := h_ (HCr.out.below hw4)
      have HW4 := t_ HWr hw4
      have HV4 := h_ (HV.out.below hw4)
      have HB4 := h_ (HBr.out.below hw4)
      clear hw4 HAR p0
      cases b with
      | false =>
       have HQ : Hid (q = zV) := HNK
       go_wp2_with fail
       refine (HZ.out w4).mono ?_
       rintro e w8 ⟨rfl, hw8⟩
       have HD := h_ (HC4.out.below hw8)
       have HX := t_ HW4 hw8
       clear hw8
       generalize zV = qq at HQ |-
       obtain ⟨q0, q1, q2⟩ := qq
       unfold vV
       simp only
       obtain ⟨r0, r1, r2, f0, f1, f2⟩ := HD.out.f3
       go_wp2_with fail
       refine name_set3W (K := fun w' => bodyPost _ _ _ _ _ w') HD.out fun w9 hM => ?_
       exact bodyPost_ret (results_cell_row Tryz.results84 _ _ (w.heap.size + 1) _ _ (0, 0) _ rfl hM.blk Tryz.underlying29 rfl (by kernel_rfl)) rfl ⟨by rw [HQ.out]; rfl, HX.out.trans (hM.low.mono (by first | exact Nat.le_refl _ | omega))⟩
      | true =>
       have HQ : Hid (q = arithV 16 x.i y.i) := HNK
       have HT := h_ fun w' => rcomputed_call 16 x.i y.i w' (by decide) (HBD0.out rfl) (HBD1.out rfl)
       obtain ⟨g, o, rfl, hgl, r0, r1, r2⟩ := HV4.out.head
       obtain ⟨g', o', e', hgl', s0, s1, s2⟩ := HV4.out.tail.head
       obtain ⟨rfl, rfl⟩ : g = g' /\ o + 3 = o' := by cases e'; exact ⟨rfl, rfl⟩
       clear e' hgl'
       generalize x.i = xi at HQ HT r1
       generalize y.i = yi at HQ HT s1
       generalize arithV 16 xi yi = qq at HQ HT
       obtain ⟨q0, q1, q2⟩ := qq
       unfold vV at HT
       simp only at HT
       have p0 := HB4.out.cell 0 rfl
       go_upto_region 40 with (fail)
       refine Gr.region_grow 11 (by kernel_rfl) (by kernel_rfl) (fun w' => Below w4.heap.size w4 w') ⟨rfl, rfl, rfl, Nat.le_refl _, fun _ _ => rfl⟩ ?_
       simp only [List.take_succ_cons, List.take_zero, List.drop_succ_cons, List.drop_zero]
       iterate 11
        first
        | apply Gr.sn (.agg #[.int .i64 q0, .int .i64 q1, .string ⟨q2.toArray⟩]); focus (go_simp; intro w' hw'; go_simp; rw [Gr.grown_enter]; exact Ret.fam (HT.out w') hw'; done)
        | apply Gr.sn; focus (go_simp; intro w' hw'; go_simp; rw [Gr.grown_value]; done)
        | apply Gr.sn; focus (go_simp; intro w' hw'; have p0 := (HB4.out.below hw').cell 0 rfl; go_simp; rw [Gr.grown_value]; done)
        | apply Gr.sn; focus (go_simp; intro w' hw'; have lg := Nat.lt_of_lt_of_le hgl hw'.size; have r1 := (hw'.cell hgl).trans r1; go_simp; rw [Gr.grown_value]; done)
        | apply Gr.sn; focus (go_simp; intro w' hw'; have lg := Nat.lt_of_lt_of_le hgl hw'.size; have s1 := (hw'.cell hgl).trans s1; go_simp; rw [Gr.grown_value]; done)
        intro K hK; go_simp; refine hK _ ?_; clear hK K
       refine Gr.line_nil fun w6 hw6 => ?_
       have HD := h_ (HC4.out.below hw6)
       have HX := t_ HW4 hw6
       clear hw6
       obtain ⟨r0, r1, r2, f0, f1, f2⟩ := HD.out.f3
       go_wp2_with fail
       refine name_set3W (K := fun w' => bodyPost _ _ _ _ _ w') HD.out fun w9 hM => ?_
       exact bodyPost_ret (results_cell_row Tryz.results84 _ _ (w.heap.size + 1) _ _ (0, 0) _ rfl hM.blk Tryz.underlying29 rfl (by kernel_rfl)) rfl ⟨by rw [HQ.out]; rfl, HX.out.trans (hM.low.mono (by first | exact Nat.le_refl _ | omega))⟩
     ·go_wp2_with fail
      refine HAR.out.mono ?_
      rintro e w4 ⟨rfl, hw4⟩
      have HC4 := h_ (HCr.out.below hw4)
      have HW4 := t_ HWr hw4
      have HV4 := h_ (HV.out.below hw4)
      have HB4 := h_ (HBr.out.below hw4)
      clear hw4 HAR p0
      cases b with
      | false =>
       have HQ : Hid (q = zV) := HNK
       go_wp2_with fail
       refine (HZ.out w4).mono ?_
       rintro e w8 ⟨rfl, hw8⟩
       have HD := h_ (HC4.out.below hw8)
       have HX := t_ HW4 hw8
       clear hw8
       generalize zV = qq at HQ |-
       obtain ⟨q0, q1, q2⟩ := qq
       unfold vV
       simp only
       obtain ⟨r0, r1, r2, f0, f1, f2⟩ := HD.out.f3
       go_wp2_with fail
       refine name_set3W (K := fun w' => bodyPost _ _ _ _ _ w') HD.out fun w9 hM => ?_
       exact bodyPost_ret (results_cell_row Tryz.results84 _ _ (w.heap.size + 1) _ _ (0, 0) _ rfl hM.blk Tryz.underlying29 rfl (by kernel_rfl)) rfl ⟨by rw [HQ.out]; rfl, HX.out.trans (hM.low.mono (by first | exact Nat.le_refl _ | omega))⟩
      | true =>
       have HQ : Hid (q = arithV 17 x.i y.i) := HNK
       have HT := h_ fun w' => rcomputed_call 17 x.i y.i w' (by decide) (HBD0.out rfl) (HBD1.out rfl)
       obtain ⟨g, o, rfl, hgl, r0, r1, r2⟩ := HV4.out.head
       obtain ⟨g', o', e', hgl', s0, s1, s2⟩ := HV4.out.tail.head
       obtain ⟨rfl, rfl⟩ : g = g' /\ o + 3 = o' := by cases e'; exact ⟨rfl, rfl⟩
       clear e' hgl'
       generalize x.i = xi at HQ HT r1
       generalize y.i = yi at HQ HT s1
       generalize arithV 17 xi yi = qq at HQ HT
       obtain ⟨q0, q1, q2⟩ := qq
       unfold vV at HT
       simp only at HT
       have p0 := HB4.out.cell 0 rfl
       go_upto_region 40 with (fail)
       refine Gr.region_grow 11 (by kernel_rfl) (by kernel_rfl) (fun w' => Below w4.heap.size w4 w') ⟨rfl, rfl, rfl, Nat.le_refl _, fun _ _ => rfl⟩ ?_
       simp only [List.take_succ_cons, List.take_zero, List.drop_succ_cons, List.drop_zero]
       iterate 11
        first
        | apply Gr.sn (.agg #[.int .i64 q0, .int .i64 q1, .string ⟨q2.toArray⟩]); focus (go_simp; intro w' hw'; go_simp; rw [Gr.grown_enter]; exact Ret.fam (HT.out w') hw'; done)
        | apply Gr.sn; focus (go_simp; intro w' hw'; go_simp; rw [Gr.grown_value]; done)
        | apply Gr.sn; focus (go_simp; intro w' hw'; have p0 := (HB4.out.below hw').cell 0 rfl; go_simp; rw [Gr.grown_value]; done)
        | apply Gr.sn; focus (go_simp; intro w' hw'; have lg := Nat.lt_of_lt_of_le hgl hw'.size; have r1 := (hw'.cell hgl).trans r1; go_simp; rw [Gr.grown_value]; done)
        | apply Gr.sn; focus (go_simp; intro w' hw'; have lg := Nat.lt_of_lt_of_le hgl hw'.size; have s1 := (hw'.cell hgl).trans s1; go_simp; rw [Gr.grown_value]; done)
        intro K hK; go_simp; refine hK _ ?_; clear hK K
       refine Gr.line_nil fun w6 hw6 => ?_
       have HD := h_ (HC4.out.below hw6)
       have HX := t_ HW4 hw6
       clear hw6
       obtain ⟨r0, r1, r2, f0, f1, f2⟩ := HD.out.f3
       go_wp2_with fail
       refine name_set3W (K := fun w' => bodyPost _ _ _ _ _ w') HD.out fun w9 hM => ?_
       exact bodyPost_ret (results_cell_row Tryz.results84 _ _ (w.heap.size + 1) _ _ (0, 0) _ rfl hM.blk Tryz.underlying29 rfl (by kernel_rfl)) rfl ⟨by rw [HQ.out]; rfl, HX.out.trans (hM.low.mono (by first | exact Nat.le_refl _ | omega))⟩
    ·have HOP := h_ ho
     clear ho
     have hLn : L.length = 1 := by
      have := HCN2.out
      clear HNN HXR
      have ho := HOP.out
      have e : arity op = (1, 1) := by (subst ho; exact rfl)
      rw [e] at this; simp at this; omega
     obtain rfl := HOP.out
     have HAR := h_ (are_call L 1 av cv wr HV.out (by omega))
     obtain ⟨x, rfl⟩ := vlen1 hLn
     have HNK : Hid (q = if kinds 1 [x] then nV (-x.i) else zV) := h_ (by rw [HNN.out]; show arithL 18 [x] = _; unfold arithL; rw [arithV18]; rfl)
     have HBD : Hid (kinds 1 [x] = true -> -1125899906842624 <= x.i /\ x.i <= 1125899906842624) := h_ fun h => okV_int (HOK.out x (by simp)) (kinds_get (L := [x]) h (j := 0) (by simp))
     generalize kinds 1 [x] = b at HAR HNK HBD
     simp only [List.length_cons, List.length_nil, Nat.zero_add] at HAR |-
     go_wp2_with fail
     refine HAR.out.mono ?_
     rintro e w4 ⟨rfl, hw4⟩
     have HC4 := h_ (HCr.out.below hw4)
     have HW4 := t_ HWr hw4
     have HV4 := h_ (HV.out.below hw4)
     have HB4 := h_ (HBr.out.below hw4)
     clear hw4 HAR p0
     cases b with
     | false =>
      have HQ : Hid (q = zV) := HNK
      go_wp2_with fail
      refine (HZ.out w4).mono ?_
      rintro e w8 ⟨rfl, hw8⟩
      have HD := h_ (HC4.out.below hw8)
      have HX := t_ HW4 hw8
      clear hw8
      generalize zV = qq at HQ |-
      obtain ⟨q0, q1, q2⟩ := qq
      unfold vV
      simp only
      obtain ⟨r0, r1, r2, f0, f1, f2⟩ := HD.out.f3
      go_wp2_with fail
      refine name_set3W (K := fun w' => bodyPost _ _ _ _ _ w') HD.out fun w9 hM => ?_
      exact bodyPost_ret (results_cell_row Tryz.results84 _ _ (w.heap.size + 1) _ _ (0, 0) _ rfl hM.blk Tryz.underlying29 rfl (by kernel_rfl)) rfl ⟨by rw [HQ.out]; rfl, HX.out.trans (hM.low.mono (by first | exact Nat.le_refl _ | omega))⟩
     | true =>
      have HQ : Hid (q = nV (-x.i)) := HNK
      obtain ⟨b1, b2⟩ := HBD.out rfl
      obtain ⟨g, o, rfl, hgl, r0, r1, r2⟩ := HV4.out.head
      generalize x.i = xi at HQ b1 b2 r1
      go_wp2_with fail
      refine (rint_call (-xi) w4).mono ?_
      rintro e w8 ⟨rfl, hw8⟩
      have HD := h_ (HC4.out.below hw8)
      have HX := t_ HW4 hw8
      clear hw8
      generalize nV (-xi) = qq at HQ |-
      obtain ⟨q0, q1, q2⟩ := qq
      unfold vV
      simp only
      obtain ⟨r0, r1, r2, f0, f1, f2⟩ := HD.out.f3
      go_wp2_with fail
      refine name_set3W (K := fun w' => bodyPost _ _ _ _ _ w') HD.out fun w9 hM => ?_
      exact bodyPost_ret (results_cell_row Tryz.results84 _ _ (w.heap.size + 1) _ _ (0, 0) _ rfl hM.blk Tryz.underlying29 rfl (by kernel_rfl)) rfl ⟨by rw [HQ.out]; rfl, HX.out.trans (hM.low.mono (by first | exact Nat.le_refl _ | omega))⟩
    ·have HOP := h_ ho
     clear ho
     have hLn : L.length = 2 := by
      have := HCN2.out
      clear HNN HXR
      have ho := HOP.out
      have e : arity op = (2, 2) := by (subst ho; exact rfl)
      rw [e] at this; simp at this; omega
     obtain rfl := HOP.out
     obtain ⟨x, y, rfl⟩ := vlen2 hLn
     have HQ : Hid (q = textV 19 [x, y]) := h_ (by rw [HNN.out]; rfl)
     simp only [List.length_cons, List.length_nil, Nat.zero_add, Nat.reduceAdd]
     go_wp2_with fail
     refine (rtexts19 x y av cv wr HV.out (HOK.out x (by simp)) (HOK.out y (by simp))).mono ?_
     rintro e w8 ⟨rfl, hw8⟩
     have HD := h_ (HCr.out.below hw8)
     have HX := t_ HWr hw8
     clear hw8
     generalize textV 19 [x, y] = qq at HQ |-
     obtain ⟨q0, q1, q2⟩ := qq
     unfold vV
     simp only
     obtain ⟨r0, r1, r2, f0, f1, f2⟩ := HD.out.f3
     go_wp2_with fail
     refine name_set3W (K := fun w' => bodyPost _ _ _ _ _ w') HD.out fun w9 hM => ?_
     exact bodyPost_ret (results_cell_row Tryz.results84 _ _ (w.heap.size + 1) _ _ (0, 0) _ rfl hM.blk Tryz.underlying29 rfl (by kernel_rfl)) rfl ⟨by rw [HQ.out]; rfl, HX.out.trans (hM.low.mono (by first | exact Nat.le_refl _ | omega))⟩
    ·have HOP := h_ ho
     clear ho
     have hLn : L.length = 1 := by
      have := HCN2.out
      clear HNN HXR
      have ho := HOP.out
      have e : arity op = (1, 1) := by (subst ho; exact rfl)
      rw [e] at this; simp at this; omega
     obtain rfl := HOP.out
     obtain ⟨x, rfl⟩ := vlen1 hLn
     have HQ : Hid (q = textV 20 [x]) := h_ (by rw [HNN.out]; rfl)
     simp only [List.length_cons, List.length_nil, Nat.zero_add, Nat.reduceAdd]
     go_wp2_with fail
     refine (rtexts20 x av cv wr HV.out (HOK.out x (by simp))).mono ?_
     rintro e w8 ⟨rfl, hw8⟩
     have HD := h_ (HCr.out.below hw8)
     have HX := t_ HWr hw8
     clear hw8
     generalize textV 20 [x] = qq at HQ |-
     obtain ⟨q0, q1, q2⟩ := qq
     unfold vV
     simp only
     obtain ⟨r0, r1, r2, f0, f1, f2⟩ := HD.out.f3
     go_wp2_with fail
     refine name_set3W (K := fun w' => bodyPost _ _ _ _ _ w') HD.out fun w9 hM => ?_
     exact bodyPost_ret (results_cell_row Tryz.results84 _ _ (w.heap.size + 1) _ _ (0, 0) _ rfl hM.blk Tryz.underlying29 rfl (by kernel_rfl)) rfl ⟨by rw [HQ.out]; rfl, HX.out.trans (hM.low.mono (by first | exact Nat.le_refl _ | omega))⟩
    ·have HOP := h_ ho
     clear ho
     have hLn : L.length = 1 := by
      have := HCN2.out
      clear HNN HXR
      have ho := HOP.out
      have e : arity op = (1, 1) := by (subst ho; exact rfl)
      rw [e] at this; simp at this; omega
     obtain rfl := HOP.out
     obtain ⟨x, rfl⟩ := vlen1 hLn
     have HQ : Hid (q = bV (x.k == 0)) := h_ (by rw [HNN.out]; rfl)
     obtain ⟨g, o, rfl, hgl, r0, r1, r2⟩ := HV.out.head
     generalize x.k = xk at HQ r0
     go_wp2_with fail
     refine (HTB.out (xk == 0) wr).mono ?_
     rintro e w8 ⟨rfl, hw8⟩
     have HD := h_ (HCr.out.below hw8)
     have HX := t_ HWr hw8
     clear hw8
     generalize bV (xk == 0) = qq at HQ |-
     obtain ⟨q0, q1, q2⟩ := qq
     unfold vV
     simp only
     obtain ⟨r0, r1, r2, f0, f1, f2⟩ := HD.out.f3
     go_wp2_with fail
     refine name_set3W (K := fun w' => bodyPost _ _ _ _ _ w') HD.out fun w9 hM => ?_
     exact bodyPost_ret (results_cell_row Tryz.results84 _ _ (w.heap.size + 1) _ _ (0, 0) _ rfl hM.blk Tryz.underlying29 rfl (by kernel_rfl)) rfl ⟨by rw [HQ.out]; rfl, HX.out.trans (hM.low.mono (by first | exact Nat.le_refl _ | omega))⟩
    ·have HOP := h_ ho
     clear ho
     have hLn : L.length = 3 := by
      have := HCN2.out
      clear HNN HXR
      have ho := HOP.out
      have e : arity op = (3, 3) := by (subst ho; exact rfl)
      rw [e] at this; simp at this; omega
     obtain rfl := HOP.out
     obtain ⟨c, x, y, rfl⟩ := vlen3 hLn
     have HQ : Hid (q = if truthV c = 2 then x else y) := h_ (by rw [HNN.out]; rfl)
     simp only [List.length_cons, List.length_nil, Nat.zero_add, Nat.reduceAdd]
     have HT := h_ (rchosen22 c x y av cv wr HV.out)
     generalize (if truthV c = 2 then x else y) = qz at HQ HT
     go_wp2_with fail
     refine (HT.out).mono ?_
     rintro e w8 ⟨rfl, hw8⟩
     have HD := h_ (HCr.out.below hw8)
     have HX := t_ HWr hw8
     clear hw8
     generalize qz = qq at HQ |-
     obtain ⟨q0, q1, q2⟩ := qq
     unfold vV
     simp only
     obtain ⟨r0, r1, r2, f0, f1, f2⟩ := HD.out.f3
     go_wp2_with fail
     refine name_set3W (K := fun w' => bodyPost _ _ _ _ _ w') HD.out fun w9 hM => ?_
     exact bodyPost_ret (results_cell_row Tryz.results84 _ _ (w.heap.size + 1) _ _ (0, 0) _ rfl hM.blk Tryz.underlying29 rfl (by kernel_rfl)) rfl ⟨by rw [HQ.out]; rfl, HX.out.trans (hM.low.mono (by first | exact Nat.le_refl _ | omega))⟩
    ·have HOP := h_ ho
     clear ho
     obtain rfl := HOP.out
     have HQ : Hid (q = coalV L) := h_ (by rw [HNN.out]; rfl)
     go_wp2_with fail
     refine (rchosen23 L av cv wr HV.out (by omega)).mono ?_
     rintro e w8 ⟨rfl, hw8⟩
     have HD := h_ (HCr.out.below hw8)
     have HX := t_ HWr hw8
     clear hw8
     generalize coalV L = qq at HQ |-
     obtain ⟨q0, q1, q2⟩ := qq
     unfold vV
     simp only
     obtain ⟨r0, r1, r2, f0, f1, f2⟩ := HD.out.f3
     go_wp2_with fail
     refine name_set3W (K := fun w' => bodyPost _ _ _ _ _ w') HD.out fun w9 hM => ?_
     exact bodyPost_ret (results_cell_row Tryz.results84 _ _ (w.heap.size + 1) _ _ (0, 0) _ rfl hM.blk Tryz.underlying29 rfl (by kernel_rfl)) rfl ⟨by rw [HQ.out]; rfl, HX.out.trans (hM.low.mono (by first | exact Nat.le_refl _ | omega))⟩

theorem shortL_at : ∀ {l : List X} {k : Nat} (hk : k < l.length), shortL l -> shortX l[k]
 | x :: l, 0, _, h => by rw [shortL] at h; exact h.1
 | x :: l, k + 1, hk, h => by rw [shortL] at h; exact shortL_at (l := l) (k := k) (by simpa using hk) h.2
theorem reval_call (row : Value) : ∀ (N : Nat) (x : X) (cs : List Value) (w : World), nodes x <= N -> N <= 1000000 -> shortX x -> plX x = true -> XR w x cs -> Calls Tryz.prog 84 #[.agg cs.toArray, row] w (Ret w (vV (evalX x)))
 | 0, x, _, _, h, _, _, _, _ => absurd (nodes_pos x) (by omega)
 | N + 1, .mk op int vk vi vs nm l, cs, w, hn, hN, hs, hp, h => by
  have hn' := hn
  rw [nodes] at hn'
  rw [shortX] at hs
  rw [plX, Bool.and_eq_true] at hp
  have hi : HIT l 84 row w := fun k hk us w' _ hx => reval_call row N l[k] us w' (by have := nodesL_mem (List.getElem_mem (l := l) hk); omega) (by omega) (shortL_at hk hs.2) (plXs_at hk hp.2) hx
  have ho := hp.1
  simp only [Bool.or_eq_true, Bool.and_eq_true, decide_eq_true_eq] at ho
  exact revalA op int vk vi vs nm l cs row w (by omega) (by omega) hs.1.1 h hi
def set3 (cs : List Value) (o : Nat) (u0 u1 u2 : Value) : List Value := ((cs.set o u0).set (o + 1) u1).set (o + 2) u2
theorem set3_take (cs : List Value) (o n : Nat) (u0 u1 u2 : Value) : (set3 cs o u0 u1 u2).take n = set3 (cs.take n) o u0 u1 u2 := by
 unfold set3
 simp only [List.take_set]
theorem set3_len (cs : List Value) (o : Nat) (u0 u1 u2 : Value) : (set3 cs o u0 u1 u2).length = cs.length := by
 unfold set3
 simp only [List.length_set]
theorem set3_flat (y : V) : ∀ (M : List V) (i : Nat), i < M.length -> set3 (M.flatMap vC) (i * 3) (.int .i64 y.k) (.int .i64 y.i) (.string ⟨y.t.toArray⟩) = (M.set i y).flatMap vC
 | [], i, h => absurd h (by simp)
 | c :: M, 0, _ => by simp [set3, vC]
 | c :: M, i + 1, h => by
  have ih := set3_flat y M i (by simpa using h)
  have e : (i + 1) * 3 = (vC c).length + i * 3 := by show (i + 1) * 3 = 3 + i * 3; omega
  rw [List.flatMap_cons, List.set_cons_succ, List.flatMap_cons, <- ih, e]
  unfold set3
  have aux : ∀ (r : List Value) (j : Nat) (u : Value), (vC c ++ r).set ((vC c).length + j) u = vC c ++ r.set j u := fun r j u => by rw [List.set_append_right _ _ (by omega)]; simp
  simp only [Nat.add_assoc, aux]
theorem name_setV {w : World} {g o : Nat} {cs : List Value} {u0 u1 u2 : Value} {t : TypeId} {K : World -> Prop} (hb : Blk w g cs t) (h : ∀ w', Wr w g (set3 cs o u0 u1 u2) t w' -> K w') :
  K (((w.setCell ⟨g, o, none⟩ u0).setCell ⟨g, o + 1, none⟩ u1).setCell ⟨g, o + 2, none⟩ u2) :=
 h _ (((Wr.start hb).set o u0).set (o + 1) u1 |>.set (o + 2) u2)
theorem OwnV.exch {B : Nat} {v : Value} {M : List V} {w : World} {i : Nat} (h : OwnV B v M w) (hi : i < M.length) : ∃ g cap cur, v = .slice (some ⟨g, 0, none⟩) M.length cap /\ Blk w g cur 29 /\ B <= g /\ i * 3 + 2 < cur.length /\
  ∀ (y : V) (w' : World), Wr w g (set3 cur (i * 3) (.int .i64 y.k) (.int .i64 y.i) (.string ⟨y.t.toArray⟩)) 29 w' -> OwnV B v (M.set i y) w' := by
 have h' : w.ownsRow B 29 3 v M.length (M.flatMap vC) := h
 rcases h'.2 with ⟨rfl, h0⟩ | ⟨g, cap, cur, rfl, hg, hc, hcap, hm, hs, ht⟩
 ·have h0' : M.length = 0 := h0; omega
 refine ⟨g, cap, cur.toList, rfl, by unfold Blk; simpa using hc, hg, by simp [hs]; omega, fun y w' hw => ?_⟩
 have hlen : (set3 cur.toList (i * 3) (.int .i64 y.k) (.int .i64 y.i) (.string ⟨y.t.toArray⟩)).take (M.length * 3) = (M.set i y).flatMap vC := by
  rw [set3_take, ht, set3_flat y M i hi]
 have hb := hw.blk
 unfold Blk at hb
 unfold OwnV
 rw [List.length_set]
 refine ⟨?_, .inr ⟨g, cap, _, by simp, hg, hb, by simpa using hcap, hm, by simp [set3_len, hs], by simpa using hlen⟩⟩
 rw [<- hlen, List.length_take, set3_len, Array.length_toList (xs := cur), hs]
 have : M.length * 3 <= cap * 3 := Nat.mul_le_mul_right _ hcap
 omega
theorem flatV_len : ∀ M : List V, (M.flatMap vC).length = M.length * 3
 | [] => rfl
 | c :: M => by rw [List.flatMap_cons, List.length_append, flatV_len M, List.length_cons]; show 3 + M.length * 3 = _; omega
theorem made_zero (n : Nat) : (Go.madeCells (vV zV).cells (n * 3)).toList = (List.replicate n zV).flatMap vC := by
 refine List.ext_getElem ?_ fun t h1 h2 => ?_
 ·rw [flatV_len, List.length_replicate]; simp [Go.madeCells]
 ·have ht : t < n * 3 := by simpa [Go.madeCells] using h1
  have e := flat3 (List.replicate n zV) (t / 3) zV (by rw [List.getElem?_replicate]; rw [if_pos (by omega)]) (t % 3) ((vC zV)[t % 3]'(Nat.mod_lt _ (by decide))) (List.getElem?_eq_getElem _)
  rw [Nat.div_add_mod' t 3] at e
  have e2 := List.getElem?_eq_some_iff.1 e
  obtain ⟨h3, e3⟩ := e2
  rw [e3]
  have hm : t % 3 = 0 \/ t % 3 = 1 \/ t % 3 = 2 := by omega
  simp only [Go.madeCells, Array.getElem_toList, Array.getElem_map, Array.getElem_range]
  show (vV zV).cells[t % 3]! = _
  rcases hm with h | h | h <;> simp only [h] <;> rfl
theorem set_step (E : List V) (n k : Nat) (hk : k < n) (hn : E.length = n) : (E.take k ++ List.replicate (n - k) zV).set k (E[k]'(by omega)) = E.take (k + 1) ++ List.replicate (n - (k + 1)) zV := by
 have hl : (E.take k).length = k := by rw [List.length_take]; omega
 rw [List.set_append_right _ _ (by omega), hl, Nat.sub_self, show n - k = (n - (k + 1)) + 1 by omega, List.replicate_succ, List.set_cons_zero, List.take_add_one, List.getElem?_eq_getElem (by omega), List.append_assoc]
 rfl
end Go.Proofs.YtnlimlboedohgaaGreatDoor.Px
