import Derived.Test.YtnlimlboedohgaaGreatDoorEvM
/-
  The program's Eval on plain expressions. (Printed by gen_evall.py.)
-/
set_option maxHeartbeats 40000000
set_option maxRecDepth 100000
namespace Go.Proofs.YtnlimlboedohgaaGreatDoor.Px
open Go Go.RowKit Go.Proofs.YtnlimlboedohgaaGreatDoor.Ps
set_option linter.unusedVariables false
set_option linter.unusedSimpArgs false
theorem pevalA (op int vk vi : Int) (vs nm : S) (l : List X) (cs : List Value) (row : Value) (w : World) (hop : op = 4 \/ op = 5 \/ op = 6 \/ op = 7 \/ op = 8 \/ op = 9 \/ op = 10 \/ op = 11 \/ op = 12 \/ op = 13 \/ op = 14 \/ op = 15 \/ op = 16 \/ op = 17 \/ op = 18 \/ op = 19 \/ op = 20 \/ op = 21 \/ op = 23) (hN : nodes (.mk op int vk vi vs nm l) <= 1000000) (hvs : vs.length < 4294967281) (h : XR w (.mk op int vk vi vs nm l) cs) (hi : HIT l 41 row w) : Calls Tryz.prog 41 #[.agg cs.toArray, row] w (Ret w (vV (evalX (.mk op int vk vi vs nm l)))) := by
 obtain ⟨ix, hix, hx0', hx1, hx2⟩ := info_parts infoValue
 have hx0 : ix.zero = some (.agg #[.int .i64 0, .int .i64 0, .string ⟨#[]⟩]) := hx0'
 clear hx0'
 obtain ⟨a, m, rfl, hl, _, _, hlen⟩ := h.lits
 have hkn : ¬ (arity op).1 < 0 := by rcases hop with rfl | rfl | rfl | rfl | rfl | rfl | rfl | rfl | rfl | rfl | rfl | rfl | rfl | rfl | rfl | rfl | rfl | rfl | rfl <;> decide
 have hll : l.length <= 1000000 := by rw [nodes] at hN; have := nodesL_len l; omega
 have HFM := h_ fun w' (hw' : Below w.heap.size w w') => eformed_call op int vk vi vs nm l _ w' hkn (by omega) (by omega) (h.kept hw' (Nat.le_refl _))
 have HWC : Hid (wellB op int vk vi vs nm l.length = true -> (arity op).1 <= (l.length : Int) /\ (l.length : Int) <= (arity op).2) := h_ well_cnt
 have HL := h_ hl
 have HXR := h_ h
 have HIH := h_ hi
 have HOK := h_ (evalXs_ok l)
 have HEL := h_ (evalXs_len l)
 have HN : Hid (evalX (.mk op int vk vi vs nm l) = if wellB op int vk vi vs nm l.length then opV op ⟨vk, vi, vs⟩ (evalXs l) else zV) := h_ (by rw [evalX])
 generalize evalX (.mk op int vk vi vs nm l) = q at HN |-
 generalize wellB op int vk vi vs nm l.length = wb at HFM HN HWC
 have HOP := h_ hop
 have HZ := h_ pnull_call
 clear h hl hi hN hop hkn hvs
 go_enter Tryz.func41, Tryz.ntmps41
 go_upto_region 1 with (fail)
 refine nB fun w1 hA hB hw1 hz1 => ?_
 have HA := h_ hA
 have HC := h_ hB
 have HW := h_ hw1
 obtain ⟨p0, p1, p2, p3, p4, p5, p6⟩ := hA.c7
 clear hA hB hw1 hz1
 go_wp2_with fail
 refine (HFM.out w1 HW.out).mono ?_
 rintro e w2 ⟨rfl, hw2⟩
 have HA2 := h_ (HA.out.below hw2)
 have HC2 := h_ (HC.out.below hw2)
 have HW2 := t_ HW hw2
 clear p0 p1 p2 p3 p4 p5 p6 hw2 HA HC HW HFM
 cases wb with
 | false =>
  have HQ : Hid (q = zV) := HN
  go_wp2_with fail
  refine (HZ.out w2).mono ?_
  rintro e w8 ⟨rfl, hw8⟩
  have HD := h_ (HC2.out.below hw8)
  have HX := t_ HW2 hw8
  clear hw8
  generalize zV = qq at HQ |-
  obtain ⟨q0, q1, q2⟩ := qq
  unfold vV
  simp only
  obtain ⟨r0, r1, r2, f0, f1, f2⟩ := HD.out.f3
  go_wp2_with fail
  refine name_set3W (K := fun w' => bodyPost _ _ _ _ _ w') HD.out fun w9 hM => ?_
  exact bodyPost_ret (results_cell_row Tryz.results41 _ _ (w.heap.size + 1) _ _ (0, 0) _ rfl hM.blk Tryz.underlying29 rfl (by kernel_rfl)) rfl ⟨by rw [HQ.out]; rfl, HX.out.trans (hM.low.mono (by first | exact Nat.le_refl _ | omega))⟩
 | true =>
  have HNN : Hid (q = opV op ⟨vk, vi, vs⟩ (evalXs l)) := HN
  have HCN := h_ (HWC.out rfl)
  clear HN HWC
  have p0 := HA2.out.cell 0 rfl
  have p6 := HA2.out.cell 6 rfl
  have hbb : ix.bytes * l.length <= 281474976710656 := by rw [hx2]; omega
  have HE0 : Hid ((evalXs l).take 0 ++ List.replicate (l.length - 0) zV = List.replicate l.length zV) := h_ (by simp)
  have hml : l.length <= maxLen := by unfold maxLen; omega
  have n1 : (op == 1) = false := by have := HOP.out; simp; omega
  have n2 : (op == 2) = false := by have := HOP.out; simp; omega
  have n22 : (op == 22) = false := by have := HOP.out; simp; omega
  go_upto_region 13 with (refine wpList_make_full _ rfl (.tmp 49) (.tmp 49) 118 rfl w2.heap.size 29 ix _ 3 Tryz.underlying118 hix hx0 hx1 .i64 .i64 _ _ l.length rfl rfl rfl rfl hbb hml (Nat.le_refl _) ?_)
  intro w3 hown hgr
  have HO3 : Hid (OwnV w2.heap.size (.slice (some ⟨w2.heap.size, 0, none⟩) l.length l.length) ((evalXs l).take 0 ++ List.replicate (l.length - 0) zV) w3) := h_ (by
   rw [HE0.out]; unfold OwnV; rw [List.length_replicate, <- made_zero]; exact hown)
  have HW3 : Hid (Below w2.heap.size w2 w3) := h_ ((Below.refl _ w2).grown hgr (Nat.le_refl _) (fun g e => by cases e))
  clear hown hgr p0 p6
  have p6 := (HA2.out.below HW3.out).cell 6 rfl
  go_upto_region 14 with (fail)
  clear p6
  go_loopw [54] (fun i wr => ∃ k : Nat, k <= l.length /\ i = .int .i64 (k : Int) /\ OwnV w2.heap.size (.slice (some ⟨w2.heap.size, 0, none⟩) l.length l.length) ((evalXs l).take k ++ List.replicate (l.length - k) zV) wr /\ Below w2.heap.size w2 wr) (fun i _ => l.length - (intOf i).toNat)
  case atStart => exact ⟨0, Nat.zero_le _, rfl, HO3.out, HW3.out⟩
  case round =>
   obtain ⟨k, hk, rfl, ho, hb⟩ := hrel
   have HO := h_ ho
   have HBr := h_ (HA2.out.below hb)
   have HCr := h_ (HC2.out.below hb)
   have HB := h_ hb
   have HWr := t_ HW2 hb
   clear ho hb HO3 HW3
   by_cases hlt : k < l.length
   ·have k1 : (k : Int) < (l.length : Int) := by omega
    have k0 : (0 : Int) <= (k : Int) := by omega
    obtain ⟨g, o, us, eq, hec, hkx, hrx⟩ := HL.out.ec hlt
    subst eq
    have HIK := h_ fun (w' : World) (hw' : Below wr.heap.size wr w') => HIH.out k hkx us w' (HWr.out.trans (hw'.mono HWr.out.size)) (hrx.kept (HWr.out.trans (hw'.mono HWr.out.size)) (Nat.le_refl _))
    have HEK : Hid ((evalXs l)[k]'(by rw [evalXs_len]; exact hlt) = evalX l[k]) := h_ (by simp [evalXs_map])
    have HST := h_ (set_step (evalXs l) l.length k hlt (evalXs_len l))
    rw [HEK.out] at HST
    have HLN : Hid (((evalXs l).take k ++ List.replicate (l.length - k) zV).length = l.length) := h_ (by rw [List.length_append, List.length_take, List.length_replicate, evalXs_len]; omega)
    generalize evalX l[k] = y at HIK HST HEK
    clear HEK
    generalize l[k] = xk at hrx HIK
    obtain ⟨eop, eint, evk, evi, evs, enm, el⟩ := xk
    obtain ⟨ea, em, rfl, _⟩ := hrx.lits
    obtain ⟨e0, e1, e2, e3, e4, e5, e6⟩ := hec.c7 HWr.out
    have lg : g < wr.heap.size := Nat.lt_of_lt_of_le hec.1 HWr.out.size
    clear hrx hec
    go_wp2_with fail
    refine (HIK.out _ (below1 wr _)).mono ?_
    rintro e w4 ⟨rfl, hw4⟩
    have hb4 : Below wr.heap.size wr w4 := (below1 wr _).trans (hw4.mono (by simp))
    have HO4 := h_ (HO.out.below hb4)
    have HB4 := t_ HB hb4
    clear e0 e1 e2 e3 e4 e5 e6 lg hw4 hb4 HO HB HBr HCr HWr HIK
    generalize hM : (evalXs l).take (k + 1) ++ List.replicate (l.length - (k + 1)) zV = M1 at HST
    have HM := h_ hM
    clear hM
    generalize (evalXs l).take k ++ List.replicate (l.length - k) zV = M at HO4 HST HLN
    obtain ⟨gO, cap, cur, ev, hblk, hgB, hcur, hex⟩ := HO4.out.exch (i := k) (by rw [HLN.out]; exact hlt)
    obtain rfl : w2.heap.size = gO := by injection ev with e1; injection e1 with e1; injection e1
    have HEX := h_ (hex y)
    have HBK := h_ hblk
    clear ev hex hblk
    obtain ⟨y0, y1, y2⟩ := y
    have f0 := HBK.out.free (k * 3)
    have x0 := HBK.out.cell (k * 3) (List.getElem?_eq_getElem (by omega))
    have f1 := HBK.out.free (k * 3 + 1)
    have x1 := HBK.out.cell (k * 3 + 1) (List.getElem?_eq_getElem (by omega))
    have f2 := HBK.out.free (k * 3 + 2)
    have x2 := HBK.out.cell (k * 3 + 2) (List.getElem?_eq_getElem (by omega))
    unfold vV
    simp only
    go_upto_region 17 with (fail)
    refine name_setV (o := k * 3) (K := Code.wp _ _ _ _) HBK.out fun w9 hM => ?_
    have HN9 := h_ (HEX.out w9 hM)
    have HB9 := h_ (HB4.out.trans (hM.low.mono (Nat.le_refl _)))
    clear hM f0 f1 f2 x0 x1 x2
    go_wp2_with fail
    go_roundw
    case rel => exact ⟨k + 1, by omega, by go_num, by rw [HM.out, <- HST.out]; exact HN9.out, HB9.out⟩
    case measure => simp [intOf]; omega
   ·obtain rfl : k = l.length := by omega
    have d1 : decide ((l.length : Int) < (l.length : Int)) = false := decide_eq_false (by omega)
    have HO9 : Hid (OwnV w2.heap.size (.slice (some ⟨w2.heap.size, 0, none⟩) l.length l.length) (evalXs l) wr) := h_ (by
     have := HO.out
     rw [show l.length = (evalXs l).length from HEL.out.symm, List.take_length, Nat.sub_self, List.replicate_zero, List.append_nil] at this
     rw [<- HEL.out]; exact this)
    obtain ⟨av, cv, ev, hcv, hvi⟩ := OwnV.vi HO9.out
    generalize evalXs l = L at HNN HOK HEL HO9 ev hcv hvi
    have hev : (some ⟨w2.heap.size, 0, none⟩ : Option Addr) = av := by injection ev with e1
    have HV : Hid (VI wr L (some ⟨w2.heap.size, 0, none⟩)) := h_ (by rw [hev]; exact hvi)
    have HCN2 : Hid ((arity op).1 <= (L.length : Int) /\ (L.length : Int) <= (arity op).2) := h_ (by rw [HEL.out]; exact HCN.out)
    rw [<- HEL.out]
    have ll : L.length <= 1000000 := by rw [HEL.out]; exact hll
    have p0 := HBr.out.cell 0 rfl
    clear ev hev hvi HO HO9 HCN HB hlt hcv
    have hcase : op = 4 \/ op = 5 \/ op = 6 \/ op = 7 \/ op = 8 \/ op = 9 \/ op = 10 \/ op = 11 \/ op = 12 \/ op = 13 \/ op = 14 \/ op = 15 \/ op = 16 \/ op = 17 \/ op = 18 \/ op = 19 \/ op = 20 \/ op = 21 \/ op = 23 := by have := HOP.out; omega
    clear HOP
    rcases hcase with ho | ho | ho | ho | ho | ho | ho | ho | ho | ho | ho | ho | ho | ho | ho | ho | ho | ho | ho
    ·have HOP := h_ ho
     clear ho
     have hLn : L.length = 1 := by
      have := HCN2.out
      clear HNN HXR
      have ho := HOP.out
      have e : arity op = (1, 1) := by (subst ho; exact rfl)
      rw [e] at this; simp at this; omega
     obtain rfl := HOP.out
     have HQ : Hid (q = logicV 4 L) := h_ (by rw [HNN.out]; rfl)
     have HP := h_ (plogic4 L (some ⟨w2.heap.size, 0, none⟩) L.length wr HV.out (by omega) (by omega) (Nat.le_refl _) (by omega))
     clear d1 n1 n2 n22 hbb HE0 HEL HOK HIH HXR HL ll hml hlen hll HNN HCN2 hLn
     go_wp2_with fail
     refine (HP.out).mono ?_
     rintro e w8 ⟨rfl, hw8⟩
     have HD := h_ (HCr.out.below hw8)
     have HX := t_ HWr hw8
     clear hw8
     generalize logicV 4 L = qq at HQ |-
     obtain ⟨q0, q1, q2⟩ := qq
     unfold vV
     simp only
     obtain ⟨r0, r1, r2, f0, f1, f2⟩ := HD.out.f3
     go_wp2_with fail
     refine name_set3W (K := fun w' => bodyPost _ _ _ _ _ w') HD.out fun w9 hM => ?_
     exact bodyPost_ret (results_cell_row Tryz.results41 _ _ (w.heap.size + 1) _ _ (0, 0) _ rfl hM.blk Tryz.underlying29 rfl (by kernel_rfl)) rfl ⟨by rw [HQ.out]; rfl, HX.out.trans (hM.low.mono (by first | exact Nat.le_refl _ | omega))⟩
    ·have HOP := h_ ho
     clear ho
     obtain rfl := HOP.out
     have hLn : 1 < L.length := by have := HCN2.out; simp [arity] at this; omega
     have HQ : Hid (q = logicV 5 L) := h_ (by rw [HNN.out]; rfl)
     have HP := h_ (plogic5 L (some ⟨w2.heap.size, 0, none⟩) L.length wr HV.out (by omega) (by omega) (Nat.le_refl _) (by omega))
     clear d1 n1 n2 n22 hbb HE0 HEL HOK HIH HXR HL ll hml hlen hll HNN HCN2 hLn
     go_wp2_with fail
     refine (HP.out).mono ?_
     rintro e w8 ⟨rfl, hw8⟩
     have HD := h_ (HCr.out.below hw8)
     have HX := t_ HWr hw8
     clear hw8
     generalize logicV 5 L = qq at HQ |-
     obtain ⟨q0, q1, q2⟩ := qq
     unfold vV
     simp only
     obtain ⟨r0, r1, r2, f0, f1, f2⟩ := HD.out.f3
     go_wp2_with fail
     refine name_set3W (K := fun w' => bodyPost _ _ _ _ _ w') HD.out fun w9 hM => ?_
     exact bodyPost_ret (results_cell_row Tryz.results41 _ _ (w.heap.size + 1) _ _ (0, 0) _ rfl hM.blk Tryz.underlying29 rfl (by kernel_rfl)) rfl ⟨by rw [HQ.out]; rfl, HX.out.trans (hM.low.mono (by first | exact Nat.le_refl _ | omega))⟩
    ·have HOP := h_ ho
     clear ho
     obtain rfl := HOP.out
     have hLn : 1 < L.length := by have := HCN2.out; simp [arity] at this; omega
     have HQ : Hid (q = logicV 6 L) := h_ (by rw [HNN.out]; rfl)
     have HP := h_ (plogic6 L (some ⟨w2.heap.size, 0, none⟩) L.length wr HV.out (by omega) (by omega) (Nat.le_refl _) (by omega))
     clear d1 n1 n2 n22 hbb HE0 HEL HOK HIH HXR HL ll hml hlen hll HNN HCN2 hLn
     go_wp2_with fail
     refine (HP.out).mono ?_
     rintro e w8 ⟨rfl, hw8⟩
     have HD := h_ (HCr.out.below hw8)
     have HX := t_ HWr hw8
     clear hw8
     generalize logicV 6 L = qq at HQ |-
     obtain ⟨q0, q1, q2⟩ := qq
     unfold vV
     simp only
     obtain ⟨r0, r1, r2, f0, f1, f2⟩ := HD.out.f3
     go_wp2_with fail
     refine name_set3W (K := fun w' => bodyPost _ _ _ _ _ w') HD.out fun w9 hM => ?_
     exact bodyPost_ret (results_cell_row Tryz.results41 _ _ (w.heap.size + 1) _ _ (0, 0) _ rfl hM.blk Tryz.underlying29 rfl (by kernel_rfl)) rfl ⟨by rw [HQ.out]; rfl, HX.out.trans (hM.low.mono (by first | exact Nat.le_refl _ | omega))⟩
    ·have HOP := h_ ho
     clear ho
     have hLn : L.length = 2 := by
      have := HCN2.out
      clear HNN HXR
      have ho := HOP.out
      have e : arity op = (2, 2) := by (subst ho; exact rfl)
      rw [e] at this; simp at this; omega
     obtain rfl := HOP.out
     obtain ⟨x, y, rfl⟩ := vlen2 hLn
     have HQ : Hid (q = ofT (compT 7 x y)) := h_ (by rw [HNN.out]; rfl)
     have HT := h_ fun w' => pcomp_call 7 x y w' (by decide)
     have HF := h_ fun w' => pof_call (compT 7 x y) w' (compT_tv 7 x y)
     generalize compT 7 x y = t at HQ HT HF
     generalize ofT t = qq at HQ HF
     obtain ⟨g, o, eg, hgl, r0, r1, r2⟩ := HV.out.head
     obtain ⟨rfl, rfl⟩ : w2.heap.size = g /\ 0 = o := by injection eg with e1; injection e1 with e1 e2; exact ⟨e1, e2⟩
     obtain ⟨g', o', e', hgl', s0, s1, s2⟩ := HV.out.tail.head
     obtain ⟨rfl, rfl⟩ : w2.heap.size = g' /\ 3 = o' := by injection e' with e1; injection e1 with e1 e2; exact ⟨e1, by omega⟩
     simp only [Nat.zero_add, Nat.reduceAdd] at r1 r2 s1 s2
     clear e' hgl' eg
     obtain ⟨x0, x1, x2⟩ := x
     obtain ⟨y0, y1, y2⟩ := y
     obtain ⟨q0, q1, q2⟩ := qq
     unfold vV at HT HF
     simp only at HT HF r0 r1 r2 s0 s1 s2
     clear d1 n1 n2 n22 hbb HE0 HEL HOK HIH HXR HL ll hml hlen hll HNN HCN2 hLn
     go_upto_region 45 with (fail)
     refine Gr.region_grow 10 (by kernel_rfl) (by kernel_rfl) (fun w' => Below wr.heap.size wr w') ⟨rfl, rfl, rfl, Nat.le_refl _, fun _ _ => rfl⟩ ?_
     simp only [List.take_succ_cons, List.take_zero, List.drop_succ_cons, List.drop_zero]
     iterate 8
      first
      | apply Gr.sn; focus (go_simp; intro w' hw'; go_simp; rw [Gr.grown_value]; done)
      | apply Gr.sn; focus (go_simp; intro w' hw'; have p0 := (HBr.out.below hw').cell 0 rfl; go_simp; rw [Gr.grown_value]; done)
      | apply Gr.sn; focus (go_simp; intro w' hw'; have lg := Nat.lt_of_lt_of_le hgl hw'.size; have r0 := (hw'.cell hgl).trans r0; have r1 := (hw'.cell hgl).trans r1; have r2 := (hw'.cell hgl).trans r2; go_simp; rw [Gr.grown_value]; done)
      | apply Gr.sn; focus (go_simp; intro w' hw'; have lg := Nat.lt_of_lt_of_le hgl hw'.size; have s0 := (hw'.cell hgl).trans s0; have s1 := (hw'.cell hgl).trans s1; have s2 := (hw'.cell hgl).trans s2; go_simp; rw [Gr.grown_value]; done)
      intro K hK; go_simp; refine hK _ ?_; clear hK K
     refine Gr.sn (.int .i64 t) (by go_simp; intro w' hw'; go_simp; rw [Gr.grown_enter]; exact Ret.fam (HT.out w') hw') fun K hK => ?_; go_simp; refine hK _ ?_; clear hK K
     refine Gr.sn (.agg #[.int .i64 q0, .int .i64 q1, .string ⟨q2.toArray⟩]) (by go_simp; intro w' hw'; go_simp; rw [Gr.grown_enter]; exact Ret.fam (HF.out w') hw') fun K hK => ?_; go_simp; refine hK _ ?_; clear hK K
     refine Gr.line_nil fun w6 hw6 => ?_
     have HD := h_ (HCr.out.below hw6)
     have HX := t_ HWr hw6
     clear hw6
     obtain ⟨r0, r1, r2, f0, f1, f2⟩ := HD.out.f3
     go_wp2_with fail
     refine name_set3W (K := fun w' => bodyPost _ _ _ _ _ w') HD.out fun w9 hM => ?_
     exact bodyPost_ret (results_cell_row Tryz.results41 _ _ (w.heap.size + 1) _ _ (0, 0) _ rfl hM.blk Tryz.underlying29 rfl (by kernel_rfl)) rfl ⟨by rw [HQ.out]; rfl, HX.out.trans (hM.low.mono (by first | exact Nat.le_refl _ | omega))⟩
    ·have HOP := h_ ho
     clear ho
     have hLn : L.length = 2 := by
      have := HCN2.out
      clear HNN HXR
      have ho := HOP.out
      have e : arity op = (2, 2) := by (subst ho; exact rfl)
      rw [e] at this; simp at this; omega
     obtain rfl := HOP.out
     obtain ⟨x, y, rfl⟩ := vlen2 hLn
     have HQ : Hid (q = ofT (compT 8 x y)) := h_ (by rw [HNN.out]; rfl)
     have HT := h_ fun w' => pcomp_call 8 x y w' (by decide)
     have HF := h_ fun w' => pof_call (compT 8 x y) w' (compT_tv 8 x y)
     generalize compT 8 x y = t at HQ HT HF
     generalize ofT t = qq at HQ HF
     obtain ⟨g, o, eg, hgl, r0, r1, r2⟩ := HV.out.head
     obtain ⟨rfl, rfl⟩ : w2.heap.size = g /\ 0 = o := by injection eg with e1; injection e1 with e1 e2; exact ⟨e1, e2⟩
     obtain ⟨g', o', e', hgl', s0, s1, s2⟩ := HV.out.tail.head
     obtain ⟨rfl, rfl⟩ : w2.heap.size = g' /\ 3 = o' := by injection e' with e1; injection e1 with e1 e2; exact ⟨e1, by omega⟩
     simp only [Nat.zero_add, Nat.reduceAdd] at r1 r2 s1 s2
     clear e' hgl' eg
     obtain ⟨x0, x1, x2⟩ := x
     obtain ⟨y0, y1, y2⟩ := y
     obtain ⟨q0, q1, q2⟩ := qq
     unfold vV at HT HF
     simp only at HT HF r0 r1 r2 s0 s1 s2
     clear d1 n1 n2 n22 hbb HE0 HEL HOK HIH HXR HL ll hml hlen hll HNN HCN2 hLn
     go_upto_region 45 with (fail)
     refine Gr.region_grow 10 (by kernel_rfl) (by kernel_rfl) (fun w' => Below wr.heap.size wr w') ⟨rfl, rfl, rfl, Nat.le_refl _, fun _ _ => rfl⟩ ?_
     simp only [List.take_succ_cons, List.take_zero, List.drop_succ_cons, List.drop_zero]
     iterate 8
      first
      | apply Gr.sn; focus (go_simp; intro w' hw'; go_simp; rw [Gr.grown_value]; done)
      | apply Gr.sn; focus (go_simp; intro w' hw'; have p0 := (HBr.out.below hw').cell 0 rfl; go_simp; rw [Gr.grown_value]; done)
      | apply Gr.sn; focus (go_simp; intro w' hw'; have lg := Nat.lt_of_lt_of_le hgl hw'.size; have r0 := (hw'.cell hgl).trans r0; have r1 := (hw'.cell hgl).trans r1; have r2 := (hw'.cell hgl).trans r2; go_simp; rw [Gr.grown_value]; done)
      | apply Gr.sn; focus (go_simp; intro w' hw'; have lg := Nat.lt_of_lt_of_le hgl hw'.size; have s0 := (hw'.cell hgl).trans s0; have s1 := (hw'.cell hgl).trans s1; have s2 := (hw'.cell hgl).trans s2; go_simp; rw [Gr.grown_value]; done)
      intro K hK; go_simp; refine hK _ ?_; clear hK K
     refine Gr.sn (.int .i64 t) (by go_simp; intro w' hw'; go_simp; rw [Gr.grown_enter]; exact Ret.fam (HT.out w') hw') fun K hK => ?_; go_simp; refine hK _ ?_; clear hK K
     refine Gr.sn (.agg #[.int .i64 q0, .int .i64 q1, .string ⟨q2.toArray⟩]) (by go_simp; intro w' hw'; go_simp; rw [Gr.grown_enter]; exact Ret.fam (HF.out w') hw') fun K hK => ?_; go_simp; refine hK _ ?_; clear hK K
     refine Gr.line_nil fun w6 hw6 => ?_
     have HD := h_ (HCr.out.below hw6)
     have HX := t_ HWr hw6
     clear hw6
     obtain ⟨r0, r1, r2, f0, f1, f2⟩ := HD.out.f3
     go_wp2_with fail
     refine name_set3W (K := fun w' => bodyPost _ _ _ _ _ w') HD.out fun w9 hM => ?_
     exact bodyPost_ret (results_cell_row Tryz.results41 _ _ (w.heap.size + 1) _ _ (0, 0) _ rfl hM.blk Tryz.underlying29 rfl (by kernel_rfl)) rfl ⟨by rw [HQ.out]; rfl, HX.out.trans (hM.low.mono (by first | exact Nat.le_refl _ | omega))⟩
    ·have HOP := h_ ho
     clear ho
     have hLn : L.length = 2 := by
      have := HCN2.out
      clear HNN HXR
      have ho := HOP.out
      have e : arity op = (2, 2) := by (subst ho; exact rfl)
      rw [e] at this; simp at this; omega
     obtain rfl := HOP.out
     obtain ⟨x, y, rfl⟩ := vlen2 hLn
     have HQ : Hid (q = ofT (compT 9 x y)) := h_ (by rw [HNN.out]; rfl)
     have HT := h_ fun w' => pcomp_call 9 x y w' (by decide)
     have HF := h_ fun w' => pof_call (compT 9 x y) w' (compT_tv 9 x y)
     generalize compT 9 x y = t at HQ HT HF
     generalize ofT t = qq at HQ HF
     obtain ⟨g, o, eg, hgl, r0, r1, r2⟩ := HV.out.head
     obtain ⟨rfl, rfl⟩ : w2.heap.size = g /\ 0 = o := by injection eg with e1; injection e1 with e1 e2; exact ⟨e1, e2⟩
     obtain ⟨g', o', e', hgl', s0, s1, s2⟩ := HV.out.tail.head
     obtain ⟨rfl, rfl⟩ : w2.heap.size = g' /\ 3 = o' := by injection e' with e1; injection e1 with e1 e2; exact ⟨e1, by omega⟩
     simp only [Nat.zero_add, Nat.reduceAdd] at r1 r2 s1 s2
     clear e' hgl' eg
     obtain ⟨x0, x1, x2⟩ := x
     obtain ⟨y0, y1, y2⟩ := y
     obtain ⟨q0, q1, q2⟩ := qq
     unfold vV at HT HF
     simp only at HT HF r0 r1 r2 s0 s1 s2
     clear d1 n1 n2 n22 hbb HE0 HEL HOK HIH HXR HL ll hml hlen hll HNN HCN2 hLn
     go_upto_region 45 with (fail)
     refine Gr.region_grow 10 (by kernel_rfl) (by kernel_rfl) (fun w' => Below wr.heap.size wr w') ⟨rfl, rfl, rfl, Nat.le_refl _, fun _ _ => rfl⟩ ?_
     simp only [List.take_succ_cons, List.take_zero, List.drop_succ_cons, List.drop_zero]
     iterate 8
      first
      | apply Gr.sn; focus (go_simp; intro w' hw'; go_simp; rw [Gr.grown_value]; done)
      | apply Gr.sn; focus (go_simp; intro w' hw'; have p0 := (HBr.out.below hw').cell 0 rfl; go_simp; rw [Gr.grown_value]; done)
      | apply Gr.sn; focus (go_simp; intro w' hw'; have lg := Nat.lt_of_lt_of_le hgl hw'.size; have r0 := (hw'.cell hgl).trans r0; have r1 := (hw'.cell hgl).trans r1; have r2 := (hw'.cell hgl).trans r2; go_simp; rw [Gr.grown_value]; done)
      | apply Gr.sn; focus (go_simp; intro w' hw'; have lg := Nat.lt_of_lt_of_le hgl hw'.size; have s0 := (hw'.cell hgl).trans s0; have s1 := (hw'.cell hgl).trans s1; have s2 := (hw'.cell hgl).trans s2; go_simp; rw [Gr.grown_value]; done)
      intro K hK; go_simp; refine hK _ ?_; clear hK K
     refine Gr.sn (.int .i64 t) (by go_simp; intro w' hw'; go_simp; rw [Gr.grown_enter]; exact Ret.fam (HT.out w') hw') fun K hK => ?_; go_simp; refine hK _ ?_; clear hK K
     refine Gr.sn (.agg #[.int .i64 q0, .int .i64 q1, .string ⟨q2.toArray⟩]) (by go_simp; intro w' hw'; go_simp; rw [Gr.grown_enter]; exact Ret.fam (HF.out w') hw') fun K hK => ?_; go_simp; refine hK _ ?_; clear hK K
     refine Gr.line_nil fun w6 hw6 => ?_
     have HD := h_ (HCr.out.below hw6)
     have HX := t_ HWr hw6
     clear hw6
     obtain ⟨r0, r1, r2, f0, f1, f2⟩ := HD.out.f3
     go_wp2_with fail
     refine name_set3W (K := fun w' => bodyPost _ _ _ _ _ w') HD.out fun w9 hM => ?_
     exact bodyPost_ret (results_cell_row Tryz.results41 _ _ (w.heap.size + 1) _ _ (0, 0) _ rfl hM.blk Tryz.underlying29 rfl (by kernel_rfl)) rfl ⟨by rw [HQ.out]; rfl, HX.out.trans (hM.low.mono (by first | exact Nat.le_refl _ | omega))⟩
    ·have HOP := h_ ho
     clear ho
     have hLn : L.length = 2 := by
      have := HCN2.out
      clear HNN HXR
      have ho := HOP.out
      have e : arity op = (2, 2) := by (subst ho; exact rfl)
      rw [e] at this; simp at this; omega
     obtain rfl := HOP.out
     obtain ⟨x, y, rfl⟩ := vlen2 hLn
     have HQ : Hid (q = ofT (compT 10 x y)) := h_ (by rw [HNN.out]; rfl)
     have HT := h_ fun w' => pcomp_call 10 x y w' (by decide)
     have HF := h_ fun w' => pof_call (compT 10 x y) w' (compT_tv 10 x y)
     generalize compT 10 x y = t at HQ HT HF
     generalize ofT t = qq at HQ HF
     obtain ⟨g, o, eg, hgl, r0, r1, r2⟩ := HV.out.head
     obtain ⟨rfl, rfl⟩ : w2.heap.size = g /\ 0 = o := by injection eg with e1; injection e1 with e1 e2; exact ⟨e1, e2⟩
     obtain ⟨g', o', e', hgl', s0, s1, s2⟩ := HV.out.tail.head
     obtain ⟨rfl, rfl⟩ : w2.heap.size = g' /\ 3 = o' := by injection e' with e1; injection e1 with e1 e2; exact ⟨e1, by omega⟩
     simp only [Nat.zero_add, Nat.reduceAdd] at r1 r2 s1 s2
     clear e' hgl' eg
     obtain ⟨x0, x1, x2⟩ := x
     obtain ⟨y0, y1, y2⟩ := y
     obtain ⟨q0, q1, q2⟩ := qq
     unfold vV at HT HF
     simp only at HT HF r0 r1 r2 s0 s1 s2
     clear d1 n1 n2 n22 hbb HE0 HEL HOK HIH HXR HL ll hml hlen hll HNN HCN2 hLn
     go_upto_region 45 with (fail)
     refine Gr.region_grow 10 (by kernel_rfl) (by kernel_rfl) (fun w' => Below wr.heap.size wr w') ⟨rfl, rfl, rfl, Nat.le_refl _, fun _ _ => rfl⟩ ?_
     simp only [List.take_succ_cons, List.take_zero, List.drop_succ_cons, List.drop_zero]
     iterate 8
      first
      | apply Gr.sn; focus (go_simp; intro w' hw'; go_simp; rw [Gr.grown_value]; done)
      | apply Gr.sn; focus (go_simp; intro w' hw'; have p0 := (HBr.out.below hw').cell 0 rfl; go_simp; rw [Gr.grown_value]; done)
      | apply Gr.sn; focus (go_simp; intro w' hw'; have lg := Nat.lt_of_lt_of_le hgl hw'.size; have r0 := (hw'.cell hgl).trans r0; have r1 := (hw'.cell hgl).trans r1; have r2 := (hw'.cell hgl).trans r2; go_simp; rw [Gr.grown_value]; done)
      | apply Gr.sn; focus (go_simp; intro w' hw'; have lg := Nat.lt_of_lt_of_le hgl hw'.size; have s0 := (hw'.cell hgl).trans s0; have s1 := (hw'.cell hgl).trans s1; have s2 := (hw'.cell hgl).trans s2; go_simp; rw [Gr.grown_value]; done)
      intro K hK; go_simp; refine hK _ ?_; clear hK K
     refine Gr.sn (.int .i64 t) (by go_simp; intro w' hw'; go_simp; rw [Gr.grown_enter]; exact Ret.fam (HT.out w') hw') fun K hK => ?_; go_simp; refine hK _ ?_; clear hK K
     refine Gr.sn (.agg #[.int .i64 q0, .int .i64 q1, .string ⟨q2.toArray⟩]) (by go_simp; intro w' hw'; go_simp; rw [Gr.grown_enter]; exact Ret.fam (HF.out w') hw') fun K hK => ?_; go_simp; refine hK _ ?_; clear hK K
     refine Gr.line_nil fun w6 hw6 => ?_
     have HD := h_ (HCr.out.below hw6)
     have HX := t_ HWr hw6
     clear hw6
     obtain ⟨r0, r1, r2, f0, f1, f2⟩ := HD.out.f3
     go_wp2_with fail
     refine name_set3W (K := fun w' => bodyPost _ _ _ _ _ w') HD.out fun w9 hM => ?_
     exact bodyPost_ret (results_cell_row Tryz.results41 _ _ (w.heap.size + 1) _ _ (0, 0) _ rfl hM.blk Tryz.underlying29 rfl (by kernel_rfl)) rfl ⟨by rw [HQ.out]; rfl, HX.out.trans (hM.low.mono (by first | exact Nat.le_refl _ | omega))⟩
    ·have HOP := h_ ho
     clear ho
     have hLn : L.length = 2 := by
      have := HCN2.out
      clear HNN HXR
      have ho := HOP.out
      have e : arity op = (2, 2) := by (subst ho; exact rfl)
      rw [e] at this; simp at this; omega
     obtain rfl := HOP.out
     obtain ⟨x, y, rfl⟩ := vlen2 hLn
     have HQ : Hid (q = ofT (compT 11 x y)) := h_ (by rw [HNN.out]; rfl)
     have HT := h_ fun w' => pcomp_call 11 x y w' (by decide)
     have HF := h_ fun w' => pof_call (compT 11 x y) w' (compT_tv 11 x y)
     generalize compT 11 x y = t at HQ HT HF
     generalize ofT t = qq at HQ HF
     obtain ⟨g, o, eg, hgl, r0, r1, r2⟩ := HV.out.head
     obtain ⟨rfl, rfl⟩ : w2.heap.size = g /\ 0 = o := by injection eg with e1; injection e1 with e1 e2; exact ⟨e1, e2⟩
     obtain ⟨g', o', e', hgl', s0, s1, s2⟩ := HV.out.tail.head
     obtain ⟨rfl, rfl⟩ : w2.heap.size = g' /\ 3 = o' := by injection e' with e1; injection e1 with e1 e2; exact ⟨e1, by omega⟩
     simp only [Nat.zero_add, Nat.reduceAdd] at r1 r2 s1 s2
     clear e' hgl' eg
     obtain ⟨x0, x1, x2⟩ := x
     obtain ⟨y0, y1, y2⟩ := y
     obtain ⟨q0, q1, q2⟩ := qq
     unfold vV at HT HF
     simp only at HT HF r0 r1 r2 s0 s1 s2
     clear d1 n1 n2 n22 hbb HE0 HEL HOK HIH HXR HL ll hml hlen hll HNN HCN2 hLn
     go_upto_region 45 with (fail)
     refine Gr.region_grow 10 (by kernel_rfl) (by kernel_rfl) (fun w' => Below wr.heap.size wr w') ⟨rfl, rfl, rfl, Nat.le_refl _, fun _ _ => rfl⟩ ?_
     simp only [List.take_succ_cons, List.take_zero, List.drop_succ_cons, List.drop_zero]
     iterate 8
      first
      | apply Gr.sn; focus (go_simp; intro w' hw'; go_simp; rw [Gr.grown_value]; done)
      | apply Gr.sn; focus (go_simp; intro w' hw'; have p0 := (HBr.out.below hw').cell 0 rfl; go_simp; rw [Gr.grown_value]; done)
      | apply Gr.sn; focus (go_simp; intro w' hw'; have lg := Nat.lt_of_lt_of_le hgl hw'.size; have r0 := (hw'.cell hgl).trans r0; have r1 := (hw'.cell hgl).trans r1; have r2 := (hw'.cell hgl).trans r2; go_simp; rw [Gr.grown_value]; done)
      | apply Gr.sn; focus (go_simp; intro w' hw'; have lg := Nat.lt_of_lt_of_le hgl hw'.size; have s0 := (hw'.cell hgl).trans s0; have s1 := (hw'.cell hgl).trans s1; have s2 := (hw'.cell hgl).trans s2; go_simp; rw [Gr.grown_value]; done)
      intro K hK; go_simp; refine hK _ ?_; clear hK K
     refine Gr.sn (.int .i64 t) (by go_simp; intro w' hw'; go_simp; rw [Gr.grown_enter]; exact Ret.fam (HT.out w') hw') fun K hK => ?_; go_simp; refine hK _ ?_; clear hK K
     refine Gr.sn (.agg #[.int .i64 q0, .int .i64 q1, .string ⟨q2.toArray⟩]) (by go_simp; intro w' hw'; go_simp; rw [Gr.grown_enter]; exact Ret.fam (HF.out w') hw') fun K hK => ?_; go_simp; refine hK _ ?_; clear hK K
     refine Gr.line_nil fun w6 hw6 => ?_
     have HD := h_ (HCr.out.below hw6)
     have HX := t_ HWr hw6
     clear hw6
     obtain ⟨r0, r1, r2, f0, f1, f2⟩ := HD.out.f3
     go_wp2_with fail
     refine name_set3W (K := fun w' => bodyPost _ _ _ _ _ w') HD.out fun w9 hM => ?_
     exact bodyPost_ret (results_cell_row Tryz.results41 _ _ (w.heap.size + 1) _ _ (0, 0) _ rfl hM.blk Tryz.underlying29 rfl (by kernel_rfl)) rfl ⟨by rw [HQ.out]; rfl, HX.out.trans (hM.low.mono (by first | exact Nat.le_refl _ | omega))⟩
    ·have HOP := h_ ho
     clear ho
     have hLn : L.length = 2 := by
      have := HCN2.out
      clear HNN HXR
      have ho := HOP.out
      have e : arity op = (2, 2) := by (subst ho; exact rfl)
      rw [e] at this; simp at this; omega
     obtain rfl := HOP.out
     obtain ⟨x, y, rfl⟩ := vlen2 hLn
     have HQ : Hid (q = ofT (compT 12 x y)) := h_ (by rw [HNN.out]; rfl)
     have HT := h_ fun w' => pcomp_call 12 x y w' (by decide)
     have HF := h_ fun w' => pof_call (compT 12 x y) w' (compT_tv 12 x y)
     generalize compT 12 x y = t at HQ HT HF
     generalize ofT t = qq at HQ HF
     obtain ⟨g, o, eg, hgl, r0, r1, r2⟩ := HV.out.head
     obtain ⟨rfl, rfl⟩ : w2.heap.size = g /\ 0 = o := by injection eg with e1; injection e1 with e1 e2; exact ⟨e1, e2⟩
     obtain ⟨g', o', e', hgl', s0, s1, s2⟩ := HV.out.tail.head
     obtain ⟨rfl, rfl⟩ : w2.heap.size = g' /\ 3 = o' := by injection e' with e1; injection e1 with e1 e2; exact ⟨e1, by omega⟩
     simp only [Nat.zero_add, Nat.reduceAdd] at r1 r2 s1 s2
     clear e' hgl' eg
     obtain ⟨x0, x1, x2⟩ := x
     obtain ⟨y0, y1, y2⟩ := y
     obtain ⟨q0, q1, q2⟩ := qq
     unfold vV at HT HF
     simp only at HT HF r0 r1 r2 s0 s1 s2
     clear d1 n1 n2 n22 hbb HE0 HEL HOK HIH HXR HL ll hml hlen hll HNN HCN2 hLn
     go_upto_region 45 with (fail)
     refine Gr.region_grow 10 (by kernel_rfl) (by kernel_rfl) (fun w' => Below wr.heap.size wr w') ⟨rfl, rfl, rfl, Nat.le_refl _, fun _ _ => rfl⟩ ?_
     simp only [List.take_succ_cons, List.take_zero, List.drop_succ_cons, List.drop_zero]
     iterate 8
      first
      | apply Gr.sn; focus (go_simp; intro w' hw'; go_simp; rw [Gr.grown_value]; done)
      | apply Gr.sn; focus (go_simp; intro w' hw'; have p0 := (HBr.out.below hw').cell 0 rfl; go_simp; rw [Gr.grown_value]; done)
      | apply Gr.sn; focus (go_simp; intro w' hw'; have lg := Nat.lt_of_lt_of_le hgl hw'.size; have r0 := (hw'.cell hgl).trans r0; have r1 := (hw'.cell hgl).trans r1; have r2 := (hw'.cell hgl).trans r2; go_simp; rw [Gr.grown_value]; done)
      | apply Gr.sn; focus (go_simp; intro w' hw'; have lg := Nat.lt_of_lt_of_le hgl hw'.size; have s0 := (hw'.cell hgl).trans s0; have s1 := (hw'.cell hgl).trans s1; have s2 := (hw'.cell hgl).trans s2; go_simp; rw [Gr.grown_value]; done)
      intro K hK; go_simp; refine hK _ ?_; clear hK K
     refine Gr.sn (.int .i64 t) (by go_simp; intro w' hw'; go_simp; rw [Gr.grown_enter]; exact Ret.fam (HT.out w') hw') fun K hK => ?_; go_simp; refine hK _ ?_; clear hK K
     refine Gr.sn (.agg #[.int .i64 q0, .int .i64 q1, .string ⟨q2.toArray⟩]) (by go_simp; intro w' hw'; go_simp; rw [Gr.grown_enter]; exact Ret.fam (HF.out w') hw') fun K hK => ?_; go_simp; refine hK _ ?_; clear hK K
     refine Gr.line_nil fun w6 hw6 => ?_
     have HD := h_ (HCr.out.below hw6)
     have HX := t_ HWr hw6
     clear hw6
     obtain ⟨r0, r1, r2, f0, f1, f2⟩ := HD.out.f3
     go_wp2_with fail
     refine name_set3W (K := fun w' => bodyPost _ _ _ _ _ w') HD.out fun w9 hM => ?_
     exact bodyPost_ret (results_cell_row Tryz.results41 _ _ (w.heap.size + 1) _ _ (0, 0) _ rfl hM.blk Tryz.underlying29 rfl (by kernel_rfl)) rfl ⟨by rw [HQ.out]; rfl, HX.out.trans (hM.low.mono (by first | exact Nat.le_refl _ | omega))⟩
    ·have HOP := h_ ho
     clear ho
     have hLn : L.length = 2 := by
      have := HCN2.out
      clear HNN HXR
      have ho := HOP.out
      have e : arity op = (2, 2) := by (subst ho; exact rfl)
      rw [e] at this; simp at this; omega
     obtain rfl := HOP.out
     have HQ : Hid (q = arithL 13 L) := h_ (by rw [HNN.out]; rfl)
     have HP := h_ (parith_call 13 L (some ⟨w2.heap.size, 0, none⟩) L.length wr HV.out (by decide) (by omega) (by omega) HOK.out)
     clear d1 n1 n2 n22 hbb HE0 HEL HOK HIH HXR HL ll hml hlen hll HNN HCN2 hLn
     go_wp2_with fail
     refine (HP.out).mono ?_
     rintro e w8 ⟨rfl, hw8⟩
     have HD := h_ (HCr.out.below hw8)
     have HX := t_ HWr hw8
     clear hw8
     generalize arithL 13 L = qq at HQ |-
     obtain ⟨q0, q1, q2⟩ := qq
     unfold vV
     simp only
     obtain ⟨r0, r1, r2, f0, f1, f2⟩ := HD.out.f3
     go_wp2_with fail
     refine name_set3W (K := fun w' => bodyPost _ _ _ _ _ w') HD.out fun w9 hM => ?_
     exact bodyPost_ret (results_cell_row Tryz.results41 _ _ (w.heap.size + 1) _ _ (0, 0) _ rfl hM.blk Tryz.underlying29 rfl (by kernel_rfl)) rfl ⟨by rw [HQ.out]; rfl, HX.out.trans (hM.low.mono (by first | exact Nat.le_refl _ | omega))⟩
    ·have HOP := h_ ho
     clear ho
     have hLn : L.length = 2 := by
      have := HCN2.out
      clear HNN HXR
      have ho := HOP.out
      have e : arity op = (2, 2) := by (subst ho; exact rfl)
      rw [e] at this; simp at this; omega
     obtain rfl := HOP.out
     have HQ : Hid (q = arithL 14 L) := h_ (by rw [HNN.out]; rfl)
     have HP := h_ (parith_call 14 L (some ⟨w2.heap.size, 0, none⟩) L.length wr HV.out (by decide) (by omega) (by omega) HOK.out)
     clear d1 n1 n2 n22 hbb HE0 HEL HOK HIH HXR HL ll hml hlen hll HNN HCN2 hLn
     go_wp2_with fail
     refine (HP.out).mono ?_
     rintro e w8 ⟨rfl, hw8⟩
     have HD := h_ (HCr.out.below hw8)
     have HX := t_ HWr hw8
     clear hw8
     generalize arithL 14 L = qq at HQ |-
     obtain ⟨q0, q1, q2⟩ := qq
     unfold vV
     simp only
     obtain ⟨r0, r1, r2, f0, f1, f2⟩ := HD.out.f3
     go_wp2_with fail
     refine name_set3W (K := fun w' => bodyPost _ _ _ _ _ w') HD.out fun w9 hM => ?_
     exact bodyPost_ret (results_cell_row Tryz.results41 _ _ (w.heap.size + 1) _ _ (0, 0) _ rfl hM.blk Tryz.underlying29 rfl (by kernel_rfl)) rfl ⟨by rw [HQ.out]; rfl, HX.out.trans (hM.low.mono (by first | exact Nat.le_refl _ | omega))⟩
    ·have HOP := h_ ho
     clear ho
     have hLn : L.length = 2 := by
      have := HCN2.out
      clear HNN HXR
      have ho := HOP.out
      have e : arity op = (2, 2) := by (subst ho; exact rfl)
      rw [e] at this; simp at this; omega
     obtain rfl := HOP.out
     have HQ : Hid (q = arithL 15 L) := h_ (by rw [HNN.out]; rfl)
     have HP := h_ (parith_call 15 L (some ⟨w2.heap.size, 0, none⟩) L.length wr HV.out (by decide) (by omega) (by omega) HOK.out)
     clear d1 n1 n2 n22 hbb HE0 HEL HOK HIH HXR HL ll hml hlen hll HNN HCN2 hLn
     go_wp2_with fail
     refine (HP.out).mono ?_
     rintro e w8 ⟨rfl, hw8⟩
     have HD := h_ (HCr.out.below hw8)
     have HX := t_ HWr hw8
     clear hw8
     generalize arithL 15 L = qq at HQ |-
     obtain ⟨q0, q1, q2⟩ := qq
     unfold vV
     simp only
     obtain ⟨r0, r1, r2, f0, f1, f2⟩ := HD.out.f3
     go_wp2_with fail
     refine name_set3W (K := fun w' => bodyPost _ _ _ _ _ w') HD.out fun w9 hM => ?_
     exact bodyPost_ret (results_cell_row Tryz.results41 _ _ (w.heap.size + 1) _ _ (0, 0) _ rfl hM.blk Tryz.underlying29 rfl (by kernel_rfl)) rfl ⟨by rw [HQ.out]; rfl, HX.out.trans (hM.low.mono (by first | exact Nat.le_refl _ | omega))⟩
    ·have HOP := h_ ho
     clear ho
     have hLn : L.length = 2 := by
      have := HCN2.out
      clear HNN HXR
      have ho := HOP.out
      have e : arity op = (2, 2) := by (subst ho; exact rfl)
      rw [e] at this; simp at this; omega
     obtain rfl := HOP.out
     have HQ : Hid (q = arithL 16 L) := h_ (by rw [HNN.out]; rfl)
     have HP := h_ (parith_call 16 L (some ⟨w2.heap.size, 0, none⟩) L.length wr HV.out (by decide) (by omega) (by omega) HOK.out)
     clear d1 n1 n2 n22 hbb HE0 HEL HOK HIH HXR HL ll hml hlen hll HNN HCN2 hLn
     go_wp2_with fail
     refine (HP.out).mono ?_
     rintro e w8 ⟨rfl, hw8⟩
     have HD := h_ (HCr.out.below hw8)
     have HX := t_ HWr hw8
     clear hw8
     generalize arithL 16 L = qq at HQ |-
     obtain ⟨q0, q1, q2⟩ := qq
     unfold vV
     simp only
     obtain ⟨r0, r1, r2, f0, f1, f2⟩ := HD.out.f3
     go_wp2_with fail
     refine name_set3W (K := fun w' => bodyPost _ _ _ _ _ w') HD.out fun w9 hM => ?_
     exact bodyPost_ret (results_cell_row Tryz.results41 _ _ (w.heap.size + 1) _ _ (0, 0) _ rfl hM.blk Tryz.underlying29 rfl (by kernel_rfl)) rfl ⟨by rw [HQ.out]; rfl, HX.out.trans (hM.low.mono (by first | exact Nat.le_refl _ | omega))⟩
    ·have HOP := h_ ho
     clear ho
     have hLn : L.length = 2 := by
      have := HCN2.out
      clear HNN HXR
      have ho := HOP.out
      have e : arity op = (2, 2) := by (subst ho; exact rfl)
      rw [e] at this; simp at this; omega
     obtain rfl := HOP.out
     have HQ : Hid (q = arithL 17 L) := h_ (by rw [HNN.out]; rfl)
     have HP := h_ (parith_call 17 L (some ⟨w2.heap.size, 0, none⟩) L.length wr HV.out (by decide) (by omega) (by omega) HOK.out)
     clear d1 n1 n2 n22 hbb HE0 HEL HOK HIH HXR HL ll hml hlen hll HNN HCN2 hLn
     go_wp2_with fail
     refine (HP.out).mono ?_
     rintro e w8 ⟨rfl, hw8⟩
     have HD := h_ (HCr.out.below hw8)
     have HX := t_ HWr hw8
     clear hw8
     generalize arithL 17 L = qq at HQ |-
     obtain ⟨q0, q1, q2⟩ := qq
     unfold vV
     simp only
     obtain ⟨r0, r1, r2, f0, f1, f2⟩ := HD.out.f3
     go_wp2_with fail
     refine name_set3W (K := fun w' => bodyPost _ _ _ _ _ w') HD.out fun w9 hM => ?_
     exact bodyPost_ret (results_cell_row Tryz.results41 _ _ (w.heap.size + 1) _ _ (0, 0) _ rfl hM.blk Tryz.underlying29 rfl (by kernel_rfl)) rfl ⟨by rw [HQ.out]; rfl, HX.out.trans (hM.low.mono (by first | exact Nat.le_refl _ | omega))⟩
    ·have HOP := h_ ho
     clear ho
     have hLn : L.length = 1 := by
      have := HCN2.out
      clear HNN HXR
      have ho := HOP.out
      have e : arity op = (1, 1) := by (subst ho; exact rfl)
      rw [e] at this; simp at this; omega
     obtain rfl := HOP.out
     have HQ : Hid (q = arithL 18 L) := h_ (by rw [HNN.out]; rfl)
     have HP := h_ (parith_call 18 L (some ⟨w2.heap.size, 0, none⟩) L.length wr HV.out (by decide) (by omega) (by omega) HOK.out)
     clear d1 n1 n2 n22 hbb HE0 HEL HOK HIH HXR HL ll hml hlen hll HNN HCN2 hLn
     go_wp2_with fail
     refine (HP.out).mono ?_
     rintro e w8 ⟨rfl, hw8⟩
     have HD := h_ (HCr.out.below hw8)
     have HX := t_ HWr hw8
     clear hw8
     generalize arithL 18 L = qq at HQ |-
     obtain ⟨q0, q1, q2⟩ := qq
     unfold vV
     simp only
     obtain ⟨r0, r1, r2, f0, f1, f2⟩ := HD.out.f3
     go_wp2_with fail
     refine name_set3W (K := fun w' => bodyPost _ _ _ _ _ w') HD.out fun w9 hM => ?_
     exact bodyPost_ret (results_cell_row Tryz.results41 _ _ (w.heap.size + 1) _ _ (0, 0) _ rfl hM.blk Tryz.underlying29 rfl (by kernel_rfl)) rfl ⟨by rw [HQ.out]; rfl, HX.out.trans (hM.low.mono (by first | exact Nat.le_refl _ | omega))⟩
    ·have HOP := h_ ho
     clear ho
     have hLn : L.length = 2 := by
      have := HCN2.out
      clear HNN HXR
      have ho := HOP.out
      have e : arity op = (2, 2) := by (subst ho; exact rfl)
      rw [e] at this; simp at this; omega
     obtain rfl := HOP.out
     have HQ : Hid (q = textV 19 L) := h_ (by rw [HNN.out]; rfl)
     have HP := h_ (ptext2_call 19 L (some ⟨w2.heap.size, 0, none⟩) L.length wr HV.out (by decide) (by omega) HOK.out)
     clear d1 n1 n2 n22 hbb HE0 HEL HOK HIH HXR HL ll hml hlen hll HNN HCN2 hLn
     go_wp2_with fail
     refine (HP.out).mono ?_
     rintro e w8 ⟨rfl, hw8⟩
     have HD := h_ (HCr.out.below hw8)
     have HX := t_ HWr hw8
     clear hw8
     generalize textV 19 L = qq at HQ |-
     obtain ⟨q0, q1, q2⟩ := qq
     unfold vV
     simp only
     obtain ⟨r0, r1, r2, f0, f1, f2⟩ := HD.out.f3
     go_wp2_with fail
     refine name_set3W (K := fun w' => bodyPost _ _ _ _ _ w') HD.out fun w9 hM => ?_
     exact bodyPost_ret (results_cell_row Tryz.results41 _ _ (w.heap.size + 1) _ _ (0, 0) _ rfl hM.blk Tryz.underlying29 rfl (by kernel_rfl)) rfl ⟨by rw [HQ.out]; rfl, HX.out.trans (hM.low.mono (by first | exact Nat.le_refl _ | omega))⟩
    ·have HOP := h_ ho
     clear ho
     have hLn : L.length = 1 := by
      have := HCN2.out
      clear HNN HXR
      have ho := HOP.out
      have e : arity op = (1, 1) := by (subst ho; exact rfl)
      rw [e] at this; simp at this; omega
     obtain rfl := HOP.out
     have HQ : Hid (q = textV 20 L) := h_ (by rw [HNN.out]; rfl)
     have HP := h_ (ptext2_call 20 L (some ⟨w2.heap.size, 0, none⟩) L.length wr HV.out (by decide) (by omega) HOK.out)
     clear d1 n1 n2 n22 hbb HE0 HEL HOK HIH HXR HL ll hml hlen hll HNN HCN2 hLn
     go_wp2_with fail
     refine (HP.out).mono ?_
     rintro e w8 ⟨rfl, hw8⟩
     have HD := h_ (HCr.out.below hw8)
     have HX := t_ HWr hw8
     clear hw8
     generalize textV 20 L = qq at HQ |-
     obtain ⟨q0, q1, q2⟩ := qq
     unfold vV
     simp only
     obtain ⟨r0, r1, r2, f0, f1, f2⟩ := HD.out.f3
     go_wp2_with fail
     refine name_set3W (K := fun w' => bodyPost _ _ _ _ _ w') HD.out fun w9 hM => ?_
     exact bodyPost_ret (results_cell_row Tryz.results41 _ _ (w.heap.size + 1) _ _ (0, 0) _ rfl hM.blk Tryz.underlying29 rfl (by kernel_rfl)) rfl ⟨by rw [HQ.out]; rfl, HX.out.trans (hM.low.mono (by first | exact Nat.le_refl _ | omega))⟩
    ·have HOP := h_ ho
     clear ho
     have hLn : L.length = 1 := by
      have := HCN2.out
      clear HNN HXR
      have ho := HOP.out
      have e : arity op = (1, 1) := by (subst ho; exact rfl)
      rw [e] at this; simp at this; omega
     obtain rfl := HOP.out
     obtain ⟨x, rfl⟩ := vlen1 hLn
     have HQ : Hid (q = bV (x.k == 0)) := h_ (by rw [HNN.out]; rfl)
     obtain ⟨g, o, eg, hgl, r0, r1, r2⟩ := HV.out.head
     obtain ⟨rfl, rfl⟩ : w2.heap.size = g /\ 0 = o := by injection eg with e1; injection e1 with e1 e2; exact ⟨e1, e2⟩
     simp only [Nat.zero_add] at r1 r2
     clear eg
     generalize x.k = xk at HQ r0
     have HP := h_ (pbool_call (xk == 0) wr)
     clear d1 n1 n2 n22 hbb HE0 HEL HOK HIH HXR HL ll hml hlen hll HNN HCN2 hLn
     go_wp2_with fail
     refine (HP.out).mono ?_
     rintro e w8 ⟨rfl, hw8⟩
     have HD := h_ (HCr.out.below hw8)
     have HX := t_ HWr hw8
     clear hw8
     generalize bV (xk == 0) = qq at HQ |-
     obtain ⟨q0, q1, q2⟩ := qq
     unfold vV
     simp only
     obtain ⟨r0, r1, r2, f0, f1, f2⟩ := HD.out.f3
     go_wp2_with fail
     refine name_set3W (K := fun w' => bodyPost _ _ _ _ _ w') HD.out fun w9 hM => ?_
     exact bodyPost_ret (results_cell_row Tryz.results41 _ _ (w.heap.size + 1) _ _ (0, 0) _ rfl hM.blk Tryz.underlying29 rfl (by kernel_rfl)) rfl ⟨by rw [HQ.out]; rfl, HX.out.trans (hM.low.mono (by first | exact Nat.le_refl _ | omega))⟩
    ·have HOP := h_ ho
     clear ho
     obtain rfl := HOP.out
     have HN : Hid (coalV L = q) := h_ (by rw [HNN.out]; rfl)
     clear d1 n1 n2 n22 hbb HE0 HEL HOK HIH HXR HL hml hlen hll HNN HCN2
     go_upto_region 27 with (fail)
     clear p0
     obtain ⟨wo, ewo⟩ : ∃ wo, wo = wr := ⟨_, rfl⟩
     subst ewo
     go_loopw [88] (fun i wq => (∃ k : Nat, k <= L.length /\ i = .int .i64 (k : Int) /\ Hid (coalV L = coalV (L.drop k))) /\ Below wo.heap.size wo wq) (fun i _ => L.length - (intOf i).toNat)
     case atStart => exact ⟨⟨0, Nat.zero_le _, rfl, h_ rfl⟩, Below.refl _ _⟩
     case round =>
      obtain ⟨⟨k, hk, rfl, HK⟩, hb⟩ := hrel
      have HVq := h_ (HV.out.below hb)
      have HCq := h_ (HCr.out.below hb)
      have HWq := t_ HWr hb
      have HBq := h_ hb
      clear hb
      by_cases hlt : k < L.length
      ·obtain ⟨g, o, eg, hgl, r0, r1, r2⟩ := HVq.out.at_ hlt
       obtain ⟨rfl, rfl⟩ : w2.heap.size = g /\ 0 = o := by injection eg with e1; injection e1 with e1 e2; exact ⟨e1, e2⟩
       simp only [Nat.zero_add] at r0 r1 r2
       have c2 : (k : Int) < (L.length : Int) := by omega
       have c3 : (0 : Int) <= (k : Int) := by omega
       have d1 : decide ((k : Int) < (L.length : Int)) = true := decide_eq_true c2
       by_cases he : L[k].k = 0
       ·have HS := h_ (coal_skip hlt HK.out he)
        generalize L[k] = u at he r0 r1 r2
        obtain ⟨uk, ui, ut⟩ := u
        simp only at he r0 r1 r2
        subst he
        clear HVq eg
        go_wp2_with fail
        go_roundw
        case rel => exact ⟨⟨k + 1, by omega, by go_num, HS⟩, HBq.out.trans ((below1 _ _).mono HBq.out.size)⟩
        case measure => simp [intOf]; omega
       ·have HQ : Hid (q = L[k]) := h_ (by rw [<- HN.out, coal_hit hlt HK.out he])
        have e1 : (L[k].k != 0) = true := by simp [he]
        generalize L[k] = u at e1 r0 r1 r2 HQ
        obtain ⟨uk, ui, ut⟩ := u
        simp only at e1 r0 r1 r2
        clear he HVq eg
        have HC5 := h_ (HCq.out.below (below1 wr (.cells ([.int .i64 uk, .int .i64 ui, .string ⟨ut.toArray⟩] : List Value).toArray 29)))
        have HW5 := h_ (HWq.out.trans ((below1 wr (.cells ([.int .i64 uk, .int .i64 ui, .string ⟨ut.toArray⟩] : List Value).toArray 29)).mono HWq.out.size))
        obtain ⟨x0, x1, x2, f0, f1, f2⟩ := HC5.out.f3
        go_wp2_with fail
        refine name_set3W (K := fun w' => bodyPost _ _ _ _ _ w') HC5.out fun w9 hM => ?_
        exact bodyPost_ret (results_cell_row Tryz.results41 _ _ (w.heap.size + 1) _ _ (0, 0) _ rfl hM.blk Tryz.underlying29 rfl (by kernel_rfl)) rfl ⟨by rw [HQ.out]; rfl, HW5.out.trans (hM.low.mono (by first | exact Nat.le_refl _ | omega))⟩
      ·obtain rfl : k = L.length := by omega
       have d1 : decide ((L.length : Int) < (L.length : Int)) = false := decide_eq_false (by omega)
       have HQ : Hid (q = zV) := h_ (by rw [<- HN.out, HK.out, List.drop_length]; rfl)
       clear HVq
       go_wp2_with fail
       refine (HZ.out _).mono ?_
       rintro e w8 ⟨rfl, hw8⟩
       have HD := h_ (HCq.out.below hw8)
       have HX := t_ HWq hw8
       clear hw8
       generalize zV = qq at HQ |-
       obtain ⟨q0, q1, q2⟩ := qq
       unfold vV
       simp only
       obtain ⟨r0, r1, r2, f0, f1, f2⟩ := HD.out.f3
       go_wp2_with fail
       refine name_set3W (K := fun w' => bodyPost _ _ _ _ _ w') HD.out fun w9 hM => ?_
       exact bodyPost_ret (results_cell_row Tryz.results41 _ _ (w.heap.size + 1) _ _ (0, 0) _ rfl hM.blk Tryz.underlying29 rfl (by kernel_rfl)) rfl ⟨by rw [HQ.out]; rfl, HX.out.trans (hM.low.mono (by first | exact Nat.le_refl _ | omega))⟩

end Go.Proofs.YtnlimlboedohgaaGreatDoor.Px

