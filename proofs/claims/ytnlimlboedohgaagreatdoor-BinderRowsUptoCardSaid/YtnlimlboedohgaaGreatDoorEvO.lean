import Derived.Test.YtnlimlboedohgaaGreatDoorEvN
import Derived.Test.YtnlimlboedohgaaGreatDoorBnC
/-
  The program's Eval on plain expressions. (Printed by gen_evq.py.)
-/
set_option maxHeartbeats 8000000
set_option maxRecDepth 100000
namespace Go.Proofs.YtnlimlboedohgaaGreatDoor.Px
open Go Go.RowKit Go.Proofs.YtnlimlboedohgaaGreatDoor.Ps
set_option linter.unusedVariables false
set_option linter.unusedSimpArgs false
theorem petruth_call (op int vk vi : Int) (vs nm : S) (sl : Value) (row : Value) (v : V) (w : World) (hi : ∀ w', Below w.heap.size w w' -> Calls Tryz.prog 41 #[.agg #[.int .i64 op, .int .i64 int, .int .i64 vk, .int .i64 vi, .string ⟨vs.toArray⟩, .string ⟨nm.toArray⟩, sl], row] w' (Ret w' (vV v))) : Calls Tryz.prog 75 #[.agg #[.int .i64 op, .int .i64 int, .int .i64 vk, .int .i64 vi, .string ⟨vs.toArray⟩, .string ⟨nm.toArray⟩, sl], row] w (Ret w (.int .i64 (truthV v))) := by
 have HI := h_ hi
 have HT := h_ fun w' => ptruth_call v w'
 clear hi
 go_enter Tryz.func75, Tryz.ntmps75
 go_upto_region 1 with (fail)
 refine nA fun w1 hA hw1 hz1 => ?_
 have HW := h_ hw1
 obtain ⟨p0, p1, p2, p3, p4, p5, p6⟩ := hA.c7
 clear hA hw1 hz1
 go_wp2_with fail
 refine (HI.out w1 HW.out).mono ?_
 rintro e w2 ⟨rfl, hw2⟩
 have HW2 := t_ HW hw2
 clear hw2 HW p0 p1 p2 p3 p4 p5 p6
 go_wp2_with fail
 refine (HT.out w2).mono ?_
 rintro e w3 ⟨rfl, hw3⟩
 have HW3 := t_ HW2 hw3
 clear hw3
 go_wp2_with fail
 go_ret
 exact ⟨rfl, HW3.out⟩
theorem peval1 (op int vk vi : Int) (vs nm : S) (l : List X) (cs : List Value) (row : Value) (w : World) (hop : op = 1) (hN : nodes (.mk op int vk vi vs nm l) <= 1000000) (hvs : vs.length < 4294967281) (h : XR w (.mk op int vk vi vs nm l) cs) (hi : HIT l 41 row w) : Calls Tryz.prog 41 #[.agg cs.toArray, row] w (Ret w (vV (evalX (.mk op int vk vi vs nm l)))) := by
 obtain ⟨ix, hix, hx0', hx1, hx2⟩ := info_parts infoValue
 have hx0 : ix.zero = some (.agg #[.int .i64 0, .int .i64 0, .string ⟨#[]⟩]) := hx0'
 clear hx0'
 obtain ⟨a, m, rfl, hl, _, _, hlen⟩ := h.lits
 have hkn : ¬ (arity op).1 < 0 := by subst hop <;> decide
 have hll : l.length <= 1000000 := by rw [nodes] at hN; have := nodesL_len l; omega
 have HFM := h_ fun w' (hw' : Below w.heap.size w w') => eformed_call op int vk vi vs nm l _ w' hkn (by omega) (by omega) (h.kept hw' (Nat.le_refl _))
 have HWC : Hid (wellB op int vk vi vs nm l.length = true -> (arity op).1 <= (l.length : Int) /\ (l.length : Int) <= (arity op).2) := h_ well_cnt
 have HL := h_ hl
 have HXR := h_ h
 have HIH := h_ hi
 have HOK := h_ (evalXs_ok l)
 have HEL := h_ (evalXs_len l)
 have HN : Hid (evalX (.mk op int vk vi vs nm l) = if wellB op int vk vi vs nm l.length then opV op ⟨vk, vi, vs⟩ (evalXs l) else zV) := h_ (by rw [evalX])
 generalize evalX (.mk op int vk vi vs nm l) = q at HN |-
 generalize wellB op int vk vi vs nm l.length = wb at HFM HN HWC
 have HOP := h_ hop
 have HZ := h_ pnull_call
 clear h hl hi hN hop hkn hvs
 go_enter Tryz.func41, Tryz.ntmps41
 go_upto_region 1 with (fail)
 refine nB fun w1 hA hB hw1 hz1 => ?_
 have HA := h_ hA
 have HC := h_ hB
 have HW := h_ hw1
 obtain ⟨p0, p1, p2, p3, p4, p5, p6⟩ := hA.c7
 clear hA hB hw1 hz1
 go_wp2_with fail
 refine (HFM.out w1 HW.out).mono ?_
 rintro e w2 ⟨rfl, hw2⟩
 have HA2 := h_ (HA.out.below hw2)
 have HC2 := h_ (HC.out.below hw2)
 have HW2 := t_ HW hw2
 clear p0 p1 p2 p3 p4 p5 p6 hw2 HA HC HW HFM
 cases wb with
 | false =>
  have HQ : Hid (q = zV) := HN
  go_wp2_with fail
  refine (HZ.out w2).mono ?_
  rintro e w8 ⟨rfl, hw8⟩
  have HD := h_ (HC2.out.below hw8)
  have HX := t_ HW2 hw8
  clear hw8
  generalize zV = qq at HQ |-
  obtain ⟨q0, q1, q2⟩ := qq
  unfold vV
  simp only
  obtain ⟨r0, r1, r2, f0, f1, f2⟩ := HD.out.f3
  go_wp2_with fail
  refine name_set3W (K := fun w' => bodyPost _ _ _ _ _ w') HD.out fun w9 hM => ?_
  exact bodyPost_ret (results_cell_row Tryz.results41 _ _ (w.heap.size + 1) _ _ (0, 0) _ rfl hM.blk Tryz.underlying29 rfl (by kernel_rfl)) rfl ⟨by rw [HQ.out]; rfl, HX.out.trans (hM.low.mono (by first | exact Nat.le_refl _ | omega))⟩
 | true =>
  have HNN : Hid (q = opV op ⟨vk, vi, vs⟩ (evalXs l)) := HN
  have HCN := h_ (HWC.out rfl)
  clear HN HWC
  have p0 := HA2.out.cell 0 rfl
  obtain rfl := HOP.out
  have HQ : Hid (q = ⟨vk, vi, vs⟩) := h_ (by rw [HNN.out]; rfl)
  have p2 := HA2.out.cell 2 rfl
  have p3 := HA2.out.cell 3 rfl
  have p4 := HA2.out.cell 4 rfl
  clear HNN HCN HEL HOK HIH HXR HL hlen hll
  obtain ⟨x0, x1, x2, f0, f1, f2⟩ := HC2.out.f3
  go_wp2_with fail
  refine name_set3W (K := fun w' => bodyPost _ _ _ _ _ w') HC2.out fun w9 hM => ?_
  exact bodyPost_ret (results_cell_row Tryz.results41 _ _ (w.heap.size + 1) _ _ (0, 0) _ rfl hM.blk Tryz.underlying29 rfl (by kernel_rfl)) rfl ⟨by rw [HQ.out]; rfl, HW2.out.trans (hM.low.mono (by first | exact Nat.le_refl _ | omega))⟩
theorem peval22 (op int vk vi : Int) (vs nm : S) (l : List X) (cs : List Value) (row : Value) (w : World) (hop : op = 22) (hN : nodes (.mk op int vk vi vs nm l) <= 1000000) (hvs : vs.length < 4294967281) (h : XR w (.mk op int vk vi vs nm l) cs) (hi : HIT l 41 row w) : Calls Tryz.prog 41 #[.agg cs.toArray, row] w (Ret w (vV (evalX (.mk op int vk vi vs nm l)))) := by
 obtain ⟨ix, hix, hx0', hx1, hx2⟩ := info_parts infoValue
 have hx0 : ix.zero = some (.agg #[.int .i64 0, .int .i64 0, .string ⟨#[]⟩]) := hx0'
 clear hx0'
 obtain ⟨a, m, rfl, hl, _, _, hlen⟩ := h.lits
 have hkn : ¬ (arity op).1 < 0 := by subst hop <;> decide
 have hll : l.length <= 1000000 := by rw [nodes] at hN; have := nodesL_len l; omega
 have HFM := h_ fun w' (hw' : Below w.heap.size w w') => eformed_call op int vk vi vs nm l _ w' hkn (by omega) (by omega) (h.kept hw' (Nat.le_refl _))
 have HWC : Hid (wellB op int vk vi vs nm l.length = true -> (arity op).1 <= (l.length : Int) /\ (l.length : Int) <= (arity op).2) := h_ well_cnt
 have HL := h_ hl
 have HXR := h_ h
 have HIH := h_ hi
 have HOK := h_ (evalXs_ok l)
 have HEL := h_ (evalXs_len l)
 have HN : Hid (evalX (.mk op int vk vi vs nm l) = if wellB op int vk vi vs nm l.length then opV op ⟨vk, vi, vs⟩ (evalXs l) else zV) := h_ (by rw [evalX])
 generalize evalX (.mk op int vk vi vs nm l) = q at HN |-
 generalize wellB op int vk vi vs nm l.length = wb at HFM HN HWC
 have HOP := h_ hop
 have HZ := h_ pnull_call
 clear h hl hi hN hop hkn hvs
 go_enter Tryz.func41, Tryz.ntmps41
 go_upto_region 1 with (fail)
 refine nB fun w1 hA hB hw1 hz1 => ?_
 have HA := h_ hA
 have HC := h_ hB
 have HW := h_ hw1
 obtain ⟨p0, p1, p2, p3, p4, p5, p6⟩ := hA.c7
 clear hA hB hw1 hz1
 go_wp2_with fail
 refine (HFM.out w1 HW.out).mono ?_
 rintro e w2 ⟨rfl, hw2⟩
 have HA2 := h_ (HA.out.below hw2)
 have HC2 := h_ (HC.out.below hw2)
 have HW2 := t_ HW hw2
 clear p0 p1 p2 p3 p4 p5 p6 hw2 HA HC HW HFM
 cases wb with
 | false =>
  have HQ : Hid (q = zV) := HN
  go_wp2_with fail
  refine (HZ.out w2).mono ?_
  rintro e w8 ⟨rfl, hw8⟩
  have HD := h_ (HC2.out.below hw8)
  have HX := t_ HW2 hw8
  clear hw8
  generalize zV = qq at HQ |-
  obtain ⟨q0, q1, q2⟩ := qq
  unfold vV
  simp only
  obtain ⟨r0, r1, r2, f0, f1, f2⟩ := HD.out.f3
  go_wp2_with fail
  refine name_set3W (K := fun w' => bodyPost _ _ _ _ _ w') HD.out fun w9 hM => ?_
  exact bodyPost_ret (results_cell_row Tryz.results41 _ _ (w.heap.size + 1) _ _ (0, 0) _ rfl hM.blk Tryz.underlying29 rfl (by kernel_rfl)) rfl ⟨by rw [HQ.out]; rfl, HX.out.trans (hM.low.mono (by first | exact Nat.le_refl _ | omega))⟩
 | true =>
  have HNN : Hid (q = opV op ⟨vk, vi, vs⟩ (evalXs l)) := HN
  have HCN := h_ (HWC.out rfl)
  clear HN HWC
  have p0 := HA2.out.cell 0 rfl
  obtain rfl := HOP.out
  have hLn : l.length = 3 := by have := HCN.out; simp [arity] at this; omega
  obtain ⟨x0, x1, x2, rfl⟩ : ∃ x0 x1 x2, l = [x0, x1, x2] := by match l, hLn with | [x0, x1, x2], _ => exact ⟨x0, x1, x2, rfl⟩
  have HQ : Hid (q = if truthV (evalX x0) = 2 then evalX x1 else evalX x2) := h_ (by rw [HNN.out]; rfl)
  simp only [List.length_cons, List.length_nil, Nat.zero_add, Nat.reduceAdd] at HL HA2 |-
  have p6 := HA2.out.cell 6 rfl
  obtain ⟨g0, o0, us0, eq0, hec0, hkx0, hrx0⟩ := HL.out.ec (k := 0) (by omega)
  subst eq0
  have HIK0 := h_ fun (w' : World) (hw' : Below w.heap.size w w') => HIH.out 0 (by simp) us0 w' hw' (hrx0.kept hw' (Nat.le_refl _))
  simp only [List.getElem_cons_zero, List.getElem_cons_succ] at hrx0 HIK0
  obtain ⟨eop, eint, evk, evi, evs, enm, el⟩ := x0
  obtain ⟨ea, em, rfl, _⟩ := hrx0.lits
  obtain ⟨e0, e1, e2, e3, e4, e5, e6⟩ := hec0.c7 HW2.out
  simp only [Nat.zero_mul, Nat.one_mul, Nat.reduceMul, Nat.add_zero] at e0 e1 e2 e3 e4 e5 e6
  have lg : g0 < w2.heap.size := Nat.lt_of_lt_of_le hec0.1 HW2.out.size
  have HTR := h_ (petruth_call eop eint evk evi evs enm _ row (evalX (.mk eop eint evk evi evs enm el)) w2 fun w' hw' => HIK0.out w' (HW2.out.trans (hw'.mono HW2.out.size)))
  generalize hT : truthV (evalX (.mk eop eint evk evi evs enm el)) = t at HQ HTR
  clear HNN HCN HEL HOK HXR hlen hll hT
  go_wp2_with fail
  refine HTR.out.mono ?_
  rintro e w3 ⟨rfl, hw3⟩
  have HA3 := h_ (HA2.out.below hw3)
  have HC3 := h_ (HC2.out.below hw3)
  have HW3 := t_ HW2 hw3
  clear hw3 HTR HIK0 e0 e1 e2 e3 e4 e5 e6 lg p0 p6 hec0 hrx0
  have p6 := HA3.out.cell 6 rfl
  by_cases ht : t = 2
  ·have HQ2 : Hid (q = evalX x1) := h_ (by rw [HQ.out, if_pos ht])
   subst ht
   clear HQ
   obtain ⟨g1, o1, us1, eq1, hec1, hkx1, hrx1⟩ := HL.out.ec (k := 1) (by omega)
   cases eq1
   have HIK1 := h_ fun (w' : World) (hw' : Below w.heap.size w w') => HIH.out 1 (by simp) us1 w' hw' (hrx1.kept hw' (Nat.le_refl _))
   simp only [List.getElem_cons_zero, List.getElem_cons_succ] at hrx1 HIK1
   obtain ⟨yop, yint, yvk, yvi, yvs, ynm, yl⟩ := x1
   obtain ⟨ya, ym, rfl, _⟩ := hrx1.lits
   obtain ⟨e0, e1, e2, e3, e4, e5, e6⟩ := hec1.c7 HW3.out
   simp only [Nat.zero_mul, Nat.one_mul, Nat.reduceMul, Nat.add_zero] at e0 e1 e2 e3 e4 e5 e6
   have lg : g0 < w3.heap.size := Nat.lt_of_lt_of_le hec1.1 HW3.out.size
   have HQ : Hid (q = evalX (.mk yop yint yvk yvi yvs ynm yl)) := HQ2
   have HP := h_ (HIK1.out w3 HW3.out)
   generalize evalX (.mk yop yint yvk yvi yvs ynm yl) = z at HQ HP
   clear HQ2 HIK1 hrx1 hec1
   go_wp2_with fail
   refine (HP.out).mono ?_
   rintro e w8 ⟨rfl, hw8⟩
   have HD := h_ (HC3.out.below hw8)
   have HX := t_ HW3 hw8
   clear hw8
   generalize z = qq at HQ |-
   obtain ⟨q0, q1, q2⟩ := qq
   unfold vV
   simp only
   obtain ⟨r0, r1, r2, f0, f1, f2⟩ := HD.out.f3
   go_wp2_with fail
   refine name_set3W (K := fun w' => bodyPost _ _ _ _ _ w') HD.out fun w9 hM => ?_
   exact bodyPost_ret (results_cell_row Tryz.results41 _ _ (w.heap.size + 1) _ _ (0, 0) _ rfl hM.blk Tryz.underlying29 rfl (by kernel_rfl)) rfl ⟨by rw [HQ.out]; rfl, HX.out.trans (hM.low.mono (by first | exact Nat.le_refl _ | omega))⟩
  ·have HQ2 : Hid (q = evalX x2) := h_ (by rw [HQ.out, if_neg ht])
   have e2 : (t == 2) = false := by simpa using ht
   clear HQ
   obtain ⟨g2, o2, us2, eq2, hec2, hkx2, hrx2⟩ := HL.out.ec (k := 2) (by omega)
   cases eq2
   have HIK2 := h_ fun (w' : World) (hw' : Below w.heap.size w w') => HIH.out 2 (by simp) us2 w' hw' (hrx2.kept hw' (Nat.le_refl _))
   simp only [List.getElem_cons_zero, List.getElem_cons_succ] at hrx2 HIK2
   obtain ⟨yop, yint, yvk, yvi, yvs, ynm, yl⟩ := x2
   obtain ⟨ya, ym, rfl, _⟩ := hrx2.lits
   obtain ⟨e0, e1, e2, e3, e4, e5, e6⟩ := hec2.c7 HW3.out
   simp only [Nat.zero_mul, Nat.one_mul, Nat.reduceMul, Nat.add_zero] at e0 e1 e2 e3 e4 e5 e6
   have lg : g0 < w3.heap.size := Nat.lt_of_lt_of_le hec2.1 HW3.out.size
   have HQ : Hid (q = evalX (.mk yop yint yvk yvi yvs ynm yl)) := HQ2
   have HP := h_ (HIK2.out w3 HW3.out)
   generalize evalX (.mk yop yint yvk yvi yvs ynm yl) = z at HQ HP
   clear HQ2 HIK2 hrx2 hec2
   go_wp2_with fail
   refine (HP.out).mono ?_
   rintro e w8 ⟨rfl, hw8⟩
   have HD := h_ (HC3.out.below hw8)
   have HX := t_ HW3 hw8
   clear hw8
   generalize z = qq at HQ |-
   obtain ⟨q0, q1, q2⟩ := qq
   unfold vV
   simp only
   obtain ⟨r0, r1, r2, f0, f1, f2⟩ := HD.out.f3
   go_wp2_with fail
   refine name_set3W (K := fun w' => bodyPost _ _ _ _ _ w') HD.out fun w9 hM => ?_
   exact bodyPost_ret (results_cell_row Tryz.results41 _ _ (w.heap.size + 1) _ _ (0, 0) _ rfl hM.blk Tryz.underlying29 rfl (by kernel_rfl)) rfl ⟨by rw [HQ.out]; rfl, HX.out.trans (hM.low.mono (by first | exact Nat.le_refl _ | omega))⟩
theorem peval_call (row : Value) : ∀ (N : Nat) (x : X) (cs : List Value) (w : World), nodes x <= N -> N <= 1000000 -> shortX x -> plX x = true -> XR w x cs -> Calls Tryz.prog 41 #[.agg cs.toArray, row] w (Ret w (vV (evalX x)))
 | 0, x, _, _, h, _, _, _, _ => absurd (nodes_pos x) (by omega)
 | N + 1, .mk op int vk vi vs nm l, cs, w, hn, hN, hs, hp, h => by
  have hn' := hn
  rw [nodes] at hn'
  rw [shortX] at hs
  rw [plX, Bool.and_eq_true] at hp
  have hi : HIT l 41 row w := fun k hk us w' _ hx => peval_call row N l[k] us w' (by have := nodesL_mem (List.getElem_mem (l := l) hk); omega) (by omega) (shortL_at hk hs.2) (plXs_at hk hp.2) hx
  have ho := hp.1
  simp only [Bool.or_eq_true, Bool.and_eq_true, decide_eq_true_eq] at ho
  by_cases e1 : op = 1
  ·exact peval1 op int vk vi vs nm l cs row w e1 (by omega) hs.1.1 h hi
  by_cases e2 : op = 22
  ·exact peval22 op int vk vi vs nm l cs row w e2 (by omega) hs.1.1 h hi
  exact pevalA op int vk vi vs nm l cs row w (by omega) (by omega) hs.1.1 h hi
end Go.Proofs.YtnlimlboedohgaaGreatDoor.Px
