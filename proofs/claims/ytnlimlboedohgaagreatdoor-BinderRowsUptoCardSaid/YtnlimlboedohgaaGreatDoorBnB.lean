import Derived.Test.YtnlimlboedohgaaGreatDoorBnA
import Derived.Test.YtnlimlboedohgaaGreatDoorPxO
import Derived.Test.YtnlimlboedohgaaGreatDoorPxQ
/-
  The kind of an expression out of its arguments' kinds: the program's and the reference's. (Printed by gen_bcchk.py.)
-/
set_option maxHeartbeats 20000000
set_option maxRecDepth 100000
namespace Go.Proofs.YtnlimlboedohgaaGreatDoor.Px
open Go Go.RowKit Go.Proofs.YtnlimlboedohgaaGreatDoor.Ps
set_option linter.unusedVariables false
set_option linter.unusedSimpArgs false
theorem known_in {op : Int} (h : ¬ (arity op).1 < 0) : op = 1 \/ op = 2 \/ (op = 4 \/ op = 5 \/ op = 6) \/ (op = 7 \/ op = 8 \/ op = 9 \/ op = 10 \/ op = 11 \/ op = 12) \/ (op = 13 \/ op = 14 \/ op = 15 \/ op = 16 \/ op = 17 \/ op = 18) \/ op = 19 \/ op = 20 \/ op = 21 \/ op = 22 \/ op = 23 \/ op = 24 := by
 unfold arity at h
 repeat' split at h
 all_goals (first | omega | (exfalso; simp at h))
theorem len3 {l : List Int} (h : l.length = 3) : ∃ a b c, l = [a, b, c] := by
 match l, h with
 | [a, b, c], _ => exact ⟨a, b, c, rfl⟩
theorem eresult_call (op int vk vi : Int) (vs nm : S) (l : List X) (cs : List Value) (w : World) (kl : List Int) (a : Option Addr) (c : Nat) (hkn : ¬ (arity op).1 < 0) (h2 : op ≠ 2) (h3 : op = 22 -> kl.length = 3) (hkl : kl.length <= 1000000) (hc : kl.length <= c) (hv : SI w kl a) (h : XR w (.mk op int vk vi vs nm l) cs) : Calls Tryz.prog 204 #[.agg cs.toArray, .slice a kl.length c] w (Ret w (TupIB (resK op vk kl))) := by
 obtain ⟨b, m, rfl, hl, _, _, _⟩ := h.lits
 have HV := h_ hv
 clear h hl hv
 unfold TupIB
 rcases known_in hkn with h1 | h1 | h1 | h1 | h1 | h1 | h1 | h1 | h1 | h1 | h1
 ·subst h1
  go_enter Tryz.func204, Tryz.ntmps204
  go_upto_region 1 with (fail)
  refine nA fun w1 hB hw1 hz1 => ?_
  have HW := h_ hw1
  have p0 := hB.cell 0 rfl
  have p2 := hB.cell 2 rfl
  have HV1 := h_ (HV.out.below hw1)
  clear hB hw1 hz1 HV
  go_wp2_with fail
  go_ret2
  exact ⟨rfl, HW.out⟩
 ·exact absurd h1 h2
 ·rcases h1 with rfl | rfl | rfl
  all_goals
   go_enter Tryz.func204, Tryz.ntmps204
   go_upto_region 1 with (fail)
   refine nA fun w1 hB hw1 hz1 => ?_
   have HW := h_ hw1
   have p0 := hB.cell 0 rfl
   have p2 := hB.cell 2 rfl
   have HV1 := h_ (HV.out.below hw1)
   clear hB hw1 hz1 HV
   go_wp2_with fail
   refine (eall_call kl 3 _ _ w1 (by decide) (by omega) HV1.out).mono ?_
   rintro e w2 ⟨rfl, hw2⟩
   have HW2 := t_ HW hw2
   clear hw2
   go_wp2_with fail
   go_ret2
   exact ⟨rfl, HW2.out⟩
 ·rcases h1 with rfl | rfl | rfl | rfl | rfl | rfl
  all_goals
   go_enter Tryz.func204, Tryz.ntmps204
   go_upto_region 1 with (fail)
   refine nA fun w1 hB hw1 hz1 => ?_
   have HW := h_ hw1
   have p0 := hB.cell 0 rfl
   have p2 := hB.cell 2 rfl
   have HV1 := h_ (HV.out.below hw1)
   clear hB hw1 hz1 HV
   have HU := h_ (unite_call kl a c w1 (by omega) HV1.out)
   have HR : Hid (∀ z : Int, (3, (uniR kl).2) = (3, (uniR kl).2)) := h_ fun _ => rfl
   go_wp2_with fail
   refine (HU.out).mono ?_
   rintro e w2 ⟨rfl, hw2⟩
   have HW2 := t_ HW hw2
   clear hw2
   unfold TupIB
   go_wp2_with fail
   go_ret2
   exact ⟨rfl, HW2.out⟩
 ·rcases h1 with rfl | rfl | rfl | rfl | rfl | rfl
  all_goals
   go_enter Tryz.func204, Tryz.ntmps204
   go_upto_region 1 with (fail)
   refine nA fun w1 hB hw1 hz1 => ?_
   have HW := h_ hw1
   have p0 := hB.cell 0 rfl
   have p2 := hB.cell 2 rfl
   have HV1 := h_ (HV.out.below hw1)
   clear hB hw1 hz1 HV
   go_wp2_with fail
   refine (eall_call kl 1 _ _ w1 (by decide) (by omega) HV1.out).mono ?_
   rintro e w2 ⟨rfl, hw2⟩
   have HW2 := t_ HW hw2
   clear hw2
   go_wp2_with fail
   go_ret2
   exact ⟨rfl, HW2.out⟩
 ·subst h1
  skip
  go_enter Tryz.func204, Tryz.ntmps204
  go_upto_region 1 with (fail)
  refine nA fun w1 hB hw1 hz1 => ?_
  have HW := h_ hw1
  have p0 := hB.cell 0 rfl
  have p2 := hB.cell 2 rfl
  have HV1 := h_ (HV.out.below hw1)
  clear hB hw1 hz1 HV
  go_wp2_with fail
  refine (eall_call kl 2 _ _ w1 (by decide) (by omega) HV1.out).mono ?_
  rintro e w2 ⟨rfl, hw2⟩
  have HW2 := t_ HW hw2
  clear hw2
  go_wp2_with fail
  go_ret2
  exact ⟨rfl, HW2.out⟩
 ·subst h1
  skip
  go_enter Tryz.func204, Tryz.ntmps204
  go_upto_region 1 with (fail)
  refine nA fun w1 hB hw1 hz1 => ?_
  have HW := h_ hw1
  have p0 := hB.cell 0 rfl
  have p2 := hB.cell 2 rfl
  have HV1 := h_ (HV.out.below hw1)
  clear hB hw1 hz1 HV
  go_wp2_with fail
  refine (eall_call kl 2 _ _ w1 (by decide) (by omega) HV1.out).mono ?_
  rintro e w2 ⟨rfl, hw2⟩
  have HW2 := t_ HW hw2
  clear hw2
  go_wp2_with fail
  go_ret2
  exact ⟨rfl, HW2.out⟩
 ·subst h1
  go_enter Tryz.func204, Tryz.ntmps204
  go_upto_region 1 with (fail)
  refine nA fun w1 hB hw1 hz1 => ?_
  have HW := h_ hw1
  have p0 := hB.cell 0 rfl
  have p2 := hB.cell 2 rfl
  have HV1 := h_ (HV.out.below hw1)
  clear hB hw1 hz1 HV
  go_wp2_with fail
  go_ret2
  exact ⟨rfl, HW.out⟩
 ·subst h1
  obtain ⟨x, y, z, rfl⟩ := len3 (h3 rfl)
  simp only [List.length_cons, List.length_nil, Nat.zero_add] at hc hkl |-
  obtain ⟨g, o, rfl, _, _⟩ := HV.out.at_ (k := 0) (by simp)
  go_enter Tryz.func204, Tryz.ntmps204
  go_upto_region 1 with (fail)
  refine nA fun w1 hB hw1 hz1 => ?_
  have HW := h_ hw1
  have p0 := hB.cell 0 rfl
  have p2 := hB.cell 2 rfl
  have HV1 := h_ (HV.out.below hw1)
  clear hB hw1 hz1 HV
  have HU := h_ (unite_call [y, z] (some ⟨g, o + 1, none⟩) (c - 1) w1 (by simp) HV1.out.drop1)
  have hc1 : (3 : Int) <= (c : Int) := by omega
  have hc2 : (1 : Int) <= (c : Int) := by omega
  have hc3 : ((c - 1 : Nat) : Int) = (c : Int) - 1 := by omega
  have HR : Hid (resK 22 vk [x, y, z] = ((uniR [y, z]).1, (uniR [y, z]).2 && allK [x] 3)) := h_ rfl
  generalize uniR [y, z] = q at HU HR
  obtain ⟨q1, q2⟩ := q
  go_wp2_with fail
  refine HU.out.mono ?_
  rintro e w2 ⟨rfl, hw2⟩
  have HW2 := t_ HW hw2
  have HA := h_ (Ret.at_ (eall_call [x] 3 (some ⟨g, o, none⟩) c w2 (by decide) (by simp) (HV1.out.below hw2).take1) HW2.out)
  clear hw2 HU
  unfold TupIB
  cases q2 with
  | false =>
   go_wp2_with fail
   go_ret2
   exact ⟨by rw [HR.out]; rfl, HW2.out⟩
  | true =>
   go_wp2_with fail
   refine HA.out.mono ?_
   rintro e w3 ⟨rfl, hw3⟩
   go_wp2_with fail
   go_ret2
   exact ⟨by rw [HR.out]; rfl, hw3⟩
 ·subst h1
  go_enter Tryz.func204, Tryz.ntmps204
  go_upto_region 1 with (fail)
  refine nA fun w1 hB hw1 hz1 => ?_
  have HW := h_ hw1
  have p0 := hB.cell 0 rfl
  have p2 := hB.cell 2 rfl
  have HV1 := h_ (HV.out.below hw1)
  clear hB hw1 hz1 HV
  have HU := h_ (unite_call kl a c w1 (by omega) HV1.out)
  have HR : Hid (resK 23 vk kl = uniR kl) := h_ rfl
  generalize uniR kl = q at HU HR
  obtain ⟨q1, q2⟩ := q
  go_wp2_with fail
  refine (HU.out).mono ?_
  rintro e w2 ⟨rfl, hw2⟩
  have HW2 := t_ HW hw2
  clear hw2
  unfold TupIB
  go_wp2_with fail
  go_ret2
  exact ⟨by rw [HR.out]; rfl, HW2.out⟩
 ·subst h1
  skip
  go_enter Tryz.func204, Tryz.ntmps204
  go_upto_region 1 with (fail)
  refine nA fun w1 hB hw1 hz1 => ?_
  have HW := h_ hw1
  have p0 := hB.cell 0 rfl
  have p2 := hB.cell 2 rfl
  have HV1 := h_ (HV.out.below hw1)
  clear hB hw1 hz1 HV
  go_wp2_with fail
  refine (eall_call kl 1 _ _ w1 (by decide) (by omega) HV1.out).mono ?_
  rintro e w2 ⟨rfl, hw2⟩
  have HW2 := t_ HW hw2
  clear hw2
  go_wp2_with fail
  go_ret2
  exact ⟨rfl, HW2.out⟩
theorem rresult_call (op int vk vi : Int) (vs nm : S) (l : List X) (cs : List Value) (w : World) (kl : List Int) (a : Option Addr) (c : Nat) (ks : List Int) (ak : Option Addr) (ck : Nat) (hkn : ¬ (arity op).1 < 0) (h2 : op ≠ 2) (h3 : op = 22 -> kl.length = 3) (hkl : kl.length <= 1000000) (hc : kl.length <= c) (hv : SI w kl a) (h : XR w (.mk op int vk vi vs nm l) cs) : Calls Tryz.prog 176 #[.agg cs.toArray, .slice a kl.length c, .slice ak ks.length ck] w (Ret w (TupIB (resK op vk kl))) := by
 obtain ⟨b, m, rfl, hl, _, _, _⟩ := h.lits
 have HV := h_ hv
 clear h hl hv
 unfold TupIB
 rcases known_in hkn with h1 | h1 | h1 | h1 | h1 | h1 | h1 | h1 | h1 | h1 | h1
 ·subst h1
  go_enter Tryz.func176, Tryz.ntmps176
  go_upto_region 1 with (fail)
  refine nA fun w1 hB hw1 hz1 => ?_
  have HW := h_ hw1
  have p0 := hB.cell 0 rfl
  have p2 := hB.cell 2 rfl
  have HV1 := h_ (HV.out.below hw1)
  clear hB hw1 hz1 HV
  go_wp2_with fail
  go_ret2
  exact ⟨rfl, HW.out⟩
 ·exact absurd h1 h2
 ·rcases h1 with rfl | rfl | rfl
  all_goals
   go_enter Tryz.func176, Tryz.ntmps176
   go_upto_region 1 with (fail)
   refine nA fun w1 hB hw1 hz1 => ?_
   have HW := h_ hw1
   have p0 := hB.cell 0 rfl
   have p2 := hB.cell 2 rfl
   have HV1 := h_ (HV.out.below hw1)
   clear hB hw1 hz1 HV
   go_wp2_with fail
   refine (rall_call kl 3 _ _ w1 (by omega) HV1.out).mono ?_
   rintro e w2 ⟨rfl, hw2⟩
   have HW2 := t_ HW hw2
   clear hw2
   go_wp2_with fail
   go_ret2
   exact ⟨rfl, HW2.out⟩
 ·rcases h1 with rfl | rfl | rfl | rfl | rfl | rfl
  all_goals
   go_enter Tryz.func176, Tryz.ntmps176
   go_upto_region 1 with (fail)
   refine nA fun w1 hB hw1 hz1 => ?_
   have HW := h_ hw1
   have p0 := hB.cell 0 rfl
   have p2 := hB.cell 2 rfl
   have HV1 := h_ (HV.out.below hw1)
   clear hB hw1 hz1 HV
   have HU := h_ (join11_call kl a c w1 (by omega) HV1.out)
   have HR : Hid (∀ z : Int, (3, (uniR kl).2) = (3, (uniR kl).2)) := h_ fun _ => rfl
   go_wp2_with fail
   refine (HU.out).mono ?_
   rintro e w2 ⟨rfl, hw2⟩
   have HW2 := t_ HW hw2
   clear hw2
   unfold TupIB
   go_wp2_with fail
   go_ret2
   exact ⟨rfl, HW2.out⟩
 ·rcases h1 with rfl | rfl | rfl | rfl | rfl | rfl
  all_goals
   go_enter Tryz.func176, Tryz.ntmps176
   go_upto_region 1 with (fail)
   refine nA fun w1 hB hw1 hz1 => ?_
   have HW := h_ hw1
   have p0 := hB.cell 0 rfl
   have p2 := hB.cell 2 rfl
   have HV1 := h_ (HV.out.below hw1)
   clear hB hw1 hz1 HV
   go_wp2_with fail
   refine (rall_call kl 1 _ _ w1 (by omega) HV1.out).mono ?_
   rintro e w2 ⟨rfl, hw2⟩
   have HW2 := t_ HW hw2
   clear hw2
   go_wp2_with fail
   go_ret2
   exact ⟨rfl, HW2.out⟩
 ·subst h1
  skip
  go_enter Tryz.func176, Tryz.ntmps176
  go_upto_region 1 with (fail)
  refine nA fun w1 hB hw1 hz1 => ?_
  have HW := h_ hw1
  have p0 := hB.cell 0 rfl
  have p2 := hB.cell 2 rfl
  have HV1 := h_ (HV.out.below hw1)
  clear hB hw1 hz1 HV
  go_wp2_with fail
  refine (rall_call kl 2 _ _ w1 (by omega) HV1.out).mono ?_
  rintro e w2 ⟨rfl, hw2⟩
  have HW2 := t_ HW hw2
  clear hw2
  go_wp2_with fail
  go_ret2
  exact ⟨rfl, HW2.out⟩
 ·subst h1
  skip
  go_enter Tryz.func176, Tryz.ntmps176
  go_upto_region 1 with (fail)
  refine nA fun w1 hB hw1 hz1 => ?_
  have HW := h_ hw1
  have p0 := hB.cell 0 rfl
  have p2 := hB.cell 2 rfl
  have HV1 := h_ (HV.out.below hw1)
  clear hB hw1 hz1 HV
  go_wp2_with fail
  refine (rall_call kl 2 _ _ w1 (by omega) HV1.out).mono ?_
  rintro e w2 ⟨rfl, hw2⟩
  have HW2 := t_ HW hw2
  clear hw2
  go_wp2_with fail
  go_ret2
  exact ⟨rfl, HW2.out⟩
 ·subst h1
  go_enter Tryz.func176, Tryz.ntmps176
  go_upto_region 1 with (fail)
  refine nA fun w1 hB hw1 hz1 => ?_
  have HW := h_ hw1
  have p0 := hB.cell 0 rfl
  have p2 := hB.cell 2 rfl
  have HV1 := h_ (HV.out.below hw1)
  clear hB hw1 hz1 HV
  go_wp2_with fail
  go_ret2
  exact ⟨rfl, HW.out⟩
 ·subst h1
  obtain ⟨x, y, z, rfl⟩ := len3 (h3 rfl)
  simp only [List.length_cons, List.length_nil, Nat.zero_add] at hc hkl |-
  obtain ⟨g, o, rfl, _, _⟩ := HV.out.at_ (k := 0) (by simp)
  go_enter Tryz.func176, Tryz.ntmps176
  go_upto_region 1 with (fail)
  refine nA fun w1 hB hw1 hz1 => ?_
  have HW := h_ hw1
  have p0 := hB.cell 0 rfl
  have p2 := hB.cell 2 rfl
  have HV1 := h_ (HV.out.below hw1)
  clear hB hw1 hz1 HV
  have HU := h_ (join11_call [y, z] (some ⟨g, o + 1, none⟩) (c - 1) w1 (by simp) HV1.out.drop1)
  have hc1 : (3 : Int) <= (c : Int) := by omega
  have hc2 : (1 : Int) <= (c : Int) := by omega
  have hc3 : ((c - 1 : Nat) : Int) = (c : Int) - 1 := by omega
  have HR : Hid (resK 22 vk [x, y, z] = ((uniR [y, z]).1, (uniR [y, z]).2 && allK [x] 3)) := h_ rfl
  generalize uniR [y, z] = q at HU HR
  obtain ⟨q1, q2⟩ := q
  go_wp2_with fail
  refine HU.out.mono ?_
  rintro e w2 ⟨rfl, hw2⟩
  have HW2 := t_ HW hw2
  have HA := h_ (Ret.at_ (rall_call [x] 3 (some ⟨g, o, none⟩) c w2 (by simp) (HV1.out.below hw2).take1) HW2.out)
  clear hw2 HU
  unfold TupIB
  cases q2 with
  | false =>
   go_wp2_with fail
   go_ret2
   exact ⟨by rw [HR.out]; rfl, HW2.out⟩
  | true =>
   go_wp2_with fail
   refine HA.out.mono ?_
   rintro e w3 ⟨rfl, hw3⟩
   go_wp2_with fail
   go_ret2
   exact ⟨by rw [HR.out]; rfl, hw3⟩
 ·subst h1
  go_enter Tryz.func176, Tryz.ntmps176
  go_upto_region 1 with (fail)
  refine nA fun w1 hB hw1 hz1 => ?_
  have HW := h_ hw1
  have p0 := hB.cell 0 rfl
  have p2 := hB.cell 2 rfl
  have HV1 := h_ (HV.out.below hw1)
  clear hB hw1 hz1 HV
  have HU := h_ (join11_call kl a c w1 (by omega) HV1.out)
  have HR : Hid (resK 23 vk kl = uniR kl) := h_ rfl
  generalize uniR kl = q at HU HR
  obtain ⟨q1, q2⟩ := q
  go_wp2_with fail
  refine (HU.out).mono ?_
  rintro e w2 ⟨rfl, hw2⟩
  have HW2 := t_ HW hw2
  clear hw2
  unfold TupIB
  go_wp2_with fail
  go_ret2
  exact ⟨by rw [HR.out]; rfl, HW2.out⟩
 ·subst h1
  skip
  go_enter Tryz.func176, Tryz.ntmps176
  go_upto_region 1 with (fail)
  refine nA fun w1 hB hw1 hz1 => ?_
  have HW := h_ hw1
  have p0 := hB.cell 0 rfl
  have p2 := hB.cell 2 rfl
  have HV1 := h_ (HV.out.below hw1)
  clear hB hw1 hz1 HV
  go_wp2_with fail
  refine (rall_call kl 1 _ _ w1 (by omega) HV1.out).mono ?_
  rintro e w2 ⟨rfl, hw2⟩
  have HW2 := t_ HW hw2
  clear hw2
  go_wp2_with fail
  go_ret2
  exact ⟨rfl, HW2.out⟩
theorem rformed_col (int vk vi : Int) (vs nm : S) (l : List X) (cs : List Value) (w : World) (h : XR w (.mk 2 int vk vi vs nm l) cs) : Calls Tryz.prog 138 #[.agg cs.toArray] w (Ret w (.bool (wellB 2 int vk vi vs nm l.length))) := by
 have hem := mkE vs
 have hemn := mkE nm
 have HPK0 : Hid (wellB 2 int vk vi vs nm l.length = ((!decide ((l.length : Int) < (arity 2).1) && !decide ((arity 2).2 < (l.length : Int)) && nm.isEmpty) && nullV vk vi vs)) := h_ rfl
 have c1 : ¬ (arity 2).1 < 0 := by decide
 generalize wellB 2 int vk vi vs nm l.length = ANS at HPK0 |-
 obtain ⟨a, m, rfl, hl, _, _, hlen⟩ := h.lits
 clear h hl
 go_enter Tryz.func138, Tryz.ntmps138
 go_upto_region 1 with (fail)
 refine nA fun w0 hB hw0 hz0 => ?_
 have HW0 := h_ hw0
 have HB0 := h_ hB
 have p0 := hB.cell 0 rfl
 clear hB hw0 hz0
 go_wp2_with fail
 refine (arity_call 2 w0).mono ?_
 rintro e w1 ⟨rfl, hw1⟩
 have HBk := h_ (HB0.out.below hw1)
 have HW := t_ HW0 hw1
 clear hw1 p0 HB0 HW0
 generalize (arity 2).1 = lo at HPK0 c1 |-
 generalize (arity 2).2 = hi at HPK0 |-
 have p0 := HBk.out.cell 0 rfl
 have p5 := HBk.out.cell 5 rfl
 have p6 := HBk.out.cell 6 rfl
 by_cases c2 : (l.length : Int) < lo
 ·have HF : Hid (ANS = false) := h_ (by rw [HPK0.out, decide_eq_true c2]; rfl)
  go_wp2_with fail
  go_ret
  exact ⟨by rw [HF.out]; rfl, HW.out⟩
 by_cases c3 : hi < (l.length : Int)
 ·have HF : Hid (ANS = false) := h_ (by rw [HPK0.out, decide_eq_false c2, decide_eq_true c3]; rfl)
  go_wp2_with fail
  go_ret
  exact ⟨by rw [HF.out]; rfl, HW.out⟩
 cases hn : nm.isEmpty with
 | false =>
  rw [hn] at hemn
  have HF : Hid (ANS = false) := h_ (by rw [HPK0.out, hn, Bool.and_false]; rfl)
  go_wp2_with fail
  go_ret
  exact ⟨by rw [HF.out]; rfl, HW.out⟩
 | true =>
  rw [hn] at hemn
  have HPK : Hid (ANS = nullV vk vi vs) := h_ (by rw [HPK0.out, decide_eq_false c2, decide_eq_false c3, hn]; rfl)
  clear HPK0
  go_upto_region 8 with (fail)
  have hb0 : Below w1.heap.size w1 { w1 with drawn := w1.drawn + 1 } := belowD w1 1
  refine Gr.region_grow 4 (by kernel_rfl) (by kernel_rfl) (fun w' => Below w1.heap.size w1 w') hb0 ?_
  simp only [List.take_succ_cons, List.take_zero, List.drop_succ_cons, List.drop_zero]
  clear p0 hb0
  iterate 4
   first
   | apply Gr.sn (.agg #[.int .i64 0, .int .i64 0, .string ⟨#[]⟩]); focus (go_simp; intro w' hw'; go_simp; rw [Gr.grown_enter]; exact Ret.fam (null_call w') hw'; done)
   | apply Gr.sn (.bool (nullV vk vi vs)); focus (go_simp; intro w' hw'; go_simp; by_cases z1 : vk = 0 <;> by_cases z2 : vi = 0 <;> by_cases z3 : vs = [] <;> simp [z1, z2, z3, Gr.grown_value, nullV]; done)
   | apply Gr.sn; focus (go_simp; intro w' hw'; go_simp; rw [Gr.grown_value]; done)
   | apply Gr.sn; focus (go_simp; intro w' hw'; have p2 := (HBk.out.below hw').cell 2 rfl; have p3 := (HBk.out.below hw').cell 3 rfl; have p4 := (HBk.out.below hw').cell 4 rfl; go_simp; rw [Gr.grown_value]; done)
   intro K hK; go_simp; refine hK _ ?_; clear hK K
  cases hB : nullV vk vi vs
  ·have HB0 := h_ hB
   clear hB
   refine Gr.line_nil fun w4 hw4 => ?_
   have HW4 := t_ HW hw4
   clear hw4
   go_wp2_with fail
   go_ret
   refine ⟨congrArg (fun z => Ending.returned (.bool z)) ?_, HW4.out⟩
   rw [HPK.out, HB0.out]
   try rfl
  ·have HB0 := h_ hB
   clear hB
   refine Gr.line_nil fun w4 hw4 => ?_
   have HW4 := t_ HW hw4
   clear hw4
   go_wp2_with fail
   go_ret
   refine ⟨congrArg (fun z => Ending.returned (.bool z)) ?_, HW4.out⟩
   rw [HPK.out, HB0.out]
   try rfl
theorem rformed_allen (int vk vi : Int) (vs nm : S) (l : List X) (cs : List Value) (w : World) (h : XR w (.mk 24 int vk vi vs nm l) cs) : Calls Tryz.prog 138 #[.agg cs.toArray] w (Ret w (.bool (wellB 24 int vk vi vs nm l.length))) := by
 have hem := mkE vs
 have hemn := mkE nm
 have HPK0 : Hid (wellB 24 int vk vi vs nm l.length = ((!decide ((l.length : Int) < (arity 24).1) && !decide ((arity 24).2 < (l.length : Int)) && nm.isEmpty) && (nullV vk vi vs && (decide (0 <= int) && decide (int < 13))))) := h_ rfl
 have c1 : ¬ (arity 24).1 < 0 := by decide
 generalize wellB 24 int vk vi vs nm l.length = ANS at HPK0 |-
 obtain ⟨a, m, rfl, hl, _, _, hlen⟩ := h.lits
 clear h hl
 go_enter Tryz.func138, Tryz.ntmps138
 go_upto_region 1 with (fail)
 refine nA fun w0 hB hw0 hz0 => ?_
 have HW0 := h_ hw0
 have HB0 := h_ hB
 have p0 := hB.cell 0 rfl
 clear hB hw0 hz0
 go_wp2_with fail
 refine (arity_call 24 w0).mono ?_
 rintro e w1 ⟨rfl, hw1⟩
 have HBk := h_ (HB0.out.below hw1)
 have HW := t_ HW0 hw1
 clear hw1 p0 HB0 HW0
 generalize (arity 24).1 = lo at HPK0 c1 |-
 generalize (arity 24).2 = hi at HPK0 |-
 have p0 := HBk.out.cell 0 rfl
 have p5 := HBk.out.cell 5 rfl
 have p6 := HBk.out.cell 6 rfl
 by_cases c2 : (l.length : Int) < lo
 ·have HF : Hid (ANS = false) := h_ (by rw [HPK0.out, decide_eq_true c2]; rfl)
  go_wp2_with fail
  go_ret
  exact ⟨by rw [HF.out]; rfl, HW.out⟩
 by_cases c3 : hi < (l.length : Int)
 ·have HF : Hid (ANS = false) := h_ (by rw [HPK0.out, decide_eq_false c2, decide_eq_true c3]; rfl)
  go_wp2_with fail
  go_ret
  exact ⟨by rw [HF.out]; rfl, HW.out⟩
 cases hn : nm.isEmpty with
 | false =>
  rw [hn] at hemn
  have HF : Hid (ANS = false) := h_ (by rw [HPK0.out, hn, Bool.and_false]; rfl)
  go_wp2_with fail
  go_ret
  exact ⟨by rw [HF.out]; rfl, HW.out⟩
 | true =>
  rw [hn] at hemn
  have HPK : Hid (ANS = (nullV vk vi vs && (decide (0 <= int) && decide (int < 13)))) := h_ (by rw [HPK0.out, decide_eq_false c2, decide_eq_false c3, hn]; rfl)
  clear HPK0
  go_upto_region 10 with (fail)
  have hb0 : Below w1.heap.size w1 { w1 with drawn := w1.drawn + 1 } := belowD w1 1
  refine Gr.region_grow 14 (by kernel_rfl) (by kernel_rfl) (fun w' => Below w1.heap.size w1 w') hb0 ?_
  simp only [List.take_succ_cons, List.take_zero, List.drop_succ_cons, List.drop_zero]
  clear p0 hb0
  iterate 4
   first
   | apply Gr.sn (.agg #[.int .i64 0, .int .i64 0, .string ⟨#[]⟩]); focus (go_simp; intro w' hw'; go_simp; rw [Gr.grown_enter]; exact Ret.fam (null_call w') hw'; done)
   | apply Gr.sn (.bool (nullV vk vi vs)); focus (go_simp; intro w' hw'; go_simp; by_cases z1 : vk = 0 <;> by_cases z2 : vi = 0 <;> by_cases z3 : vs = [] <;> simp [z1, z2, z3, Gr.grown_value, nullV]; done)
   | apply Gr.sn; focus (go_simp; intro w' hw'; go_simp; rw [Gr.grown_value]; done)
   | apply Gr.sn; focus (go_simp; intro w' hw'; have p2 := (HBk.out.below hw').cell 2 rfl; have p3 := (HBk.out.below hw').cell 3 rfl; have p4 := (HBk.out.below hw').cell 4 rfl; go_simp; rw [Gr.grown_value]; done)
   intro K hK; go_simp; refine hK _ ?_; clear hK K
  cases hB : nullV vk vi vs
  ·have HB0 := h_ hB
   clear hB
   iterate 10
    first
    | apply Gr.sn undef; focus (go_simp; done)
    | apply Gr.sn; focus (go_simp; intro w' hw'; go_simp; rw [Gr.grown_value]; done)
    intro K hK; go_simp; refine hK _ ?_; clear hK K
   refine Gr.line_nil fun w4 hw4 => ?_
   have HW4 := t_ HW hw4
   clear hw4
   go_wp2_with fail
   go_ret
   refine ⟨congrArg (fun z => Ending.returned (.bool z)) ?_, HW4.out⟩
   rw [HPK.out, HB0.out]
   try rfl
  ·have HB0 := h_ hB
   clear hB
   iterate 4
    first
    | apply Gr.sn (.bool (decide (0 <= int))); focus ((go_simp; intro w' hw'; go_simp; rw [Gr.grown_value]; all_goals ((first | rfl | (refine congrArg Value.bool ?_; first | rfl | simp | (rw [Bool.eq_iff_iff]; simp; omega))))); done)
    | apply Gr.sn; focus (go_simp; intro w' hw'; go_simp; rw [Gr.grown_value]; done)
    | apply Gr.sn; focus (go_simp; intro w' hw'; have p1 := (HBk.out.below hw').cell 1 rfl; go_simp; rw [Gr.grown_value]; done)
    intro K hK; go_simp; refine hK _ ?_; clear hK K
   cases hB : decide (0 <= int)
   ·have HB1 := h_ hB
    clear hB
    iterate 6
     first
     | apply Gr.sn undef; focus (go_simp; done)
     | apply Gr.sn; focus (go_simp; intro w' hw'; go_simp; rw [Gr.grown_value]; done)
     intro K hK; go_simp; refine hK _ ?_; clear hK K
    refine Gr.line_nil fun w4 hw4 => ?_
    have HW4 := t_ HW hw4
    clear hw4
    go_wp2_with fail
    go_ret
    refine ⟨congrArg (fun z => Ending.returned (.bool z)) ?_, HW4.out⟩
    rw [HPK.out, HB0.out, HB1.out]
    try rfl
   ·have HB1 := h_ hB
    clear hB
    iterate 5
     first
     | apply Gr.sn (.bool (decide (int < 13))); focus ((go_simp; intro w' hw'; go_simp; rw [Gr.grown_value]; all_goals ((first | rfl | (refine congrArg Value.bool ?_; first | rfl | simp | (rw [Bool.eq_iff_iff]; simp; omega))))); done)
     | apply Gr.sn; focus (go_simp; intro w' hw'; go_simp; rw [Gr.grown_value]; done)
     | apply Gr.sn; focus (go_simp; intro w' hw'; have p1 := (HBk.out.below hw').cell 1 rfl; go_simp; rw [Gr.grown_value]; done)
     intro K hK; go_simp; refine hK _ ?_; clear hK K
    cases hB : decide (int < 13)
    ·have HB2 := h_ hB
     clear hB
     refine Gr.sn _ (by go_simp; intro w' hw'; go_simp; rw [Gr.grown_value]) fun K hK => ?_; go_simp; refine hK _ ?_; clear hK K
     refine Gr.line_nil fun w4 hw4 => ?_
     have HW4 := t_ HW hw4
     clear hw4
     go_wp2_with fail
     go_ret
     refine ⟨congrArg (fun z => Ending.returned (.bool z)) ?_, HW4.out⟩
     rw [HPK.out, HB0.out, HB1.out, HB2.out]
     try rfl
    ·have HB2 := h_ hB
     clear hB
     refine Gr.sn _ (by go_simp; intro w' hw'; go_simp; rw [Gr.grown_value]) fun K hK => ?_; go_simp; refine hK _ ?_; clear hK K
     refine Gr.line_nil fun w4 hw4 => ?_
     have HW4 := t_ HW hw4
     clear hw4
     go_wp2_with fail
     go_ret
     refine ⟨congrArg (fun z => Ending.returned (.bool z)) ?_, HW4.out⟩
     rw [HPK.out, HB0.out, HB1.out, HB2.out]
     try rfl
theorem well_formed {op int vk vi : Int} {vs nm : S} {n : Nat} (hk : ¬ (arity op).1 < 0) (h2 : op ≠ 2) (h24 : op ≠ 24) : formedB op int vk vi vs nm n = wellB op int vk vi vs nm n := by
 unfold formedB wellB cntB
 rw [if_neg h2, if_neg h24, decide_eq_false hk]
 generalize (if op = 1 then decide (int = 0) && validV vk vi vs else decide (int = 0) && nullV vk vi vs) = z
 cases decide ((n : Int) < (arity op).1) <;> cases decide ((arity op).2 < (n : Int)) <;> cases nm.isEmpty <;> rfl
theorem rwell_call (op int vk vi : Int) (vs nm : S) (l : List X) (cs : List Value) (w : World) (hk : ¬ (arity op).1 < 0) (hvs : vs.length < 4294967281) (h : XR w (.mk op int vk vi vs nm l) cs) : Calls Tryz.prog 138 #[.agg cs.toArray] w (Ret w (.bool (wellB op int vk vi vs nm l.length))) := by
 by_cases h2 : op = 2
 ·subst h2; exact rformed_col int vk vi vs nm l cs w h
 by_cases h24 : op = 24
 ·subst h24; exact rformed_allen int vk vi vs nm l cs w h
 rw [<- well_formed hk h2 h24]
 exact formed_call h (fun _ _ _ _ _ _ _ e => by injection e with e0 _ _ _ e4; subst e0 e4; exact ⟨h2, h24, hvs⟩) op int vk vi vs nm l rfl
theorem cnt22 {n : Nat} {int vk vi : Int} {vs nm : S} (h : wellB 22 int vk vi vs nm n = true) : n = 3 := by
 unfold wellB cntB at h
 have e : arity 22 = (3, 3) := rfl
 rw [e] at h
 simp only [Bool.and_eq_true, Bool.not_eq_true', decide_eq_false_iff_not] at h
 omega
theorem name_rowI {K : World -> Prop} {w : World} {B n : Nat} {cs : Array Value} (hb : B <= w.heap.size) (hm : n <= maxLen) (hs : cs.size = n * 1) (h : ∀ w', w'.ownsRow B 3 1 (.slice (some ⟨w.heap.size, 0, none⟩) n n) n cs.toList -> Below w.heap.size w w' -> K w') : K (w.alloc (.cells cs 3)) :=
 h _ (World.ownsRow_lit w cs n hb hm hs) (below1 w _)
theorem cnt2 {n : Nat} {int vk vi : Int} {vs nm : S} (h : wellB 2 int vk vi vs nm n = true) : n = 0 := by
 unfold wellB cntB at h
 have e : arity 2 = (0, 0) := rfl
 rw [e] at h
 simp only [Bool.and_eq_true, Bool.not_eq_true', decide_eq_false_iff_not] at h
 omega
theorem echeck_step (N : Nat) (HI : ∀ (x : X) (cs : List Value) (w : World) (ks : List Int) (ak : Option Addr) (ck : Nat), nodes x <= N -> shortX x -> ks.length <= 1000000 -> SI w ks ak -> XR w x cs -> Calls Tryz.prog 119 #[.agg cs.toArray, .slice ak ks.length ck] w (Ret w (TupII (tc ks x))))
  (op int vk vi : Int) (vs nm : S) (l : List X) (cs : List Value) (w : World) (ks : List Int) (ak : Option Addr) (ck : Nat) (hn : nodesL l <= N) (hN : N <= 1000000) (hsh : vs.length < 4294967281 /\ nm.length < 4294967281) (hshl : shortL l) (hks : ks.length <= 1000000) (hv : SI w ks ak) (h : XR w (.mk op int vk vi vs nm l) cs) :
  Calls Tryz.prog 119 #[.agg cs.toArray, .slice ak ks.length ck] w (Ret w (TupII (tc ks (.mk op int vk vi vs nm l)))) := by
 obtain ⟨i0, hi0, hz0, hz1, hz2⟩ := info_parts infoInt
 have HI := h_ HI
 have HSH := h_ hshl
 have HV := h_ hv
 have hll : l.length <= 1000000 := Nat.le_trans (nodesL_len l) (by omega)
 have HPD : Hid (tc ks (.mk op int vk vi vs nm l) = if (arity op).1 < 0 then (0, 7) else if wellB op int vk vi vs nm l.length = false then (0, 8) else if op = 2 then (if 0 <= int /\ int < ks.length then (ks.getD int.toNat 0, 0) else (0, 13)) else tcE op vk (tcs ks l)) := h_ (by rw [tc])
 have HWL := h_ fun (hk : ¬ (arity op).1 < 0) (w' : World) (hw' : Below w.heap.size w w') => eformed_call op int vk vi vs nm l cs w' hk (by omega) (by omega) (h.kept hw' (Nat.le_refl _))
 have HRS := h_ fun (hk : ¬ (arity op).1 < 0) (h2 : op ≠ 2) (kl : List Int) (a : Option Addr) (c : Nat) (h3 : op = 22 -> kl.length = 3) (hkl : kl.length <= 1000000) (hc : kl.length <= c) (w' : World) (hw' : Below w.heap.size w w') (hs : SI w' kl a) => eresult_call op int vk vi vs nm l cs w' kl a c hk h2 h3 hkl hc hs (h.kept hw' (Nat.le_refl _))
 have H02 := h_ fun (h : wellB op int vk vi vs nm l.length = true) (e : op = 2) => cnt2 (n := l.length) (int := int) (vk := vk) (vi := vi) (vs := vs) (nm := nm) (by rw [e] at h; exact h)
 have H22 := h_ fun (h : wellB op int vk vi vs nm l.length = true) (e : op = 22) => cnt22 (n := l.length) (int := int) (vk := vk) (vi := vi) (vs := vs) (nm := nm) (by rw [e] at h; exact h)
 obtain ⟨a, m, rfl, hl, _, _, _⟩ := h.lits
 have HL := h_ hl
 clear h hl hshl hv
 generalize tc ks (.mk op int vk vi vs nm l) = ANS at HPD |-
 generalize wellB op int vk vi vs nm l.length = wb at HPD HWL H22 H02
 go_enter Tryz.func119, Tryz.ntmps119
 go_upto_region 1 with (fail)
 refine nA fun w1 hB hw1 hz1 => ?_
 have HW := h_ hw1
 have HBk := h_ hB
 have p0 := hB.cell 0 rfl
 have p6 := hB.cell 6 rfl
 clear hB hw1 hz1
 go_wp2_with fail
 refine (counts_call op l.length w1 (by omega)).mono ?_
 rintro e w2 ⟨rfl, hw2⟩
 have HB2 := h_ (HBk.out.below hw2)
 have HW2 := t_ HW hw2
 clear hw2 HBk HW p0 p6
 by_cases hk : (arity op).1 < 0
 ·have HF : Hid (ANS = (0, 7)) := h_ (by rw [HPD.out, if_pos hk])
  rw [decide_eq_true hk]
  clear HPD HWL HRS
  go_wp2_with fail
  go_ret2
  exact ⟨by rw [HF.out]; rfl, HW2.out⟩
 have HP1 : Hid (ANS = if wb = false then (0, 8) else if op = 2 then (if 0 <= int /\ int < ks.length then (ks.getD int.toNat 0, 0) else (0, 13)) else tcE op vk (tcs ks l)) := h_ (by rw [HPD.out, if_neg hk])
 have HW3 := h_ (HWL.out (by omega) w2 HW2.out)
 have HR3 := h_ (HRS.out (by omega))
 rw [decide_eq_false hk]
 simp only [Bool.not_false, Bool.and_true]
 generalize cntB op l.length = cb
 clear HPD HWL HRS
 obtain ⟨p0, p1, p2, p3, p4, p5, p6⟩ := HB2.out.c7
 go_wp2_with fail
 refine HW3.out.mono ?_
 rintro e w3 ⟨rfl, hw3⟩
 have HB3 := h_ (HB2.out.below hw3)
 have HW4 := t_ HW2 hw3
 clear hw3 HB2 HW2 HW3 p0 p1 p2 p3 p4 p5 p6
 cases wb with
 | false =>
  have HF : Hid (ANS = (0, 8)) := h_ (by rw [HP1.out]; rfl)
  clear HP1 HR3
  go_wp2_with fail
  go_ret2
  exact ⟨by rw [HF.out]; rfl, HW4.out⟩
 | true =>
  have HP2 : Hid (ANS = if op = 2 then (if 0 <= int /\ int < ks.length then (ks.getD int.toNat 0, 0) else (0, 13)) else tcE op vk (tcs ks l)) := h_ (by rw [HP1.out]; rfl)
  have H3 := h_ (H22.out rfl)
  have HL2 := h_ (H02.out rfl)
  clear HP1 H22 H02
  have p0 := HB3.out.cell 0 rfl
  have p1 := HB3.out.cell 1 rfl
  have p6 := HB3.out.cell 6 rfl
  by_cases h2 : op = 2
  ·subst h2
   have HP3 : Hid (ANS = if 0 <= int /\ int < ks.length then (ks.getD int.toNat 0, 0) else (0, 13)) := h_ (by rw [HP2.out, if_pos rfl])
   clear HP2 HR3
   by_cases hlo : int < 0
   ·have HF : Hid (ANS = (0, 13)) := h_ (by rw [HP3.out, if_neg (by omega)])
    clear HP3
    go_wp2_with fail
    go_ret2
    exact ⟨by rw [HF.out]; rfl, HW4.out⟩
   by_cases hhi : (ks.length : Int) <= int
   ·have HF : Hid (ANS = (0, 13)) := h_ (by rw [HP3.out, if_neg (by omega)])
    clear HP3
    go_wp2_with fail
    go_ret2
    exact ⟨by rw [HF.out]; rfl, HW4.out⟩
   obtain ⟨q, rfl⟩ := Int.eq_ofNat_of_zero_le (by omega : 0 <= int)
   have hql : q < ks.length := by omega
   have HF : Hid (ANS = (ks[q], 0)) := h_ (by rw [HP3.out, if_pos ⟨by omega, by omega⟩]; simp [hql])
   clear HP3
   obtain ⟨g, o, rfl, hg, hc0⟩ := HV.out.at_ hql
   have hc := (HW4.out.cell (p := ⟨g, o + q, none⟩) hg).trans hc0
   have j0 : (0 : Int) <= (q : Int) := by omega
   have j1 : (q : Int) < (ks.length : Int) := by omega
   clear hc0
   generalize ks[q] = kq at hc HF
   go_wp2_with fail
   go_ret2
   exact ⟨by rw [HF.out]; rfl, HW4.out⟩
  ·have h2b : (op == 2) = false := by simpa using h2
   have HP3 : Hid (ANS = tcE op vk (tcs ks l)) := h_ (by rw [HP2.out, if_neg h2])
   have HR4 := h_ (HR3.out h2)
   clear HP2 HR3
   go_upto_region 12 with (fail)
   clear p0 p1 p6
   go_loopw [8, 11, 12, 50] (fun v _ _ i wr => ∃ (k : Nat) (m : List Int), k <= l.length /\ i = .int .i64 (k : Int) /\ tcs ks (l.take k) = .inl m /\ OwnI w3.heap.size v m wr /\ Below w3.heap.size w3 wr) (fun _ _ _ i _ => l.length - (intOf i).toNat)
   case atStart => exact ⟨0, [], Nat.zero_le _, rfl, rfl, OwnI.nil _ _, Below.refl _ _⟩
   case round =>
    obtain ⟨k, m2, hk2, rfl, ht, ho, hb⟩ := hrel
    have HT := h_ ht
    have HO := h_ ho
    have HB := h_ hb
    have HWb := t_ HW4 hb
    have hlt2 : ∀ g, u8.ownBlock = some g -> w3.heap.size <= g := fun g e => (ho.lt g e).1
    clear ht ho hb
    by_cases hlt : k < l.length
    ·obtain ⟨g, o, us, eq, hec, hkx, hrx⟩ := HL.out.ec hlt
     subst eq
     have HX : Hid (XR w l[k] us) := h_ hrx
     obtain ⟨eop, eint, evk, evi, evs, enm, el, ee⟩ : ∃ eop eint evk evi evs enm el, l[k] = X.mk eop eint evk evi evs enm el := by
      cases l[k]
      exact ⟨_, _, _, _, _, _, _, rfl⟩
     have hrx2 : XR w (X.mk eop eint evk evi evs enm el) us := ee ▸ hrx
     obtain ⟨ea, em, rfl, _⟩ := hrx2.lits
     have r0 := hec.at0 HWb.out (u := _) rfl
     have r1 := hec.at_ HWb.out (j := 1) rfl
     have r2 := hec.at_ HWb.out (j := 2) rfl
     have r3 := hec.at_ HWb.out (j := 3) rfl
     have r4 := hec.at_ HWb.out (j := 4) rfl
     have r5 := hec.at_ HWb.out (j := 5) rfl
     have r6 := hec.at_ HWb.out (j := 6) rfl
     have gl : g < wr.heap.size := by have := HWb.out.size; have := hec.1; omega
     have hle := nodesL_mem (List.getElem_mem (l := l) hlt)
     have hsx := short_mem HSH.out (List.getElem_mem (l := l) hlt)
     have hml : m2.length <= 1000000 := by have := tcs_len HT.out; rw [List.length_take] at this; omega
     have HC := h_ fun (w' : World) (hw' : Below w.heap.size w w') => HI.out l[k] _ w' ks ak ck (by omega) hsx hks (HV.out.below hw') (HX.out.kept hw' (Nat.le_refl _))
     have c2 : (k : Int) < (l.length : Int) := by omega
     have c3 : (0 : Int) <= (k : Int) := by omega
     have HT0 := h_ (tcs_bad (ks := ks) hlt HT.out)
     have HT1 := h_ (tcs_take (ks := ks) hlt HT.out)
     clear hec hrx hrx2 ee HX hsx hle
     generalize tc ks l[k] = q at HC HT0 HT1
     obtain ⟨q1, q2⟩ := q
     go_wp2_with fail
     refine (HC.out _ (HWb.out.trans ((below1 wr _).mono HWb.out.size))).mono ?_
     rintro e' w4 ⟨rfl, hw4⟩
     have HB4 := h_ ((HB.out.trans ((below1 wr _).mono HB.out.size)).trans (hw4.mono (by have := HB.out.size; simp; omega)))
     have HW5 := h_ (HW4.out.trans (HB4.out.mono HW4.out.size))
     have HO4 := h_ (OwnI.below (OwnI.below HO.out (below1 wr _)) hw4)
     clear hw4 HO HB HWb HC r0 r1 r2 r3 r4 r5 r6
     unfold TupII
     by_cases hq : q2 = 0
     ·subst hq
      have HT2 : Hid (tcs ks (l.take (k + 1)) = .inl (m2 ++ [q1])) := h_ (by rw [HT1.out]; rfl)
      clear HT0 HT1
      go_wp2_with (at_builtin; refine wpList_append_own_at _ rfl (.tmp 63) (.tmp 65) 23 rfl w3.heap.size 3 i0 _ 1 8 Tryz.underlying23 hi0 hz0 hz1 hz2 rfl (by omega) u8 m2.length _ rfl (World.ownsRow.alloc HO4.out _) ⟨w4.heap.size, 0, none⟩ 1 1 [.int .i64 q1] rfl rfl (cell_lit1 _ _ _) (fun u hu => by obtain rfl := List.mem_singleton.1 hu; rfl) (by unfold maxLen; omega) (by omega) (Nat.le_trans HB4.out.size (by simp)) ?_)
      intro v3 w5 hown3 hg3 _ hat3
      have hb5 : Below w3.heap.size w3 w5 := (HB4.out.alloc HB4.out.size _).grown hg3 (Nat.le_trans HB4.out.size (by simp)) hlt2
      have HO3 : Hid (OwnI w3.heap.size v3 (m2 ++ [q1]) w5) := h_ (OwnI.snoc hown3)
      clear hown3 hg3 hat3
      go_wp2_with fail
      go_roundw
      case rel => exact ⟨k + 1, m2 ++ [q1], by omega, by go_num, HT2.out, HO3.out, hb5⟩
      case measure => simp [intOf]; omega
     ·have hqb : (q2 != 0) = true := by simpa using hq
      have hqc : (q2 == 0) = false := by simpa using hq
      have HF : Hid (ANS = (0, q2)) := h_ (by rw [HP3.out, HT0.out hq]; rfl)
      clear HT0 HT1 HP3
      go_wp2_with fail
      go_ret2
      exact ⟨by rw [HF.out]; rfl, HW5.out⟩
    ·obtain rfl : k = l.length := by omega
     have ht := HT.out
     rw [List.take_length] at ht
     have d1 : decide ((l.length : Int) < (l.length : Int)) = false := decide_eq_false (by omega)
     have HF : Hid (ANS = if (resK op vk m2).2 then ((resK op vk m2).1, 0) else (0, 7)) := h_ (by rw [HP3.out, ht]; rfl)
     have hml := tcs_len ht
     have ho := HO.out
     obtain ⟨a2, c2, rfl, hs⟩ := ho.form
     have HRC := h_ (Ret.at_ (HR4.out m2 a2 c2 (fun e => by rw [hml]; exact H3.out e) (by omega) ho.cap wr HWb.out hs) HWb.out)
     have HBr := h_ (HB3.out.below HB.out)
     clear ht ho hs HP3 HR4 HO HT hml
     generalize resK op vk m2 = q at HRC HF
     obtain ⟨q1, q2⟩ := q
     obtain ⟨p0, p1, p2, p3, p4, p5, p6⟩ := HBr.out.c7
     go_wp2_with fail
     refine HRC.out.mono ?_
     rintro e' w4 ⟨rfl, hw4⟩
     have HW5 := h_ hw4
     clear hw4 HRC HBr p0 p1 p2 p3 p4 p5 p6
     unfold TupIB
     cases q2 with
     | false =>
      go_wp2_with fail
      go_ret2
      exact ⟨by rw [HF.out]; rfl, HW5.out⟩
     | true =>
      go_wp2_with fail
      go_ret2
      exact ⟨by rw [HF.out]; rfl, HW5.out⟩
theorem rresult_col (op int vk vi : Int) (vs nm : S) (l : List X) (cs : List Value) (w : World) (q : Nat) (ks : List Int) (ak : Option Addr) (ck : Nat) (e : op = 2) (e2 : q < ks.length) (hi : int = (q : Int)) (bb : Option Addr) (cc : Nat) (hv : SI w ks ak) (h : XR w (.mk op int vk vi vs nm l) cs) : Calls Tryz.prog 176 #[.agg cs.toArray, .slice bb 0 cc, .slice ak ks.length ck] w (Ret w (TupIB (ks[q], true))) := by
 subst e hi
 obtain ⟨b, m, rfl, hl, _, _, _⟩ := h.lits
 obtain ⟨g, o, rfl, hg, hc0⟩ := hv.at_ e2
 have HG := h_ hc0
 generalize ks[q] = kq at HG |-
 have j0 : (0 : Int) <= (q : Int) := by omega
 have j1 : (q : Int) < (ks.length : Int) := by omega
 clear h hl hv hc0
 unfold TupIB
 go_enter Tryz.func176, Tryz.ntmps176
 go_upto_region 1 with (fail)
 refine nA fun w1 hB hw1 hz1 => ?_
 have HW := h_ hw1
 have p0 := hB.cell 0 rfl
 have p1 := hB.cell 1 rfl
 have hc := (hw1.cell (p := ⟨g, o + q, none⟩) hg).trans HG.out
 clear hB hw1 hz1
 go_wp2_with fail
 go_ret2
 exact ⟨rfl, HW.out⟩
theorem rcheck_step (N : Nat) (HI : ∀ (x : X) (cs : List Value) (w : World) (ks : List Int) (ak : Option Addr) (ck : Nat), nodes x <= N -> shortX x -> ks.length <= 1000000 -> SI w ks ak -> XR w x cs -> Calls Tryz.prog 97 #[.agg cs.toArray, .slice ak ks.length ck] w (Ret w (TupII (tc ks x))))
  (op int vk vi : Int) (vs nm : S) (l : List X) (cs : List Value) (w : World) (ks : List Int) (ak : Option Addr) (ck : Nat) (hn : nodesL l <= N) (hN : N <= 1000000) (hsh : vs.length < 4294967281 /\ nm.length < 4294967281) (hshl : shortL l) (hks : ks.length <= 1000000) (hv : SI w ks ak) (h : XR w (.mk op int vk vi vs nm l) cs) :
  Calls Tryz.prog 97 #[.agg cs.toArray, .slice ak ks.length ck] w (Ret w (TupII (tc ks (.mk op int vk vi vs nm l)))) := by
 obtain ⟨i0, hi0, hz0, hz1, hz2⟩ := info_parts infoInt
 have HI := h_ HI
 have HSH := h_ hshl
 have HV := h_ hv
 have hll : l.length <= 1000000 := Nat.le_trans (nodesL_len l) (by omega)
 have HPD : Hid (tc ks (.mk op int vk vi vs nm l) = if (arity op).1 < 0 then (0, 7) else if wellB op int vk vi vs nm l.length = false then (0, 8) else if op = 2 then (if 0 <= int /\ int < ks.length then (ks.getD int.toNat 0, 0) else (0, 13)) else tcE op vk (tcs ks l)) := h_ (by rw [tc])
 have HWL := h_ fun (hk : ¬ (arity op).1 < 0) (w' : World) (hw' : Below w.heap.size w w') => rwell_call op int vk vi vs nm l cs w' hk hsh.1 (h.kept hw' (Nat.le_refl _))
 have HRS := h_ fun (hk : ¬ (arity op).1 < 0) (h2 : op ≠ 2) (kl : List Int) (a : Option Addr) (c : Nat) (h3 : op = 22 -> kl.length = 3) (hkl : kl.length <= 1000000) (hc : kl.length <= c) (w' : World) (hw' : Below w.heap.size w w') (hs : SI w' kl a) => rresult_call op int vk vi vs nm l cs w' kl a c ks ak ck hk h2 h3 hkl hc hs (h.kept hw' (Nat.le_refl _))
 have HRC2 := h_ fun (q : Nat) (e : op = 2) (e2 : q < ks.length) (hi : int = (q : Int)) (bb : Option Addr) (cc : Nat) (w' : World) (hw' : Below w.heap.size w w') => rresult_col op int vk vi vs nm l cs w' q ks ak ck e e2 hi bb cc (hv.below hw') (h.kept hw' (Nat.le_refl _))
 have H02 := h_ fun (h : wellB op int vk vi vs nm l.length = true) (e : op = 2) => cnt2 (n := l.length) (int := int) (vk := vk) (vi := vi) (vs := vs) (nm := nm) (by rw [e] at h; exact h)
 have H22 := h_ fun (h : wellB op int vk vi vs nm l.length = true) (e : op = 22) => cnt22 (n := l.length) (int := int) (vk := vk) (vi := vi) (vs := vs) (nm := nm) (by rw [e] at h; exact h)
 obtain ⟨a, m, rfl, hl, _, _, _⟩ := h.lits
 have HL := h_ hl
 clear h hl hshl hv
 generalize tc ks (.mk op int vk vi vs nm l) = ANS at HPD |-
 generalize wellB op int vk vi vs nm l.length = wb at HPD HWL H22 H02
 go_enter Tryz.func97, Tryz.ntmps97
 go_upto_region 1 with (fail)
 refine nA fun w1 hB hw1 hz1 => ?_
 have HW := h_ hw1
 have HBk := h_ hB
 have p0 := hB.cell 0 rfl
 have p6 := hB.cell 6 rfl
 clear hB hw1 hz1
 go_wp2_with fail
 refine (arity_call op w1).mono ?_
 rintro e w2 ⟨rfl, hw2⟩
 have HB2 := h_ (HBk.out.below hw2)
 have HW2 := t_ HW hw2
 clear hw2 HBk HW p0 p6
 by_cases hk : (arity op).1 < 0
 ·have HF : Hid (ANS = (0, 7)) := h_ (by rw [HPD.out, if_pos hk])
  generalize (arity op).1 = lo at hk |-
  generalize (arity op).2 = hi
  clear HPD HWL HRS
  go_wp2_with fail
  go_ret2
  exact ⟨by rw [HF.out]; rfl, HW2.out⟩
 have HP1 : Hid (ANS = if wb = false then (0, 8) else if op = 2 then (if 0 <= int /\ int < ks.length then (ks.getD int.toNat 0, 0) else (0, 13)) else tcE op vk (tcs ks l)) := h_ (by rw [HPD.out, if_neg hk])
 have HW3 := h_ (HWL.out (by omega) w2 HW2.out)
 have HR3 := h_ (HRS.out (by omega))
 generalize (arity op).1 = lo at hk |-
 generalize (arity op).2 = hi
 clear HPD HWL HRS
 obtain ⟨p0, p1, p2, p3, p4, p5, p6⟩ := HB2.out.c7
 go_wp2_with fail
 refine HW3.out.mono ?_
 rintro e w3 ⟨rfl, hw3⟩
 have HB3 := h_ (HB2.out.below hw3)
 have HW4 := t_ HW2 hw3
 clear hw3 HB2 HW2 HW3 p0 p1 p2 p3 p4 p5 p6
 cases wb with
 | false =>
  have HF : Hid (ANS = (0, 8)) := h_ (by rw [HP1.out]; rfl)
  clear HP1 HR3
  go_wp2_with fail
  go_ret2
  exact ⟨by rw [HF.out]; rfl, HW4.out⟩
 | true =>
  have HP2 : Hid (ANS = if op = 2 then (if 0 <= int /\ int < ks.length then (ks.getD int.toNat 0, 0) else (0, 13)) else tcE op vk (tcs ks l)) := h_ (by rw [HP1.out]; rfl)
  have H3 := h_ (H22.out rfl)
  have HL2 := h_ (H02.out rfl)
  clear HP1 H22 H02
  have p0 := HB3.out.cell 0 rfl
  have p1 := HB3.out.cell 1 rfl
  have p6 := HB3.out.cell 6 rfl
  by_cases h2 : op = 2
  ·subst h2
   have HP3 : Hid (ANS = if 0 <= int /\ int < ks.length then (ks.getD int.toNat 0, 0) else (0, 13)) := h_ (by rw [HP2.out, if_pos rfl])
   clear HP2 HR3
   by_cases hlo : int < 0
   ·have HF : Hid (ANS = (0, 13)) := h_ (by rw [HP3.out, if_neg (by omega)])
    clear HP3
    go_wp2_with fail
    go_ret2
    exact ⟨by rw [HF.out]; rfl, HW4.out⟩
   by_cases hhi : (ks.length : Int) <= int
   ·have HF : Hid (ANS = (0, 13)) := h_ (by rw [HP3.out, if_neg (by omega)])
    clear HP3
    go_wp2_with fail
    go_ret2
    exact ⟨by rw [HF.out]; rfl, HW4.out⟩
   obtain ⟨q, rfl⟩ := Int.eq_ofNat_of_zero_le (by omega : 0 <= int)
   have hql : q < ks.length := by omega
   have HF : Hid (ANS = (ks[q], 0)) := h_ (by rw [HP3.out, if_pos ⟨by omega, by omega⟩]; simp [hql])
   have hl0 : l.length = 0 := HL2.out rfl
   clear HP3
   go_upto_region 9 with (fail)
   refine name_rowI (K := Code.wp _ _ _ _) (B := w3.heap.size) (n := 0) (Nat.le_refl _) (by decide) rfl fun w4 hO4 hw4 => ?_
   have HB4 := h_ (HB3.out.below hw4)
   have HW5 := t_ HW4 hw4
   clear hO4 hw4 HB3 HW4 p0 p1 p6
   go_upto_region 10 with (fail)
   go_loopw [8, 9, 10, 11] (fun v i _ _ wr => i = .int .i64 0 /\ v = .slice (some ⟨w3.heap.size, 0, none⟩) 0 0 /\ Below w4.heap.size w4 wr) (fun _ i _ _ _ => 0)
   case atStart => exact ⟨rfl, rfl, Below.refl _ _⟩
   case round =>
    obtain ⟨rfl, rfl, hb⟩ := hrel
    have HBr := h_ (HB4.out.below hb)
    have HWr := t_ HW5 hb
    have HC := h_ (Ret.at_ (HRC2.out q (by first | rfl | trivial) hql (by first | rfl | trivial) (some ⟨w3.heap.size, 0, none⟩) 0 wr HWr.out) HWr.out)
    clear hb HB4 HW5 HRC2
    have d1 : decide ((0 : Int) < (l.length : Int)) = false := decide_eq_false (by omega)
    have d2 : ¬ (0 : Int) < (l.length : Int) := by omega
    have d3 : ¬ 0 < l.length := by omega
    obtain ⟨p0, p1, p2, p3, p4, p5, p6⟩ := HBr.out.c7
    generalize ks[q] = kq at HC HF
    clear hl0
    go_wp2_with fail
    refine HC.out.mono ?_
    rintro e' w5 ⟨rfl, hw5⟩
    have HW6 := h_ hw5
    clear hw5 HC HBr p0 p1 p2 p3 p4 p5 p6
    unfold TupIB
    go_wp2_with fail
    go_ret2
    exact ⟨by rw [HF.out]; rfl, HW6.out⟩
  ·have h2b : (op == 2) = false := by simpa using h2
   have HP3 : Hid (ANS = tcE op vk (tcs ks l)) := h_ (by rw [HP2.out, if_neg h2])
   have HR4 := h_ (HR3.out h2)
   clear HP2 HR3
   go_upto_region 9 with (fail)
   refine name_rowI (K := Code.wp _ _ _ _) (B := w3.heap.size) (n := 0) (Nat.le_refl _) (by decide) rfl fun w3' hO4 hw4 => ?_
   have HO0 : Hid (OwnI w3.heap.size (.slice (some ⟨w3.heap.size, 0, none⟩) 0 0) [] w3') := h_ hO4
   have HB0 := h_ hw4
   clear hO4 hw4 p0 p1 p6
   go_upto_region 10 with (fail)
   go_loopw [8, 9, 10, 11] (fun v i _ _ wr => ∃ (k : Nat) (m : List Int), k <= l.length /\ i = .int .i64 (k : Int) /\ tcs ks (l.take k) = .inl m /\ OwnI w3.heap.size v m wr /\ Below w3.heap.size w3 wr) (fun _ i _ _ _ => l.length - (intOf i).toNat)
   case atStart => exact ⟨0, [], Nat.zero_le _, rfl, rfl, HO0.out, HB0.out⟩
   case round =>
    obtain ⟨k, m2, hk2, rfl, ht, ho, hb⟩ := hrel
    have HT := h_ ht
    have HO := h_ ho
    have HB := h_ hb
    have HWb := t_ HW4 hb
    have hlt2 : ∀ g, u8.ownBlock = some g -> w3.heap.size <= g := fun g e => (ho.lt g e).1
    have p6 := (HB3.out.below hb).cell 6 rfl
    clear ht ho hb HO0 HB0
    by_cases hlt : k < l.length
    ·obtain ⟨g, o, us, eq, hec, hkx, hrx⟩ := HL.out.ec hlt
     subst eq
     have HX : Hid (XR w l[k] us) := h_ hrx
     obtain ⟨eop, eint, evk, evi, evs, enm, el, ee⟩ : ∃ eop eint evk evi evs enm el, l[k] = X.mk eop eint evk evi evs enm el := by
      cases l[k]
      exact ⟨_, _, _, _, _, _, _, rfl⟩
     have hrx2 : XR w (X.mk eop eint evk evi evs enm el) us := ee ▸ hrx
     obtain ⟨ea, em, rfl, _⟩ := hrx2.lits
     have r0 := hec.at0 HWb.out (u := _) rfl
     have r1 := hec.at_ HWb.out (j := 1) rfl
     have r2 := hec.at_ HWb.out (j := 2) rfl
     have r3 := hec.at_ HWb.out (j := 3) rfl
     have r4 := hec.at_ HWb.out (j := 4) rfl
     have r5 := hec.at_ HWb.out (j := 5) rfl
     have r6 := hec.at_ HWb.out (j := 6) rfl
     have gl : g < wr.heap.size := by have := HWb.out.size; have := hec.1; omega
     have hle := nodesL_mem (List.getElem_mem (l := l) hlt)
     have hsx := short_mem HSH.out (List.getElem_mem (l := l) hlt)
     have hml : m2.length <= 1000000 := by have := tcs_len HT.out; rw [List.length_take] at this; omega
     have HC := h_ (HI.out l[k] _ wr ks ak ck (by omega) hsx hks (HV.out.below HWb.out) (HX.out.kept HWb.out (Nat.le_refl _)))
     have c2 : (k : Int) < (l.length : Int) := by omega
     have c3 : (0 : Int) <= (k : Int) := by omega
     have HT0 := h_ (tcs_bad (ks := ks) hlt HT.out)
     have HT1 := h_ (tcs_take (ks := ks) hlt HT.out)
     clear hec hrx hrx2 ee HX hsx hle
     generalize tc ks l[k] = q at HC HT0 HT1
     obtain ⟨q1, q2⟩ := q
     go_wp2_with fail
     refine HC.out.mono ?_
     rintro e' w4 ⟨rfl, hw4⟩
     have HB4 := t_ HB hw4
     have HW5 := h_ (HW4.out.trans (HB4.out.mono HW4.out.size))
     have HO4 := h_ (OwnI.below HO.out hw4)
     clear hw4 HO HB HWb HC p6 r0 r1 r2 r3 r4 r5 r6
     unfold TupII
     by_cases hq : q2 = 0
     ·subst hq
      have HT2 : Hid (tcs ks (l.take (k + 1)) = .inl (m2 ++ [q1])) := h_ (by rw [HT1.out]; rfl)
      clear HT0 HT1
      go_wp2_with (at_builtin; refine wpList_append_own_at _ rfl (.tmp 61) (.tmp 63) 23 rfl w3.heap.size 3 i0 _ 1 8 Tryz.underlying23 hi0 hz0 hz1 hz2 rfl (by omega) u8 m2.length _ rfl (World.ownsRow.alloc HO4.out _) ⟨w4.heap.size, 0, none⟩ 1 1 [.int .i64 q1] rfl rfl (cell_lit1 _ _ _) (fun u hu => by obtain rfl := List.mem_singleton.1 hu; rfl) (by unfold maxLen; omega) (by omega) (Nat.le_trans HB4.out.size (by simp)) ?_)
      intro v3 w5 hown3 hg3 _ hat3
      have hb5 : Below w3.heap.size w3 w5 := (HB4.out.alloc HB4.out.size _).grown hg3 (Nat.le_trans HB4.out.size (by simp)) hlt2
      have HO3 : Hid (OwnI w3.heap.size v3 (m2 ++ [q1]) w5) := h_ (OwnI.snoc hown3)
      clear hown3 hg3 hat3
      go_wp2_with fail
      go_roundw
      case rel => exact ⟨k + 1, m2 ++ [q1], by omega, by go_num, HT2.out, HO3.out, hb5⟩
      case measure => simp [intOf]; omega
     ·have hqb : (q2 != 0) = true := by simpa using hq
      have hqc : (q2 == 0) = false := by simpa using hq
      have HF : Hid (ANS = (0, q2)) := h_ (by rw [HP3.out, HT0.out hq]; rfl)
      clear HT0 HT1 HP3
      go_wp2_with fail
      go_ret2
      exact ⟨by rw [HF.out]; rfl, HW5.out⟩
    ·obtain rfl : k = l.length := by omega
     have ht := HT.out
     rw [List.take_length] at ht
     have d1 : decide ((l.length : Int) < (l.length : Int)) = false := decide_eq_false (by omega)
     have HF : Hid (ANS = if (resK op vk m2).2 then ((resK op vk m2).1, 0) else (0, 7)) := h_ (by rw [HP3.out, ht]; rfl)
     have hml := tcs_len ht
     have ho := HO.out
     obtain ⟨a2, c2, rfl, hs⟩ := ho.form
     have HRC := h_ (Ret.at_ (HR4.out m2 a2 c2 (fun e => by rw [hml]; exact H3.out e) (by omega) ho.cap wr HWb.out hs) HWb.out)
     have HBr := h_ (HB3.out.below HB.out)
     clear ht ho hs HP3 HR4 HO HT hml
     generalize resK op vk m2 = q at HRC HF
     obtain ⟨q1, q2⟩ := q
     have p0 := HBr.out.cell 0 rfl
     have p1 := HBr.out.cell 1 rfl
     have p2 := HBr.out.cell 2 rfl
     have p3 := HBr.out.cell 3 rfl
     have p4 := HBr.out.cell 4 rfl
     have p5 := HBr.out.cell 5 rfl
     go_wp2_with fail
     refine HRC.out.mono ?_
     rintro e' w4 ⟨rfl, hw4⟩
     have HW5 := h_ hw4
     clear hw4 HRC HBr p0 p1 p2 p3 p4 p5 p6
     unfold TupIB
     cases q2 with
     | false =>
      go_wp2_with fail
      go_ret2
      exact ⟨by rw [HF.out]; rfl, HW5.out⟩
     | true =>
      go_wp2_with fail
      go_ret2
      exact ⟨by rw [HF.out]; rfl, HW5.out⟩
theorem echeck_call : ∀ (N : Nat) (x : X) (cs : List Value) (w : World) (ks : List Int) (ak : Option Addr) (ck : Nat), nodes x <= N -> N <= 1000000 -> shortX x -> ks.length <= 1000000 -> SI w ks ak -> XR w x cs -> Calls Tryz.prog 119 #[.agg cs.toArray, .slice ak ks.length ck] w (Ret w (TupII (tc ks x)))
 | 0, x, _, _, _, _, _, h, _, _, _, _, _ => absurd (nodes_pos x) (by omega)
 | N + 1, .mk op int vk vi vs nm l, cs, w, ks, ak, ck, hn, hN, hs, hks, hv, h => by
  rw [nodes] at hn
  rw [shortX] at hs
  exact echeck_step N (fun x cs w ks ak ck h1 h2 h3 h4 h5 => echeck_call N x cs w ks ak ck h1 (by omega) h2 h3 h4 h5) op int vk vi vs nm l cs w ks ak ck (by omega) (by omega) hs.1 hs.2 hks hv h
theorem rcheck_call : ∀ (N : Nat) (x : X) (cs : List Value) (w : World) (ks : List Int) (ak : Option Addr) (ck : Nat), nodes x <= N -> N <= 1000000 -> shortX x -> ks.length <= 1000000 -> SI w ks ak -> XR w x cs -> Calls Tryz.prog 97 #[.agg cs.toArray, .slice ak ks.length ck] w (Ret w (TupII (tc ks x)))
 | 0, x, _, _, _, _, _, h, _, _, _, _, _ => absurd (nodes_pos x) (by omega)
 | N + 1, .mk op int vk vi vs nm l, cs, w, ks, ak, ck, hn, hN, hs, hks, hv, h => by
  rw [nodes] at hn
  rw [shortX] at hs
  exact rcheck_step N (fun x cs w ks ak ck h1 h2 h3 h4 h5 => rcheck_call N x cs w ks ak ck h1 (by omega) h2 h3 h4 h5) op int vk vi vs nm l cs w ks ak ck (by omega) (by omega) hs.1 hs.2 hks hv h
theorem eCheck_call (x : X) (cs : List Value) (w : World) (ks : List Int) (ak : Option Addr) (ck : Nat) (hn : nodes x <= 1000000) (hs : shortX x) (hks : ks.length <= 1000000) (hv : SI w ks ak) (h : XR w x cs) : Calls Tryz.prog 70 #[.agg cs.toArray, .slice ak ks.length ck] w (Ret w (TupII (chk ks x))) := by
 have HD := h_ fun (w' : World) (hw' : Below w.heap.size w w') => Depth_call x cs w' (by omega) (h.kept hw' (Nat.le_refl _))
 have HC := h_ fun (w' : World) (hw' : Below w.heap.size w w') => echeck_call 1000000 x cs w' ks ak ck hn (Nat.le_refl _) hs hks (hv.below hw') (h.kept hw' (Nat.le_refl _))
 have HP : Hid (chk ks x = if 24 < dep x then (0, 26) else tc ks x) := h_ rfl
 generalize chk ks x = R at HP |-
 generalize tc ks x = q at HP HC
 generalize dep x = d at HP HD
 obtain ⟨op, int, vk, vi, vs, nm, l⟩ := x
 obtain ⟨a, m, rfl, hl, _, _, _⟩ := h.lits
 clear h hl hs hv hn
 go_enter Tryz.func70, Tryz.ntmps70
 go_upto_region 1 with (fail)
 refine nA fun w1 hB hw1 hz1 => ?_
 have HW := h_ hw1
 have HBk := h_ hB
 obtain ⟨p0, p1, p2, p3, p4, p5, p6⟩ := hB.c7
 clear hB hw1 hz1
 go_wp2_with fail
 refine (HD.out w1 HW.out).mono ?_
 rintro e w2 ⟨rfl, hw2⟩
 have HB2 := h_ (HBk.out.below hw2)
 have HW2 := t_ HW hw2
 clear hw2 HBk HW HD p0 p1 p2 p3 p4 p5 p6
 by_cases hd : 24 < d
 ·have HF : Hid (R = (0, 26)) := h_ (by rw [HP.out, if_pos hd])
  have e25 : min d 25 = 25 := by omega
  rw [e25]
  clear e25
  clear HP hd
  go_wp2_with fail
  go_ret2
  exact ⟨by rw [HF.out]; rfl, HW2.out⟩
 ·have HF : Hid (R = q) := h_ (by rw [HP.out, if_neg hd])
  have c1 : ¬ (24 : Int) < ((min d 25 : Nat) : Int) := by omega
  generalize min d 25 = dd at c1 |-
  have HC2 := h_ (HC.out w2 HW2.out)
  clear HP hd HC
  obtain ⟨p0, p1, p2, p3, p4, p5, p6⟩ := HB2.out.c7
  obtain ⟨q1, q2⟩ := q
  go_wp2_with fail
  refine HC2.out.mono ?_
  rintro e w3 ⟨rfl, hw3⟩
  have HW3 := t_ HW2 hw3
  clear hw3 HC2 HB2 HW2 p0 p1 p2 p3 p4 p5 p6
  unfold TupII
  go_wp2_with fail
  go_ret2
  exact ⟨by rw [HF.out]; rfl, HW3.out⟩
theorem rCheck_call (x : X) (cs : List Value) (w : World) (ks : List Int) (ak : Option Addr) (ck : Nat) (hn : nodes x <= 1000000) (hs : shortX x) (hks : ks.length <= 1000000) (hv : SI w ks ak) (h : XR w x cs) : Calls Tryz.prog 56 #[.agg cs.toArray, .slice ak ks.length ck] w (Ret w (TupII (chk ks x))) := by
 have HD := h_ fun (w' : World) (hw' : Below w.heap.size w w') => rdepth_call (nodes x) x cs w' (Nat.le_refl _) (by omega) (h.kept hw' (Nat.le_refl _))
 have HC := h_ fun (w' : World) (hw' : Below w.heap.size w w') => rcheck_call 1000000 x cs w' ks ak ck hn (Nat.le_refl _) hs hks (hv.below hw') (h.kept hw' (Nat.le_refl _))
 have HP : Hid (chk ks x = if 24 < dep x then (0, 26) else tc ks x) := h_ rfl
 generalize chk ks x = R at HP |-
 generalize tc ks x = q at HP HC
 generalize dep x = d at HP HD
 obtain ⟨op, int, vk, vi, vs, nm, l⟩ := x
 obtain ⟨a, m, rfl, hl, _, _, _⟩ := h.lits
 clear h hl hs hv hn
 go_enter Tryz.func56, Tryz.ntmps56
 go_upto_region 1 with (fail)
 refine nA fun w1 hB hw1 hz1 => ?_
 have HW := h_ hw1
 have HBk := h_ hB
 obtain ⟨p0, p1, p2, p3, p4, p5, p6⟩ := hB.c7
 clear hB hw1 hz1
 go_wp2_with fail
 refine (HD.out w1 HW.out).mono ?_
 rintro e w2 ⟨rfl, hw2⟩
 have HB2 := h_ (HBk.out.below hw2)
 have HW2 := t_ HW hw2
 clear hw2 HBk HW HD p0 p1 p2 p3 p4 p5 p6
 by_cases hd : 24 < d
 ·have HF : Hid (R = (0, 26)) := h_ (by rw [HP.out, if_pos hd])
  have c1 : (24 : Int) < (d : Int) := by omega
  clear HP hd
  go_wp2_with fail
  go_ret2
  exact ⟨by rw [HF.out]; rfl, HW2.out⟩
 ·have HF : Hid (R = q) := h_ (by rw [HP.out, if_neg hd])
  have c1 : ¬ (24 : Int) < (d : Int) := by omega
  have HC2 := h_ (HC.out w2 HW2.out)
  clear HP hd HC
  obtain ⟨p0, p1, p2, p3, p4, p5, p6⟩ := HB2.out.c7
  obtain ⟨q1, q2⟩ := q
  go_wp2_with fail
  refine HC2.out.mono ?_
  rintro e w3 ⟨rfl, hw3⟩
  have HW3 := t_ HW2 hw3
  clear hw3 HC2 HB2 HW2 p0 p1 p2 p3 p4 p5 p6
  unfold TupII
  go_wp2_with fail
  go_ret2
  exact ⟨by rw [HF.out]; rfl, HW3.out⟩
end Go.Proofs.YtnlimlboedohgaaGreatDoor.Px
