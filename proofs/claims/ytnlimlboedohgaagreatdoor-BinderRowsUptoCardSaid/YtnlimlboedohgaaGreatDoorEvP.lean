import Derived.Test.YtnlimlboedohgaaGreatDoorPxS
import Derived.Lib.Bytealg
import Derived.Test.YtnlimlboedohgaaGreatDoorBnA
import Derived.Test.YtnlimlboedohgaaGreatDoorBnC
import Derived.Test.YtnlimlboedohgaaGreatDoorGrA
import Derived.Test.YtnlimlboedohgaaGreatDoorShelf5
import Derived.BigQuiet
/-
  Values, their truth and their order: in plain Lean.
-/
set_option maxHeartbeats 8000000
set_option maxRecDepth 100000
namespace Go.Proofs.YtnlimlboedohgaaGreatDoor.Px
open Go Go.RowKit Go.Proofs.YtnlimlboedohgaaGreatDoor.Ps
set_option linter.unusedVariables false
set_option linter.unusedSimpArgs false
structure V where
 k : Int
 i : Int
 t : S
def vC (v : V) : List Value := [.int .i64 v.k, .int .i64 v.i, .string ⟨v.t.toArray⟩]
def vV (v : V) : Value := .agg #[.int .i64 v.k, .int .i64 v.i, .string ⟨v.t.toArray⟩]
def okV (v : V) : Bool := validV v.k v.i v.t
def zV : V := ⟨0, 0, []⟩
def orNullV (v : V) : V := if okV v then v else zV
def nV (n : Int) : V := orNullV ⟨1, n, []⟩
def tV (s : S) : V := orNullV ⟨2, 0, s⟩
def bV (b : Bool) : V := ⟨3, if b then 1 else 0, []⟩
def cmpI (a b : Int) : Int := if a < b then -1 else if b < a then 1 else 0
def cmpS (a b : S) : Int := Lib.compareBytes a b
def cmpV (a b : V) : Int := if cmpI a.k b.k ≠ 0 then cmpI a.k b.k else if cmpI a.i b.i ≠ 0 then cmpI a.i b.i else cmpS a.t b.t
def decT (a b : V) (is : Bool) : Int := if a.k = 0 \/ a.k ≠ b.k then 1 else if is then 2 else 0
def eqT (a b : V) : Int := decT a b (cmpV a b == 0)
def ltT (a b : V) : Int := decT a b (decide (cmpV a b < 0))
def Tv (t : Int) : Prop := t = 0 \/ t = 1 \/ t = 2
def notT (t : Int) : Int := 2 - t
def andT (a b : Int) : Int := min a b
def orT (a b : Int) : Int := max a b
def truthV (v : V) : Int := if v.k = 3 /\ v.i = 1 /\ v.t = [] then 2 else if v.k = 3 /\ v.i = 0 /\ v.t = [] then 0 else 1
def ofT (t : Int) : V := if t = 1 then zV else bV (t == 2)
theorem decT_tv (a b : V) (is : Bool) : Tv (decT a b is) := by unfold decT Tv; split; omega; split <;> omega
theorem eqT_tv (a b : V) : Tv (eqT a b) := decT_tv _ _ _
theorem ltT_tv (a b : V) : Tv (ltT a b) := decT_tv _ _ _
theorem notT_tv {t : Int} (h : Tv t) : Tv (notT t) := by unfold Tv notT at *; omega
theorem andT_tv {a b : Int} (h : Tv a) (h' : Tv b) : Tv (andT a b) := by unfold Tv andT at *; omega
theorem orT_tv {a b : Int} (h : Tv a) (h' : Tv b) : Tv (orT a b) := by unfold Tv orT at *; omega
theorem truthV_tv (v : V) : Tv (truthV v) := by unfold truthV Tv; split; omega; split <;> omega
theorem less_cmp : ∀ a b : S, Op.bytesLess a b = decide (cmpS a b < 0)
 | [], [] => rfl
 | [], _ :: _ => rfl
 | _ :: _, [] => rfl
 | a :: xs, b :: ys => by
  unfold Op.bytesLess cmpS Lib.compareBytes
  have ih := less_cmp xs ys
  unfold cmpS at ih
  by_cases h : a < b
  ·simp [h]
  ·by_cases h2 : b < a
   ·have : (a == b) = false := by simp; intro e; subst e; exact absurd h2 h
    simp [h, h2, this]
   ·have e : a = b := UInt8.le_antisymm (UInt8.not_lt.1 h2) (UInt8.not_lt.1 h)
    subst e
    simp [h, ih]
theorem cmpS_sym : ∀ a b : S, cmpS a b = 0 - cmpS b a
 | [], [] => rfl
 | [], _ :: _ => rfl
 | _ :: _, [] => rfl
 | a :: xs, b :: ys => by
  have ih := cmpS_sym xs ys
  unfold cmpS at ih |-
  show (if a < b then (-1 : Int) else if b < a then 1 else Lib.compareBytes xs ys) = 0 - (if b < a then (-1 : Int) else if a < b then 1 else Lib.compareBytes ys xs)
  by_cases h : a < b
  ·have h2 : ¬ b < a := fun h2 => absurd (UInt8.lt_trans h h2) (UInt8.lt_irrefl a)
   simp [h, h2]
  ·by_cases h2 : b < a
   ·simp [h, h2]
   ·simp only [if_neg h, if_neg h2]
    exact ih
theorem cmpS_tv : ∀ a b : S, cmpS a b = -1 \/ cmpS a b = 0 \/ cmpS a b = 1
 | [], [] => .inr (.inl rfl)
 | [], _ :: _ => .inl rfl
 | _ :: _, [] => .inr (.inr rfl)
 | a :: xs, b :: ys => by
  have ih := cmpS_tv xs ys
  unfold cmpS at ih |-
  show (if a < b then (-1 : Int) else if b < a then 1 else Lib.compareBytes xs ys) = -1 \/ (if a < b then (-1 : Int) else if b < a then 1 else Lib.compareBytes xs ys) = 0 \/ (if a < b then (-1 : Int) else if b < a then 1 else Lib.compareBytes xs ys) = 1
  split
  ·exact .inl rfl
  ·split
   ·exact .inr (.inr rfl)
   ·exact ih
def compT (op : Int) (a b : V) : Int := if op = 7 then eqT a b else if op = 8 then notT (eqT a b) else if op = 9 then ltT a b else if op = 11 then ltT b a else if op = 10 then notT (ltT b a) else notT (ltT a b)
def absI (a : Int) : Int := max a (-a)
def prodV (a b : Int) : V := if a ≠ 0 /\ 1125899906842624 / absI a < absI b then zV else nV (a * b)
def arithV (op a b : Int) : V := if op = 13 then nV (a + b) else if op = 14 then nV (a - b) else if op = 15 then prodV a b else if op = 18 then nV (-a) else if b = 0 then zV else if op = 16 then nV (a.tdiv b) else nV (a.tmod b)
theorem compT_tv (op : Int) (a b : V) : Tv (compT op a b) := by
 unfold compT
 split
 ·exact eqT_tv _ _
 split
 ·exact notT_tv (eqT_tv _ _)
 split
 ·exact ltT_tv _ _
 split
 ·exact ltT_tv _ _
 split
 ·exact notT_tv (ltT_tv _ _)
 ·exact notT_tv (ltT_tv _ _)
theorem prod_bound {a b : Int} (ha : a ≠ 0) (hb : ¬ 1125899906842624 / absI a < absI b) : -1125899906842624 <= a * b /\ a * b <= 1125899906842624 := by
 have hpos : 0 < absI a := by unfold absI; omega
 have h1 : absI b <= 1125899906842624 / absI a := by
  omega
 have h2 : absI b * absI a <= 1125899906842624 := Int.mul_le_of_le_ediv hpos h1
 have h3 : absI b * absI a = absI (a * b) := by
  unfold absI
  rcases Int.le_total 0 a with h | h <;> rcases Int.le_total 0 b with h' | h'
  ·have := Int.mul_nonneg h h'
   rw [show max b (-b) = b by omega, show max a (-a) = a by omega, Int.mul_comm b a]; omega
  ·have := Int.mul_nonneg h (show 0 <= -b by omega)
   rw [Int.mul_neg] at this
   rw [show max b (-b) = -b by omega, show max a (-a) = a by omega, Int.neg_mul, Int.mul_comm b a]; omega
  ·have := Int.mul_nonneg (show 0 <= -a by omega) h'
   rw [Int.neg_mul] at this
   rw [show max b (-b) = b by omega, show max a (-a) = -a by omega, Int.mul_neg, Int.mul_comm b a]; omega
  ·have := Int.mul_nonneg (show 0 <= -a by omega) (show 0 <= -b by omega)
   rw [Int.neg_mul_neg] at this
   rw [show max b (-b) = -b by omega, show max a (-a) = -a by omega, Int.neg_mul_neg, Int.mul_comm b a]; omega
 rw [h3] at h2
 unfold absI at h2
 omega
/-- the cells of a list of values -/
def VI (w : World) (L : List V) (a : Option Addr) : Prop := ∀ j v, L[j]? = some v -> ∃ g o, a = some ⟨g, o, none⟩ /\ g < w.heap.size /\ w.cell? ⟨g, o + j * 3, none⟩ = some (.int .i64 v.k) /\ w.cell? ⟨g, o + j * 3 + 1, none⟩ = some (.int .i64 v.i) /\ w.cell? ⟨g, o + j * 3 + 2, none⟩ = some (.string ⟨v.t.toArray⟩)
theorem VI.below {w w' : World} {L : List V} {a : Option Addr} (h : VI w L a) (hb : Below w.heap.size w w') : VI w' L a := fun j v hj => by
 obtain ⟨g, o, e, hg, h0, h1, h2⟩ := h j v hj
 exact ⟨g, o, e, Nat.lt_of_lt_of_le hg hb.size, (hb.cell hg).trans h0, (hb.cell hg).trans h1, (hb.cell hg).trans h2⟩
theorem VI.at_ {w : World} {L : List V} {a : Option Addr} {k : Nat} (h : VI w L a) (hk : k < L.length) : ∃ g o, a = some ⟨g, o, none⟩ /\ g < w.heap.size /\ w.cell? ⟨g, o + k * 3, none⟩ = some (.int .i64 (L[k]'hk).k) /\ w.cell? ⟨g, o + k * 3 + 1, none⟩ = some (.int .i64 (L[k]'hk).i) /\ w.cell? ⟨g, o + k * 3 + 2, none⟩ = some (.string ⟨(L[k]'hk).t.toArray⟩) := h k _ (List.getElem?_eq_getElem hk)
theorem VI.head {w : World} {v : V} {L : List V} {a : Option Addr} (h : VI w (v :: L) a) : ∃ g o, a = some ⟨g, o, none⟩ /\ g < w.heap.size /\ w.cell? ⟨g, o, none⟩ = some (.int .i64 v.k) /\ w.cell? ⟨g, o + 1, none⟩ = some (.int .i64 v.i) /\ w.cell? ⟨g, o + 2, none⟩ = some (.string ⟨v.t.toArray⟩) := by
 obtain ⟨g, o, e, hg, h0, h1, h2⟩ := h 0 v rfl
 simp only [Nat.zero_mul, Nat.add_zero] at h0 h1 h2
 exact ⟨g, o, e, hg, h0, h1, h2⟩
theorem VI.tail {w : World} {v : V} {L : List V} {g o : Nat} (h : VI w (v :: L) (some ⟨g, o, none⟩)) : VI w L (some ⟨g, o + 3, none⟩) := fun j u hj => by
 obtain ⟨g', o', e, hg, h0, h1, h2⟩ := h (j + 1) u (by simpa using hj)
 cases e
 rw [show o + (j + 1) * 3 = o + 3 + j * 3 by omega] at h0 h1 h2
 exact ⟨g, o + 3, rfl, hg, h0, h1, h2⟩
def kinds (kd : Int) (L : List V) : Bool := L.all fun v => v.k == kd
def conT (op t u : Int) : Int := if op = 5 then andT t u else orT t u
def logicV (op : Int) (L : List V) : V := ofT (if op = 4 then notT (truthV (L.headD zV)) else (L.drop 1).foldl (fun t v => conT op t (truthV v)) (truthV (L.headD zV)))
def lenV : List V -> Nat
 | [] => 0
 | v :: l => v.t.length + lenV l
def textOf (L : List V) : S := L.flatMap (·.t)
def textV (op : Int) (L : List V) : V := if kinds 2 L then (if op = 20 then nV (lenV L : Nat) else tV (textOf L)) else zV
def arithL (op : Int) (L : List V) : V := if kinds 1 L then arithV op (L.headD zV).i (L.getLastD zV).i else zV
def coalV : List V -> V
 | [] => zV
 | v :: l => if v.k ≠ 0 then v else coalV l
theorem conT_tv {op t u : Int} (h : Tv t) (h' : Tv u) : Tv (conT op t u) := by
 unfold conT; split
 ·exact andT_tv h h'
 ·exact orT_tv h h'
theorem fold_tv (op : Int) : ∀ (l : List V) (t : Int), Tv t -> Tv (l.foldl (fun t v => conT op t (truthV v)) t)
 | [], _, h => h
 | v :: l, t, h => fold_tv op l _ (conT_tv h (truthV_tv v))
theorem foldl_take {α β : Type} (f : β -> α -> β) (l : List α) (b : β) {k : Nat} (hk : k < l.length) : (l.take (k + 1)).foldl f b = f ((l.take k).foldl f b) l[k] := by
 rw [List.take_add_one, List.getElem?_eq_getElem hk, List.foldl_append]
 rfl
theorem kinds_step {kd : Int} {L : List V} {k : Nat} (hk : k < L.length) (h : kinds kd (L.take k) = true) (e : (L[k]'hk).k = kd) : kinds kd (L.take (k + 1)) = true := by
 unfold kinds at *
 rw [List.take_add_one, List.getElem?_eq_getElem hk, List.all_append, h]
 simp [e]
theorem kinds_not {kd : Int} {L : List V} {k : Nat} (hk : k < L.length) (e : (L[k]'hk).k ≠ kd) : kinds kd L = false := by
 unfold kinds
 rw [List.all_eq_false]
 exact ⟨L[k], List.getElem_mem hk, by simpa using e⟩
theorem lenV_app : ∀ a b : List V, lenV (a ++ b) = lenV a + lenV b
 | [], b => by simp [lenV]
 | v :: a, b => by rw [List.cons_append, lenV, lenV, lenV_app a b]; omega
theorem lenV_step {L : List V} {k : Nat} (hk : k < L.length) : lenV (L.take (k + 1)) = lenV (L.take k) + (L[k]'hk).t.length := by
 rw [List.take_add_one, List.getElem?_eq_getElem hk, lenV_app]; simp [lenV]
theorem textOf_step {L : List V} {k : Nat} (hk : k < L.length) : textOf (L.take (k + 1)) = textOf (L.take k) ++ (L[k]'hk).t := by
 unfold textOf
 rw [List.take_add_one, List.getElem?_eq_getElem hk, List.flatMap_append]; simp
theorem textOf_len : ∀ L : List V, (textOf L).length = lenV L
 | [] => rfl
 | v :: l => by
  have := textOf_len l
  unfold textOf at *
  rw [List.flatMap_cons, List.length_append, lenV, this]
theorem lenV_le : ∀ (L : List V), (∀ v ∈ L, v.t.length <= 200) -> lenV L <= 200 * L.length
 | [], _ => Nat.zero_le _
 | v :: l, h => by
  have h1 := h v (List.mem_cons_self ..)
  have h2 := lenV_le l fun u hu => h u (List.mem_cons_of_mem _ hu)
  rw [lenV, List.length_cons]; omega
theorem name_set3W {w : World} {g : Nat} {u0 u1 u2 c0 c1 c2 : Value} {t : TypeId} {K : World -> Prop} (hb : Blk w g [c0, c1, c2] t) (h : ∀ w', Wr w g [u0, u1, u2] t w' -> K w') :
  K (((w.setCell ⟨g, 0, none⟩ u0).setCell ⟨g, 1, none⟩ u1).setCell ⟨g, 2, none⟩ u2) :=
 h _ (((Wr.start hb).set 0 u0).set 1 u1 |>.set 2 u2)
theorem pnull_call (w : World) : Calls Tryz.prog 73 #[] w (Ret w (vV zV)) := by
 go_enter Tryz.func73, Tryz.ntmps73
 go_wp2_with fail
 exact bodyPost_ret (results_cell_row Tryz.results73 _ _ w.heap.size _ _ (0, 0) _ rfl (heap_alloc_new w _) Tryz.underlying29 rfl (by kernel_rfl)) rfl ⟨rfl, below1 w _⟩
theorem pbool_call (b : Bool) (w : World) : Calls Tryz.prog 77 #[.bool b] w (Ret w (vV (bV b))) := by
 cases b <;>
  (go_enter Tryz.func77, Tryz.ntmps77
   go_wp2_with fail
   exact bodyPost_ret (results_cell_row Tryz.results77 _ _ w.heap.size _ _ (0, 0) _ rfl (by first | exact Blk.below (heap_alloc_new w _) (below1 _ _) | exact heap_alloc_new w _) Tryz.underlying29 rfl (by kernel_rfl)) rfl ⟨rfl, by first | exact below1 w _ | exact (below1 w _).trans ((below1 _ _).mono (by simp))⟩)
theorem orNull_call (v : V) (w : World) (hs : v.t.length <= 140737488351232) : Calls Tryz.prog 211 #[vV v] w (Ret w (vV (orNullV v))) := by
 have HV := h_ fun w' => valid_call v.k v.i v.t w' hs
 have HO : Hid (orNullV v = if validV v.k v.i v.t then v else zV) := h_ rfl
 obtain ⟨k, i, t⟩ := v
 simp only at HV HO
 generalize validV k i t = b at HV HO
 unfold vV
 simp only
 clear hs
 go_enter Tryz.func211, Tryz.ntmps211
 go_upto_region 1 with (fail)
 refine nB fun w1 hB0 hB1 hw1 hz1 => ?_
 have HB0 := h_ hB0
 have HB1 := h_ hB1
 have HW1 := h_ hw1
 obtain ⟨p0, p1, p2⟩ := hB0.c3
 clear hB0 hB1 hw1 hz1
 go_wp2_with fail
 refine (HV.out w1).mono ?_
 rintro e w2 ⟨rfl, hw2⟩
 have HC0 := h_ (HB0.out.below hw2)
 have HC1 := h_ (HB1.out.below hw2)
 have HW2 := t_ HW1 hw2
 clear hw2 HB0 HB1 HW1 p0 p1 p2
 cases b with
 | false =>
  go_wp2_with fail
  refine (pnull_call w2).mono ?_
  rintro e w3 ⟨rfl, hw3⟩
  have HD1 := h_ (HC1.out.below hw3)
  have HW3 := t_ HW2 hw3
  clear hw3 HC0 HC1 HW2
  unfold vV zV
  simp only
  obtain ⟨r0, r1, r2, f0, f1, f2⟩ := HD1.out.f3
  go_wp2_with fail
  refine name_set3W (K := fun w' => bodyPost _ _ _ _ _ w') HD1.out fun w9 hM => ?_
  exact bodyPost_ret (results_cell_row Tryz.results211 _ _ (w.heap.size + 1) _ _ (0, 0) _ rfl hM.blk Tryz.underlying29 rfl (by kernel_rfl)) rfl ⟨by rw [HO.out]; rfl, HW3.out.trans (hM.low.mono (by first | exact Nat.le_refl _ | omega))⟩
 | true =>
  obtain ⟨p0, p1, p2⟩ := HC0.out.c3
  obtain ⟨r0, r1, r2, f0, f1, f2⟩ := HC1.out.f3
  go_wp2_with fail
  refine name_set3W (K := fun w' => bodyPost _ _ _ _ _ w') HC1.out fun w9 hM => ?_
  exact bodyPost_ret (results_cell_row Tryz.results211 _ _ (w.heap.size + 1) _ _ (0, 0) _ rfl hM.blk Tryz.underlying29 rfl (by kernel_rfl)) rfl ⟨by rw [HO.out]; rfl, HW2.out.trans (hM.low.mono (by first | exact Nat.le_refl _ | omega))⟩
theorem pint_call (n : Int) (w : World) : Calls Tryz.prog 131 #[.int .i64 n] w (Ret w (vV (nV n))) := by
 have HC := h_ fun w' => (show Calls Tryz.prog 211 #[.agg #[.int .i64 1, .int .i64 n, .string ⟨#[]⟩]] w' (Ret w' (vV (nV n))) from orNull_call ⟨1, n, []⟩ w' (by simp))
 generalize nV n = q at HC |-
 obtain ⟨q0, q1, q2⟩ := q
 unfold vV at HC |-
 simp only at HC |-
 go_enter Tryz.func131, Tryz.ntmps131
 go_upto_region 1 with (fail)
 refine nA fun w1 hB0 hw1 hz1 => ?_
 have HB0 := h_ hB0
 have HW1 := h_ hw1
 clear hB0 hw1 hz1
 go_wp2_with fail
 refine (HC.out w1).mono ?_
 rintro e w2 ⟨rfl, hw2⟩
 have HC0 := h_ (HB0.out.below hw2)
 have HW2 := t_ HW1 hw2
 clear hw2 HB0 HW1
 obtain ⟨r0, r1, r2, f0, f1, f2⟩ := HC0.out.f3
 go_wp2_with fail
 refine name_set3W (K := fun w' => bodyPost _ _ _ _ _ w') HC0.out fun w9 hM => ?_
 exact bodyPost_ret (results_cell_row Tryz.results131 _ _ w.heap.size _ _ (0, 0) _ rfl hM.blk Tryz.underlying29 rfl (by kernel_rfl)) rfl ⟨rfl, HW2.out.trans (hM.low.mono (by first | exact Nat.le_refl _ | omega))⟩
theorem ptext_call (s : S) (w : World) (hs : s.length <= 140737488351232) : Calls Tryz.prog 132 #[.string ⟨s.toArray⟩] w (Ret w (vV (tV s))) := by
 have HC := h_ fun w' => (show Calls Tryz.prog 211 #[.agg #[.int .i64 2, .int .i64 0, .string ⟨s.toArray⟩]] w' (Ret w' (vV (tV s))) from orNull_call ⟨2, 0, s⟩ w' hs)
 generalize tV s = q at HC |-
 obtain ⟨q0, q1, q2⟩ := q
 unfold vV at HC |-
 simp only at HC |-
 go_enter Tryz.func132, Tryz.ntmps132
 go_upto_region 1 with (fail)
 refine nA fun w1 hB0 hw1 hz1 => ?_
 have HB0 := h_ hB0
 have HW1 := h_ hw1
 clear hB0 hw1 hz1
 go_wp2_with fail
 refine (HC.out w1).mono ?_
 rintro e w2 ⟨rfl, hw2⟩
 have HC0 := h_ (HB0.out.below hw2)
 have HW2 := t_ HW1 hw2
 clear hw2 HB0 HW1
 obtain ⟨r0, r1, r2, f0, f1, f2⟩ := HC0.out.f3
 go_wp2_with fail
 refine name_set3W (K := fun w' => bodyPost _ _ _ _ _ w') HC0.out fun w9 hM => ?_
 exact bodyPost_ret (results_cell_row Tryz.results132 _ _ w.heap.size _ _ (0, 0) _ rfl hM.blk Tryz.underlying29 rfl (by kernel_rfl)) rfl ⟨rfl, HW2.out.trans (hM.low.mono (by first | exact Nat.le_refl _ | omega))⟩
theorem normal_call (t : Int) (w : World) (ht : Tv t) : Calls Tryz.prog 134 #[.int .i64 t] w (Ret w (.int .i64 t)) := by
 rcases ht with rfl | rfl | rfl <;>
  (go_enter Tryz.func134, Tryz.ntmps134
   go_wp2_with fail
   go_ret
   exact ⟨rfl, Below.refl _ _⟩)
theorem pnot_call (t : Int) (w : World) (ht : Tv t) : Calls Tryz.prog 126 #[.int .i64 t] w (Ret w (.int .i64 (notT t))) := by
 have HN := h_ (normal_call t w ht)
 rcases ht with rfl | rfl | rfl <;>
  (go_enter Tryz.func126, Tryz.ntmps126
   go_wp2_with fail
   refine HN.out.mono ?_
   rintro e w2 ⟨rfl, hw2⟩
   have HW2 := h_ hw2
   clear hw2
   go_wp2_with fail
   go_ret
   exact ⟨rfl, HW2.out⟩)
theorem least_call (a b : Int) (g c : Nat) (w : World) (ha : Tv a) (hb : Tv b) (hB : Blk w g [.int .i64 a, .int .i64 b] 3) : Calls Tryz.prog 209 #[.slice (some ⟨g, 0, none⟩) 2 c] w (Ret w (.int .i64 (min a b))) := by
 have HN := h_ fun (t : Int) (ht : Tv t) (w' : World) => normal_call t w' ht
 have HB := h_ hB
 have HA := h_ ha
 have HBT := h_ hb
 have ha2 : min (2 : Int) a = a := by unfold Tv at ha; omega
 have HA2 := h_ ha2
 clear hB ha hb ha2
 go_enter Tryz.func209, Tryz.ntmps209
 go_upto_region 3 with (fail)
 go_loopw [3, 5, 8] (fun t _ i wr => ((i = .int .i64 0 /\ t = .int .i64 2) \/ (i = .int .i64 1 /\ t = .int .i64 a) \/ (i = .int .i64 2 /\ t = .int .i64 (min a b))) /\ Below w.heap.size w wr) (fun _ _ i _ => 2 - (intOf i).toNat)
 case atStart => exact ⟨.inl ⟨rfl, rfl⟩, Below.refl _ _⟩
 case round =>
  obtain ⟨hi, hbw⟩ := hrel
  have HW := h_ hbw
  have HBr := h_ (HB.out.below hbw)
  clear hbw
  rcases hi with ⟨rfl, rfl⟩ | ⟨rfl, rfl⟩ | ⟨rfl, rfl⟩
  ·have c0 := HBr.out.cell 0 rfl
   go_wp2_with fail
   refine (HN.out a HA.out wr).mono ?_
   rintro e w2 ⟨rfl, hw2⟩
   have HW2 := t_ HW hw2
   clear hw2 c0
   go_wp2_with fail
   go_roundw
   case rel => exact ⟨.inr (.inl ⟨by first | rfl | go_num, by first | rw [HA2.out] | (simp; have := HA2.out; omega)⟩), HW2.out⟩
   case measure => simp [intOf]
  ·have c1 := HBr.out.cell 1 rfl
   go_wp2_with fail
   refine (HN.out b HBT.out wr).mono ?_
   rintro e w2 ⟨rfl, hw2⟩
   have HW2 := t_ HW hw2
   clear hw2 c1
   go_wp2_with fail
   go_roundw
   case rel => exact ⟨.inr (.inr ⟨by first | rfl | go_num, rfl⟩), HW2.out⟩
   case measure => simp [intOf]
  ·go_wp2_with fail
   go_ret
   exact ⟨rfl, HW.out⟩
theorem pand_call (a b : Int) (w : World) (ha : Tv a) (hb : Tv b) : Calls Tryz.prog 127 #[.int .i64 a, .int .i64 b] w (Ret w (.int .i64 (andT a b))) := by
 have HL := h_ (least_call a b w.heap.size 2 (w.alloc (.cells ([.int .i64 a, .int .i64 b] : List Value).toArray 3)) ha hb (Blk.new w _ _))
 clear ha hb
 go_enter Tryz.func127, Tryz.ntmps127
 go_wp2_with fail
 refine HL.out.mono ?_
 rintro e w2 ⟨rfl, hw2⟩
 have HW2 : Hid (Below w.heap.size w w2) := h_ ((below1 w _).trans (hw2.mono (by simp)))
 clear hw2
 go_wp2_with fail
 go_ret
 exact ⟨rfl, HW2.out⟩
theorem por_call (a b : Int) (w : World) (ha : Tv a) (hb : Tv b) : Calls Tryz.prog 128 #[.int .i64 a, .int .i64 b] w (Ret w (.int .i64 (orT a b))) := by
 have HA := h_ (pnot_call a w ha)
 have HB := h_ fun w' => pnot_call b w' hb
 have HL := h_ fun w' => least_call (notT a) (notT b) w'.heap.size 2 (w'.alloc (.cells ([.int .i64 (notT a), .int .i64 (notT b)] : List Value).toArray 3)) (notT_tv ha) (notT_tv hb) (Blk.new w' _ _)
 have HN := h_ fun w' => pnot_call (min (notT a) (notT b)) w' (andT_tv (notT_tv ha) (notT_tv hb))
 have HE : Hid (notT (min (notT a) (notT b)) = orT a b) := h_ (by unfold notT orT; omega)
 rw [HE.out] at HN
 clear ha hb HE
 generalize orT a b = r at HN |-
 generalize notT a = a' at HA HL HN
 generalize notT b = b' at HB HL HN
 go_enter Tryz.func128, Tryz.ntmps128
 go_wp2_with fail
 refine HA.out.mono ?_
 rintro e w2 ⟨rfl, hw2⟩
 have HW2 := h_ hw2
 clear hw2
 go_wp2_with fail
 refine (HB.out w2).mono ?_
 rintro e w3 ⟨rfl, hw3⟩
 have HW3 := t_ HW2 hw3
 clear hw3 HW2
 go_wp2_with fail
 refine (HL.out w3).mono ?_
 rintro e w4 ⟨rfl, hw4⟩
 have HW4 : Hid (Below w.heap.size w w4) := h_ (HW3.out.trans (((below1 w3 _).trans (hw4.mono (by simp))).mono HW3.out.size))
 clear hw4 HW3
 go_wp2_with fail
 refine (HN.out w4).mono ?_
 rintro e w5 ⟨rfl, hw5⟩
 have HW5 := t_ HW4 hw5
 clear hw5
 go_wp2_with fail
 go_ret
 exact ⟨rfl, HW5.out⟩
theorem pof_call (t : Int) (w : World) (ht : Tv t) : Calls Tryz.prog 81 #[.int .i64 t] w (Ret w (vV (ofT t))) := by
 have HN := h_ fun w' => normal_call t w' ht
 have HZ := h_ pnull_call
 have HT := h_ (pbool_call true)
 have HF := h_ (pbool_call false)
 rcases ht with rfl | rfl | rfl
 ·have HE : Hid (ofT 0 = bV false) := h_ rfl
  go_enter Tryz.func81, Tryz.ntmps81
  go_upto_region 1 with (fail)
  refine nA fun w1 hB0 hw1 hz1 => ?_
  have HB0 := h_ hB0
  have HW1 := h_ hw1
  clear hB0 hw1 hz1
  go_wp2_with fail
  refine (HN.out w1).mono ?_
  rintro e w2 ⟨rfl, hw2⟩
  have HC0 := h_ (HB0.out.below hw2)
  have HW2 := t_ HW1 hw2
  clear hw2 HB0 HW1
  go_wp2_with fail
  refine (HF.out w2).mono ?_
  rintro e w3 ⟨rfl, hw3⟩
  have HD0 := h_ (HC0.out.below hw3)
  have HW3 := t_ HW2 hw3
  clear hw3 HC0 HW2
  unfold vV bV
  simp only
  obtain ⟨r0, r1, r2, f0, f1, f2⟩ := HD0.out.f3
  go_wp2_with fail
  refine name_set3W (K := fun w' => bodyPost _ _ _ _ _ w') HD0.out fun w9 hM => ?_
  exact bodyPost_ret (results_cell_row Tryz.results81 _ _ w.heap.size _ _ (0, 0) _ rfl hM.blk Tryz.underlying29 rfl (by kernel_rfl)) rfl ⟨by rw [HE.out]; rfl, HW3.out.trans (hM.low.mono (by first | exact Nat.le_refl _ | omega))⟩
 ·have HE : Hid (ofT 1 = zV) := h_ rfl
  go_enter Tryz.func81, Tryz.ntmps81
  go_upto_region 1 with (fail)
  refine nA fun w1 hB0 hw1 hz1 => ?_
  have HB0 := h_ hB0
  have HW1 := h_ hw1
  clear hB0 hw1 hz1
  go_wp2_with fail
  refine (HN.out w1).mono ?_
  rintro e w2 ⟨rfl, hw2⟩
  have HC0 := h_ (HB0.out.below hw2)
  have HW2 := t_ HW1 hw2
  clear hw2 HB0 HW1
  go_wp2_with fail
  refine (HZ.out w2).mono ?_
  rintro e w3 ⟨rfl, hw3⟩
  have HD0 := h_ (HC0.out.below hw3)
  have HW3 := t_ HW2 hw3
  clear hw3 HC0 HW2
  unfold vV zV
  simp only
  obtain ⟨r0, r1, r2, f0, f1, f2⟩ := HD0.out.f3
  go_wp2_with fail
  refine name_set3W (K := fun w' => bodyPost _ _ _ _ _ w') HD0.out fun w9 hM => ?_
  exact bodyPost_ret (results_cell_row Tryz.results81 _ _ w.heap.size _ _ (0, 0) _ rfl hM.blk Tryz.underlying29 rfl (by kernel_rfl)) rfl ⟨by rw [HE.out]; rfl, HW3.out.trans (hM.low.mono (by first | exact Nat.le_refl _ | omega))⟩
 ·have HE : Hid (ofT 2 = bV true) := h_ rfl
  go_enter Tryz.func81, Tryz.ntmps81
  go_upto_region 1 with (fail)
  refine nA fun w1 hB0 hw1 hz1 => ?_
  have HB0 := h_ hB0
  have HW1 := h_ hw1
  clear hB0 hw1 hz1
  go_wp2_with fail
  refine (HN.out w1).mono ?_
  rintro e w2 ⟨rfl, hw2⟩
  have HC0 := h_ (HB0.out.below hw2)
  have HW2 := t_ HW1 hw2
  clear hw2 HB0 HW1
  go_wp2_with fail
  refine (HT.out w2).mono ?_
  rintro e w3 ⟨rfl, hw3⟩
  have HD0 := h_ (HC0.out.below hw3)
  have HW3 := t_ HW2 hw3
  clear hw3 HC0 HW2
  unfold vV bV
  simp only
  obtain ⟨r0, r1, r2, f0, f1, f2⟩ := HD0.out.f3
  go_wp2_with fail
  refine name_set3W (K := fun w' => bodyPost _ _ _ _ _ w') HD0.out fun w9 hM => ?_
  exact bodyPost_ret (results_cell_row Tryz.results81 _ _ w.heap.size _ _ (0, 0) _ rfl hM.blk Tryz.underlying29 rfl (by kernel_rfl)) rfl ⟨by rw [HE.out]; rfl, HW3.out.trans (hM.low.mono (by first | exact Nat.le_refl _ | omega))⟩
theorem ptruth_call (v : V) (w : World) : Calls Tryz.prog 125 #[vV v] w (Ret w (.int .i64 (truthV v))) := by
 have HT := h_ (pbool_call true)
 have HF := h_ (pbool_call false)
 obtain ⟨k, i, t⟩ := v
 have HR : Hid (truthV ⟨k, i, t⟩ = if k = 3 /\ i = 1 /\ t = [] then 2 else if k = 3 /\ i = 0 /\ t = [] then 0 else 1) := h_ rfl
 generalize truthV ⟨k, i, t⟩ = q at HR |-
 unfold vV at HT HF |-
 unfold bV at HT HF
 simp only [if_true, if_false, Bool.false_eq_true] at HT HF |-
 go_enter Tryz.func125, Tryz.ntmps125
 go_upto_region 1 with (fail)
 refine nA fun w1 hB0 hw1 hz1 => ?_
 have HB0 := h_ hB0
 have HW1 := h_ hw1
 obtain ⟨p0, p1, p2⟩ := hB0.c3
 clear hB0 hw1 hz1
 go_wp2_with fail
 refine (HT.out w1).mono ?_
 rintro e w2 ⟨rfl, hw2⟩
 have HW2 := t_ HW1 hw2
 clear hw2 HB0 HW1 p0 p1 p2
 by_cases hk : k = 3
 ·subst hk
  by_cases ht : t = []
  ·subst ht
   by_cases h1 : i = 1
   ·subst h1
    have HQ : Hid (q = 2) := h_ (by rw [HR.out]; simp)
    clear HR
    go_wp2_with fail
    go_ret
    exact ⟨by rw [HQ.out]; try rfl, HW2.out⟩
   ·have e1 : (i == 1) = false := by simpa using h1
    go_upto_region 4 with (fail)
    go_wp2_with fail
    refine (HF.out w2).mono ?_
    rintro e w3 ⟨rfl, hw3⟩
    have HW3 := t_ HW2 hw3
    clear hw3 HW2
    by_cases h0 : i = 0
    ·subst h0
     have HQ : Hid (q = 0) := h_ (by rw [HR.out]; simp)
     clear HR h1 e1
     go_wp2_with fail
     go_ret
     exact ⟨by rw [HQ.out]; try rfl, HW3.out⟩
    ·have e0 : (i == 0) = false := by simpa using h0
     have HQ : Hid (q = 1) := h_ (by rw [HR.out]; simp [h0, h1])
     clear HR h1 h0 e1
     go_wp2_with fail
     go_ret
     exact ⟨by rw [HQ.out]; try rfl, HW3.out⟩
  ·have HQ : Hid (q = 1) := h_ (by rw [HR.out]; simp [ht])
   have et : t.isEmpty = false := by cases t; exact absurd rfl ht; rfl
   have et2 : (t == []) = false := by simpa using ht
   clear HR ht
   go_wp2_with fail
   refine (HF.out w2).mono ?_
   rintro e w3 ⟨rfl, hw3⟩
   have HW3 := t_ HW2 hw3
   clear hw3 HW2
   go_wp2_with fail
   go_ret
   exact ⟨by rw [HQ.out]; try rfl, HW3.out⟩
 ·have HQ : Hid (q = 1) := h_ (by rw [HR.out]; simp [hk])
  have ek : (k == 3) = false := by simpa using hk
  clear HR hk
  go_wp2_with fail
  refine (HF.out w2).mono ?_
  rintro e w3 ⟨rfl, hw3⟩
  have HW3 := t_ HW2 hw3
  clear hw3 HW2
  go_wp2_with fail
  go_ret
  exact ⟨by rw [HQ.out]; try rfl, HW3.out⟩
theorem nan_call (a : Int) (w : World) : Calls Tryz.prog 305 #[.int .i64 a] w (Ret w (.bool false)) := by
 go_enter Tryz.func305, Tryz.ntmps305
 go_wp2_with fail
 go_ret
 exact ⟨rfl, Below.refl _ _⟩
theorem cmpI_call (a b : Int) (w : World) : Calls Tryz.prog 268 #[.int .i64 a, .int .i64 b] w (Ret w (.int .i64 (cmpI a b))) := by
 have HC : Hid (cmpI a b = if a < b then -1 else if b < a then 1 else 0) := h_ rfl
 go_enter Tryz.func268, Tryz.ntmps268
 go_wp2_with fail
 refine (nan_call a w).mono ?_
 rintro e w2 ⟨rfl, hw2⟩
 have HW2 := h_ hw2
 clear hw2
 go_wp2_with fail
 refine (nan_call b w2).mono ?_
 rintro e w3 ⟨rfl, hw3⟩
 have HW3 := t_ HW2 hw3
 clear hw3 HW2
 by_cases h1 : a < b
 ·have HQ : Hid (cmpI a b = -1) := h_ (by rw [HC.out, if_pos h1])
  go_wp2_with fail
  go_ret
  exact ⟨by rw [HQ.out]; try rfl, HW3.out⟩
 ·by_cases h2 : b < a
  ·have HQ : Hid (cmpI a b = 1) := h_ (by rw [HC.out, if_neg h1, if_pos h2])
   go_wp2_with fail
   go_ret
   exact ⟨by rw [HQ.out]; try rfl, HW3.out⟩
  ·have HQ : Hid (cmpI a b = 0) := h_ (by rw [HC.out, if_neg h1, if_neg h2])
   go_wp2_with fail
   go_ret
   exact ⟨by rw [HQ.out]; try rfl, HW3.out⟩
theorem or3_call (x y z : Int) (g c : Nat) (w : World) (hB : Blk w g [.int .i64 x, .int .i64 y, .int .i64 z] 3) : Calls Tryz.prog 267 #[.slice (some ⟨g, 0, none⟩) 3 c] w (Ret w (.int .i64 (if x ≠ 0 then x else if y ≠ 0 then y else z))) := by
 generalize hq : (if x ≠ 0 then x else if y ≠ 0 then y else z) = q
 have HR := h_ hq.symm
 clear hq
 have HB := h_ hB
 clear hB
 go_enter Tryz.func267, Tryz.ntmps267
 go_upto_region 3 with (fail)
 go_loopw [8] (fun i wr => ((i = .int .i64 0) \/ (i = .int .i64 1 /\ Hid (x = 0)) \/ (i = .int .i64 2 /\ Hid (x = 0 /\ y = 0)) \/ (i = .int .i64 3 /\ Hid (x = 0 /\ y = 0 /\ z = 0))) /\ Below w.heap.size w wr) (fun i _ => 3 - (intOf i).toNat)
 case atStart => exact ⟨.inl rfl, Below.refl _ _⟩
 case round =>
  obtain ⟨hi, hbw⟩ := hrel
  have HW := h_ hbw
  have HBr := h_ (HB.out.below hbw)
  clear hbw
  rcases hi with rfl | ⟨rfl, HX⟩ | ⟨rfl, HX⟩ | ⟨rfl, HX⟩
  ·have c0 := HBr.out.cell 0 rfl
   by_cases hx : x = 0
   ·have HX := h_ hx
    have ex : (x != 0) = false := by simp [hx]
    clear hx
    go_wp2_with fail
    go_roundw
    case rel => exact ⟨.inr (.inl ⟨by first | rfl | go_num, HX⟩), HW.out⟩
    case measure => simp [intOf]
   ·have HX : Hid (q = x) := h_ (by rw [HR.out]; exact if_pos hx)
    have ex : (x != 0) = true := by simp [hx]
    clear hx
    go_wp2_with fail
    go_ret
    exact ⟨by rw [HX.out]; try rfl, HW.out⟩
  ·have c1 := HBr.out.cell 1 rfl
   by_cases hy : y = 0
   ·have HY : Hid (x = 0 /\ y = 0) := h_ ⟨HX.out, hy⟩
    have ex : (y != 0) = false := by simp [hy]
    clear hy HX
    go_wp2_with fail
    go_roundw
    case rel => exact ⟨.inr (.inr (.inl ⟨by first | rfl | go_num, HY⟩)), HW.out⟩
    case measure => simp [intOf]
   ·have HY : Hid (q = y) := h_ (by rw [HR.out, if_neg (by simp [HX.out]), if_pos hy])
    have ex : (y != 0) = true := by simp [hy]
    clear hy HX
    go_wp2_with fail
    go_ret
    exact ⟨by rw [HY.out]; try rfl, HW.out⟩
  ·have c2 := HBr.out.cell 2 rfl
   by_cases hy : z = 0
   ·have HY : Hid (x = 0 /\ y = 0 /\ z = 0) := h_ ⟨HX.out.1, HX.out.2, hy⟩
    have ex : (z != 0) = false := by simp [hy]
    clear hy HX
    go_wp2_with fail
    go_roundw
    case rel => exact ⟨.inr (.inr (.inr ⟨by first | rfl | go_num, HY⟩)), HW.out⟩
    case measure => simp [intOf]
   ·have HY : Hid (q = z) := h_ (by rw [HR.out, if_neg (by simp [HX.out.1]), if_neg (by simp [HX.out.2])])
    have ex : (z != 0) = true := by simp [hy]
    clear hy HX
    go_wp2_with fail
    go_ret
    exact ⟨by rw [HY.out]; try rfl, HW.out⟩
  ·have HY : Hid (q = 0) := h_ (by rw [HR.out]; simp [HX.out.1, HX.out.2.1, HX.out.2.2])
   go_wp2_with fail
   go_ret
   exact ⟨by rw [HY.out]; try rfl, HW.out⟩
theorem pcmp_call (a b : V) (w : World) : Calls Tryz.prog 213 #[vV a, vV b] w (Ret w (.int .i64 (cmpV a b))) := by
 have HC0 := h_ fun w' => cmpI_call a.k b.k w'
 have HC1 := h_ fun w' => cmpI_call a.i b.i w'
 have HC2 : Hid (∀ w', Calls Tryz.prog 269 #[.string ⟨a.t.toArray⟩, .string ⟨b.t.toArray⟩] w' fun e w'' => e = .returned (.int .i64 (cmpS a.t b.t)) /\ w'' = w') := h_ fun w' => by
  have := Tryz.strings_Compare ⟨a.t.toArray⟩ ⟨b.t.toArray⟩ w'
  simpa [cmpS] using this
 have HV : Hid (cmpV a b = if cmpI a.k b.k ≠ 0 then cmpI a.k b.k else if cmpI a.i b.i ≠ 0 then cmpI a.i b.i else cmpS a.t b.t) := h_ rfl
 obtain ⟨ak, ai, at'⟩ := a
 obtain ⟨bk, bi, bt⟩ := b
 unfold vV
 simp only at HC0 HC1 HC2 HV |-
 generalize cmpI ak bk = c0 at HC0 HV
 generalize cmpI ai bi = c1 at HC1 HV
 generalize cmpS at' bt = c2 at HC2 HV
 go_enter Tryz.func213, Tryz.ntmps213
 go_upto_region 1 with (fail)
 refine nB fun w1 hA hB hw1 hz1 => ?_
 have HA := h_ hA
 have HB := h_ hB
 have HW1 := h_ hw1
 clear hA hB hw1 hz1
 refine Gr.region_grow 15 (by kernel_rfl) (by kernel_rfl) (fun w' => Below w1.heap.size w1 w') ⟨rfl, rfl, rfl, Nat.le_refl _, fun _ _ => rfl⟩ ?_
 simp only [List.take_succ_cons, List.take_zero, List.drop_succ_cons, List.drop_zero]
 iterate 4
  first
  | apply Gr.sn; focus (go_simp; intro w' hw'; go_simp; rw [Gr.grown_value]; done)
  | apply Gr.sn; focus (go_simp; intro w' hw'; have p := (HA.out.below hw').cell 0 rfl; go_simp; rw [Gr.grown_value]; done)
  | apply Gr.sn; focus (go_simp; intro w' hw'; have q := (HB.out.below hw').cell 0 rfl; go_simp; rw [Gr.grown_value]; done)
  intro K hK; go_simp; refine hK _ ?_; clear hK K
 refine Gr.sn (.int .i64 c0) (by go_simp; intro w' hw'; go_simp; rw [Gr.grown_enter]; exact Ret.fam (HC0.out w') hw') fun K hK => ?_; go_simp; refine hK _ ?_; clear hK K
 iterate 4
  first
  | apply Gr.sn; focus (go_simp; intro w' hw'; go_simp; rw [Gr.grown_value]; done)
  | apply Gr.sn; focus (go_simp; intro w' hw'; have p := (HA.out.below hw').cell 1 rfl; go_simp; rw [Gr.grown_value]; done)
  | apply Gr.sn; focus (go_simp; intro w' hw'; have q := (HB.out.below hw').cell 1 rfl; go_simp; rw [Gr.grown_value]; done)
  intro K hK; go_simp; refine hK _ ?_; clear hK K
 refine Gr.sn (.int .i64 c1) (by go_simp; intro w' hw'; go_simp; rw [Gr.grown_enter]; exact Ret.fam (HC1.out w') hw') fun K hK => ?_; go_simp; refine hK _ ?_; clear hK K
 iterate 4
  first
  | apply Gr.sn; focus (go_simp; intro w' hw'; go_simp; rw [Gr.grown_value]; done)
  | apply Gr.sn; focus (go_simp; intro w' hw'; have p := (HA.out.below hw').cell 2 rfl; go_simp; rw [Gr.grown_value]; done)
  | apply Gr.sn; focus (go_simp; intro w' hw'; have q := (HB.out.below hw').cell 2 rfl; go_simp; rw [Gr.grown_value]; done)
  intro K hK; go_simp; refine hK _ ?_; clear hK K
 refine Gr.sn (.int .i64 c2) (by go_simp; intro w' hw'; go_simp; rw [Gr.grown_enter]; exact (HC2.out w').mono fun e w'' h => ⟨h.1, by rw [h.2]; exact hw'⟩) fun K hK => ?_; go_simp; refine hK _ ?_; clear hK K
 refine Gr.line_nil fun w4 hw4 => ?_
 have HW4 := t_ HW1 hw4
 have HO := h_ (or3_call c0 c1 c2 w4.heap.size 3 (w4.alloc (.cells ([.int .i64 c0, .int .i64 c1, .int .i64 c2] : List Value).toArray 3)) (Blk.new w4 _ _))
 clear hw4 HA HB HW1
 go_wp2_with fail
 refine HO.out.mono ?_
 rintro e w5 ⟨rfl, hw5⟩
 have HW5 : Hid (Below w.heap.size w w5) := h_ (HW4.out.trans (((below1 w4 _).trans (hw5.mono (by simp))).mono HW4.out.size))
 clear hw5
 rw [<- HV.out]
 go_wp2_with fail
 go_ret
 exact ⟨rfl, HW5.out⟩
theorem pdec_call (a b : V) (is : Bool) (w : World) : Calls Tryz.prog 212 #[vV a, vV b, .bool is] w (Ret w (.int .i64 (decT a b is))) := by
 generalize hq : decT a b is = q
 have HR := h_ hq.symm
 clear hq
 obtain ⟨ak, ai, at'⟩ := a
 obtain ⟨bk, bi, bt⟩ := b
 have HD : Hid (q = if ak = 0 \/ ak ≠ bk then 1 else if is then 2 else 0) := HR
 clear HR
 unfold vV
 simp only
 go_enter Tryz.func212, Tryz.ntmps212
 go_upto_region 1 with (fail)
 refine nB fun w1 hA hB hw1 hz1 => ?_
 have p0 := hA.cell 0 rfl
 have q0 := hB.cell 0 rfl
 have HW1 := h_ hw1
 clear hA hB hw1 hz1
 by_cases h0 : ak = 0
 ·subst h0
  have HQ : Hid (q = 1) := h_ (by rw [HD.out]; simp)
  clear HD
  go_wp2_with fail
  go_ret
  exact ⟨by rw [HQ.out]; try rfl, HW1.out⟩
 ·have e0 : (ak == 0) = false := by simpa using h0
  by_cases h1 : ak = bk
  ·subst h1
   cases is with
   | false =>
    have HQ : Hid (q = 0) := h_ (by rw [HD.out]; simp [h0])
    clear HD h0
    go_wp2_with fail
    go_ret
    exact ⟨by rw [HQ.out]; try rfl, HW1.out⟩
   | true =>
    have HQ : Hid (q = 2) := h_ (by rw [HD.out]; simp [h0])
    clear HD h0
    go_wp2_with fail
    go_ret
    exact ⟨by rw [HQ.out]; try rfl, HW1.out⟩
  ·have HQ : Hid (q = 1) := h_ (by rw [HD.out]; simp [h1])
   have e1 : (ak != bk) = true := by simp [h1]
   clear HD h0 h1
   go_wp2_with fail
   go_ret
   exact ⟨by rw [HQ.out]; try rfl, HW1.out⟩
theorem rdec_call (a b : V) (is : Bool) (w : World) : Calls Tryz.prog 270 #[vV a, vV b, .bool is] w (Ret w (.int .i64 (decT a b is))) := by
 generalize hq : decT a b is = q
 have HR := h_ hq.symm
 clear hq
 obtain ⟨ak, ai, at'⟩ := a
 obtain ⟨bk, bi, bt⟩ := b
 have HD : Hid (q = if ak = 0 \/ ak ≠ bk then 1 else if is then 2 else 0) := HR
 clear HR
 unfold vV
 simp only
 go_enter Tryz.func270, Tryz.ntmps270
 go_upto_region 1 with (fail)
 refine nB fun w1 hA hB hw1 hz1 => ?_
 have p0 := hA.cell 0 rfl
 have q0 := hB.cell 0 rfl
 have HW1 := h_ hw1
 clear hA hB hw1 hz1
 by_cases h0 : ak = 0
 ·subst h0
  have HQ : Hid (q = 1) := h_ (by rw [HD.out]; simp)
  clear HD
  go_wp2_with fail
  go_ret
  exact ⟨by rw [HQ.out]; try rfl, HW1.out⟩
 ·have e0 : (ak == 0) = false := by simpa using h0
  by_cases h1 : ak = bk
  ·subst h1
   cases is with
   | false =>
    have HQ : Hid (q = 0) := h_ (by rw [HD.out]; simp [h0])
    clear HD h0
    go_wp2_with fail
    go_ret
    exact ⟨by rw [HQ.out]; try rfl, HW1.out⟩
   | true =>
    have HQ : Hid (q = 2) := h_ (by rw [HD.out]; simp [h0])
    clear HD h0
    go_wp2_with fail
    go_ret
    exact ⟨by rw [HQ.out]; try rfl, HW1.out⟩
  ·have HQ : Hid (q = 1) := h_ (by rw [HD.out]; simp [h1])
   have e1 : (ak != bk) = true := by simp [h1]
   clear HD h0 h1
   go_wp2_with fail
   go_ret
   exact ⟨by rw [HQ.out]; try rfl, HW1.out⟩
theorem pequal0 (a b : V) (w : World) (hc : ∀ w', Calls Tryz.prog 213 #[vV a, vV b] w' (Ret w' (.int .i64 (cmpV a b)))) : Calls Tryz.prog 135 #[vV a, vV b] w (Ret w (.int .i64 (eqT a b))) := by
 have HC := h_ hc
 have HD := h_ fun w' => pdec_call a b (cmpV a b == 0) w'
 have HE : Hid (eqT a b = decT a b (cmpV a b == 0)) := h_ rfl
 rw [HE.out]
 clear HE hc
 generalize cmpV a b = c at HC HD |-
 generalize hq : decT a b _ = q at HD |-
 clear hq
 obtain ⟨ak, ai, at'⟩ := a
 obtain ⟨bk, bi, bt⟩ := b
 unfold vV at HC HD |-
 simp only at HC HD |-
 go_enter Tryz.func135, Tryz.ntmps135
 go_upto_region 1 with (fail)
 refine nB fun w1 hA hB hw1 hz1 => ?_
 have HA := h_ hA
 have HB := h_ hB
 have HW1 := h_ hw1
 clear hA hB hw1 hz1
 refine Gr.region_grow 7 (by kernel_rfl) (by kernel_rfl) (fun w' => Below w1.heap.size w1 w') ⟨rfl, rfl, rfl, Nat.le_refl _, fun _ _ => rfl⟩ ?_
 simp only [List.take_succ_cons, List.take_zero, List.drop_succ_cons, List.drop_zero]
 iterate 4
  first
  | apply Gr.sn; focus (go_simp; intro w' hw'; have p0 := (HA.out.below hw').cell 0 rfl; have p1 := (HA.out.below hw').cell 1 rfl; have p2 := (HA.out.below hw').cell 2 rfl; go_simp; rw [Gr.grown_value]; done)
  | apply Gr.sn; focus (go_simp; intro w' hw'; have q0 := (HB.out.below hw').cell 0 rfl; have q1 := (HB.out.below hw').cell 1 rfl; have q2 := (HB.out.below hw').cell 2 rfl; go_simp; rw [Gr.grown_value]; done)
  intro K hK; go_simp; refine hK _ ?_; clear hK K
 refine Gr.sn (.int .i64 c) (by go_simp; intro w' hw'; go_simp; rw [Gr.grown_enter]; exact Ret.fam (HC.out w') hw') fun K hK => ?_; go_simp; refine hK _ ?_; clear hK K
 refine Gr.sn _ (by go_simp; intro w' hw'; go_simp; rw [Gr.grown_value]) fun K hK => ?_; go_simp; refine hK _ ?_; clear hK K
 refine Gr.sn (.int .i64 q) (by go_simp; intro w' hw'; go_simp; rw [Gr.grown_enter]; exact Ret.fam (HD.out w') hw') fun K hK => ?_; go_simp; refine hK _ ?_; clear hK K
 refine Gr.line_nil fun w4 hw4 => ?_
 have HW4 := t_ HW1 hw4
 clear hw4 HA HB HW1
 go_wp2_with fail
 go_ret
 exact ⟨rfl, HW4.out⟩
theorem pless0 (a b : V) (w : World) (hc : ∀ w', Calls Tryz.prog 213 #[vV a, vV b] w' (Ret w' (.int .i64 (cmpV a b)))) : Calls Tryz.prog 136 #[vV a, vV b] w (Ret w (.int .i64 (ltT a b))) := by
 have HC := h_ hc
 have HD := h_ fun w' => pdec_call a b (decide (cmpV a b < 0)) w'
 have HE : Hid (ltT a b = decT a b (decide (cmpV a b < 0))) := h_ rfl
 rw [HE.out]
 clear HE hc
 generalize cmpV a b = c at HC HD |-
 generalize hq : decT a b _ = q at HD |-
 clear hq
 obtain ⟨ak, ai, at'⟩ := a
 obtain ⟨bk, bi, bt⟩ := b
 unfold vV at HC HD |-
 simp only at HC HD |-
 go_enter Tryz.func136, Tryz.ntmps136
 go_upto_region 1 with (fail)
 refine nB fun w1 hA hB hw1 hz1 => ?_
 have HA := h_ hA
 have HB := h_ hB
 have HW1 := h_ hw1
 clear hA hB hw1 hz1
 refine Gr.region_grow 7 (by kernel_rfl) (by kernel_rfl) (fun w' => Below w1.heap.size w1 w') ⟨rfl, rfl, rfl, Nat.le_refl _, fun _ _ => rfl⟩ ?_
 simp only [List.take_succ_cons, List.take_zero, List.drop_succ_cons, List.drop_zero]
 iterate 4
  first
  | apply Gr.sn; focus (go_simp; intro w' hw'; have p0 := (HA.out.below hw').cell 0 rfl; have p1 := (HA.out.below hw').cell 1 rfl; have p2 := (HA.out.below hw').cell 2 rfl; go_simp; rw [Gr.grown_value]; done)
  | apply Gr.sn; focus (go_simp; intro w' hw'; have q0 := (HB.out.below hw').cell 0 rfl; have q1 := (HB.out.below hw').cell 1 rfl; have q2 := (HB.out.below hw').cell 2 rfl; go_simp; rw [Gr.grown_value]; done)
  intro K hK; go_simp; refine hK _ ?_; clear hK K
 refine Gr.sn (.int .i64 c) (by go_simp; intro w' hw'; go_simp; rw [Gr.grown_enter]; exact Ret.fam (HC.out w') hw') fun K hK => ?_; go_simp; refine hK _ ?_; clear hK K
 refine Gr.sn _ (by go_simp; intro w' hw'; go_simp; rw [Gr.grown_value]) fun K hK => ?_; go_simp; refine hK _ ?_; clear hK K
 refine Gr.sn (.int .i64 q) (by go_simp; intro w' hw'; go_simp; rw [Gr.grown_enter]; exact Ret.fam (HD.out w') hw') fun K hK => ?_; go_simp; refine hK _ ?_; clear hK K
 refine Gr.line_nil fun w4 hw4 => ?_
 have HW4 := t_ HW1 hw4
 clear hw4 HA HB HW1
 go_wp2_with fail
 go_ret
 exact ⟨rfl, HW4.out⟩
theorem pequal_call (a b : V) (w : World) : Calls Tryz.prog 135 #[vV a, vV b] w (Ret w (.int .i64 (eqT a b))) := pequal0 a b w fun w' => pcmp_call a b w'
theorem pless_call (a b : V) (w : World) : Calls Tryz.prog 136 #[vV a, vV b] w (Ret w (.int .i64 (ltT a b))) := pless0 a b w fun w' => pcmp_call a b w'
theorem vsign_call (l g : Bool) (w : World) : Calls Tryz.prog 224 #[.bool l, .bool g] w (Ret w (.int .i64 (if l then -1 else if g then 1 else 0))) := by
 cases l <;> cases g <;>
  (go_enter Tryz.func224, Tryz.ntmps224
   go_wp2_with fail
   go_ret
   exact ⟨rfl, Below.refl _ _⟩)
theorem cmpS_eq (a b : S) : cmpS a b = if Op.bytesLess a b then -1 else if Op.bytesLess b a then 1 else 0 := by
 rw [less_cmp, less_cmp, cmpS_sym b a]
 rcases cmpS_tv a b with h | h | h <;> rw [h] <;> rfl
theorem cmpS_zero : ∀ a b : S, cmpS a b = 0 -> a = b
 | [], [], _ => rfl
 | [], _ :: _, h => by simp [cmpS, Lib.compareBytes] at h
 | _ :: _, [], h => by simp [cmpS, Lib.compareBytes] at h
 | a :: xs, b :: ys, h => by
  have ih := cmpS_zero xs ys
  unfold cmpS at ih h
  change (if a < b then (-1 : Int) else if b < a then 1 else Lib.compareBytes xs ys) = 0 at h
  by_cases h1 : a < b
  ·simp [h1] at h
  ·by_cases h2 : b < a
   ·simp [h1, h2] at h
   ·rw [if_neg h1, if_neg h2] at h
    rw [UInt8.le_antisymm (UInt8.not_lt.1 h2) (UInt8.not_lt.1 h1), ih h]
theorem cmpS_self (a : S) : cmpS a a = 0 := by have := cmpS_sym a a; omega
theorem gtr_eq (a b : S) : Op.bytesLess b a = (!Op.bytesLess a b && !(a == b)) := by
 rw [less_cmp, less_cmp, cmpS_sym b a]
 rcases cmpS_tv a b with h | h | h
 ·rw [h]; rfl
 ·rw [h, cmpS_zero a b h]; simp
 ·rw [h]
  have : (a == b) = false := by
   simp only [beq_eq_false_iff_ne]; rintro rfl; rw [cmpS_self] at h; omega
  rw [this]; rfl
theorem rcmp_call (a b : V) (w : World) : Calls Tryz.prog 154 #[vV a, vV b] w (Ret w (.int .i64 (cmpV a b))) := by
 have HS := h_ vsign_call
 generalize hq : cmpV a b = q
 have HR := h_ hq.symm
 clear hq
 obtain ⟨ak, ai, at'⟩ := a
 obtain ⟨bk, bi, bt⟩ := b
 have HD : Hid (q = if cmpI ak bk ≠ 0 then cmpI ak bk else if cmpI ai bi ≠ 0 then cmpI ai bi else cmpS at' bt) := HR
 clear HR
 unfold vV
 simp only
 go_enter Tryz.func154, Tryz.ntmps154
 go_upto_region 1 with (fail)
 refine nB fun w1 hA hB hw1 hz1 => ?_
 obtain ⟨p0, p1, p2⟩ := hA.c3
 obtain ⟨q0, q1, q2⟩ := hB.c3
 have HW1 := h_ hw1
 clear hA hB hw1 hz1
 by_cases h0 : ak = bk
 ·subst h0
  by_cases h1 : ai = bi
  ·subst h1
   have HQ : Hid (q = if Op.bytesLess at' bt then -1 else if (!Op.bytesLess at' bt && !(at' == bt)) then 1 else 0) := h_ (by rw [HD.out, cmpS_eq, <- gtr_eq]; simp [cmpI])
   clear HD
   go_wp2_with fail
   refine (HS.out (Op.bytesLess at' bt) (!Op.bytesLess at' bt && !(at' == bt)) w1).mono ?_
   rintro e w2 ⟨rfl, hw2⟩
   have HW2 := t_ HW1 hw2
   clear hw2 HW1
   rw [<- HQ.out]
   go_wp2_with fail
   go_ret
   exact ⟨rfl, HW2.out⟩
  ·have e1 : (ai != bi) = true := by simp [h1]
   have HQ : Hid (q = if decide (ai < bi) then -1 else if decide (bi < ai) then 1 else 0) := h_ (by rw [HD.out]; simp [cmpI]; omega)
   clear HD h1
   go_wp2_with fail
   refine (HS.out (decide (ai < bi)) (decide (bi < ai)) w1).mono ?_
   rintro e w2 ⟨rfl, hw2⟩
   have HW2 := t_ HW1 hw2
   clear hw2 HW1
   rw [<- HQ.out]
   go_wp2_with fail
   go_ret
   exact ⟨rfl, HW2.out⟩
 ·have e0 : (ak != bk) = true := by simp [h0]
  have HQ : Hid (q = if decide (ak < bk) then -1 else if decide (bk < ak) then 1 else 0) := h_ (by rw [HD.out]; unfold cmpI; by_cases h1 : ak < bk; simp [h1]; simp [h1, show bk < ak by omega])
  clear HD h0
  go_wp2_with fail
  refine (HS.out (decide (ak < bk)) (decide (bk < ak)) w1).mono ?_
  rintro e w2 ⟨rfl, hw2⟩
  have HW2 := t_ HW1 hw2
  clear hw2 HW1
  rw [<- HQ.out]
  go_wp2_with fail
  go_ret
  exact ⟨rfl, HW2.out⟩
theorem requal0 (a b : V) (w : World) (hc : ∀ w', Calls Tryz.prog 154 #[vV a, vV b] w' (Ret w' (.int .i64 (cmpV a b)))) : Calls Tryz.prog 217 #[vV a, vV b] w (Ret w (.int .i64 (eqT a b))) := by
 have HC := h_ hc
 have HD := h_ fun w' => rdec_call a b (cmpV a b == 0) w'
 have HE : Hid (eqT a b = decT a b (cmpV a b == 0)) := h_ rfl
 rw [HE.out]
 clear HE hc
 generalize cmpV a b = c at HC HD |-
 generalize hq : decT a b _ = q at HD |-
 clear hq
 obtain ⟨ak, ai, at'⟩ := a
 obtain ⟨bk, bi, bt⟩ := b
 unfold vV at HC HD |-
 simp only at HC HD |-
 go_enter Tryz.func217, Tryz.ntmps217
 go_upto_region 1 with (fail)
 refine nB fun w1 hA hB hw1 hz1 => ?_
 have HA := h_ hA
 have HB := h_ hB
 have HW1 := h_ hw1
 clear hA hB hw1 hz1
 refine Gr.region_grow 7 (by kernel_rfl) (by kernel_rfl) (fun w' => Below w1.heap.size w1 w') ⟨rfl, rfl, rfl, Nat.le_refl _, fun _ _ => rfl⟩ ?_
 simp only [List.take_succ_cons, List.take_zero, List.drop_succ_cons, List.drop_zero]
 iterate 4
  first
  | apply Gr.sn; focus (go_simp; intro w' hw'; have p0 := (HA.out.below hw').cell 0 rfl; have p1 := (HA.out.below hw').cell 1 rfl; have p2 := (HA.out.below hw').cell 2 rfl; go_simp; rw [Gr.grown_value]; done)
  | apply Gr.sn; focus (go_simp; intro w' hw'; have q0 := (HB.out.below hw').cell 0 rfl; have q1 := (HB.out.below hw').cell 1 rfl; have q2 := (HB.out.below hw').cell 2 rfl; go_simp; rw [Gr.grown_value]; done)
  intro K hK; go_simp; refine hK _ ?_; clear hK K
 refine Gr.sn (.int .i64 c) (by go_simp; intro w' hw'; go_simp; rw [Gr.grown_enter]; exact Ret.fam (HC.out w') hw') fun K hK => ?_; go_simp; refine hK _ ?_; clear hK K
 refine Gr.sn _ (by go_simp; intro w' hw'; go_simp; rw [Gr.grown_value]) fun K hK => ?_; go_simp; refine hK _ ?_; clear hK K
 refine Gr.sn (.int .i64 q) (by go_simp; intro w' hw'; go_simp; rw [Gr.grown_enter]; exact Ret.fam (HD.out w') hw') fun K hK => ?_; go_simp; refine hK _ ?_; clear hK K
 refine Gr.line_nil fun w4 hw4 => ?_
 have HW4 := t_ HW1 hw4
 clear hw4 HA HB HW1
 go_wp2_with fail
 go_ret
 exact ⟨rfl, HW4.out⟩
theorem rless0 (a b : V) (w : World) (hc : ∀ w', Calls Tryz.prog 154 #[vV a, vV b] w' (Ret w' (.int .i64 (cmpV a b)))) : Calls Tryz.prog 218 #[vV a, vV b] w (Ret w (.int .i64 (ltT a b))) := by
 have HC := h_ hc
 have HD := h_ fun w' => rdec_call a b (decide (cmpV a b < 0)) w'
 have HE : Hid (ltT a b = decT a b (decide (cmpV a b < 0))) := h_ rfl
 rw [HE.out]
 clear HE hc
 generalize cmpV a b = c at HC HD |-
 generalize hq : decT a b _ = q at HD |-
 clear hq
 obtain ⟨ak, ai, at'⟩ := a
 obtain ⟨bk, bi, bt⟩ := b
 unfold vV at HC HD |-
 simp only at HC HD |-
 go_enter Tryz.func218, Tryz.ntmps218
 go_upto_region 1 with (fail)
 refine nB fun w1 hA hB hw1 hz1 => ?_
 have HA := h_ hA
 have HB := h_ hB
 have HW1 := h_ hw1
 clear hA hB hw1 hz1
 refine Gr.region_grow 7 (by kernel_rfl) (by kernel_rfl) (fun w' => Below w1.heap.size w1 w') ⟨rfl, rfl, rfl, Nat.le_refl _, fun _ _ => rfl⟩ ?_
 simp only [List.take_succ_cons, List.take_zero, List.drop_succ_cons, List.drop_zero]
 iterate 4
  first
  | apply Gr.sn; focus (go_simp; intro w' hw'; have p0 := (HA.out.below hw').cell 0 rfl; have p1 := (HA.out.below hw').cell 1 rfl; have p2 := (HA.out.below hw').cell 2 rfl; go_simp; rw [Gr.grown_value]; done)
  | apply Gr.sn; focus (go_simp; intro w' hw'; have q0 := (HB.out.below hw').cell 0 rfl; have q1 := (HB.out.below hw').cell 1 rfl; have q2 := (HB.out.below hw').cell 2 rfl; go_simp; rw [Gr.grown_value]; done)
  intro K hK; go_simp; refine hK _ ?_; clear hK K
 refine Gr.sn (.int .i64 c) (by go_simp; intro w' hw'; go_simp; rw [Gr.grown_enter]; exact Ret.fam (HC.out w') hw') fun K hK => ?_; go_simp; refine hK _ ?_; clear hK K
 refine Gr.sn _ (by go_simp; intro w' hw'; go_simp; rw [Gr.grown_value]) fun K hK => ?_; go_simp; refine hK _ ?_; clear hK K
 refine Gr.sn (.int .i64 q) (by go_simp; intro w' hw'; go_simp; rw [Gr.grown_enter]; exact Ret.fam (HD.out w') hw') fun K hK => ?_; go_simp; refine hK _ ?_; clear hK K
 refine Gr.line_nil fun w4 hw4 => ?_
 have HW4 := t_ HW1 hw4
 clear hw4 HA HB HW1
 go_wp2_with fail
 go_ret
 exact ⟨rfl, HW4.out⟩
theorem requal_call (a b : V) (w : World) : Calls Tryz.prog 217 #[vV a, vV b] w (Ret w (.int .i64 (eqT a b))) := requal0 a b w fun w' => rcmp_call a b w'
theorem rless_call (a b : V) (w : World) : Calls Tryz.prog 218 #[vV a, vV b] w (Ret w (.int .i64 (ltT a b))) := rless0 a b w fun w' => rcmp_call a b w'
theorem rnot_call (t : Int) (w : World) (ht : Tv t) : Calls Tryz.prog 142 #[.int .i64 t] w (Ret w (.int .i64 (notT t))) := by
 rcases ht with rfl | rfl | rfl <;>
  (go_enter Tryz.func142, Tryz.ntmps142
   go_wp2_with fail
   go_ret
   exact ⟨rfl, Below.refl _ _⟩)
theorem rand_call (a b : Int) (w : World) (ha : Tv a) (hb : Tv b) : Calls Tryz.prog 215 #[.int .i64 a, .int .i64 b] w (Ret w (.int .i64 (andT a b))) := by
 rcases ha with rfl | rfl | rfl <;> rcases hb with rfl | rfl | rfl <;>
  (go_enter Tryz.func215, Tryz.ntmps215
   go_wp2_with fail
   go_ret
   exact ⟨rfl, Below.refl _ _⟩)
theorem ror_call (a b : Int) (w : World) (ha : Tv a) (hb : Tv b) : Calls Tryz.prog 216 #[.int .i64 a, .int .i64 b] w (Ret w (.int .i64 (orT a b))) := by
 rcases ha with rfl | rfl | rfl <;> rcases hb with rfl | rfl | rfl <;>
  (go_enter Tryz.func216, Tryz.ntmps216
   go_wp2_with fail
   go_ret
   exact ⟨rfl, Below.refl _ _⟩)
theorem rvld_call (v : V) (w : World) (hs : v.t.length <= 140737488351232) : Calls Tryz.prog 219 #[vV v] w (Ret w (vV (orNullV v))) := by
 have HV := h_ fun w' => rvalid_call v.k v.i v.t w' hs
 have HO : Hid (orNullV v = if validV v.k v.i v.t then v else zV) := h_ rfl
 obtain ⟨k, i, t⟩ := v
 simp only at HV HO
 generalize validV k i t = b at HV HO
 unfold vV
 simp only
 clear hs
 go_enter Tryz.func219, Tryz.ntmps219
 go_upto_region 1 with (fail)
 refine nB fun w1 hB0 hB1 hw1 hz1 => ?_
 have HB0 := h_ hB0
 have HB1 := h_ hB1
 have HW1 := h_ hw1
 obtain ⟨p0, p1, p2⟩ := hB0.c3
 clear hB0 hB1 hw1 hz1
 go_wp2_with fail
 refine (HV.out w1).mono ?_
 rintro e w2 ⟨rfl, hw2⟩
 have HC0 := h_ (HB0.out.below hw2)
 have HC1 := h_ (HB1.out.below hw2)
 have HW2 := t_ HW1 hw2
 clear hw2 HB0 HB1 HW1 p0 p1 p2
 cases b with
 | false =>
  go_wp2_with fail
  refine (show Calls Tryz.prog 139 #[] w2 (Ret w2 (vV zV)) from null_call w2).mono ?_
  rintro e w3 ⟨rfl, hw3⟩
  have HD1 := h_ (HC1.out.below hw3)
  have HW3 := t_ HW2 hw3
  clear hw3 HC0 HC1 HW2
  unfold vV zV
  simp only
  obtain ⟨r0, r1, r2, f0, f1, f2⟩ := HD1.out.f3
  go_wp2_with fail
  refine name_set3W (K := fun w' => bodyPost _ _ _ _ _ w') HD1.out fun w9 hM => ?_
  exact bodyPost_ret (results_cell_row Tryz.results219 _ _ (w.heap.size + 1) _ _ (0, 0) _ rfl hM.blk Tryz.underlying29 rfl (by kernel_rfl)) rfl ⟨by rw [HO.out]; rfl, HW3.out.trans (hM.low.mono (by first | exact Nat.le_refl _ | omega))⟩
 | true =>
  obtain ⟨p0, p1, p2⟩ := HC0.out.c3
  obtain ⟨r0, r1, r2, f0, f1, f2⟩ := HC1.out.f3
  go_wp2_with fail
  refine name_set3W (K := fun w' => bodyPost _ _ _ _ _ w') HC1.out fun w9 hM => ?_
  exact bodyPost_ret (results_cell_row Tryz.results219 _ _ (w.heap.size + 1) _ _ (0, 0) _ rfl hM.blk Tryz.underlying29 rfl (by kernel_rfl)) rfl ⟨by rw [HO.out]; rfl, HW2.out.trans (hM.low.mono (by first | exact Nat.le_refl _ | omega))⟩
theorem rint_call (n : Int) (w : World) : Calls Tryz.prog 147 #[.int .i64 n] w (Ret w (vV (nV n))) := by
 have HC := h_ fun w' => (show Calls Tryz.prog 219 #[.agg #[.int .i64 1, .int .i64 n, .string ⟨#[]⟩]] w' (Ret w' (vV (nV n))) from rvld_call ⟨1, n, []⟩ w' (by simp))
 generalize nV n = q at HC |-
 obtain ⟨q0, q1, q2⟩ := q
 unfold vV at HC |-
 simp only at HC |-
 go_enter Tryz.func147, Tryz.ntmps147
 go_upto_region 1 with (fail)
 refine nA fun w1 hB0 hw1 hz1 => ?_
 have HB0 := h_ hB0
 have HW1 := h_ hw1
 clear hB0 hw1 hz1
 go_wp2_with fail
 refine (HC.out w1).mono ?_
 rintro e w2 ⟨rfl, hw2⟩
 have HC0 := h_ (HB0.out.below hw2)
 have HW2 := t_ HW1 hw2
 clear hw2 HB0 HW1
 obtain ⟨r0, r1, r2, f0, f1, f2⟩ := HC0.out.f3
 go_wp2_with fail
 refine name_set3W (K := fun w' => bodyPost _ _ _ _ _ w') HC0.out fun w9 hM => ?_
 exact bodyPost_ret (results_cell_row Tryz.results147 _ _ w.heap.size _ _ (0, 0) _ rfl hM.blk Tryz.underlying29 rfl (by kernel_rfl)) rfl ⟨rfl, HW2.out.trans (hM.low.mono (by first | exact Nat.le_refl _ | omega))⟩
theorem rtext_call (s : S) (w : World) (hs : s.length <= 140737488351232) : Calls Tryz.prog 220 #[.string ⟨s.toArray⟩] w (Ret w (vV (tV s))) := by
 have HC := h_ fun w' => (show Calls Tryz.prog 219 #[.agg #[.int .i64 2, .int .i64 0, .string ⟨s.toArray⟩]] w' (Ret w' (vV (tV s))) from rvld_call ⟨2, 0, s⟩ w' hs)
 generalize tV s = q at HC |-
 obtain ⟨q0, q1, q2⟩ := q
 unfold vV at HC |-
 simp only at HC |-
 go_enter Tryz.func220, Tryz.ntmps220
 go_upto_region 1 with (fail)
 refine nA fun w1 hB0 hw1 hz1 => ?_
 have HB0 := h_ hB0
 have HW1 := h_ hw1
 clear hB0 hw1 hz1
 go_wp2_with fail
 refine (HC.out w1).mono ?_
 rintro e w2 ⟨rfl, hw2⟩
 have HC0 := h_ (HB0.out.below hw2)
 have HW2 := t_ HW1 hw2
 clear hw2 HB0 HW1
 obtain ⟨r0, r1, r2, f0, f1, f2⟩ := HC0.out.f3
 go_wp2_with fail
 refine name_set3W (K := fun w' => bodyPost _ _ _ _ _ w') HC0.out fun w9 hM => ?_
 exact bodyPost_ret (results_cell_row Tryz.results220 _ _ w.heap.size _ _ (0, 0) _ rfl hM.blk Tryz.underlying29 rfl (by kernel_rfl)) rfl ⟨rfl, HW2.out.trans (hM.low.mono (by first | exact Nat.le_refl _ | omega))⟩
theorem rof_call (t : Int) (w : World) (ht : Tv t) : Calls Tryz.prog 141 #[.int .i64 t] w (Ret w (vV (ofT t))) := by
 have HZ : Hid (∀ w', Calls Tryz.prog 139 #[] w' (Ret w' (vV zV))) := h_ fun w' => null_call w'
 have HT : Hid (∀ w', Calls Tryz.prog 149 #[.bool true] w' (Ret w' (vV (bV true)))) := h_ fun w' => true_call w'
 have HF : Hid (∀ w', Calls Tryz.prog 149 #[.bool false] w' (Ret w' (vV (bV false)))) := h_ fun w' => false_call w'
 rcases ht with rfl | rfl | rfl
 ·have HE : Hid (ofT 0 = bV false) := h_ rfl
  go_enter Tryz.func141, Tryz.ntmps141
  go_upto_region 1 with (fail)
  refine nA fun w1 hB0 hw1 hz1 => ?_
  have HC0 := h_ hB0
  have HW2 := h_ hw1
  clear hB0 hw1 hz1
  go_wp2_with fail
  refine (HF.out w1).mono ?_
  rintro e w3 ⟨rfl, hw3⟩
  have HD0 := h_ (HC0.out.below hw3)
  have HW3 := t_ HW2 hw3
  clear hw3 HC0 HW2
  unfold vV bV
  simp only
  obtain ⟨r0, r1, r2, f0, f1, f2⟩ := HD0.out.f3
  go_wp2_with fail
  refine name_set3W (K := fun w' => bodyPost _ _ _ _ _ w') HD0.out fun w9 hM => ?_
  exact bodyPost_ret (results_cell_row Tryz.results141 _ _ w.heap.size _ _ (0, 0) _ rfl hM.blk Tryz.underlying29 rfl (by kernel_rfl)) rfl ⟨by rw [HE.out]; rfl, HW3.out.trans (hM.low.mono (by first | exact Nat.le_refl _ | omega))⟩
 ·have HE : Hid (ofT 1 = zV) := h_ rfl
  go_enter Tryz.func141, Tryz.ntmps141
  go_upto_region 1 with (fail)
  refine nA fun w1 hB0 hw1 hz1 => ?_
  have HC0 := h_ hB0
  have HW2 := h_ hw1
  clear hB0 hw1 hz1
  go_wp2_with fail
  refine (HZ.out w1).mono ?_
  rintro e w3 ⟨rfl, hw3⟩
  have HD0 := h_ (HC0.out.below hw3)
  have HW3 := t_ HW2 hw3
  clear hw3 HC0 HW2
  unfold vV zV
  simp only
  obtain ⟨r0, r1, r2, f0, f1, f2⟩ := HD0.out.f3
  go_wp2_with fail
  refine name_set3W (K := fun w' => bodyPost _ _ _ _ _ w') HD0.out fun w9 hM => ?_
  exact bodyPost_ret (results_cell_row Tryz.results141 _ _ w.heap.size _ _ (0, 0) _ rfl hM.blk Tryz.underlying29 rfl (by kernel_rfl)) rfl ⟨by rw [HE.out]; rfl, HW3.out.trans (hM.low.mono (by first | exact Nat.le_refl _ | omega))⟩
 ·have HE : Hid (ofT 2 = bV true) := h_ rfl
  go_enter Tryz.func141, Tryz.ntmps141
  go_upto_region 1 with (fail)
  refine nA fun w1 hB0 hw1 hz1 => ?_
  have HC0 := h_ hB0
  have HW2 := h_ hw1
  clear hB0 hw1 hz1
  go_wp2_with fail
  refine (HT.out w1).mono ?_
  rintro e w3 ⟨rfl, hw3⟩
  have HD0 := h_ (HC0.out.below hw3)
  have HW3 := t_ HW2 hw3
  clear hw3 HC0 HW2
  unfold vV bV
  simp only
  obtain ⟨r0, r1, r2, f0, f1, f2⟩ := HD0.out.f3
  go_wp2_with fail
  refine name_set3W (K := fun w' => bodyPost _ _ _ _ _ w') HD0.out fun w9 hM => ?_
  exact bodyPost_ret (results_cell_row Tryz.results141 _ _ w.heap.size _ _ (0, 0) _ rfl hM.blk Tryz.underlying29 rfl (by kernel_rfl)) rfl ⟨by rw [HE.out]; rfl, HW3.out.trans (hM.low.mono (by first | exact Nat.le_refl _ | omega))⟩
theorem rtruth_call (v : V) (w : World) : Calls Tryz.prog 143 #[vV v] w (Ret w (.int .i64 (truthV v))) := by
 have HT : Hid (∀ w', Calls Tryz.prog 149 #[.bool true] w' (Ret w' (.agg #[.int .i64 3, .int .i64 1, .string ⟨#[]⟩]))) := h_ fun w' => true_call w'
 have HF : Hid (∀ w', Calls Tryz.prog 149 #[.bool false] w' (Ret w' (.agg #[.int .i64 3, .int .i64 0, .string ⟨#[]⟩]))) := h_ fun w' => false_call w'
 obtain ⟨k, i, t⟩ := v
 have HR : Hid (truthV ⟨k, i, t⟩ = if k = 3 /\ i = 1 /\ t = [] then 2 else if k = 3 /\ i = 0 /\ t = [] then 0 else 1) := h_ rfl
 generalize truthV ⟨k, i, t⟩ = q at HR |-
 unfold vV
 simp only
 go_enter Tryz.func143, Tryz.ntmps143
 go_upto_region 1 with (fail)
 refine nA fun w1 hB0 hw1 hz1 => ?_
 have HB0 := h_ hB0
 have HW1 := h_ hw1
 clear hB0 hw1 hz1
 refine Gr.region_grow 2 (by kernel_rfl) (by kernel_rfl) (fun w' => Below w1.heap.size w1 w') ⟨rfl, rfl, rfl, Nat.le_refl _, fun _ _ => rfl⟩ ?_
 simp only [List.take_succ_cons, List.take_zero, List.drop_succ_cons, List.drop_zero]
 iterate 2
  first
  | apply Gr.sn (.agg #[.int .i64 3, .int .i64 1, .string ⟨#[]⟩]); focus (go_simp; intro w' hw'; go_simp; rw [Gr.grown_enter]; exact Ret.fam (HT.out w') hw'; done)
  | apply Gr.sn; focus (go_simp; intro w' hw'; have p0 := (HB0.out.below hw').cell 0 rfl; have p1 := (HB0.out.below hw').cell 1 rfl; have p2 := (HB0.out.below hw').cell 2 rfl; go_simp; rw [Gr.grown_value]; done)
  intro K hK; go_simp; refine hK _ ?_; clear hK K
 refine Gr.line_nil fun w2 hw => ?_
 have HW2 := t_ HW1 hw
 have HB2 := h_ (HB0.out.below hw)
 clear hw
 clear HB0 HW1
 by_cases hk : k = 3
 ·subst hk
  by_cases ht : t = []
  ·subst ht
   by_cases h1 : i = 1
   ·subst h1
    have HQ : Hid (q = 2) := h_ (by rw [HR.out]; simp)
    clear HR
    go_wp2_with fail
    go_ret
    exact ⟨by rw [HQ.out]; try rfl, HW2.out⟩
   ·have e1 : (i == 1) = false := by simpa using h1
    go_upto_region 3 with (fail)
    refine Gr.region_grow 2 (by kernel_rfl) (by kernel_rfl) (fun w' => Below w2.heap.size w2 w') ⟨rfl, rfl, rfl, Nat.le_refl _, fun _ _ => rfl⟩ ?_
    simp only [List.take_succ_cons, List.take_zero, List.drop_succ_cons, List.drop_zero]
    iterate 2
     first
     | apply Gr.sn (.agg #[.int .i64 3, .int .i64 0, .string ⟨#[]⟩]); focus (go_simp; intro w' hw'; go_simp; rw [Gr.grown_enter]; exact Ret.fam (HF.out w') hw'; done)
     | apply Gr.sn; focus (go_simp; intro w' hw'; have p0 := (HB2.out.below hw').cell 0 rfl; have p1 := (HB2.out.below hw').cell 1 rfl; have p2 := (HB2.out.below hw').cell 2 rfl; go_simp; rw [Gr.grown_value]; done)
     intro K hK; go_simp; refine hK _ ?_; clear hK K
    refine Gr.line_nil fun w3 hw => ?_
    have HW3 := t_ HW2 hw
    have HB3 := h_ (HB2.out.below hw)
    clear hw
    by_cases h0 : i = 0
    ·subst h0
     have HQ : Hid (q = 0) := h_ (by rw [HR.out]; simp)
     clear HR h1 e1
     go_wp2_with fail
     go_ret
     exact ⟨by rw [HQ.out]; try rfl, HW3.out⟩
    ·have e0 : (i == 0) = false := by simpa using h0
     have HQ : Hid (q = 1) := h_ (by rw [HR.out]; simp [h0, h1])
     clear HR h1 h0 e1
     go_wp2_with fail
     go_ret
     exact ⟨by rw [HQ.out]; try rfl, HW3.out⟩
  ·have HQ : Hid (q = 1) := h_ (by rw [HR.out]; simp [ht])
   have et : t.isEmpty = false := by cases t; exact absurd rfl ht; rfl
   have et2 : (t == []) = false := by simpa using ht
   clear HR ht
   go_upto_region 3 with (fail)
   refine Gr.region_grow 2 (by kernel_rfl) (by kernel_rfl) (fun w' => Below w2.heap.size w2 w') ⟨rfl, rfl, rfl, Nat.le_refl _, fun _ _ => rfl⟩ ?_
   simp only [List.take_succ_cons, List.take_zero, List.drop_succ_cons, List.drop_zero]
   iterate 2
    first
    | apply Gr.sn (.agg #[.int .i64 3, .int .i64 0, .string ⟨#[]⟩]); focus (go_simp; intro w' hw'; go_simp; rw [Gr.grown_enter]; exact Ret.fam (HF.out w') hw'; done)
    | apply Gr.sn; focus (go_simp; intro w' hw'; have p0 := (HB2.out.below hw').cell 0 rfl; have p1 := (HB2.out.below hw').cell 1 rfl; have p2 := (HB2.out.below hw').cell 2 rfl; go_simp; rw [Gr.grown_value]; done)
    intro K hK; go_simp; refine hK _ ?_; clear hK K
   refine Gr.line_nil fun w3 hw => ?_
   have HW3 := t_ HW2 hw
   have HB3 := h_ (HB2.out.below hw)
   clear hw
   go_wp2_with fail
   go_ret
   exact ⟨by rw [HQ.out]; try rfl, HW3.out⟩
 ·have HQ : Hid (q = 1) := h_ (by rw [HR.out]; simp [hk])
  have ek : (k == 3) = false := by simpa using hk
  clear HR hk
  go_upto_region 3 with (fail)
  refine Gr.region_grow 2 (by kernel_rfl) (by kernel_rfl) (fun w' => Below w2.heap.size w2 w') ⟨rfl, rfl, rfl, Nat.le_refl _, fun _ _ => rfl⟩ ?_
  simp only [List.take_succ_cons, List.take_zero, List.drop_succ_cons, List.drop_zero]
  iterate 2
   first
   | apply Gr.sn (.agg #[.int .i64 3, .int .i64 0, .string ⟨#[]⟩]); focus (go_simp; intro w' hw'; go_simp; rw [Gr.grown_enter]; exact Ret.fam (HF.out w') hw'; done)
   | apply Gr.sn; focus (go_simp; intro w' hw'; have p0 := (HB2.out.below hw').cell 0 rfl; have p1 := (HB2.out.below hw').cell 1 rfl; have p2 := (HB2.out.below hw').cell 2 rfl; go_simp; rw [Gr.grown_value]; done)
   intro K hK; go_simp; refine hK _ ?_; clear hK K
  refine Gr.line_nil fun w3 hw => ?_
  have HW3 := t_ HW2 hw
  have HB3 := h_ (HB2.out.below hw)
  clear hw
  go_wp2_with fail
  go_ret
  exact ⟨by rw [HQ.out]; try rfl, HW3.out⟩
theorem pcomp_call (op : Int) (a b : V) (w : World) (ho : op = 7 \/ op = 8 \/ op = 9 \/ op = 10 \/ op = 11 \/ op = 12) : Calls Tryz.prog 82 #[.int .i64 op, vV a, vV b] w (Ret w (.int .i64 (compT op a b))) := by
 have HE := h_ fun w' => pequal_call a b w'
 have HL := h_ fun w' => pless_call a b w'
 have HM := h_ fun w' => pless_call b a w'
 have HN := h_ fun t (ht : Tv t) w' => pnot_call t w' ht
 have te := h_ (eqT_tv a b)
 have tl := h_ (ltT_tv a b)
 have tm := h_ (ltT_tv b a)
 have HC : Hid (∀ op, compT op a b = if op = 7 then eqT a b else if op = 8 then notT (eqT a b) else if op = 9 then ltT a b else if op = 11 then ltT b a else if op = 10 then notT (ltT b a) else notT (ltT a b)) := h_ fun _ => rfl
 generalize eqT a b = E at HE te HC
 generalize ltT a b = L at HL tl HC
 generalize ltT b a = M at HM tm HC
 generalize hq : compT op a b = q
 have HQ := h_ hq.symm
 clear hq
 obtain ⟨ak, ai, at'⟩ := a
 obtain ⟨bk, bi, bt⟩ := b
 unfold vV at HE HL HM |-
 simp only at HE HL HM |-
 rcases ho with rfl | rfl | rfl | rfl | rfl | rfl
 ·have HZ : Hid (q = E) := h_ (by rw [HQ.out, HC.out]; rfl)
  clear HQ HC
  go_enter Tryz.func82, Tryz.ntmps82
  go_upto_region 1 with (fail)
  refine nB fun w1 hA hB hw1 hz1 => ?_
  obtain ⟨p0, p1, p2⟩ := hA.c3
  obtain ⟨q0, q1, q2⟩ := hB.c3
  have HW1 := h_ hw1
  clear hA hB hw1 hz1
  go_wp2_with fail
  refine (HE.out w1).mono ?_
  rintro e w2 ⟨rfl, hw2⟩
  have HW2 := t_ HW1 hw2
  clear hw2 HW1 p0 p1 p2 q0 q1 q2
  go_wp2_with fail
  go_ret
  exact ⟨by rw [HZ.out]; rfl, HW2.out⟩
 ·have HZ : Hid (q = notT E) := h_ (by rw [HQ.out, HC.out]; rfl)
  clear HQ HC
  go_enter Tryz.func82, Tryz.ntmps82
  go_upto_region 1 with (fail)
  refine nB fun w1 hA hB hw1 hz1 => ?_
  obtain ⟨p0, p1, p2⟩ := hA.c3
  obtain ⟨q0, q1, q2⟩ := hB.c3
  have HW1 := h_ hw1
  clear hA hB hw1 hz1
  go_wp2_with fail
  refine (HE.out w1).mono ?_
  rintro e w2 ⟨rfl, hw2⟩
  have HW2 := t_ HW1 hw2
  clear hw2 HW1 p0 p1 p2 q0 q1 q2
  go_wp2_with fail
  refine (HN.out E te.out w2).mono ?_
  rintro e w3 ⟨rfl, hw3⟩
  have HW3 := t_ HW2 hw3
  clear hw3 HW2
  go_wp2_with fail
  go_ret
  exact ⟨by rw [HZ.out]; rfl, HW3.out⟩
 ·have HZ : Hid (q = L) := h_ (by rw [HQ.out, HC.out]; rfl)
  clear HQ HC
  go_enter Tryz.func82, Tryz.ntmps82
  go_upto_region 1 with (fail)
  refine nB fun w1 hA hB hw1 hz1 => ?_
  obtain ⟨p0, p1, p2⟩ := hA.c3
  obtain ⟨q0, q1, q2⟩ := hB.c3
  have HW1 := h_ hw1
  clear hA hB hw1 hz1
  go_wp2_with fail
  refine (HL.out w1).mono ?_
  rintro e w2 ⟨rfl, hw2⟩
  have HW2 := t_ HW1 hw2
  clear hw2 HW1 p0 p1 p2 q0 q1 q2
  go_wp2_with fail
  go_ret
  exact ⟨by rw [HZ.out]; rfl, HW2.out⟩
 ·have HZ : Hid (q = notT M) := h_ (by rw [HQ.out, HC.out]; rfl)
  clear HQ HC
  go_enter Tryz.func82, Tryz.ntmps82
  go_upto_region 1 with (fail)
  refine nB fun w1 hA hB hw1 hz1 => ?_
  obtain ⟨p0, p1, p2⟩ := hA.c3
  obtain ⟨q0, q1, q2⟩ := hB.c3
  have HW1 := h_ hw1
  clear hA hB hw1 hz1
  go_wp2_with fail
  refine (HM.out w1).mono ?_
  rintro e w2 ⟨rfl, hw2⟩
  have HW2 := t_ HW1 hw2
  clear hw2 HW1 p0 p1 p2 q0 q1 q2
  go_wp2_with fail
  refine (HN.out M tm.out w2).mono ?_
  rintro e w3 ⟨rfl, hw3⟩
  have HW3 := t_ HW2 hw3
  clear hw3 HW2
  go_wp2_with fail
  go_ret
  exact ⟨by rw [HZ.out]; rfl, HW3.out⟩
 ·have HZ : Hid (q = M) := h_ (by rw [HQ.out, HC.out]; rfl)
  clear HQ HC
  go_enter Tryz.func82, Tryz.ntmps82
  go_upto_region 1 with (fail)
  refine nB fun w1 hA hB hw1 hz1 => ?_
  obtain ⟨p0, p1, p2⟩ := hA.c3
  obtain ⟨q0, q1, q2⟩ := hB.c3
  have HW1 := h_ hw1
  clear hA hB hw1 hz1
  go_wp2_with fail
  refine (HM.out w1).mono ?_
  rintro e w2 ⟨rfl, hw2⟩
  have HW2 := t_ HW1 hw2
  clear hw2 HW1 p0 p1 p2 q0 q1 q2
  go_wp2_with fail
  go_ret
  exact ⟨by rw [HZ.out]; rfl, HW2.out⟩
 ·have HZ : Hid (q = notT L) := h_ (by rw [HQ.out, HC.out]; rfl)
  clear HQ HC
  go_enter Tryz.func82, Tryz.ntmps82
  go_upto_region 1 with (fail)
  refine nB fun w1 hA hB hw1 hz1 => ?_
  obtain ⟨p0, p1, p2⟩ := hA.c3
  obtain ⟨q0, q1, q2⟩ := hB.c3
  have HW1 := h_ hw1
  clear hA hB hw1 hz1
  go_wp2_with fail
  refine (HL.out w1).mono ?_
  rintro e w2 ⟨rfl, hw2⟩
  have HW2 := t_ HW1 hw2
  clear hw2 HW1 p0 p1 p2 q0 q1 q2
  go_wp2_with fail
  refine (HN.out L tl.out w2).mono ?_
  rintro e w3 ⟨rfl, hw3⟩
  have HW3 := t_ HW2 hw3
  clear hw3 HW2
  go_wp2_with fail
  go_ret
  exact ⟨by rw [HZ.out]; rfl, HW3.out⟩
theorem rcomp_call (op : Int) (a b : V) (w : World) (ho : op = 7 \/ op = 8 \/ op = 9 \/ op = 10 \/ op = 11 \/ op = 12) : Calls Tryz.prog 145 #[.int .i64 op, vV a, vV b] w (Ret w (.int .i64 (compT op a b))) := by
 have HE := h_ fun w' => requal_call a b w'
 have HL := h_ fun w' => rless_call a b w'
 have HM := h_ fun w' => rless_call b a w'
 have HN := h_ fun t (ht : Tv t) w' => rnot_call t w' ht
 have te := h_ (eqT_tv a b)
 have tl := h_ (ltT_tv a b)
 have tm := h_ (ltT_tv b a)
 have HC : Hid (∀ op, compT op a b = if op = 7 then eqT a b else if op = 8 then notT (eqT a b) else if op = 9 then ltT a b else if op = 11 then ltT b a else if op = 10 then notT (ltT b a) else notT (ltT a b)) := h_ fun _ => rfl
 generalize eqT a b = E at HE te HC
 generalize ltT a b = L at HL tl HC
 generalize ltT b a = M at HM tm HC
 generalize hq : compT op a b = q
 have HQ := h_ hq.symm
 clear hq
 obtain ⟨ak, ai, at'⟩ := a
 obtain ⟨bk, bi, bt⟩ := b
 unfold vV at HE HL HM |-
 simp only at HE HL HM |-
 rcases ho with rfl | rfl | rfl | rfl | rfl | rfl
 ·have HZ : Hid (q = E) := h_ (by rw [HQ.out, HC.out]; rfl)
  clear HQ HC
  go_enter Tryz.func145, Tryz.ntmps145
  go_upto_region 1 with (fail)
  refine nB fun w1 hA hB hw1 hz1 => ?_
  obtain ⟨p0, p1, p2⟩ := hA.c3
  obtain ⟨q0, q1, q2⟩ := hB.c3
  have HW1 := h_ hw1
  clear hA hB hw1 hz1
  go_wp2_with fail
  refine (HE.out w1).mono ?_
  rintro e w2 ⟨rfl, hw2⟩
  have HW2 := t_ HW1 hw2
  clear hw2 HW1 p0 p1 p2 q0 q1 q2
  go_wp2_with fail
  go_ret
  exact ⟨by rw [HZ.out]; rfl, HW2.out⟩
 ·have HZ : Hid (q = notT E) := h_ (by rw [HQ.out, HC.out]; rfl)
  clear HQ HC
  go_enter Tryz.func145, Tryz.ntmps145
  go_upto_region 1 with (fail)
  refine nB fun w1 hA hB hw1 hz1 => ?_
  obtain ⟨p0, p1, p2⟩ := hA.c3
  obtain ⟨q0, q1, q2⟩ := hB.c3
  have HW1 := h_ hw1
  clear hA hB hw1 hz1
  go_wp2_with fail
  refine (HE.out w1).mono ?_
  rintro e w2 ⟨rfl, hw2⟩
  have HW2 := t_ HW1 hw2
  clear hw2 HW1 p0 p1 p2 q0 q1 q2
  go_wp2_with fail
  refine (HN.out E te.out w2).mono ?_
  rintro e w3 ⟨rfl, hw3⟩
  have HW3 := t_ HW2 hw3
  clear hw3 HW2
  go_wp2_with fail
  go_ret
  exact ⟨by rw [HZ.out]; rfl, HW3.out⟩
 ·have HZ : Hid (q = L) := h_ (by rw [HQ.out, HC.out]; rfl)
  clear HQ HC
  go_enter Tryz.func145, Tryz.ntmps145
  go_upto_region 1 with (fail)
  refine nB fun w1 hA hB hw1 hz1 => ?_
  obtain ⟨p0, p1, p2⟩ := hA.c3
  obtain ⟨q0, q1, q2⟩ := hB.c3
  have HW1 := h_ hw1
  clear hA hB hw1 hz1
  go_wp2_with fail
  refine (HL.out w1).mono ?_
  rintro e w2 ⟨rfl, hw2⟩
  have HW2 := t_ HW1 hw2
  clear hw2 HW1 p0 p1 p2 q0 q1 q2
  go_wp2_with fail
  go_ret
  exact ⟨by rw [HZ.out]; rfl, HW2.out⟩
 ·have HZ : Hid (q = notT M) := h_ (by rw [HQ.out, HC.out]; rfl)
  clear HQ HC
  go_enter Tryz.func145, Tryz.ntmps145
  go_upto_region 1 with (fail)
  refine nB fun w1 hA hB hw1 hz1 => ?_
  obtain ⟨p0, p1, p2⟩ := hA.c3
  obtain ⟨q0, q1, q2⟩ := hB.c3
  have HW1 := h_ hw1
  clear hA hB hw1 hz1
  go_wp2_with fail
  refine (HM.out w1).mono ?_
  rintro e w2 ⟨rfl, hw2⟩
  have HW2 := t_ HW1 hw2
  clear hw2 HW1 p0 p1 p2 q0 q1 q2
  go_wp2_with fail
  refine (HN.out M tm.out w2).mono ?_
  rintro e w3 ⟨rfl, hw3⟩
  have HW3 := t_ HW2 hw3
  clear hw3 HW2
  go_wp2_with fail
  go_ret
  exact ⟨by rw [HZ.out]; rfl, HW3.out⟩
 ·have HZ : Hid (q = M) := h_ (by rw [HQ.out, HC.out]; rfl)
  clear HQ HC
  go_enter Tryz.func145, Tryz.ntmps145
  go_upto_region 1 with (fail)
  refine nB fun w1 hA hB hw1 hz1 => ?_
  obtain ⟨p0, p1, p2⟩ := hA.c3
  obtain ⟨q0, q1, q2⟩ := hB.c3
  have HW1 := h_ hw1
  clear hA hB hw1 hz1
  go_wp2_with fail
  refine (HM.out w1).mono ?_
  rintro e w2 ⟨rfl, hw2⟩
  have HW2 := t_ HW1 hw2
  clear hw2 HW1 p0 p1 p2 q0 q1 q2
  go_wp2_with fail
  go_ret
  exact ⟨by rw [HZ.out]; rfl, HW2.out⟩
 ·have HZ : Hid (q = notT L) := h_ (by rw [HQ.out, HC.out]; rfl)
  clear HQ HC
  go_enter Tryz.func145, Tryz.ntmps145
  go_upto_region 1 with (fail)
  refine nB fun w1 hA hB hw1 hz1 => ?_
  obtain ⟨p0, p1, p2⟩ := hA.c3
  obtain ⟨q0, q1, q2⟩ := hB.c3
  have HW1 := h_ hw1
  clear hA hB hw1 hz1
  go_wp2_with fail
  refine (HL.out w1).mono ?_
  rintro e w2 ⟨rfl, hw2⟩
  have HW2 := t_ HW1 hw2
  clear hw2 HW1 p0 p1 p2 q0 q1 q2
  go_wp2_with fail
  refine (HN.out L tl.out w2).mono ?_
  rintro e w3 ⟨rfl, hw3⟩
  have HW3 := t_ HW2 hw3
  clear hw3 HW2
  go_wp2_with fail
  go_ret
  exact ⟨by rw [HZ.out]; rfl, HW3.out⟩
theorem rabs_call (a : Int) (w : World) (ha : -1125899906842624 <= a /\ a <= 1125899906842624) : Calls Tryz.prog 222 #[.int .i64 a] w (Ret w (.int .i64 (absI a))) := by
 have HA : Hid (absI a = max a (-a)) := h_ rfl
 rw [HA.out]
 obtain ⟨ha1, ha2⟩ := ha
 go_enter Tryz.func222, Tryz.ntmps222
 go_wp2_with fail
 go_ret
 exact ⟨rfl, Below.refl _ _⟩
theorem pprod_call (a b : Int) (w : World) (ha : -1125899906842624 <= a /\ a <= 1125899906842624) (hb : -1125899906842624 <= b /\ b <= 1125899906842624) : Calls Tryz.prog 133 #[.int .i64 a, .int .i64 b] w (Ret w (vV (prodV a b))) := by
 have HI := h_ pint_call
 have HZ := h_ pnull_call
 have HP : Hid (prodV a b = if a ≠ 0 /\ 1125899906842624 / absI a < absI b then zV else nV (a * b)) := h_ rfl
 have HB : Hid (a ≠ 0 -> ¬ 1125899906842624 / absI a < absI b -> -1125899906842624 <= a * b /\ a * b <= 1125899906842624) := h_ fun h1 h2 => prod_bound h1 h2
 obtain ⟨ha1, ha2⟩ := ha
 obtain ⟨hb1, hb2⟩ := hb
 go_enter Tryz.func133, Tryz.ntmps133
 go_upto_region 1 with (fail)
 refine nA fun w1 hB0 hw1 hz1 => ?_
 have HC := h_ hB0
 have HW := h_ hw1
 clear hB0 hw1 hz1
 by_cases h0 : a = 0
 ·subst h0
  have HQ : Hid (prodV 0 b = nV 0) := h_ (by rw [HP.out]; simp)
  clear HP HB
  go_wp2_with fail
  refine (HI.out 0 w1).mono ?_
  rintro e w2 ⟨rfl, hw2⟩
  have HD := h_ (HC.out.below hw2)
  have HX := t_ HW hw2
  clear hw2 HC HW
  generalize nV 0 = q at HQ |-
  obtain ⟨q0, q1, q2⟩ := q
  unfold vV
  simp only
  obtain ⟨r0, r1, r2, f0, f1, f2⟩ := HD.out.f3
  go_wp2_with fail
  refine name_set3W (K := fun w' => bodyPost _ _ _ _ _ w') HD.out fun w9 hM => ?_
  exact bodyPost_ret (results_cell_row Tryz.results133 _ _ w.heap.size _ _ (0, 0) _ rfl hM.blk Tryz.underlying29 rfl (by kernel_rfl)) rfl ⟨by rw [HQ.out]; rfl, HX.out.trans (hM.low.mono (by first | exact Nat.le_refl _ | omega))⟩
 ·have e0 : (a != 0) = true := by simp [h0]
  by_cases h1 : 1125899906842624 / max a (-a) < max b (-b)
  ·have HQ : Hid (prodV a b = zV) := h_ (by rw [HP.out, if_pos ⟨h0, h1⟩])
   clear HP HB
   go_wp2_with fail
   refine (HZ.out w1).mono ?_
   rintro e w2 ⟨rfl, hw2⟩
   have HD := h_ (HC.out.below hw2)
   have HX := t_ HW hw2
   clear hw2 HC HW
   generalize zV = q at HQ |-
   obtain ⟨q0, q1, q2⟩ := q
   unfold vV
   simp only
   obtain ⟨r0, r1, r2, f0, f1, f2⟩ := HD.out.f3
   go_wp2_with fail
   refine name_set3W (K := fun w' => bodyPost _ _ _ _ _ w') HD.out fun w9 hM => ?_
   exact bodyPost_ret (results_cell_row Tryz.results133 _ _ w.heap.size _ _ (0, 0) _ rfl hM.blk Tryz.underlying29 rfl (by kernel_rfl)) rfl ⟨by rw [HQ.out]; rfl, HX.out.trans (hM.low.mono (by first | exact Nat.le_refl _ | omega))⟩
  ·have HQ : Hid (prodV a b = nV (a * b)) := h_ (by rw [HP.out, if_neg (fun h => h1 h.2)])
   have ew : wrap64 (a * b) = a * b := by obtain ⟨x1, x2⟩ := HB.out h0 h1; unfold wrap64; omega
   have HEW := h_ ew
   clear HP HB ew
   go_wp2_with fail
   rw [HEW.out]
   refine (HI.out (a * b) w1).mono ?_
   rintro e w2 ⟨rfl, hw2⟩
   have HD := h_ (HC.out.below hw2)
   have HX := t_ HW hw2
   clear hw2 HC HW
   generalize nV (a * b) = q at HQ |-
   obtain ⟨q0, q1, q2⟩ := q
   unfold vV
   simp only
   obtain ⟨r0, r1, r2, f0, f1, f2⟩ := HD.out.f3
   go_wp2_with fail
   refine name_set3W (K := fun w' => bodyPost _ _ _ _ _ w') HD.out fun w9 hM => ?_
   exact bodyPost_ret (results_cell_row Tryz.results133 _ _ w.heap.size _ _ (0, 0) _ rfl hM.blk Tryz.underlying29 rfl (by kernel_rfl)) rfl ⟨by rw [HQ.out]; rfl, HX.out.trans (hM.low.mono (by first | exact Nat.le_refl _ | omega))⟩
theorem tdiv_abs (a b : Int) : (a.tdiv b).natAbs <= a.natAbs := by rw [Int.natAbs_tdiv]; exact Nat.div_le_self _ _
theorem rcomputed_call (op a b : Int) (w : World) (ho : op = 13 \/ op = 14 \/ op = 15 \/ op = 16 \/ op = 17) (ha : -1125899906842624 <= a /\ a <= 1125899906842624) (hb : -1125899906842624 <= b /\ b <= 1125899906842624) : Calls Tryz.prog 152 #[.int .i64 op, .int .i64 a, .int .i64 b] w (Ret w (vV (arithV op a b))) := by
 have HI := h_ rint_call
 have HZ : Hid (∀ w', Calls Tryz.prog 139 #[] w' (Ret w' (vV zV))) := h_ fun w' => null_call w'
 have HA := h_ fun w' => rabs_call a w' ha
 have HB := h_ fun w' => rabs_call b w' hb
 have HP : Hid (∀ op, arithV op a b = if op = 13 then nV (a + b) else if op = 14 then nV (a - b) else if op = 15 then prodV a b else if op = 18 then nV (-a) else if b = 0 then zV else if op = 16 then nV (a.tdiv b) else nV (a.tmod b)) := h_ fun _ => rfl
 have HPP : Hid (prodV a b = if a ≠ 0 /\ 1125899906842624 / absI a < absI b then zV else nV (a * b)) := h_ rfl
 have HPB : Hid (a ≠ 0 -> ¬ 1125899906842624 / absI a < absI b -> -1125899906842624 <= a * b /\ a * b <= 1125899906842624) := h_ fun h1 h2 => prod_bound h1 h2
 have HM : Hid (∀ x, absI x = max x (-x)) := h_ fun _ => rfl
 obtain ⟨ha1, ha2⟩ := ha
 obtain ⟨hb1, hb2⟩ := hb
 generalize hr : arithV op a b = r
 have HR := h_ hr.symm
 clear hr
 rcases ho with rfl | rfl | rfl | rfl | rfl
 ·have HQ : Hid (r = nV (a + b)) := h_ (by rw [HR.out, HP.out]; rfl)
  clear HR HP HPP HPB HM
  go_enter Tryz.func152, Tryz.ntmps152
  go_upto_region 1 with (fail)
  refine nA fun w1 hB0 hw1 hz1 => ?_
  have HC := h_ hB0
  have HW := h_ hw1
  clear hB0 hw1 hz1
  go_wp2_with fail
  refine (HI.out (a + b) w1).mono ?_
  rintro e w2 ⟨rfl, hw2⟩
  have HD := h_ (HC.out.below hw2)
  have HX := t_ HW hw2
  clear hw2 HC HW
  generalize nV (a + b) = q at HQ |-
  obtain ⟨q0, q1, q2⟩ := q
  unfold vV
  simp only
  obtain ⟨r0, r1, r2, f0, f1, f2⟩ := HD.out.f3
  go_wp2_with fail
  refine name_set3W (K := fun w' => bodyPost _ _ _ _ _ w') HD.out fun w9 hM => ?_
  exact bodyPost_ret (results_cell_row Tryz.results152 _ _ w.heap.size _ _ (0, 0) _ rfl hM.blk Tryz.underlying29 rfl (by kernel_rfl)) rfl ⟨by rw [HQ.out]; rfl, HX.out.trans (hM.low.mono (by first | exact Nat.le_refl _ | omega))⟩
 ·have HQ : Hid (r = nV (a - b)) := h_ (by rw [HR.out, HP.out]; rfl)
  clear HR HP HPP HPB HM
  go_enter Tryz.func152, Tryz.ntmps152
  go_upto_region 1 with (fail)
  refine nA fun w1 hB0 hw1 hz1 => ?_
  have HC := h_ hB0
  have HW := h_ hw1
  clear hB0 hw1 hz1
  go_wp2_with fail
  refine (HI.out (a - b) w1).mono ?_
  rintro e w2 ⟨rfl, hw2⟩
  have HD := h_ (HC.out.below hw2)
  have HX := t_ HW hw2
  clear hw2 HC HW
  generalize nV (a - b) = q at HQ |-
  obtain ⟨q0, q1, q2⟩ := q
  unfold vV
  simp only
  obtain ⟨r0, r1, r2, f0, f1, f2⟩ := HD.out.f3
  go_wp2_with fail
  refine name_set3W (K := fun w' => bodyPost _ _ _ _ _ w') HD.out fun w9 hM => ?_
  exact bodyPost_ret (results_cell_row Tryz.results152 _ _ w.heap.size _ _ (0, 0) _ rfl hM.blk Tryz.underlying29 rfl (by kernel_rfl)) rfl ⟨by rw [HQ.out]; rfl, HX.out.trans (hM.low.mono (by first | exact Nat.le_refl _ | omega))⟩
 ·have HQP : Hid (r = prodV a b) := h_ (by rw [HR.out, HP.out]; rfl)
  clear HR HP
  by_cases h0 : a = 0
  ·have HQ : Hid (r = nV 0) := h_ (by rw [HQP.out, HPP.out, h0]; simp)
   clear HQP HPP HPB HM
   subst h0
   go_enter Tryz.func152, Tryz.ntmps152
   go_upto_region 1 with (fail)
   refine nA fun w1 hB0 hw1 hz1 => ?_
   have HC := h_ hB0
   have HW := h_ hw1
   clear hB0 hw1 hz1
   go_wp2_with fail
   refine (HI.out 0 w1).mono ?_
   rintro e w2 ⟨rfl, hw2⟩
   have HD := h_ (HC.out.below hw2)
   have HX := t_ HW hw2
   clear hw2 HC HW
   generalize nV 0 = q at HQ |-
   obtain ⟨q0, q1, q2⟩ := q
   unfold vV
   simp only
   obtain ⟨r0, r1, r2, f0, f1, f2⟩ := HD.out.f3
   go_wp2_with fail
   refine name_set3W (K := fun w' => bodyPost _ _ _ _ _ w') HD.out fun w9 hM => ?_
   exact bodyPost_ret (results_cell_row Tryz.results152 _ _ w.heap.size _ _ (0, 0) _ rfl hM.blk Tryz.underlying29 rfl (by kernel_rfl)) rfl ⟨by rw [HQ.out]; rfl, HX.out.trans (hM.low.mono (by first | exact Nat.le_refl _ | omega))⟩
  ·have e0 : (a != 0) = true := by simp [h0]
   have hp : 0 < absI a := by rw [HM.out]; omega
   have hp2 : absI a <= 1125899906842624 := by rw [HM.out]; omega
   have hp3 : 0 <= absI b := by rw [HM.out]; omega
   have hp4 : absI b <= 1125899906842624 := by rw [HM.out]; omega
   by_cases h1 : 1125899906842624 / absI a < absI b
   ·have HQ : Hid (r = zV) := h_ (by rw [HQP.out, HPP.out, if_pos ⟨h0, h1⟩])
    clear HQP HPP HPB HM
    generalize absI a = A at HA hp hp2 h1
    generalize absI b = B at HB hp3 hp4 h1
    go_enter Tryz.func152, Tryz.ntmps152
    go_upto_region 1 with (fail)
    refine nA fun w1 hB0 hw1 hz1 => ?_
    have HC := h_ hB0
    have HW := h_ hw1
    clear hB0 hw1 hz1
    go_wp2_with fail
    refine (HB.out w1).mono ?_
    rintro e w2 ⟨rfl, hw2⟩
    have HC := h_ (HC.out.below hw2)
    have HW := t_ HW hw2
    clear hw2
    go_wp2_with fail
    refine (HA.out w2).mono ?_
    rintro e w3 ⟨rfl, hw2⟩
    have HC := h_ (HC.out.below hw2)
    have HW := t_ HW hw2
    clear hw2
    go_wp2_with fail
    refine (HZ.out w3).mono ?_
    rintro e w4 ⟨rfl, hw4⟩
    have HD := h_ (HC.out.below hw4)
    have HX := t_ HW hw4
    clear hw4 HC HW
    generalize zV = q at HQ |-
    obtain ⟨q0, q1, q2⟩ := q
    unfold vV
    simp only
    obtain ⟨r0, r1, r2, f0, f1, f2⟩ := HD.out.f3
    go_wp2_with fail
    refine name_set3W (K := fun w' => bodyPost _ _ _ _ _ w') HD.out fun w9 hM => ?_
    exact bodyPost_ret (results_cell_row Tryz.results152 _ _ w.heap.size _ _ (0, 0) _ rfl hM.blk Tryz.underlying29 rfl (by kernel_rfl)) rfl ⟨by rw [HQ.out]; rfl, HX.out.trans (hM.low.mono (by first | exact Nat.le_refl _ | omega))⟩
   ·have HQ : Hid (r = nV (a * b)) := h_ (by rw [HQP.out, HPP.out, if_neg (fun h => h1 h.2)])
    have ew : wrap64 (a * b) = a * b := by obtain ⟨x1, x2⟩ := HPB.out h0 h1; unfold wrap64; omega
    have HEW := h_ ew
    clear HQP HPP HPB HM ew
    generalize absI a = A at HA hp hp2 h1
    generalize absI b = B at HB hp3 hp4 h1
    go_enter Tryz.func152, Tryz.ntmps152
    go_upto_region 1 with (fail)
    refine nA fun w1 hB0 hw1 hz1 => ?_
    have HC := h_ hB0
    have HW := h_ hw1
    clear hB0 hw1 hz1
    go_wp2_with fail
    refine (HB.out w1).mono ?_
    rintro e w2 ⟨rfl, hw2⟩
    have HC := h_ (HC.out.below hw2)
    have HW := t_ HW hw2
    clear hw2
    go_wp2_with fail
    refine (HA.out w2).mono ?_
    rintro e w3 ⟨rfl, hw2⟩
    have HC := h_ (HC.out.below hw2)
    have HW := t_ HW hw2
    clear hw2
    go_wp2_with fail
    rw [HEW.out]
    refine (HI.out (a * b) w3).mono ?_
    rintro e w4 ⟨rfl, hw4⟩
    have HD := h_ (HC.out.below hw4)
    have HX := t_ HW hw4
    clear hw4 HC HW
    generalize nV (a * b) = q at HQ |-
    obtain ⟨q0, q1, q2⟩ := q
    unfold vV
    simp only
    obtain ⟨r0, r1, r2, f0, f1, f2⟩ := HD.out.f3
    go_wp2_with fail
    refine name_set3W (K := fun w' => bodyPost _ _ _ _ _ w') HD.out fun w9 hM => ?_
    exact bodyPost_ret (results_cell_row Tryz.results152 _ _ w.heap.size _ _ (0, 0) _ rfl hM.blk Tryz.underlying29 rfl (by kernel_rfl)) rfl ⟨by rw [HQ.out]; rfl, HX.out.trans (hM.low.mono (by first | exact Nat.le_refl _ | omega))⟩
 ·clear HPP HPB HM
  by_cases h0 : b = 0
  ·have HQ : Hid (r = zV) := h_ (by rw [HR.out, HP.out, h0]; rfl)
   clear HR HP
   subst h0
   go_enter Tryz.func152, Tryz.ntmps152
   go_upto_region 1 with (fail)
   refine nA fun w1 hB0 hw1 hz1 => ?_
   have HC := h_ hB0
   have HW := h_ hw1
   clear hB0 hw1 hz1
   go_wp2_with fail
   refine (HZ.out w1).mono ?_
   rintro e w2 ⟨rfl, hw2⟩
   have HD := h_ (HC.out.below hw2)
   have HX := t_ HW hw2
   clear hw2 HC HW
   generalize zV = q at HQ |-
   obtain ⟨q0, q1, q2⟩ := q
   unfold vV
   simp only
   obtain ⟨r0, r1, r2, f0, f1, f2⟩ := HD.out.f3
   go_wp2_with fail
   refine name_set3W (K := fun w' => bodyPost _ _ _ _ _ w') HD.out fun w9 hM => ?_
   exact bodyPost_ret (results_cell_row Tryz.results152 _ _ w.heap.size _ _ (0, 0) _ rfl hM.blk Tryz.underlying29 rfl (by kernel_rfl)) rfl ⟨by rw [HQ.out]; rfl, HX.out.trans (hM.low.mono (by first | exact Nat.le_refl _ | omega))⟩
  ·have e0 : (b == 0) = false := by simp [h0]
   have HQ : Hid (r = nV (a.tdiv b)) := h_ (by rw [HR.out, HP.out]; simp [h0])
   clear HR HP
   go_enter Tryz.func152, Tryz.ntmps152
   go_upto_region 1 with (fail)
   refine nA fun w1 hB0 hw1 hz1 => ?_
   have HC := h_ hB0
   have HW := h_ hw1
   clear hB0 hw1 hz1
   have ew : wrap64 (a.tdiv b) = a.tdiv b := by
    have := tdiv_abs a b
    unfold wrap64; omega
   have HEW := h_ ew
   clear ew
   go_wp2_with fail
   rw [HEW.out]
   refine (HI.out (a.tdiv b) w1).mono ?_
   rintro e w2 ⟨rfl, hw2⟩
   have HD := h_ (HC.out.below hw2)
   have HX := t_ HW hw2
   clear hw2 HC HW
   generalize nV (a.tdiv b) = q at HQ |-
   obtain ⟨q0, q1, q2⟩ := q
   unfold vV
   simp only
   obtain ⟨r0, r1, r2, f0, f1, f2⟩ := HD.out.f3
   go_wp2_with fail
   refine name_set3W (K := fun w' => bodyPost _ _ _ _ _ w') HD.out fun w9 hM => ?_
   exact bodyPost_ret (results_cell_row Tryz.results152 _ _ w.heap.size _ _ (0, 0) _ rfl hM.blk Tryz.underlying29 rfl (by kernel_rfl)) rfl ⟨by rw [HQ.out]; rfl, HX.out.trans (hM.low.mono (by first | exact Nat.le_refl _ | omega))⟩
 ·clear HPP HPB HM
  by_cases h0 : b = 0
  ·have HQ : Hid (r = zV) := h_ (by rw [HR.out, HP.out, h0]; rfl)
   clear HR HP
   subst h0
   go_enter Tryz.func152, Tryz.ntmps152
   go_upto_region 1 with (fail)
   refine nA fun w1 hB0 hw1 hz1 => ?_
   have HC := h_ hB0
   have HW := h_ hw1
   clear hB0 hw1 hz1
   go_wp2_with fail
   refine (HZ.out w1).mono ?_
   rintro e w2 ⟨rfl, hw2⟩
   have HD := h_ (HC.out.below hw2)
   have HX := t_ HW hw2
   clear hw2 HC HW
   generalize zV = q at HQ |-
   obtain ⟨q0, q1, q2⟩ := q
   unfold vV
   simp only
   obtain ⟨r0, r1, r2, f0, f1, f2⟩ := HD.out.f3
   go_wp2_with fail
   refine name_set3W (K := fun w' => bodyPost _ _ _ _ _ w') HD.out fun w9 hM => ?_
   exact bodyPost_ret (results_cell_row Tryz.results152 _ _ w.heap.size _ _ (0, 0) _ rfl hM.blk Tryz.underlying29 rfl (by kernel_rfl)) rfl ⟨by rw [HQ.out]; rfl, HX.out.trans (hM.low.mono (by first | exact Nat.le_refl _ | omega))⟩
  ·have e0 : (b == 0) = false := by simp [h0]
   have HQ : Hid (r = nV (a.tmod b)) := h_ (by rw [HR.out, HP.out]; simp [h0])
   clear HR HP
   go_enter Tryz.func152, Tryz.ntmps152
   go_upto_region 1 with (fail)
   refine nA fun w1 hB0 hw1 hz1 => ?_
   have HC := h_ hB0
   have HW := h_ hw1
   clear hB0 hw1 hz1
   go_wp2_with fail
   refine (HI.out (a.tmod b) w1).mono ?_
   rintro e w2 ⟨rfl, hw2⟩
   have HD := h_ (HC.out.below hw2)
   have HX := t_ HW hw2
   clear hw2 HC HW
   generalize nV (a.tmod b) = q at HQ |-
   obtain ⟨q0, q1, q2⟩ := q
   unfold vV
   simp only
   obtain ⟨r0, r1, r2, f0, f1, f2⟩ := HD.out.f3
   go_wp2_with fail
   refine name_set3W (K := fun w' => bodyPost _ _ _ _ _ w') HD.out fun w9 hM => ?_
   exact bodyPost_ret (results_cell_row Tryz.results152 _ _ w.heap.size _ _ (0, 0) _ rfl hM.blk Tryz.underlying29 rfl (by kernel_rfl)) rfl ⟨by rw [HQ.out]; rfl, HX.out.trans (hM.low.mono (by first | exact Nat.le_refl _ | omega))⟩
theorem are_call (L : List V) (kd : Int) (a : Option Addr) (m : Nat) (w : World) (hv : VI w L a) (hl : L.length <= 1099511627776) : Calls Tryz.prog 146 #[.slice a L.length m, .int .i64 kd] w (Ret w (.bool (kinds kd L))) := by
 have HV := h_ hv
 clear hv
 go_enter Tryz.func146, Tryz.ntmps146
 go_upto_region 2 with (fail)
 go_loopw [5] (fun i wr => (∃ k : Nat, k <= L.length /\ i = .int .i64 (k : Int) /\ Hid (kinds kd (L.take k) = true)) /\ Below w.heap.size w wr) (fun i _ => L.length - (intOf i).toNat)
 case atStart => exact ⟨⟨0, Nat.zero_le _, rfl, h_ rfl⟩, Below.refl _ _⟩
 case round =>
  obtain ⟨⟨k, hk, rfl, HK⟩, hb⟩ := hrel
  have HVr := h_ (HV.out.below hb)
  have HB := h_ hb
  clear hb
  by_cases hlt : k < L.length
  ·obtain ⟨g, o, rfl, hgl, r0, r1, r2⟩ := HVr.out.at_ hlt
   have c2 : (k : Int) < (L.length : Int) := by omega
   have c3 : (0 : Int) <= (k : Int) := by omega
   have d1 : decide ((k : Int) < (L.length : Int)) = true := decide_eq_true c2
   by_cases he : L[k].k = kd
   ·have HS := h_ (kinds_step hlt HK.out he)
    have e1 : (L[k].k != kd) = false := by simp [he]
    clear he HVr
    go_wp2_with fail
    go_roundw
    case rel => exact ⟨⟨k + 1, by omega, by go_num, HS⟩, HB.out⟩
    case measure => simp [intOf]; omega
   ·have HS := h_ (kinds_not hlt he)
    have e1 : (L[k].k != kd) = true := by simp [he]
    clear he HVr
    go_wp2_with fail
    go_ret
    exact ⟨by rw [HS.out]; rfl, HB.out⟩
  ·obtain rfl : k = L.length := by omega
   have d1 : decide ((L.length : Int) < (L.length : Int)) = false := decide_eq_false (by omega)
   have HT : Hid (kinds kd L = true) := h_ (by rw [<- HK.out, List.take_length])
   clear HVr
   go_wp2_with fail
   go_ret
   exact ⟨by rw [HT.out]; rfl, HB.out⟩
theorem rlogic_call (op : Int) (L : List V) (a : Option Addr) (m : Nat) (w : World) (ho : op = 5 \/ op = 6) (hv : VI w L a) (hl0 : 0 < L.length) (hl : L.length <= 1099511627776) : Calls Tryz.prog 144 #[.int .i64 op, .slice a L.length m] w (Ret w (vV (logicV op L))) := by
 obtain ⟨v, l, rfl⟩ : ∃ v l, L = v :: l := by cases L with | nil => simp at hl0 | cons v l => exact ⟨v, l, rfl⟩
 have HT := h_ fun v w' => rtruth_call v w'
 have HAND := h_ fun a b (ha : Tv a) (hb : Tv b) w' => rand_call a b w' ha hb
 have HOR := h_ fun a b (ha : Tv a) (hb : Tv b) w' => ror_call a b w' ha hb
 have HOF := h_ fun t (ht : Tv t) w' => rof_call t w' ht
 have HN : Hid (logicV op (v :: l) = ofT (l.foldl (fun t v => conT op t (truthV v)) (truthV v))) := h_ (by unfold logicV; rcases ho with rfl | rfl <;> rfl)
 have HV := h_ hv
 have HO := h_ ho
 generalize hq : logicV op (v :: l) = q at HN |-
 clear hq
 clear hl0 hv ho
 have ll : (v :: l).length = l.length + 1 := rfl
 have hl2 : ((v :: l).length : Int) = (l.length : Int) + 1 := by rw [ll]; omega
 generalize hn : (v :: l).length = n at hl ll hl2 |-
 have HNL := h_ hn
 clear hn
 go_enter Tryz.func144, Tryz.ntmps144
 go_upto_region 1 with (fail)
 refine nA fun w1 hB0 hw1 hz1 => ?_
 have HB0 := h_ hB0
 have HW1 := h_ hw1
 have HV1 := h_ (HV.out.below hw1)
 clear hB0 hw1 hz1
 obtain ⟨g, o, rfl, hgl, r0, r1, r2⟩ := HV1.out.head
 obtain ⟨vk, vi, vt⟩ := v
 simp only at r0 r1 r2
 go_wp2_with fail
 refine (HT.out ⟨vk, vi, vt⟩ w1).mono ?_
 rintro e w2 ⟨rfl, hw2⟩
 have HT0 := h_ (truthV_tv ⟨vk, vi, vt⟩)
 generalize truthV ⟨vk, vi, vt⟩ = t0 at HN HT0 |-
 have HB2 := h_ (HB0.out.below hw2)
 have HW2 := t_ HW1 hw2
 have HV2 := h_ (HV1.out.below hw2)
 clear hw2 HB0 HW1 HV1 r0 r1 r2 hgl
 go_upto_region 3 with (fail)
 go_loopw [5, 6] (fun t i wr => (∃ k : Nat, k <= l.length /\ i = .int .i64 ((k : Int) + 1) /\ t = .int .i64 ((l.take k).foldl (fun t v => conT op t (truthV v)) t0)) /\ Below w2.heap.size w2 wr) (fun _ i _ => l.length + 1 - (intOf i).toNat)
 case atStart => exact ⟨⟨0, Nat.zero_le _, rfl, rfl⟩, Below.refl _ _⟩
 case round =>
  obtain ⟨⟨k, hk, rfl, rfl⟩, hb⟩ := hrel
  have HVr := h_ (HV2.out.tail.below hb)
  have HBr := h_ (HB2.out.below hb)
  have HB := h_ hb
  clear hb
  have HFT := h_ (fold_tv op (l.take k) t0 HT0.out)
  by_cases hlt : k < l.length
  ·obtain ⟨g', o', e', hgl, r0, r1, r2⟩ := HVr.out.at_ hlt
   obtain ⟨rfl, rfl⟩ : g = g' /\ o + 3 = o' := by cases e'; exact ⟨rfl, rfl⟩
   clear e'
   have HF := h_ (foldl_take (fun t v => conT op t (truthV v)) l t0 hlt)
   generalize hM : (l.take (k + 1)).foldl (fun t v => conT op t (truthV v)) t0 = M at HF
   have HM := h_ hM
   clear hM
   generalize (l.take k).foldl (fun t v => conT op t (truthV v)) t0 = t at HF HFT |-
   rw [show o + 3 + k * 3 = o + (k + 1) * 3 by omega] at r0 r1 r2
   have c2 : (k : Int) + 1 < (n : Int) := by omega
   have c3 : (0 : Int) <= (k : Int) + 1 := by omega
   have d1 : decide ((k : Int) + 1 < (n : Int)) = true := decide_eq_true c2
   have tn : ((k : Int) + 1).toNat = k + 1 := by omega
   generalize l[k] = u at r0 r1 r2 HF
   obtain ⟨uk, ui, ut⟩ := u
   have HU := h_ (truthV_tv ⟨uk, ui, ut⟩)
   simp only at r0 r1 r2
   clear HVr
   rcases HO.out with rfl | rfl
   ·go_wp2_with fail
    refine (HT.out ⟨uk, ui, ut⟩ wr).mono ?_
    rintro e w4 ⟨rfl, hw4⟩
    have HB4 := t_ HB hw4
    clear hw4 r0 r1 r2 hgl
    generalize truthV ⟨uk, ui, ut⟩ = u at HU HF |-
    go_wp2_with fail
    refine (HAND.out t u HFT.out HU.out w4).mono ?_
    rintro e w5 ⟨rfl, hw5⟩
    have HB5 := t_ HB4 hw5
    clear hw5
    go_wp2_with fail
    go_roundw
    case rel => exact ⟨⟨k + 1, by omega, by go_num, congrArg (fun z => Value.int .i64 z) (by rw [HM.out, HF.out]; rfl)⟩, HB5.out⟩
    case measure => simp [intOf]; omega
   ·go_wp2_with fail
    refine (HT.out ⟨uk, ui, ut⟩ wr).mono ?_
    rintro e w4 ⟨rfl, hw4⟩
    have HB4 := t_ HB hw4
    clear hw4 r0 r1 r2 hgl
    generalize truthV ⟨uk, ui, ut⟩ = u at HU HF |-
    go_wp2_with fail
    refine (HOR.out t u HFT.out HU.out w4).mono ?_
    rintro e w5 ⟨rfl, hw5⟩
    have HB5 := t_ HB4 hw5
    clear hw5
    go_wp2_with fail
    go_roundw
    case rel => exact ⟨⟨k + 1, by omega, by go_num, congrArg (fun z => Value.int .i64 z) (by rw [HM.out, HF.out]; rfl)⟩, HB5.out⟩
    case measure => simp [intOf]; omega
  ·obtain rfl : k = l.length := by omega
   have d1 : decide ((l.length : Int) + 1 < (n : Int)) = false := decide_eq_false (by omega)
   have HT : Hid (q = ofT ((l.take l.length).foldl (fun t v => conT op t (truthV v)) t0)) := h_ (by rw [HN.out, List.take_length])
   generalize (l.take l.length).foldl (fun t v => conT op t (truthV v)) t0 = t at HT HFT |-
   clear HVr
   go_wp2_with fail
   refine (HOF.out t HFT.out wr).mono ?_
   rintro e w4 ⟨rfl, hw4⟩
   have HD := h_ (HBr.out.below hw4)
   have HX := h_ ((HW2.out.trans (HB.out.mono HW2.out.size)).trans (hw4.mono (Nat.le_trans HW2.out.size HB.out.size)))
   clear hw4
   generalize ofT t = qq at HT |-
   obtain ⟨q0, q1, q2⟩ := qq
   unfold vV
   simp only
   obtain ⟨r0, r1, r2, f0, f1, f2⟩ := HD.out.f3
   go_wp2_with fail
   refine name_set3W (K := fun w' => bodyPost _ _ _ _ _ w') HD.out fun w9 hM => ?_
   exact bodyPost_ret (results_cell_row Tryz.results144 _ _ w.heap.size _ _ (0, 0) _ rfl hM.blk Tryz.underlying29 rfl (by kernel_rfl)) rfl ⟨by rw [HT.out]; rfl, HX.out.trans (hM.low.mono (by first | exact Nat.le_refl _ | omega))⟩
theorem plogic4 (L : List V) (a : Option Addr) (m : Nat) (w : World) (hv : VI w L a) (hl0 : 0 < L.length) (hl : L.length <= 1099511627776) (hm : L.length <= m) (hm2 : m <= 1152921504606846976) : Calls Tryz.prog 76 #[.int .i64 4, .slice a L.length m] w (Ret w (vV (logicV 4 L))) := by
 have HNOT := h_ fun t (ht : Tv t) w' => pnot_call t w' ht
 have HN' : Hid (∀ v l, L = v :: l -> logicV 4 L = ofT (notT (truthV v))) := h_ (by rintro v l rfl; rfl)
 generalize hq : logicV 4 L = q at HN' |-
 clear hq
 obtain ⟨v, l, rfl⟩ : ∃ v l, L = v :: l := by cases L with | nil => simp at hl0 | cons v l => exact ⟨v, l, rfl⟩
 have HT := h_ fun v w' => ptruth_call v w'
 have HOF := h_ fun t (ht : Tv t) w' => pof_call t w' ht
 have HV := h_ hv
 clear hl0 hv
 have HN := h_ (HN'.out _ _ rfl)
 clear HN'
 have ll : (v :: l).length = l.length + 1 := rfl
 generalize hn : (v :: l).length = n at hl hm ll |-
 have HNL := h_ hn
 clear hn
 go_enter Tryz.func76, Tryz.ntmps76
 go_upto_region 1 with (fail)
 refine nA fun w1 hB0 hw1 hz1 => ?_
 have HB0 := h_ hB0
 have HW1 := h_ hw1
 have HV1 := h_ (HV.out.below hw1)
 clear hB0 hw1 hz1
 obtain ⟨g, o, rfl, hgl, r0, r1, r2⟩ := HV1.out.head
 obtain ⟨vk, vi, vt⟩ := v
 simp only at r0 r1 r2
 go_wp2_with fail
 refine (HT.out ⟨vk, vi, vt⟩ w1).mono ?_
 rintro e w2 ⟨rfl, hw2⟩
 have HT0 := h_ (truthV_tv ⟨vk, vi, vt⟩)
 generalize truthV ⟨vk, vi, vt⟩ = t0 at HN HT0 |-
 have HB2 := h_ (HB0.out.below hw2)
 have HW2 := t_ HW1 hw2
 have HV2 := h_ (HV1.out.below hw2)
 clear hw2 HB0 HW1 HV1 r0 r1 r2 hgl
 go_wp2_with fail
 refine (HNOT.out t0 HT0.out w2).mono ?_
 rintro e w3 ⟨rfl, hw3⟩
 have HB3 := h_ (HB2.out.below hw3)
 have HW3 := t_ HW2 hw3
 clear hw3 HB2 HW2
 go_wp2_with fail
 refine (HOF.out (notT t0) (notT_tv HT0.out) w3).mono ?_
 rintro e w4 ⟨rfl, hw4⟩
 have HD := h_ (HB3.out.below hw4)
 have HX := t_ HW3 hw4
 clear hw4 HB3 HW3
 generalize ofT (notT t0) = qq at HN |-
 obtain ⟨q0, q1, q2⟩ := qq
 unfold vV
 simp only
 obtain ⟨r0, r1, r2, f0, f1, f2⟩ := HD.out.f3
 go_wp2_with fail
 refine name_set3W (K := fun w' => bodyPost _ _ _ _ _ w') HD.out fun w9 hM => ?_
 exact bodyPost_ret (results_cell_row Tryz.results76 _ _ w.heap.size _ _ (0, 0) _ rfl hM.blk Tryz.underlying29 rfl (by kernel_rfl)) rfl ⟨by rw [HN.out]; rfl, HX.out.trans (hM.low.mono (by first | exact Nat.le_refl _ | omega))⟩
theorem plogic5 (L : List V) (a : Option Addr) (m : Nat) (w : World) (hv : VI w L a) (hl1 : 1 < L.length) (hl : L.length <= 1099511627776) (hm : L.length <= m) (hm2 : m <= 1152921504606846976) : Calls Tryz.prog 76 #[.int .i64 5, .slice a L.length m] w (Ret w (vV (logicV 5 L))) := by
 have HOP := h_ fun a b (ha : Tv a) (hb : Tv b) w' => pand_call a b w' ha hb
 have HN' : Hid (∀ v l, L = v :: l -> logicV 5 L = ofT (l.foldl (fun t v => conT 5 t (truthV v)) (truthV v))) := h_ (by rintro v l rfl; rfl)
 generalize hq : logicV 5 L = q at HN' |-
 clear hq
 have hl0 : 0 < L.length := by omega
 obtain ⟨v, l, rfl⟩ : ∃ v l, L = v :: l := by cases L with | nil => simp at hl0 | cons v l => exact ⟨v, l, rfl⟩
 have HT := h_ fun v w' => ptruth_call v w'
 have HOF := h_ fun t (ht : Tv t) w' => pof_call t w' ht
 have HV := h_ hv
 clear hl0 hv
 have HN := h_ (HN'.out _ _ rfl)
 clear HN'
 have ll : (v :: l).length = l.length + 1 := rfl
 generalize hn : (v :: l).length = n at hl hl1 hm ll |-
 have HNL := h_ hn
 clear hn
 go_enter Tryz.func76, Tryz.ntmps76
 go_upto_region 1 with (fail)
 refine nA fun w1 hB0 hw1 hz1 => ?_
 have HB0 := h_ hB0
 have HW1 := h_ hw1
 have HV1 := h_ (HV.out.below hw1)
 clear hB0 hw1 hz1
 obtain ⟨g, o, rfl, hgl, r0, r1, r2⟩ := HV1.out.head
 obtain ⟨vk, vi, vt⟩ := v
 simp only at r0 r1 r2
 go_wp2_with fail
 refine (HT.out ⟨vk, vi, vt⟩ w1).mono ?_
 rintro e w2 ⟨rfl, hw2⟩
 have HT0 := h_ (truthV_tv ⟨vk, vi, vt⟩)
 generalize truthV ⟨vk, vi, vt⟩ = t0 at HN HT0 |-
 have HB2 := h_ (HB0.out.below hw2)
 have HW2 := t_ HW1 hw2
 have HV2 := h_ (HV1.out.below hw2)
 clear hw2 HB0 HW1 HV1 r0 r1 r2 hgl
 have m1 : ¬ m = 1 := by omega
 have nn : ((n : Int) - 1).toNat = l.length := by omega
 have c1 : (1 : Int) <= (n : Int) := by omega
 have c2 : (n : Int) <= (m : Int) := by omega
 go_upto_region 12 with (fail)
 go_loopw [5, 37] (fun t i wr => (∃ k : Nat, k <= l.length /\ i = .int .i64 (k : Int) /\ t = .int .i64 ((l.take k).foldl (fun t v => conT 5 t (truthV v)) t0)) /\ Below w2.heap.size w2 wr) (fun _ i _ => l.length - (intOf i).toNat)
 case atStart => exact ⟨⟨0, Nat.zero_le _, rfl, rfl⟩, Below.refl _ _⟩
 case round =>
  obtain ⟨⟨k, hk, rfl, rfl⟩, hb⟩ := hrel
  have HVr := h_ (HV2.out.tail.below hb)
  have HBr := h_ (HB2.out.below hb)
  have HB := h_ hb
  clear hb
  have HFT := h_ (fold_tv 5 (l.take k) t0 HT0.out)
  by_cases hlt : k < l.length
  ·obtain ⟨g', o', e', hgl, r0, r1, r2⟩ := HVr.out.at_ hlt
   obtain ⟨rfl, rfl⟩ : g = g' /\ o + 3 = o' := by cases e'; exact ⟨rfl, rfl⟩
   clear e'
   have HF := h_ (foldl_take (fun t v => conT 5 t (truthV v)) l t0 hlt)
   generalize hM : (l.take (k + 1)).foldl (fun t v => conT 5 t (truthV v)) t0 = M at HF
   have HM := h_ hM
   clear hM
   generalize (l.take k).foldl (fun t v => conT 5 t (truthV v)) t0 = t at HF HFT |-
   have c4 : (k : Int) < (l.length : Int) := by omega
   have c3 : (0 : Int) <= (k : Int) := by omega
   have d1 : decide ((k : Int) < (l.length : Int)) = true := decide_eq_true c4
   generalize l[k] = u at r0 r1 r2 HF
   obtain ⟨uk, ui, ut⟩ := u
   have HU := h_ (truthV_tv ⟨uk, ui, ut⟩)
   simp only at r0 r1 r2
   clear HVr
   go_wp2_with fail
   refine (HT.out ⟨uk, ui, ut⟩ _).mono ?_
   rintro e w4 ⟨rfl, hw4⟩
   have HB4 : Hid (Below w2.heap.size w2 w4) := h_ ((HB.out.trans ((below1 wr _).mono HB.out.size)).trans (hw4.mono (by have := HB.out.size; simp; omega)))
   clear hw4 r0 r1 r2 hgl
   generalize truthV ⟨uk, ui, ut⟩ = u at HU HF |-
   go_wp2_with fail
   refine (HOP.out t u HFT.out HU.out w4).mono ?_
   rintro e w5 ⟨rfl, hw5⟩
   have HB5 := t_ HB4 hw5
   clear hw5
   go_wp2_with fail
   go_roundw
   case rel => exact ⟨⟨k + 1, by omega, by go_num, congrArg (fun z => Value.int .i64 z) (by rw [HM.out, HF.out]; rfl)⟩, HB5.out⟩
   case measure => simp [intOf]; omega
  ·obtain rfl : k = l.length := by omega
   have d1 : decide ((l.length : Int) < (l.length : Int)) = false := decide_eq_false (by omega)
   have HT : Hid (q = ofT ((l.take l.length).foldl (fun t v => conT 5 t (truthV v)) t0)) := h_ (by rw [HN.out, List.take_length])
   generalize (l.take l.length).foldl (fun t v => conT 5 t (truthV v)) t0 = t at HT HFT |-
   clear HVr
   go_wp2_with fail
   refine (HOF.out t HFT.out wr).mono ?_
   rintro e w4 ⟨rfl, hw4⟩
   have HD := h_ (HBr.out.below hw4)
   have HX := h_ ((HW2.out.trans (HB.out.mono HW2.out.size)).trans (hw4.mono (Nat.le_trans HW2.out.size HB.out.size)))
   clear hw4
   generalize ofT t = qq at HT |-
   obtain ⟨q0, q1, q2⟩ := qq
   unfold vV
   simp only
   obtain ⟨r0, r1, r2, f0, f1, f2⟩ := HD.out.f3
   go_wp2_with fail
   refine name_set3W (K := fun w' => bodyPost _ _ _ _ _ w') HD.out fun w9 hM => ?_
   exact bodyPost_ret (results_cell_row Tryz.results76 _ _ w.heap.size _ _ (0, 0) _ rfl hM.blk Tryz.underlying29 rfl (by kernel_rfl)) rfl ⟨by rw [HT.out]; rfl, HX.out.trans (hM.low.mono (by first | exact Nat.le_refl _ | omega))⟩
theorem plogic6 (L : List V) (a : Option Addr) (m : Nat) (w : World) (hv : VI w L a) (hl1 : 1 < L.length) (hl : L.length <= 1099511627776) (hm : L.length <= m) (hm2 : m <= 1152921504606846976) : Calls Tryz.prog 76 #[.int .i64 6, .slice a L.length m] w (Ret w (vV (logicV 6 L))) := by
 have HOP := h_ fun a b (ha : Tv a) (hb : Tv b) w' => por_call a b w' ha hb
 have HN' : Hid (∀ v l, L = v :: l -> logicV 6 L = ofT (l.foldl (fun t v => conT 6 t (truthV v)) (truthV v))) := h_ (by rintro v l rfl; rfl)
 generalize hq : logicV 6 L = q at HN' |-
 clear hq
 have hl0 : 0 < L.length := by omega
 obtain ⟨v, l, rfl⟩ : ∃ v l, L = v :: l := by cases L with | nil => simp at hl0 | cons v l => exact ⟨v, l, rfl⟩
 have HT := h_ fun v w' => ptruth_call v w'
 have HOF := h_ fun t (ht : Tv t) w' => pof_call t w' ht
 have HV := h_ hv
 clear hl0 hv
 have HN := h_ (HN'.out _ _ rfl)
 clear HN'
 have ll : (v :: l).length = l.length + 1 := rfl
 generalize hn : (v :: l).length = n at hl hl1 hm ll |-
 have HNL := h_ hn
 clear hn
 go_enter Tryz.func76, Tryz.ntmps76
 go_upto_region 1 with (fail)
 refine nA fun w1 hB0 hw1 hz1 => ?_
 have HB0 := h_ hB0
 have HW1 := h_ hw1
 have HV1 := h_ (HV.out.below hw1)
 clear hB0 hw1 hz1
 obtain ⟨g, o, rfl, hgl, r0, r1, r2⟩ := HV1.out.head
 obtain ⟨vk, vi, vt⟩ := v
 simp only at r0 r1 r2
 go_wp2_with fail
 refine (HT.out ⟨vk, vi, vt⟩ w1).mono ?_
 rintro e w2 ⟨rfl, hw2⟩
 have HT0 := h_ (truthV_tv ⟨vk, vi, vt⟩)
 generalize truthV ⟨vk, vi, vt⟩ = t0 at HN HT0 |-
 have HB2 := h_ (HB0.out.below hw2)
 have HW2 := t_ HW1 hw2
 have HV2 := h_ (HV1.out.below hw2)
 clear hw2 HB0 HW1 HV1 r0 r1 r2 hgl
 have m1 : ¬ m = 1 := by omega
 have nn : ((n : Int) - 1).toNat = l.length := by omega
 have c1 : (1 : Int) <= (n : Int) := by omega
 have c2 : (n : Int) <= (m : Int) := by omega
 go_upto_region 4 with (fail)
 go_loopw [5, 18] (fun t i wr => (∃ k : Nat, k <= l.length /\ i = .int .i64 (k : Int) /\ t = .int .i64 ((l.take k).foldl (fun t v => conT 6 t (truthV v)) t0)) /\ Below w2.heap.size w2 wr) (fun _ i _ => l.length - (intOf i).toNat)
 case atStart => exact ⟨⟨0, Nat.zero_le _, rfl, rfl⟩, Below.refl _ _⟩
 case round =>
  obtain ⟨⟨k, hk, rfl, rfl⟩, hb⟩ := hrel
  have HVr := h_ (HV2.out.tail.below hb)
  have HBr := h_ (HB2.out.below hb)
  have HB := h_ hb
  clear hb
  have HFT := h_ (fold_tv 6 (l.take k) t0 HT0.out)
  by_cases hlt : k < l.length
  ·obtain ⟨g', o', e', hgl, r0, r1, r2⟩ := HVr.out.at_ hlt
   obtain ⟨rfl, rfl⟩ : g = g' /\ o + 3 = o' := by cases e'; exact ⟨rfl, rfl⟩
   clear e'
   have HF := h_ (foldl_take (fun t v => conT 6 t (truthV v)) l t0 hlt)
   generalize hM : (l.take (k + 1)).foldl (fun t v => conT 6 t (truthV v)) t0 = M at HF
   have HM := h_ hM
   clear hM
   generalize (l.take k).foldl (fun t v => conT 6 t (truthV v)) t0 = t at HF HFT |-
   have c4 : (k : Int) < (l.length : Int) := by omega
   have c3 : (0 : Int) <= (k : Int) := by omega
   have d1 : decide ((k : Int) < (l.length : Int)) = true := decide_eq_true c4
   generalize l[k] = u at r0 r1 r2 HF
   obtain ⟨uk, ui, ut⟩ := u
   have HU := h_ (truthV_tv ⟨uk, ui, ut⟩)
   simp only at r0 r1 r2
   clear HVr
   go_wp2_with fail
   refine (HT.out ⟨uk, ui, ut⟩ _).mono ?_
   rintro e w4 ⟨rfl, hw4⟩
   have HB4 : Hid (Below w2.heap.size w2 w4) := h_ ((HB.out.trans ((below1 wr _).mono HB.out.size)).trans (hw4.mono (by have := HB.out.size; simp; omega)))
   clear hw4 r0 r1 r2 hgl
   generalize truthV ⟨uk, ui, ut⟩ = u at HU HF |-
   go_wp2_with fail
   refine (HOP.out t u HFT.out HU.out w4).mono ?_
   rintro e w5 ⟨rfl, hw5⟩
   have HB5 := t_ HB4 hw5
   clear hw5
   go_wp2_with fail
   go_roundw
   case rel => exact ⟨⟨k + 1, by omega, by go_num, congrArg (fun z => Value.int .i64 z) (by rw [HM.out, HF.out]; rfl)⟩, HB5.out⟩
   case measure => simp [intOf]; omega
  ·obtain rfl : k = l.length := by omega
   have d1 : decide ((l.length : Int) < (l.length : Int)) = false := decide_eq_false (by omega)
   have HT : Hid (q = ofT ((l.take l.length).foldl (fun t v => conT 6 t (truthV v)) t0)) := h_ (by rw [HN.out, List.take_length])
   generalize (l.take l.length).foldl (fun t v => conT 6 t (truthV v)) t0 = t at HT HFT |-
   clear HVr
   go_wp2_with fail
   refine (HOF.out t HFT.out wr).mono ?_
   rintro e w4 ⟨rfl, hw4⟩
   have HD := h_ (HBr.out.below hw4)
   have HX := h_ ((HW2.out.trans (HB.out.mono HW2.out.size)).trans (hw4.mono (Nat.le_trans HW2.out.size HB.out.size)))
   clear hw4
   generalize ofT t = qq at HT |-
   obtain ⟨q0, q1, q2⟩ := qq
   unfold vV
   simp only
   obtain ⟨r0, r1, r2, f0, f1, f2⟩ := HD.out.f3
   go_wp2_with fail
   refine name_set3W (K := fun w' => bodyPost _ _ _ _ _ w') HD.out fun w9 hM => ?_
   exact bodyPost_ret (results_cell_row Tryz.results76 _ _ w.heap.size _ _ (0, 0) _ rfl hM.blk Tryz.underlying29 rfl (by kernel_rfl)) rfl ⟨by rw [HT.out]; rfl, HX.out.trans (hM.low.mono (by first | exact Nat.le_refl _ | omega))⟩
theorem bapp (a b : S) : (⟨a.toArray⟩ ++ ⟨b.toArray⟩ : ByteArray) = ⟨(a ++ b).toArray⟩ := by
 apply ByteArray.ext; simp
theorem okV_len {v : V} (h : okV v = true) : v.t.length <= 200 := by
 unfold okV validV at h
 split at h
 ·simp at h; rw [h.2]; simp
 split at h
 ·simp at h; first | (rw [h.1.1]; simp) | (rw [h.1]; simp)
 split at h
 ·simp at h; omega
 split at h
 ·simp at h; rw [h.1]; simp
 ·cases h
theorem rtexts20 (v : V) (a : Option Addr) (m : Nat) (w : World) (hv : VI w [v] a) (h1 : okV v = true) : Calls Tryz.prog 148 #[.int .i64 20, .slice a 1 m] w (Ret w (vV (textV 20 [v]))) := by
 have HR := h_ fun w' (h : VI w' [v] a) => are_call [v] 2 a m w' h (by simp)
 have HN : Hid (textV 20 [v] = if kinds 2 [v] then nV (v.t.length : Int) else zV) := h_ (by unfold textV; simp [textOf, lenV])
 have HZ : Hid (∀ w', Calls Tryz.prog 139 #[] w' (Ret w' (vV zV))) := h_ fun w' => null_call w'
 have HI := h_ rint_call
 have HTX := h_ rtext_call
 have HV := h_ hv
 clear hv
 simp only [List.length_cons, List.length_nil, Nat.zero_add, Nat.reduceAdd] at HR
 generalize hq : textV 20 [v] = q at HN |-
 generalize kinds 2 [v] = b at HR HN
 clear hq
 go_enter Tryz.func148, Tryz.ntmps148
 go_upto_region 1 with (fail)
 refine nA fun w1 hB0 hw1 hz1 => ?_
 have HC := h_ hB0
 have HW := h_ hw1
 have HV1 := h_ (HV.out.below hw1)
 clear hB0 hw1 hz1
 go_wp2_with fail
 refine (HR.out w1 HV1.out).mono ?_
 rintro e w2 ⟨rfl, hw2⟩
 have HC2 := h_ (HC.out.below hw2)
 have HW2 := t_ HW hw2
 have HV2 := h_ (HV1.out.below hw2)
 clear hw2 HC HW HV1
 cases b with
 | false =>
  have HQ : Hid (q = zV) := HN
  clear HN
  go_wp2_with fail
  refine (HZ.out w2).mono ?_
  rintro e w8 ⟨rfl, hw8⟩
  have HD := h_ (HC2.out.below hw8)
  have HX := t_ HW2 hw8
  clear hw8
  generalize zV = qq at HQ |-
  obtain ⟨q0, q1, q2⟩ := qq
  unfold vV
  simp only
  obtain ⟨r0, r1, r2, f0, f1, f2⟩ := HD.out.f3
  go_wp2_with fail
  refine name_set3W (K := fun w' => bodyPost _ _ _ _ _ w') HD.out fun w9 hM => ?_
  exact bodyPost_ret (results_cell_row Tryz.results148 _ _ w.heap.size _ _ (0, 0) _ rfl hM.blk Tryz.underlying29 rfl (by kernel_rfl)) rfl ⟨by rw [HQ.out]; rfl, HX.out.trans (hM.low.mono (by first | exact Nat.le_refl _ | omega))⟩
 | true =>
  have HQ : Hid (q = nV (v.t.length : Int)) := HN
  have hl := okV_len h1
  clear HN h1
  obtain ⟨g, o, rfl, hgl, r0, r1, r2⟩ := HV2.out.head
  obtain ⟨vk, vi, vt⟩ := v
  simp only at r0 r1 r2 hl HQ
  go_wp2_with fail
  refine (HI.out (vt.length : Int) w2).mono ?_
  rintro e w8 ⟨rfl, hw8⟩
  have HD := h_ (HC2.out.below hw8)
  have HX := t_ HW2 hw8
  clear hw8
  generalize nV (vt.length : Int) = qq at HQ |-
  obtain ⟨q0, q1, q2⟩ := qq
  unfold vV
  simp only
  obtain ⟨r0, r1, r2, f0, f1, f2⟩ := HD.out.f3
  go_wp2_with fail
  refine name_set3W (K := fun w' => bodyPost _ _ _ _ _ w') HD.out fun w9 hM => ?_
  exact bodyPost_ret (results_cell_row Tryz.results148 _ _ w.heap.size _ _ (0, 0) _ rfl hM.blk Tryz.underlying29 rfl (by kernel_rfl)) rfl ⟨by rw [HQ.out]; rfl, HX.out.trans (hM.low.mono (by first | exact Nat.le_refl _ | omega))⟩
theorem rtexts19 (v u : V) (a : Option Addr) (m : Nat) (w : World) (hv : VI w [v, u] a) (h1 : okV v = true) (h2 : okV u = true) : Calls Tryz.prog 148 #[.int .i64 19, .slice a 2 m] w (Ret w (vV (textV 19 [v, u]))) := by
 have HR := h_ fun w' (h : VI w' [v, u] a) => are_call [v, u] 2 a m w' h (by simp)
 have HN : Hid (textV 19 [v, u] = if kinds 2 [v, u] then tV (v.t ++ u.t) else zV) := h_ (by unfold textV; simp [textOf, lenV])
 have HZ : Hid (∀ w', Calls Tryz.prog 139 #[] w' (Ret w' (vV zV))) := h_ fun w' => null_call w'
 have HI := h_ rint_call
 have HTX := h_ rtext_call
 have HV := h_ hv
 clear hv
 simp only [List.length_cons, List.length_nil, Nat.zero_add, Nat.reduceAdd] at HR
 generalize hq : textV 19 [v, u] = q at HN |-
 generalize kinds 2 [v, u] = b at HR HN
 clear hq
 go_enter Tryz.func148, Tryz.ntmps148
 go_upto_region 1 with (fail)
 refine nA fun w1 hB0 hw1 hz1 => ?_
 have HC := h_ hB0
 have HW := h_ hw1
 have HV1 := h_ (HV.out.below hw1)
 clear hB0 hw1 hz1
 go_wp2_with fail
 refine (HR.out w1 HV1.out).mono ?_
 rintro e w2 ⟨rfl, hw2⟩
 have HC2 := h_ (HC.out.below hw2)
 have HW2 := t_ HW hw2
 have HV2 := h_ (HV1.out.below hw2)
 clear hw2 HC HW HV1
 cases b with
 | false =>
  have HQ : Hid (q = zV) := HN
  clear HN
  go_wp2_with fail
  refine (HZ.out w2).mono ?_
  rintro e w8 ⟨rfl, hw8⟩
  have HD := h_ (HC2.out.below hw8)
  have HX := t_ HW2 hw8
  clear hw8
  generalize zV = qq at HQ |-
  obtain ⟨q0, q1, q2⟩ := qq
  unfold vV
  simp only
  obtain ⟨r0, r1, r2, f0, f1, f2⟩ := HD.out.f3
  go_wp2_with fail
  refine name_set3W (K := fun w' => bodyPost _ _ _ _ _ w') HD.out fun w9 hM => ?_
  exact bodyPost_ret (results_cell_row Tryz.results148 _ _ w.heap.size _ _ (0, 0) _ rfl hM.blk Tryz.underlying29 rfl (by kernel_rfl)) rfl ⟨by rw [HQ.out]; rfl, HX.out.trans (hM.low.mono (by first | exact Nat.le_refl _ | omega))⟩
 | true =>
  have HQ : Hid (q = tV (v.t ++ u.t)) := HN
  have hl := okV_len h1
  have hl2 := okV_len h2
  clear HN h1 h2
  obtain ⟨g, o, rfl, hgl, r0, r1, r2⟩ := HV2.out.head
  obtain ⟨g', o', e', hgl', s0, s1, s2⟩ := HV2.out.tail.head
  obtain ⟨rfl, rfl⟩ : g = g' /\ o + 3 = o' := by cases e'; exact ⟨rfl, rfl⟩
  clear e' hgl'
  obtain ⟨vk, vi, vt⟩ := v
  obtain ⟨uk, ui, ut⟩ := u
  simp only at r0 r1 r2 s0 s1 s2 hl hl2 HQ
  have hlt2 : ¬ 9223372036854775807 < vt.length + ut.length := by omega
  have HT := h_ fun w' => rtext_call (vt ++ ut) w' (by rw [List.length_append]; omega)
  generalize tV (vt ++ ut) = qq at HQ HT
  obtain ⟨q0, q1, q2⟩ := qq
  unfold vV at HT
  simp only at HT
  go_upto_region 4 with (fail)
  refine Gr.region_grow 10 (by kernel_rfl) (by kernel_rfl) (fun w' => Below w2.heap.size w2 w') ⟨rfl, rfl, rfl, Nat.le_refl _, fun _ _ => rfl⟩ ?_
  simp only [List.take_succ_cons, List.take_zero, List.drop_succ_cons, List.drop_zero]
  iterate 10
   first
   | apply Gr.sn (.string ⟨(vt ++ ut).toArray⟩); focus (go_simp; intro w' hw'; have lt := hlt2; go_simp; rw [bapp, Gr.grown_value]; done)
   | apply Gr.sn (.agg #[.int .i64 q0, .int .i64 q1, .string ⟨q2.toArray⟩]); focus (go_simp; intro w' hw'; go_simp; rw [Gr.grown_enter]; exact Ret.fam (HT.out w') hw'; done)
   | apply Gr.sn; focus (go_simp; intro w' hw'; go_simp; rw [Gr.grown_value]; done)
   | apply Gr.sn; focus (go_simp; intro w' hw'; have p2 := (hw'.cell hgl).trans r2; have gl := Nat.lt_of_lt_of_le hgl hw'.size; go_simp; rw [Gr.grown_value]; done)
   | apply Gr.sn; focus (go_simp; intro w' hw'; have s2 := (hw'.cell hgl).trans s2; have gl := Nat.lt_of_lt_of_le hgl hw'.size; go_simp; rw [Gr.grown_value]; done)
   intro K hK; go_simp; refine hK _ ?_; clear hK K
  refine Gr.line_nil fun w8 hw8 => ?_
  have HD := h_ (HC2.out.below hw8)
  have HX := t_ HW2 hw8
  clear hw8
  obtain ⟨r0, r1, r2, f0, f1, f2⟩ := HD.out.f3
  go_wp2_with fail
  refine name_set3W (K := fun w' => bodyPost _ _ _ _ _ w') HD.out fun w9 hM => ?_
  exact bodyPost_ret (results_cell_row Tryz.results148 _ _ w.heap.size _ _ (0, 0) _ rfl hM.blk Tryz.underlying29 rfl (by kernel_rfl)) rfl ⟨by rw [HQ.out]; rfl, HX.out.trans (hM.low.mono (by first | exact Nat.le_refl _ | omega))⟩
theorem ptext2_call (op : Int) (L : List V) (a : Option Addr) (m : Nat) (w : World) (hv : VI w L a) (ho : op = 19 \/ op = 20) (hl : L.length <= 1000) (hL : ∀ v ∈ L, okV v = true) : Calls Tryz.prog 79 #[.int .i64 op, .slice a L.length m] w (Ret w (vV (textV op L))) := by
 have HN : Hid (textV op L = if kinds 2 L then (if op = 20 then nV (lenV L : Nat) else tV (textOf L)) else zV) := h_ rfl
 have HZ := h_ pnull_call
 have HI := h_ pint_call
 have HTX := h_ ptext_call
 have HO := h_ ho
 have HLN := h_ fun k => lenV_le (L.take k) fun v hv => okV_len (hL v (List.mem_of_mem_take hv))
 have HV := h_ hv
 clear hv hL ho
 generalize hq : textV op L = q at HN |-
 clear hq
 go_enter Tryz.func79, Tryz.ntmps79
 go_upto_region 1 with (fail)
 refine nA fun w1 hB0 hw1 hz1 => ?_
 have HC := h_ hB0
 have HW := h_ hw1
 have HV1 := h_ (HV.out.below hw1)
 clear hB0 hw1 hz1
 go_upto_region 3 with (fail)
 go_loopw [5, 6, 11] (fun n s i wr => (∃ k : Nat, k <= L.length /\ i = .int .i64 (k : Int) /\ n = .int .i64 (lenV (L.take k) : Nat) /\ s = .string ⟨(textOf (L.take k)).toArray⟩ /\ Hid (kinds 2 (L.take k) = true)) /\ Below w1.heap.size w1 wr) (fun _ _ i _ => L.length - (intOf i).toNat)
 case atStart => exact ⟨⟨0, Nat.zero_le _, rfl, rfl, rfl, h_ rfl⟩, Below.refl _ _⟩
 case round =>
  obtain ⟨⟨k, hk, rfl, rfl, rfl, HK⟩, hb⟩ := hrel
  have HVr := h_ (HV1.out.below hb)
  have HCr := h_ (HC.out.below hb)
  have HB := h_ hb
  clear hb
  by_cases hlt : k < L.length
  ·obtain ⟨g, o, rfl, hgl, r0, r1, r2⟩ := HVr.out.at_ hlt
   have c2 : (k : Int) < (L.length : Int) := by omega
   have c3 : (0 : Int) <= (k : Int) := by omega
   have d1 : decide ((k : Int) < (L.length : Int)) = true := decide_eq_true c2
   by_cases he : L[k].k = 2
   ·have HS := h_ (kinds_step hlt HK.out he)
    have HSL := h_ (lenV_step hlt)
    have HST := h_ (textOf_step hlt)
    have b1 := HLN.out (k + 1)
    have b2 : (textOf (L.take (k + 1))).length = lenV (L.take (k + 1)) := textOf_len _
    have b3 : (textOf (L.take k)).length = lenV (L.take k) := textOf_len _
    rw [HSL.out, List.length_take] at b1
    generalize hM : lenV (L.take (k + 1)) = N1 at HSL b2
    have HM := h_ hM
    generalize hM2 : textOf (L.take (k + 1)) = T1 at HST b2
    have HM2 := h_ hM2
    clear hM hM2
    generalize lenV (L.take k) = N0 at HSL b1 b3 |-
    generalize textOf (L.take k) = T0 at HST b3 |-
    generalize L[k] = u at he r0 r1 r2 HSL HST b1
    obtain ⟨uk, ui, ut⟩ := u
    simp only at he r0 r1 r2 HSL HST b1
    subst he
    have b4 : (N0 : Int) + (ut.length : Int) <= 219902325555200 := by omega
    clear HVr
    go_wp2_with fail
    go_roundw
    case rel => exact ⟨⟨k + 1, by omega, by go_num, by rw [HM.out, HSL.out]; first | go_num | simp, by rw [HM2.out, HST.out, bapp], HS⟩, HB.out.trans ((below1 wr _).mono HB.out.size)⟩
    case measure => simp [intOf]; omega
   ·have HQ : Hid (q = zV) := h_ (by rw [HN.out, kinds_not hlt he]; rfl)
    have e1 : (L[k].k != 2) = true := by simp [he]
    generalize L[k] = u at e1 r0 r1 r2
    obtain ⟨uk, ui, ut⟩ := u
    simp only at e1 r0 r1 r2
    clear he HVr
    go_wp2_with fail
    have HC5 := h_ (HCr.out.below (below1 wr (.cells ([.int .i64 uk, .int .i64 ui, .string ⟨ut.toArray⟩] : List Value).toArray 29)))
    have HW5 := h_ ((HW.out.trans (HB.out.mono HW.out.size)).trans ((below1 wr (.cells ([.int .i64 uk, .int .i64 ui, .string ⟨ut.toArray⟩] : List Value).toArray 29)).mono (Nat.le_trans HW.out.size HB.out.size)))
    refine (HZ.out _).mono ?_
    rintro e w8 ⟨rfl, hw8⟩
    have HD := h_ (HC5.out.below hw8)
    have HX := t_ HW5 hw8
    clear hw8
    generalize zV = qq at HQ |-
    obtain ⟨q0, q1, q2⟩ := qq
    unfold vV
    simp only
    obtain ⟨r0, r1, r2, f0, f1, f2⟩ := HD.out.f3
    go_wp2_with fail
    refine name_set3W (K := fun w' => bodyPost _ _ _ _ _ w') HD.out fun w9 hM => ?_
    exact bodyPost_ret (results_cell_row Tryz.results79 _ _ w.heap.size _ _ (0, 0) _ rfl hM.blk Tryz.underlying29 rfl (by kernel_rfl)) rfl ⟨by rw [HQ.out]; rfl, HX.out.trans (hM.low.mono (by first | exact Nat.le_refl _ | omega))⟩
  ·obtain rfl : k = L.length := by omega
   have d1 : decide ((L.length : Int) < (L.length : Int)) = false := decide_eq_false (by omega)
   rw [List.take_length] at HK |-
   have HN2 : Hid (q = if op = 20 then nV (lenV L : Nat) else tV (textOf L)) := h_ (by rw [HN.out, HK.out]; rfl)
   have b1 := HLN.out L.length
   rw [List.take_length] at b1
   have b3 : (textOf L).length = lenV L := textOf_len _
   have HW5 := h_ (HW.out.trans (HB.out.mono HW.out.size))
   clear HN HVr
   rcases HO.out with rfl | rfl
   ·have HQ : Hid (q = tV (textOf L)) := HN2
    generalize textOf L = T at HQ b3 |-
    go_wp2_with fail
    refine (HTX.out T wr (by omega)).mono ?_
    rintro e w8 ⟨rfl, hw8⟩
    have HD := h_ (HCr.out.below hw8)
    have HX := t_ HW5 hw8
    clear hw8
    generalize tV T = qq at HQ |-
    obtain ⟨q0, q1, q2⟩ := qq
    unfold vV
    simp only
    obtain ⟨r0, r1, r2, f0, f1, f2⟩ := HD.out.f3
    go_wp2_with fail
    refine name_set3W (K := fun w' => bodyPost _ _ _ _ _ w') HD.out fun w9 hM => ?_
    exact bodyPost_ret (results_cell_row Tryz.results79 _ _ w.heap.size _ _ (0, 0) _ rfl hM.blk Tryz.underlying29 rfl (by kernel_rfl)) rfl ⟨by rw [HQ.out]; rfl, HX.out.trans (hM.low.mono (by first | exact Nat.le_refl _ | omega))⟩
   ·have HQ : Hid (q = nV (lenV L : Nat)) := HN2
    generalize lenV L = N at HQ |-
    go_wp2_with fail
    refine (HI.out (N : Int) wr).mono ?_
    rintro e w8 ⟨rfl, hw8⟩
    have HD := h_ (HCr.out.below hw8)
    have HX := t_ HW5 hw8
    clear hw8
    generalize nV (N : Int) = qq at HQ |-
    obtain ⟨q0, q1, q2⟩ := qq
    unfold vV
    simp only
    obtain ⟨r0, r1, r2, f0, f1, f2⟩ := HD.out.f3
    go_wp2_with fail
    refine name_set3W (K := fun w' => bodyPost _ _ _ _ _ w') HD.out fun w9 hM => ?_
    exact bodyPost_ret (results_cell_row Tryz.results79 _ _ w.heap.size _ _ (0, 0) _ rfl hM.blk Tryz.underlying29 rfl (by kernel_rfl)) rfl ⟨by rw [HQ.out]; rfl, HX.out.trans (hM.low.mono (by first | exact Nat.le_refl _ | omega))⟩
theorem okV_int {v : V} (h : okV v = true) (hk : v.k = 1) : -1125899906842624 <= v.i /\ v.i <= 1125899906842624 := by
 unfold okV validV at h
 rw [hk, if_neg (by decide), if_pos rfl] at h
 simp only [Bool.and_eq_true, decide_eq_true_eq] at h
 unfold maxN at h
 omega
theorem arithV13 (x y : Int) : arithV 13 x y = nV (x + y) := by unfold arithV; rw [if_pos rfl]
theorem arithV14 (x y : Int) : arithV 14 x y = nV (x - y) := by unfold arithV; rw [if_neg (by decide), if_pos rfl]
theorem arithV15 (x y : Int) : arithV 15 x y = prodV x y := by unfold arithV; rw [if_neg (by decide), if_neg (by decide), if_pos rfl]
theorem arithV18 (x y : Int) : arithV 18 x y = nV (-x) := by unfold arithV; rw [if_neg (by decide), if_neg (by decide), if_neg (by decide), if_pos rfl]
theorem arithV16 (x y : Int) : arithV 16 x y = if y = 0 then zV else nV (x.tdiv y) := by unfold arithV; rw [if_neg (by decide), if_neg (by decide), if_neg (by decide), if_neg (by decide), if_pos rfl]
theorem arithV17 (x y : Int) : arithV 17 x y = if y = 0 then zV else nV (x.tmod y) := by unfold arithV; rw [if_neg (by decide), if_neg (by decide), if_neg (by decide), if_neg (by decide), if_neg (show ¬ (17 : Int) = 16 by decide)]
theorem kinds_get {kd : Int} {L : List V} (h : kinds kd L = true) {j : Nat} (hj : j < L.length) : (L[j]'hj).k = kd := by
 unfold kinds at h
 rw [List.all_eq_true] at h
 simpa using h _ (List.getElem_mem hj)
theorem parith_call (op : Int) (L : List V) (a : Option Addr) (m : Nat) (w : World) (hv : VI w L a) (ho : op = 13 \/ op = 14 \/ op = 15 \/ op = 16 \/ op = 17 \/ op = 18) (hl0 : 0 < L.length) (hl : L.length <= 1000) (hL : ∀ v ∈ L, okV v = true) : Calls Tryz.prog 80 #[.int .i64 op, .slice a L.length m] w (Ret w (vV (arithL op L))) := by
 have HN : Hid (arithL op L = if kinds 1 L then arithV op (L[0]'hl0).i (L[L.length - 1]'(by omega)).i else zV) := h_ (by
  unfold arithL
  have e1 : L.headD zV = L[0]'hl0 := by cases L with | nil => simp at hl0 | cons v l => rfl
  have e2 : L.getLastD zV = L[L.length - 1]'(by omega) := by rw [List.getLastD_eq_getLast?, List.getLast?_eq_getElem?, List.getElem?_eq_getElem (by omega)]; rfl
  rw [e1, e2])
 have HZ := h_ pnull_call
 have HI := h_ pint_call
 have HPR := h_ pprod_call
 have HO := h_ ho
 have HL := h_ hL
 have HV := h_ hv
 clear hv hL ho
 generalize hq : arithL op L = q at HN |-
 clear hq
 go_enter Tryz.func80, Tryz.ntmps80
 go_upto_region 1 with (fail)
 refine nA fun w1 hB0 hw1 hz1 => ?_
 have HC := h_ hB0
 have HW := h_ hw1
 have HV1 := h_ (HV.out.below hw1)
 clear hB0 hw1 hz1
 go_upto_region 2 with (fail)
 go_loopw [11] (fun i wr => (∃ k : Nat, k <= L.length /\ i = .int .i64 (k : Int) /\ Hid (kinds 1 (L.take k) = true)) /\ Below w1.heap.size w1 wr) (fun i _ => L.length - (intOf i).toNat)
 case atStart => exact ⟨⟨0, Nat.zero_le _, rfl, h_ rfl⟩, Below.refl _ _⟩
 case round =>
  obtain ⟨⟨k, hk, rfl, HK⟩, hb⟩ := hrel
  have HVr := h_ (HV1.out.below hb)
  have HCr := h_ (HC.out.below hb)
  have HB := h_ hb
  clear hb
  by_cases hlt : k < L.length
  ·obtain ⟨g, o, rfl, hgl, r0, r1, r2⟩ := HVr.out.at_ hlt
   have c2 : (k : Int) < (L.length : Int) := by omega
   have c3 : (0 : Int) <= (k : Int) := by omega
   have d1 : decide ((k : Int) < (L.length : Int)) = true := decide_eq_true c2
   by_cases he : L[k].k = 1
   ·have HS := h_ (kinds_step hlt HK.out he)
    generalize L[k] = u at he r0 r1 r2
    obtain ⟨uk, ui, ut⟩ := u
    simp only at he r0 r1 r2
    subst he
    clear HVr
    go_wp2_with fail
    go_roundw
    case rel => exact ⟨⟨k + 1, by omega, by go_num, HS⟩, HB.out.trans ((below1 wr _).mono HB.out.size)⟩
    case measure => simp [intOf]; omega
   ·have HQ : Hid (q = zV) := h_ (by rw [HN.out, kinds_not hlt he]; rfl)
    have e1 : (L[k].k != 1) = true := by simp [he]
    generalize L[k] = u at e1 r0 r1 r2
    obtain ⟨uk, ui, ut⟩ := u
    simp only at e1 r0 r1 r2
    clear he HVr
    go_wp2_with fail
    have HC5 := h_ (HCr.out.below (below1 wr (.cells ([.int .i64 uk, .int .i64 ui, .string ⟨ut.toArray⟩] : List Value).toArray 29)))
    have HW5 := h_ ((HW.out.trans (HB.out.mono HW.out.size)).trans ((below1 wr (.cells ([.int .i64 uk, .int .i64 ui, .string ⟨ut.toArray⟩] : List Value).toArray 29)).mono (Nat.le_trans HW.out.size HB.out.size)))
    refine (HZ.out _).mono ?_
    rintro e w8 ⟨rfl, hw8⟩
    have HD := h_ (HC5.out.below hw8)
    have HX := t_ HW5 hw8
    clear hw8
    generalize zV = qq at HQ |-
    obtain ⟨q0, q1, q2⟩ := qq
    unfold vV
    simp only
    obtain ⟨r0, r1, r2, f0, f1, f2⟩ := HD.out.f3
    go_wp2_with fail
    refine name_set3W (K := fun w' => bodyPost _ _ _ _ _ w') HD.out fun w9 hM => ?_
    exact bodyPost_ret (results_cell_row Tryz.results80 _ _ w.heap.size _ _ (0, 0) _ rfl hM.blk Tryz.underlying29 rfl (by kernel_rfl)) rfl ⟨by rw [HQ.out]; rfl, HX.out.trans (hM.low.mono (by first | exact Nat.le_refl _ | omega))⟩
  ·obtain rfl : k = L.length := by omega
   have d1 : decide ((L.length : Int) < (L.length : Int)) = false := decide_eq_false (by omega)
   rw [List.take_length] at HK
   have HN2 : Hid (q = arithV op (L[0]'hl0).i (L[L.length - 1]'(by omega)).i) := h_ (by rw [HN.out, HK.out]; rfl)
   have hx := okV_int (HL.out _ (List.getElem_mem hl0)) (kinds_get HK.out hl0)
   have hy := okV_int (HL.out _ (List.getElem_mem (show L.length - 1 < L.length by omega))) (kinds_get HK.out (by omega))
   obtain ⟨g, o, rfl, hgl, r0, r1, r2⟩ := HVr.out.at_ hl0
   obtain ⟨g', o', e', hgl', s0, s1, s2⟩ := HVr.out.at_ (show L.length - 1 < L.length by omega)
   obtain ⟨rfl, rfl⟩ : g = g' /\ o = o' := by cases e'; exact ⟨rfl, rfl⟩
   clear e' hgl'
   generalize (L[0]'hl0).i = x at HN2 hx r1
   generalize (L[L.length - 1]'(by omega)).i = y at HN2 hy s1
   have HPP := h_ fun w' => HPR.out x y w' hx hy
   obtain ⟨hx1, hx2⟩ := hx
   obtain ⟨hy1, hy2⟩ := hy
   have HT1 : Hid (y ≠ 0 -> wrap64 (x.tdiv y) = x.tdiv y) := h_ (fun _ => by have := tdiv_abs x y; unfold wrap64; omega)
   have nn : ((L.length : Int) - 1).toNat = L.length - 1 := by omega
   have c4 : (L.length : Int) - 1 < (L.length : Int) := by omega
   have c5 : (0 : Int) <= (L.length : Int) - 1 := by omega
   have c6 : (0 : Int) < (L.length : Int) := by omega
   have c7 : (1 : Int) <= (L.length : Int) := by omega
   have HW5 := h_ (HW.out.trans (HB.out.mono HW.out.size))
   simp only [Nat.zero_mul, Nat.add_zero] at r1
   clear HN HVr HK r0 r2 s0 s2
   go_upto_region 7 with (fail)
   go_quiet (fail)
   have hw6 : Below wr.heap.size wr (wr.drewN nq) := ⟨rfl, rfl, rfl, Nat.le_refl _, fun _ _ => rfl⟩
   generalize wr.drewN nq = w6 at hw6 |-
   have HC6 := h_ (HCr.out.below hw6)
   have HW6 := t_ HW5 hw6
   clear hw6 r1 s1 hgl HCr HW5
   clear nn c4 c5 c6 c7 d1 hl0 hl hk hlt
   rcases HO.out with rfl | rfl | rfl | rfl | rfl | rfl
   ·have HQ : Hid (q = nV (x + y)) := h_ (by rw [HN2.out, arithV13])
    clear HN2
    go_wp2_with fail
    refine (HI.out (x + y) w6).mono ?_
    rintro e w8 ⟨rfl, hw8⟩
    have HD := h_ (HC6.out.below hw8)
    have HX := t_ HW6 hw8
    clear hw8
    generalize nV (x + y) = qq at HQ |-
    obtain ⟨q0, q1, q2⟩ := qq
    unfold vV
    simp only
    obtain ⟨r0, r1, r2, f0, f1, f2⟩ := HD.out.f3
    go_wp2_with fail
    refine name_set3W (K := fun w' => bodyPost _ _ _ _ _ w') HD.out fun w9 hM => ?_
    exact bodyPost_ret (results_cell_row Tryz.results80 _ _ w.heap.size _ _ (0, 0) _ rfl hM.blk Tryz.underlying29 rfl (by kernel_rfl)) rfl ⟨by rw [HQ.out]; rfl, HX.out.trans (hM.low.mono (by first | exact Nat.le_refl _ | omega))⟩
   ·have HQ : Hid (q = nV (x - y)) := h_ (by rw [HN2.out, arithV14])
    clear HN2
    go_wp2_with fail
    refine (HI.out (x - y) w6).mono ?_
    rintro e w8 ⟨rfl, hw8⟩
    have HD := h_ (HC6.out.below hw8)
    have HX := t_ HW6 hw8
    clear hw8
    generalize nV (x - y) = qq at HQ |-
    obtain ⟨q0, q1, q2⟩ := qq
    unfold vV
    simp only
    obtain ⟨r0, r1, r2, f0, f1, f2⟩ := HD.out.f3
    go_wp2_with fail
    refine name_set3W (K := fun w' => bodyPost _ _ _ _ _ w') HD.out fun w9 hM => ?_
    exact bodyPost_ret (results_cell_row Tryz.results80 _ _ w.heap.size _ _ (0, 0) _ rfl hM.blk Tryz.underlying29 rfl (by kernel_rfl)) rfl ⟨by rw [HQ.out]; rfl, HX.out.trans (hM.low.mono (by first | exact Nat.le_refl _ | omega))⟩
   ·have HQ : Hid (q = prodV x y) := h_ (by rw [HN2.out, arithV15])
    clear HN2
    go_wp2_with fail
    refine (HPP.out w6).mono ?_
    rintro e w8 ⟨rfl, hw8⟩
    have HD := h_ (HC6.out.below hw8)
    have HX := t_ HW6 hw8
    clear hw8
    generalize prodV x y = qq at HQ |-
    obtain ⟨q0, q1, q2⟩ := qq
    unfold vV
    simp only
    obtain ⟨r0, r1, r2, f0, f1, f2⟩ := HD.out.f3
    go_wp2_with fail
    refine name_set3W (K := fun w' => bodyPost _ _ _ _ _ w') HD.out fun w9 hM => ?_
    exact bodyPost_ret (results_cell_row Tryz.results80 _ _ w.heap.size _ _ (0, 0) _ rfl hM.blk Tryz.underlying29 rfl (by kernel_rfl)) rfl ⟨by rw [HQ.out]; rfl, HX.out.trans (hM.low.mono (by first | exact Nat.le_refl _ | omega))⟩
   ·by_cases h0 : y = 0
    ·have HQ : Hid (q = zV) := h_ (by rw [HN2.out, arithV16, if_pos h0])
     subst h0
     clear HN2
     go_wp2_with fail
     refine (HZ.out w6).mono ?_
     rintro e w8 ⟨rfl, hw8⟩
     have HD := h_ (HC6.out.below hw8)
     have HX := t_ HW6 hw8
     clear hw8
     generalize zV = qq at HQ |-
     obtain ⟨q0, q1, q2⟩ := qq
     unfold vV
     simp only
     obtain ⟨r0, r1, r2, f0, f1, f2⟩ := HD.out.f3
     go_wp2_with fail
     refine name_set3W (K := fun w' => bodyPost _ _ _ _ _ w') HD.out fun w9 hM => ?_
     exact bodyPost_ret (results_cell_row Tryz.results80 _ _ w.heap.size _ _ (0, 0) _ rfl hM.blk Tryz.underlying29 rfl (by kernel_rfl)) rfl ⟨by rw [HQ.out]; rfl, HX.out.trans (hM.low.mono (by first | exact Nat.le_refl _ | omega))⟩
    ·have HQ : Hid (q = nV (x.tdiv y)) := h_ (by rw [HN2.out, arithV16, if_neg h0])
     have e0 : (y == 0) = false := by simp [h0]
     clear HN2
     go_wp2_with fail
     rw [HT1.out h0]
     refine (HI.out (x.tdiv y) w6).mono ?_
     rintro e w8 ⟨rfl, hw8⟩
     have HD := h_ (HC6.out.below hw8)
     have HX := t_ HW6 hw8
     clear hw8
     generalize nV (x.tdiv y) = qq at HQ |-
     obtain ⟨q0, q1, q2⟩ := qq
     unfold vV
     simp only
     obtain ⟨r0, r1, r2, f0, f1, f2⟩ := HD.out.f3
     go_wp2_with fail
     refine name_set3W (K := fun w' => bodyPost _ _ _ _ _ w') HD.out fun w9 hM => ?_
     exact bodyPost_ret (results_cell_row Tryz.results80 _ _ w.heap.size _ _ (0, 0) _ rfl hM.blk Tryz.underlying29 rfl (by kernel_rfl)) rfl ⟨by rw [HQ.out]; rfl, HX.out.trans (hM.low.mono (by first | exact Nat.le_refl _ | omega))⟩
   ·by_cases h0 : y = 0
    ·have HQ : Hid (q = zV) := h_ (by rw [HN2.out, arithV17, if_pos h0])
     subst h0
     clear HN2
     go_wp2_with fail
     refine (HZ.out w6).mono ?_
     rintro e w8 ⟨rfl, hw8⟩
     have HD := h_ (HC6.out.below hw8)
     have HX := t_ HW6 hw8
     clear hw8
     generalize zV = qq at HQ |-
     obtain ⟨q0, q1, q2⟩ := qq
     unfold vV
     simp only
     obtain ⟨r0, r1, r2, f0, f1, f2⟩ := HD.out.f3
     go_wp2_with fail
     refine name_set3W (K := fun w' => bodyPost _ _ _ _ _ w') HD.out fun w9 hM => ?_
     exact bodyPost_ret (results_cell_row Tryz.results80 _ _ w.heap.size _ _ (0, 0) _ rfl hM.blk Tryz.underlying29 rfl (by kernel_rfl)) rfl ⟨by rw [HQ.out]; rfl, HX.out.trans (hM.low.mono (by first | exact Nat.le_refl _ | omega))⟩
    ·have HQ : Hid (q = nV (x.tmod y)) := h_ (by rw [HN2.out, arithV17, if_neg h0])
     have e0 : (y == 0) = false := by simp [h0]
     clear HN2
     go_wp2_with fail
     refine (HI.out (x.tmod y) w6).mono ?_
     rintro e w8 ⟨rfl, hw8⟩
     have HD := h_ (HC6.out.below hw8)
     have HX := t_ HW6 hw8
     clear hw8
     generalize nV (x.tmod y) = qq at HQ |-
     obtain ⟨q0, q1, q2⟩ := qq
     unfold vV
     simp only
     obtain ⟨r0, r1, r2, f0, f1, f2⟩ := HD.out.f3
     go_wp2_with fail
     refine name_set3W (K := fun w' => bodyPost _ _ _ _ _ w') HD.out fun w9 hM => ?_
     exact bodyPost_ret (results_cell_row Tryz.results80 _ _ w.heap.size _ _ (0, 0) _ rfl hM.blk Tryz.underlying29 rfl (by kernel_rfl)) rfl ⟨by rw [HQ.out]; rfl, HX.out.trans (hM.low.mono (by first | exact Nat.le_refl _ | omega))⟩
   ·have HQ : Hid (q = nV (-x)) := h_ (by rw [HN2.out, arithV18])
    clear HN2
    go_wp2_with fail
    refine (HI.out (-x) w6).mono ?_
    rintro e w8 ⟨rfl, hw8⟩
    have HD := h_ (HC6.out.below hw8)
    have HX := t_ HW6 hw8
    clear hw8
    generalize nV (-x) = qq at HQ |-
    obtain ⟨q0, q1, q2⟩ := qq
    unfold vV
    simp only
    obtain ⟨r0, r1, r2, f0, f1, f2⟩ := HD.out.f3
    go_wp2_with fail
    refine name_set3W (K := fun w' => bodyPost _ _ _ _ _ w') HD.out fun w9 hM => ?_
    exact bodyPost_ret (results_cell_row Tryz.results80 _ _ w.heap.size _ _ (0, 0) _ rfl hM.blk Tryz.underlying29 rfl (by kernel_rfl)) rfl ⟨by rw [HQ.out]; rfl, HX.out.trans (hM.low.mono (by first | exact Nat.le_refl _ | omega))⟩
theorem coal_skip {L : List V} {k : Nat} (hk : k < L.length) (h : coalV L = coalV (L.drop k)) (e : (L[k]'hk).k = 0) : coalV L = coalV (L.drop (k + 1)) := by
 rw [h, List.drop_eq_getElem_cons hk, coalV, if_neg (by simp [e])]
theorem coal_hit {L : List V} {k : Nat} (hk : k < L.length) (h : coalV L = coalV (L.drop k)) (e : (L[k]'hk).k ≠ 0) : coalV L = L[k] := by
 rw [h, List.drop_eq_getElem_cons hk, coalV, if_pos e]
theorem rchosen22 (c x y : V) (a : Option Addr) (m : Nat) (w : World) (hv : VI w [c, x, y] a) : Calls Tryz.prog 150 #[.int .i64 22, .slice a 3 m] w (Ret w (vV (if truthV c = 2 then x else y))) := by
 have HT := h_ fun w' => rtruth_call c w'
 have HV := h_ hv
 clear hv
 generalize hq : (if truthV c = 2 then x else y) = q
 have HN := h_ hq.symm
 clear hq
 go_enter Tryz.func150, Tryz.ntmps150
 go_upto_region 1 with (fail)
 refine nA fun w1 hB0 hw1 hz1 => ?_
 have HC := h_ hB0
 have HW := h_ hw1
 have HV1 := h_ (HV.out.below hw1)
 clear hB0 hw1 hz1
 obtain ⟨g, o, rfl, hgl, r0, r1, r2⟩ := HV1.out.head
 obtain ⟨ck, ci, ct⟩ := c
 simp only at r0 r1 r2
 unfold vV at HT |-
 simp only at HT |-
 go_wp2_with fail
 refine (HT.out w1).mono ?_
 rintro e w2 ⟨rfl, hw2⟩
 have HC2 := h_ (HC.out.below hw2)
 have HW2 := t_ HW hw2
 have HV2 := h_ (HV1.out.below hw2)
 clear hw2 HC HW HV1 r0 r1 r2 hgl
 by_cases ht : truthV ⟨ck, ci, ct⟩ = 2
 ·have HQ : Hid (q = x) := h_ (by rw [HN.out, if_pos ht])
  obtain ⟨g', o', e', hgl, s0, s1, s2⟩ := HV2.out.tail.head
  obtain ⟨rfl, rfl⟩ : g = g' /\ o + 3 = o' := by cases e'; exact ⟨rfl, rfl⟩
  clear e' HN HV2
  rw [ht]
  obtain ⟨xk, xi, xt⟩ := x
  simp only at s0 s1 s2
  obtain ⟨r0, r1, r2, f0, f1, f2⟩ := HC2.out.f3
  go_wp2_with fail
  refine name_set3W (K := fun w' => bodyPost _ _ _ _ _ w') HC2.out fun w9 hM => ?_
  exact bodyPost_ret (results_cell_row Tryz.results150 _ _ w.heap.size _ _ (0, 0) _ rfl hM.blk Tryz.underlying29 rfl (by kernel_rfl)) rfl ⟨by rw [HQ.out]; rfl, HW2.out.trans (hM.low.mono (by first | exact Nat.le_refl _ | omega))⟩
 ·have HQ : Hid (q = y) := h_ (by rw [HN.out, if_neg ht])
  obtain ⟨g', o', e', hgl, s0, s1, s2⟩ := HV2.out.tail.tail.head
  obtain ⟨rfl, rfl⟩ : g = g' /\ o + 3 + 3 = o' := by cases e'; exact ⟨rfl, rfl⟩
  have e2 : (truthV ⟨ck, ci, ct⟩ == 2) = false := by simpa using ht
  clear e' HN HV2
  generalize truthV ⟨ck, ci, ct⟩ = t at e2 |-
  obtain ⟨yk, yi, yt⟩ := y
  simp only [Nat.add_assoc, Nat.reduceAdd] at s0 s1 s2
  obtain ⟨r0, r1, r2, f0, f1, f2⟩ := HC2.out.f3
  go_wp2_with fail
  refine name_set3W (K := fun w' => bodyPost _ _ _ _ _ w') HC2.out fun w9 hM => ?_
  exact bodyPost_ret (results_cell_row Tryz.results150 _ _ w.heap.size _ _ (0, 0) _ rfl hM.blk Tryz.underlying29 rfl (by kernel_rfl)) rfl ⟨by rw [HQ.out]; rfl, HW2.out.trans (hM.low.mono (by first | exact Nat.le_refl _ | omega))⟩
theorem rchosen23 (L : List V) (a : Option Addr) (m : Nat) (w : World) (hv : VI w L a) (hl : L.length <= 1099511627776) : Calls Tryz.prog 150 #[.int .i64 23, .slice a L.length m] w (Ret w (vV (coalV L))) := by
 have HV := h_ hv
 have HZ : Hid (∀ w', Calls Tryz.prog 139 #[] w' (Ret w' (vV zV))) := h_ fun w' => null_call w'
 clear hv
 generalize hq : coalV L = q
 have HN := h_ hq
 clear hq
 go_enter Tryz.func150, Tryz.ntmps150
 go_upto_region 1 with (fail)
 refine nA fun w1 hB0 hw1 hz1 => ?_
 have HC := h_ hB0
 have HW := h_ hw1
 have HV1 := h_ (HV.out.below hw1)
 clear hB0 hw1 hz1
 go_upto_region 6 with (fail)
 go_loopw [5] (fun i wr => (∃ k : Nat, k <= L.length /\ i = .int .i64 (k : Int) /\ Hid (coalV L = coalV (L.drop k))) /\ Below w1.heap.size w1 wr) (fun i _ => L.length - (intOf i).toNat)
 case atStart => exact ⟨⟨0, Nat.zero_le _, rfl, h_ rfl⟩, Below.refl _ _⟩
 case round =>
  obtain ⟨⟨k, hk, rfl, HK⟩, hb⟩ := hrel
  have HVr := h_ (HV1.out.below hb)
  have HCr := h_ (HC.out.below hb)
  have HWr := t_ HW hb
  have HB := h_ hb
  clear hb
  by_cases hlt : k < L.length
  ·obtain ⟨g, o, rfl, hgl, r0, r1, r2⟩ := HVr.out.at_ hlt
   have c2 : (k : Int) < (L.length : Int) := by omega
   have c3 : (0 : Int) <= (k : Int) := by omega
   have d1 : decide ((k : Int) < (L.length : Int)) = true := decide_eq_true c2
   by_cases he : L[k].k = 0
   ·have HS := h_ (coal_skip hlt HK.out he)
    have e1 : (L[k].k != 0) = false := by simp [he]
    clear he HVr
    go_wp2_with fail
    go_roundw
    case rel => exact ⟨⟨k + 1, by omega, by go_num, HS⟩, HB.out⟩
    case measure => simp [intOf]; omega
   ·have HQ : Hid (q = L[k]) := h_ (by rw [<- HN.out, coal_hit hlt HK.out he])
    have e1 : (L[k].k != 0) = true := by simp [he]
    generalize L[k] = u at e1 r0 r1 r2 HQ
    obtain ⟨uk, ui, ut⟩ := u
    simp only at e1 r0 r1 r2
    clear he HVr
    obtain ⟨x0, x1, x2, f0, f1, f2⟩ := HCr.out.f3
    go_wp2_with fail
    refine name_set3W (K := fun w' => bodyPost _ _ _ _ _ w') HCr.out fun w9 hM => ?_
    exact bodyPost_ret (results_cell_row Tryz.results150 _ _ w.heap.size _ _ (0, 0) _ rfl hM.blk Tryz.underlying29 rfl (by kernel_rfl)) rfl ⟨by rw [HQ.out]; rfl, HWr.out.trans (hM.low.mono (by first | exact Nat.le_refl _ | omega))⟩
  ·obtain rfl : k = L.length := by omega
   have d1 : decide ((L.length : Int) < (L.length : Int)) = false := decide_eq_false (by omega)
   have HQ : Hid (q = zV) := h_ (by rw [<- HN.out, HK.out, List.drop_length]; rfl)
   clear HVr
   go_wp2_with fail
   refine (HZ.out wr).mono ?_
   rintro e w8 ⟨rfl, hw8⟩
   have HD := h_ (HCr.out.below hw8)
   have HX := t_ HWr hw8
   clear hw8
   generalize zV = qq at HQ |-
   obtain ⟨q0, q1, q2⟩ := qq
   unfold vV
   simp only
   obtain ⟨r0, r1, r2, f0, f1, f2⟩ := HD.out.f3
   go_wp2_with fail
   refine name_set3W (K := fun w' => bodyPost _ _ _ _ _ w') HD.out fun w9 hM => ?_
   exact bodyPost_ret (results_cell_row Tryz.results150 _ _ w.heap.size _ _ (0, 0) _ rfl hM.blk Tryz.underlying29 rfl (by kernel_rfl)) rfl ⟨by rw [HQ.out]; rfl, HX.out.trans (hM.low.mono (by first | exact Nat.le_refl _ | omega))⟩
theorem rleaf1 (int vk vi : Int) (vs nm : S) (l : List X) (cs : List Value) (row : Value) (w : World) (h : XR w (.mk 1 int vk vi vs nm l) cs) (hv : validV vk vi vs = true) (hvs : vs.length <= 140737488351232) : Calls Tryz.prog 140 #[.agg cs.toArray, row] w (Ret w (vV ⟨vk, vi, vs⟩)) := by
 obtain ⟨a, m, rfl, hl, _, _, hlen⟩ := h.lits
 have HV := h_ fun w' => rvalid_call vk vi vs w' hvs
 rw [hv] at HV
 clear h hl hv hvs
 go_enter Tryz.func140, Tryz.ntmps140
 go_upto_region 1 with (fail)
 refine nB fun w1 hA hB hw1 hz1 => ?_
 have HA := h_ hA
 have HC := h_ hB
 have HW := h_ hw1
 have p0 := hA.cell 0 rfl
 have p2 := hA.cell 2 rfl
 have p3 := hA.cell 3 rfl
 have p4 := hA.cell 4 rfl
 clear hA hB hw1 hz1
 go_upto_region 2 with (fail)
 refine nA fun w2 hD hw2 hz2 => ?_
 have HE := h_ hD
 have HC2 := h_ (HC.out.below hw2)
 have HA2 := h_ (HA.out.below hw2)
 have HW2 := t_ HW hw2
 clear p0 p2 p3 p4
 have p0 := HA2.out.cell 0 rfl
 obtain ⟨q0, q1, q2⟩ := hD.c3
 clear hD hw2 hz2 HA HC HW
 go_wp2_with fail
 refine (HV.out w2).mono ?_
 rintro e w3 ⟨rfl, hw3⟩
 have HE3 := h_ (HE.out.below hw3)
 have HC3 := h_ (HC2.out.below hw3)
 have HW3 := t_ HW2 hw3
 clear q0 q1 q2 p0 hw3 HE HC2 HW2
 obtain ⟨q0, q1, q2⟩ := HE3.out.c3
 obtain ⟨r0, r1, r2, f0, f1, f2⟩ := HC3.out.f3
 go_wp2_with fail
 refine name_set3W (K := fun w' => bodyPost _ _ _ _ _ w') HC3.out fun w9 hM => ?_
 exact bodyPost_ret (results_cell_row Tryz.results140 _ _ (w.heap.size + 1) _ _ (0, 0) _ rfl hM.blk Tryz.underlying29 rfl (by kernel_rfl)) rfl ⟨rfl, HW3.out.trans (hM.low.mono (by first | exact Nat.le_refl _ | omega))⟩
def opV (op : Int) (c : V) (L : List V) : V :=
 if op = 1 then c else if op = 4 \/ op = 5 \/ op = 6 then logicV op L else
 if 7 <= op /\ op <= 12 then ofT (compT op (L.getD 0 zV) (L.getD 1 zV)) else
 if 13 <= op /\ op <= 18 then arithL op L else if op = 19 \/ op = 20 then textV op L else
 if op = 21 then bV ((L.headD zV).k == 0) else
 if op = 22 then (if truthV (L.getD 0 zV) = 2 then L.getD 1 zV else L.getD 2 zV) else coalV L
mutual
def evalX : X -> V
 | .mk op int vk vi vs nm l => if wellB op int vk vi vs nm l.length then opV op ⟨vk, vi, vs⟩ (evalXs l) else zV
def evalXs : List X -> List V
 | [] => []
 | x :: l => evalX x :: evalXs l
end
mutual
/-- no column, no relation of periods -/
def plX : X -> Bool
 | .mk op _ _ _ _ _ l => (decide (op = 1) || (decide (4 <= op) && decide (op <= 23))) && plXs l
def plXs : List X -> Bool
 | [] => true
 | x :: l => plX x && plXs l
end
theorem evalXs_map : ∀ l : List X, evalXs l = l.map evalX
 | [] => rfl
 | x :: l => by rw [evalXs, List.map_cons, evalXs_map l]
theorem evalXs_len (l : List X) : (evalXs l).length = l.length := by rw [evalXs_map, List.length_map]
theorem evalXs_step {l : List X} {k : Nat} (hk : k < l.length) : evalXs (l.take (k + 1)) = evalXs (l.take k) ++ [evalX l[k]] := by
 rw [evalXs_map, evalXs_map, List.take_add_one, List.getElem?_eq_getElem hk, List.map_append]; rfl
theorem plXs_at : ∀ {l : List X} {k : Nat} (hk : k < l.length), plXs l = true -> plX l[k] = true
 | x :: l, 0, _, h => by rw [plXs, Bool.and_eq_true] at h; exact h.1
 | x :: l, k + 1, hk, h => by rw [plXs, Bool.and_eq_true] at h; exact plXs_at (l := l) (k := k) (by simpa using hk) h.2
theorem zV_ok : okV zV = true := by decide
theorem orNull_ok (v : V) : okV (orNullV v) = true := by
 unfold orNullV; split
 ·assumption
 ·exact zV_ok
theorem bV_ok (b : Bool) : okV (bV b) = true := by cases b <;> decide
theorem ofT_ok (t : Int) : okV (ofT t) = true := by
 unfold ofT; split
 ·exact zV_ok
 ·exact bV_ok _
theorem nV_ok (n : Int) : okV (nV n) = true := orNull_ok _
theorem tV_ok (s : S) : okV (tV s) = true := orNull_ok _
theorem prodV_ok (a b : Int) : okV (prodV a b) = true := by
 unfold prodV; split
 ·exact zV_ok
 ·exact nV_ok _
theorem arithV_ok (op a b : Int) : okV (arithV op a b) = true := by
 unfold arithV
 repeat' split
 all_goals first | exact nV_ok _ | exact zV_ok | exact prodV_ok _ _
theorem coalV_ok : ∀ L : List V, (∀ v ∈ L, okV v = true) -> okV (coalV L) = true
 | [], _ => zV_ok
 | v :: l, h => by
  rw [coalV]; split
  ·exact h _ (List.mem_cons_self ..)
  ·exact coalV_ok l fun u hu => h u (List.mem_cons_of_mem _ hu)
theorem getD_ok {L : List V} (h : ∀ v ∈ L, okV v = true) (k : Nat) : okV (L.getD k zV) = true := by
 rw [List.getD_eq_getElem?_getD]
 cases e : L[k]? with
 | none => exact zV_ok
 | some v => exact h v (List.mem_of_getElem? e)
theorem opV_ok {op : Int} {c : V} {L : List V} (hc : op = 1 -> okV c = true) (h : ∀ v ∈ L, okV v = true) : okV (opV op c L) = true := by
 unfold opV
 split
 ·exact hc ‹_›
 split
 ·unfold logicV; exact ofT_ok _
 split
 ·exact ofT_ok _
 split
 ·unfold arithL; split
  ·exact arithV_ok _ _ _
  ·exact zV_ok
 split
 ·unfold textV; split
  ·split
   ·exact nV_ok _
   ·exact tV_ok _
  ·exact zV_ok
 split
 ·exact bV_ok _
 split
 ·split
  ·exact getD_ok h 1
  ·exact getD_ok h 2
 ·exact coalV_ok L h
theorem well_valid {int vk vi : Int} {vs nm : S} {n : Nat} (h : wellB 1 int vk vi vs nm n = true) : validV vk vi vs = true := by
 unfold wellB at h
 rw [if_pos rfl] at h
 simp only [Bool.and_eq_true] at h
 exact h.2.2
mutual
theorem evalX_ok : ∀ x : X, okV (evalX x) = true
 | .mk op int vk vi vs nm l => by
  rw [evalX]
  split
  ·refine opV_ok (fun e => ?_) (evalXs_ok l)
   subst e
   exact well_valid ‹_›
  ·exact zV_ok
theorem evalXs_ok : ∀ (l : List X), ∀ v ∈ evalXs l, okV v = true
 | [], _, h => by rw [evalXs] at h; cases h
 | x :: l, v, h => by
  rw [evalXs] at h
  rcases List.mem_cons.1 h with rfl | h
  ·exact evalX_ok x
  ·exact evalXs_ok l v h
end
/-- a list of values that a walk owns -/
def OwnV (B : Nat) (v : Value) (M : List V) (w : World) : Prop := w.ownsRow B 29 3 v M.length (M.flatMap vC)
theorem OwnV.below {B : Nat} {v : Value} {M : List V} {w w' : World} (h : OwnV B v M w) (hb : Below w.heap.size w w') : OwnV B v M w' := kept_below h hb
theorem OwnV.made {B g : Nat} {w : World} (h : Blk w g [] 29) (hg : B <= g) : OwnV B (.slice (some ⟨g, 0, none⟩) 0 0) [] w :=
 ⟨rfl, .inr ⟨g, 0, #[], rfl, hg, h, Nat.le_refl _, Nat.zero_le _, rfl, rfl⟩⟩
theorem OwnV.snoc {B : Nat} {v : Value} {M : List V} {x : V} {w : World} (h : w.ownsRow B 29 3 v (M.length + 1) (M.flatMap vC ++ vC x)) : OwnV B v (M ++ [x]) w := by
 unfold OwnV
 rw [List.length_append, List.flatMap_append]
 simpa using h
theorem flat3 : ∀ (M : List V) (j : Nat) (v : V), M[j]? = some v -> ∀ i u, (vC v)[i]? = some u -> (M.flatMap vC)[j * 3 + i]? = some u
 | [], _, _, h, _, _, _ => by simp at h
 | x :: M, 0, v, h, i, u, hu => by
  simp at h; subst h
  rw [List.flatMap_cons, Nat.zero_mul, Nat.zero_add, List.getElem?_append_left (by obtain ⟨h, _⟩ := List.getElem?_eq_some_iff.1 hu; exact h)]
  exact hu
 | x :: M, j + 1, v, h, i, u, hu => by
  have e : (j + 1) * 3 + i = (vC x).length + (j * 3 + i) := by
   show (j + 1) * 3 + i = 3 + (j * 3 + i); omega
  rw [List.flatMap_cons, e, List.getElem?_append_right (Nat.le_add_right _ _), Nat.add_sub_cancel_left]
  exact flat3 M j v (by simpa using h) i u hu
theorem OwnV.vi {B : Nat} {v : Value} {M : List V} {w : World} (h : OwnV B v M w) : ∃ a c, v = .slice a M.length c /\ M.length <= c /\ VI w M a := by
 rcases h.2 with ⟨rfl, h0⟩ | ⟨g, cap, cur, rfl, hg, hc, hcap, hm, hs, ht⟩
 ·have h0' : M.length = 0 := h0
  refine ⟨none, 0, by rw [h0'], by omega, fun j v hj => ?_⟩
  rw [List.eq_nil_of_length_eq_zero h0'] at hj; cases hj
 ·refine ⟨_, cap, rfl, hcap, fun j v hj => ⟨g, 0, rfl, ?_, ?_, ?_, ?_⟩⟩
  ·exact Blk.lt hc
  all_goals
   have hcl := fun (n : Nat) (u : Value) (hn : (M.flatMap vC)[n]? = some u) => World.ownsRow.cells h (g := g) rfl n u hn
   have ad : ∀ n, (⟨g, 0, none⟩ : Addr).add n = ⟨g, 0 + n, none⟩ := fun n => by unfold Addr.add; split <;> simp_all
  ·have := hcl _ _ (flat3 M j v hj 0 _ rfl); rw [ad] at this; simpa using this
  ·have := hcl _ _ (flat3 M j v hj 1 _ rfl); rw [ad] at this; simpa using this
  ·have := hcl _ _ (flat3 M j v hj 2 _ rfl); rw [ad] at this; simpa using this
end Go.Proofs.YtnlimlboedohgaaGreatDoor.Px
