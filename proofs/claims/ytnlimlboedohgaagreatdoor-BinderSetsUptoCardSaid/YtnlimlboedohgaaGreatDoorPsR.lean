import Derived.Test.YtnlimlboedohgaaGreatDoorPsA
/-
  expr.Same, and slices.EqualFunc over it.
-/
set_option maxHeartbeats 8000000
set_option maxRecDepth 100000
namespace Go.Proofs.YtnlimlboedohgaaGreatDoor.Ps
open Go Go.RowKit
set_option linter.unusedVariables false
set_option linter.unusedSimpArgs false
theorem by_Expr : Tryz.prog.bytesOf 31 = 88 := by kernel_rfl
/-- the law of a comparison of structs, up to a size -/
def SameN (F : FuncId) (t : TypeId) (N : Nat) : Prop := ∀ (x y : C) (cs ds : List Value) (w : World), SizeOf.sizeOf x ≤ N → Rp Tryz.prog w t cs x → Rp Tryz.prog w t ds y →
 Calls Tryz.prog F #[.agg cs.toArray, .agg ds.toArray] w (SamePost w x y)
structure LoopR (w : World) (n k : Nat) (xs ys : List C) (c : Value) (wr : World) : Prop where
 le : k ≤ n
 c : c = .int .i64 (k : Int)
 same : upTo xs ys k
 bel : Below w.heap.size w wr
end Go.Proofs.YtnlimlboedohgaaGreatDoor.Ps

/-
  The reference's comparisons: expressions, lists of them, integers.
-/
namespace Go.Proofs.YtnlimlboedohgaaGreatDoor.Ps
open Go Go.RowKit
set_option linter.unusedVariables false
set_option linter.unusedSimpArgs false
theorem rsame_Expr : ∀ N, SameN 12 31 N
 | 0 => fun x y cs ds w hN => by cases x <;> simp at hN
 | N + 1 => fun x y cs ds w hN h1 h2 => by
  have HI := Lib.hid (rsame_Expr N)
  obtain ⟨a0, a1, a2, a3, a4, a5, A, n, m, xs, rfl, rfl, _, _, _, hr⟩ := shp_Expr h1
  obtain ⟨b0, b1, b2, b3, b4, b5, B, n', m', ys, rfl, rfl, _, _, _, hr'⟩ := shp_Expr h2
  obtain ⟨l1, n1⟩ := slice_len Tryz.underlying25 by_Expr (by decide) hr
  obtain ⟨l2, n2⟩ := slice_len Tryz.underlying25 by_Expr (by decide) hr'
  have H1 := Lib.hid hr
  have H2 := Lib.hid hr'
  have L1 := Lib.hid l1
  have L2 := Lib.hid l2
  have HN : Hid (∀ x ∈ xs, SizeOf.sizeOf x ≤ N) := Lib.hid (fun x hx => by
   have := List.sizeOf_lt_of_mem hx
   simp at hN
   omega)
  clear h1 h2 hr hr' hN l1 l2
  go_enter Tryz.func12, Tryz.ntmps12
  go_upto_region 1 with (fail)
  refine name_alloc2 (K := Code.wp _ _ _ _) fun w1 hB hX hw1 hz1 => ?_
  have p0 := hB.cell 0 rfl
  have p1 := hB.cell 1 rfl
  have p2 := hB.cell 2 rfl
  have p3 := hB.cell 3 rfl
  have p4 := hB.cell 4 rfl
  have p5 := hB.cell 5 rfl
  have p6 := hB.cell 6 rfl
  have q0 := hX.cell 0 rfl
  have q1 := hX.cell 1 rfl
  have q2 := hX.cell 2 rfl
  have q3 := hX.cell 3 rfl
  have q4 := hX.cell 4 rfl
  have q5 := hX.cell 5 rfl
  have q6 := hX.cell 6 rfl
  have HW := Lib.hid hw1
  have HBk := Lib.hid hB
  have HXk := Lib.hid hX
  clear hB hX hw1
  go_wp2_with fail
  all_goals (try (go_ret; exact SamePost.no (by intro e; simp at e; have := L1.out; have := L2.out; simp_all [toList_iff]) HW.out))
  have hnn : n = n' := by
   have := ‹((n : Int) != (n' : Int)) = false›
   have h2 : (n : Int) = (n' : Int) := by simpa using this
   omega
  subst hnn
  have e1 := toList_inj ‹a4.toList = b4.toList›
  have e2 := toList_inj ‹a5.toList = b5.toList›
  subst e1 e2
  simp only [bne_self_eq_false]
  clear p0 p1 p2 p3 p4 p5 p6 q0 q1 q2 q3 q4 q5 q6
  go_loopw [5] (fun c wr => ∃ k, LoopR w1 n k xs ys c wr) (fun c _ => n - (intOf c).toNat)
  case atStart => exact ⟨0, ⟨Nat.zero_le _, rfl, upTo_zero _ _, Below.refl _ _⟩⟩
  case round =>
   obtain ⟨k, ⟨hk, rfl, hs, hb⟩⟩ := hrel
   have HS := Lib.hid hs
   have p6 := (HBk.out.below hb).cell 6 rfl
   have q6 := (HXk.out.below hb).cell 6 rfl
   clear hs
   by_cases hlt : k < n
   ·obtain ⟨g, o, us, eq, hgl, hul, hcell, hkx, hrx⟩ := elem_at Tryz.underlying25 zc_Expr (by omega) H1.out hlt
    obtain ⟨g', o', vs, eq', hgl', hul', hcell', hkx', hrx'⟩ := elem_at Tryz.underlying25 zc_Expr (by omega) H2.out hlt
    subst eq eq'
    have HX := Lib.hid hrx
    have HY := Lib.hid hrx'
    obtain ⟨u0, u1, u2, u3, u4, u5, U, u6, u7, _, rfl, _⟩ := shp_Expr hrx
    obtain ⟨v0, v1, v2, v3, v4, v5, V, v6, v7, _, rfl, _⟩ := shp_Expr hrx'
    have hwb := HW.out.trans (hb.mono HW.out.size)
    have rr : ∀ j (u : Value), ([.int .i64 u0, .int .i64 u1, .int .i64 u2, .int .i64 u3, .string u4, .string u5, .slice U u6 u7] : List Value)[j]? = some u → wr.cell? ⟨g, o + k * 7 + j, none⟩ = some u := fun j u hu => (hwb.cell (by exact hgl)).trans (hcell j u hu)
    have ss : ∀ j (u : Value), ([.int .i64 v0, .int .i64 v1, .int .i64 v2, .int .i64 v3, .string v4, .string v5, .slice V v6 v7] : List Value)[j]? = some u → wr.cell? ⟨g', o' + k * 7 + j, none⟩ = some u := fun j u hu => (hwb.cell (by exact hgl')).trans (hcell' j u hu)
    have r0 := rr 0 _ rfl
    have r1 := rr 1 _ rfl
    have r2 := rr 2 _ rfl
    have r3 := rr 3 _ rfl
    have r4 := rr 4 _ rfl
    have r5 := rr 5 _ rfl
    have r6 := rr 6 _ rfl
    have s0 := ss 0 _ rfl
    have s1 := ss 1 _ rfl
    have s2 := ss 2 _ rfl
    have s3 := ss 3 _ rfl
    have s4 := ss 4 _ rfl
    have s5 := ss 5 _ rfl
    have s6 := ss 6 _ rfl
    simp only [Nat.add_zero] at r0 s0
    have c2 : (k : Int) < (n : Int) := by omega
    have c3 : (0 : Int) ≤ (k : Int) := by omega
    have d1 : decide ((k : Int) < (n : Int)) = true := decide_eq_true c2
    have HWB := Lib.hid hwb
    clear rr ss hcell hcell' hul hul' hrx hrx' hwb
    go_upto_region 6 with (fail)
    go_still_tail 10, (by kernel_rfl)
    change wpList _ _ _ _ _ (wr.drewN 1)
    have HB3 := Lib.hid (hb.trans ((belowD wr 1).mono hb.size))
    have HX3 := Lib.hid (HX.out.kept (HWB.out.trans ((belowD wr 1).mono HWB.out.size)) (Nat.le_refl _))
    have HY3 := Lib.hid (HY.out.kept (HWB.out.trans ((belowD wr 1).mono HWB.out.size)) (Nat.le_refl _))
    clear r0 r1 r2 r3 r4 r5 r6 s0 s1 s2 s3 s4 s5 s6 p6 q6 hb HX HY HWB
    generalize wr.drewN 1 = w3 at HB3 HX3 HY3 ⊢
    go_wp2_with fail
    refine (HI.out xs[k] ys[k] _ _ w3 (HN.out _ (List.getElem_mem _)) HX3.out HY3.out).mono ?_
    rintro e' w4 ⟨rfl, hw4⟩
    have HB4 := Lib.hid (HB3.out.trans (hw4.mono HB3.out.size))
    clear hw4 HX3 HY3 HB3
    cases hq : eqC xs[k] ys[k] with
    | true =>
     go_wp2_with fail
     go_roundw
     case rel => exact ⟨k + 1, ⟨by omega, by go_num, upTo_succ HS.out _ _ hq, HB4.out⟩⟩
     case measure => simp [intOf]; omega
    | false =>
     go_wp2_with fail
     go_ret
     exact SamePost.no (by intro e; simp at e; have e3 := eqL_at hkx hkx' hq; simp_all [eqL_self]) (HW.out.trans (HB4.out.mono HW.out.size))
   ·obtain rfl : k = n := by omega
    have d1 : decide ((k : Int) < (k : Int)) = false := decide_eq_false (by omega)
    have HB := Lib.hid (HW.out.trans (hb.mono HW.out.size))
    clear hb
    go_wp2_with fail
    go_ret
    exact SamePost.yes (by rw [eqL_true.1 (upTo_all HS.out L1.out L2.out)]) HB.out
end Go.Proofs.YtnlimlboedohgaaGreatDoor.Ps

/-
  The reference's comparisons of lists of expressions, of integers (Printed by gen_rsame.py.)
-/
namespace Go.Proofs.YtnlimlboedohgaaGreatDoor.Ps
open Go Go.RowKit
set_option linter.unusedVariables false
set_option linter.unusedSimpArgs false
theorem r_List (xs ys : List C) (a b : Option Addr) (n m n' m' : Nat) (w : World)
  (h1 : Rp Tryz.prog w 25 [.slice a n m] (.s xs)) (h2 : Rp Tryz.prog w 25 [.slice b n' m'] (.s ys)) :
  Calls Tryz.prog 15 #[.slice a n m, .slice b n' m'] w (SamePost w (.s xs) (.s ys)) := by
 obtain ⟨l1, n1⟩ := slice_len Tryz.underlying25 (by kernel_rfl : Tryz.prog.bytesOf 31 = 88) (by decide) h1
 obtain ⟨l2, n2⟩ := slice_len Tryz.underlying25 (by kernel_rfl : Tryz.prog.bytesOf 31 = 88) (by decide) h2
 have H1 := Lib.hid h1
 have H2 := Lib.hid h2
 have L1 := Lib.hid l1
 have L2 := Lib.hid l2
 clear h1 h2 l1 l2
 by_cases hlen : n = n'
 ·subst hlen
  go_enter Tryz.func15, Tryz.ntmps15
  go_wp2_with fail
  go_loopw [5] (fun c wr => ∃ k, LoopR w n k xs ys c wr) (fun c _ => n - (intOf c).toNat)
  case atStart => exact ⟨0, ⟨Nat.zero_le _, rfl, upTo_zero _ _, Below.refl _ _⟩⟩
  case round =>
   obtain ⟨k, ⟨hk, rfl, hs, hb⟩⟩ := hrel
   have HS := Lib.hid hs
   clear hs
   by_cases hlt : k < n
   ·obtain ⟨g, o, us, eq, hgl, hul, hcell, hkx, hrx⟩ := elem_at Tryz.underlying25 zc_Expr (by omega) H1.out hlt
    obtain ⟨g', o', vs, eq', hgl', hul', hcell', hkx', hrx'⟩ := elem_at Tryz.underlying25 zc_Expr (by omega) H2.out hlt
    subst eq eq'
    have HX := Lib.hid hrx
    have HY := Lib.hid hrx'
    have hwb := hb
    obtain ⟨ui0, ui1, ui2_0, ui2_1, us2_2, us3, uq4, un4, um4, ux4, rfl, hx0, _, _, _, uh3⟩ := shp_Expr hrx
    have Huh3 := Lib.hid uh3
    obtain ⟨vi0, vi1, vi2_0, vi2_1, vs2_2, vs3, vq4, vn4, vm4, vx4, rfl, hy0, _, _, _, vh3⟩ := shp_Expr hrx'
    have Hvh3 := Lib.hid vh3
    have HXE := Lib.hid hx0
    have HYE := Lib.hid hy0
    have rr : ∀ j (u : Value), ([.int .i64 ui0, .int .i64 ui1, .int .i64 ui2_0, .int .i64 ui2_1, .string us2_2, .string us3, .slice uq4 un4 um4] : List Value)[j]? = some u → wr.cell? ⟨g, o + k * 7 + j, none⟩ = some u := fun j u hu => (hwb.cell (by exact hgl)).trans (hcell j u hu)
    have ss : ∀ j (u : Value), ([.int .i64 vi0, .int .i64 vi1, .int .i64 vi2_0, .int .i64 vi2_1, .string vs2_2, .string vs3, .slice vq4 vn4 vm4] : List Value)[j]? = some u → wr.cell? ⟨g', o' + k * 7 + j, none⟩ = some u := fun j u hu => (hwb.cell (by exact hgl')).trans (hcell' j u hu)
    have r0 := rr 0 _ rfl
    have s0 := ss 0 _ rfl
    have r1 := rr 1 _ rfl
    have s1 := ss 1 _ rfl
    have r2 := rr 2 _ rfl
    have s2 := ss 2 _ rfl
    have r3 := rr 3 _ rfl
    have s3 := ss 3 _ rfl
    have r4 := rr 4 _ rfl
    have s4 := ss 4 _ rfl
    have r5 := rr 5 _ rfl
    have s5 := ss 5 _ rfl
    have r6 := rr 6 _ rfl
    have s6 := ss 6 _ rfl
    simp only [Nat.add_zero] at r0 s0
    have c2 : (k : Int) < (n : Int) := by omega
    have c3 : (0 : Int) ≤ (k : Int) := by omega
    have d1 : decide ((k : Int) < (n : Int)) = true := decide_eq_true c2
    have gl : g < wr.heap.size := by have := hwb.size; omega
    have gl' : g' < wr.heap.size := by have := hwb.size; omega
    have HWB := Lib.hid hwb
    have HB := Lib.hid hb
    clear rr ss hcell hcell' hul hul' hrx hrx' hwb hb uh3 vh3
    go_upto_region 6 with (fail)
    go_still_tail 8, (by kernel_rfl)
    change wpList _ _ _ _ _ (wr.drewN 1)
    have HB3 := Lib.hid (HB.out.trans ((belowD wr 1).mono HB.out.size))
    have HW3 := Lib.hid (HWB.out.trans ((belowD wr 1).mono HWB.out.size))
    clear HB HWB r0 s0 r1 s1 r2 s2 r3 s3 r4 s4 r5 s5 r6 s6 
    generalize wr.drewN 1 = w3 at HB3 HW3 ⊢
    go_wp2_with fail
    refine (rsame_Expr _ xs[k] ys[k] _ _ _ (Nat.le_refl _) (HX.out.kept HW3.out (Nat.le_refl _)) (HY.out.kept HW3.out (Nat.le_refl _))).mono ?_
    rintro e' w4 ⟨rfl, hw4⟩
    have HB4 := Lib.hid (HB3.out.trans (hw4.mono HB3.out.size))
    clear hw4 HB3 HW3
    cases hq : eqC xs[k] ys[k] with
    | true =>
     go_wp2_with fail
     go_roundw
     case rel => exact ⟨k + 1, ⟨by omega, by go_num, upTo_succ HS.out _ _ hq, HB4.out⟩⟩
     case measure => simp [intOf]; omega
    | false =>
     go_wp2_with fail
     go_ret
     exact SamePost.no (by intro e; simp at e; have e3 := eqL_at hkx hkx' hq; simp_all [toList_iff, eqC_true, eqC_false, eqL_self]) (HB4.out)
   ·obtain rfl : k = n := by omega
    have d1 : decide ((k : Int) < (k : Int)) = false := decide_eq_false (by omega)
    have HE1 := Lib.hid (eqL_true.1 (upTo_all HS.out L1.out L2.out))
    go_wp2_with fail
    go_ret
    exact SamePost.yes (by rw [HE1.out]) (hb)
 ·have d0 : decide ((n : Int) = (n' : Int)) = false := decide_eq_false (by omega)
  go_enter Tryz.func15, Tryz.ntmps15
  go_wp2_with fail
  go_ret
  exact SamePost.no (fun e => by injection e with e; exact hlen (L1.out.symm.trans ((congrArg List.length e).trans L2.out))) (Below.refl _ _)
end Go.Proofs.YtnlimlboedohgaaGreatDoor.Ps
