/-
  expr.Same, and slices.EqualFunc over it.
-/
import Derived.Test.YtlimlmjljjmcpaaGreatDoorPsBlk
namespace Go.Proofs.YtlimlmjljjmcpaaGreatDoor.Ps
open Go Go.RowKit
set_option linter.unusedVariables false
set_option linter.unusedSimpArgs false
theorem by_Expr : Tryz.prog.bytesOf 26 = 88 := by kernel_rfl
/-- the law of a comparison of structs, up to a size -/
def SameN (F : FuncId) (t : TypeId) (N : Nat) : Prop := ∀ (x y : C) (cs ds : List Value) (w : World), SizeOf.sizeOf x ≤ N → Rp Tryz.prog w t cs x → Rp Tryz.prog w t ds y →
  Calls Tryz.prog F #[.agg cs.toArray, .agg ds.toArray] w (SamePost w x y)
/-- the law of a comparison of slices, up to a size -/
def SameS (F : FuncId) (t : TypeId) (N : Nat) : Prop := ∀ (x y : C) (v u : Value) (w : World), SizeOf.sizeOf x ≤ N → Rp Tryz.prog w t [v] x → Rp Tryz.prog w t [u] y →
  Calls Tryz.prog F #[v, u] w (SamePost w x y)
structure LoopR (w : World) (n k : Nat) (xs ys : List C) (c : Value) (wr : World) : Prop where
  le : k ≤ n
  c : c = .int .i64 (k : Int)
  same : upTo xs ys k
  bel : Below w.heap.size w wr
set_option maxHeartbeats 4000000 in
set_option maxRecDepth 100000 in
theorem eqf_Expr (N : Nat) (HI0 : SameN 32 26 N) (xs ys : List C) (hN : ∀ x ∈ xs, SizeOf.sizeOf x ≤ N) (a b : Option Addr) (n m n' m' : Nat) (w : World)
    (h1 : Rp Tryz.prog w 24 [.slice a n m] (.s xs)) (h2 : Rp Tryz.prog w 24 [.slice b n' m'] (.s ys)) :
    Calls Tryz.prog 39 #[.slice a n m, .slice b n' m', .func (.func 32) #[] #[]] w (SamePost w (.s xs) (.s ys)) := by
  obtain ⟨l1, n1⟩ := slice_len Tryz.underlying24 by_Expr (by decide) h1
  obtain ⟨l2, n2⟩ := slice_len Tryz.underlying24 by_Expr (by decide) h2
  have H1 := Lib.hid h1
  have H2 := Lib.hid h2
  have HI := Lib.hid HI0
  have HN := Lib.hid hN
  have L1 := Lib.hid l1
  have L2 := Lib.hid l2
  clear h1 h2 HI0 hN l1 l2
  by_cases hlen : n = n'
  · subst hlen
    go_enter Tryz.func39, Tryz.ntmps39
    go_wp2_with fail
    go_loopw [17] (fun c wr => ∃ k, LoopR w n k xs ys c wr) (fun c _ => n - (intOf c).toNat)
    case atStart => exact ⟨0, ⟨Nat.zero_le _, rfl, upTo_zero _ _, Below.refl _ _⟩⟩
    case round =>
      obtain ⟨k, ⟨hk, rfl, hs, hb⟩⟩ := hrel
      have HS := Lib.hid hs
      clear hs
      by_cases hlt : k < n
      · obtain ⟨g, o, us, eq, hgl, hul, hcell, hkx, hrx⟩ := elem_at Tryz.underlying24 zc_Expr (by omega) H1.out hlt
        obtain ⟨g', o', vs, eq', hgl', hul', hcell', hkx', hrx'⟩ := elem_at Tryz.underlying24 zc_Expr (by omega) H2.out hlt
        subst eq eq'
        have HX := Lib.hid hrx
        have HY := Lib.hid hrx'
        obtain ⟨u0, u1, u2, u3, u4, u5, U, u6, u7, _, rfl, _⟩ := shp_Expr hrx
        obtain ⟨v0, v1, v2, v3, v4, v5, V, v6, v7, _, rfl, _⟩ := shp_Expr hrx'
        have rr : ∀ j (u : Value), ([.int .i64 u0, .int .i64 u1, .int .i64 u2, .int .i64 u3, .string u4, .string u5, .slice U u6 u7] : List Value)[j]? = some u → wr.cell? ⟨g, o + k * 7 + j, none⟩ = some u := fun j u hu => (hb.cell (by exact hgl)).trans (hcell j u hu)
        have ss : ∀ j (u : Value), ([.int .i64 v0, .int .i64 v1, .int .i64 v2, .int .i64 v3, .string v4, .string v5, .slice V v6 v7] : List Value)[j]? = some u → wr.cell? ⟨g', o' + k * 7 + j, none⟩ = some u := fun j u hu => (hb.cell (by exact hgl')).trans (hcell' j u hu)
        have r0 := rr 0 _ rfl
        have r1 := rr 1 _ rfl
        have r2 := rr 2 _ rfl
        have r3 := rr 3 _ rfl
        have r4 := rr 4 _ rfl
        have r5 := rr 5 _ rfl
        have r6 := rr 6 _ rfl
        have s0 := ss 0 _ rfl
        have s1 := ss 1 _ rfl
        have s2 := ss 2 _ rfl
        have s3 := ss 3 _ rfl
        have s4 := ss 4 _ rfl
        have s5 := ss 5 _ rfl
        have s6 := ss 6 _ rfl
        simp only [Nat.add_zero] at r0 s0
        have c2 : (k : Int) < (n : Int) := by omega
        have c3 : (0 : Int) ≤ (k : Int) := by omega
        have d1 : decide ((k : Int) < (n : Int)) = true := decide_eq_true c2
        have gl : g < wr.heap.size := by have := hb.size; omega
        have gl' : g' < wr.heap.size := by have := hb.size; omega
        have HB := Lib.hid hb
        clear rr ss hcell hcell' hul hul' hrx hrx' hb
        go_wp2_with fail
        refine (HI.out xs[k] ys[k] _ _ _ (HN.out _ (List.getElem_mem _)) (HX.out.kept (HB.out.trans (((below1 wr _).trans (below1' _ _)).mono HB.out.size)) (Nat.le_refl _)) (HY.out.kept (HB.out.trans (((below1 wr _).trans (below1' _ _)).mono HB.out.size)) (Nat.le_refl _))).mono ?_
        rintro e' w4 ⟨rfl, hw4⟩
        have HB4 := Lib.hid ((HB.out.trans (((below1 wr _).trans (below1' _ _)).mono HB.out.size)).trans (hw4.mono (by have := HB.out.size; simp; omega)))
        clear hw4 HX HY HB r0 r1 r2 r3 r4 r5 r6 s0 s1 s2 s3 s4 s5 s6
        cases hq : eqC xs[k] ys[k] with
        | true =>
          go_wp2_with fail
          go_roundw
          case rel => exact ⟨k + 1, ⟨by omega, by go_num, upTo_succ HS.out _ _ hq, HB4.out⟩⟩
          case measure => simp [intOf]; omega
        | false =>
          go_wp2_with fail
          go_ret
          exact SamePost.no (fun e => by injection e with e; rw [← eqL_true, eqL_at hkx hkx' hq] at e; cases e) HB4.out
      · obtain rfl : k = n := by omega
        have d1 : decide ((k : Int) < (k : Int)) = false := decide_eq_false (by omega)
        have HB := Lib.hid hb
        clear hb
        go_wp2_with fail
        go_ret
        exact SamePost.yes (by rw [eqL_true.1 (upTo_all HS.out L1.out L2.out)]) HB.out
  · have d0 : decide ((n : Int) = (n' : Int)) = false := decide_eq_false (by omega)
    go_enter Tryz.func39, Tryz.ntmps39
    go_wp2_with fail
    go_ret
    exact SamePost.no (fun e => by injection e with e; exact hlen (L1.out.symm.trans ((congrArg List.length e).trans L2.out))) (Below.refl _ _)
set_option maxHeartbeats 4000000 in
set_option maxRecDepth 100000 in
theorem same_Expr : ∀ N, SameN 32 26 N
  | 0 => fun x y cs ds w hN => by cases x <;> simp at hN
  | N + 1 => fun x y cs ds w hN h1 h2 => by
    have HI := Lib.hid (same_Expr N)
    obtain ⟨a0, a1, a2, a3, a4, a5, A, n, m, xs, rfl, rfl, _, _, _, hr⟩ := shp_Expr h1
    obtain ⟨b0, b1, b2, b3, b4, b5, B, n', m', ys, rfl, rfl, _, _, _, hr'⟩ := shp_Expr h2
    have HX := Lib.hid hr
    have HY := Lib.hid hr'
    have HN : Hid (∀ x ∈ xs, SizeOf.sizeOf x ≤ N) := Lib.hid (fun x hx => by
      have := List.sizeOf_lt_of_mem hx
      simp at hN
      omega)
    clear h1 h2 hr hr' hN
    go_enter Tryz.func32, Tryz.ntmps32
    go_upto_region 1 with (fail)
    refine name_alloc2 (K := Code.wp _ _ _ _) fun w1 hB hX hw1 hz1 => ?_
    have p0 := hB.cell 0 rfl
    have p1 := hB.cell 1 rfl
    have p2 := hB.cell 2 rfl
    have p3 := hB.cell 3 rfl
    have p4 := hB.cell 4 rfl
    have p5 := hB.cell 5 rfl
    have p6 := hB.cell 6 rfl
    have q0 := hX.cell 0 rfl
    have q1 := hX.cell 1 rfl
    have q2 := hX.cell 2 rfl
    have q3 := hX.cell 3 rfl
    have q4 := hX.cell 4 rfl
    have q5 := hX.cell 5 rfl
    have q6 := hX.cell 6 rfl
    have HW := Lib.hid hw1
    clear hB hX hw1
    go_wp2_with fail
    case' isTrue =>
      refine (eqf_Expr N HI.out xs ys HN.out _ _ _ _ _ _ w1 (HX.out.kept HW.out (Nat.le_refl _)) (HY.out.kept HW.out (Nat.le_refl _))).mono ?_
      rintro e' w4 ⟨rfl, hw4⟩
      have HW4 := Lib.hid (HW.out.trans (hw4.mono HW.out.size))
      have e1 := toList_inj ‹a4.toList = b4.toList›
      have e2 := toList_inj ‹a5.toList = b5.toList›
      cases hq : eqC (C.s xs) (C.s ys)
      case' true => have e3 := eqC_true.1 hq
      case' false => have e3 := eqC_false.1 hq
    all_goals
      (try go_wp2_with fail)
      go_ret
      first
      | exact SamePost.no (by intro e; simp at e; simp_all) HW.out
      | exact SamePost.no (by intro e; simp at e; simp_all) HW4.out
      | exact SamePost.yes (by simp_all) HW4.out
end Go.Proofs.YtlimlmjljjmcpaaGreatDoor.Ps
