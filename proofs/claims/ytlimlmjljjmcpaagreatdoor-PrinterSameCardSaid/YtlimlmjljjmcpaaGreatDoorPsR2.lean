/-
  The reference's comparisons of lists of expressions, of integers (Printed by gen_rsame.py.)
-/
import Derived.Test.YtlimlmjljjmcpaaGreatDoorPsR1
namespace Go.Proofs.YtlimlmjljjmcpaaGreatDoor.Ps
open Go Go.RowKit
set_option linter.unusedVariables false
set_option linter.unusedSimpArgs false
set_option maxHeartbeats 8000000 in
set_option maxRecDepth 100000 in
theorem r_Ints (xs ys : List C) (a b : Option Addr) (n m n' m' : Nat) (w : World)
    (h1 : Rp Tryz.prog w 50 [.slice a n m] (.s xs)) (h2 : Rp Tryz.prog w 50 [.slice b n' m'] (.s ys)) :
    Calls Tryz.prog 159 #[.slice a n m, .slice b n' m'] w (SamePost w (.s xs) (.s ys)) := by
  obtain ⟨l1, n1⟩ := slice_len Tryz.underlying50 (by kernel_rfl : Tryz.prog.bytesOf 3 = 8) (by decide) h1
  obtain ⟨l2, n2⟩ := slice_len Tryz.underlying50 (by kernel_rfl : Tryz.prog.bytesOf 3 = 8) (by decide) h2
  have H1 := Lib.hid h1
  have H2 := Lib.hid h2
  have L1 := Lib.hid l1
  have L2 := Lib.hid l2
  clear h1 h2 l1 l2
  by_cases hlen : n = n'
  · subst hlen
    go_enter Tryz.func159, Tryz.ntmps159
    go_wp2_with fail
    go_loopw [5] (fun c wr => ∃ k, LoopR w n k xs ys c wr) (fun c _ => n - (intOf c).toNat)
    case atStart => exact ⟨0, ⟨Nat.zero_le _, rfl, upTo_zero _ _, Below.refl _ _⟩⟩
    case round =>
      obtain ⟨k, ⟨hk, rfl, hs, hb⟩⟩ := hrel
      have HS := Lib.hid hs
      clear hs
      by_cases hlt : k < n
      · obtain ⟨g, o, us, eq, hgl, hul, hcell, hkx, hrx⟩ := elem_at Tryz.underlying50 zc_int (by omega) H1.out hlt
        obtain ⟨g', o', vs, eq', hgl', hul', hcell', hkx', hrx'⟩ := elem_at Tryz.underlying50 zc_int (by omega) H2.out hlt
        subst eq eq'
        have HX := Lib.hid hrx
        have HY := Lib.hid hrx'
        have hwb := hb
        obtain ⟨u0, rfl, hx0⟩ := hrx.int_inv Tryz.underlying3
        obtain ⟨v0, rfl, hy0⟩ := hrx'.int_inv Tryz.underlying3
        have HXE := Lib.hid hx0
        have HYE := Lib.hid hy0
        have rr : ∀ j (u : Value), ([.int .i64 u0] : List Value)[j]? = some u → wr.cell? ⟨g, o + k * 1 + j, none⟩ = some u := fun j u hu => (hwb.cell (by exact hgl)).trans (hcell j u hu)
        have ss : ∀ j (u : Value), ([.int .i64 v0] : List Value)[j]? = some u → wr.cell? ⟨g', o' + k * 1 + j, none⟩ = some u := fun j u hu => (hwb.cell (by exact hgl')).trans (hcell' j u hu)
        have r0 := rr 0 _ rfl
        have s0 := ss 0 _ rfl
        simp only [Nat.add_zero, Nat.mul_one] at r0 s0
        have c2 : (k : Int) < (n : Int) := by omega
        have c3 : (0 : Int) ≤ (k : Int) := by omega
        have d1 : decide ((k : Int) < (n : Int)) = true := decide_eq_true c2
        have gl : g < wr.heap.size := by have := hwb.size; omega
        have gl' : g' < wr.heap.size := by have := hwb.size; omega
        have HWB := Lib.hid hwb
        have HB := Lib.hid hb
        clear rr ss hcell hcell' hul hul' hrx hrx' hwb hb hx0 hy0
        by_cases hne : u0 = v0
        case neg =>
          have hn : decide (u0 = v0) = false := decide_eq_false hne
          have hq : eqC xs[k] ys[k] = false := by rw [HXE.out, HYE.out, eqC_false]; intro e2; simp at e2; simp_all
          go_upto_region 6 with (fail)
          go_quiet (fail)
          refine name_drew (K := Exit.then _ _ _ _) fun w4 hw4 hz4 => ?_
          have HB4 := Lib.hid (HB.out.trans (hw4.mono HB.out.size))
          clear hw4 HB HWB r0 s0 
          go_wp2_with fail
          go_ret
          exact SamePost.no (by intro e; simp at e; have e3 := eqL_at hkx hkx' hq; simp_all [toList_iff, eqC_true, eqC_false, eqL_self]) (HB4.out)
        subst hne
        have hq : eqC xs[k] ys[k] = true := by rw [HXE.out, HYE.out]; exact eqC_self _
        go_upto_region 6 with (fail)
        go_quiet (fail)
        refine name_drew (K := Exit.then _ _ _ _) fun w4 hw4 hz4 => ?_
        have HB4 := Lib.hid (HB.out.trans (hw4.mono HB.out.size))
        clear hw4 HB HWB r0 s0 
        go_wp2_with fail
        go_roundw
        case rel => exact ⟨k + 1, ⟨by omega, by go_num, upTo_succ HS.out _ _ hq, HB4.out⟩⟩
        case measure => simp [intOf]; omega
      · obtain rfl : k = n := by omega
        have d1 : decide ((k : Int) < (k : Int)) = false := decide_eq_false (by omega)
        have HE1 := Lib.hid (eqL_true.1 (upTo_all HS.out L1.out L2.out))
        go_wp2_with fail
        go_ret
        exact SamePost.yes (by rw [HE1.out]) (hb)
  · have d0 : decide ((n : Int) = (n' : Int)) = false := decide_eq_false (by omega)
    go_enter Tryz.func159, Tryz.ntmps159
    go_wp2_with fail
    go_ret
    exact SamePost.no (fun e => by injection e with e; exact hlen (L1.out.symm.trans ((congrArg List.length e).trans L2.out))) (Below.refl _ _)
set_option maxHeartbeats 8000000 in
set_option maxRecDepth 100000 in
theorem r_List (xs ys : List C) (a b : Option Addr) (n m n' m' : Nat) (w : World)
    (h1 : Rp Tryz.prog w 24 [.slice a n m] (.s xs)) (h2 : Rp Tryz.prog w 24 [.slice b n' m'] (.s ys)) :
    Calls Tryz.prog 158 #[.slice a n m, .slice b n' m'] w (SamePost w (.s xs) (.s ys)) := by
  obtain ⟨l1, n1⟩ := slice_len Tryz.underlying24 (by kernel_rfl : Tryz.prog.bytesOf 26 = 88) (by decide) h1
  obtain ⟨l2, n2⟩ := slice_len Tryz.underlying24 (by kernel_rfl : Tryz.prog.bytesOf 26 = 88) (by decide) h2
  have H1 := Lib.hid h1
  have H2 := Lib.hid h2
  have L1 := Lib.hid l1
  have L2 := Lib.hid l2
  clear h1 h2 l1 l2
  by_cases hlen : n = n'
  · subst hlen
    go_enter Tryz.func158, Tryz.ntmps158
    go_wp2_with fail
    go_loopw [5] (fun c wr => ∃ k, LoopR w n k xs ys c wr) (fun c _ => n - (intOf c).toNat)
    case atStart => exact ⟨0, ⟨Nat.zero_le _, rfl, upTo_zero _ _, Below.refl _ _⟩⟩
    case round =>
      obtain ⟨k, ⟨hk, rfl, hs, hb⟩⟩ := hrel
      have HS := Lib.hid hs
      clear hs
      by_cases hlt : k < n
      · obtain ⟨g, o, us, eq, hgl, hul, hcell, hkx, hrx⟩ := elem_at Tryz.underlying24 zc_Expr (by omega) H1.out hlt
        obtain ⟨g', o', vs, eq', hgl', hul', hcell', hkx', hrx'⟩ := elem_at Tryz.underlying24 zc_Expr (by omega) H2.out hlt
        subst eq eq'
        have HX := Lib.hid hrx
        have HY := Lib.hid hrx'
        have hwb := hb
        obtain ⟨ui0, ui1, ui2_0, ui2_1, us2_2, us3, uq4, un4, um4, ux4, rfl, hx0, _, _, _, uh3⟩ := shp_Expr hrx
        have Huh3 := Lib.hid uh3
        obtain ⟨vi0, vi1, vi2_0, vi2_1, vs2_2, vs3, vq4, vn4, vm4, vx4, rfl, hy0, _, _, _, vh3⟩ := shp_Expr hrx'
        have Hvh3 := Lib.hid vh3
        have HXE := Lib.hid hx0
        have HYE := Lib.hid hy0
        have rr : ∀ j (u : Value), ([.int .i64 ui0, .int .i64 ui1, .int .i64 ui2_0, .int .i64 ui2_1, .string us2_2, .string us3, .slice uq4 un4 um4] : List Value)[j]? = some u → wr.cell? ⟨g, o + k * 7 + j, none⟩ = some u := fun j u hu => (hwb.cell (by exact hgl)).trans (hcell j u hu)
        have ss : ∀ j (u : Value), ([.int .i64 vi0, .int .i64 vi1, .int .i64 vi2_0, .int .i64 vi2_1, .string vs2_2, .string vs3, .slice vq4 vn4 vm4] : List Value)[j]? = some u → wr.cell? ⟨g', o' + k * 7 + j, none⟩ = some u := fun j u hu => (hwb.cell (by exact hgl')).trans (hcell' j u hu)
        have r0 := rr 0 _ rfl
        have s0 := ss 0 _ rfl
        have r1 := rr 1 _ rfl
        have s1 := ss 1 _ rfl
        have r2 := rr 2 _ rfl
        have s2 := ss 2 _ rfl
        have r3 := rr 3 _ rfl
        have s3 := ss 3 _ rfl
        have r4 := rr 4 _ rfl
        have s4 := ss 4 _ rfl
        have r5 := rr 5 _ rfl
        have s5 := ss 5 _ rfl
        have r6 := rr 6 _ rfl
        have s6 := ss 6 _ rfl
        simp only [Nat.add_zero] at r0 s0
        have c2 : (k : Int) < (n : Int) := by omega
        have c3 : (0 : Int) ≤ (k : Int) := by omega
        have d1 : decide ((k : Int) < (n : Int)) = true := decide_eq_true c2
        have gl : g < wr.heap.size := by have := hwb.size; omega
        have gl' : g' < wr.heap.size := by have := hwb.size; omega
        have HWB := Lib.hid hwb
        have HB := Lib.hid hb
        clear rr ss hcell hcell' hul hul' hrx hrx' hwb hb uh3 vh3
        go_upto_region 6 with (fail)
        go_still_tail 8, (by kernel_rfl)
        change wpList _ _ _ _ _ (wr.drewN 1)
        have HB3 := Lib.hid (HB.out.trans ((belowD wr 1).mono HB.out.size))
        have HW3 := Lib.hid (HWB.out.trans ((belowD wr 1).mono HWB.out.size))
        clear HB HWB r0 s0 r1 s1 r2 s2 r3 s3 r4 s4 r5 s5 r6 s6 
        generalize wr.drewN 1 = w3 at HB3 HW3 ⊢
        go_wp2_with fail
        refine (rsame_Expr _ xs[k] ys[k] _ _ _ (Nat.le_refl _) (HX.out.kept HW3.out (Nat.le_refl _)) (HY.out.kept HW3.out (Nat.le_refl _))).mono ?_
        rintro e' w4 ⟨rfl, hw4⟩
        have HB4 := Lib.hid (HB3.out.trans (hw4.mono HB3.out.size))
        clear hw4 HB3 HW3
        cases hq : eqC xs[k] ys[k] with
        | true =>
          go_wp2_with fail
          go_roundw
          case rel => exact ⟨k + 1, ⟨by omega, by go_num, upTo_succ HS.out _ _ hq, HB4.out⟩⟩
          case measure => simp [intOf]; omega
        | false =>
          go_wp2_with fail
          go_ret
          exact SamePost.no (by intro e; simp at e; have e3 := eqL_at hkx hkx' hq; simp_all [toList_iff, eqC_true, eqC_false, eqL_self]) (HB4.out)
      · obtain rfl : k = n := by omega
        have d1 : decide ((k : Int) < (k : Int)) = false := decide_eq_false (by omega)
        have HE1 := Lib.hid (eqL_true.1 (upTo_all HS.out L1.out L2.out))
        go_wp2_with fail
        go_ret
        exact SamePost.yes (by rw [HE1.out]) (hb)
  · have d0 : decide ((n : Int) = (n' : Int)) = false := decide_eq_false (by omega)
    go_enter Tryz.func158, Tryz.ntmps158
    go_wp2_with fail
    go_ret
    exact SamePost.no (fun e => by injection e with e; exact hlen (L1.out.symm.trans ((congrArg List.length e).trans L2.out))) (Below.refl _ _)
end Go.Proofs.YtlimlmjljjmcpaaGreatDoor.Ps
