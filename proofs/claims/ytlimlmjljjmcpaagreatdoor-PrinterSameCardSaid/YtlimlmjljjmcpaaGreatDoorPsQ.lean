/-
  slices.Equal over integers, columns, sort keys (Printed by gen_same2.py.)
-/
import Derived.Test.YtlimlmjljjmcpaaGreatDoorPsE
namespace Go.Proofs.YtlimlmjljjmcpaaGreatDoor.Ps
open Go Go.RowKit
set_option linter.unusedVariables false
set_option linter.unusedSimpArgs false
set_option maxHeartbeats 8000000 in
set_option maxRecDepth 100000 in
theorem eq_int (xs ys : List C) (a b : Option Addr) (n m n' m' : Nat) (w : World)
    (h1 : Rp Tryz.prog w 50 [.slice a n m] (.s xs)) (h2 : Rp Tryz.prog w 50 [.slice b n' m'] (.s ys)) :
    Calls Tryz.prog 86 #[.slice a n m, .slice b n' m'] w (SamePost w (.s xs) (.s ys)) := by
  obtain ⟨l1, n1⟩ := slice_len Tryz.underlying50 (by kernel_rfl : Tryz.prog.bytesOf 3 = 8) (by decide) h1
  obtain ⟨l2, n2⟩ := slice_len Tryz.underlying50 (by kernel_rfl : Tryz.prog.bytesOf 3 = 8) (by decide) h2
  have H1 := Lib.hid h1
  have H2 := Lib.hid h2
  have L1 := Lib.hid l1
  have L2 := Lib.hid l2
  clear h1 h2 l1 l2
  by_cases hlen : n = n'
  · subst hlen
    go_enter Tryz.func86, Tryz.ntmps86
    go_wp2_with fail
    go_loopw [13] (fun c wr => ∃ k, LoopR w n k xs ys c wr) (fun c _ => n - (intOf c).toNat)
    case atStart => exact ⟨0, ⟨Nat.zero_le _, rfl, upTo_zero _ _, Below.refl _ _⟩⟩
    case round =>
      obtain ⟨k, ⟨hk, rfl, hs, hb⟩⟩ := hrel
      have HS := Lib.hid hs
      clear hs
      by_cases hlt : k < n
      · obtain ⟨g, o, us, eq, hgl, hul, hcell, hkx, hrx⟩ := elem_at Tryz.underlying50 zc_int (by omega) H1.out hlt
        obtain ⟨g', o', vs, eq', hgl', hul', hcell', hkx', hrx'⟩ := elem_at Tryz.underlying50 zc_int (by omega) H2.out hlt
        subst eq eq'
        obtain ⟨u0, rfl, hx0⟩ := hrx.int_inv Tryz.underlying3
        obtain ⟨v0, rfl, hy0⟩ := hrx'.int_inv Tryz.underlying3
        have HXE := Lib.hid hx0
        have HYE := Lib.hid hy0
        have rr : ∀ j (u : Value), ([.int .i64 u0] : List Value)[j]? = some u → wr.cell? ⟨g, o + k * 1 + j, none⟩ = some u := fun j u hu => (hb.cell (by exact hgl)).trans (hcell j u hu)
        have ss : ∀ j (u : Value), ([.int .i64 v0] : List Value)[j]? = some u → wr.cell? ⟨g', o' + k * 1 + j, none⟩ = some u := fun j u hu => (hb.cell (by exact hgl')).trans (hcell' j u hu)
        have r0 := rr 0 _ rfl
        have s0 := ss 0 _ rfl
        simp only [Nat.add_zero, Nat.mul_one] at r0 s0
        have c2 : (k : Int) < (n : Int) := by omega
        have c3 : (0 : Int) ≤ (k : Int) := by omega
        have d1 : decide ((k : Int) < (n : Int)) = true := decide_eq_true c2
        have gl : g < wr.heap.size := by have := hb.size; omega
        have gl' : g' < wr.heap.size := by have := hb.size; omega
        have HB := Lib.hid hb
        clear rr ss hcell hcell' hul hul' hrx hrx' hb hx0 hy0
        by_cases hne : u0 = v0
        case neg =>
          have hn : decide (u0 = v0) = false := decide_eq_false hne
          go_upto_region 6 with (fail)
          go_quiet (fail)
          refine name_drew (K := Exit.then _ _ _ _) fun w4 hw4 hz4 => ?_
          have HB4 := Lib.hid (HB.out.trans (hw4.mono HB.out.size))
          clear hw4 HB
          go_wp2_with fail
          go_ret
          exact SamePost.no (fun e => by injection e with e; rw [← eqL_true, eqL_at hkx hkx' (by rw [HXE.out, HYE.out, eqC_false]; intro e2; simp at e2; simp_all)] at e; cases e) HB4.out
        subst hne
        go_upto_region 6 with (fail)
        go_quiet (fail)
        refine name_drew (K := Exit.then _ _ _ _) fun w4 hw4 hz4 => ?_
        have HB4 := Lib.hid (HB.out.trans (hw4.mono HB.out.size))
        clear hw4 HB
        go_wp2_with fail
        go_roundw
        case rel => exact ⟨k + 1, ⟨by omega, by go_num, upTo_succ HS.out hkx hkx' (by rw [HXE.out, HYE.out]; exact eqC_self _), HB4.out⟩⟩
        case measure => simp [intOf]; omega
      · obtain rfl : k = n := by omega
        have d1 : decide ((k : Int) < (k : Int)) = false := decide_eq_false (by omega)
        have HB := Lib.hid hb
        clear hb
        go_wp2_with fail
        go_ret
        exact SamePost.yes (by rw [eqL_true.1 (upTo_all HS.out L1.out L2.out)]) HB.out
  · have d0 : decide ((n : Int) = (n' : Int)) = false := decide_eq_false (by omega)
    go_enter Tryz.func86, Tryz.ntmps86
    go_wp2_with fail
    go_ret
    exact SamePost.no (fun e => by injection e with e; exact hlen (L1.out.symm.trans ((congrArg List.length e).trans L2.out))) (Below.refl _ _)
set_option maxHeartbeats 8000000 in
set_option maxRecDepth 100000 in
theorem eq_Column (xs ys : List C) (a b : Option Addr) (n m n' m' : Nat) (w : World)
    (h1 : Rp Tryz.prog w 49 [.slice a n m] (.s xs)) (h2 : Rp Tryz.prog w 49 [.slice b n' m'] (.s ys)) :
    Calls Tryz.prog 85 #[.slice a n m, .slice b n' m'] w (SamePost w (.s xs) (.s ys)) := by
  obtain ⟨l1, n1⟩ := slice_len Tryz.underlying49 (by kernel_rfl : Tryz.prog.bytesOf 55 = 32) (by decide) h1
  obtain ⟨l2, n2⟩ := slice_len Tryz.underlying49 (by kernel_rfl : Tryz.prog.bytesOf 55 = 32) (by decide) h2
  have H1 := Lib.hid h1
  have H2 := Lib.hid h2
  have L1 := Lib.hid l1
  have L2 := Lib.hid l2
  clear h1 h2 l1 l2
  by_cases hlen : n = n'
  · subst hlen
    go_enter Tryz.func85, Tryz.ntmps85
    go_wp2_with fail
    go_loopw [13] (fun c wr => ∃ k, LoopR w n k xs ys c wr) (fun c _ => n - (intOf c).toNat)
    case atStart => exact ⟨0, ⟨Nat.zero_le _, rfl, upTo_zero _ _, Below.refl _ _⟩⟩
    case round =>
      obtain ⟨k, ⟨hk, rfl, hs, hb⟩⟩ := hrel
      have HS := Lib.hid hs
      clear hs
      by_cases hlt : k < n
      · obtain ⟨g, o, us, eq, hgl, hul, hcell, hkx, hrx⟩ := elem_at Tryz.underlying49 zc_Column (by omega) H1.out hlt
        obtain ⟨g', o', vs, eq', hgl', hul', hcell', hkx', hrx'⟩ := elem_at Tryz.underlying49 zc_Column (by omega) H2.out hlt
        subst eq eq'
        obtain ⟨us0, ui1, ub2, rfl, hx0, _⟩ := shp_Column hrx
        obtain ⟨vs0, vi1, vb2, rfl, hy0, _⟩ := shp_Column hrx'
        have HXE := Lib.hid hx0
        have HYE := Lib.hid hy0
        have rr : ∀ j (u : Value), ([.string us0, .int .i64 ui1, .bool ub2] : List Value)[j]? = some u → wr.cell? ⟨g, o + k * 3 + j, none⟩ = some u := fun j u hu => (hb.cell (by exact hgl)).trans (hcell j u hu)
        have ss : ∀ j (u : Value), ([.string vs0, .int .i64 vi1, .bool vb2] : List Value)[j]? = some u → wr.cell? ⟨g', o' + k * 3 + j, none⟩ = some u := fun j u hu => (hb.cell (by exact hgl')).trans (hcell' j u hu)
        have r0 := rr 0 _ rfl
        have s0 := ss 0 _ rfl
        have r1 := rr 1 _ rfl
        have s1 := ss 1 _ rfl
        have r2 := rr 2 _ rfl
        have s2 := ss 2 _ rfl
        simp only [Nat.add_zero] at r0 s0
        have c2 : (k : Int) < (n : Int) := by omega
        have c3 : (0 : Int) ≤ (k : Int) := by omega
        have d1 : decide ((k : Int) < (n : Int)) = true := decide_eq_true c2
        have gl : g < wr.heap.size := by have := hb.size; omega
        have gl' : g' < wr.heap.size := by have := hb.size; omega
        have HB := Lib.hid hb
        clear rr ss hcell hcell' hul hul' hrx hrx' hb hx0 hy0
        by_cases hne : us0 = vs0
        case neg =>
          have hn : ¬ us0.toList = vs0.toList := fun e => hne (toList_inj e)
          have hm : (us0.toList == vs0.toList) = false := beq_eq_false_iff_ne.2 hn
          go_upto_region 6 with (fail)
          go_quiet (fail)
          refine name_drew (K := Exit.then _ _ _ _) fun w4 hw4 hz4 => ?_
          have HB4 := Lib.hid (HB.out.trans (hw4.mono HB.out.size))
          clear hw4 HB
          go_wp2_with fail
          go_ret
          exact SamePost.no (fun e => by injection e with e; rw [← eqL_true, eqL_at hkx hkx' (by rw [HXE.out, HYE.out, eqC_false]; intro e2; simp at e2; simp_all)] at e; cases e) HB4.out
        subst hne
        by_cases hne : ui1 = vi1
        case neg =>
          have hn : decide (ui1 = vi1) = false := decide_eq_false hne
          go_upto_region 6 with (fail)
          go_quiet (fail)
          refine name_drew (K := Exit.then _ _ _ _) fun w4 hw4 hz4 => ?_
          have HB4 := Lib.hid (HB.out.trans (hw4.mono HB.out.size))
          clear hw4 HB
          go_wp2_with fail
          go_ret
          exact SamePost.no (fun e => by injection e with e; rw [← eqL_true, eqL_at hkx hkx' (by rw [HXE.out, HYE.out, eqC_false]; intro e2; simp at e2; simp_all)] at e; cases e) HB4.out
        subst hne
        by_cases hne : ub2 = vb2
        case neg =>
          have hn : (ub2 == vb2) = false := beq_eq_false_iff_ne.2 hne
          go_upto_region 6 with (fail)
          go_quiet (fail)
          refine name_drew (K := Exit.then _ _ _ _) fun w4 hw4 hz4 => ?_
          have HB4 := Lib.hid (HB.out.trans (hw4.mono HB.out.size))
          clear hw4 HB
          go_wp2_with fail
          go_ret
          exact SamePost.no (fun e => by injection e with e; rw [← eqL_true, eqL_at hkx hkx' (by rw [HXE.out, HYE.out, eqC_false]; intro e2; simp at e2; simp_all)] at e; cases e) HB4.out
        subst hne
        go_upto_region 6 with (fail)
        go_quiet (fail)
        refine name_drew (K := Exit.then _ _ _ _) fun w4 hw4 hz4 => ?_
        have HB4 := Lib.hid (HB.out.trans (hw4.mono HB.out.size))
        clear hw4 HB
        go_wp2_with fail
        go_roundw
        case rel => exact ⟨k + 1, ⟨by omega, by go_num, upTo_succ HS.out hkx hkx' (by rw [HXE.out, HYE.out]; exact eqC_self _), HB4.out⟩⟩
        case measure => simp [intOf]; omega
      · obtain rfl : k = n := by omega
        have d1 : decide ((k : Int) < (k : Int)) = false := decide_eq_false (by omega)
        have HB := Lib.hid hb
        clear hb
        go_wp2_with fail
        go_ret
        exact SamePost.yes (by rw [eqL_true.1 (upTo_all HS.out L1.out L2.out)]) HB.out
  · have d0 : decide ((n : Int) = (n' : Int)) = false := decide_eq_false (by omega)
    go_enter Tryz.func85, Tryz.ntmps85
    go_wp2_with fail
    go_ret
    exact SamePost.no (fun e => by injection e with e; exact hlen (L1.out.symm.trans ((congrArg List.length e).trans L2.out))) (Below.refl _ _)
set_option maxHeartbeats 8000000 in
set_option maxRecDepth 100000 in
theorem eq_Order (xs ys : List C) (a b : Option Addr) (n m n' m' : Nat) (w : World)
    (h1 : Rp Tryz.prog w 44 [.slice a n m] (.s xs)) (h2 : Rp Tryz.prog w 44 [.slice b n' m'] (.s ys)) :
    Calls Tryz.prog 82 #[.slice a n m, .slice b n' m'] w (SamePost w (.s xs) (.s ys)) := by
  obtain ⟨l1, n1⟩ := slice_len Tryz.underlying44 (by kernel_rfl : Tryz.prog.bytesOf 115 = 16) (by decide) h1
  obtain ⟨l2, n2⟩ := slice_len Tryz.underlying44 (by kernel_rfl : Tryz.prog.bytesOf 115 = 16) (by decide) h2
  have H1 := Lib.hid h1
  have H2 := Lib.hid h2
  have L1 := Lib.hid l1
  have L2 := Lib.hid l2
  clear h1 h2 l1 l2
  by_cases hlen : n = n'
  · subst hlen
    go_enter Tryz.func82, Tryz.ntmps82
    go_wp2_with fail
    go_loopw [13] (fun c wr => ∃ k, LoopR w n k xs ys c wr) (fun c _ => n - (intOf c).toNat)
    case atStart => exact ⟨0, ⟨Nat.zero_le _, rfl, upTo_zero _ _, Below.refl _ _⟩⟩
    case round =>
      obtain ⟨k, ⟨hk, rfl, hs, hb⟩⟩ := hrel
      have HS := Lib.hid hs
      clear hs
      by_cases hlt : k < n
      · obtain ⟨g, o, us, eq, hgl, hul, hcell, hkx, hrx⟩ := elem_at Tryz.underlying44 zc_Order (by omega) H1.out hlt
        obtain ⟨g', o', vs, eq', hgl', hul', hcell', hkx', hrx'⟩ := elem_at Tryz.underlying44 zc_Order (by omega) H2.out hlt
        subst eq eq'
        obtain ⟨ui0, ub1, rfl, hx0⟩ := shp_Order hrx
        obtain ⟨vi0, vb1, rfl, hy0⟩ := shp_Order hrx'
        have HXE := Lib.hid hx0
        have HYE := Lib.hid hy0
        have rr : ∀ j (u : Value), ([.int .i64 ui0, .bool ub1] : List Value)[j]? = some u → wr.cell? ⟨g, o + k * 2 + j, none⟩ = some u := fun j u hu => (hb.cell (by exact hgl)).trans (hcell j u hu)
        have ss : ∀ j (u : Value), ([.int .i64 vi0, .bool vb1] : List Value)[j]? = some u → wr.cell? ⟨g', o' + k * 2 + j, none⟩ = some u := fun j u hu => (hb.cell (by exact hgl')).trans (hcell' j u hu)
        have r0 := rr 0 _ rfl
        have s0 := ss 0 _ rfl
        have r1 := rr 1 _ rfl
        have s1 := ss 1 _ rfl
        simp only [Nat.add_zero] at r0 s0
        have c2 : (k : Int) < (n : Int) := by omega
        have c3 : (0 : Int) ≤ (k : Int) := by omega
        have d1 : decide ((k : Int) < (n : Int)) = true := decide_eq_true c2
        have gl : g < wr.heap.size := by have := hb.size; omega
        have gl' : g' < wr.heap.size := by have := hb.size; omega
        have HB := Lib.hid hb
        clear rr ss hcell hcell' hul hul' hrx hrx' hb hx0 hy0
        by_cases hne : ui0 = vi0
        case neg =>
          have hn : decide (ui0 = vi0) = false := decide_eq_false hne
          go_upto_region 6 with (fail)
          go_quiet (fail)
          refine name_drew (K := Exit.then _ _ _ _) fun w4 hw4 hz4 => ?_
          have HB4 := Lib.hid (HB.out.trans (hw4.mono HB.out.size))
          clear hw4 HB
          go_wp2_with fail
          go_ret
          exact SamePost.no (fun e => by injection e with e; rw [← eqL_true, eqL_at hkx hkx' (by rw [HXE.out, HYE.out, eqC_false]; intro e2; simp at e2; simp_all)] at e; cases e) HB4.out
        subst hne
        by_cases hne : ub1 = vb1
        case neg =>
          have hn : (ub1 == vb1) = false := beq_eq_false_iff_ne.2 hne
          go_upto_region 6 with (fail)
          go_quiet (fail)
          refine name_drew (K := Exit.then _ _ _ _) fun w4 hw4 hz4 => ?_
          have HB4 := Lib.hid (HB.out.trans (hw4.mono HB.out.size))
          clear hw4 HB
          go_wp2_with fail
          go_ret
          exact SamePost.no (fun e => by injection e with e; rw [← eqL_true, eqL_at hkx hkx' (by rw [HXE.out, HYE.out, eqC_false]; intro e2; simp at e2; simp_all)] at e; cases e) HB4.out
        subst hne
        go_upto_region 6 with (fail)
        go_quiet (fail)
        refine name_drew (K := Exit.then _ _ _ _) fun w4 hw4 hz4 => ?_
        have HB4 := Lib.hid (HB.out.trans (hw4.mono HB.out.size))
        clear hw4 HB
        go_wp2_with fail
        go_roundw
        case rel => exact ⟨k + 1, ⟨by omega, by go_num, upTo_succ HS.out hkx hkx' (by rw [HXE.out, HYE.out]; exact eqC_self _), HB4.out⟩⟩
        case measure => simp [intOf]; omega
      · obtain rfl : k = n := by omega
        have d1 : decide ((k : Int) < (k : Int)) = false := decide_eq_false (by omega)
        have HB := Lib.hid hb
        clear hb
        go_wp2_with fail
        go_ret
        exact SamePost.yes (by rw [eqL_true.1 (upTo_all HS.out L1.out L2.out)]) HB.out
  · have d0 : decide ((n : Int) = (n' : Int)) = false := decide_eq_false (by omega)
    go_enter Tryz.func82, Tryz.ntmps82
    go_wp2_with fail
    go_ret
    exact SamePost.no (fun e => by injection e with e; exact hlen (L1.out.symm.trans ((congrArg List.length e).trans L2.out))) (Below.refl _ _)
end Go.Proofs.YtlimlmjljjmcpaaGreatDoor.Ps
