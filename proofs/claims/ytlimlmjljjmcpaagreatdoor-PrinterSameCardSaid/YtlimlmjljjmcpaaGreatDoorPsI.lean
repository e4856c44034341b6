/-
  slices.EqualFunc over items, joins, assignments, foreign keys, rows of expressions (Printed by gen_same2.py.)
-/
import Derived.Test.YtlimlmjljjmcpaaGreatDoorPsF
namespace Go.Proofs.YtlimlmjljjmcpaaGreatDoor.Ps
open Go Go.RowKit
set_option linter.unusedVariables false
set_option linter.unusedSimpArgs false
set_option maxHeartbeats 8000000 in
set_option maxRecDepth 100000 in
theorem eqf_Item (N : Nat) (HI0 : SameN 154 171 N) (xs ys : List C) (hN : ∀ x ∈ xs, SizeOf.sizeOf x ≤ N) (a b : Option Addr) (n m n' m' : Nat) (w : World)
    (h1 : Rp Tryz.prog w 35 [.slice a n m] (.s xs)) (h2 : Rp Tryz.prog w 35 [.slice b n' m'] (.s ys)) :
    Calls Tryz.prog 153 #[.slice a n m, .slice b n' m', .func (.func 154) #[] #[]] w (SamePost w (.s xs) (.s ys)) := by
  obtain ⟨l1, n1⟩ := slice_len Tryz.underlying35 (by kernel_rfl : Tryz.prog.bytesOf 171 = 120) (by decide) h1
  obtain ⟨l2, n2⟩ := slice_len Tryz.underlying35 (by kernel_rfl : Tryz.prog.bytesOf 171 = 120) (by decide) h2
  have H1 := Lib.hid h1
  have H2 := Lib.hid h2
  have HI := Lib.hid HI0
  have HN := Lib.hid hN
  have L1 := Lib.hid l1
  have L2 := Lib.hid l2
  clear h1 h2 HI0 hN l1 l2
  by_cases hlen : n = n'
  · subst hlen
    go_enter Tryz.func153, Tryz.ntmps153
    go_wp2_with fail
    go_loopw [17] (fun c wr => ∃ k, LoopR w n k xs ys c wr) (fun c _ => n - (intOf c).toNat)
    case atStart => exact ⟨0, ⟨Nat.zero_le _, rfl, upTo_zero _ _, Below.refl _ _⟩⟩
    case round =>
      obtain ⟨k, ⟨hk, rfl, hs, hb⟩⟩ := hrel
      have HS := Lib.hid hs
      clear hs
      by_cases hlt : k < n
      · obtain ⟨g, o, us, eq, hgl, hul, hcell, hkx, hrx⟩ := elem_at Tryz.underlying35 zc_Item (by omega) H1.out hlt
        obtain ⟨g', o', vs, eq', hgl', hul', hcell', hkx', hrx'⟩ := elem_at Tryz.underlying35 zc_Item (by omega) H2.out hlt
        subst eq eq'
        have HX := Lib.hid hrx
        have HY := Lib.hid hrx'
        obtain ⟨uy0, uu0, uu1, uu2, uu3, uu4, uu5, uu6, ui1, ub2, us3, rfl, _, uh0, _⟩ := shp_Item hrx
        obtain ⟨uii0, uii1, uii2_0, uii2_1, uis2_2, uis3, uiq4, uin4, uim4, uix4, uh0e, _, _, _, _, _⟩ := shp_Expr uh0
        cases uh0e
        obtain ⟨vy0, vu0, vu1, vu2, vu3, vu4, vu5, vu6, vi1, vb2, vs3, rfl, _, vh0, _⟩ := shp_Item hrx'
        obtain ⟨vii0, vii1, vii2_0, vii2_1, vis2_2, vis3, viq4, vin4, vim4, vix4, vh0e, _, _, _, _, _⟩ := shp_Expr vh0
        cases vh0e
        have rr : ∀ j (u : Value), ([.int .i64 uii0, .int .i64 uii1, .int .i64 uii2_0, .int .i64 uii2_1, .string uis2_2, .string uis3, .slice uiq4 uin4 uim4, .int .i64 ui1, .bool ub2, .string us3] : List Value)[j]? = some u → wr.cell? ⟨g, o + k * 10 + j, none⟩ = some u := fun j u hu => (hb.cell (by exact hgl)).trans (hcell j u hu)
        have ss : ∀ j (u : Value), ([.int .i64 vii0, .int .i64 vii1, .int .i64 vii2_0, .int .i64 vii2_1, .string vis2_2, .string vis3, .slice viq4 vin4 vim4, .int .i64 vi1, .bool vb2, .string vs3] : List Value)[j]? = some u → wr.cell? ⟨g', o' + k * 10 + j, none⟩ = some u := fun j u hu => (hb.cell (by exact hgl')).trans (hcell' j u hu)
        have r0 := rr 0 _ rfl
        have r1 := rr 1 _ rfl
        have r2 := rr 2 _ rfl
        have r3 := rr 3 _ rfl
        have r4 := rr 4 _ rfl
        have r5 := rr 5 _ rfl
        have r6 := rr 6 _ rfl
        have r7 := rr 7 _ rfl
        have r8 := rr 8 _ rfl
        have r9 := rr 9 _ rfl
        have s0 := ss 0 _ rfl
        have s1 := ss 1 _ rfl
        have s2 := ss 2 _ rfl
        have s3 := ss 3 _ rfl
        have s4 := ss 4 _ rfl
        have s5 := ss 5 _ rfl
        have s6 := ss 6 _ rfl
        have s7 := ss 7 _ rfl
        have s8 := ss 8 _ rfl
        have s9 := ss 9 _ rfl
        simp only [Nat.add_zero] at r0 s0
        have c2 : (k : Int) < (n : Int) := by omega
        have c3 : (0 : Int) ≤ (k : Int) := by omega
        have d1 : decide ((k : Int) < (n : Int)) = true := decide_eq_true c2
        have gl : g < wr.heap.size := by have := hb.size; omega
        have gl' : g' < wr.heap.size := by have := hb.size; omega
        have HB := Lib.hid hb
        clear rr ss hcell hcell' hul hul' hrx hrx' hb
        go_wp2_with fail
        refine (HI.out xs[k] ys[k] _ _ _ (HN.out _ (List.getElem_mem _)) (HX.out.kept (HB.out.trans (((below1 wr _).trans (below1' _ _)).mono HB.out.size)) (Nat.le_refl _)) (HY.out.kept (HB.out.trans (((below1 wr _).trans (below1' _ _)).mono HB.out.size)) (Nat.le_refl _))).mono ?_
        rintro e' w4 ⟨rfl, hw4⟩
        have HB4 := Lib.hid ((HB.out.trans (((below1 wr _).trans (below1' _ _)).mono HB.out.size)).trans (hw4.mono (by have := HB.out.size; simp; omega)))
        clear hw4 HX HY HB r0 r1 r2 r3 r4 r5 r6 r7 r8 r9 s0 s1 s2 s3 s4 s5 s6 s7 s8 s9
        cases hq : eqC xs[k] ys[k] with
        | true =>
          go_wp2_with fail
          go_roundw
          case rel => exact ⟨k + 1, ⟨by omega, by go_num, upTo_succ HS.out _ _ hq, HB4.out⟩⟩
          case measure => simp [intOf]; omega
        | false =>
          go_wp2_with fail
          go_ret
          exact SamePost.no (fun e => by injection e with e; rw [← eqL_true, eqL_at hkx hkx' hq] at e; cases e) HB4.out
      · obtain rfl : k = n := by omega
        have d1 : decide ((k : Int) < (k : Int)) = false := decide_eq_false (by omega)
        have HB := Lib.hid hb
        clear hb
        go_wp2_with fail
        go_ret
        exact SamePost.yes (by rw [eqL_true.1 (upTo_all HS.out L1.out L2.out)]) HB.out
  · have d0 : decide ((n : Int) = (n' : Int)) = false := decide_eq_false (by omega)
    go_enter Tryz.func153, Tryz.ntmps153
    go_wp2_with fail
    go_ret
    exact SamePost.no (fun e => by injection e with e; exact hlen (L1.out.symm.trans ((congrArg List.length e).trans L2.out))) (Below.refl _ _)
set_option maxHeartbeats 8000000 in
set_option maxRecDepth 100000 in
theorem eqf_Join (N : Nat) (HI0 : SameN 156 175 N) (xs ys : List C) (hN : ∀ x ∈ xs, SizeOf.sizeOf x ≤ N) (a b : Option Addr) (n m n' m' : Nat) (w : World)
    (h1 : Rp Tryz.prog w 40 [.slice a n m] (.s xs)) (h2 : Rp Tryz.prog w 40 [.slice b n' m'] (.s ys)) :
    Calls Tryz.prog 155 #[.slice a n m, .slice b n' m', .func (.func 156) #[] #[]] w (SamePost w (.s xs) (.s ys)) := by
  obtain ⟨l1, n1⟩ := slice_len Tryz.underlying40 (by kernel_rfl : Tryz.prog.bytesOf 175 = 160) (by decide) h1
  obtain ⟨l2, n2⟩ := slice_len Tryz.underlying40 (by kernel_rfl : Tryz.prog.bytesOf 175 = 160) (by decide) h2
  have H1 := Lib.hid h1
  have H2 := Lib.hid h2
  have HI := Lib.hid HI0
  have HN := Lib.hid hN
  have L1 := Lib.hid l1
  have L2 := Lib.hid l2
  clear h1 h2 HI0 hN l1 l2
  by_cases hlen : n = n'
  · subst hlen
    go_enter Tryz.func155, Tryz.ntmps155
    go_wp2_with fail
    go_loopw [17] (fun c wr => ∃ k, LoopR w n k xs ys c wr) (fun c _ => n - (intOf c).toNat)
    case atStart => exact ⟨0, ⟨Nat.zero_le _, rfl, upTo_zero _ _, Below.refl _ _⟩⟩
    case round =>
      obtain ⟨k, ⟨hk, rfl, hs, hb⟩⟩ := hrel
      have HS := Lib.hid hs
      clear hs
      by_cases hlt : k < n
      · obtain ⟨g, o, us, eq, hgl, hul, hcell, hkx, hrx⟩ := elem_at Tryz.underlying40 zc_Join (by omega) H1.out hlt
        obtain ⟨g', o', vs, eq', hgl', hul', hcell', hkx', hrx'⟩ := elem_at Tryz.underlying40 zc_Join (by omega) H2.out hlt
        subst eq eq'
        have HX := Lib.hid hrx
        have HY := Lib.hid hrx'
        obtain ⟨us0_0, us0_1, ui0_2_0, ui0_2_1, ui0_2_2, ui0_3, ub1, uy2, uu7, uu8, uu9, uu10, uu11, uu12, uu13, rfl, _, _, _, uh2⟩ := shp_Join hrx
        obtain ⟨uii0, uii1, uii2_0, uii2_1, uis2_2, uis3, uiq4, uin4, uim4, uix4, uh2e, _, _, _, _, _⟩ := shp_Expr uh2
        cases uh2e
        obtain ⟨vs0_0, vs0_1, vi0_2_0, vi0_2_1, vi0_2_2, vi0_3, vb1, vy2, vu7, vu8, vu9, vu10, vu11, vu12, vu13, rfl, _, _, _, vh2⟩ := shp_Join hrx'
        obtain ⟨vii0, vii1, vii2_0, vii2_1, vis2_2, vis3, viq4, vin4, vim4, vix4, vh2e, _, _, _, _, _⟩ := shp_Expr vh2
        cases vh2e
        have rr : ∀ j (u : Value), ([.string us0_0, .string us0_1, .int .i64 ui0_2_0, .int .i64 ui0_2_1, .int .i64 ui0_2_2, .int .i64 ui0_3, .bool ub1, .int .i64 uii0, .int .i64 uii1, .int .i64 uii2_0, .int .i64 uii2_1, .string uis2_2, .string uis3, .slice uiq4 uin4 uim4] : List Value)[j]? = some u → wr.cell? ⟨g, o + k * 14 + j, none⟩ = some u := fun j u hu => (hb.cell (by exact hgl)).trans (hcell j u hu)
        have ss : ∀ j (u : Value), ([.string vs0_0, .string vs0_1, .int .i64 vi0_2_0, .int .i64 vi0_2_1, .int .i64 vi0_2_2, .int .i64 vi0_3, .bool vb1, .int .i64 vii0, .int .i64 vii1, .int .i64 vii2_0, .int .i64 vii2_1, .string vis2_2, .string vis3, .slice viq4 vin4 vim4] : List Value)[j]? = some u → wr.cell? ⟨g', o' + k * 14 + j, none⟩ = some u := fun j u hu => (hb.cell (by exact hgl')).trans (hcell' j u hu)
        have r0 := rr 0 _ rfl
        have r1 := rr 1 _ rfl
        have r2 := rr 2 _ rfl
        have r3 := rr 3 _ rfl
        have r4 := rr 4 _ rfl
        have r5 := rr 5 _ rfl
        have r6 := rr 6 _ rfl
        have r7 := rr 7 _ rfl
        have r8 := rr 8 _ rfl
        have r9 := rr 9 _ rfl
        have r10 := rr 10 _ rfl
        have r11 := rr 11 _ rfl
        have r12 := rr 12 _ rfl
        have r13 := rr 13 _ rfl
        have s0 := ss 0 _ rfl
        have s1 := ss 1 _ rfl
        have s2 := ss 2 _ rfl
        have s3 := ss 3 _ rfl
        have s4 := ss 4 _ rfl
        have s5 := ss 5 _ rfl
        have s6 := ss 6 _ rfl
        have s7 := ss 7 _ rfl
        have s8 := ss 8 _ rfl
        have s9 := ss 9 _ rfl
        have s10 := ss 10 _ rfl
        have s11 := ss 11 _ rfl
        have s12 := ss 12 _ rfl
        have s13 := ss 13 _ rfl
        simp only [Nat.add_zero] at r0 s0
        have c2 : (k : Int) < (n : Int) := by omega
        have c3 : (0 : Int) ≤ (k : Int) := by omega
        have d1 : decide ((k : Int) < (n : Int)) = true := decide_eq_true c2
        have gl : g < wr.heap.size := by have := hb.size; omega
        have gl' : g' < wr.heap.size := by have := hb.size; omega
        have HB := Lib.hid hb
        clear rr ss hcell hcell' hul hul' hrx hrx' hb
        go_wp2_with fail
        refine (HI.out xs[k] ys[k] _ _ _ (HN.out _ (List.getElem_mem _)) (HX.out.kept (HB.out.trans (((below1 wr _).trans (below1' _ _)).mono HB.out.size)) (Nat.le_refl _)) (HY.out.kept (HB.out.trans (((below1 wr _).trans (below1' _ _)).mono HB.out.size)) (Nat.le_refl _))).mono ?_
        rintro e' w4 ⟨rfl, hw4⟩
        have HB4 := Lib.hid ((HB.out.trans (((below1 wr _).trans (below1' _ _)).mono HB.out.size)).trans (hw4.mono (by have := HB.out.size; simp; omega)))
        clear hw4 HX HY HB r0 r1 r2 r3 r4 r5 r6 r7 r8 r9 r10 r11 r12 r13 s0 s1 s2 s3 s4 s5 s6 s7 s8 s9 s10 s11 s12 s13
        cases hq : eqC xs[k] ys[k] with
        | true =>
          go_wp2_with fail
          go_roundw
          case rel => exact ⟨k + 1, ⟨by omega, by go_num, upTo_succ HS.out _ _ hq, HB4.out⟩⟩
          case measure => simp [intOf]; omega
        | false =>
          go_wp2_with fail
          go_ret
          exact SamePost.no (fun e => by injection e with e; rw [← eqL_true, eqL_at hkx hkx' hq] at e; cases e) HB4.out
      · obtain rfl : k = n := by omega
        have d1 : decide ((k : Int) < (k : Int)) = false := decide_eq_false (by omega)
        have HB := Lib.hid hb
        clear hb
        go_wp2_with fail
        go_ret
        exact SamePost.yes (by rw [eqL_true.1 (upTo_all HS.out L1.out L2.out)]) HB.out
  · have d0 : decide ((n : Int) = (n' : Int)) = false := decide_eq_false (by omega)
    go_enter Tryz.func155, Tryz.ntmps155
    go_wp2_with fail
    go_ret
    exact SamePost.no (fun e => by injection e with e; exact hlen (L1.out.symm.trans ((congrArg List.length e).trans L2.out))) (Below.refl _ _)
set_option maxHeartbeats 8000000 in
set_option maxRecDepth 100000 in
theorem eqf_Set (N : Nat) (HI0 : SameN 38 87 N) (xs ys : List C) (hN : ∀ x ∈ xs, SizeOf.sizeOf x ≤ N) (a b : Option Addr) (n m n' m' : Nat) (w : World)
    (h1 : Rp Tryz.prog w 48 [.slice a n m] (.s xs)) (h2 : Rp Tryz.prog w 48 [.slice b n' m'] (.s ys)) :
    Calls Tryz.prog 37 #[.slice a n m, .slice b n' m', .func (.func 38) #[] #[]] w (SamePost w (.s xs) (.s ys)) := by
  obtain ⟨l1, n1⟩ := slice_len Tryz.underlying48 (by kernel_rfl : Tryz.prog.bytesOf 87 = 104) (by decide) h1
  obtain ⟨l2, n2⟩ := slice_len Tryz.underlying48 (by kernel_rfl : Tryz.prog.bytesOf 87 = 104) (by decide) h2
  have H1 := Lib.hid h1
  have H2 := Lib.hid h2
  have HI := Lib.hid HI0
  have HN := Lib.hid hN
  have L1 := Lib.hid l1
  have L2 := Lib.hid l2
  clear h1 h2 HI0 hN l1 l2
  by_cases hlen : n = n'
  · subst hlen
    go_enter Tryz.func37, Tryz.ntmps37
    go_wp2_with fail
    go_loopw [17] (fun c wr => ∃ k, LoopR w n k xs ys c wr) (fun c _ => n - (intOf c).toNat)
    case atStart => exact ⟨0, ⟨Nat.zero_le _, rfl, upTo_zero _ _, Below.refl _ _⟩⟩
    case round =>
      obtain ⟨k, ⟨hk, rfl, hs, hb⟩⟩ := hrel
      have HS := Lib.hid hs
      clear hs
      by_cases hlt : k < n
      · obtain ⟨g, o, us, eq, hgl, hul, hcell, hkx, hrx⟩ := elem_at Tryz.underlying48 zc_Set (by omega) H1.out hlt
        obtain ⟨g', o', vs, eq', hgl', hul', hcell', hkx', hrx'⟩ := elem_at Tryz.underlying48 zc_Set (by omega) H2.out hlt
        subst eq eq'
        have HX := Lib.hid hrx
        have HY := Lib.hid hrx'
        obtain ⟨us0, uy1, uu1, uu2, uu3, uu4, uu5, uu6, uu7, rfl, _, _, uh1⟩ := shp_Set hrx
        obtain ⟨uii0, uii1, uii2_0, uii2_1, uis2_2, uis3, uiq4, uin4, uim4, uix4, uh1e, _, _, _, _, _⟩ := shp_Expr uh1
        cases uh1e
        obtain ⟨vs0, vy1, vu1, vu2, vu3, vu4, vu5, vu6, vu7, rfl, _, _, vh1⟩ := shp_Set hrx'
        obtain ⟨vii0, vii1, vii2_0, vii2_1, vis2_2, vis3, viq4, vin4, vim4, vix4, vh1e, _, _, _, _, _⟩ := shp_Expr vh1
        cases vh1e
        have rr : ∀ j (u : Value), ([.string us0, .int .i64 uii0, .int .i64 uii1, .int .i64 uii2_0, .int .i64 uii2_1, .string uis2_2, .string uis3, .slice uiq4 uin4 uim4] : List Value)[j]? = some u → wr.cell? ⟨g, o + k * 8 + j, none⟩ = some u := fun j u hu => (hb.cell (by exact hgl)).trans (hcell j u hu)
        have ss : ∀ j (u : Value), ([.string vs0, .int .i64 vii0, .int .i64 vii1, .int .i64 vii2_0, .int .i64 vii2_1, .string vis2_2, .string vis3, .slice viq4 vin4 vim4] : List Value)[j]? = some u → wr.cell? ⟨g', o' + k * 8 + j, none⟩ = some u := fun j u hu => (hb.cell (by exact hgl')).trans (hcell' j u hu)
        have r0 := rr 0 _ rfl
        have r1 := rr 1 _ rfl
        have r2 := rr 2 _ rfl
        have r3 := rr 3 _ rfl
        have r4 := rr 4 _ rfl
        have r5 := rr 5 _ rfl
        have r6 := rr 6 _ rfl
        have r7 := rr 7 _ rfl
        have s0 := ss 0 _ rfl
        have s1 := ss 1 _ rfl
        have s2 := ss 2 _ rfl
        have s3 := ss 3 _ rfl
        have s4 := ss 4 _ rfl
        have s5 := ss 5 _ rfl
        have s6 := ss 6 _ rfl
        have s7 := ss 7 _ rfl
        simp only [Nat.add_zero] at r0 s0
        have c2 : (k : Int) < (n : Int) := by omega
        have c3 : (0 : Int) ≤ (k : Int) := by omega
        have d1 : decide ((k : Int) < (n : Int)) = true := decide_eq_true c2
        have gl : g < wr.heap.size := by have := hb.size; omega
        have gl' : g' < wr.heap.size := by have := hb.size; omega
        have HB := Lib.hid hb
        clear rr ss hcell hcell' hul hul' hrx hrx' hb
        go_wp2_with fail
        refine (HI.out xs[k] ys[k] _ _ _ (HN.out _ (List.getElem_mem _)) (HX.out.kept (HB.out.trans (((below1 wr _).trans (below1' _ _)).mono HB.out.size)) (Nat.le_refl _)) (HY.out.kept (HB.out.trans (((below1 wr _).trans (below1' _ _)).mono HB.out.size)) (Nat.le_refl _))).mono ?_
        rintro e' w4 ⟨rfl, hw4⟩
        have HB4 := Lib.hid ((HB.out.trans (((below1 wr _).trans (below1' _ _)).mono HB.out.size)).trans (hw4.mono (by have := HB.out.size; simp; omega)))
        clear hw4 HX HY HB r0 r1 r2 r3 r4 r5 r6 r7 s0 s1 s2 s3 s4 s5 s6 s7
        cases hq : eqC xs[k] ys[k] with
        | true =>
          go_wp2_with fail
          go_roundw
          case rel => exact ⟨k + 1, ⟨by omega, by go_num, upTo_succ HS.out _ _ hq, HB4.out⟩⟩
          case measure => simp [intOf]; omega
        | false =>
          go_wp2_with fail
          go_ret
          exact SamePost.no (fun e => by injection e with e; rw [← eqL_true, eqL_at hkx hkx' hq] at e; cases e) HB4.out
      · obtain rfl : k = n := by omega
        have d1 : decide ((k : Int) < (k : Int)) = false := decide_eq_false (by omega)
        have HB := Lib.hid hb
        clear hb
        go_wp2_with fail
        go_ret
        exact SamePost.yes (by rw [eqL_true.1 (upTo_all HS.out L1.out L2.out)]) HB.out
  · have d0 : decide ((n : Int) = (n' : Int)) = false := decide_eq_false (by omega)
    go_enter Tryz.func37, Tryz.ntmps37
    go_wp2_with fail
    go_ret
    exact SamePost.no (fun e => by injection e with e; exact hlen (L1.out.symm.trans ((congrArg List.length e).trans L2.out))) (Below.refl _ _)
set_option maxHeartbeats 8000000 in
set_option maxRecDepth 100000 in
theorem eqf_Foreign (N : Nat) (HI0 : SameN 88 122 N) (xs ys : List C) (hN : ∀ x ∈ xs, SizeOf.sizeOf x ≤ N) (a b : Option Addr) (n m n' m' : Nat) (w : World)
    (h1 : Rp Tryz.prog w 51 [.slice a n m] (.s xs)) (h2 : Rp Tryz.prog w 51 [.slice b n' m'] (.s ys)) :
    Calls Tryz.prog 87 #[.slice a n m, .slice b n' m', .func (.func 88) #[] #[]] w (SamePost w (.s xs) (.s ys)) := by
  obtain ⟨l1, n1⟩ := slice_len Tryz.underlying51 (by kernel_rfl : Tryz.prog.bytesOf 122 = 40) (by decide) h1
  obtain ⟨l2, n2⟩ := slice_len Tryz.underlying51 (by kernel_rfl : Tryz.prog.bytesOf 122 = 40) (by decide) h2
  have H1 := Lib.hid h1
  have H2 := Lib.hid h2
  have HI := Lib.hid HI0
  have HN := Lib.hid hN
  have L1 := Lib.hid l1
  have L2 := Lib.hid l2
  clear h1 h2 HI0 hN l1 l2
  by_cases hlen : n = n'
  · subst hlen
    go_enter Tryz.func87, Tryz.ntmps87
    go_wp2_with fail
    go_loopw [17] (fun c wr => ∃ k, LoopR w n k xs ys c wr) (fun c _ => n - (intOf c).toNat)
    case atStart => exact ⟨0, ⟨Nat.zero_le _, rfl, upTo_zero _ _, Below.refl _ _⟩⟩
    case round =>
      obtain ⟨k, ⟨hk, rfl, hs, hb⟩⟩ := hrel
      have HS := Lib.hid hs
      clear hs
      by_cases hlt : k < n
      · obtain ⟨g, o, us, eq, hgl, hul, hcell, hkx, hrx⟩ := elem_at Tryz.underlying51 zc_Foreign (by omega) H1.out hlt
        obtain ⟨g', o', vs, eq', hgl', hul', hcell', hkx', hrx'⟩ := elem_at Tryz.underlying51 zc_Foreign (by omega) H2.out hlt
        subst eq eq'
        have HX := Lib.hid hrx
        have HY := Lib.hid hrx'
        obtain ⟨uq0, un0, um0, ux0, us1, rfl, _, _, _, _⟩ := shp_Foreign hrx
        obtain ⟨vq0, vn0, vm0, vx0, vs1, rfl, _, _, _, _⟩ := shp_Foreign hrx'
        have rr : ∀ j (u : Value), ([.slice uq0 un0 um0, .string us1] : List Value)[j]? = some u → wr.cell? ⟨g, o + k * 2 + j, none⟩ = some u := fun j u hu => (hb.cell (by exact hgl)).trans (hcell j u hu)
        have ss : ∀ j (u : Value), ([.slice vq0 vn0 vm0, .string vs1] : List Value)[j]? = some u → wr.cell? ⟨g', o' + k * 2 + j, none⟩ = some u := fun j u hu => (hb.cell (by exact hgl')).trans (hcell' j u hu)
        have r0 := rr 0 _ rfl
        have r1 := rr 1 _ rfl
        have s0 := ss 0 _ rfl
        have s1 := ss 1 _ rfl
        simp only [Nat.add_zero] at r0 s0
        have c2 : (k : Int) < (n : Int) := by omega
        have c3 : (0 : Int) ≤ (k : Int) := by omega
        have d1 : decide ((k : Int) < (n : Int)) = true := decide_eq_true c2
        have gl : g < wr.heap.size := by have := hb.size; omega
        have gl' : g' < wr.heap.size := by have := hb.size; omega
        have HB := Lib.hid hb
        clear rr ss hcell hcell' hul hul' hrx hrx' hb
        go_wp2_with fail
        refine (HI.out xs[k] ys[k] _ _ _ (HN.out _ (List.getElem_mem _)) (HX.out.kept (HB.out.trans (((below1 wr _).trans (below1' _ _)).mono HB.out.size)) (Nat.le_refl _)) (HY.out.kept (HB.out.trans (((below1 wr _).trans (below1' _ _)).mono HB.out.size)) (Nat.le_refl _))).mono ?_
        rintro e' w4 ⟨rfl, hw4⟩
        have HB4 := Lib.hid ((HB.out.trans (((below1 wr _).trans (below1' _ _)).mono HB.out.size)).trans (hw4.mono (by have := HB.out.size; simp; omega)))
        clear hw4 HX HY HB r0 r1 s0 s1
        cases hq : eqC xs[k] ys[k] with
        | true =>
          go_wp2_with fail
          go_roundw
          case rel => exact ⟨k + 1, ⟨by omega, by go_num, upTo_succ HS.out _ _ hq, HB4.out⟩⟩
          case measure => simp [intOf]; omega
        | false =>
          go_wp2_with fail
          go_ret
          exact SamePost.no (fun e => by injection e with e; rw [← eqL_true, eqL_at hkx hkx' hq] at e; cases e) HB4.out
      · obtain rfl : k = n := by omega
        have d1 : decide ((k : Int) < (k : Int)) = false := decide_eq_false (by omega)
        have HB := Lib.hid hb
        clear hb
        go_wp2_with fail
        go_ret
        exact SamePost.yes (by rw [eqL_true.1 (upTo_all HS.out L1.out L2.out)]) HB.out
  · have d0 : decide ((n : Int) = (n' : Int)) = false := decide_eq_false (by omega)
    go_enter Tryz.func87, Tryz.ntmps87
    go_wp2_with fail
    go_ret
    exact SamePost.no (fun e => by injection e with e; exact hlen (L1.out.symm.trans ((congrArg List.length e).trans L2.out))) (Below.refl _ _)
set_option maxHeartbeats 8000000 in
set_option maxRecDepth 100000 in
theorem eqf_Row (N : Nat) (HI0 : SameS 36 24 N) (xs ys : List C) (hN : ∀ x ∈ xs, SizeOf.sizeOf x ≤ N) (a b : Option Addr) (n m n' m' : Nat) (w : World)
    (h1 : Rp Tryz.prog w 47 [.slice a n m] (.s xs)) (h2 : Rp Tryz.prog w 47 [.slice b n' m'] (.s ys)) :
    Calls Tryz.prog 35 #[.slice a n m, .slice b n' m', .func (.func 36) #[] #[]] w (SamePost w (.s xs) (.s ys)) := by
  obtain ⟨l1, n1⟩ := slice_len Tryz.underlying47 (by kernel_rfl : Tryz.prog.bytesOf 24 = 24) (by decide) h1
  obtain ⟨l2, n2⟩ := slice_len Tryz.underlying47 (by kernel_rfl : Tryz.prog.bytesOf 24 = 24) (by decide) h2
  have H1 := Lib.hid h1
  have H2 := Lib.hid h2
  have HI := Lib.hid HI0
  have HN := Lib.hid hN
  have L1 := Lib.hid l1
  have L2 := Lib.hid l2
  clear h1 h2 HI0 hN l1 l2
  by_cases hlen : n = n'
  · subst hlen
    go_enter Tryz.func35, Tryz.ntmps35
    go_wp2_with fail
    go_loopw [17] (fun c wr => ∃ k, LoopR w n k xs ys c wr) (fun c _ => n - (intOf c).toNat)
    case atStart => exact ⟨0, ⟨Nat.zero_le _, rfl, upTo_zero _ _, Below.refl _ _⟩⟩
    case round =>
      obtain ⟨k, ⟨hk, rfl, hs, hb⟩⟩ := hrel
      have HS := Lib.hid hs
      clear hs
      by_cases hlt : k < n
      · obtain ⟨g, o, us, eq, hgl, hul, hcell, hkx, hrx⟩ := elem_at Tryz.underlying47 zc_LExpr (by omega) H1.out hlt
        obtain ⟨g', o', vs, eq', hgl', hul', hcell', hkx', hrx'⟩ := elem_at Tryz.underlying47 zc_LExpr (by omega) H2.out hlt
        subst eq eq'
        have HX := Lib.hid hrx
        have HY := Lib.hid hrx'
        obtain ⟨U, u6, u7, _, rfl, _⟩ := hrx.slice_inv Tryz.underlying24
        obtain ⟨V, v6, v7, _, rfl, _⟩ := hrx'.slice_inv Tryz.underlying24
        have rr : ∀ j (u : Value), ([.slice U u6 u7] : List Value)[j]? = some u → wr.cell? ⟨g, o + k * 1 + j, none⟩ = some u := fun j u hu => (hb.cell (by exact hgl)).trans (hcell j u hu)
        have ss : ∀ j (u : Value), ([.slice V v6 v7] : List Value)[j]? = some u → wr.cell? ⟨g', o' + k * 1 + j, none⟩ = some u := fun j u hu => (hb.cell (by exact hgl')).trans (hcell' j u hu)
        have r0 := rr 0 _ rfl
        have s0 := ss 0 _ rfl
        simp only [Nat.add_zero, Nat.mul_one] at r0 s0
        have c2 : (k : Int) < (n : Int) := by omega
        have c3 : (0 : Int) ≤ (k : Int) := by omega
        have d1 : decide ((k : Int) < (n : Int)) = true := decide_eq_true c2
        have gl : g < wr.heap.size := by have := hb.size; omega
        have gl' : g' < wr.heap.size := by have := hb.size; omega
        have HB := Lib.hid hb
        clear rr ss hcell hcell' hul hul' hrx hrx' hb
        go_wp2_with fail
        refine (HI.out xs[k] ys[k] _ _ _ (HN.out _ (List.getElem_mem _)) (HX.out.kept HB.out (Nat.le_refl _)) (HY.out.kept HB.out (Nat.le_refl _))).mono ?_
        rintro e' w4 ⟨rfl, hw4⟩
        have HB4 := Lib.hid (HB.out.trans (hw4.mono HB.out.size))
        clear hw4 HX HY HB r0 s0
        cases hq : eqC xs[k] ys[k] with
        | true =>
          go_wp2_with fail
          go_roundw
          case rel => exact ⟨k + 1, ⟨by omega, by go_num, upTo_succ HS.out _ _ hq, HB4.out⟩⟩
          case measure => simp [intOf]; omega
        | false =>
          go_wp2_with fail
          go_ret
          exact SamePost.no (fun e => by injection e with e; rw [← eqL_true, eqL_at hkx hkx' hq] at e; cases e) HB4.out
      · obtain rfl : k = n := by omega
        have d1 : decide ((k : Int) < (k : Int)) = false := decide_eq_false (by omega)
        have HB := Lib.hid hb
        clear hb
        go_wp2_with fail
        go_ret
        exact SamePost.yes (by rw [eqL_true.1 (upTo_all HS.out L1.out L2.out)]) HB.out
  · have d0 : decide ((n : Int) = (n' : Int)) = false := decide_eq_false (by omega)
    go_enter Tryz.func35, Tryz.ntmps35
    go_wp2_with fail
    go_ret
    exact SamePost.no (fun e => by injection e with e; exact hlen (L1.out.symm.trans ((congrArg List.length e).trans L2.out))) (Below.refl _ _)
end Go.Proofs.YtlimlmjljjmcpaaGreatDoor.Ps
