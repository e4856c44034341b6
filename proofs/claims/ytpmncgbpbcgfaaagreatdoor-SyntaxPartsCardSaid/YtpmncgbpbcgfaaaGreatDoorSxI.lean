import Derived.Test.YtpmncgbpbcgfaaaGreatDoorSxF
/-
  Sources and items of a query: source, item.
-/
namespace Go.Proofs.YtpmncgbpbcgfaaaGreatDoor
open Go.RowKit
set_option linter.unusedVariables false
set_option linter.unusedSimpArgs false

def srcR (w : World) (v : Value) (a : Src) : Prop := v = .agg (srcCells a).toArray
theorem one_src (a : Src) : ∀ u ∈ srcCells a, u.oneCell' = true := by
  intro u hu
  simp [srcCells, natV, strV] at hu
  rcases hu with rfl | rfl | rfl | rfl | rfl | rfl <;> rfl
theorem one_clau (a : Clau) : ∀ u ∈ clauCells a, u.oneCell' = true := by
  intro u hu
  simp [clauCells, natV] at hu
  rcases hu with rfl | rfl | rfl <;> rfl
set_option maxHeartbeats 20000000 in
set_option maxRecDepth 100000 in
theorem source_call (p : Nat) (v : Value) (T : List Tok) (i n : Nat) (d : Bool) (w : World) (h : St w p v T i n d) :
    Calls Tryz.prog 128 #[.pointer (some ⟨p, 0, none⟩)] w (PPost w p v T i n srcR (pSource (cores T) i d)) := by
  obtain ⟨r, hr⟩ : ∃ r, pSource (cores T) i d = r := ⟨_, rfl⟩
  rw [hr]
  unfold pSource at hr
  simp only [P_assoc, P_ite, P_pure] at hr
  have HR := Lib.hid hr
  have ha := At.start h
  clear hr h
  go_enter Tryz.func128, Tryz.ntmps128
  go_wp2_with fail
  refine name_alloc (K := fun W => Calls _ _ _ W _) fun w1 hB hw1 hz1 => ?_
  replace ha := ha.below hw1
  have hz1' : w.heap.size + 1 ≤ w1.heap.size := by omega
  clear hw1 hz1
  have hBp : w.heap.size ≠ p := by have := ha.hp; omega
  refine at_call (name_call p v T _ n _ w1 ha.st) ha HR (fun nm j0 d0 val w2 HR hv ha hij2 hg2 => ?_) (fun j c w' hr hg => ⟨rfl, PPost.failed hr.out hg⟩)
  replace hB := hB.grown hg2 hBp
  have hs2 := hg2.size
  clear hg2
  obtain ⟨rfl, hln⟩ := hv
  unfold strV
  go_wp2_with fail
  refine name_alloc (K := fun W => Calls _ _ _ W _) fun w3 hX hw3 hz3 => ?_
  have hle3 := ha.le
  replace ha := ha.below hw3
  replace hB := hB.below hw3
  have hz3' : w2.heap.size + 1 ≤ w3.heap.size := by omega
  clear hw3 hz3
  have hXp : w2.heap.size ≠ p := by have := ha.hp; omega
  refine at_word ha _ [65, 83] rfl HR (fun w4 HR ha hg4 => ?_) (fun w4 HR ha hg4 => ?_)
  · have tt : True := trivial
    replace hB := hB.grown hg4 hBp
    replace hX := hX.grown hg4 hXp
    have hs4 := hg4.size
    clear hg4
    go_wp2_with fail
    refine at_call (name_call p v T _ n _ w4 ha.st) ha HR (fun al j1 d1 val w5 HR hv ha hij5 hg5 => ?_) (fun j c w' hr hg => ⟨rfl, PPost.failed hr.out hg⟩)
    replace hB := hB.grown hg5 hBp
    replace hX := hX.grown hg5 hXp
    have hs5 := hg5.size
    clear hg5
    obtain ⟨rfl, hla⟩ := hv
    unfold strV
    have x0 := hX.cell 1 rfl
    have zz := hX.free 1
    go_upto_region 4 with (fail)
    clear x0 zz
    refine name_set hX (K := Code.wp _ _ _ _) fun w6 hX' hg6 hz6 => ?_
    replace ha := ha.own hg6 (by omega)
    replace hB := hB.grown hg6 (by omega)
    have hz6' : w5.heap.size ≤ w6.heap.size := by omega
    clear hg6 hz6 hX
    have hX := hX'
    clear hX'
    go_wp2_with fail
    refine at_word ha _ [83, 89, 83, 84, 69, 77] rfl HR (fun w7 HR ha hg7 => ?_) (fun w7 HR ha hg7 => ?_)
    · have tt : True := trivial
      replace hB := hB.grown hg7 hBp
      replace hX := hX.grown hg7 hXp
      have hs7 := hg7.size
      clear hg7
      go_wp2_with fail
      refine at_call (clause_call p v T _ n _ w7 ha.st) ha HR (fun cl j2 d2 val w8 HR hv ha hij8 hg8 => ?_) (fun j c w' hr hg => ⟨rfl, PPost.failed hr.out hg⟩)
      replace hB := hB.grown hg8 hBp
      replace hX := hX.grown hg8 hXp
      have hs8 := hg8.size
      clear hg8
      obtain rfl := hv
      go_upto_region 6 with (refine store_part rfl 26 (.tmp 16) (.tmp 15) rfl w2.heap.size 2 (clauCells cl) rfl rfl 28 [strV nm, strV al] [.int .i64 0, .int .i64 0, .int .i64 0] [.int .i64 (-1)] hX rfl rfl (by kernel_rfl) (one_clau _) ?_)
      intro w9 hX' hg9 hz9
      replace ha := ha.own hg9 (by omega)
      replace hB := hB.grown hg9 (by omega)
      have hz9' : w8.heap.size ≤ w9.heap.size := by omega
      clear hg9 hz9 hX
      have hX := hX'
      clear hX'
      go_wp2_with fail
      refine at_word ha _ [85, 78, 68, 69, 82] rfl HR (fun w10 HR ha hg10 => ?_) (fun w10 HR ha hg10 => ?_)
      · have tt : True := trivial
        replace hB := hB.grown hg10 hBp
        replace hX := hX.grown hg10 hXp
        have hs10 := hg10.size
        clear hg10
        go_wp2_with fail
        refine at_call (instant_call p v T _ n _ w10 ha.st) ha HR (fun un j3 d3 val w11 HR hv ha hij11 hg11 => ?_) (fun j c w' hr hg => ⟨rfl, PPost.failed hr.out hg⟩)
        replace hB := hB.grown hg11 hBp
        replace hX := hX.grown hg11 hXp
        have hs11 := hg11.size
        clear hg11
        obtain rfl := hv
        have x0 := hX.cell 5 rfl
        have zz := hX.free 5
        go_upto_region 8 with (fail)
        clear x0 zz
        refine name_set hX (K := Code.wp _ _ _ _) fun w12 hX' hg12 hz12 => ?_
        replace ha := ha.own hg12 (by omega)
        replace hB := hB.grown hg12 (by omega)
        have hz12' : w11.heap.size ≤ w12.heap.size := by omega
        clear hg12 hz12 hX
        have hX := hX'
        clear hX'
        have r0 := hX.cell 0 rfl
        have r1 := hX.cell 1 rfl
        have r2 := hX.cell 2 rfl
        have r3 := hX.cell 3 rfl
        have r4 := hX.cell 4 rfl
        have r5 := hX.cell 5 rfl
        go_wp2_with (refine store_blk rfl 28 (.tmp 2) (.tmp 22) rfl w.heap.size (srcCells ⟨nm, al, cl, (un : Int)⟩) rfl rfl 28 _ hB (by kernel_rfl) rfl (one_src _) ?_)
        intro w90 hB90 hg90 hz90
        have ha90 := ha.own hg90 (Nat.le_refl _)
        clear hB hg90 hz90 ha r0 r1 r2 r3 r4 r5
        go_wp2_with fail
        refine bodyPost_ret (results_cell_row Tryz.results128 _ _ w.heap.size _ _ _ _ rfl hB90 Tryz.underlying28 rfl (by kernel_rfl)) rfl ?_
        exact at_ok ha90 HR.out.symm rfl (by omega)
      · have tt : True := trivial
        replace hB := hB.grown hg10 hBp
        replace hX := hX.grown hg10 hXp
        have hs12 := hg10.size
        clear hg10
        have r0 := hX.cell 0 rfl
        have r1 := hX.cell 1 rfl
        have r2 := hX.cell 2 rfl
        have r3 := hX.cell 3 rfl
        have r4 := hX.cell 4 rfl
        have r5 := hX.cell 5 rfl
        go_wp2_with (refine store_blk rfl 28 (.tmp 2) (.tmp 22) rfl w.heap.size (srcCells ⟨nm, al, cl, -1⟩) rfl rfl 28 _ hB (by kernel_rfl) rfl (one_src _) ?_)
        intro w90 hB90 hg90 hz90
        have ha90 := ha.own hg90 (Nat.le_refl _)
        clear hB hg90 hz90 ha r0 r1 r2 r3 r4 r5
        go_wp2_with fail
        refine bodyPost_ret (results_cell_row Tryz.results128 _ _ w.heap.size _ _ _ _ rfl hB90 Tryz.underlying28 rfl (by kernel_rfl)) rfl ?_
        exact at_ok ha90 HR.out.symm rfl (by omega)
    · have tt : True := trivial
      replace hB := hB.grown hg7 hBp
      replace hX := hX.grown hg7 hXp
      have hs12 := hg7.size
      clear hg7
      go_wp2_with fail
      refine at_word ha _ [85, 78, 68, 69, 82] rfl HR (fun w13 HR ha hg13 => ?_) (fun w13 HR ha hg13 => ?_)
      · have tt : True := trivial
        replace hB := hB.grown hg13 hBp
        replace hX := hX.grown hg13 hXp
        have hs13 := hg13.size
        clear hg13
        go_wp2_with fail
        refine at_call (instant_call p v T _ n _ w13 ha.st) ha HR (fun un j3 d3 val w14 HR hv ha hij14 hg14 => ?_) (fun j c w' hr hg => ⟨rfl, PPost.failed hr.out hg⟩)
        replace hB := hB.grown hg14 hBp
        replace hX := hX.grown hg14 hXp
        have hs14 := hg14.size
        clear hg14
        obtain rfl := hv
        have x0 := hX.cell 5 rfl
        have zz := hX.free 5
        go_upto_region 8 with (fail)
        clear x0 zz
        refine name_set hX (K := Code.wp _ _ _ _) fun w15 hX' hg15 hz15 => ?_
        replace ha := ha.own hg15 (by omega)
        replace hB := hB.grown hg15 (by omega)
        have hz15' : w14.heap.size ≤ w15.heap.size := by omega
        clear hg15 hz15 hX
        have hX := hX'
        clear hX'
        have r0 := hX.cell 0 rfl
        have r1 := hX.cell 1 rfl
        have r2 := hX.cell 2 rfl
        have r3 := hX.cell 3 rfl
        have r4 := hX.cell 4 rfl
        have r5 := hX.cell 5 rfl
        go_wp2_with (refine store_blk rfl 28 (.tmp 2) (.tmp 22) rfl w.heap.size (srcCells ⟨nm, al, Clau.zero, (un : Int)⟩) rfl rfl 28 _ hB (by kernel_rfl) rfl (one_src _) ?_)
        intro w90 hB90 hg90 hz90
        have ha90 := ha.own hg90 (Nat.le_refl _)
        clear hB hg90 hz90 ha r0 r1 r2 r3 r4 r5
        go_wp2_with fail
        refine bodyPost_ret (results_cell_row Tryz.results128 _ _ w.heap.size _ _ _ _ rfl hB90 Tryz.underlying28 rfl (by kernel_rfl)) rfl ?_
        exact at_ok ha90 HR.out.symm rfl (by omega)
      · have tt : True := trivial
        replace hB := hB.grown hg13 hBp
        replace hX := hX.grown hg13 hXp
        have hs15 := hg13.size
        clear hg13
        have r0 := hX.cell 0 rfl
        have r1 := hX.cell 1 rfl
        have r2 := hX.cell 2 rfl
        have r3 := hX.cell 3 rfl
        have r4 := hX.cell 4 rfl
        have r5 := hX.cell 5 rfl
        go_wp2_with (refine store_blk rfl 28 (.tmp 2) (.tmp 22) rfl w.heap.size (srcCells ⟨nm, al, Clau.zero, -1⟩) rfl rfl 28 _ hB (by kernel_rfl) rfl (one_src _) ?_)
        intro w90 hB90 hg90 hz90
        have ha90 := ha.own hg90 (Nat.le_refl _)
        clear hB hg90 hz90 ha r0 r1 r2 r3 r4 r5
        go_wp2_with fail
        refine bodyPost_ret (results_cell_row Tryz.results128 _ _ w.heap.size _ _ _ _ rfl hB90 Tryz.underlying28 rfl (by kernel_rfl)) rfl ?_
        exact at_ok ha90 HR.out.symm rfl (by omega)
  · have tt : True := trivial
    replace hB := hB.grown hg4 hBp
    replace hX := hX.grown hg4 hXp
    have hs12 := hg4.size
    clear hg4
    go_wp2_with fail
    refine at_word ha _ [83, 89, 83, 84, 69, 77] rfl HR (fun w13 HR ha hg13 => ?_) (fun w13 HR ha hg13 => ?_)
    · have tt : True := trivial
      replace hB := hB.grown hg13 hBp
      replace hX := hX.grown hg13 hXp
      have hs13 := hg13.size
      clear hg13
      go_wp2_with fail
      refine at_call (clause_call p v T _ n _ w13 ha.st) ha HR (fun cl j2 d2 val w14 HR hv ha hij14 hg14 => ?_) (fun j c w' hr hg => ⟨rfl, PPost.failed hr.out hg⟩)
      replace hB := hB.grown hg14 hBp
      replace hX := hX.grown hg14 hXp
      have hs14 := hg14.size
      clear hg14
      obtain rfl := hv
      go_upto_region 6 with (refine store_part rfl 26 (.tmp 16) (.tmp 15) rfl w2.heap.size 2 (clauCells cl) rfl rfl 28 [strV nm, strV []] [.int .i64 0, .int .i64 0, .int .i64 0] [.int .i64 (-1)] hX rfl rfl (by kernel_rfl) (one_clau _) ?_)
      intro w15 hX' hg15 hz15
      replace ha := ha.own hg15 (by omega)
      replace hB := hB.grown hg15 (by omega)
      have hz15' : w14.heap.size ≤ w15.heap.size := by omega
      clear hg15 hz15 hX
      have hX := hX'
      clear hX'
      go_wp2_with fail
      refine at_word ha _ [85, 78, 68, 69, 82] rfl HR (fun w16 HR ha hg16 => ?_) (fun w16 HR ha hg16 => ?_)
      · have tt : True := trivial
        replace hB := hB.grown hg16 hBp
        replace hX := hX.grown hg16 hXp
        have hs16 := hg16.size
        clear hg16
        go_wp2_with fail
        refine at_call (instant_call p v T _ n _ w16 ha.st) ha HR (fun un j3 d3 val w17 HR hv ha hij17 hg17 => ?_) (fun j c w' hr hg => ⟨rfl, PPost.failed hr.out hg⟩)
        replace hB := hB.grown hg17 hBp
        replace hX := hX.grown hg17 hXp
        have hs17 := hg17.size
        clear hg17
        obtain rfl := hv
        have x0 := hX.cell 5 rfl
        have zz := hX.free 5
        go_upto_region 8 with (fail)
        clear x0 zz
        refine name_set hX (K := Code.wp _ _ _ _) fun w18 hX' hg18 hz18 => ?_
        replace ha := ha.own hg18 (by omega)
        replace hB := hB.grown hg18 (by omega)
        have hz18' : w17.heap.size ≤ w18.heap.size := by omega
        clear hg18 hz18 hX
        have hX := hX'
        clear hX'
        have r0 := hX.cell 0 rfl
        have r1 := hX.cell 1 rfl
        have r2 := hX.cell 2 rfl
        have r3 := hX.cell 3 rfl
        have r4 := hX.cell 4 rfl
        have r5 := hX.cell 5 rfl
        go_wp2_with (refine store_blk rfl 28 (.tmp 2) (.tmp 22) rfl w.heap.size (srcCells ⟨nm, [], cl, (un : Int)⟩) rfl rfl 28 _ hB (by kernel_rfl) rfl (one_src _) ?_)
        intro w90 hB90 hg90 hz90
        have ha90 := ha.own hg90 (Nat.le_refl _)
        clear hB hg90 hz90 ha r0 r1 r2 r3 r4 r5
        go_wp2_with fail
        refine bodyPost_ret (results_cell_row Tryz.results128 _ _ w.heap.size _ _ _ _ rfl hB90 Tryz.underlying28 rfl (by kernel_rfl)) rfl ?_
        exact at_ok ha90 HR.out.symm rfl (by omega)
      · have tt : True := trivial
        replace hB := hB.grown hg16 hBp
        replace hX := hX.grown hg16 hXp
        have hs18 := hg16.size
        clear hg16
        have r0 := hX.cell 0 rfl
        have r1 := hX.cell 1 rfl
        have r2 := hX.cell 2 rfl
        have r3 := hX.cell 3 rfl
        have r4 := hX.cell 4 rfl
        have r5 := hX.cell 5 rfl
        go_wp2_with (refine store_blk rfl 28 (.tmp 2) (.tmp 22) rfl w.heap.size (srcCells ⟨nm, [], cl, -1⟩) rfl rfl 28 _ hB (by kernel_rfl) rfl (one_src _) ?_)
        intro w90 hB90 hg90 hz90
        have ha90 := ha.own hg90 (Nat.le_refl _)
        clear hB hg90 hz90 ha r0 r1 r2 r3 r4 r5
        go_wp2_with fail
        refine bodyPost_ret (results_cell_row Tryz.results128 _ _ w.heap.size _ _ _ _ rfl hB90 Tryz.underlying28 rfl (by kernel_rfl)) rfl ?_
        exact at_ok ha90 HR.out.symm rfl (by omega)
    · have tt : True := trivial
      replace hB := hB.grown hg13 hBp
      replace hX := hX.grown hg13 hXp
      have hs18 := hg13.size
      clear hg13
      go_wp2_with fail
      refine at_word ha _ [85, 78, 68, 69, 82] rfl HR (fun w19 HR ha hg19 => ?_) (fun w19 HR ha hg19 => ?_)
      · have tt : True := trivial
        replace hB := hB.grown hg19 hBp
        replace hX := hX.grown hg19 hXp
        have hs19 := hg19.size
        clear hg19
        go_wp2_with fail
        refine at_call (instant_call p v T _ n _ w19 ha.st) ha HR (fun un j3 d3 val w20 HR hv ha hij20 hg20 => ?_) (fun j c w' hr hg => ⟨rfl, PPost.failed hr.out hg⟩)
        replace hB := hB.grown hg20 hBp
        replace hX := hX.grown hg20 hXp
        have hs20 := hg20.size
        clear hg20
        obtain rfl := hv
        have x0 := hX.cell 5 rfl
        have zz := hX.free 5
        go_upto_region 8 with (fail)
        clear x0 zz
        refine name_set hX (K := Code.wp _ _ _ _) fun w21 hX' hg21 hz21 => ?_
        replace ha := ha.own hg21 (by omega)
        replace hB := hB.grown hg21 (by omega)
        have hz21' : w20.heap.size ≤ w21.heap.size := by omega
        clear hg21 hz21 hX
        have hX := hX'
        clear hX'
        have r0 := hX.cell 0 rfl
        have r1 := hX.cell 1 rfl
        have r2 := hX.cell 2 rfl
        have r3 := hX.cell 3 rfl
        have r4 := hX.cell 4 rfl
        have r5 := hX.cell 5 rfl
        go_wp2_with (refine store_blk rfl 28 (.tmp 2) (.tmp 22) rfl w.heap.size (srcCells ⟨nm, [], Clau.zero, (un : Int)⟩) rfl rfl 28 _ hB (by kernel_rfl) rfl (one_src _) ?_)
        intro w90 hB90 hg90 hz90
        have ha90 := ha.own hg90 (Nat.le_refl _)
        clear hB hg90 hz90 ha r0 r1 r2 r3 r4 r5
        go_wp2_with fail
        refine bodyPost_ret (results_cell_row Tryz.results128 _ _ w.heap.size _ _ _ _ rfl hB90 Tryz.underlying28 rfl (by kernel_rfl)) rfl ?_
        exact at_ok ha90 HR.out.symm rfl (by omega)
      · have tt : True := trivial
        replace hB := hB.grown hg19 hBp
        replace hX := hX.grown hg19 hXp
        have hs21 := hg19.size
        clear hg19
        have r0 := hX.cell 0 rfl
        have r1 := hX.cell 1 rfl
        have r2 := hX.cell 2 rfl
        have r3 := hX.cell 3 rfl
        have r4 := hX.cell 4 rfl
        have r5 := hX.cell 5 rfl
        go_wp2_with (refine store_blk rfl 28 (.tmp 2) (.tmp 22) rfl w.heap.size (srcCells ⟨nm, [], Clau.zero, -1⟩) rfl rfl 28 _ hB (by kernel_rfl) rfl (one_src _) ?_)
        intro w90 hB90 hg90 hz90
        have ha90 := ha.own hg90 (Nat.le_refl _)
        clear hB hg90 hz90 ha r0 r1 r2 r3 r4 r5
        go_wp2_with fail
        refine bodyPost_ret (results_cell_row Tryz.results128 _ _ w.heap.size _ _ _ _ rfl hB90 Tryz.underlying28 rfl (by kernel_rfl)) rfl ?_
        exact at_ok ha90 HR.out.symm rfl (by omega)
set_option maxHeartbeats 20000000 in
set_option maxRecDepth 100000 in
theorem item_call (m : Nat) (p : Nat) (v : Value) (T : List Tok) (i n : Nat) (d : Bool) (w : World) (h : St w p v T i n d) (hm : 3 * (T.length - i) + 3 ≤ m) :
    Calls Tryz.prog 127 #[.pointer (some ⟨p, 0, none⟩)] w (PPost w p v T i n (aggR ItemRep w.heap.size) (pItem m (cores T) i d)) := by
  obtain ⟨r, hr⟩ : ∃ r, pItem m (cores T) i d = r := ⟨_, rfl⟩
  rw [hr]
  unfold pItem at hr
  simp only [P_assoc, P_ite, P_pure] at hr
  have HR := Lib.hid hr
  have ha := At.start h
  clear hr h
  go_enter Tryz.func127, Tryz.ntmps127
  go_wp2_with fail
  refine name_alloc (K := fun W => Calls _ _ _ W _) fun w1 hB hw1 hz1 => ?_
  replace ha := ha.below hw1
  have hz1' : w.heap.size + 1 ≤ w1.heap.size := by omega
  clear hw1 hz1
  have hBp : w.heap.size ≠ p := by have := ha.hp; omega
  refine at_call (aggregate_call p v T _ n _ w1 ha.st) ha HR (fun g j0 d0 val w2 HR hv ha hij2 hg2 => ?_) (fun j c w' hr hg => ⟨rfl, PPost.failed hr.out hg⟩)
  replace hB := hB.grown hg2 hBp
  have hs2 := hg2.size
  clear hg2
  obtain rfl := hv
  by_cases hg0 : g = 0
  · have c1 : ((g : Int) == 0) = true := by rw [beq_iff_eq]; omega
    have hh := HR.out
    rw [if_pos hg0] at hh
    replace HR := Lib.hid hh
    clear hh hg0
    go_wp2_with fail
    refine name_alloc (K := fun W => Calls _ _ _ W _) fun w3 hX hw3 hz3 => ?_
    have hle3 := ha.le
    replace ha := ha.below hw3
    replace hB := hB.below hw3
    have hz3' : w2.heap.size + 1 ≤ w3.heap.size := by omega
    clear hw3 hz3
    have hXp : w2.heap.size ≠ p := by have := ha.hp; omega
    refine at_call (expr_call m p v T n w3 _ _ ha.st (by omega)) ha HR (fun e j3 d3 val w4 HR hv ha hij4 hg4 => ?_) (fun j c w' hr hg => ⟨rfl, PPost.failed hr.out hg⟩)
    replace hB := hB.grown hg4 hBp
    replace hX := hX.grown hg4 hXp
    have hs4 := hg4.size
    clear hg4
    obtain ⟨cs, rfl, hre⟩ := hv
    obtain ⟨a0, a1, a2, a3, a4, a5, B, a6, a7, rfl⟩ := erep_lit hre
    have HE := Lib.hid (goodE.made (base := w.heap.size) (L := [w2.heap.size, w.heap.size]) hre (by omega) (by intro q hq; simp at hq; omega))
    clear hre
    go_upto_region 9 with (refine store_part rfl 34 (.tmp 12) (.tmp 11) rfl w2.heap.size 0 [.int .i64 a0, .int .i64 a1, .int .i64 a2, .int .i64 a3, .string a4, .string a5, .slice B a6 a7] rfl rfl 113 [] [.int .i64 0, .int .i64 0, .int .i64 0, .int .i64 0, .string ⟨#[]⟩, .string ⟨#[]⟩, .slice none 0 0] [.int .i64 (g : Int), .bool false, .string ⟨#[]⟩] hX rfl rfl (by kernel_rfl) (goodE.one HE.out) ?_)
    intro w5 hX' hg5 hz5
    replace ha := ha.own hg5 (by omega)
    replace hB := hB.grown hg5 (by omega)
    replace HE := Lib.hid (goodE.own HE.out hg5 (by simp))
    have hz5' : w4.heap.size ≤ w5.heap.size := by omega
    clear hg5 hz5 hX
    have hX := hX'
    clear hX'
    go_wp2_with fail
    refine at_word ha _ [65, 83] rfl HR (fun w6 HR ha hg6 => ?_) (fun w6 HR ha hg6 => ?_)
    · have tt : True := trivial
      replace hB := hB.grown hg6 hBp
      replace hX := hX.grown hg6 hXp
      replace HE := Lib.hid (goodE.grown HE.out hg6 ha.hp)
      have hs6 := hg6.size
      clear hg6
      go_wp2_with fail
      refine at_call (name_call p v T _ n _ w6 ha.st) ha HR (fun nm j5 d5 val w7 HR hv ha hij7 hg7 => ?_) (fun j c w' hr hg => ⟨rfl, PPost.failed hr.out hg⟩)
      replace hB := hB.grown hg7 hBp
      replace hX := hX.grown hg7 hXp
      replace HE := Lib.hid (goodE.grown HE.out hg7 ha.hp)
      have hs7 := hg7.size
      clear hg7
      obtain ⟨rfl, hln⟩ := hv
      unfold strV
      have x0 := hX.cell 9 rfl
      have zz := hX.free 9
      go_upto_region 11 with (fail)
      clear x0 zz
      refine name_set hX (K := Code.wp _ _ _ _) fun w8 hX' hg8 hz8 => ?_
      replace ha := ha.own hg8 (by omega)
      replace hB := hB.grown hg8 (by omega)
      replace HE := Lib.hid (goodE.own HE.out hg8 (by simp))
      have hz8' : w7.heap.size ≤ w8.heap.size := by omega
      clear hg8 hz8 hX
      have hX := hX'
      clear hX'
      have r0 := hX.cell 0 rfl
      have r1 := hX.cell 1 rfl
      have r2 := hX.cell 2 rfl
      have r3 := hX.cell 3 rfl
      have r4 := hX.cell 4 rfl
      have r5 := hX.cell 5 rfl
      have r6 := hX.cell 6 rfl
      have r7 := hX.cell 7 rfl
      have r8 := hX.cell 8 rfl
      have r9 := hX.cell 9 rfl
      have HI : Hid (ItemRep w8 (Fp w.heap.size [w2.heap.size, w.heap.size]) ⟨e, g, false, nm⟩ ([.int .i64 a0, .int .i64 a1, .int .i64 a2, .int .i64 a3, .string a4, .string a5, .slice B a6 a7] ++ [natV g, .bool false, strV nm])) := Lib.hid ⟨_, HE.out, rfl⟩
      go_wp2_with (refine store_blk rfl 113 (.tmp 2) (.tmp 33) rfl w.heap.size ([.int .i64 a0, .int .i64 a1, .int .i64 a2, .int .i64 a3, .string a4, .string a5, .slice B a6 a7] ++ [natV g, .bool false, strV nm]) rfl rfl 113 _ hB (by kernel_rfl) rfl (goodItem.one HI.out) ?_)
      intro w90 hB90 hg90 hz90
      have ha90 := ha.own hg90 (Nat.le_refl _)
      have HI90 := Lib.hid (goodItem.own HI.out hg90 (by simp))
      clear hB hg90 hz90 ha HI r0 r1 r2 r3 r4 r5 r6 r7 r8 r9
      go_wp2_with fail
      refine bodyPost_ret (results_cell_row Tryz.results127 _ _ w.heap.size _ _ _ _ rfl hB90 Tryz.underlying113 rfl (by kernel_rfl)) rfl ?_
      exact at_ok ha90 HR.out.symm ⟨_, rfl, goodItem.all HI90.out⟩ (by omega)
    · have tt : True := trivial
      replace hB := hB.grown hg6 hBp
      replace hX := hX.grown hg6 hXp
      replace HE := Lib.hid (goodE.grown HE.out hg6 ha.hp)
      have hs8 := hg6.size
      clear hg6
      have r0 := hX.cell 0 rfl
      have r1 := hX.cell 1 rfl
      have r2 := hX.cell 2 rfl
      have r3 := hX.cell 3 rfl
      have r4 := hX.cell 4 rfl
      have r5 := hX.cell 5 rfl
      have r6 := hX.cell 6 rfl
      have r7 := hX.cell 7 rfl
      have r8 := hX.cell 8 rfl
      have r9 := hX.cell 9 rfl
      have HI : Hid (ItemRep w6 (Fp w.heap.size [w2.heap.size, w.heap.size]) ⟨e, g, false, []⟩ ([.int .i64 a0, .int .i64 a1, .int .i64 a2, .int .i64 a3, .string a4, .string a5, .slice B a6 a7] ++ [natV g, .bool false, strV []])) := Lib.hid ⟨_, HE.out, rfl⟩
      go_wp2_with (refine store_blk rfl 113 (.tmp 2) (.tmp 33) rfl w.heap.size ([.int .i64 a0, .int .i64 a1, .int .i64 a2, .int .i64 a3, .string a4, .string a5, .slice B a6 a7] ++ [natV g, .bool false, strV []]) rfl rfl 113 _ hB (by kernel_rfl) rfl (goodItem.one HI.out) ?_)
      intro w90 hB90 hg90 hz90
      have ha90 := ha.own hg90 (Nat.le_refl _)
      have HI90 := Lib.hid (goodItem.own HI.out hg90 (by simp))
      clear hB hg90 hz90 ha HI r0 r1 r2 r3 r4 r5 r6 r7 r8 r9
      go_wp2_with fail
      refine bodyPost_ret (results_cell_row Tryz.results127 _ _ w.heap.size _ _ _ _ rfl hB90 Tryz.underlying113 rfl (by kernel_rfl)) rfl ?_
      exact at_ok ha90 HR.out.symm ⟨_, rfl, goodItem.all HI90.out⟩ (by omega)
  · have c1 : ((g : Int) == 0) = false := by rw [beq_eq_false_iff_ne]; omega
    have hh := HR.out
    rw [if_neg hg0] at hh
    replace HR := Lib.hid hh
    clear hh hg0
    go_wp2_with fail
    refine name_alloc (K := fun W => Calls _ _ _ W _) fun w9 hX hw9 hz9 => ?_
    have hle9 := ha.le
    replace ha := ha.below hw9
    replace hB := hB.below hw9
    have hz9' : w2.heap.size + 1 ≤ w9.heap.size := by omega
    clear hw9 hz9
    have hXp : w2.heap.size ≠ p := by have := ha.hp; omega
    refine at_need ha _ [40] rfl HR (fun w10 HR ha hg10 => ?_) (fun j c w' hr hg => ⟨rfl, PPost.failed hr.out hg⟩)
    replace hB := hB.grown hg10 hBp
    replace hX := hX.grown hg10 hXp
    have hs10 := hg10.size
    clear hg10
    have r7 := hX.cell 7 rfl
    by_cases hg1 : g = 1
    · have c2 : ((g : Int) == 1) = true := by rw [beq_iff_eq]; omega
      have hh := HR.out
      rw [if_pos hg1] at hh
      replace HR := Lib.hid hh
      clear hh hg1
      go_wp2_with fail
      refine at_symbol ha _ [42] rfl HR (fun w11 HR ha hg11 => ?_) (fun w11 HR ha hg11 => ?_)
      · have tt : True := trivial
        replace hB := hB.grown hg11 hBp
        replace hX := hX.grown hg11 hXp
        have hs11 := hg11.size
        clear hg11
        clear r7
        have x0 := hX.cell 8 rfl
        have zz := hX.free 8
        go_upto_region 8 with (fail)
        clear x0 zz
        refine name_set hX (K := Code.wp _ _ _ _) fun w12 hX' hg12 hz12 => ?_
        replace ha := ha.own hg12 (by omega)
        replace hB := hB.grown hg12 (by omega)
        have hz12' : w11.heap.size ≤ w12.heap.size := by omega
        clear hg12 hz12 hX
        have hX := hX'
        clear hX'
        go_wp2_with fail
        refine at_need ha _ [41] rfl HR (fun w13 HR ha hg13 => ?_) (fun j c w' hr hg => ⟨rfl, PPost.failed hr.out hg⟩)
        replace hB := hB.grown hg13 hBp
        replace hX := hX.grown hg13 hXp
        have hs13 := hg13.size
        clear hg13
        go_wp2_with fail
        refine at_word ha _ [65, 83] rfl HR (fun w14 HR ha hg14 => ?_) (fun w14 HR ha hg14 => ?_)
        · have tt : True := trivial
          replace hB := hB.grown hg14 hBp
          replace hX := hX.grown hg14 hXp
          have hs14 := hg14.size
          clear hg14
          go_wp2_with fail
          refine at_call (name_call p v T _ n _ w14 ha.st) ha HR (fun nm j5 d5 val w15 HR hv ha hij15 hg15 => ?_) (fun j c w' hr hg => ⟨rfl, PPost.failed hr.out hg⟩)
          replace hB := hB.grown hg15 hBp
          replace hX := hX.grown hg15 hXp
          have hs15 := hg15.size
          clear hg15
          obtain ⟨rfl, hln⟩ := hv
          unfold strV
          have x0 := hX.cell 9 rfl
          have zz := hX.free 9
          go_upto_region 11 with (fail)
          clear x0 zz
          refine name_set hX (K := Code.wp _ _ _ _) fun w16 hX' hg16 hz16 => ?_
          replace ha := ha.own hg16 (by omega)
          replace hB := hB.grown hg16 (by omega)
          have hz16' : w15.heap.size ≤ w16.heap.size := by omega
          clear hg16 hz16 hX
          have hX := hX'
          clear hX'
          have r0 := hX.cell 0 rfl
          have r1 := hX.cell 1 rfl
          have r2 := hX.cell 2 rfl
          have r3 := hX.cell 3 rfl
          have r4 := hX.cell 4 rfl
          have r5 := hX.cell 5 rfl
          have r6 := hX.cell 6 rfl
          have r7 := hX.cell 7 rfl
          have r8 := hX.cell 8 rfl
          have r9 := hX.cell 9 rfl
          have HI : Hid (ItemRep w16 (Fp w.heap.size [w2.heap.size, w.heap.size]) ⟨E.zero, g, true, nm⟩ ([.int .i64 0, .int .i64 0, .int .i64 0, .int .i64 0, .string ⟨#[]⟩, .string ⟨#[]⟩, .slice none 0 0] ++ [natV g, .bool true, strV nm])) := Lib.hid ⟨_, leafR _ _ _ _, rfl⟩
          go_wp2_with (refine store_blk rfl 113 (.tmp 2) (.tmp 33) rfl w.heap.size ([.int .i64 0, .int .i64 0, .int .i64 0, .int .i64 0, .string ⟨#[]⟩, .string ⟨#[]⟩, .slice none 0 0] ++ [natV g, .bool true, strV nm]) rfl rfl 113 _ hB (by kernel_rfl) rfl (goodItem.one HI.out) ?_)
          intro w90 hB90 hg90 hz90
          have ha90 := ha.own hg90 (Nat.le_refl _)
          have HI90 := Lib.hid (goodItem.own HI.out hg90 (by simp))
          clear hB hg90 hz90 ha HI r0 r1 r2 r3 r4 r5 r6 r7 r8 r9
          go_wp2_with fail
          refine bodyPost_ret (results_cell_row Tryz.results127 _ _ w.heap.size _ _ _ _ rfl hB90 Tryz.underlying113 rfl (by kernel_rfl)) rfl ?_
          exact at_ok ha90 HR.out.symm ⟨_, rfl, goodItem.all HI90.out⟩ (by omega)
        · have tt : True := trivial
          replace hB := hB.grown hg14 hBp
          replace hX := hX.grown hg14 hXp
          have hs16 := hg14.size
          clear hg14
          have r0 := hX.cell 0 rfl
          have r1 := hX.cell 1 rfl
          have r2 := hX.cell 2 rfl
          have r3 := hX.cell 3 rfl
          have r4 := hX.cell 4 rfl
          have r5 := hX.cell 5 rfl
          have r6 := hX.cell 6 rfl
          have r7 := hX.cell 7 rfl
          have r8 := hX.cell 8 rfl
          have r9 := hX.cell 9 rfl
          have HI : Hid (ItemRep w14 (Fp w.heap.size [w2.heap.size, w.heap.size]) ⟨E.zero, g, true, []⟩ ([.int .i64 0, .int .i64 0, .int .i64 0, .int .i64 0, .string ⟨#[]⟩, .string ⟨#[]⟩, .slice none 0 0] ++ [natV g, .bool true, strV []])) := Lib.hid ⟨_, leafR _ _ _ _, rfl⟩
          go_wp2_with (refine store_blk rfl 113 (.tmp 2) (.tmp 33) rfl w.heap.size ([.int .i64 0, .int .i64 0, .int .i64 0, .int .i64 0, .string ⟨#[]⟩, .string ⟨#[]⟩, .slice none 0 0] ++ [natV g, .bool true, strV []]) rfl rfl 113 _ hB (by kernel_rfl) rfl (goodItem.one HI.out) ?_)
          intro w90 hB90 hg90 hz90
          have ha90 := ha.own hg90 (Nat.le_refl _)
          have HI90 := Lib.hid (goodItem.own HI.out hg90 (by simp))
          clear hB hg90 hz90 ha HI r0 r1 r2 r3 r4 r5 r6 r7 r8 r9
          go_wp2_with fail
          refine bodyPost_ret (results_cell_row Tryz.results127 _ _ w.heap.size _ _ _ _ rfl hB90 Tryz.underlying113 rfl (by kernel_rfl)) rfl ?_
          exact at_ok ha90 HR.out.symm ⟨_, rfl, goodItem.all HI90.out⟩ (by omega)
      · have tt : True := trivial
        replace hB := hB.grown hg11 hBp
        replace hX := hX.grown hg11 hXp
        have hs16 := hg11.size
        clear hg11
        clear r7
        go_wp2_with fail
        refine at_call (expr_call m p v T n w11 _ _ ha.st (by omega)) ha HR (fun e j3 d3 val w17 HR hv ha hij17 hg17 => ?_) (fun j c w' hr hg => ⟨rfl, PPost.failed hr.out hg⟩)
        replace hB := hB.grown hg17 hBp
        replace hX := hX.grown hg17 hXp
        have hs17 := hg17.size
        clear hg17
        obtain ⟨cs, rfl, hre⟩ := hv
        obtain ⟨a0, a1, a2, a3, a4, a5, B, a6, a7, rfl⟩ := erep_lit hre
        have HE := Lib.hid (goodE.made (base := w.heap.size) (L := [w2.heap.size, w.heap.size]) hre (by omega) (by intro q hq; simp at hq; omega))
        clear hre
        go_upto_region 8 with (refine store_part rfl 34 (.tmp 25) (.tmp 24) rfl w2.heap.size 0 [.int .i64 a0, .int .i64 a1, .int .i64 a2, .int .i64 a3, .string a4, .string a5, .slice B a6 a7] rfl rfl 113 [] [.int .i64 0, .int .i64 0, .int .i64 0, .int .i64 0, .string ⟨#[]⟩, .string ⟨#[]⟩, .slice none 0 0] [.int .i64 (g : Int), .bool false, .string ⟨#[]⟩] hX rfl rfl (by kernel_rfl) (goodE.one HE.out) ?_)
        intro w18 hX' hg18 hz18
        replace ha := ha.own hg18 (by omega)
        replace hB := hB.grown hg18 (by omega)
        replace HE := Lib.hid (goodE.own HE.out hg18 (by simp))
        have hz18' : w17.heap.size ≤ w18.heap.size := by omega
        clear hg18 hz18 hX
        have hX := hX'
        clear hX'
        go_wp2_with fail
        refine at_need ha _ [41] rfl HR (fun w19 HR ha hg19 => ?_) (fun j c w' hr hg => ⟨rfl, PPost.failed hr.out hg⟩)
        replace hB := hB.grown hg19 hBp
        replace hX := hX.grown hg19 hXp
        replace HE := Lib.hid (goodE.grown HE.out hg19 ha.hp)
        have hs19 := hg19.size
        clear hg19
        go_wp2_with fail
        refine at_word ha _ [65, 83] rfl HR (fun w20 HR ha hg20 => ?_) (fun w20 HR ha hg20 => ?_)
        · have tt : True := trivial
          replace hB := hB.grown hg20 hBp
          replace hX := hX.grown hg20 hXp
          replace HE := Lib.hid (goodE.grown HE.out hg20 ha.hp)
          have hs20 := hg20.size
          clear hg20
          go_wp2_with fail
          refine at_call (name_call p v T _ n _ w20 ha.st) ha HR (fun nm j5 d5 val w21 HR hv ha hij21 hg21 => ?_) (fun j c w' hr hg => ⟨rfl, PPost.failed hr.out hg⟩)
          replace hB := hB.grown hg21 hBp
          replace hX := hX.grown hg21 hXp
          replace HE := Lib.hid (goodE.grown HE.out hg21 ha.hp)
          have hs21 := hg21.size
          clear hg21
          obtain ⟨rfl, hln⟩ := hv
          unfold strV
          have x0 := hX.cell 9 rfl
          have zz := hX.free 9
          go_upto_region 11 with (fail)
          clear x0 zz
          refine name_set hX (K := Code.wp _ _ _ _) fun w22 hX' hg22 hz22 => ?_
          replace ha := ha.own hg22 (by omega)
          replace hB := hB.grown hg22 (by omega)
          replace HE := Lib.hid (goodE.own HE.out hg22 (by simp))
          have hz22' : w21.heap.size ≤ w22.heap.size := by omega
          clear hg22 hz22 hX
          have hX := hX'
          clear hX'
          have r0 := hX.cell 0 rfl
          have r1 := hX.cell 1 rfl
          have r2 := hX.cell 2 rfl
          have r3 := hX.cell 3 rfl
          have r4 := hX.cell 4 rfl
          have r5 := hX.cell 5 rfl
          have r6 := hX.cell 6 rfl
          have r7 := hX.cell 7 rfl
          have r8 := hX.cell 8 rfl
          have r9 := hX.cell 9 rfl
          have HI : Hid (ItemRep w22 (Fp w.heap.size [w2.heap.size, w.heap.size]) ⟨e, g, false, nm⟩ ([.int .i64 a0, .int .i64 a1, .int .i64 a2, .int .i64 a3, .string a4, .string a5, .slice B a6 a7] ++ [natV g, .bool false, strV nm])) := Lib.hid ⟨_, HE.out, rfl⟩
          go_wp2_with (refine store_blk rfl 113 (.tmp 2) (.tmp 33) rfl w.heap.size ([.int .i64 a0, .int .i64 a1, .int .i64 a2, .int .i64 a3, .string a4, .string a5, .slice B a6 a7] ++ [natV g, .bool false, strV nm]) rfl rfl 113 _ hB (by kernel_rfl) rfl (goodItem.one HI.out) ?_)
          intro w90 hB90 hg90 hz90
          have ha90 := ha.own hg90 (Nat.le_refl _)
          have HI90 := Lib.hid (goodItem.own HI.out hg90 (by simp))
          clear hB hg90 hz90 ha HI r0 r1 r2 r3 r4 r5 r6 r7 r8 r9
          go_wp2_with fail
          refine bodyPost_ret (results_cell_row Tryz.results127 _ _ w.heap.size _ _ _ _ rfl hB90 Tryz.underlying113 rfl (by kernel_rfl)) rfl ?_
          exact at_ok ha90 HR.out.symm ⟨_, rfl, goodItem.all HI90.out⟩ (by omega)
        · have tt : True := trivial
          replace hB := hB.grown hg20 hBp
          replace hX := hX.grown hg20 hXp
          replace HE := Lib.hid (goodE.grown HE.out hg20 ha.hp)
          have hs22 := hg20.size
          clear hg20
          have r0 := hX.cell 0 rfl
          have r1 := hX.cell 1 rfl
          have r2 := hX.cell 2 rfl
          have r3 := hX.cell 3 rfl
          have r4 := hX.cell 4 rfl
          have r5 := hX.cell 5 rfl
          have r6 := hX.cell 6 rfl
          have r7 := hX.cell 7 rfl
          have r8 := hX.cell 8 rfl
          have r9 := hX.cell 9 rfl
          have HI : Hid (ItemRep w20 (Fp w.heap.size [w2.heap.size, w.heap.size]) ⟨e, g, false, []⟩ ([.int .i64 a0, .int .i64 a1, .int .i64 a2, .int .i64 a3, .string a4, .string a5, .slice B a6 a7] ++ [natV g, .bool false, strV []])) := Lib.hid ⟨_, HE.out, rfl⟩
          go_wp2_with (refine store_blk rfl 113 (.tmp 2) (.tmp 33) rfl w.heap.size ([.int .i64 a0, .int .i64 a1, .int .i64 a2, .int .i64 a3, .string a4, .string a5, .slice B a6 a7] ++ [natV g, .bool false, strV []]) rfl rfl 113 _ hB (by kernel_rfl) rfl (goodItem.one HI.out) ?_)
          intro w90 hB90 hg90 hz90
          have ha90 := ha.own hg90 (Nat.le_refl _)
          have HI90 := Lib.hid (goodItem.own HI.out hg90 (by simp))
          clear hB hg90 hz90 ha HI r0 r1 r2 r3 r4 r5 r6 r7 r8 r9
          go_wp2_with fail
          refine bodyPost_ret (results_cell_row Tryz.results127 _ _ w.heap.size _ _ _ _ rfl hB90 Tryz.underlying113 rfl (by kernel_rfl)) rfl ?_
          exact at_ok ha90 HR.out.symm ⟨_, rfl, goodItem.all HI90.out⟩ (by omega)
    · have c2 : ((g : Int) == 1) = false := by rw [beq_eq_false_iff_ne]; omega
      have hh := HR.out
      rw [if_neg hg1] at hh
      replace HR := Lib.hid hh
      clear hh hg1
      go_wp2_with fail
      clear r7
      refine at_call (expr_call m p v T n w10 _ _ ha.st (by omega)) ha HR (fun e j3 d3 val w23 HR hv ha hij23 hg23 => ?_) (fun j c w' hr hg => ⟨rfl, PPost.failed hr.out hg⟩)
      replace hB := hB.grown hg23 hBp
      replace hX := hX.grown hg23 hXp
      have hs23 := hg23.size
      clear hg23
      obtain ⟨cs, rfl, hre⟩ := hv
      obtain ⟨a0, a1, a2, a3, a4, a5, B, a6, a7, rfl⟩ := erep_lit hre
      have HE := Lib.hid (goodE.made (base := w.heap.size) (L := [w2.heap.size, w.heap.size]) hre (by omega) (by intro q hq; simp at hq; omega))
      clear hre
      go_upto_region 8 with (refine store_part rfl 34 (.tmp 25) (.tmp 24) rfl w2.heap.size 0 [.int .i64 a0, .int .i64 a1, .int .i64 a2, .int .i64 a3, .string a4, .string a5, .slice B a6 a7] rfl rfl 113 [] [.int .i64 0, .int .i64 0, .int .i64 0, .int .i64 0, .string ⟨#[]⟩, .string ⟨#[]⟩, .slice none 0 0] [.int .i64 (g : Int), .bool false, .string ⟨#[]⟩] hX rfl rfl (by kernel_rfl) (goodE.one HE.out) ?_)
      intro w24 hX' hg24 hz24
      replace ha := ha.own hg24 (by omega)
      replace hB := hB.grown hg24 (by omega)
      replace HE := Lib.hid (goodE.own HE.out hg24 (by simp))
      have hz24' : w23.heap.size ≤ w24.heap.size := by omega
      clear hg24 hz24 hX
      have hX := hX'
      clear hX'
      go_wp2_with fail
      refine at_need ha _ [41] rfl HR (fun w25 HR ha hg25 => ?_) (fun j c w' hr hg => ⟨rfl, PPost.failed hr.out hg⟩)
      replace hB := hB.grown hg25 hBp
      replace hX := hX.grown hg25 hXp
      replace HE := Lib.hid (goodE.grown HE.out hg25 ha.hp)
      have hs25 := hg25.size
      clear hg25
      go_wp2_with fail
      refine at_word ha _ [65, 83] rfl HR (fun w26 HR ha hg26 => ?_) (fun w26 HR ha hg26 => ?_)
      · have tt : True := trivial
        replace hB := hB.grown hg26 hBp
        replace hX := hX.grown hg26 hXp
        replace HE := Lib.hid (goodE.grown HE.out hg26 ha.hp)
        have hs26 := hg26.size
        clear hg26
        go_wp2_with fail
        refine at_call (name_call p v T _ n _ w26 ha.st) ha HR (fun nm j5 d5 val w27 HR hv ha hij27 hg27 => ?_) (fun j c w' hr hg => ⟨rfl, PPost.failed hr.out hg⟩)
        replace hB := hB.grown hg27 hBp
        replace hX := hX.grown hg27 hXp
        replace HE := Lib.hid (goodE.grown HE.out hg27 ha.hp)
        have hs27 := hg27.size
        clear hg27
        obtain ⟨rfl, hln⟩ := hv
        unfold strV
        have x0 := hX.cell 9 rfl
        have zz := hX.free 9
        go_upto_region 11 with (fail)
        clear x0 zz
        refine name_set hX (K := Code.wp _ _ _ _) fun w28 hX' hg28 hz28 => ?_
        replace ha := ha.own hg28 (by omega)
        replace hB := hB.grown hg28 (by omega)
        replace HE := Lib.hid (goodE.own HE.out hg28 (by simp))
        have hz28' : w27.heap.size ≤ w28.heap.size := by omega
        clear hg28 hz28 hX
        have hX := hX'
        clear hX'
        have r0 := hX.cell 0 rfl
        have r1 := hX.cell 1 rfl
        have r2 := hX.cell 2 rfl
        have r3 := hX.cell 3 rfl
        have r4 := hX.cell 4 rfl
        have r5 := hX.cell 5 rfl
        have r6 := hX.cell 6 rfl
        have r7 := hX.cell 7 rfl
        have r8 := hX.cell 8 rfl
        have r9 := hX.cell 9 rfl
        have HI : Hid (ItemRep w28 (Fp w.heap.size [w2.heap.size, w.heap.size]) ⟨e, g, false, nm⟩ ([.int .i64 a0, .int .i64 a1, .int .i64 a2, .int .i64 a3, .string a4, .string a5, .slice B a6 a7] ++ [natV g, .bool false, strV nm])) := Lib.hid ⟨_, HE.out, rfl⟩
        go_wp2_with (refine store_blk rfl 113 (.tmp 2) (.tmp 33) rfl w.heap.size ([.int .i64 a0, .int .i64 a1, .int .i64 a2, .int .i64 a3, .string a4, .string a5, .slice B a6 a7] ++ [natV g, .bool false, strV nm]) rfl rfl 113 _ hB (by kernel_rfl) rfl (goodItem.one HI.out) ?_)
        intro w90 hB90 hg90 hz90
        have ha90 := ha.own hg90 (Nat.le_refl _)
        have HI90 := Lib.hid (goodItem.own HI.out hg90 (by simp))
        clear hB hg90 hz90 ha HI r0 r1 r2 r3 r4 r5 r6 r7 r8 r9
        go_wp2_with fail
        refine bodyPost_ret (results_cell_row Tryz.results127 _ _ w.heap.size _ _ _ _ rfl hB90 Tryz.underlying113 rfl (by kernel_rfl)) rfl ?_
        exact at_ok ha90 HR.out.symm ⟨_, rfl, goodItem.all HI90.out⟩ (by omega)
      · have tt : True := trivial
        replace hB := hB.grown hg26 hBp
        replace hX := hX.grown hg26 hXp
        replace HE := Lib.hid (goodE.grown HE.out hg26 ha.hp)
        have hs28 := hg26.size
        clear hg26
        have r0 := hX.cell 0 rfl
        have r1 := hX.cell 1 rfl
        have r2 := hX.cell 2 rfl
        have r3 := hX.cell 3 rfl
        have r4 := hX.cell 4 rfl
        have r5 := hX.cell 5 rfl
        have r6 := hX.cell 6 rfl
        have r7 := hX.cell 7 rfl
        have r8 := hX.cell 8 rfl
        have r9 := hX.cell 9 rfl
        have HI : Hid (ItemRep w26 (Fp w.heap.size [w2.heap.size, w.heap.size]) ⟨e, g, false, []⟩ ([.int .i64 a0, .int .i64 a1, .int .i64 a2, .int .i64 a3, .string a4, .string a5, .slice B a6 a7] ++ [natV g, .bool false, strV []])) := Lib.hid ⟨_, HE.out, rfl⟩
        go_wp2_with (refine store_blk rfl 113 (.tmp 2) (.tmp 33) rfl w.heap.size ([.int .i64 a0, .int .i64 a1, .int .i64 a2, .int .i64 a3, .string a4, .string a5, .slice B a6 a7] ++ [natV g, .bool false, strV []]) rfl rfl 113 _ hB (by kernel_rfl) rfl (goodItem.one HI.out) ?_)
        intro w90 hB90 hg90 hz90
        have ha90 := ha.own hg90 (Nat.le_refl _)
        have HI90 := Lib.hid (goodItem.own HI.out hg90 (by simp))
        clear hB hg90 hz90 ha HI r0 r1 r2 r3 r4 r5 r6 r7 r8 r9
        go_wp2_with fail
        refine bodyPost_ret (results_cell_row Tryz.results127 _ _ w.heap.size _ _ _ _ rfl hB90 Tryz.underlying113 rfl (by kernel_rfl)) rfl ?_
        exact at_ok ha90 HR.out.symm ⟨_, rfl, goodItem.all HI90.out⟩ (by omega)
end Go.Proofs.YtpmncgbpbcgfaaaGreatDoor

/-
  The closures of a simple query: its items, its groups.
-/
namespace Go.Proofs.YtpmncgbpbcgfaaaGreatDoor
open Go.RowKit
set_option linter.unusedVariables false
set_option linter.unusedSimpArgs false

theorem item_lit {w : World} {F : Nat → Prop} {a : Item} {cs : List Value} (h : ItemRep w F a cs) : ∃ (c0 c1 c2 c3 : Int) (c4 c5 : ByteArray) (C : Option Addr) (c6 c7 : Nat) (c8 : Int) (c9 : Bool) (c10 : ByteArray), cs = [.int .i64 c0, .int .i64 c1, .int .i64 c2, .int .i64 c3, .string c4, .string c5, .slice C c6 c7, .int .i64 c8, .bool c9, .string c10] := by
  obtain ⟨es, he, rfl⟩ := h
  obtain ⟨a0, a1, a2, a3, a4, a5, A, a6, a7, rfl⟩ := erep_lit he
  exact ⟨_, _, _, _, _, _, _, _, _, _, _, _, rfl⟩
theorem info_item : (Tryz.prog.info? 113).map (fun i => (i.zero, i.size, i.bytes)) = some (some (.agg #[.int .i64 0, .int .i64 0, .int .i64 0, .int .i64 0, .string ⟨#[]⟩, .string ⟨#[]⟩, .slice none 0 0, .int .i64 0, .bool false, .string ⟨#[]⟩]), 10, 120) := by kernel_rfl
/-- what lies before base is as it was, but for the select's block and the parser's -/
def Fr (base gs p : Nat) (wb w : World) : Prop := ∀ q, q < base → q ≠ gs → q ≠ p → w.heap[q]? = wb.heap[q]?
theorem Fr.refl (base gs p : Nat) (w : World) : Fr base gs p w w := fun _ _ _ _ => rfl
section
variable {base gs p : Nat} {wb w w' : World}
theorem Fr.push {row : Option Nat} (h : Fr base gs p wb w) (hg : w.grownBy w' row) (hb : base ≤ w.heap.size) (hr : ∀ g, row = some g → base ≤ g ∨ g = gs ∨ g = p) : Fr base gs p wb w' :=
  fun q h1 h2 h3 => (hg.block q (by omega) (fun e => by rcases hr q e.symm with h | h | h <;> omega)).trans (h q h1 h2 h3)
theorem Fr.below {n : Nat} (h : Fr base gs p wb w) (hg : Below n w w') (hb : base ≤ n) : Fr base gs p wb w' :=
  fun q h1 h2 h3 => (hg.block q (by omega)).trans (h q h1 h2 h3)
end
/-- a select's items under construction: gs its block, gp the box of the parser's pointer -/
structure ItemsI (wb : World) (p gs gp base : Nat) (c0 : Value) (rest : List Value) (l : List Item) (w : World) : Prop where
  box : Blk w gp [.pointer (some ⟨p, 0, none⟩)] 77
  sel : ∃ vi, Blk w gs (c0 :: vi :: rest) 36 ∧ OwnL 10 113 ItemRep w base l vi
  le : base ≤ w.heap.size
  fr : Fr base gs p wb w
theorem enters_sel1 : ∀ args w, (callFunc 126 args).run Tryz.prog w = .ok (.enter 126 args) w := enters_of Tryz.func126 (by kernel_rfl) rfl
set_option maxHeartbeats 8000000 in
set_option maxRecDepth 100000 in
theorem sel1_step (wb : World) (m p gs gp base : Nat) (c0 : Value) (rest : List Value) (v : Value) (T : List Tok) (n i0 : Nat) (w0 : World) (hgs : w0.heap.size ≤ gs) (hgp : w0.heap.size ≤ gp) (hne : gs ≠ gp) (hbs : gs < base) (hbp : gp < base) (hm : 3 * (T.length - i0) + 3 ≤ m)
    (w : World) (i : Nat) (d : Bool) (l : List Item) (hi : i0 ≤ i) (hlen : l.length ≤ i) (ha : At w0 w p v T i n d) (hI : ItemsI wb p gs gp base c0 rest l w) :
    Calls Tryz.prog 126 #[.pointer (some ⟨gs, 0, none⟩), .pointer (some ⟨gp, 0, none⟩)] w (LPost w0 p v T i n (ItemsI wb p gs gp base c0 rest l) (pItem m (cores T) i d) fun a w' => ItemsI wb p gs gp base c0 rest (l ++ [a]) w') := by
  obtain ⟨hP, ⟨vi, hS, hO⟩, hbase, hfr⟩ := hI
  have HF0 := Lib.hid hfr
  clear hfr
  obtain ⟨r, hr⟩ : ∃ r, pItem m (cores T) i d = r := ⟨_, rfl⟩
  rw [hr]
  have HR := Lib.hid hr
  have HO := Lib.hid hO
  obtain ⟨A8, c8', rfl⟩ := hO.form
  have hlT := ha.st.tk.len
  have hleT := ha.st.le
  clear hr hO
  obtain ⟨i0', hi0', hz0, hz1, hz2⟩ := info_parts info_item
  have hgsp : gs ≠ p := by have := ha.hp; omega
  have hgpp : gp ≠ p := by have := ha.hp; omega
  have r1 := hS.cell 1 rfl
  have q0 := hP.cell 0 rfl
  go_enter Tryz.func126, Tryz.ntmps126
  go_region_law (first | (refine step_push goodItem (by rfl) (.tmp 3) (.tmp 6) 24 (by rfl) base 113 i0' _ 120 Tryz.underlying24 hi0' hz0 hz1 hz2 (by rfl) (by omega) (by omega) (.slice A8 l.length c8') l (by rfl) (HO8.out.below goodItem (below1 w8 _)) w8.heap.size 1 [.int .i64 c0', .int .i64 c1, .int .i64 c2, .int .i64 c3, .string c4, .string c5, .slice C c6 c7, .int .i64 c8, .bool c9, .string c10] f2 (by rfl) (Blk.new w8 _ _) (goodItem.below (goodItem.mono hrf fun q hq hl => ⟨by have hq2 : w.heap.size ≤ q := hq.1; omega, fun e => by have := (HO.out.blk q e).2; have hq2 : w.heap.size ≤ q := hq.1; omega⟩) (below1 w8 _)) (by omega) (by simp; omega) ?_; intro gg cap w9 hO9 hg9; have hS9 := (hS8.alloc _).push hg9 (fun e => by have := (HO.out.blk _ e).1; omega); have y91 := hS9.cell 1 rfl; have z91 := hS9.free 1) | (go_simp; go_at_call 127; refine at_last (item_call m p v T i n d _ (ha.drewN 1).st (by omega)) (ha.drewN 1) HR (fun f2 q d8 val w8 HR8 hv ha8 hij8 hg8 => ?_) (fun j c w' hr hg => ⟨rfl, (show LPost _ _ _ _ _ _ _ _ _ _ _ by rw [hr.out]; exact ⟨rfl, hg⟩)⟩); obtain ⟨fs, rfl, hrf⟩ := hv; obtain ⟨c0', c1, c2, c3, c4, c5, C, c6, c7, c8, c9, c10, rfl⟩ := item_lit hrf; have hS8 := (hS.drewN 1).grown hg8 hgsp; have hP8 := (hP.drewN 1).grown hg8 hgpp; have HO8 := Lib.hid ((HO.out.below goodItem (belowD w 1)).grown goodItem hg8 (by have := ha.hp; omega)); have y1 := hS8.cell 1 rfl; have z1' := hS8.free 1; have l9 : gs < w8.heap.size := hS8.lt; have h78 : w.heap.size ≤ w8.heap.size := hg8.size))
  all_goals
    have HLT : Hid (∀ g, (Value.slice A8 l.length c8').ownBlock = some g → base ≤ g) := Lib.hid (fun g e => (HO.out.blk g e).1)
    have ha9 := ((ha8.alloc (.cells #[.int .i64 c0', .int .i64 c1, .int .i64 c2, .int .i64 c3, .string c4, .string c5, .slice C c6 c7, .int .i64 c8, .bool c9, .string c10] 113)).push hg9 (fun g e => by have := HLT.out g e; omega)).set hgs 1 (.slice (some ⟨gg, 0, none⟩) (l.length + 1) cap)
    have hP9 := ((hP8.alloc (.cells #[.int .i64 c0', .int .i64 c1, .int .i64 c2, .int .i64 c3, .string c4, .string c5, .slice C c6 c7, .int .i64 c8, .bool c9, .string c10] 113)).push hg9 (fun e => by have := HLT.out _ e; omega)).grown (only_setCell (World.grownBy.refl w9 _) 1 (.slice (some ⟨gg, 0, none⟩) (l.length + 1) cap)) (Ne.symm hne)
    have hS10 := hS9.set 1 (.slice (some ⟨gg, 0, none⟩) (l.length + 1) cap)
    have hO10 := hO9.far goodItem (only_setCell (World.grownBy.refl w9 _) 1 (.slice (some ⟨gg, 0, none⟩) (l.length + 1) cap)) hbs
    have hz9 : w8.heap.size + 1 ≤ w9.heap.size := by have := hg9.size; simpa using this
    have hs9 : (w9.setCell ⟨gs, 1, none⟩ (.slice (some ⟨gg, 0, none⟩) (l.length + 1) cap)).heap.size = w9.heap.size := by simp [World.setCell]
    have HF9 := Lib.hid (((((HF0.out.below (belowD w 1) hbase).push hg8 hbase (fun g e => by cases e; exact .inr (.inr rfl))).below (below1 w8 _) (by omega)).push hg9 (by simp; omega) (fun g e => .inl (HLT.out g e))).push (only_setCell (World.grownBy.refl w9 _) 1 (.slice (some ⟨gg, 0, none⟩) (l.length + 1) cap)) (by omega) (fun g e => by cases e; exact .inr (.inl rfl)))
    go_end0
    rw [HR8.out]
    exact ⟨rfl, ha9, hij8, ⟨hP9, ⟨_, hS10, by simpa using hO10⟩, by rw [hs9]; omega, HF9.out⟩⟩
theorem ItemsI.grown {wb : World} {p gs gp base : Nat} {c0 : Value} {rest : List Value} {l : List Item} {w w' : World} (h : ItemsI wb p gs gp base c0 rest l w) (hg : w.grownBy w' (some p)) (h1 : gs ≠ p) (h2 : gp ≠ p) (h3 : p < base) : ItemsI wb p gs gp base c0 rest l w' :=
  ⟨h.box.grown hg h2, let ⟨vi, ha, hb⟩ := h.sel; ⟨vi, ha.grown hg h1, hb.grown goodItem hg h3⟩, Nat.le_trans h.le hg.size, h.fr.push hg h.le (fun g e => by cases e; exact .inr (.inr rfl))⟩
end Go.Proofs.YtpmncgbpbcgfaaaGreatDoor
