import Derived.Test.YtpmncgbpbcgfaaaGreatDoorSxK
import Derived.Test.YtpmncgbpbcgfaaaGreatDoorSxCreW
/-
  A schema change: alter.
-/
namespace Go.Proofs.YtpmncgbpbcgfaaaGreatDoor
open Go.RowKit
set_option linter.unusedVariables false
set_option linter.unusedSimpArgs false

theorem stm_flat {w : World} {F : Nat → Prop} {a : Stm} (h1 : a.query = Qry.zero) (h2 : a.rows = []) (h3 : a.sets = []) (h4 : a.cond = E.zero) (h5 : a.table = Tbl.zero) (h6 : a.checks = []) : StmRep w F a (stmZ a) :=
  ⟨qZero, .slice none 0 0, .slice none 0 0, zeroE7, .slice none 0 0, .slice none 0 0, .slice none 0 0, .slice none 0 0, ⟨by rw [h1]; exact zeroQ_rep _ _, .inl ⟨h2, rfl⟩, .inl ⟨h3, rfl⟩, by rw [h4]; exact zeroE_rep _ _, ⟨.inl ⟨by rw [h5]; rfl, rfl⟩, .inl ⟨by rw [h5]; rfl, rfl⟩, .inl ⟨by rw [h5]; rfl, rfl⟩⟩, .inl ⟨h6, rfl⟩⟩, rfl⟩
structure AlI (w0 wb : World) (p : Nat) (v : Value) (T : List Tok) (i n gs gc : Nat) (cs : List Value) (c : List Value) (j : Nat) (d : Bool) (w : World) : Prop where
  si : SI w0 wb p v T i n gs cs j d w
  chg : Blk w gc c 51
  gc0 : wb.heap.size ≤ gc
section
variable {w0 wb w w' : World} {p : Nat} {v : Value} {T : List Tok} {i n gs gc : Nat} {cs c c' : List Value} {j j' : Nat} {d d' : Bool}
theorem AlI.far (h : AlI w0 wb p v T i n gs gc cs c j d w) : gc ≠ p ∧ gc ≠ gs := by
  have h1 := h.si.at_.hp
  have h2 := h.si.le0
  have h3 := h.si.gsb
  have h4 := h.gc0
  omega
theorem AlI.call (h : AlI w0 wb p v T i n gs gc cs c j d w) (ha : At w0 w' p v T j' n d') (hij : j ≤ j') (hg : w.grownBy w' (some p)) : AlI w0 wb p v T i n gs gc cs c j' d' w' := ⟨h.si.call ha hij hg, h.chg.grown hg h.far.1, h.gc0⟩
theorem AlI.below (h : AlI w0 wb p v T i n gs gc cs c j d w) (hb : Below w.heap.size w w') : AlI w0 wb p v T i n gs gc cs c j d w' := ⟨h.si.below hb, h.chg.below hb, h.gc0⟩
theorem AlI.set (h : AlI w0 wb p v T i n gs gc cs c j d w) (k : Nat) (u : Value) : AlI w0 wb p v T i n gs gc cs (c.set k u) j d (w.setCell ⟨gc, k, none⟩ u) := ⟨h.si.own (only_setCell (World.grownBy.refl _ _) k u) h.gc0, h.chg.set k u, h.gc0⟩
end
theorem one_chg (c : Chg) : ∀ u ∈ chgCells c, u.oneCell' = true := by
  intro u hu
  simp [chgCells, colCells, vCells, natV, strV] at hu
  rcases hu with e | e | e | e | e | e | e | e | e <;> rw [e] <;> rfl
theorem pAlter_eq (a : Stm) : pAlter a = (pWords [[84, 65, 66, 76, 69]] >>= fun _ => pName >>= fun s => pWord [65, 68, 68] >>= fun b => if b = true then (pColumn >>= fun c => pWords [[68, 69, 70, 65, 85, 76, 84]] >>= fun _ => pLiteral >>= fun x => (pure { a with kind := 6, name := s, change := ⟨1, [], [], c, x⟩ } : P Stm)) else pWord [68, 82, 79, 80] >>= fun b => if b = true then (pName >>= fun x => (pure { a with kind := 6, name := s, change := ⟨2, x, [], Col.zero, V.null⟩ } : P Stm)) else pWord [82, 69, 78, 65, 77, 69] >>= fun b => if b = true then (pName >>= fun x => pWords [[84, 79]] >>= fun _ => pName >>= fun y => (pure { a with kind := 6, name := s, change := ⟨3, x, y, Col.zero, V.null⟩ } : P Stm)) else pWord [84, 69, 88, 84] >>= fun b => if b = true then (pName >>= fun x => (pure { a with kind := 6, name := s, change := ⟨4, x, [], Col.zero, V.null⟩ } : P Stm)) else pWrong) := by
  unfold pAlter
  simp only [P_assoc, P_ite, P_pure, P_wrong]
set_option maxHeartbeats 8000000 in
set_option maxRecDepth 100000 in
theorem alter_call (w0 : World) (p : Nat) (v : Value) (T : List Tok) (n gs mo : Nat) (va : Nat × Nat) (w : World) (i : Nat) (d : Bool) (ha : At w0 w p v T i n d) (hb : Blk w gs (stmZ (stm0 mo va)) 57) (h0 : w0.heap.size ≤ gs) :
    Calls Tryz.prog 66 #[.pointer (some ⟨p, 0, none⟩), .pointer (some ⟨gs, 0, none⟩)] w (SPost w0 p v T i n (pAlter (stm0 mo va) (cores T) i d) fun x val w' => val = .tuple #[] ∧ StmAt w.heap.size gs x w' ∧ Fr w.heap.size gs p w w' ∧ w.heap.size ≤ w'.heap.size) := by
  obtain ⟨r, hr⟩ : ∃ r, pAlter (stm0 mo va) (cores T) i d = r := ⟨_, rfl⟩
  rw [hr]
  rw [pAlter_eq] at hr
  have HR := Lib.hid hr
  have hI := SI.start ha hb h0
  clear hr ha hb
  have x0 := hI.st.cell 0 rfl
  have z0 := hI.st.free 0
  have lgs := hI.st.lt
  go_enter Tryz.func66, Tryz.ntmps66
  go_upto_region 1 with (fail)
  have hI1 : SI w0 w p v T i n gs (stmZ { stm0 mo va with kind := 6 }) i d (w.setCell ⟨gs, 0, none⟩ (.int .i64 6)) := hI.set 0 (.int .i64 6)
  generalize w.setCell ⟨gs, 0, none⟩ (.int .i64 6) = w1 at hI1 ⊢
  clear x0 z0 lgs hI
  have hI := hI1
  clear hI1
  go_wp2_with fail
  refine name_alloc (K := fun W => Calls _ _ _ W _) fun w2 hW hw2 hz2 => ?_
  have hle2 := hI.at_.le
  replace hI := hI.below hw2
  clear hw2 hz2
  refine at_words1 hI.at_ hW (by omega) [84, 65, 66, 76, 69] rfl HR (fun w3 HR ha hg3 => ?_) (fun j c w' hr hg => ⟨rfl, SPost.failed hr.out hg⟩)
  replace hI := hI.call ha (by omega) hg3
  clear hW ha hg3 hle2
  go_wp2_with fail
  refine at_call (name_call p v T _ n _ w3 hI.at_.st) hI.at_ HR (fun s j4 d4 val w3' HR hv ha hij4 hg4 => ?_) (fun j c w' hr hg => ⟨rfl, SPost.failed hr.out hg⟩)
  obtain ⟨rfl, hsl⟩ := hv
  replace hI := hI.call ha hij4 hg4
  clear ha hg4 hsl
  unfold strV
  have x27 := hI.st.cell 27 rfl
  have z27 := hI.st.free 27
  go_upto_region 3 with (fail)
  have hI4 : SI w0 w p v T i n gs (stmZ { stm0 mo va with kind := 6, name := s }) j4 d4 (w3'.setCell ⟨gs, 27, none⟩ (.string ⟨s.toArray⟩)) := hI.set 27 (.string ⟨s.toArray⟩)
  generalize w3'.setCell ⟨gs, 27, none⟩ (.string ⟨s.toArray⟩) = w4 at hI4 ⊢
  clear x27 z27 hI
  go_wp2_with fail
  refine name_alloc (K := fun W => Calls _ _ _ W _) fun w5 hX hw5 hz5 => ?_
  have hsz4 := hI4.sz
  have hA : AlI w0 w p v T i n gs w4.heap.size (stmZ { stm0 mo va with kind := 6, name := s }) (chgCells Chg.zero) j4 d4 w5 := ⟨hI4.below hw5, hX, hsz4⟩
  clear hI4 hX hw5 hz5
  refine at_word hA.si.at_ _ [65, 68, 68] rfl HR (fun w6 HR ha hg => ?_) (fun wa HR ha hg => ?_)
  · have tt : True := trivial
    replace hA := hA.call ha (by omega) hg
    clear ha hg
    go_wp2_with fail
    refine at_call (column_call p v T _ n _ w6 hA.si.at_.st) hA.si.at_ HR (fun c j7 d7 val w7 HR hv ha hij7 hg7 => ?_) (fun j c w' hr hg => ⟨rfl, SPost.failed hr.out hg⟩)
    obtain rfl := hv
    replace hA := hA.call ha hij7 hg7
    clear ha hg7
    unfold colCells natV strV
    have x0 := hA.chg.cell 0 rfl
    have z0 := hA.chg.free 0
    have x3 := hA.chg.cell 3 rfl
    have z3 := hA.chg.free 3
    have x4 := hA.chg.cell 4 rfl
    have z4 := hA.chg.free 4
    have x5 := hA.chg.cell 5 rfl
    have z5 := hA.chg.free 5
    have hA8 := ((((hA.set 0 (.int .i64 1)).set 3 (.string ⟨c.name.toArray⟩)).set 4 (.int .i64 (c.kind : Int))).set 5 (.bool c.nullable))
    go_upto_region 7 with (fail)
    generalize ((((w7.setCell ⟨w4.heap.size, 0, none⟩ (.int .i64 1)).setCell ⟨w4.heap.size, 3, none⟩ (.string ⟨c.name.toArray⟩)).setCell ⟨w4.heap.size, 4, none⟩ (.int .i64 (c.kind : Int))).setCell ⟨w4.heap.size, 5, none⟩ (.bool c.nullable)) = w8 at hA8 ⊢
    clear hA x0 z0 x3 z3 x4 z4 x5 z5
    have hA := hA8
    clear hA8
    go_wp2_with fail
    refine name_alloc (K := fun W => Calls _ _ _ W _) fun w9 hW hw9 hz9 => ?_
    have hle9 := hA.si.at_.le
    replace hA := hA.below hw9
    clear hw9 hz9
    refine at_words1 hA.si.at_ hW (by omega) [68, 69, 70, 65, 85, 76, 84] rfl HR (fun w10 HR ha hg10 => ?_) (fun j c w' hr hg => ⟨rfl, SPost.failed hr.out hg⟩)
    replace hA := hA.call ha (by omega) hg10
    clear hW ha hg10 hle9
    go_wp2_with fail
    refine at_call (literal_call p v T _ n _ w10 hA.si.at_.st) hA.si.at_ HR (fun x j11 d11 val w11 HR hv ha hij11 hg11 => ?_) (fun j c w' hr hg => ⟨rfl, SPost.failed hr.out hg⟩)
    obtain rfl := hv
    replace hA := hA.call ha hij11 hg11
    clear ha hg11
    unfold vV vCells strV
    have x6 := hA.chg.cell 6 rfl
    have z6 := hA.chg.free 6
    have x7 := hA.chg.cell 7 rfl
    have z7 := hA.chg.free 7
    have x8 := hA.chg.cell 8 rfl
    have z8 := hA.chg.free 8
    have hA12 := (((hA.set 6 (.int .i64 (x.kind : Int))).set 7 (.int .i64 x.int)).set 8 (.string ⟨x.text.toArray⟩))
    go_upto_region 17 with (fail)
    generalize (((w11.setCell ⟨w4.heap.size, 6, none⟩ (.int .i64 (x.kind : Int))).setCell ⟨w4.heap.size, 7, none⟩ (.int .i64 x.int)).setCell ⟨w4.heap.size, 8, none⟩ (.string ⟨x.text.toArray⟩)) = w12 at hA12 ⊢
    clear hA x6 z6 x7 z7 x8 z8
    have hA := hA12
    clear hA12
    have q0 := hA.chg.cell 0 rfl
    have q1 := hA.chg.cell 1 rfl
    have q2 := hA.chg.cell 2 rfl
    have q3 := hA.chg.cell 3 rfl
    have q4 := hA.chg.cell 4 rfl
    have q5 := hA.chg.cell 5 rfl
    have q6 := hA.chg.cell 6 rfl
    have q7 := hA.chg.cell 7 rfl
    have q8 := hA.chg.cell 8 rfl
    go_wp2_with (refine store_part rfl 51 (.tmp 62) (.tmp 60) rfl gs 44 (chgCells ⟨1, [], [], c, x⟩) rfl rfl 57 (ckPre { stm0 mo va with kind := 6, name := s } ++ [.slice none 0 0]) (chgCells Chg.zero) (hldCells Hld.zero ++ [natV 0]) hA.si.st rfl rfl (by kernel_rfl) (one_chg ⟨1, [], [], c, x⟩) ?_)
    intro wz hXz hgz hzz
    have hSz := hA.si.put hgz hXz
    clear q0 q1 q2 q3 q4 q5 q6 q7 q8 hgz hXz hzz hA
    go_wp2_with fail
    go_end0
    exact SPost.mkOk HR.out.symm hSz.at_ hSz.ij ⟨rfl, ⟨_, hSz.st, stm_flat (a := { stm0 mo va with kind := 6, name := s, change := ⟨1, [], [], c, x⟩ }) rfl rfl rfl rfl rfl rfl⟩, hSz.fr, hSz.sz⟩
  · replace hA := hA.call ha (by omega) hg
    clear ha hg
    go_wp2_with fail
    refine at_word hA.si.at_ _ [68, 82, 79, 80] rfl HR (fun w6 HR ha hg => ?_) (fun wb HR ha hg => ?_)
    · have tt : True := trivial
      replace hA := hA.call ha (by omega) hg
      clear ha hg
      go_wp2_with fail
      refine at_call (name_call p v T _ n _ w6 hA.si.at_.st) hA.si.at_ HR (fun x j7 dj7 val w7 HR hv ha hijj7 hgj7 => ?_) (fun j c w' hr hg => ⟨rfl, SPost.failed hr.out hg⟩)
      obtain ⟨rfl, hslj7⟩ := hv
      unfold strV
      replace hA := hA.call ha hijj7 hgj7
      clear ha hgj7 hslj7
      have x0 := hA.chg.cell 0 rfl
      have z0 := hA.chg.free 0
      have x1 := hA.chg.cell 1 rfl
      have z1 := hA.chg.free 1
      have hA8 := ((hA.set 0 (.int .i64 2)).set 1 (.string ⟨x.toArray⟩))
      go_upto_region 17 with (fail)
      generalize ((w7.setCell ⟨w4.heap.size, 0, none⟩ (.int .i64 2)).setCell ⟨w4.heap.size, 1, none⟩ (.string ⟨x.toArray⟩)) = w8 at hA8 ⊢
      clear hA x0 z0 x1 z1
      have hA := hA8
      clear hA8
      have q0 := hA.chg.cell 0 rfl
      have q1 := hA.chg.cell 1 rfl
      have q2 := hA.chg.cell 2 rfl
      have q3 := hA.chg.cell 3 rfl
      have q4 := hA.chg.cell 4 rfl
      have q5 := hA.chg.cell 5 rfl
      have q6 := hA.chg.cell 6 rfl
      have q7 := hA.chg.cell 7 rfl
      have q8 := hA.chg.cell 8 rfl
      go_wp2_with (refine store_part rfl 51 (.tmp 62) (.tmp 60) rfl gs 44 (chgCells ⟨2, x, [], Col.zero, V.null⟩) rfl rfl 57 (ckPre { stm0 mo va with kind := 6, name := s } ++ [.slice none 0 0]) (chgCells Chg.zero) (hldCells Hld.zero ++ [natV 0]) hA.si.st rfl rfl (by kernel_rfl) (one_chg ⟨2, x, [], Col.zero, V.null⟩) ?_)
      intro wz hXz hgz hzz
      have hSz := hA.si.put hgz hXz
      clear q0 q1 q2 q3 q4 q5 q6 q7 q8 hgz hXz hzz hA
      go_wp2_with fail
      go_end0
      exact SPost.mkOk HR.out.symm hSz.at_ hSz.ij ⟨rfl, ⟨_, hSz.st, stm_flat (a := { stm0 mo va with kind := 6, name := s, change := ⟨2, x, [], Col.zero, V.null⟩ }) rfl rfl rfl rfl rfl rfl⟩, hSz.fr, hSz.sz⟩
    · replace hA := hA.call ha (by omega) hg
      clear ha hg
      go_wp2_with fail
      refine at_word hA.si.at_ _ [82, 69, 78, 65, 77, 69] rfl HR (fun wc HR ha hg => ?_) (fun wd HR ha hg => ?_)
      · have tt : True := trivial
        replace hA := hA.call ha (by omega) hg
        clear ha hg
        go_wp2_with fail
        refine at_call (name_call p v T _ n _ wc hA.si.at_.st) hA.si.at_ HR (fun x j7 dj7 val w7 HR hv ha hijj7 hgj7 => ?_) (fun j c w' hr hg => ⟨rfl, SPost.failed hr.out hg⟩)
        obtain ⟨rfl, hslj7⟩ := hv
        unfold strV
        replace hA := hA.call ha hijj7 hgj7
        clear ha hgj7 hslj7
        have x0 := hA.chg.cell 0 rfl
        have z0 := hA.chg.free 0
        have x1 := hA.chg.cell 1 rfl
        have z1 := hA.chg.free 1
        have hA8 := ((hA.set 0 (.int .i64 3)).set 1 (.string ⟨x.toArray⟩))
        go_upto_region 13 with (fail)
        generalize ((w7.setCell ⟨w4.heap.size, 0, none⟩ (.int .i64 3)).setCell ⟨w4.heap.size, 1, none⟩ (.string ⟨x.toArray⟩)) = w8 at hA8 ⊢
        clear hA x0 z0 x1 z1
        have hA := hA8
        clear hA8
        go_wp2_with fail
        refine name_alloc (K := fun W => Calls _ _ _ W _) fun w9 hW hw9 hz9 => ?_
        have hle9 := hA.si.at_.le
        replace hA := hA.below hw9
        clear hw9 hz9
        refine at_words1 hA.si.at_ hW (by omega) [84, 79] rfl HR (fun w10 HR ha hg10 => ?_) (fun j c w' hr hg => ⟨rfl, SPost.failed hr.out hg⟩)
        replace hA := hA.call ha (by omega) hg10
        clear hW ha hg10 hle9
        go_wp2_with fail
        refine at_call (name_call p v T _ n _ w10 hA.si.at_.st) hA.si.at_ HR (fun y j11 dj11 val w11 HR hv ha hijj11 hgj11 => ?_) (fun j c w' hr hg => ⟨rfl, SPost.failed hr.out hg⟩)
        obtain ⟨rfl, hslj11⟩ := hv
        unfold strV
        replace hA := hA.call ha hijj11 hgj11
        clear ha hgj11 hslj11
        have x2 := hA.chg.cell 2 rfl
        have z2 := hA.chg.free 2
        have hA12 := hA.set 2 (.string ⟨y.toArray⟩)
        go_upto_region 17 with (fail)
        generalize w11.setCell ⟨w4.heap.size, 2, none⟩ (.string ⟨y.toArray⟩) = w12 at hA12 ⊢
        clear hA x2 z2
        have hA := hA12
        clear hA12
        have q0 := hA.chg.cell 0 rfl
        have q1 := hA.chg.cell 1 rfl
        have q2 := hA.chg.cell 2 rfl
        have q3 := hA.chg.cell 3 rfl
        have q4 := hA.chg.cell 4 rfl
        have q5 := hA.chg.cell 5 rfl
        have q6 := hA.chg.cell 6 rfl
        have q7 := hA.chg.cell 7 rfl
        have q8 := hA.chg.cell 8 rfl
        go_wp2_with (refine store_part rfl 51 (.tmp 62) (.tmp 60) rfl gs 44 (chgCells ⟨3, x, y, Col.zero, V.null⟩) rfl rfl 57 (ckPre { stm0 mo va with kind := 6, name := s } ++ [.slice none 0 0]) (chgCells Chg.zero) (hldCells Hld.zero ++ [natV 0]) hA.si.st rfl rfl (by kernel_rfl) (one_chg ⟨3, x, y, Col.zero, V.null⟩) ?_)
        intro wz hXz hgz hzz
        have hSz := hA.si.put hgz hXz
        clear q0 q1 q2 q3 q4 q5 q6 q7 q8 hgz hXz hzz hA
        go_wp2_with fail
        go_end0
        exact SPost.mkOk HR.out.symm hSz.at_ hSz.ij ⟨rfl, ⟨_, hSz.st, stm_flat (a := { stm0 mo va with kind := 6, name := s, change := ⟨3, x, y, Col.zero, V.null⟩ }) rfl rfl rfl rfl rfl rfl⟩, hSz.fr, hSz.sz⟩
      · replace hA := hA.call ha (by omega) hg
        clear ha hg
        go_wp2_with fail
        refine at_word hA.si.at_ _ [84, 69, 88, 84] rfl HR (fun w6 HR ha hg => ?_) (fun we HR ha hg => ?_)
        · have tt : True := trivial
          replace hA := hA.call ha (by omega) hg
          clear ha hg
          go_wp2_with fail
          refine at_call (name_call p v T _ n _ w6 hA.si.at_.st) hA.si.at_ HR (fun x j7 dj7 val w7 HR hv ha hijj7 hgj7 => ?_) (fun j c w' hr hg => ⟨rfl, SPost.failed hr.out hg⟩)
          obtain ⟨rfl, hslj7⟩ := hv
          unfold strV
          replace hA := hA.call ha hijj7 hgj7
          clear ha hgj7 hslj7
          have x0 := hA.chg.cell 0 rfl
          have z0 := hA.chg.free 0
          have x1 := hA.chg.cell 1 rfl
          have z1 := hA.chg.free 1
          have hA8 := ((hA.set 0 (.int .i64 4)).set 1 (.string ⟨x.toArray⟩))
          go_upto_region 17 with (fail)
          generalize ((w7.setCell ⟨w4.heap.size, 0, none⟩ (.int .i64 4)).setCell ⟨w4.heap.size, 1, none⟩ (.string ⟨x.toArray⟩)) = w8 at hA8 ⊢
          clear hA x0 z0 x1 z1
          have hA := hA8
          clear hA8
          have q0 := hA.chg.cell 0 rfl
          have q1 := hA.chg.cell 1 rfl
          have q2 := hA.chg.cell 2 rfl
          have q3 := hA.chg.cell 3 rfl
          have q4 := hA.chg.cell 4 rfl
          have q5 := hA.chg.cell 5 rfl
          have q6 := hA.chg.cell 6 rfl
          have q7 := hA.chg.cell 7 rfl
          have q8 := hA.chg.cell 8 rfl
          go_wp2_with (refine store_part rfl 51 (.tmp 62) (.tmp 60) rfl gs 44 (chgCells ⟨4, x, [], Col.zero, V.null⟩) rfl rfl 57 (ckPre { stm0 mo va with kind := 6, name := s } ++ [.slice none 0 0]) (chgCells Chg.zero) (hldCells Hld.zero ++ [natV 0]) hA.si.st rfl rfl (by kernel_rfl) (one_chg ⟨4, x, [], Col.zero, V.null⟩) ?_)
          intro wz hXz hgz hzz
          have hSz := hA.si.put hgz hXz
          clear q0 q1 q2 q3 q4 q5 q6 q7 q8 hgz hXz hzz hA
          go_wp2_with fail
          go_end0
          exact SPost.mkOk HR.out.symm hSz.at_ hSz.ij ⟨rfl, ⟨_, hSz.st, stm_flat (a := { stm0 mo va with kind := 6, name := s, change := ⟨4, x, [], Col.zero, V.null⟩ }) rfl rfl rfl rfl rfl rfl⟩, hSz.fr, hSz.sz⟩
        · go_wp2_with fail
          exact at_wrong (hA.call ha (by omega) hg).si.at_ HR (fun j c w' hr hg => ⟨rfl, SPost.failed hr.out hg⟩)
end Go.Proofs.YtpmncgbpbcgfaaaGreatDoor

/-
  Any other statement: command.
-/
namespace Go.Proofs.YtpmncgbpbcgfaaaGreatDoor
open Go.RowKit
set_option linter.unusedVariables false
set_option linter.unusedSimpArgs false

theorem dec_foreverLe (a : Nat) : decide ((a : Int) ≤ 1099511627776) = decide (a ≤ forever) := by
  unfold forever
  rw [Bool.eq_iff_iff, decide_eq_true_iff, decide_eq_true_iff]
  omega
set_option maxHeartbeats 20000000 in
set_option maxRecDepth 100000 in
theorem command_call (m : Nat) (w0 : World) (p : Nat) (v : Value) (T : List Tok) (n gs mo : Nat) (va : Nat × Nat) (w : World) (i : Nat) (d : Bool) (ha : At w0 w p v T i n d) (hb : Blk w gs (stmZ (stm0 mo va)) 57) (h0 : w0.heap.size ≤ gs) (hm : 3 * (T.length - i) + 3 ≤ m) :
    Calls Tryz.prog 36 #[.pointer (some ⟨p, 0, none⟩), .pointer (some ⟨gs, 0, none⟩)] w (SPost w0 p v T i n (pCommand m (stm0 mo va) (cores T) i d) fun x val w' => val = .bool x.isSome ∧ (∀ a, x = some a → StmAt w.heap.size gs a w') ∧ Fr w.heap.size gs p w w' ∧ w.heap.size ≤ w'.heap.size) := by
  obtain ⟨r, hr⟩ : ∃ r, pCommand m (stm0 mo va) (cores T) i d = r := ⟨_, rfl⟩
  rw [hr]
  unfold pCommand at hr
  have HR := Lib.hid hr
  have hI := SI.start ha hb h0
  clear hr ha hb
  go_enter Tryz.func36, Tryz.ntmps36
  go_wp2_with fail
  refine at_word hI.at_ _ [67, 82, 69, 65, 84, 69] rfl HR (fun w6 HR ha hg => ?_) (fun wn0 HR ha hg => ?_)
  · have tt : True := trivial
    replace hI := hI.call ha (by omega) hg
    clear ha hg
    go_wp2_with fail
    have hij := hI.ij
    have hle := hI.at_.st.le
    refine at_step (create_call m w0 p v T n gs mo va _ _ _ hI.at_ hI.st h0 (by omega)) HR (fun x j7 d7 val w7 HX HR hj ha7 hij7 => ?_) (fun j c w' hr hg => ⟨rfl, SPost.failed hr.out hg⟩)
    obtain ⟨rfl, hS7, hF7, hs7⟩ := hj
    have hF8 := hI.fr.trans hF7 hI.sz
    have hsz := hI.sz
    clear HX
    go_wp2_with fail
    go_ret
    exact SPost.mkOk HR.out.symm ha7 (by omega) ⟨rfl, fun a e => by cases e; exact ⟨hS7.choose, hS7.choose_spec.1, goodStm.mono hS7.choose_spec.2 fun b hb _ => ⟨by have := hb.1; omega, by simp⟩⟩, hF8, by omega⟩
  · have tt : True := trivial
    replace hI := hI.call ha (by omega) hg
    clear ha hg
    go_wp2_with fail
    refine at_word hI.at_ _ [65, 76, 84, 69, 82] rfl HR (fun w6 HR ha hg => ?_) (fun wn1 HR ha hg => ?_)
    · have tt : True := trivial
      replace hI := hI.call ha (by omega) hg
      clear ha hg
      go_wp2_with fail
      have hij := hI.ij
      have hle := hI.at_.st.le
      refine at_step (alter_call w0 p v T n gs mo va _ _ _ hI.at_ hI.st h0 ) HR (fun x j7 d7 val w7 HX HR hj ha7 hij7 => ?_) (fun j c w' hr hg => ⟨rfl, SPost.failed hr.out hg⟩)
      obtain ⟨rfl, hS7, hF7, hs7⟩ := hj
      have hF8 := hI.fr.trans hF7 hI.sz
      have hsz := hI.sz
      clear HX
      go_wp2_with fail
      go_ret
      exact SPost.mkOk HR.out.symm ha7 (by omega) ⟨rfl, fun a e => by cases e; exact ⟨hS7.choose, hS7.choose_spec.1, goodStm.mono hS7.choose_spec.2 fun b hb _ => ⟨by have := hb.1; omega, by simp⟩⟩, hF8, by omega⟩
    · have tt : True := trivial
      replace hI := hI.call ha (by omega) hg
      clear ha hg
      go_wp2_with fail
      refine at_word hI.at_ _ [66, 69, 71, 73, 78] rfl HR (fun w6 HR ha hg => ?_) (fun wn2 HR ha hg => ?_)
      · have tt : True := trivial
        replace hI := hI.call ha (by omega) hg
        clear ha hg
        have x0 := hI.st.cell 0 rfl
        have z0 := hI.st.free 0
        replace hI : SI w0 w p v T i n gs (stmZ { stm0 mo va with kind := 7 }) _ _ _ := hI.set 0 (.int .i64 7)
        go_wp2_with fail
        go_ret
        exact SPost.mkOk HR.out.symm hI.at_ hI.ij ⟨rfl, fun a e => by cases e; exact ⟨_, hI.st, stm_flat (a := { stm0 mo va with kind := 7 }) rfl rfl rfl rfl rfl rfl⟩, hI.fr, hI.sz⟩
      · have tt : True := trivial
        replace hI := hI.call ha (by omega) hg
        clear ha hg
        go_wp2_with fail
        refine at_word hI.at_ _ [67, 79, 77, 77, 73, 84] rfl HR (fun w6 HR ha hg => ?_) (fun wn3 HR ha hg => ?_)
        · have tt : True := trivial
          replace hI := hI.call ha (by omega) hg
          clear ha hg
          have x0 := hI.st.cell 0 rfl
          have z0 := hI.st.free 0
          replace hI : SI w0 w p v T i n gs (stmZ { stm0 mo va with kind := 8 }) _ _ _ := hI.set 0 (.int .i64 8)
          go_wp2_with fail
          go_ret
          exact SPost.mkOk HR.out.symm hI.at_ hI.ij ⟨rfl, fun a e => by cases e; exact ⟨_, hI.st, stm_flat (a := { stm0 mo va with kind := 8 }) rfl rfl rfl rfl rfl rfl⟩, hI.fr, hI.sz⟩
        · have tt : True := trivial
          replace hI := hI.call ha (by omega) hg
          clear ha hg
          go_wp2_with fail
          refine at_word hI.at_ _ [82, 79, 76, 76, 66, 65, 67, 75] rfl HR (fun w6 HR ha hg => ?_) (fun wn4 HR ha hg => ?_)
          · have tt : True := trivial
            replace hI := hI.call ha (by omega) hg
            clear ha hg
            have x0 := hI.st.cell 0 rfl
            have z0 := hI.st.free 0
            replace hI : SI w0 w p v T i n gs (stmZ { stm0 mo va with kind := 9 }) _ _ _ := hI.set 0 (.int .i64 9)
            go_wp2_with fail
            go_ret
            exact SPost.mkOk HR.out.symm hI.at_ hI.ij ⟨rfl, fun a e => by cases e; exact ⟨_, hI.st, stm_flat (a := { stm0 mo va with kind := 9 }) rfl rfl rfl rfl rfl rfl⟩, hI.fr, hI.sz⟩
          · have tt : True := trivial
            replace hI := hI.call ha (by omega) hg
            clear ha hg
            go_wp2_with fail
            refine at_word hI.at_ _ [83, 69, 84] rfl HR (fun w6 HR ha hg => ?_) (fun wn5 HR ha hg => ?_)
            · have tt : True := trivial
              replace hI := hI.call ha (by omega) hg
              clear ha hg
              go_wp2_with fail
              refine name_alloc (K := fun W => Calls _ _ _ W _) fun wa hW hwW hzW => ?_
              have hleW := hI.at_.le
              replace hI := hI.below hwW
              clear hwW hzW
              refine at_words1 hI.at_ hW (by omega) [78, 79, 87] rfl HR (fun wb HR ha hgW => ?_) (fun j c w' hr hg => ⟨rfl, SPost.failed hr.out hg⟩)
              replace hI := hI.call ha (by omega) hgW
              clear hW ha hgW hleW
              go_wp2_with fail
              refine at_call (instant_call p v T _ n _ wb hI.at_.st) hI.at_ HR (fun t j7 dj7 val wc HR hv ha hijj7 hgj7 => ?_) (fun j c w' hr hg => ⟨rfl, SPost.failed hr.out hg⟩)
              obtain rfl := hv
              replace hI := hI.call ha hijj7 hgj7
              clear ha hgj7
              have x0 := hI.st.cell 0 rfl
              have z0 := hI.st.free 0
              have x59 := hI.st.cell 59 rfl
              have z59 := hI.st.free 59
              have hI2 : SI w0 w p v T i n gs (stmZ { stm0 mo va with kind := 10, number := t }) j7 dj7 ((wc.setCell ⟨gs, 0, none⟩ (.int .i64 10)).setCell ⟨gs, 59, none⟩ (.int .i64 (t : Int))) := ((hI.set 0 (.int .i64 10)).set 59 (.int .i64 (t : Int)))
              go_wp2_with fail
              go_ret
              exact SPost.mkOk HR.out.symm hI2.at_ hI2.ij ⟨rfl, fun a e => by cases e; exact ⟨_, hI2.st, stm_flat (a := { stm0 mo va with kind := 10, number := t }) rfl rfl rfl rfl rfl rfl⟩, hI2.fr, hI2.sz⟩
            · have tt : True := trivial
              replace hI := hI.call ha (by omega) hg
              clear ha hg
              go_wp2_with fail
              refine at_word hI.at_ _ [72, 79, 76, 68] rfl HR (fun w6 HR ha hg => ?_) (fun wn6 HR ha hg => ?_)
              · have tt : True := trivial
                replace hI := hI.call ha (by omega) hg
                clear ha hg
                go_wp2_with fail
                refine at_call (name_call p v T _ n _ w6 hI.at_.st) hI.at_ HR (fun a j7 dj7 val wa HR hv ha hijj7 hgj7 => ?_) (fun j c w' hr hg => ⟨rfl, SPost.failed hr.out hg⟩)
                obtain ⟨rfl, hslj7⟩ := hv
                unfold strV
                replace hI := hI.call ha hijj7 hgj7
                clear ha hgj7 hslj7
                have x0 := hI.st.cell 0 rfl
                have z0 := hI.st.free 0
                have x53 := hI.st.cell 53 rfl
                have z53 := hI.st.free 53
                have hI2 : SI w0 w p v T i n gs (stmZ { stm0 mo va with kind := 11, hold := ⟨a, [], (0, 0), (0, 0)⟩ }) j7 dj7 ((wa.setCell ⟨gs, 0, none⟩ (.int .i64 11)).setCell ⟨gs, 53, none⟩ (.string ⟨a.toArray⟩)) := ((hI.set 0 (.int .i64 11)).set 53 (.string ⟨a.toArray⟩))
                go_upto_region 17 with (fail)
                generalize ((wa.setCell ⟨gs, 0, none⟩ (.int .i64 11)).setCell ⟨gs, 53, none⟩ (.string ⟨a.toArray⟩)) = wb at hI2 ⊢
                clear hI x0 z0 x53 z53
                have hI := hI2
                clear hI2
                go_wp2_with fail
                refine name_alloc (K := fun W => Calls _ _ _ W _) fun wc hW hwW hzW => ?_
                have hleW := hI.at_.le
                replace hI := hI.below hwW
                clear hwW hzW
                refine at_words1 hI.at_ hW (by omega) [79, 78] rfl HR (fun wd HR ha hgW => ?_) (fun j c w' hr hg => ⟨rfl, SPost.failed hr.out hg⟩)
                replace hI := hI.call ha (by omega) hgW
                clear hW ha hgW hleW
                go_wp2_with fail
                refine at_call (name_call p v T _ n _ wd hI.at_.st) hI.at_ HR (fun b j8 dj8 val we HR hv ha hijj8 hgj8 => ?_) (fun j c w' hr hg => ⟨rfl, SPost.failed hr.out hg⟩)
                obtain ⟨rfl, hslj8⟩ := hv
                unfold strV
                replace hI := hI.call ha hijj8 hgj8
                clear ha hgj8 hslj8
                have x54 := hI.st.cell 54 rfl
                have z54 := hI.st.free 54
                have hI2 : SI w0 w p v T i n gs (stmZ { stm0 mo va with kind := 11, hold := ⟨a, b, (0, 0), (0, 0)⟩ }) j8 dj8 (we.setCell ⟨gs, 54, none⟩ (.string ⟨b.toArray⟩)) := (hI.set 54 (.string ⟨b.toArray⟩))
                go_upto_region 19 with (fail)
                generalize (we.setCell ⟨gs, 54, none⟩ (.string ⟨b.toArray⟩)) = wf at hI2 ⊢
                clear hI x54 z54
                have hI := hI2
                clear hI2
                go_wp2_with fail
                refine name_alloc (K := fun W => Calls _ _ _ W _) fun wg hW hwW hzW => ?_
                have hleW := hI.at_.le
                replace hI := hI.below hwW
                clear hwW hzW
                refine at_words1 hI.at_ hW (by omega) [86, 65, 76, 73, 68] rfl HR (fun wh HR ha hgW => ?_) (fun j c w' hr hg => ⟨rfl, SPost.failed hr.out hg⟩)
                replace hI := hI.call ha (by omega) hgW
                clear hW ha hgW hleW
                go_wp2_with fail
                refine at_call (period_call p v T _ n _ wh hI.at_.st) hI.at_ HR (fun x j9 dj9 val wi HR hv ha hijj9 hgj9 => ?_) (fun j c w' hr hg => ⟨rfl, SPost.failed hr.out hg⟩)
                obtain rfl := hv
                replace hI := hI.call ha hijj9 hgj9
                clear ha hgj9
                have x55 := hI.st.cell 55 rfl
                have z55 := hI.st.free 55
                have x56 := hI.st.cell 56 rfl
                have z56 := hI.st.free 56
                have hI2 : SI w0 w p v T i n gs (stmZ { stm0 mo va with kind := 11, hold := ⟨a, b, x, (0, 0)⟩ }) j9 dj9 ((wi.setCell ⟨gs, 55, none⟩ (.int .i64 (x.1 : Int))).setCell ⟨gs, 56, none⟩ (.int .i64 (x.2 : Int))) := ((hI.set 55 (.int .i64 (x.1 : Int))).set 56 (.int .i64 (x.2 : Int)))
                go_upto_region 21 with (fail)
                generalize ((wi.setCell ⟨gs, 55, none⟩ (.int .i64 (x.1 : Int))).setCell ⟨gs, 56, none⟩ (.int .i64 (x.2 : Int))) = wj at hI2 ⊢
                clear hI x55 z55 x56 z56
                have hI := hI2
                clear hI2
                go_wp2_with fail
                refine name_alloc (K := fun W => Calls _ _ _ W _) fun wk hW hwW hzW => ?_
                have hleW := hI.at_.le
                replace hI := hI.below hwW
                clear hwW hzW
                refine at_words1 hI.at_ hW (by omega) [83, 89, 83, 84, 69, 77] rfl HR (fun wl HR ha hgW => ?_) (fun j c w' hr hg => ⟨rfl, SPost.failed hr.out hg⟩)
                replace hI := hI.call ha (by omega) hgW
                clear hW ha hgW hleW
                go_wp2_with fail
                refine at_call (period_call p v T _ n _ wl hI.at_.st) hI.at_ HR (fun y j10 dj10 val wm HR hv ha hijj10 hgj10 => ?_) (fun j c w' hr hg => ⟨rfl, SPost.failed hr.out hg⟩)
                obtain rfl := hv
                replace hI := hI.call ha hijj10 hgj10
                clear ha hgj10
                have x57 := hI.st.cell 57 rfl
                have z57 := hI.st.free 57
                have x58 := hI.st.cell 58 rfl
                have z58 := hI.st.free 58
                have hI2 : SI w0 w p v T i n gs (stmZ { stm0 mo va with kind := 11, hold := ⟨a, b, x, y⟩ }) j10 dj10 ((wm.setCell ⟨gs, 57, none⟩ (.int .i64 (y.1 : Int))).setCell ⟨gs, 58, none⟩ (.int .i64 (y.2 : Int))) := ((hI.set 57 (.int .i64 (y.1 : Int))).set 58 (.int .i64 (y.2 : Int)))
                go_wp2_with fail
                go_ret
                exact SPost.mkOk HR.out.symm hI2.at_ hI2.ij ⟨rfl, fun a e => by cases e; exact ⟨_, hI2.st, stm_flat (a := { stm0 mo va with kind := 11, hold := ⟨a, b, x, y⟩ }) rfl rfl rfl rfl rfl rfl⟩, hI2.fr, hI2.sz⟩
              · have tt : True := trivial
                replace hI := hI.call ha (by omega) hg
                clear ha hg
                go_wp2_with fail
                refine at_word hI.at_ _ [82, 69, 76, 69, 65, 83, 69] rfl HR (fun w6 HR ha hg => ?_) (fun wn7 HR ha hg => ?_)
                · have tt : True := trivial
                  replace hI := hI.call ha (by omega) hg
                  clear ha hg
                  go_wp2_with fail
                  refine at_call (name_call p v T _ n _ w6 hI.at_.st) hI.at_ HR (fun a j7 dj7 val wa HR hv ha hijj7 hgj7 => ?_) (fun j c w' hr hg => ⟨rfl, SPost.failed hr.out hg⟩)
                  obtain ⟨rfl, hslj7⟩ := hv
                  unfold strV
                  replace hI := hI.call ha hijj7 hgj7
                  clear ha hgj7 hslj7
                  have x0 := hI.st.cell 0 rfl
                  have z0 := hI.st.free 0
                  have x27 := hI.st.cell 27 rfl
                  have z27 := hI.st.free 27
                  have hI2 : SI w0 w p v T i n gs (stmZ { stm0 mo va with kind := 12, name := a }) j7 dj7 ((wa.setCell ⟨gs, 0, none⟩ (.int .i64 12)).setCell ⟨gs, 27, none⟩ (.string ⟨a.toArray⟩)) := ((hI.set 0 (.int .i64 12)).set 27 (.string ⟨a.toArray⟩))
                  go_wp2_with fail
                  go_ret
                  exact SPost.mkOk HR.out.symm hI2.at_ hI2.ij ⟨rfl, fun a e => by cases e; exact ⟨_, hI2.st, stm_flat (a := { stm0 mo va with kind := 12, name := a }) rfl rfl rfl rfl rfl rfl⟩, hI2.fr, hI2.sz⟩
                · have tt : True := trivial
                  replace hI := hI.call ha (by omega) hg
                  clear ha hg
                  go_wp2_with fail
                  refine at_word hI.at_ _ [82, 69, 84, 65, 73, 78] rfl HR (fun w6 HR ha hg => ?_) (fun wn8 HR ha hg => ?_)
                  · have tt : True := trivial
                    replace hI := hI.call ha (by omega) hg
                    clear ha hg
                    go_wp2_with fail
                    refine at_call (name_call p v T _ n _ w6 hI.at_.st) hI.at_ HR (fun a j7 dj7 val wa HR hv ha hijj7 hgj7 => ?_) (fun j c w' hr hg => ⟨rfl, SPost.failed hr.out hg⟩)
                    obtain ⟨rfl, hslj7⟩ := hv
                    unfold strV
                    replace hI := hI.call ha hijj7 hgj7
                    clear ha hgj7 hslj7
                    have x0 := hI.st.cell 0 rfl
                    have z0 := hI.st.free 0
                    have x27 := hI.st.cell 27 rfl
                    have z27 := hI.st.free 27
                    have hI2 : SI w0 w p v T i n gs (stmZ { stm0 mo va with kind := 13, name := a }) j7 dj7 ((wa.setCell ⟨gs, 0, none⟩ (.int .i64 13)).setCell ⟨gs, 27, none⟩ (.string ⟨a.toArray⟩)) := ((hI.set 0 (.int .i64 13)).set 27 (.string ⟨a.toArray⟩))
                    go_upto_region 27 with (fail)
                    generalize ((wa.setCell ⟨gs, 0, none⟩ (.int .i64 13)).setCell ⟨gs, 27, none⟩ (.string ⟨a.toArray⟩)) = wb at hI2 ⊢
                    clear hI x0 z0 x27 z27
                    have hI := hI2
                    clear hI2
                    go_wp2_with fail
                    refine at_take hI.at_ 3 HR (fun t wc hit HTt hkt hokt HR ha hgc => ?_) (fun j c w' hr hg => ⟨rfl, SPost.failed hr.out hg⟩)
                    replace hI := hI.call ha (by omega) hgc
                    clear ha hgc hkt
                    unfold tokV strV
                    go_wp2_with fail
                    refine name_alloc (K := fun W => Calls _ _ _ W _) fun wd hX hwd hzd => ?_
                    have hgl := hI.st.lt
                    have hsz := hI.sz
                    replace hI := hI.below hwd
                    clear hwd hzd
                    refine at_check hI.at_ hit HTt (dec_foreverLe t.int) HR (fun we hc HR ha hwe => ?_) (fun j c w' hr hg => ⟨rfl, SPost.failed hr.out hg⟩)
                    replace hI := hI.below hwe
                    have hX5 := hX.below hwe
                    clear ha hwe hc hX HTt hokt
                    have y2 := hX5.cell 2 rfl
                    have x59 := hI.st.cell 59 rfl
                    have z59 := hI.st.free 59
                    have hI2 : SI w0 w p v T i n gs (stmZ { stm0 mo va with kind := 13, name := a, number := t.int }) (j7 + 1) dj7 (we.setCell ⟨gs, 59, none⟩ (.int .i64 (t.int : Int))) := (hI.set 59 (.int .i64 (t.int : Int)))
                    go_wp2_with fail
                    go_ret
                    exact SPost.mkOk HR.out.symm hI2.at_ hI2.ij ⟨rfl, fun a e => by cases e; exact ⟨_, hI2.st, stm_flat (a := { stm0 mo va with kind := 13, name := a, number := t.int }) rfl rfl rfl rfl rfl rfl⟩, hI2.fr, hI2.sz⟩
                  · have tt : True := trivial
                    replace hI := hI.call ha (by omega) hg
                    clear ha hg
                    go_wp2_with fail
                    refine at_word hI.at_ _ [80, 82, 85, 78, 69] rfl HR (fun w6 HR ha hg => ?_) (fun wn9 HR ha hg => ?_)
                    · have tt : True := trivial
                      replace hI := hI.call ha (by omega) hg
                      clear ha hg
                      have x0 := hI.st.cell 0 rfl
                      have z0 := hI.st.free 0
                      replace hI : SI w0 w p v T i n gs (stmZ { stm0 mo va with kind := 14 }) _ _ _ := hI.set 0 (.int .i64 14)
                      go_wp2_with fail
                      go_ret
                      exact SPost.mkOk HR.out.symm hI.at_ hI.ij ⟨rfl, fun a e => by cases e; exact ⟨_, hI.st, stm_flat (a := { stm0 mo va with kind := 14 }) rfl rfl rfl rfl rfl rfl⟩, hI.fr, hI.sz⟩
                    · have tt : True := trivial
                      replace hI := hI.call ha (by omega) hg
                      clear ha hg
                      go_wp2_with fail
                      go_ret
                      exact SPost.mkOk HR.out.symm hI.at_ hI.ij ⟨rfl, fun a e => (by cases e), hI.fr, hI.sz⟩
end Go.Proofs.YtpmncgbpbcgfaaaGreatDoor
