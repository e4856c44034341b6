import Derived.Test.YtpmncgbpbcgfaaaGreatDoorSxMod
/-
  A column's definition; names in parentheses.
-/
namespace Go.Proofs.YtpmncgbpbcgfaaaGreatDoor
open Go.RowKit
set_option linter.unusedVariables false
set_option linter.unusedSimpArgs false

def colR (w : World) (v : Value) (a : Col) : Prop := v = .agg (colCells a).toArray
theorem pColumn_eq : pColumn = (pName >>= fun s => pWord [73, 78, 84] >>= fun b => if b = true then (pWord [78, 85, 76, 76] >>= fun nl => pure ⟨s, 1, nl⟩) else pWord [84, 69, 88, 84] >>= fun b => if b = true then (pWord [78, 85, 76, 76] >>= fun nl => pure ⟨s, 2, nl⟩) else pWord [66, 79, 79, 76] >>= fun b => if b = true then (pWord [78, 85, 76, 76] >>= fun nl => pure ⟨s, 3, nl⟩) else pWrong) := by
  unfold pColumn
  simp only [P_assoc, P_ite, P_pure, P_wrong]
set_option maxHeartbeats 8000000 in
set_option maxRecDepth 100000 in
theorem column_call (p : Nat) (v : Value) (T : List Tok) (i n : Nat) (d : Bool) (w : World) (h : St w p v T i n d) :
    Calls Tryz.prog 85 #[.pointer (some ⟨p, 0, none⟩)] w (PPost w p v T i n colR (pColumn (cores T) i d)) := by
  obtain ⟨r, hr⟩ : ∃ r, pColumn (cores T) i d = r := ⟨_, rfl⟩
  rw [hr]
  rw [pColumn_eq] at hr
  have HR := Lib.hid hr
  have ha := At.start h
  clear hr h
  go_enter Tryz.func85, Tryz.ntmps85
  go_wp2_with fail
  refine name_alloc (K := fun W => Calls _ _ _ W _) fun w1 hB hw1 hz1 => ?_
  replace ha := ha.below hw1
  have hz1' : w.heap.size + 1 ≤ w1.heap.size := by omega
  have hBp : w.heap.size ≠ p := by have := ha.hp; omega
  clear hw1 hz1
  refine at_call (name_call p v T _ n _ w1 ha.st) ha HR (fun s j2 d2 val w2 HR hv ha hij2 hg2 => ?_) (fun j c w' hr hg => ⟨rfl, PPost.failed hr.out hg⟩)
  obtain ⟨rfl, hsl⟩ := hv
  replace hB := hB.grown hg2 hBp
  have hs2 := hg2.size
  clear hg2 hsl
  unfold strV
  go_wp2_with fail
  refine name_alloc (K := fun W => Calls _ _ _ W _) fun wa hX hwa hza => ?_
  replace ha := ha.below hwa
  replace hB := hB.below hwa
  have hXp : w2.heap.size ≠ p := by have := ha.hp; omega
  clear hwa hza
  refine at_word ha _ [73, 78, 84] rfl HR (fun w3 HR ha hg => ?_) (fun wb HR ha hg => ?_)
  · have tt : True := trivial
    replace hB := hB.grown hg hBp
    replace hX := hX.grown hg hXp
    clear hg
    have x1 := hX.cell 1 rfl
    have z1 := hX.free 1
    have hX1 := hX.set 1 (.int .i64 1)
    have hB1 := hB.grown (only_setCell (World.grownBy.refl w3 (some w2.heap.size)) 1 (.int .i64 1)) (by omega)
    have ha1 := ha.set (g := w2.heap.size) (by omega) 1 (.int .i64 1)
    clear hB hX ha
    go_wp2_with fail
    generalize w3.setCell ⟨w2.heap.size, 1, none⟩ (.int .i64 1) = w4 at hX1 hB1 ha1 ⊢
    clear x1 z1
    refine at_wordB ha1 _ [78, 85, 76, 76] rfl HR (fun nl j5 w5 HR hx5 hij5 ha5 hg5 => ?_)
    have hB5 := hB1.grown hg5 hBp
    have hX5 := hX1.grown hg5 hXp
    clear hg5 hx5 hB1 hX1 ha1
    have y0 := hX5.cell 0 rfl
    have y1 := hX5.cell 1 rfl
    have x2 := hX5.cell 2 rfl
    have z2 := hX5.free 2
    have b0 := hB5.cell 0 rfl
    have b1 := hB5.cell 1 rfl
    have b2 := hB5.cell 2 rfl
    have c0 := hB5.free 0
    have c1 := hB5.free 1
    have c2 := hB5.free 2
    have hl5 := hX5.lt
    have hne5 : w2.heap.size ≠ w.heap.size := by omega
    have hne6 := Ne.symm hne5
    have hk := only_setCell (World.grownBy.refl w5 (some w2.heap.size)) 2 (.bool nl)
    have hB6 := (hB5.grown hk (by omega)).set3 (.string ⟨s.toArray⟩) (.int .i64 1) (.bool nl)
    have ha6 := (ha5.set (g := w2.heap.size) (by omega) 2 (.bool nl)).set3 (Nat.le_refl _) (.string ⟨s.toArray⟩) (.int .i64 1) (.bool nl)
    go_wp2_with fail
    refine bodyPost_ret (results_cell_row Tryz.results85 _ _ w.heap.size _ _ _ _ rfl hB6 Tryz.underlying49 rfl (by kernel_rfl)) rfl ?_
    exact at_ok ha6 HR.out.symm rfl (by omega)
  · replace hB := hB.grown hg hBp
    replace hX := hX.grown hg hXp
    clear hg
    go_wp2_with fail
    refine at_word ha _ [84, 69, 88, 84] rfl HR (fun w3 HR ha hg => ?_) (fun wc HR ha hg => ?_)
    · have tt : True := trivial
      replace hB := hB.grown hg hBp
      replace hX := hX.grown hg hXp
      clear hg
      have x1 := hX.cell 1 rfl
      have z1 := hX.free 1
      have hX1 := hX.set 1 (.int .i64 2)
      have hB1 := hB.grown (only_setCell (World.grownBy.refl w3 (some w2.heap.size)) 1 (.int .i64 2)) (by omega)
      have ha1 := ha.set (g := w2.heap.size) (by omega) 1 (.int .i64 2)
      clear hB hX ha
      go_wp2_with fail
      generalize w3.setCell ⟨w2.heap.size, 1, none⟩ (.int .i64 2) = w4 at hX1 hB1 ha1 ⊢
      clear x1 z1
      refine at_wordB ha1 _ [78, 85, 76, 76] rfl HR (fun nl j5 w5 HR hx5 hij5 ha5 hg5 => ?_)
      have hB5 := hB1.grown hg5 hBp
      have hX5 := hX1.grown hg5 hXp
      clear hg5 hx5 hB1 hX1 ha1
      have y0 := hX5.cell 0 rfl
      have y1 := hX5.cell 1 rfl
      have x2 := hX5.cell 2 rfl
      have z2 := hX5.free 2
      have b0 := hB5.cell 0 rfl
      have b1 := hB5.cell 1 rfl
      have b2 := hB5.cell 2 rfl
      have c0 := hB5.free 0
      have c1 := hB5.free 1
      have c2 := hB5.free 2
      have hl5 := hX5.lt
      have hne5 : w2.heap.size ≠ w.heap.size := by omega
      have hne6 := Ne.symm hne5
      have hk := only_setCell (World.grownBy.refl w5 (some w2.heap.size)) 2 (.bool nl)
      have hB6 := (hB5.grown hk (by omega)).set3 (.string ⟨s.toArray⟩) (.int .i64 2) (.bool nl)
      have ha6 := (ha5.set (g := w2.heap.size) (by omega) 2 (.bool nl)).set3 (Nat.le_refl _) (.string ⟨s.toArray⟩) (.int .i64 2) (.bool nl)
      go_wp2_with fail
      refine bodyPost_ret (results_cell_row Tryz.results85 _ _ w.heap.size _ _ _ _ rfl hB6 Tryz.underlying49 rfl (by kernel_rfl)) rfl ?_
      exact at_ok ha6 HR.out.symm rfl (by omega)
    · replace hB := hB.grown hg hBp
      replace hX := hX.grown hg hXp
      clear hg
      go_wp2_with fail
      refine at_word ha _ [66, 79, 79, 76] rfl HR (fun w3 HR ha hg => ?_) (fun wd HR ha hg => ?_)
      · have tt : True := trivial
        replace hB := hB.grown hg hBp
        replace hX := hX.grown hg hXp
        clear hg
        have x1 := hX.cell 1 rfl
        have z1 := hX.free 1
        have hX1 := hX.set 1 (.int .i64 3)
        have hB1 := hB.grown (only_setCell (World.grownBy.refl w3 (some w2.heap.size)) 1 (.int .i64 3)) (by omega)
        have ha1 := ha.set (g := w2.heap.size) (by omega) 1 (.int .i64 3)
        clear hB hX ha
        go_wp2_with fail
        generalize w3.setCell ⟨w2.heap.size, 1, none⟩ (.int .i64 3) = w4 at hX1 hB1 ha1 ⊢
        clear x1 z1
        refine at_wordB ha1 _ [78, 85, 76, 76] rfl HR (fun nl j5 w5 HR hx5 hij5 ha5 hg5 => ?_)
        have hB5 := hB1.grown hg5 hBp
        have hX5 := hX1.grown hg5 hXp
        clear hg5 hx5 hB1 hX1 ha1
        have y0 := hX5.cell 0 rfl
        have y1 := hX5.cell 1 rfl
        have x2 := hX5.cell 2 rfl
        have z2 := hX5.free 2
        have b0 := hB5.cell 0 rfl
        have b1 := hB5.cell 1 rfl
        have b2 := hB5.cell 2 rfl
        have c0 := hB5.free 0
        have c1 := hB5.free 1
        have c2 := hB5.free 2
        have hl5 := hX5.lt
        have hne5 : w2.heap.size ≠ w.heap.size := by omega
        have hne6 := Ne.symm hne5
        have hk := only_setCell (World.grownBy.refl w5 (some w2.heap.size)) 2 (.bool nl)
        have hB6 := (hB5.grown hk (by omega)).set3 (.string ⟨s.toArray⟩) (.int .i64 3) (.bool nl)
        have ha6 := (ha5.set (g := w2.heap.size) (by omega) 2 (.bool nl)).set3 (Nat.le_refl _) (.string ⟨s.toArray⟩) (.int .i64 3) (.bool nl)
        go_wp2_with fail
        refine bodyPost_ret (results_cell_row Tryz.results85 _ _ w.heap.size _ _ _ _ rfl hB6 Tryz.underlying49 rfl (by kernel_rfl)) rfl ?_
        exact at_ok ha6 HR.out.symm rfl (by omega)
      · go_wp2_with fail
        exact at_wrong ha HR (fun j c w' hr hg => ⟨rfl, PPost.failed hr.out hg⟩)
/-- a taken token -/
def TokRep (T : List Tok) : Rep (Nat × Core) := fun _ _ a cs => ∃ h : a.1 < T.length, cs = tokL T[a.1] ∧ a.2 = T[a.1].core
theorem goodTok (T : List Tok) : Good (TokRep T) 4 where
  len := by rintro w F a cs ⟨h, rfl, _⟩; rfl
  one := by
    rintro w F a cs ⟨h, rfl, _⟩ u hu
    simp [tokL] at hu
    rcases hu with rfl | rfl | rfl | rfl <;> rfl
  kept := fun h _ => h
  mono := fun h _ => h
theorem info_token : (Tryz.prog.info? 95).map (fun i => (i.zero, i.size, i.bytes)) = some (some (.agg #[.int .i64 0, .string ⟨#[]⟩, .int .i64 0, .int .i64 0]), 4, 40) := by kernel_rfl
theorem enters_names1 : ∀ args w, (callFunc 121 args).run Tryz.prog w = .ok (.enter 121 args) w := enters_of Tryz.func121 (by kernel_rfl) rfl
/-- names under construction: gs the block of their slice -/
structure NamesI (T : List Tok) (wb : World) (p gs gp base : Nat) (l : List (Nat × Core)) (w : World) : Prop where
  box : Blk w gp [.pointer (some ⟨p, 0, none⟩)] 77
  sel : ∃ vo, Blk w gs [vo] 89 ∧ OwnL 4 95 (TokRep T) w base l vo
  le : base ≤ w.heap.size
  fr : Fr base gs p wb w
theorem NamesI.grown {T : List Tok} {wb : World} {p gs gp base : Nat} {l : List (Nat × Core)} {w w' : World} (h : NamesI T wb p gs gp base l w) (hg : w.grownBy w' (some p)) (h1 : gs ≠ p) (h2 : gp ≠ p) (h3 : p < base) : NamesI T wb p gs gp base l w' :=
  ⟨h.box.grown hg h2, let ⟨vi, ha, hb⟩ := h.sel; ⟨vi, ha.grown hg h1, hb.grown (goodTok T) hg h3⟩, Nat.le_trans h.le hg.size, h.fr.push hg h.le (fun g e => by cases e; exact .inr (.inr rfl))⟩
theorem take_bind {kind : Nat} : (pTake kind : P (Nat × Core)) = (pTake kind >>= fun t => pure t) := by
  funext C i d
  show _ = P.bind (pTake kind) _ C i d
  unfold P.bind
  rcases pTake kind C i d with ⟨a, j, d'⟩ | ⟨j, c⟩ <;> rfl
set_option maxHeartbeats 8000000 in
set_option maxRecDepth 100000 in
theorem names1_step (wb : World) (p gs gp base : Nat) (v : Value) (T : List Tok) (n i0 : Nat) (w0 : World) (hgs : w0.heap.size ≤ gs) (hgp : w0.heap.size ≤ gp) (hne : gs ≠ gp) (hbs : gs < base) (hbp : gp < base)
    (w : World) (i : Nat) (d : Bool) (l : List (Nat × Core)) (hi : i0 ≤ i) (hlen : l.length ≤ i) (ha : At w0 w p v T i n d) (hI : NamesI T wb p gs gp base l w) :
    Calls Tryz.prog 121 #[.pointer (some ⟨gs, 0, none⟩), .pointer (some ⟨gp, 0, none⟩)] w (LPost w0 p v T i n (NamesI T wb p gs gp base l) (pTake 1 (cores T) i d) fun a w' => NamesI T wb p gs gp base (l ++ [a]) w') := by
  obtain ⟨hP, ⟨vi, hS, hO⟩, hbase, hfr⟩ := hI
  obtain ⟨r, hr⟩ : ∃ r, pTake 1 (cores T) i d = r := ⟨_, rfl⟩
  rw [hr]
  rw [take_bind] at hr
  have HR := Lib.hid hr
  have HO := Lib.hid hO
  have HF := Lib.hid hfr
  obtain ⟨A8, c8', rfl⟩ := hO.form
  have hlT := ha.st.tk.len
  have hleT := ha.st.le
  clear hr hO hfr
  obtain ⟨i0', hi0', hz0, hz1, hz2⟩ := info_parts info_token
  have hgsp : gs ≠ p := by have := ha.hp; omega
  have hgpp : gp ≠ p := by have := ha.hp; omega
  have hpb : p < base := by have := ha.hp; omega
  have q0 := hP.cell 0 rfl
  have r0 := hS.cell 0 rfl
  go_enter Tryz.func121, Tryz.ntmps121
  go_region_law (first | (refine step_push (goodTok T) (by rfl) (.tmp 2) (.tmp 5) 89 (by rfl) base 95 i0' _ 40 Tryz.underlying89 hi0' hz0 hz1 hz2 (by rfl) (by omega) (by omega) (.slice A8 l.length c8') l (by rfl) (HO8.out.below (goodTok T) (below1 w8 _)) w8.heap.size 1 [.int .i64 (t.kind : Int), .string ⟨t.text.toArray⟩, .int .i64 (t.int : Int), .int .i64 (t.at_ : Int)] (i, t.core) (by rfl) (Blk.new w8 _ _) HC8.out (by omega) (by simp; omega) ?_; intro gg cap w9 hO9 hg9; have hS9 := (hS8.alloc _).push hg9 (fun e => by have := (HO.out.blk _ e).1; omega); have y91 := hS9.cell 0 rfl; have z91 := hS9.free 0) | (go_simp; go_at_call 67; refine at_take (ha.drewN 1) 1 HR (fun t w8 hit HTt hkt hokt HR8 ha8 hg8 => ?_) (fun j c w' hr hg => ⟨rfl, (show LPost _ _ _ _ _ _ _ _ _ _ _ by rw [hr.out]; exact ⟨rfl, hg⟩)⟩); unfold tokV strV; have HC8 : Hid (TokRep T (w8.alloc (.cells #[.int .i64 (t.kind : Int), .string ⟨t.text.toArray⟩, .int .i64 (t.int : Int), .int .i64 (t.at_ : Int)] 95)) (fun q => base ≤ q ∧ (Value.slice A8 l.length c8').ownBlock ≠ some q) (i, t.core) [.int .i64 (t.kind : Int), .string ⟨t.text.toArray⟩, .int .i64 (t.int : Int), .int .i64 (t.at_ : Int)]) := Lib.hid ⟨hit, (show _ = tokL T[i] by rw [HTt.out]; rfl), (show t.core = T[i].core by rw [HTt.out])⟩; have hS8 := (hS.drewN 1).grown hg8 hgsp; have hP8 := (hP.drewN 1).grown hg8 hgpp; have HO8 := Lib.hid ((HO.out.below (goodTok T) (belowD w 1)).grown (goodTok T) hg8 hpb); have y1 := hS8.cell 0 rfl; have z1' := hS8.free 0; have l9 : gs < w8.heap.size := hS8.lt; have h78 : w.heap.size ≤ w8.heap.size := hg8.size))
  all_goals
    have HLT : Hid (∀ g, (Value.slice A8 l.length c8').ownBlock = some g → base ≤ g) := Lib.hid (fun g e => (HO.out.blk g e).1)
    have ha9 := ((ha8.alloc (.cells #[.int .i64 (t.kind : Int), .string ⟨t.text.toArray⟩, .int .i64 (t.int : Int), .int .i64 (t.at_ : Int)] 95)).push hg9 (fun g e => by have := HLT.out g e; omega)).set hgs 0 (.slice (some ⟨gg, 0, none⟩) (l.length + 1) cap)
    have hP9 := ((hP8.alloc (.cells #[.int .i64 (t.kind : Int), .string ⟨t.text.toArray⟩, .int .i64 (t.int : Int), .int .i64 (t.at_ : Int)] 95)).push hg9 (fun e => by have := HLT.out _ e; omega)).grown (only_setCell (World.grownBy.refl w9 _) 0 (.slice (some ⟨gg, 0, none⟩) (l.length + 1) cap)) (Ne.symm hne)
    have hS10 := hS9.set 0 (.slice (some ⟨gg, 0, none⟩) (l.length + 1) cap)
    have hO10 := hO9.far (goodTok T) (only_setCell (World.grownBy.refl w9 _) 0 (.slice (some ⟨gg, 0, none⟩) (l.length + 1) cap)) hbs
    have hz9 : w8.heap.size + 1 ≤ w9.heap.size := by have := hg9.size; simpa using this
    have hs9 : (w9.setCell ⟨gs, 0, none⟩ (.slice (some ⟨gg, 0, none⟩) (l.length + 1) cap)).heap.size = w9.heap.size := by simp [World.setCell]
    have HF9 := Lib.hid (((((HF.out.below (belowD w 1) hbase).push hg8 hbase (fun g e => by cases e; exact .inr (.inr rfl))).below (below1 w8 _) (by omega)).push hg9 (by simp; omega) (fun g e => .inl (HLT.out g e))).push (only_setCell (World.grownBy.refl w9 _) 0 (.slice (some ⟨gg, 0, none⟩) (l.length + 1) cap)) (by omega) (fun g e => by cases e; exact .inr (.inl rfl)))
    go_end0
    rw [← HR8.out]
    exact ⟨rfl, ha9, by omega, ⟨hP9, ⟨_, hS10, hO10⟩, by rw [hs9]; omega, HF9.out⟩⟩
def namesR (T : List Tok) (base : Nat) (w : World) (v : Value) (a : List (Nat × Core)) : Prop := LRep 4 (TokRep T) w (Fp base []) a v
set_option maxHeartbeats 8000000 in
set_option maxRecDepth 100000 in
theorem pnames_call (m : Nat) (p : Nat) (v : Value) (T : List Tok) (i n : Nat) (d : Bool) (w : World) (h : St w p v T i n d) (hm : T.length + 1 ≤ m + i) :
    Calls Tryz.prog 102 #[.pointer (some ⟨p, 0, none⟩)] w (PPost w p v T i n (namesR T w.heap.size) (pNames m (cores T) i d)) := by
  obtain ⟨r, hr⟩ : ∃ r, pNames m (cores T) i d = r := ⟨_, rfl⟩
  rw [hr]
  unfold pNames at hr
  have HR := Lib.hid hr
  have ha := At.start h
  clear hr h
  go_enter Tryz.func102, Tryz.ntmps102
  go_wp2_with fail
  refine name_alloc2 (K := fun W => Calls _ _ _ W _) fun w1 hP hX hw1 hz1 => ?_
  replace ha := ha.below hw1
  have hz1' : w.heap.size + 1 + 1 ≤ w1.heap.size := by omega
  have hPp : w.heap.size ≠ p := by have := ha.hp; omega
  have hXp : w.heap.size + 1 ≠ p := by have := ha.hp; omega
  clear hw1 hz1
  refine at_need ha _ [40] rfl HR (fun w2 HR ha hg2 => ?_) (fun j c w' hr hg => ⟨rfl, PPost.failed hr.out hg⟩)
  replace hP := hP.grown hg2 hPp
  replace hX := hX.grown hg2 hXp
  have hs2 := hg2.size
  clear hg2
  have q0 := hP.cell 0 rfl
  go_wp2_with fail
  have hp0 := ha.hp
  refine at_list (list_call (pTake 1) 121 _ enters_names1 p v T (i + 1) n w (fun l wx => NamesI T w2 p (w.heap.size + 1) w.heap.size w2.heap.size l wx) (fun l a b h hg => h.grown hg (by omega) (by omega) (by omega)) (fun wx ix dx lx hix hlx hax hIx => names1_step w2 p (w.heap.size + 1) w.heap.size w2.heap.size v T n (i + 1) w (by omega) (by omega) (by omega) (by omega) (by omega) wx ix dx lx hix hlx hax hIx) w2 (i + 1) d (Nat.le_refl _) ha ⟨hP, ⟨_, hX, OwnL.nil _ _⟩, Nat.le_refl _, Fr.refl _ _ _ _⟩ m (by omega)) HR (fun l j3 d3 w3 HR hl ha3 hij3 => ?_) (fun j c w' hr hg => ⟨rfl, PPost.failed hr.out hg⟩)
  obtain ⟨hP3, ⟨vr, hX3, hO3⟩, hb3, hf3⟩ := hl
  have HL := Lib.hid (hO3.done (goodTok T))
  clear q0 hP hX ha hO3 hf3
  have q0 := hP3.cell 0 rfl
  go_wp2_with fail
  refine at_need ha3 _ [41] rfl HR (fun w4 HR ha4 hg4 => ?_) (fun j c w' hr hg => ⟨rfl, PPost.failed hr.out hg⟩)
  have hX4 := hX3.grown hg4 hXp
  have HL4 := Lib.hid (HL.out.kept (goodTok T) fun b hb hl => hg4.block b hl (fun e => by injection e with e; omega))
  clear hg4 q0 hP3 hX3 HL
  have x0 := hX4.cell 0 rfl
  go_wp2_with fail
  go_ret
  exact at_ok ha4 HR.out.symm (HL4.out.mono (goodTok T) fun b hb _ => ⟨by omega, by simp⟩) (by omega)
end Go.Proofs.YtpmncgbpbcgfaaaGreatDoor

/-
  The index of a column, by its name.
-/
namespace Go.Proofs.YtpmncgbpbcgfaaaGreatDoor
open Go.RowKit
set_option linter.unusedVariables false
set_option linter.unusedSimpArgs false

set_option maxHeartbeats 4000000 in
set_option maxRecDepth 100000 in
theorem columns1_call (a t : ByteArray) (k : Int) (b : Bool) (g : Nat) (w : World) (ht : w.cell? ⟨g, 1, none⟩ = some (.string t)) :
    Calls Tryz.prog 104 #[.agg #[.string a, .int .i64 k, .bool b], .pointer (some ⟨g, 0, none⟩)] w fun e w' => e = .returned (.bool (a.toList == t.toList)) ∧ Below w.heap.size w w' := by
  have hg : g < w.heap.size := World.block_lt_of_cell? w _ ht
  go_enter Tryz.func104, Tryz.ntmps104
  go_wp2_with fail
  go_ret
  exact ⟨rfl, below1 _ _⟩
theorem enters_columns1 : ∀ args w, (callFunc 104 args).run Tryz.prog w = .ok (.enter 104 args) w := enters_of Tryz.func104 (by kernel_rfl) rfl
/-- the index of the first column of that name, or -1 -/
def colIdx (l : List Col) (t : List UInt8) : Int := if l.any (fun c => decide (c.name = t)) then (l.findIdx (fun c => decide (c.name = t)) : Int) else -1
theorem colIdx_yes {l : List Col} {t : List UInt8} {k : Nat} (hk : k < l.length) (h1 : l[k].name = t) (h0 : ∀ q (h : q < l.length), q < k → l[q].name ≠ t) : colIdx l t = (k : Int) := by
  have ha : l.any (fun c => decide (c.name = t)) = true := List.any_eq_true.2 ⟨l[k], List.getElem_mem hk, by simpa using h1⟩
  have hf : l.findIdx (fun c => decide (c.name = t)) = k := by
    apply (List.findIdx_eq hk).2
    exact ⟨by simpa using h1, fun q hq => by simpa using h0 q (by omega) hq⟩
  unfold colIdx
  rw [if_pos ha, hf]
theorem colIdx_no {l : List Col} {t : List UInt8} (h0 : ∀ q (h : q < l.length), l[q].name ≠ t) : colIdx l t = -1 := by
  have ha : l.any (fun c => decide (c.name = t)) = false := by
    rw [List.any_eq_false]
    intro c hc
    obtain ⟨q, hq, rfl⟩ := List.getElem_of_mem hc
    simpa using h0 q hq
  unfold colIdx
  rw [if_neg (by rw [ha]; decide)]
structure IdxRel (w : World) (l : List Col) (t : List UInt8) (gk k : Nat) (c8 : Value) (wr : World) : Prop where
  gk : gk + k = l.length
  c8 : c8 = .int .i64 (k : Int)
  bl : Below w.heap.size w wr
  no : ∀ q (h : q < l.length), q < k → l[q].name ≠ t
theorem bytes_inj {a b : List UInt8} : ((⟨a.toArray⟩ : ByteArray) = ⟨b.toArray⟩) ↔ a = b := ⟨fun h => by injection h with h; simpa using congrArg Array.toList h, fun h => by rw [h]⟩
set_option maxHeartbeats 4000000 in
set_option maxRecDepth 100000 in
theorem indexFunc_call (l : List Col) (t : List UInt8) (vc : Value) (g : Nat) (F : Nat → Prop) (w : World) (hl : LRep 3 (FlatR colCells) w F l vc) (hlen : l.length ≤ 100000) (ht : w.cell? ⟨g, 1, none⟩ = some (.string ⟨t.toArray⟩)) :
    Calls Tryz.prog 103 #[vc, .func (.func 104) #[] #[.pointer (some ⟨g, 0, none⟩)]] w fun e w' => e = .returned (.int .i64 (colIdx l t)) ∧ Below w.heap.size w w' := by
  have hg : g < w.heap.size := World.block_lt_of_cell? w _ ht
  have heg := enters_columns1
  obtain ⟨A, cc, hvc⟩ := hl.form
  have HL := Lib.hid hl
  subst hvc
  clear hl
  go_enter Tryz.func103, Tryz.ntmps103
  go_wp2_with fail
  go_loopg [8] l.length (fun gk c8 wr => ∃ k, IdxRel w l t gk k c8 wr)
  case atStart => exact ⟨0, ⟨rfl, rfl, Below.refl _ _, fun q h hq => absurd hq (Nat.not_lt_zero _)⟩⟩
  case round =>
    obtain ⟨k, ⟨hgk, rfl, hbl, hno⟩⟩ := hrel
    by_cases hk : k < l.length
    · have d1 : decide ((k : Int) < (l.length : Int)) = true := decide_eq_true (by omega)
      have c1 : (k : Int) < (l.length : Int) := by omega
      have c2 : (0 : Int) ≤ (k : Int) := by omega
      have HL' := HL.out
      rcases HL' with ⟨h0, _⟩ | ⟨gc, cap, css, hv, hm, hF, hgc, hc, hr⟩
      · subst h0; simp at hk
      injection hv with hA _ hcap
      subst hA hcap
      have hcell : ∀ j, j < 3 → wr.cell? ⟨gc, k * 3 + j, none⟩ = (colCells l[k])[j]? := fun j hj => by
        rw [hbl.cell (p := ⟨gc, k * 3 + j, none⟩) hgc, hc k hk j hj, hr k hk]
      have r0 : wr.cell? ⟨gc, k * 3, none⟩ = some (.string ⟨(l[k].name).toArray⟩) := hcell 0 (by omega)
      have r1 : wr.cell? ⟨gc, k * 3 + 1, none⟩ = some (.int .i64 (l[k].kind : Int)) := hcell 1 (by omega)
      have r2 : wr.cell? ⟨gc, k * 3 + 2, none⟩ = some (.bool l[k].nullable) := hcell 2 (by omega)
      have t1 : wr.cell? ⟨g, 1, none⟩ = some (.string ⟨t.toArray⟩) := by rw [hbl.cell (p := ⟨g, 1, none⟩) hg]; exact ht
      have HNO := Lib.hid hno
      have HYES := Lib.hid (fun h1 => colIdx_yes (t := t) hk h1 hno)
      have HNM : Hid (l[k].name = l[k].name) := Lib.hid rfl
      clear hcell hno
      generalize hnm : l[k].name = nm at r0 HYES HNM
      generalize l[k].kind = kd at r1
      generalize l[k].nullable = nl at r2
      have HN := Lib.hid hnm
      clear hnm
      go_wp2_with fail
      refine (columns1_call _ _ _ _ g wr t1).mono ?_
      rintro e w2 ⟨rfl, hb2⟩
      have hbl2 := hbl.trans (hb2.mono hbl.size)
      by_cases hnt : nm = t
      · have d2 : ((⟨nm.toArray⟩ : ByteArray).toList == (⟨t.toArray⟩ : ByteArray).toList) = true := by simpa using hnt
        rw [d2]
        have HC := Lib.hid (HYES.out hnt)
        clear HYES hnt d2 r0 r1 r2 t1
        go_wp2_with fail
        go_ret
        exact ⟨by rw [HC.out]; rfl, hbl2⟩
      · have d2 : ((⟨nm.toArray⟩ : ByteArray).toList == (⟨t.toArray⟩ : ByteArray).toList) = false := by simpa using hnt
        rw [d2]
        have HC : Hid (∀ q (h : q < l.length), q < k + 1 → l[q].name ≠ t) := Lib.hid (fun q h hq => by
          by_cases hqk : q < k
          · exact HNO.out q h hqk
          · obtain rfl : q = k := by omega
            rw [HN.out]; exact hnt)
        have e1 : IntKind.i64.wrap ((k : Int) + 1) = (k : Int) + 1 := by rw [IntWalk.i64_in _ (by omega)]
        clear HYES hnt d2 r0 r1 r2 t1
        go_wp2_with fail
        go_roundg (l.length - (k + 1))
        case measure => omega
        case rel => exact ⟨k + 1, ⟨by omega, by simp, hbl2, HC.out⟩⟩
    · have d1 : decide ((k : Int) < (l.length : Int)) = false := decide_eq_false (by omega)
      have HC := Lib.hid (colIdx_no (l := l) (t := t) (fun q h => hno q h (by omega)))
      clear hno
      go_wp2_with fail
      go_ret
      exact ⟨by rw [HC.out]; rfl, hbl⟩
end Go.Proofs.YtpmncgbpbcgfaaaGreatDoor

/-
  The indices of columns, by their names.
-/
namespace Go.Proofs.YtpmncgbpbcgfaaaGreatDoor
open Go.RowKit
set_option linter.unusedVariables false
set_option linter.unusedSimpArgs false

theorem indexes_step {β : Type} {cols : List Col} {t : Nat × Core} {l : List (Nat × Core)} {f : List Nat → P β} {C : List Core} {j : Nat} {d : Bool} {r : R β} (hr : (pIndexes cols (t :: l) >>= f) C j d = r) :
    (pCheck (cols.any fun c => decide (c.name = t.2.text)) t.1 11 >>= fun _ => pIndexes cols l >>= fun x => f (cols.findIdx (fun c => decide (c.name = t.2.text)) :: x)) C j d = r := by
  rw [pIndexes] at hr
  simp only [P_assoc, P_pure] at hr
  exact hr
theorem colIdx_pos (l : List Col) (t : List UInt8) : decide ((0 : Int) ≤ colIdx l t) = l.any (fun c => decide (c.name = t)) := by
  unfold colIdx
  rcases h : l.any (fun c => decide (c.name = t)) with _ | _
  · simp
  · simp
theorem colIdx_any {l : List Col} {t : List UInt8} (h : decide ((0 : Int) ≤ colIdx l t) = true) : colIdx l t = ((l.findIdx (fun c => decide (c.name = t)) : Nat) : Int) := by
  rw [colIdx_pos] at h
  unfold colIdx
  rw [if_pos h]
theorem more_take : ∀ (n : Nat) (l : List (Nat × Core)) (C : List Core) (i : Nat) (d : Bool) (l' : List (Nat × Core)) (j : Nat) (d' : Bool), pMore (pTake 1) n l C i d = .ok l' j d' → l'.length + i ≤ l.length + j
  | 0, l, C, i, d, l', j, d', h => by cases h
  | n + 1, l, C, i, d, l', j, d', h => by
    rw [pMore] at h
    rcases hx : aheadB C i 0 5 [44] with _ | _
    · have h1 := ifSymbol_no hx h
      cases h1
      omega
    · have h1 := ifSymbol_yes hx h
      obtain ⟨a, k, e, h2, h3⟩ := bind_inv h1
      have h4 := pTake_one h2
      have h5 := more_take n _ C k e l' j d' h3
      simp at h5
      omega
theorem names_le {m : Nat} {C : List Core} {i : Nat} {d : Bool} {l : List (Nat × Core)} {j : Nat} {d' : Bool} (h : pNames m C i d = .ok l j d') : l.length ≤ j := by
  unfold pNames at h
  obtain ⟨a, k, e, h1, h2⟩ := bind_inv h
  obtain ⟨b, k2, e2, h3, h4⟩ := bind_inv h2
  obtain ⟨u, k3, e3, h5, h6⟩ := bind_inv h4
  unfold pList at h3
  obtain ⟨x, k4, e4, h7, h8⟩ := bind_inv h3
  have h9 := pTake_one h7
  have h10 := more_take _ _ _ _ _ _ _ _ h8
  have h11 := Loc.le (Loc.need (by decide)) h5
  cases h6
  simp at h10
  omega
theorem info_int : (Tryz.prog.info? 3).map (fun i => (i.zero, i.size, i.bytes)) = some (some (.int .i64 0), 1, 8) := by kernel_rfl
def intsR (base : Nat) (w : World) (v : Value) (a : List Nat) : Prop := LRep 1 (FlatR intCells) w (Fp base []) a v
structure ColsRel (w : World) (p : Nat) (v : Value) (T : List Tok) (n : Nat) (cols : List Col) (F : Nat → Prop) (cells : List Value) (vc vn : Value) (names : List (Nat × Core)) (base : Nat) (r : R (List Nat)) (j : Nat) (d : Bool) (gk k : Nat) (acc : List Nat) (c5 c12 : Value) (wr : World) : Prop where
  gk : gk + k = names.length
  c12 : c12 = .int .i64 (k : Int)
  at_ : At w wr p v T j n d
  box : Blk wr w.heap.size cells 47
  names_ : LRep 4 (TokRep T) wr (fun b => w.heap.size ≤ b ∧ b < base) names vn
  cols_ : LRep 3 (FlatR colCells) wr F cols vc
  own : OwnL 1 3 (FlatR intCells) wr base acc c5
  le : base ≤ wr.heap.size
  len : acc.length ≤ k
  pr : (pIndexes cols (names.drop k) >>= fun x => (pure (acc ++ x) : P (List Nat))) (cores T) j d = r
theorem drop_cons {α : Type} {l : List α} {k : Nat} (h : k < l.length) : l.drop k = l[k] :: l.drop (k + 1) := List.drop_eq_getElem_cons h
set_option maxHeartbeats 8000000 in
set_option maxRecDepth 100000 in
theorem columns_call (m : Nat) (p : Nat) (v : Value) (T : List Tok) (i n : Nat) (d : Bool) (w : World) (h : St w p v T i n d) (hm : T.length + 1 ≤ m + i) (cols : List Col) (F : Nat → Prop) (nm : List UInt8) (C0 K0 G0 : Option Addr) (C2 K1 K2 G1 G2 : Nat) (hcols : LRep 3 (FlatR colCells) w F cols (.slice C0 cols.length C2)) (hF : ∀ b, F b → b < w.heap.size ∧ b ≠ p) (hlen : cols.length ≤ 100000) :
    Calls Tryz.prog 86 #[.pointer (some ⟨p, 0, none⟩), .agg #[.string ⟨nm.toArray⟩, .slice C0 cols.length C2, .slice K0 K1 K2, .slice G0 G1 G2, .slice none 0 0]] w (PPost w p v T i n (intsR w.heap.size) (pColumns m cols (cores T) i d)) := by
  obtain ⟨r, hr⟩ : ∃ r, pColumns m cols (cores T) i d = r := ⟨_, rfl⟩
  rw [hr]
  unfold pColumns at hr
  have HR := Lib.hid hr
  have HC := Lib.hid hcols
  have ha := At.start h
  have hlT := h.tk.len
  clear hr h hcols
  obtain ⟨i0', hi0', hz0, hz1, hz2⟩ := info_parts info_int
  go_enter Tryz.func86, Tryz.ntmps86
  go_wp2_with fail
  refine name_alloc (K := fun W => Calls _ _ _ W _) fun w1 hB hw1 hz1' => ?_
  replace ha := ha.below hw1
  replace HC := Lib.hid (HC.out.kept goodCol fun b _ hl => hw1.block b hl)
  have h01 : w.heap.size + 1 ≤ w1.heap.size := by omega
  have hBp : w.heap.size ≠ p := by have := ha.hp; omega
  clear hw1 hz1'
  refine at_callE (pnames_call m p v T i n d w1 ha.st hm) ha HR (fun names j2 d2 val w2 HXO HR hv ha hij2 hg2 => ?_) (fun j c w' hr hg => ⟨rfl, PPost.failed hr.out hg⟩)
  have hnl : names.length ≤ 65536 := by have := names_le HXO.out; have := ha.st.le; omega
  replace hB := hB.grown hg2 hBp
  replace HC := Lib.hid (HC.out.kept goodCol fun b hb hl => hg2.block b hl (fun e => by injection e with e; exact (hF b hb).2 e))
  have h12 := hg2.size
  obtain ⟨N0, N2, rfl⟩ := LRep.form hv
  have HN := Lib.hid (LRep.mono (goodTok T) hv (F' := fun b => w.heap.size ≤ b ∧ b < w2.heap.size) fun b hb hl => ⟨by have := hb.1; omega, hl⟩)
  clear hg2 hv HXO
  go_wp2_with fail
  go_loopg [5, 12] names.length (fun gk c5 c12 wr => ∃ k acc, ColsRel w p v T n cols F [.string ⟨nm.toArray⟩, .slice C0 cols.length C2, .slice K0 K1 K2, .slice G0 G1 G2, .slice none 0 0] (.slice C0 cols.length C2) (.slice N0 names.length N2) names w2.heap.size r j2 d2 gk k acc c5 c12 wr)
  case atStart => exact ⟨0, [], ⟨rfl, rfl, ha, hB, HN.out, HC.out, OwnL.nil _ _, Nat.le_refl _, Nat.le_refl _, by
    have h := HR.out
    show (pIndexes cols names >>= fun x => (pure ([] ++ x) : P (List Nat))) (cores T) j2 d2 = r
    rw [← h]
    show P.bind _ _ _ _ _ = _
    unfold P.bind
    rcases pIndexes cols names (cores T) j2 d2 with ⟨a, j, d'⟩ | ⟨j, c⟩ <;> rfl⟩⟩
  case round =>
    obtain ⟨k, acc, ⟨hgk, rfl, ha3, hB3, hN3, hC3, hO3, hb3, hl3, hpr⟩⟩ := hrel
    have HN3 := Lib.hid hN3
    have HC3 := Lib.hid hC3
    have HO3 := Lib.hid hO3
    obtain ⟨A8, c8', rfl⟩ := hO3.form
    clear hN3 hC3 hO3 HR HN HC ha hB
    by_cases hk : k < names.length
    · have d1 : decide ((k : Int) < (names.length : Int)) = true := decide_eq_true (by omega)
      have c1 : (k : Int) < (names.length : Int) := by omega
      have c2 : (0 : Int) ≤ (k : Int) := by omega
      rw [drop_cons hk] at hpr
      have HR4 := Lib.hid (indexes_step hpr)
      clear hpr
      have HNN := HN3.out
      rcases HNN with ⟨h0, _⟩ | ⟨gc, cap, css, hv, hmm, hF4, hgc, hc, hrr⟩
      · subst h0; simp at hk
      injection hv with hA _ hcap
      subst hA hcap
      obtain ⟨hlt, hcs, hcore⟩ := hrr k hk
      have hcell : ∀ q, q < 4 → wr.cell? ⟨gc, k * 4 + q, none⟩ = (tokL T[names[k].1])[q]? := fun q hq => by rw [hc k hk q hq, hcs]
      generalize htk : T[names[k].1] = tk at hcell hcore
      have HTK := Lib.hid htk
      have r0 : wr.cell? ⟨gc, k * 4, none⟩ = some (.int .i64 (tk.kind : Int)) := hcell 0 (by omega)
      have r1 : wr.cell? ⟨gc, k * 4 + 1, none⟩ = some (.string ⟨tk.text.toArray⟩) := hcell 1 (by omega)
      have r2 : wr.cell? ⟨gc, k * 4 + 2, none⟩ = some (.int .i64 (tk.int : Int)) := hcell 2 (by omega)
      have r3 : wr.cell? ⟨gc, k * 4 + 3, none⟩ = some (.int .i64 (tk.at_ : Int)) := hcell 3 (by omega)
      have htx : names[k].2.text = tk.text := by rw [hcore]; rfl
      have HR5 : Hid ((pCheck (cols.any fun c => decide (c.name = tk.text)) names[k].1 11 >>= fun _ => pIndexes cols (names.drop (k + 1)) >>= fun x => (pure (acc ++ (cols.findIdx (fun c => decide (c.name = tk.text)) :: x)) : P (List Nat))) (cores T) j2 d2 = r) := Lib.hid (by have h := HR4.out; rw [htx] at h; exact h)
      clear hcell hcs hcore htk hc hrr HR4 htx
      generalize hix : names[k].1 = ix at hlt HTK HR5
      clear hix
      have b1 := hB3.cell 1 rfl
      have lB := hB3.lt
      go_wp2_with fail
      refine name_alloc (K := fun W => Calls _ _ _ W _) fun w4 hX hw4 hz4 => ?_
      have ha4 := ha3.below hw4
      have hB4 := hB3.below hw4
      have HN4 := Lib.hid (HN3.out.kept (goodTok T) fun b _ hl => hw4.block b hl)
      have HC4 := Lib.hid (HC3.out.kept goodCol fun b _ hl => hw4.block b hl)
      have HO4 := Lib.hid (HO3.out.below goodInt hw4)
      have h34 : wr.heap.size + 1 ≤ w4.heap.size := by omega
      clear hw4 hz4 ha3 hB3 HN3 HC3 HO3 r0 r1 r2 r3 b1 lB
      refine (indexFunc_call cols tk.text _ wr.heap.size F w4 HC4.out hlen (hX.cell 1 rfl)).mono ?_
      rintro e w5 ⟨rfl, hw5⟩
      have ha5 := ha4.below hw5
      have hB5 := hB4.below hw5
      have hX5 := hX.below hw5
      have HN5 := Lib.hid (HN4.out.kept (goodTok T) fun b _ hl => hw5.block b hl)
      have HC5 := Lib.hid (HC4.out.kept goodCol fun b _ hl => hw5.block b hl)
      have HO5 := Lib.hid (HO4.out.below goodInt hw5)
      have h45 := hw5.size
      clear hw5 ha4 hB4 HN4 HC4 HO4 hX
      have y0 := hX5.cell 0 rfl
      have y1 := hX5.cell 1 rfl
      have y2 := hX5.cell 2 rfl
      have y3 := hX5.cell 3 rfl
      go_wp2_with fail
      refine at_check ha5 hlt HTK (colIdx_pos cols tk.text) HR5 (fun w6 hck HR6 ha6 hw6 => ?_) (fun j c w' hr hg => ⟨rfl, PPost.failed hr.out hg⟩)
      have HID := Lib.hid (colIdx_any hck)
      have hB6 := hB5.below hw6
      have HN6 := Lib.hid (HN5.out.kept (goodTok T) fun b _ hl => hw6.block b hl)
      have HC6 := Lib.hid (HC5.out.kept goodCol fun b _ hl => hw6.block b hl)
      have HO6 := Lib.hid (HO5.out.below goodInt hw6)
      have h56 := hw6.size
      clear hw6 ha5 hB5 HN5 HC5 HO5 hX5 y0 y1 y2 y3 hck HR5
      go_wp2_with (at_builtin; refine push_own goodInt rfl (.tmp 24) (.tmp 26) 44 rfl w2.heap.size 3 i0' _ 8 Tryz.underlying44 hi0' hz0 hz1 hz2 rfl (by omega) (by omega) (.slice A8 acc.length c8') acc rfl (HO6.out.below goodInt (below1 w6 _)) w6.heap.size 1 [.int .i64 (colIdx cols tk.text)] (cols.findIdx (fun c => decide (c.name = tk.text))) rfl (Blk.new w6 _ _) ?hr ?hl ?hb ?_)
      case hr => exact (show _ = intCells _ by unfold intCells natV; rw [HID.out])
      case hl => omega
      case hb => simp; omega
      intro gg cap w7 hO7 hg7 hat7
      have HO7 := Lib.hid hO7
      have HLT : Hid (∀ g, (Value.slice A8 acc.length c8').ownBlock = some g → w2.heap.size ≤ g) := Lib.hid (fun g e => (HO6.out.blk g e).1)
      have ha7 := (ha6.alloc (.cells #[.int .i64 (colIdx cols tk.text)] 3)).push hg7 (fun q e => by have := HLT.out q e; omega)
      have hB7 := (hB6.alloc (.cells #[.int .i64 (colIdx cols tk.text)] 3)).push hg7 (fun e => by have := HLT.out _ e; omega)
      have HN7 := Lib.hid ((HN6.out.kept (goodTok T) fun b _ hl => (below1 w6 (.cells #[.int .i64 (colIdx cols tk.text)] 3)).block b hl).kept (goodTok T) fun b hb hl => hg7.block b hl (fun e => by have := HLT.out b e.symm; have := hb.2; omega))
      have HC7 := Lib.hid ((HC6.out.kept goodCol fun b _ hl => (below1 w6 (.cells #[.int .i64 (colIdx cols tk.text)] 3)).block b hl).kept goodCol fun b hb hl => hg7.block b hl (fun e => by have := HLT.out b e.symm; have := (hF b hb).1; omega))
      have hz7 : w6.heap.size + 1 ≤ w7.heap.size := by have := hg7.size; simpa using this
      have e8 : IntKind.i64.wrap ((k : Int) + 1) = (k : Int) + 1 := by rw [IntWalk.i64_in _ (by omega)]
      clear hO7 hg7 hat7 HO6 HN6 HC6 ha6 hB6
      go_wp2_with fail
      go_roundg (names.length - (k + 1))
      case measure => omega
      case rel => exact ⟨k + 1, acc ++ [cols.findIdx (fun c => decide (c.name = tk.text))], ⟨by omega, by simp, ha7, hB7, HN7.out, HC7.out, by simpa using HO7.out, by omega, by simp; omega, by have h := HR6.out; simpa using h⟩⟩
    · have d1 : decide ((k : Int) < (names.length : Int)) = false := decide_eq_false (by omega)
      have HR4 : Hid (r = .ok acc j2 d2) := Lib.hid (by rw [← hpr, List.drop_eq_nil_of_le (by omega)]; show R.ok (acc ++ []) j2 d2 = _; rw [List.append_nil])
      have HL := Lib.hid (HO3.out.done goodInt)
      clear hpr HO3 HN3 HC3
      go_wp2_with fail
      go_ret
      exact at_ok ha3 HR4.out (HL.out.mono goodInt fun b hb _ => ⟨by omega, by simp⟩) (by omega)
end Go.Proofs.YtpmncgbpbcgfaaaGreatDoor

/-
  The creation of a table: what its walk carries.
-/
namespace Go.Proofs.YtpmncgbpbcgfaaaGreatDoor
open Go.RowKit
set_option linter.unusedVariables false
set_option linter.unusedSimpArgs false

theorem info_column : (Tryz.prog.info? 49).map (fun i => (i.zero, i.size, i.bytes)) = some (some (.agg #[.string ⟨#[]⟩, .int .i64 0, .bool false]), 3, 32) := by kernel_rfl
theorem info_foreign : (Tryz.prog.info? 111).map (fun i => (i.zero, i.size, i.bytes)) = some (some (.agg #[.slice none 0 0, .string ⟨#[]⟩]), 2, 40) := by kernel_rfl
/-- a table under construction: its columns -/
structure CrI (w0 wb : World) (p : Nat) (v : Value) (T : List Tok) (i n gs gx base : Nat) (cs : List Value) (s : List UInt8) (cols : List Col) (vc : Value) (j : Nat) (d : Bool) (w : World) : Prop where
  si : SI w0 wb p v T i n gs cs j d w
  tbl : Blk w gx [.string ⟨s.toArray⟩, vc, .slice none 0 0, .slice none 0 0, .slice none 0 0] 47
  own : OwnL 3 49 (FlatR colCells) w base cols vc
  gx0 : wb.heap.size ≤ gx
  gxb : gx < base
  le : base ≤ w.heap.size
section
variable {w0 wb w w' w9 : World} {p : Nat} {v : Value} {T : List Tok} {i n gs gx base : Nat} {cs : List Value} {s : List UInt8} {cols : List Col} {vc : Value} {j j' : Nat} {d d' : Bool}
theorem CrI.far (h : CrI w0 wb p v T i n gs gx base cs s cols vc j d w) : gx ≠ p ∧ gx ≠ gs ∧ p < base := by
  have h1 := h.si.at_.hp
  have h2 := h.si.le0
  have h3 := h.si.gsb
  have h4 := h.gx0
  have h5 := h.gxb
  omega
theorem CrI.call (h : CrI w0 wb p v T i n gs gx base cs s cols vc j d w) (ha : At w0 w' p v T j' n d') (hij : j ≤ j') (hg : w.grownBy w' (some p)) : CrI w0 wb p v T i n gs gx base cs s cols vc j' d' w' :=
  ⟨h.si.call ha hij hg, h.tbl.grown hg h.far.1, h.own.grown goodCol hg h.far.2.2, h.gx0, h.gxb, Nat.le_trans h.le hg.size⟩
theorem CrI.below (h : CrI w0 wb p v T i n gs gx base cs s cols vc j d w) (hb : Below w.heap.size w w') : CrI w0 wb p v T i n gs gx base cs s cols vc j d w' :=
  ⟨h.si.below hb, h.tbl.below hb, h.own.below goodCol hb, h.gx0, h.gxb, Nat.le_trans h.le hb.size⟩
theorem SI.push {row : Option Nat} (h : SI w0 wb p v T i n gs cs j d w) (hg : w.grownBy w' row) (hb : ∀ g, row = some g → wb.heap.size ≤ g) : SI w0 wb p v T i n gs cs j d w' := by
  rcases row with _ | g
  · exact h.below ⟨hg.os, hg.tape, hg.output, hg.size, fun b hb => hg.block b hb (by simp)⟩
  · exact h.own hg (hb g rfl)
/-- one more column: the append, and the store of its slice -/
theorem CrI.push {c : Col} {u : Value} (h : CrI w0 wb p v T i n gs gx base cs s cols vc j d w) (o : Obj) (hg : (w.alloc o).grownBy w9 vc.ownBlock) (hO : OwnL 3 49 (FlatR colCells) w9 base (cols ++ [c]) u) :
    CrI w0 wb p v T i n gs gx base cs s (cols ++ [c]) u j d (w9.setCell ⟨gx, 1, none⟩ u) := by
  have hrow : ∀ g, vc.ownBlock = some g → base ≤ g := fun g e => (h.own.blk g e).1
  have hk := only_setCell (World.grownBy.refl w9 (some gx)) 1 u
  have h4 := h.gx0
  have h5 := h.gxb
  have hz : (w9.setCell ⟨gx, 1, none⟩ u).heap.size = w9.heap.size := by simp [World.setCell]
  have h9 : w.heap.size + 1 ≤ w9.heap.size := by have := hg.size; simpa using this
  have hle := h.le
  refine ⟨((h.si.below (below1 w o)).push hg (fun g e => by have := hrow g e; omega)).own hk h4, ((h.tbl.alloc o).push hg (fun e => by have := hrow _ e; omega)).set 1 u, hO.far goodCol hk h5, h4, h5, by omega⟩
end
/-- the loop over the columns -/
structure CrRel (w0 wb : World) (p : Nat) (v : Value) (T : List Tok) (i n gs gx base : Nat) (cs : List Value) (s : List UInt8) (f : List Col → P Stm) (r : R Stm) (gk j : Nat) (d : Bool) (cols : List Col) (vc : Value) (k : Nat) (w : World) : Prop where
  gk : gk + j = T.length
  inv : CrI w0 wb p v T i n gs gx base cs s cols vc j d w
  fuel : T.length + 1 ≤ k + j
  len : cols.length ≤ j
  pr : (pColsGo k cols >>= f) (cores T) j d = r
theorem colsGo_step {k : Nat} {l : List Col} {f : List Col → P Stm} {C : List Core} {j : Nat} {d : Bool} {r : R Stm} (hr : (pColsGo (k + 1) l >>= f) C j d = r) :
    (pWord [80, 82, 73, 77, 65, 82, 89] >>= fun b => if b = true then f l else pColumn >>= fun c => pNeed [44] >>= fun _ => pColsGo k (l ++ [c]) >>= f) C j d = r := by
  rw [pColsGo] at hr
  simp only [P_assoc, P_ite, P_pure] at hr
  exact hr
/-- a table's cells, its columns done -/
structure CtI (w0 wb : World) (p : Nat) (v : Value) (T : List Tok) (i n gs gx : Nat) (cs : List Value) (s : List UInt8) (cols : List Col) (vc vk vf : Value) (key : List Nat) (frns : List Frn) (j : Nat) (d : Bool) (w : World) : Prop where
  si : SI w0 wb p v T i n gs cs j d w
  tbl : Blk w gx [.string ⟨s.toArray⟩, vc, vk, vf, .slice none 0 0] 47
  cols_ : LRep 3 (FlatR colCells) w (Fp wb.heap.size [gx]) cols vc
  key_ : LRep 1 (FlatR intCells) w (Fp wb.heap.size [gx]) key vk
  frns_ : LRep 2 FrnRep w (Fp wb.heap.size [gx]) frns vf
  gx0 : wb.heap.size ≤ gx
section
variable {w0 wb w w' w9 : World} {p : Nat} {v : Value} {T : List Tok} {i n gs gx base : Nat} {cs : List Value} {s : List UInt8} {cols : List Col} {vc vk vf : Value} {key : List Nat} {frns : List Frn} {j j' : Nat} {d d' : Bool}
theorem CrI.done (h : CrI w0 wb p v T i n gs gx base cs s cols vc j d w) : CtI w0 wb p v T i n gs gx cs s cols vc (.slice none 0 0) (.slice none 0 0) [] [] j d w := by
  have h4 := h.gx0
  have h5 := h.gxb
  exact ⟨h.si, h.tbl, (h.own.done goodCol).mono goodCol fun b hb _ => ⟨by omega, by simp; omega⟩, .inl ⟨rfl, rfl⟩, .inl ⟨rfl, rfl⟩, h4⟩
theorem CtI.kept (h : CtI w0 wb p v T i n gs gx cs s cols vc vk vf key frns j d w) (si : SI w0 wb p v T i n gs cs j' d' w') (tbl : Blk w' gx [.string ⟨s.toArray⟩, vc, vk, vf, .slice none 0 0] 47) (hk : ∀ b, Fp wb.heap.size [gx] b → b < w.heap.size → w'.heap[b]? = w.heap[b]?) : CtI w0 wb p v T i n gs gx cs s cols vc vk vf key frns j' d' w' :=
  ⟨si, tbl, h.cols_.kept goodCol hk, h.key_.kept goodInt hk, h.frns_.kept goodFrn hk, h.gx0⟩
theorem CtI.call (h : CtI w0 wb p v T i n gs gx cs s cols vc vk vf key frns j d w) (ha : At w0 w' p v T j' n d') (hij : j ≤ j') (hg : w.grownBy w' (some p)) : CtI w0 wb p v T i n gs gx cs s cols vc vk vf key frns j' d' w' := by
  have h1 := h.si.at_.hp
  have h2 := h.si.le0
  have h3 := h.gx0
  exact h.kept (h.si.call ha hij hg) (h.tbl.grown hg (by omega)) fun b hb hl => hg.block b hl (fun e => by injection e with e; have := hb.1; omega)
theorem CtI.below (h : CtI w0 wb p v T i n gs gx cs s cols vc vk vf key frns j d w) (hb : Below w.heap.size w w') : CtI w0 wb p v T i n gs gx cs s cols vc vk vf key frns j d w' :=
  h.kept (h.si.below hb) (h.tbl.below hb) fun b _ hl => hb.block b hl
theorem CtI.setKey (h : CtI w0 wb p v T i n gs gx cs s cols vc vk vf key frns j d w) {key' : List Nat} {u : Value} (hu : LRep 1 (FlatR intCells) w (Fp wb.heap.size [gx]) key' u) : CtI w0 wb p v T i n gs gx cs s cols vc u vf key' frns j d (w.setCell ⟨gx, 2, none⟩ u) := by
  have hk := only_setCell (World.grownBy.refl w (some gx)) 2 u
  have hkk : ∀ b, Fp wb.heap.size [gx] b → b < w.heap.size → (w.setCell ⟨gx, 2, none⟩ u).heap[b]? = w.heap[b]? := fun b hb hl => hk.block b hl (fun e => by injection e with e; subst e; exact hb.2 (by simp))
  exact ⟨h.si.own hk h.gx0, h.tbl.set 2 u, h.cols_.kept goodCol hkk, hu.kept goodInt hkk, h.frns_.kept goodFrn hkk, h.gx0⟩
end
/-- a table's foreign keys under construction -/
structure CfI (w0 wb : World) (p : Nat) (v : Value) (T : List Tok) (i n gs gx base : Nat) (cs : List Value) (s : List UInt8) (cols : List Col) (vc vk vf : Value) (key : List Nat) (frns : List Frn) (j : Nat) (d : Bool) (w : World) : Prop where
  si : SI w0 wb p v T i n gs cs j d w
  tbl : Blk w gx [.string ⟨s.toArray⟩, vc, vk, vf, .slice none 0 0] 47
  cols_ : LRep 3 (FlatR colCells) w (fun b => Fp wb.heap.size [gx] b ∧ b < base) cols vc
  key_ : LRep 1 (FlatR intCells) w (fun b => Fp wb.heap.size [gx] b ∧ b < base) key vk
  own : OwnL 2 111 FrnRep w base frns vf
  gx0 : wb.heap.size ≤ gx
  gxb : gx < base
  le : base ≤ w.heap.size
section
variable {w0 wb w w' w9 : World} {p : Nat} {v : Value} {T : List Tok} {i n gs gx base : Nat} {cs : List Value} {s : List UInt8} {cols : List Col} {vc vk vf : Value} {key : List Nat} {frns : List Frn} {j j' : Nat} {d d' : Bool}
theorem CfI.start (h : CtI w0 wb p v T i n gs gx cs s cols vc vk (.slice none 0 0) key [] j d w) : CfI w0 wb p v T i n gs gx w.heap.size cs s cols vc vk (.slice none 0 0) key [] j d w :=
  ⟨h.si, h.tbl, h.cols_.mono goodCol fun b hb hl => ⟨hb, hl⟩, h.key_.mono goodInt fun b hb hl => ⟨hb, hl⟩, OwnL.nil _ _, h.gx0, h.tbl.lt, Nat.le_refl _⟩
theorem CfI.done (h : CfI w0 wb p v T i n gs gx base cs s cols vc vk vf key frns j d w) : CtI w0 wb p v T i n gs gx cs s cols vc vk vf key frns j d w := by
  have h4 := h.gx0
  have h5 := h.gxb
  exact ⟨h.si, h.tbl, h.cols_.mono goodCol fun b hb _ => hb.1, h.key_.mono goodInt fun b hb _ => hb.1, (h.own.done goodFrn).mono goodFrn fun b hb _ => ⟨by omega, by simp; omega⟩, h4⟩
theorem CfI.call (h : CfI w0 wb p v T i n gs gx base cs s cols vc vk vf key frns j d w) (ha : At w0 w' p v T j' n d') (hij : j ≤ j') (hg : w.grownBy w' (some p)) : CfI w0 wb p v T i n gs gx base cs s cols vc vk vf key frns j' d' w' := by
  have h1 := h.si.at_.hp
  have h2 := h.si.le0
  have h3 := h.gx0
  have h4 := h.gxb
  have hk : ∀ b, (Fp wb.heap.size [gx] b ∧ b < base) → b < w.heap.size → w'.heap[b]? = w.heap[b]? := fun b hb hl => hg.block b hl (fun e => by injection e with e; have := hb.1.1; omega)
  exact ⟨h.si.call ha hij hg, h.tbl.grown hg (by omega), h.cols_.kept goodCol hk, h.key_.kept goodInt hk, h.own.grown goodFrn hg (by omega), h3, h4, Nat.le_trans h.le hg.size⟩
theorem CfI.below (h : CfI w0 wb p v T i n gs gx base cs s cols vc vk vf key frns j d w) (hb : Below w.heap.size w w') : CfI w0 wb p v T i n gs gx base cs s cols vc vk vf key frns j d w' :=
  ⟨h.si.below hb, h.tbl.below hb, h.cols_.kept goodCol fun b _ hl => hb.block b hl, h.key_.kept goodInt fun b _ hl => hb.block b hl, h.own.below goodFrn hb, h.gx0, h.gxb, Nat.le_trans h.le hb.size⟩
/-- one more foreign key: the append, and the store of its slice -/
theorem CfI.push {c : Frn} {u : Value} (h : CfI w0 wb p v T i n gs gx base cs s cols vc vk vf key frns j d w) (o : Obj) (hg : (w.alloc o).grownBy w9 vf.ownBlock) (hO : OwnL 2 111 FrnRep w9 base (frns ++ [c]) u) :
    CfI w0 wb p v T i n gs gx base cs s cols vc vk u key (frns ++ [c]) j d (w9.setCell ⟨gx, 3, none⟩ u) := by
  have hrow : ∀ g, vf.ownBlock = some g → base ≤ g := fun g e => (h.own.blk g e).1
  have hk := only_setCell (World.grownBy.refl w9 (some gx)) 3 u
  have h4 := h.gx0
  have h5 := h.gxb
  have hz : (w9.setCell ⟨gx, 3, none⟩ u).heap.size = w9.heap.size := by simp [World.setCell]
  have h9 : w.heap.size + 1 ≤ w9.heap.size := by have := hg.size; simpa using this
  have hle := h.le
  have k1 : ∀ b, (Fp wb.heap.size [gx] b ∧ b < base) → b < w.heap.size → (w.alloc o).heap[b]? = w.heap[b]? := fun b _ hl => (below1 w o).block b hl
  have k2 : ∀ b, (Fp wb.heap.size [gx] b ∧ b < base) → b < (w.alloc o).heap.size → w9.heap[b]? = (w.alloc o).heap[b]? := fun b hb hl => hg.block b hl (fun e => by have := hrow b e.symm; have := hb.2; omega)
  have k3 : ∀ b, (Fp wb.heap.size [gx] b ∧ b < base) → b < w9.heap.size → (w9.setCell ⟨gx, 3, none⟩ u).heap[b]? = w9.heap[b]? := fun b hb hl => hk.block b hl (fun e => by injection e with e; subst e; exact hb.1.2 (by simp))
  exact ⟨((h.si.below (below1 w o)).push hg (fun g e => by have := hrow g e; omega)).own hk h4, ((h.tbl.alloc o).push hg (fun e => by have := hrow _ e; omega)).set 3 u, ((h.cols_.kept goodCol k1).kept goodCol k2).kept goodCol k3, ((h.key_.kept goodInt k1).kept goodInt k2).kept goodInt k3, hO.far goodFrn hk h5, h4, h5, by omega⟩
end
/-- the loop over the foreign keys -/
structure CfRel (w0 wb : World) (p : Nat) (v : Value) (T : List Tok) (i n gs gx base m : Nat) (cs : List Value) (s : List UInt8) (cols : List Col) (vc vk : Value) (key : List Nat) (f : List Frn → P Stm) (r : R Stm) (gk j : Nat) (d : Bool) (frns : List Frn) (vf : Value) (k : Nat) (w : World) : Prop where
  gk : gk + j = T.length
  inv : CfI w0 wb p v T i n gs gx base cs s cols vc vk vf key frns j d w
  fuel : T.length + 1 ≤ k + j
  len : frns.length ≤ j
  pr : (pFrnsGo m cols k frns >>= f) (cores T) j d = r
theorem frnsGo_step {m k : Nat} {cols : List Col} {l : List Frn} {f : List Frn → P Stm} {C : List Core} {j : Nat} {d : Bool} {r : R Stm} (hr : (pFrnsGo m cols (k + 1) l >>= f) C j d = r) :
    (if (aheadB C j 0 5 [44] && aheadB C j 1 2 [70, 79, 82, 69, 73, 71, 78]) = true then pStep >>= fun _ => pStep >>= fun _ => pWords [[75, 69, 89]] >>= fun _ => pColumns m cols >>= fun c => pWords [[82, 69, 70, 69, 82, 69, 78, 67, 69, 83]] >>= fun _ => pName >>= fun s => pFrnsGo m cols k (l ++ [⟨c, s⟩]) >>= f else f l) C j d = r := by
  rw [pFrnsGo] at hr
  simp only [P_assoc, P_ite, P_pure] at hr
  exact hr
theorem name_step2 {K : World → Prop} {w w0 : World} {p : Nat} {v : Value} {T : List Tok} {i n : Nat} {d : Bool} (ha : At w0 w p v T i n d) (hi : i + 2 ≤ T.length) (h : ∀ w', At w0 w' p v T (i + 2) n d → w.grownBy w' (some p) → K w') : K (w.setCell ⟨p, 1, none⟩ (.int .i64 ((i : Int) + 2))) := by
  have hs := ha.st.setAt (i + 2) hi
  rw [show ((i + 2 : Nat) : Int) = (i : Int) + 2 by omega] at hs
  exact h _ ⟨hs, only_setCell ha.gr 1 _, ha.hp, ha.hv⟩ (only_setCell (World.grownBy.refl _ _) 1 _)
theorem aheadC_lt {C : List Core} {i k kind : Nat} {l : List UInt8} (h : aheadB C i k kind l = true) : i + k < C.length := by
  unfold aheadB at h
  rcases hc : C[i + k]? with _ | t
  · rw [hc] at h; cases h
  · exact (List.getElem?_eq_some_iff.1 hc).1
end Go.Proofs.YtpmncgbpbcgfaaaGreatDoor

/-
  The checks of a table.
-/
namespace Go.Proofs.YtpmncgbpbcgfaaaGreatDoor
open Go.RowKit
set_option linter.unusedVariables false
set_option linter.unusedSimpArgs false

/-- expressions under construction: their slice in a cell of block gs -/
structure AppG (t t2 : TypeId) (bcs : List Value) (wb : World) (p gs gp base : Nat) (pre post : List Value) (l : List E) (w : World) : Prop where
  box : Blk w gp bcs t2
  sel : ∃ vg, Blk w gs (pre ++ (vg :: post)) t ∧ OwnL 7 34 ERep w base l vg
  le : base ≤ w.heap.size
  fr : Fr base gs p wb w
theorem appG_world {t t2 : TypeId} {bcs : List Value} {wb w0 w : World} {p gs gp gg base cap i n k : Nat} {pre post : List Value} (hpre : pre.length = k) {v vg : Value} {T : List Tok} {d : Bool} {l : List E} {b : E} {c0 c1 c2 c3 c4 c5 c6 : Value} (hw : w0.heap.size ≤ gs) (hbs : gs < base) (hgp : gp ≠ gs)
    (ha : At w0 w p v T i n d) (hP : Blk w gp bcs t2) (hS : Blk w gs (pre ++ (vg :: post)) t) (hO : OwnL 7 34 ERep w base (l ++ [E.zero]) (.slice (some ⟨gg, 0, none⟩) (l.length + 1) cap))
    (hr : ERep w (fun q => base ≤ q ∧ gg ≠ q) b [c0, c1, c2, c3, c4, c5, c6]) (h1 : gs < gg) (h2 : gp < gg) (hb : base ≤ w.heap.size) (hbg : base ≤ gg) (hfr : Fr base gs p wb w) :
    (At w0 ((((((((w.setCell ⟨gg, l.length * 7, none⟩ c0).setCell ⟨gg, l.length * 7 + 1, none⟩ c1).setCell ⟨gg, l.length * 7 + 2, none⟩ c2).setCell ⟨gg, l.length * 7 + 3, none⟩ c3).setCell ⟨gg, l.length * 7 + 4, none⟩ c4).setCell ⟨gg, l.length * 7 + 5, none⟩ c5).setCell ⟨gg, l.length * 7 + 6, none⟩ c6).setCell ⟨gs, k, none⟩ (.slice (some ⟨gg, 0, none⟩) (l.length + 1) cap)) p v T i n d ∧ AppG t t2 bcs wb p gs gp base pre post (l ++ [b]) ((((((((w.setCell ⟨gg, l.length * 7, none⟩ c0).setCell ⟨gg, l.length * 7 + 1, none⟩ c1).setCell ⟨gg, l.length * 7 + 2, none⟩ c2).setCell ⟨gg, l.length * 7 + 3, none⟩ c3).setCell ⟨gg, l.length * 7 + 4, none⟩ c4).setCell ⟨gg, l.length * 7 + 5, none⟩ c5).setCell ⟨gg, l.length * 7 + 6, none⟩ c6).setCell ⟨gs, k, none⟩ (.slice (some ⟨gg, 0, none⟩) (l.length + 1) cap))) ∧ At w0 ((((((((w.setCell ⟨gs, k, none⟩ (.slice (some ⟨gg, 0, none⟩) (l.length + 1) cap)).setCell ⟨gg, l.length * 7, none⟩ c0).setCell ⟨gg, l.length * 7 + 1, none⟩ c1).setCell ⟨gg, l.length * 7 + 2, none⟩ c2).setCell ⟨gg, l.length * 7 + 3, none⟩ c3).setCell ⟨gg, l.length * 7 + 4, none⟩ c4).setCell ⟨gg, l.length * 7 + 5, none⟩ c5).setCell ⟨gg, l.length * 7 + 6, none⟩ c6) p v T i n d ∧ AppG t t2 bcs wb p gs gp base pre post (l ++ [b]) ((((((((w.setCell ⟨gs, k, none⟩ (.slice (some ⟨gg, 0, none⟩) (l.length + 1) cap)).setCell ⟨gg, l.length * 7, none⟩ c0).setCell ⟨gg, l.length * 7 + 1, none⟩ c1).setCell ⟨gg, l.length * 7 + 2, none⟩ c2).setCell ⟨gg, l.length * 7 + 3, none⟩ c3).setCell ⟨gg, l.length * 7 + 4, none⟩ c4).setCell ⟨gg, l.length * 7 + 5, none⟩ c5).setCell ⟨gg, l.length * 7 + 6, none⟩ c6) := by
  have key : ∀ w : World, w.grownBy (((((((w.setCell ⟨gg, l.length * 7, none⟩ c0).setCell ⟨gg, l.length * 7 + 1, none⟩ c1).setCell ⟨gg, l.length * 7 + 2, none⟩ c2).setCell ⟨gg, l.length * 7 + 3, none⟩ c3).setCell ⟨gg, l.length * 7 + 4, none⟩ c4).setCell ⟨gg, l.length * 7 + 5, none⟩ c5).setCell ⟨gg, l.length * 7 + 6, none⟩ c6) (some gg) := fun w =>
    only_setCell (only_setCell (only_setCell (only_setCell (only_setCell (only_setCell (only_setCell (World.grownBy.refl _ _) _ c0) _ c1) _ c2) _ c3) _ c4) _ c5) _ c6
  have kz : ∀ w : World, (((((((w.setCell ⟨gg, l.length * 7, none⟩ c0).setCell ⟨gg, l.length * 7 + 1, none⟩ c1).setCell ⟨gg, l.length * 7 + 2, none⟩ c2).setCell ⟨gg, l.length * 7 + 3, none⟩ c3).setCell ⟨gg, l.length * 7 + 4, none⟩ c4).setCell ⟨gg, l.length * 7 + 5, none⟩ c5).setCell ⟨gg, l.length * 7 + 6, none⟩ c6).heap.size = w.heap.size := fun w => by simp [World.setCell]
  have kS : ∀ w : World, w.grownBy (w.setCell ⟨gs, k, none⟩ (.slice (some ⟨gg, 0, none⟩) (l.length + 1) cap)) (some gs) := fun w => only_setCell (World.grownBy.refl w _) k _
  have kp : ∀ u : Value, (pre ++ (vg :: post)).set k u = pre ++ (u :: post) := fun u => by simp [List.set_append, hpre]
  refine ⟨?_, ?_⟩
  · have hO1 := hO.put7 goodE hr
    have hg1 := key w
    have hz1 := kz w
    generalize (((((((w.setCell ⟨gg, l.length * 7, none⟩ c0).setCell ⟨gg, l.length * 7 + 1, none⟩ c1).setCell ⟨gg, l.length * 7 + 2, none⟩ c2).setCell ⟨gg, l.length * 7 + 3, none⟩ c3).setCell ⟨gg, l.length * 7 + 4, none⟩ c4).setCell ⟨gg, l.length * 7 + 5, none⟩ c5).setCell ⟨gg, l.length * 7 + 6, none⟩ c6) = W at hO1 hg1 hz1 ⊢
    refine ⟨(ha.own hg1 (by omega)).set hw _ _, (hP.grown hg1 (by omega)).grown (kS W) hgp, ⟨_, by rw [← kp]; exact (hS.grown hg1 (by omega)).set k _, by simpa using hO1.far goodE (kS W) hbs⟩, by rw [show (W.setCell ⟨gs, k, none⟩ (.slice (some ⟨gg, 0, none⟩) (l.length + 1) cap)).heap.size = W.heap.size by simp [World.setCell]]; omega, (hfr.push hg1 hb (fun g e => by cases e; exact .inl hbg)).push (kS W) (by omega) (fun g e => by cases e; exact .inr (.inl rfl))⟩
  · have hS1 := hS.set k (.slice (some ⟨gg, 0, none⟩) (l.length + 1) cap)
    have hP1 := hP.grown (kS w) hgp
    have hO1 := hO.far goodE (kS w) hbs
    have ha1 := ha.set hw k (.slice (some ⟨gg, 0, none⟩) (l.length + 1) cap)
    have hr1 : ERep (w.setCell ⟨gs, k, none⟩ (.slice (some ⟨gg, 0, none⟩) (l.length + 1) cap)) (fun q => base ≤ q ∧ gg ≠ q) b [c0, c1, c2, c3, c4, c5, c6] := goodE.kept hr fun q hq hl => (kS w).block q hl (fun e => by have := hq.1; cases e; omega)
    have hfr1 := hfr.push (kS w) hb (fun g e => by cases e; exact .inr (.inl rfl))
    have hz0 : (w.setCell ⟨gs, k, none⟩ (.slice (some ⟨gg, 0, none⟩) (l.length + 1) cap)).heap.size = w.heap.size := by simp [World.setCell]
    rw [kp] at hS1
    generalize w.setCell ⟨gs, k, none⟩ (.slice (some ⟨gg, 0, none⟩) (l.length + 1) cap) = w at hS1 hP1 hO1 ha1 hr1 hz0 hfr1 ⊢
    have hO2 := hO1.put7 goodE hr1
    have hg1 := key w
    have hz1 := kz w
    generalize (((((((w.setCell ⟨gg, l.length * 7, none⟩ c0).setCell ⟨gg, l.length * 7 + 1, none⟩ c1).setCell ⟨gg, l.length * 7 + 2, none⟩ c2).setCell ⟨gg, l.length * 7 + 3, none⟩ c3).setCell ⟨gg, l.length * 7 + 4, none⟩ c4).setCell ⟨gg, l.length * 7 + 5, none⟩ c5).setCell ⟨gg, l.length * 7 + 6, none⟩ c6) = W at hO2 hg1 hz1 ⊢
    exact ⟨ha1.own hg1 (by omega), hP1.grown hg1 (by omega), ⟨_, hS1.grown hg1 (by omega), by simpa using hO2⟩, by omega, hfr1.push hg1 (by omega) (fun g e => by cases e; exact .inl hbg)⟩
def ckPre (a : Stm) : List Value := stPre a ++ (.slice none 0 0 :: (.slice none 0 0 :: (.bool a.hasWhere :: (zeroE7 ++ tblCells a.table (.slice none 0 0) (.slice none 0 0) (.slice none 0 0)))))
def ckPost (a : Stm) : List Value := chgCells a.change ++ (hldCells a.hold ++ [natV a.number])
abbrev tcs (s : List UInt8) (vc vk vf : Value) : List Value := [.string ⟨s.toArray⟩, vc, vk, vf, .slice none 0 0]
/-- a table's checks under construction -/
structure CkI (w0 wb : World) (p : Nat) (v : Value) (T : List Tok) (i n gs gx base : Nat) (pre post : List Value) (t : Tbl) (vc vk vf vh : Value) (checks : List E) (j : Nat) (d : Bool) (w : World) : Prop where
  si : SI w0 wb p v T i n gs (pre ++ (vh :: post)) j d w
  tbl : Blk w gx (tcs t.name vc vk vf) 47
  tab : TblIs w (fun b => Fp wb.heap.size [gx] b ∧ b < base) t vc vk vf
  own : OwnL 7 34 ERep w base checks vh
  gx0 : wb.heap.size ≤ gx
  gxb : gx < base
  le : base ≤ w.heap.size
section
variable {w0 wb w w' : World} {p : Nat} {v : Value} {T : List Tok} {i n gs gx base : Nat} {pre post : List Value} {t : Tbl} {s : List UInt8} {cols : List Col} {vc vk vf vh : Value} {key : List Nat} {frns : List Frn} {checks checks' : List E} {j j' : Nat} {d d' : Bool}
theorem TblIs.kept {F : Nat → Prop} (h : TblIs w F t vc vk vf) (hk : ∀ b, F b → b < w.heap.size → w'.heap[b]? = w.heap[b]?) : TblIs w' F t vc vk vf := ⟨h.cols.kept goodCol hk, h.key.kept goodInt hk, h.frns.kept goodFrn hk⟩
theorem TblIs.mono {F F' : Nat → Prop} (h : TblIs w F t vc vk vf) (hk : ∀ b, F b → b < w.heap.size → F' b) : TblIs w F' t vc vk vf := ⟨h.cols.mono goodCol hk, h.key.mono goodInt hk, h.frns.mono goodFrn hk⟩
theorem CkI.start (h : CtI w0 wb p v T i n gs gx (pre ++ (.slice none 0 0 :: post)) s cols vc vk vf key frns j d w) : CkI w0 wb p v T i n gs gx w.heap.size pre post ⟨s, cols, key, frns⟩ vc vk vf (.slice none 0 0) [] j d w :=
  ⟨h.si, h.tbl, ⟨h.cols_.mono goodCol fun b hb hl => ⟨hb, hl⟩, h.key_.mono goodInt fun b hb hl => ⟨hb, hl⟩, h.frns_.mono goodFrn fun b hb hl => ⟨hb, hl⟩⟩, OwnL.nil _ _, h.gx0, h.tbl.lt, Nat.le_refl _⟩
theorem CkI.far (h : CkI w0 wb p v T i n gs gx base pre post t vc vk vf vh checks j d w) : gx ≠ p ∧ gx ≠ gs ∧ p < base ∧ gs < base ∧ gs ≠ p := by
  have h1 := h.si.at_.hp
  have h2 := h.si.le0
  have h3 := h.si.gsb
  have h4 := h.gx0
  have h5 := h.gxb
  have h6 := h.si.gp
  omega
theorem CkI.call (h : CkI w0 wb p v T i n gs gx base pre post t vc vk vf vh checks j d w) (ha : At w0 w' p v T j' n d') (hij : j ≤ j') (hg : w.grownBy w' (some p)) : CkI w0 wb p v T i n gs gx base pre post t vc vk vf vh checks j' d' w' := by
  have h1 := h.si.at_.hp
  have h2 := h.si.le0
  exact ⟨h.si.call ha hij hg, h.tbl.grown hg h.far.1, h.tab.kept fun b hb hl => hg.block b hl (fun e => by injection e with e; have := hb.1.1; omega), h.own.grown goodE hg h.far.2.2.1, h.gx0, h.gxb, Nat.le_trans h.le hg.size⟩
theorem CkI.below (h : CkI w0 wb p v T i n gs gx base pre post t vc vk vf vh checks j d w) (hb : Below w.heap.size w w') : CkI w0 wb p v T i n gs gx base pre post t vc vk vf vh checks j d w' :=
  ⟨h.si.below hb, h.tbl.below hb, h.tab.kept fun b _ hl => hb.block b hl, h.own.below goodE hb, h.gx0, h.gxb, Nat.le_trans h.le hb.size⟩
theorem CkI.ofApp (h : CkI w0 wb p v T i n gs gx base pre post t vc vk vf vh checks j d w) (hA : AppG 57 47 (tcs t.name vc vk vf) w p gs gx base pre post checks' w') (ha : At w0 w' p v T j' n d') (hij : j ≤ j') : ∃ u, CkI w0 wb p v T i n gs gx base pre post t vc vk vf u checks' j' d' w' := by
  obtain ⟨hbox, ⟨u, hS, hO⟩, hle, hfr⟩ := hA
  have h1 := h.si.at_.hp
  have h2 := h.si.le0
  have h3 := h.gx0
  have h4 := h.gxb
  have h5 := h.si.gsb
  have hk : ∀ b, (Fp wb.heap.size [gx] b ∧ b < base) → b < w.heap.size → w'.heap[b]? = w.heap[b]? := fun b hb hl => hfr b hb.2 (fun e => by have := hb.1.1; omega) (fun e => by have := hb.1.1; omega)
  exact ⟨u, ⟨⟨ha, Nat.le_trans h.si.ij hij, hS, h.si.fr.trans hfr (by omega), by omega, h.si.gs0, h.si.gsb⟩, hbox, h.tab.kept hk, hO, h3, h4, hle⟩⟩
end
/-- the loop over the checks -/
structure CkRel (w0 wb : World) (p : Nat) (v : Value) (T : List Tok) (i n gs gx base m : Nat) (pre post : List Value) (t : Tbl) (vc vk vf : Value) (f : List E → P Stm) (r : R Stm) (gk j : Nat) (d : Bool) (checks : List E) (vh : Value) (k : Nat) (w : World) : Prop where
  gk : gk + j = T.length
  inv : CkI w0 wb p v T i n gs gx base pre post t vc vk vf vh checks j d w
  fuel : T.length + 1 ≤ k + j
  len : checks.length ≤ j
  pr : (pChecksGo m k checks >>= f) (cores T) j d = r
theorem checksGo_step {m k : Nat} {l : List E} {f : List E → P Stm} {C : List Core} {j : Nat} {d : Bool} {r : R Stm} (hr : (pChecksGo m (k + 1) l >>= f) C j d = r) :
    (pSymbol [44] >>= fun b => if b = true then pWords [[67, 72, 69, 67, 75]] >>= fun _ => pNeed [40] >>= fun _ => pExpr m >>= fun e => pNeed [41] >>= fun _ => pChecksGo m k (l ++ [e]) >>= f else f l) C j d = r := by
  rw [pChecksGo] at hr
  simp only [P_assoc, P_ite, P_pure] at hr
  exact hr
theorem stm_create {w : World} {base mo : Nat} {va : Nat × Nat} {t : Tbl} {vc vk vf vh : Value} {l : List E} (ht : TblIs w (Fp base []) t vc vk vf) (h : LRep 7 ERep w (Fp base []) l vh) : StmRep w (Fp base []) { stm0 mo va with kind := 5, table := t, checks := l } ((stPre { stm0 mo va with kind := 5 } ++ (.slice none 0 0 :: (.slice none 0 0 :: (.bool false :: zeroE7)))) ++ (tcs t.name vc vk vf ++ (vh :: ckPost { stm0 mo va with kind := 5 }))) :=
  ⟨qZero, .slice none 0 0, .slice none 0 0, zeroE7, vc, vk, vf, vh, ⟨zeroQ_rep _ _, .inl ⟨rfl, rfl⟩, .inl ⟨rfl, rfl⟩, zeroE_rep _ _, ht, h⟩, rfl⟩
end Go.Proofs.YtpmncgbpbcgfaaaGreatDoor
