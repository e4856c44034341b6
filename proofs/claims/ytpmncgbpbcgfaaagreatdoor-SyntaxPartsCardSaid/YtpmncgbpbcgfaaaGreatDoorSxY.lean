import Derived.Test.YtpmncgbpbcgfaaaGreatDoorSxQ
/-
  Expressions appended one by one: the closure of a row.
-/
namespace Go.Proofs.YtpmncgbpbcgfaaaGreatDoor
open Go.RowKit
set_option linter.unusedVariables false
set_option linter.unusedSimpArgs false

/-- expressions under construction: their slice in a cell of block gs -/
structure AppI (t : TypeId) (wb : World) (p gs gp base : Nat) (pre post : List Value) (l : List E) (w : World) : Prop where
  box : Blk w gp [.pointer (some ⟨p, 0, none⟩)] 77
  sel : ∃ vg, Blk w gs (pre ++ (vg :: post)) t ∧ OwnL 7 34 ERep w base l vg
  le : base ≤ w.heap.size
  fr : Fr base gs p wb w
theorem app_world {t : TypeId} {wb w0 w : World} {p gs gp gg base cap i n k : Nat} {pre post : List Value} (hpre : pre.length = k) {v vg : Value} {T : List Tok} {d : Bool} {l : List E} {b : E} {c0 c1 c2 c3 c4 c5 c6 : Value} (hw : w0.heap.size ≤ gs) (hbs : gs < base) (hgp : gp ≠ gs)
    (ha : At w0 w p v T i n d) (hP : Blk w gp [.pointer (some ⟨p, 0, none⟩)] 77) (hS : Blk w gs (pre ++ (vg :: post)) t) (hO : OwnL 7 34 ERep w base (l ++ [E.zero]) (.slice (some ⟨gg, 0, none⟩) (l.length + 1) cap))
    (hr : ERep w (fun q => base ≤ q ∧ gg ≠ q) b [c0, c1, c2, c3, c4, c5, c6]) (h1 : gs < gg) (h2 : gp < gg) (hb : base ≤ w.heap.size) (hbg : base ≤ gg) (hfr : Fr base gs p wb w) :
    (At w0 ((((((((w.setCell ⟨gg, l.length * 7, none⟩ c0).setCell ⟨gg, l.length * 7 + 1, none⟩ c1).setCell ⟨gg, l.length * 7 + 2, none⟩ c2).setCell ⟨gg, l.length * 7 + 3, none⟩ c3).setCell ⟨gg, l.length * 7 + 4, none⟩ c4).setCell ⟨gg, l.length * 7 + 5, none⟩ c5).setCell ⟨gg, l.length * 7 + 6, none⟩ c6).setCell ⟨gs, k, none⟩ (.slice (some ⟨gg, 0, none⟩) (l.length + 1) cap)) p v T i n d ∧ AppI t wb p gs gp base pre post (l ++ [b]) ((((((((w.setCell ⟨gg, l.length * 7, none⟩ c0).setCell ⟨gg, l.length * 7 + 1, none⟩ c1).setCell ⟨gg, l.length * 7 + 2, none⟩ c2).setCell ⟨gg, l.length * 7 + 3, none⟩ c3).setCell ⟨gg, l.length * 7 + 4, none⟩ c4).setCell ⟨gg, l.length * 7 + 5, none⟩ c5).setCell ⟨gg, l.length * 7 + 6, none⟩ c6).setCell ⟨gs, k, none⟩ (.slice (some ⟨gg, 0, none⟩) (l.length + 1) cap))) ∧ At w0 ((((((((w.setCell ⟨gs, k, none⟩ (.slice (some ⟨gg, 0, none⟩) (l.length + 1) cap)).setCell ⟨gg, l.length * 7, none⟩ c0).setCell ⟨gg, l.length * 7 + 1, none⟩ c1).setCell ⟨gg, l.length * 7 + 2, none⟩ c2).setCell ⟨gg, l.length * 7 + 3, none⟩ c3).setCell ⟨gg, l.length * 7 + 4, none⟩ c4).setCell ⟨gg, l.length * 7 + 5, none⟩ c5).setCell ⟨gg, l.length * 7 + 6, none⟩ c6) p v T i n d ∧ AppI t wb p gs gp base pre post (l ++ [b]) ((((((((w.setCell ⟨gs, k, none⟩ (.slice (some ⟨gg, 0, none⟩) (l.length + 1) cap)).setCell ⟨gg, l.length * 7, none⟩ c0).setCell ⟨gg, l.length * 7 + 1, none⟩ c1).setCell ⟨gg, l.length * 7 + 2, none⟩ c2).setCell ⟨gg, l.length * 7 + 3, none⟩ c3).setCell ⟨gg, l.length * 7 + 4, none⟩ c4).setCell ⟨gg, l.length * 7 + 5, none⟩ c5).setCell ⟨gg, l.length * 7 + 6, none⟩ c6) := by
  have key : ∀ w : World, w.grownBy (((((((w.setCell ⟨gg, l.length * 7, none⟩ c0).setCell ⟨gg, l.length * 7 + 1, none⟩ c1).setCell ⟨gg, l.length * 7 + 2, none⟩ c2).setCell ⟨gg, l.length * 7 + 3, none⟩ c3).setCell ⟨gg, l.length * 7 + 4, none⟩ c4).setCell ⟨gg, l.length * 7 + 5, none⟩ c5).setCell ⟨gg, l.length * 7 + 6, none⟩ c6) (some gg) := fun w =>
    only_setCell (only_setCell (only_setCell (only_setCell (only_setCell (only_setCell (only_setCell (World.grownBy.refl _ _) _ c0) _ c1) _ c2) _ c3) _ c4) _ c5) _ c6
  have kz : ∀ w : World, (((((((w.setCell ⟨gg, l.length * 7, none⟩ c0).setCell ⟨gg, l.length * 7 + 1, none⟩ c1).setCell ⟨gg, l.length * 7 + 2, none⟩ c2).setCell ⟨gg, l.length * 7 + 3, none⟩ c3).setCell ⟨gg, l.length * 7 + 4, none⟩ c4).setCell ⟨gg, l.length * 7 + 5, none⟩ c5).setCell ⟨gg, l.length * 7 + 6, none⟩ c6).heap.size = w.heap.size := fun w => by simp [World.setCell]
  have kS : ∀ w : World, w.grownBy (w.setCell ⟨gs, k, none⟩ (.slice (some ⟨gg, 0, none⟩) (l.length + 1) cap)) (some gs) := fun w => only_setCell (World.grownBy.refl w _) k _
  have kp : ∀ u : Value, (pre ++ (vg :: post)).set k u = pre ++ (u :: post) := fun u => by simp [List.set_append, hpre]
  refine ⟨?_, ?_⟩
  · have hO1 := hO.put7 goodE hr
    have hg1 := key w
    have hz1 := kz w
    generalize (((((((w.setCell ⟨gg, l.length * 7, none⟩ c0).setCell ⟨gg, l.length * 7 + 1, none⟩ c1).setCell ⟨gg, l.length * 7 + 2, none⟩ c2).setCell ⟨gg, l.length * 7 + 3, none⟩ c3).setCell ⟨gg, l.length * 7 + 4, none⟩ c4).setCell ⟨gg, l.length * 7 + 5, none⟩ c5).setCell ⟨gg, l.length * 7 + 6, none⟩ c6) = W at hO1 hg1 hz1 ⊢
    refine ⟨(ha.own hg1 (by omega)).set hw _ _, (hP.grown hg1 (by omega)).grown (kS W) hgp, ⟨_, by rw [← kp]; exact (hS.grown hg1 (by omega)).set k _, by simpa using hO1.far goodE (kS W) hbs⟩, by rw [show (W.setCell ⟨gs, k, none⟩ (.slice (some ⟨gg, 0, none⟩) (l.length + 1) cap)).heap.size = W.heap.size by simp [World.setCell]]; omega, (hfr.push hg1 hb (fun g e => by cases e; exact .inl hbg)).push (kS W) (by omega) (fun g e => by cases e; exact .inr (.inl rfl))⟩
  · have hS1 := hS.set k (.slice (some ⟨gg, 0, none⟩) (l.length + 1) cap)
    have hP1 := hP.grown (kS w) hgp
    have hO1 := hO.far goodE (kS w) hbs
    have ha1 := ha.set hw k (.slice (some ⟨gg, 0, none⟩) (l.length + 1) cap)
    have hr1 : ERep (w.setCell ⟨gs, k, none⟩ (.slice (some ⟨gg, 0, none⟩) (l.length + 1) cap)) (fun q => base ≤ q ∧ gg ≠ q) b [c0, c1, c2, c3, c4, c5, c6] := goodE.kept hr fun q hq hl => (kS w).block q hl (fun e => by have := hq.1; cases e; omega)
    have hfr1 := hfr.push (kS w) hb (fun g e => by cases e; exact .inr (.inl rfl))
    have hz0 : (w.setCell ⟨gs, k, none⟩ (.slice (some ⟨gg, 0, none⟩) (l.length + 1) cap)).heap.size = w.heap.size := by simp [World.setCell]
    rw [kp] at hS1
    generalize w.setCell ⟨gs, k, none⟩ (.slice (some ⟨gg, 0, none⟩) (l.length + 1) cap) = w at hS1 hP1 hO1 ha1 hr1 hz0 hfr1 ⊢
    have hO2 := hO1.put7 goodE hr1
    have hg1 := key w
    have hz1 := kz w
    generalize (((((((w.setCell ⟨gg, l.length * 7, none⟩ c0).setCell ⟨gg, l.length * 7 + 1, none⟩ c1).setCell ⟨gg, l.length * 7 + 2, none⟩ c2).setCell ⟨gg, l.length * 7 + 3, none⟩ c3).setCell ⟨gg, l.length * 7 + 4, none⟩ c4).setCell ⟨gg, l.length * 7 + 5, none⟩ c5).setCell ⟨gg, l.length * 7 + 6, none⟩ c6) = W at hO2 hg1 hz1 ⊢
    exact ⟨ha1.own hg1 (by omega), hP1.grown hg1 (by omega), ⟨_, hS1.grown hg1 (by omega), by simpa using hO2⟩, by omega, hfr1.push hg1 (by omega) (fun g e => by cases e; exact .inl hbg)⟩
theorem enters_row : ∀ args w, (callFunc 62 args).run Tryz.prog w = .ok (.enter 62 args) w := enters_of Tryz.func62 (by kernel_rfl) rfl
set_option maxHeartbeats 8000000 in
set_option maxRecDepth 100000 in
theorem row_step (m : Nat) (wb : World) (p gs gp base : Nat) (v : Value) (T : List Tok) (n i0 : Nat) (w0 : World) (hgs : w0.heap.size ≤ gs) (hgp : w0.heap.size ≤ gp) (hne : gs ≠ gp) (hbs : gs < base) (hbp : gp < base) (hm : 3 * (T.length - i0) + 3 ≤ m)
    (w : World) (i : Nat) (d : Bool) (l : List E) (hi : i0 ≤ i) (hlen : l.length ≤ i) (ha : At w0 w p v T i n d) (hI : AppI 32 wb p gs gp base [] [] l w) :
    Calls Tryz.prog 62 #[.pointer (some ⟨gs, 0, none⟩), .pointer (some ⟨gp, 0, none⟩)] w (LPost w0 p v T i n (AppI 32 wb p gs gp base [] [] l) (pExpr m (cores T) i d) fun a w' => AppI 32 wb p gs gp base [] [] (l ++ [a]) w') := by
  obtain ⟨hP, ⟨vi, hS, hO⟩, hbase, hfr⟩ := hI
  have HF0 := Lib.hid hfr
  clear hfr
  obtain ⟨r, hr⟩ : ∃ r, pExpr m (cores T) i d = r := ⟨_, rfl⟩
  rw [hr]
  have HR := Lib.hid hr
  have HO := Lib.hid hO
  obtain ⟨A8, c8', rfl⟩ := hO.form
  have hlT := ha.st.tk.len
  have hleT := ha.st.le
  clear hr hO
  obtain ⟨i0', hi0', hz0, hz1, hz2⟩ := info_parts info_expr
  have hgsp : gs ≠ p := by have := ha.hp; omega
  have hgpp : gp ≠ p := by have := ha.hp; omega
  have r1 := hS.cell (u := .slice A8 l.length c8') 0 rfl
  have q0 := hP.cell 0 rfl
  have lgp : gp < w.heap.size := hP.lt
  have lgs : gs < w.heap.size := hS.lt
  have hZ := Blk.new w [.int .i64 0, .int .i64 0, .int .i64 0, .int .i64 0, .string ⟨#[]⟩, .string ⟨#[]⟩, .slice none 0 0] 34
  have haZ := ha.alloc (.cells #[.int .i64 0, .int .i64 0, .int .i64 0, .int .i64 0, .string ⟨#[]⟩, .string ⟨#[]⟩, .slice none 0 0] 34)
  have hSZ := hS.alloc (.cells #[.int .i64 0, .int .i64 0, .int .i64 0, .int .i64 0, .string ⟨#[]⟩, .string ⟨#[]⟩, .slice none 0 0] 34)
  have hPZ := hP.alloc (.cells #[.int .i64 0, .int .i64 0, .int .i64 0, .int .i64 0, .string ⟨#[]⟩, .string ⟨#[]⟩, .slice none 0 0] 34)
  have HOZ := Lib.hid (HO.out.below goodE (below1 w (.cells #[.int .i64 0, .int .i64 0, .int .i64 0, .int .i64 0, .string ⟨#[]⟩, .string ⟨#[]⟩, .slice none 0 0] 34)))
  have hZp : w.heap.size ≠ p := by have := ha.st.ps.lt; omega
  go_enter Tryz.func62, Tryz.ntmps62
  go_region_law (first | (refine step_push3 goodE (by rfl) (.tmp 2) (.tmp 6) 32 (by rfl) base 34 i0' _ 88 Tryz.underlying32 hi0' hz0 hz1 hz2 (by rfl) (by omega) (by omega) (.slice A8 l.length c8') l (by rfl) (HO8.out.below goodE (below1 w8 _)) w8.heap.size 1 [.int .i64 0, .int .i64 0, .int .i64 0, .int .i64 0, .string ⟨#[]⟩, .string ⟨#[]⟩, .slice none 0 0] E.zero (by rfl) (Blk.new w8 _ _) (leafR _ _ _ _) (by omega) (by (try simp); omega) ?_; intro gg cap w9 hO9 hg9 hgg; have hS9 := (hS8.alloc _).push hg9 (fun e => by have := (HO.out.blk _ e).1; omega); have hP9 := (hP8.alloc _).push hg9 (fun e => by have := (HO.out.blk _ e).1; omega); have ha9 := (ha8.alloc _).push hg9 (fun g e => by have := (HO.out.blk _ e).1; omega); have y91 := hS9.cell (u := .slice A8 l.length c8') 0 rfl; have z91 := hS9.free 0; have hgl : (l.length : Int) < (l.length : Int) + 1 := (by omega); have hgs1 := grp_far HO.out hbs (by (try simp); omega) hgg; have hgp1 := grp_far HO.out hbp (by (try simp); omega) hgg; have hbgg : base ≤ gg := (by (rcases hgg with e | e; exact (HO.out.blk _ e).1; (simp at e; omega))); have HF9 := Lib.hid ((HF8.out.below (below1 w8 _) (by omega)).push hg9 (by simp; omega) (fun g e => .inl (HO.out.blk _ e).1)); have hggs := Nat.ne_of_lt hgs1; have hrf9 := grp_rep goodE HO.out hbase (Nat.le_refl _) (goodE.below hrf (below1 w8 _)) hg9 hgg; have hsgg := Ne.symm hggs; have h98 : w.heap.size ≤ w9.heap.size := Nat.le_trans (by (try simp); omega) hg9.size; obtain ⟨⟨u0, k0⟩, e0⟩ := hO9.last0; obtain ⟨⟨u1, k1⟩, e1⟩ := hO9.lastCell 1 (by omega); obtain ⟨⟨u2, k2⟩, e2⟩ := hO9.lastCell 2 (by omega); obtain ⟨⟨u3, k3⟩, e3⟩ := hO9.lastCell 3 (by omega); obtain ⟨⟨u4, k4⟩, e4⟩ := hO9.lastCell 4 (by omega); obtain ⟨⟨u5, k5⟩, e5⟩ := hO9.lastCell 5 (by omega); obtain ⟨⟨u6, k6⟩, e6⟩ := hO9.lastCell 6 (by omega)) | (refine step_push3 goodE (by rfl) (.tmp 2) (.tmp 6) 32 (by rfl) base 34 i0' _ 88 Tryz.underlying32 hi0' hz0 hz1 hz2 (by rfl) (by omega) (by omega) (.slice A8 l.length c8') l (by rfl) HO8.out w.heap.size 1 [.int .i64 0, .int .i64 0, .int .i64 0, .int .i64 0, .string ⟨#[]⟩, .string ⟨#[]⟩, .slice none 0 0] E.zero (by rfl) hZ8 (leafR _ _ _ _) (by omega) (by (try simp); omega) ?_; intro gg cap w9 hO9 hg9 hgg; have hS9 := hS8.push hg9 (fun e => by have := (HO.out.blk _ e).1; omega); have hP9 := hP8.push hg9 (fun e => by have := (HO.out.blk _ e).1; omega); have ha9 := ha8.push hg9 (fun g e => by have := (HO.out.blk _ e).1; omega); have y91 := hS9.cell (u := .slice A8 l.length c8') 0 rfl; have z91 := hS9.free 0; have hgl : (l.length : Int) < (l.length : Int) + 1 := (by omega); have hgs1 := grp_far HO.out hbs (by (try simp); omega) hgg; have hgp1 := grp_far HO.out hbp (by (try simp); omega) hgg; have hbgg : base ≤ gg := (by (rcases hgg with e | e; exact (HO.out.blk _ e).1; omega)); have HF9 := Lib.hid (HF8.out.push hg9 (by omega) (fun g e => .inl (HO.out.blk _ e).1)); have hggs := Nat.ne_of_lt hgs1; have hrf9 := grp_rep goodE HO.out hbase (by simp) hrf hg9 hgg; have hsgg := Ne.symm hggs; have h98 : w.heap.size ≤ w9.heap.size := Nat.le_trans (by (try simp); omega) hg9.size; obtain ⟨⟨u0, k0⟩, e0⟩ := hO9.last0; obtain ⟨⟨u1, k1⟩, e1⟩ := hO9.lastCell 1 (by omega); obtain ⟨⟨u2, k2⟩, e2⟩ := hO9.lastCell 2 (by omega); obtain ⟨⟨u3, k3⟩, e3⟩ := hO9.lastCell 3 (by omega); obtain ⟨⟨u4, k4⟩, e4⟩ := hO9.lastCell 4 (by omega); obtain ⟨⟨u5, k5⟩, e5⟩ := hO9.lastCell 5 (by omega); obtain ⟨⟨u6, k6⟩, e6⟩ := hO9.lastCell 6 (by omega)) | (go_simp; go_at_call 22; refine at_last (expr_call m p v T n _ i d (ha.drewN 1).st (by omega)) (ha.drewN 1) HR (fun f2 q d8 val w8 HR8 hv ha8 hij8 hg8 => ?_) (fun j c w' hr hg => ⟨rfl, (show LPost _ _ _ _ _ _ _ _ _ _ _ by rw [hr.out]; exact ⟨rfl, hg⟩)⟩); obtain ⟨fs, rfl, hrf⟩ := hv; obtain ⟨c0, c1, c2, c3, c4, c5, C, c6, c7, rfl⟩ := erep_lit hrf; have hS8 := (hS.drewN 1).grown hg8 hgsp; have hP8 := (hP.drewN 1).grown hg8 hgpp; have HO8 := Lib.hid ((HO.out.below goodE (belowD _ 1)).grown goodE hg8 (by have := ha.hp; omega)); have y1 := hS8.cell (u := .slice A8 l.length c8') 0 rfl; have z1' := hS8.free 0; have l9 : gs < w8.heap.size := hS8.lt; have h78 : w.heap.size ≤ w8.heap.size := hg8.size; have HF8 := Lib.hid ((HF0.out.below (belowD w 1) hbase).push hg8 hbase (fun g e => by cases e; exact .inr (.inr rfl)))) | (go_simp; go_at_call 22; refine at_last (expr_call m p v T n _ i d (haZ.drewN 1).st (by omega)) (haZ.drewN 1) HR (fun f2 q d8 val w8 HR8 hv ha8 hij8 hg8 => ?_) (fun j c w' hr hg => ⟨rfl, (show LPost _ _ _ _ _ _ _ _ _ _ _ by rw [hr.out]; exact ⟨rfl, hg⟩)⟩); obtain ⟨fs, rfl, hrf⟩ := hv; obtain ⟨c0, c1, c2, c3, c4, c5, C, c6, c7, rfl⟩ := erep_lit hrf; have hS8 := (hSZ.drewN 1).grown hg8 hgsp; have hP8 := (hPZ.drewN 1).grown hg8 hgpp; have HO8 := Lib.hid ((HOZ.out.below goodE (belowD _ 1)).grown goodE hg8 (by have := ha.hp; omega)); have y1 := hS8.cell (u := .slice A8 l.length c8') 0 rfl; have z1' := hS8.free 0; have l9 : gs < w8.heap.size := hS8.lt; have h78 : w.heap.size ≤ w8.heap.size := Nat.le_trans (by simp) hg8.size; have hZ8 := (hZ.drewN 1).grown hg8 hZp; have HF8 := Lib.hid (((HF0.out.below (below1 w _) hbase).below (belowD _ 1) (by simp; omega)).push hg8 (by simp; omega) (fun g e => by cases e; exact .inr (.inr rfl)))))
  all_goals
    have hfin := app_world (t := 32) (k := 0) (pre := []) (post := []) rfl hgs hbs (Ne.symm hne) ha9 hP9 hS9 hO9 hrf9 hgs1 hgp1 (by omega) hbgg HF9.out
    have HF := Lib.hid hfin
    clear hfin
    go_end0
    rw [HR8.out]
    refine ⟨rfl, ?_, hij8, ?_⟩
    · first | with_reducible exact HF.out.1.1 | with_reducible exact HF.out.2.1
    · first | with_reducible exact HF.out.1.2 | with_reducible exact HF.out.2.2
theorem AppI.grown {t : TypeId} {wb : World} {p gs gp base : Nat} {pre post : List Value} {l : List E} {w w' : World} (h : AppI t wb p gs gp base pre post l w) (hg : w.grownBy w' (some p)) (h1 : gs ≠ p) (h2 : gp ≠ p) (h3 : p < base) : AppI t wb p gs gp base pre post l w' :=
  ⟨h.box.grown hg h2, let ⟨vi, ha, hb⟩ := h.sel; ⟨vi, ha.grown hg h1, hb.grown goodE hg h3⟩, Nat.le_trans h.le hg.size, h.fr.push hg h.le (fun g e => by cases e; exact .inr (.inr rfl))⟩
end Go.Proofs.YtpmncgbpbcgfaaaGreatDoor

/-
  The rows of an insertion, the sets of an update: the closures.
-/
namespace Go.Proofs.YtpmncgbpbcgfaaaGreatDoor
open Go.RowKit
set_option linter.unusedVariables false
set_option linter.unusedSimpArgs false

theorem grown_fr {w0 w w' : World} {p : Nat} {v : Value} {T : List Tok} {i j n : Nat} {d d' : Bool} (ha : At w0 w p v T i n d) (ha' : At w0 w' p v T j n d') (hsz : w.heap.size ≤ w'.heap.size) (hk : ∀ b, b < w.heap.size → b ≠ p → w'.heap[b]? = w.heap[b]?) : w.grownBy w' (some p) :=
  ⟨ha'.gr.os.trans ha.gr.os.symm, ha'.gr.tape.trans ha.gr.tape.symm, ha'.gr.output.trans ha.gr.output.symm, hsz, fun b hb hne => hk b hb (fun e => hne (by rw [e]))⟩
/-- a statement's list under construction: gs the statement's block, gp, gt the boxes of the parser's pointer and of the statement's -/
structure ListI {α : Type} (size : Nat) (e : TypeId) (rep : Rep α) (wb : World) (p gs gp gt base : Nat) (pre post : List Value) (l : List α) (w : World) : Prop where
  box : Blk w gp [.pointer (some ⟨p, 0, none⟩)] 77
  ptr : Blk w gt [.pointer (some ⟨gs, 0, none⟩)] 101
  st : ∃ vr, Blk w gs (pre ++ (vr :: post)) 57 ∧ OwnL size e rep w base l vr
  le : base ≤ w.heap.size
  fr : Fr base gs p wb w
theorem ListI.grown {α : Type} {size : Nat} {e : TypeId} {rep : Rep α} (G : Good rep size) {wb : World} {p gs gp gt base : Nat} {pre post : List Value} {l : List α} {w w' : World} (h : ListI size e rep wb p gs gp gt base pre post l w) (hg : w.grownBy w' (some p)) (h1 : gs ≠ p) (h2 : gp ≠ p) (h4 : gt ≠ p) (h3 : p < base) : ListI size e rep wb p gs gp gt base pre post l w' :=
  ⟨h.box.grown hg h2, h.ptr.grown hg h4, let ⟨vi, ha, hb⟩ := h.st; ⟨vi, ha.grown hg h1, hb.grown G hg h3⟩, Nat.le_trans h.le hg.size, h.fr.push hg h.le (fun g e => by cases e; exact .inr (.inr rfl))⟩
theorem info_row : (Tryz.prog.info? 32).map (fun i => (i.zero, i.size, i.bytes)) = some (some (.slice none 0 0), 1, 24) := by kernel_rfl
theorem enters_rows : ∀ args w, (callFunc 60 args).run Tryz.prog w = .ok (.enter 60 args) w := enters_of Tryz.func60 (by kernel_rfl) rfl
theorem mid_at {pre post : List Value} {k : Nat} (hpre : pre.length = k) (u : Value) : (pre ++ (u :: post))[k]? = some u := by rw [List.getElem?_append_right (by omega)]; simp [hpre]
theorem mid_set {pre post : List Value} {k : Nat} (hpre : pre.length = k) (u u' : Value) : (pre ++ (u :: post)).set k u' = pre ++ (u' :: post) := by simp [List.set_append, hpre]
/-- one more element: the append, and the store of its slice -/
theorem list_push {α : Type} {size : Nat} {e : TypeId} {rep : Rep α} (G : Good rep size) {w0 wb w w9 : World} {p gs gp gt base k i n : Nat} {pre post : List Value} {vr u v : Value} {T : List Tok} {d : Bool} {l' : List α} (hpre : pre.length = k) (ha : At w0 w p v T i n d)
    (hP : Blk w gp [.pointer (some ⟨p, 0, none⟩)] 77) (hT : Blk w gt [.pointer (some ⟨gs, 0, none⟩)] 101) (hS : Blk w gs (pre ++ (vr :: post)) 57) (hle : base ≤ w.heap.size) (hf : Fr base gs p wb w)
    (hgs : w0.heap.size ≤ gs) (hne : gs ≠ gp) (hne' : gs ≠ gt) (hbs : gs < base) (hbp : gp < base) (hbt : gt < base) (hrow : ∀ g, vr.ownBlock = some g → base ≤ g) (o : Obj) (hg : (w.alloc o).grownBy w9 vr.ownBlock) (hO : OwnL size e rep w9 base l' u) :
    At w0 (w9.setCell ⟨gs, k, none⟩ u) p v T i n d ∧ ListI size e rep wb p gs gp gt base pre post l' (w9.setCell ⟨gs, k, none⟩ u) := by
  have hk := only_setCell (World.grownBy.refl w9 (some gs)) k u
  have hz : (w9.setCell ⟨gs, k, none⟩ u).heap.size = w9.heap.size := by simp [World.setCell]
  have h9 : w.heap.size + 1 ≤ w9.heap.size := by have := hg.size; simpa using this
  have hS' := ((hS.alloc o).push hg (fun e => by have := hrow _ e; omega)).set k u
  rw [mid_set hpre] at hS'
  exact ⟨((ha.alloc o).push hg (fun g e => by have := hrow g e; omega)).set hgs k u, ⟨((hP.alloc o).push hg (fun e => by have := hrow _ e; omega)).grown hk (Ne.symm hne), ((hT.alloc o).push hg (fun e => by have := hrow _ e; omega)).grown hk (Ne.symm hne'), ⟨u, hS', hO.far G hk hbs⟩, by omega, ((hf.below (below1 w o) hle).push hg (by simp; omega) (fun g e => .inl (hrow g e))).push hk (by omega) (fun g e => by cases e; exact .inr (.inl rfl))⟩⟩
set_option maxHeartbeats 8000000 in
set_option maxRecDepth 100000 in
theorem rows_step (m : Nat) (wb : World) (p gs gp gt base : Nat) (pre post : List Value) (hpre : pre.length = 28) (v : Value) (T : List Tok) (n i0 : Nat) (w0 : World) (hgs : w0.heap.size ≤ gs) (hgp : w0.heap.size ≤ gp) (hgt : w0.heap.size ≤ gt) (hne : gs ≠ gp) (hne' : gs ≠ gt) (hbs : gs < base) (hbp : gp < base) (hbt : gt < base) (hm : 3 * (T.length - i0) + 3 ≤ m)
    (w : World) (i : Nat) (d : Bool) (l : List (List E)) (hi : i0 ≤ i) (hlen : l.length ≤ i) (ha : At w0 w p v T i n d) (hI : ListI 1 32 RowRep wb p gs gp gt base pre post l w) :
    Calls Tryz.prog 60 #[.pointer (some ⟨gp, 0, none⟩), .pointer (some ⟨gt, 0, none⟩)] w (LPost w0 p v T i n (ListI 1 32 RowRep wb p gs gp gt base pre post l) (pRow m (cores T) i d) fun a w' => ListI 1 32 RowRep wb p gs gp gt base pre post (l ++ [a]) w') := by
  obtain ⟨r, hr⟩ : ∃ r, pRow m (cores T) i d = r := ⟨_, rfl⟩
  rw [hr]
  unfold pRow at hr
  have HR := Lib.hid hr
  have hlT := ha.st.tk.len
  have hleT := ha.st.le
  have hpp := ha.st.ps.lt
  have hle0 := ha.le
  have hIw := Lib.hid hI
  have haw := Lib.hid ha
  have hbase := hI.le
  clear hr
  obtain ⟨i0', hi0', hz0, hz1, hz2⟩ := info_parts info_row
  have hgsp : gs ≠ p := by have := ha.hp; omega
  have hgpp : gp ≠ p := by have := ha.hp; omega
  have hgtp : gt ≠ p := by have := ha.hp; omega
  have hpb : p < base := by have := ha.hp; omega
  have q0 := hI.box.cell 0 rfl
  have lp := hI.box.lt
  clear hI
  go_enter Tryz.func60, Tryz.ntmps60
  go_wp2_with fail
  refine name_alloc (K := fun W => Calls _ _ _ W _) fun w1 hX hw1 hz1' => ?_
  have hga : w.grownBy w1 (some p) := grown_of_below hw1
  replace ha := ha.below hw1
  have hXp : w.heap.size ≠ p := by omega
  have h01 : w.heap.size + 1 ≤ w1.heap.size := by omega
  clear hw1 hz1' q0
  refine at_need ha _ [40] rfl HR (fun w2 HR ha hg2 => ?_) (fun j c w' hr hg => ⟨rfl, (show LPost _ _ _ _ _ _ _ _ _ _ _ by rw [hr.out]; exact ⟨rfl, hg⟩)⟩)
  replace hga := grown_trans hga hg2
  replace hX := hX.grown hg2 hXp
  have h12 := hg2.size
  have hP2 := hIw.out.box.grown hga hgpp
  clear hg2
  have q0 := hP2.cell 0 rfl
  go_wp2_with fail
  have hle2 := ha.st.le
  refine at_list (list_call (pExpr m) 62 _ enters_row p v T (i + 1) n w0 (fun g wx => AppI 32 w2 p w.heap.size gp w2.heap.size [] [] g wx) (fun l a b h hg => h.grown hg (by omega) (by omega) (by omega)) (fun wx ix dx lx hix hlx hax hIx => row_step m w2 p w.heap.size gp w2.heap.size v T n (i + 1) w0 (by omega) (by omega) (by omega) (by omega) (by omega) (by omega) wx ix dx lx hix hlx hax hIx) w2 (i + 1) d (Nat.le_refl _) ha ⟨hP2, ⟨_, hX, OwnL.nil _ _⟩, Nat.le_refl _, Fr.refl _ _ _ _⟩ m (by omega)) HR (fun lr j3 d3 w3 HR hl ha3 hij3 => ?_) (fun j c w' hr hg => ⟨rfl, (show LPost _ _ _ _ _ _ _ _ _ _ _ by rw [hr.out]; exact ⟨rfl, hg⟩)⟩)
  obtain ⟨hP3, ⟨vr, hX3, hO3⟩, hb3, hfr3⟩ := hl
  replace hga := grown_fr haw.out ha3 (by omega) (fun b hb hne => (hfr3 b (by omega) (by omega) hne).trans (hga.block b hb (fun e => hne (by injection e))))
  have HRow := Lib.hid (hO3.done goodE)
  clear hX hP2 q0 hfr3 hO3 ha
  have q0 := hP3.cell 0 rfl
  go_wp2_with fail
  refine at_need ha3 _ [41] rfl HR (fun w4 HR ha4 hg4 => ?_) (fun j c w' hr hg => ⟨rfl, (show LPost _ _ _ _ _ _ _ _ _ _ _ by rw [hr.out]; exact ⟨rfl, hg⟩)⟩)
  replace hga := grown_trans hga hg4
  have hX4 := hX3.grown hg4 hXp
  replace HRow := Lib.hid (HRow.out.kept goodE fun b hb hl => hg4.block b hl (fun e => by injection e with e; omega))
  have h34 := hg4.size
  clear hg4 hX3 hP3 q0
  have hI4 := hIw.out.grown goodRow hga hgsp hgpp hgtp hpb
  obtain ⟨hP4, hT4, ⟨vs, hS4, hO4⟩, hb4, hf4⟩ := hI4
  have hSw := hIw.out.st
  obtain ⟨vs0, hSw0, hOw0⟩ := hSw
  obtain rfl : vs0 = vs := by
    have h1 := (hSw0.grown hga hgsp).cell 28 (mid_at hpre _)
    have h2 := hS4.cell 28 (mid_at hpre _)
    rw [h1] at h2
    injection h2
  obtain ⟨A8, c8', rfl⟩ := hO4.form
  have HO4 := Lib.hid hO4
  have HF4 := Lib.hid hf4
  have HO0 : Hid (∀ g, (Value.slice A8 l.length c8').ownBlock = some g → base ≤ g ∧ g < w.heap.size) := Lib.hid (fun g e => hOw0.blk g e)
  obtain ⟨Ar, cr, rfl⟩ := HRow.out.form
  have HR4 : Hid (RowRep w4 (fun q => base ≤ q ∧ (Value.slice A8 l.length c8').ownBlock ≠ some q) lr [.slice Ar lr.length cr]) := Lib.hid ⟨_, HRow.out.mono goodE fun q hq _ => ⟨by omega, fun e => by have := (HO0.out q e).2; omega⟩, rfl⟩
  clear hO4 hOw0 hSw0 hf4
  have r28 := hS4.cell 28 (mid_at hpre _)
  have t0 := hT4.cell 0 rfl
  have g0 := hX4.cell 0 rfl
  have lS := hS4.lt
  have lT := hT4.lt
  go_upto_region 4 with (fail)
  go_region_law (refine step_push goodRow (by rfl) (.tmp 14) (.tmp 16) 41 (by rfl) base 32 i0' _ 24 Tryz.underlying41 hi0' hz0 hz1 hz2 (by rfl) (by omega) (by omega) (.slice A8 l.length c8') l (by rfl) ((HO4.out.below goodRow (belowD w4 1)).below goodRow (below1 (w4.drewN 1) _)) w4.heap.size 1 [.slice Ar lr.length cr] lr (by rfl) (Blk.new (w4.drewN 1) _ _) (goodRow.below (goodRow.below HR4.out (belowD w4 1)) (below1 (w4.drewN 1) _)) (by omega) (by simp; omega) ?_; intro gg cap w9 hO9 hg9; have hS9 := ((hS4.drewN 1).alloc _).push hg9 (fun e => by have := (HO0.out _ e).1; omega); have hT9 := ((hT4.drewN 1).alloc _).push hg9 (fun e => by have := (HO0.out _ e).1; omega); have y91 := hS9.cell 28 (mid_at hpre _); have z91 := hS9.free 28; have t09 := hT9.cell 0 rfl)
  all_goals
    have hfin := list_push goodRow (k := 28) (post := post) hpre (ha4.drewN 1) (hP4.drewN 1) (hT4.drewN 1) (hS4.drewN 1) hb4 (HF4.out.below (belowD w4 1) hb4) hgs hne hne' hbs hbp hbt (fun g e => (HO0.out g e).1) _ hg9 hO9
    have HFin := Lib.hid hfin
    clear hfin
    go_end0
    rw [← HR.out]
    exact ⟨rfl, HFin.out.1, by omega, HFin.out.2⟩
end Go.Proofs.YtpmncgbpbcgfaaaGreatDoor
