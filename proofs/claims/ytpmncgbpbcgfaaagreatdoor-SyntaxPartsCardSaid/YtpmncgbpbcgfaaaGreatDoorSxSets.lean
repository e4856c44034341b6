/-
  The sets of an update: the closure.
-/
import Derived.Test.YtpmncgbpbcgfaaaGreatDoorSxY
namespace Go.Proofs.YtpmncgbpbcgfaaaGreatDoor
open Go.RowKit
set_option linter.unusedVariables false
set_option linter.unusedSimpArgs false

theorem info_set : (Tryz.prog.info? 88).map (fun i => (i.zero, i.size, i.bytes)) = some (some (.agg #[.string ⟨#[]⟩, .int .i64 0, .int .i64 0, .int .i64 0, .int .i64 0, .string ⟨#[]⟩, .string ⟨#[]⟩, .slice none 0 0]), 8, 104) := by kernel_rfl
theorem enters_sets : ∀ args w, (callFunc 63 args).run Tryz.prog w = .ok (.enter 63 args) w := enters_of Tryz.func63 (by kernel_rfl) rfl
set_option maxHeartbeats 8000000 in
set_option maxRecDepth 100000 in
theorem sets_step (m : Nat) (wb : World) (p gs gp gt base : Nat) (pre post : List Value) (hpre : pre.length = 29) (v : Value) (T : List Tok) (n i0 : Nat) (w0 : World) (hgs : w0.heap.size ≤ gs) (hgp : w0.heap.size ≤ gp) (hgt : w0.heap.size ≤ gt) (hne : gs ≠ gp) (hne' : gs ≠ gt) (hbs : gs < base) (hbp : gp < base) (hbt : gt < base) (hm : 3 * (T.length - i0) + 3 ≤ m)
    (w : World) (i : Nat) (d : Bool) (l : List (List UInt8 × E)) (hi : i0 ≤ i) (hlen : l.length ≤ i) (ha : At w0 w p v T i n d) (hI : ListI 8 88 SetRep wb p gs gp gt base pre post l w) :
    Calls Tryz.prog 63 #[.pointer (some ⟨gp, 0, none⟩), .pointer (some ⟨gt, 0, none⟩)] w (LPost w0 p v T i n (ListI 8 88 SetRep wb p gs gp gt base pre post l) (pSet m (cores T) i d) fun a w' => ListI 8 88 SetRep wb p gs gp gt base pre post (l ++ [a]) w') := by
  obtain ⟨r, hr⟩ : ∃ r, pSet m (cores T) i d = r := ⟨_, rfl⟩
  rw [hr]
  unfold pSet at hr
  have HR := Lib.hid hr
  have hlT := ha.st.tk.len
  have hleT := ha.st.le
  have hpp := ha.st.ps.lt
  have hle0 := ha.le
  have hIw := Lib.hid hI
  have hbase := hI.le
  clear hr
  obtain ⟨i0', hi0', hz0, hz1, hz2⟩ := info_parts info_set
  have hgsp : gs ≠ p := by have := ha.hp; omega
  have hgpp : gp ≠ p := by have := ha.hp; omega
  have hgtp : gt ≠ p := by have := ha.hp; omega
  have hpb : p < base := by have := ha.hp; omega
  have q0 := hI.box.cell 0 rfl
  clear hI
  go_enter Tryz.func63, Tryz.ntmps63
  go_wp2_with fail
  refine at_call (name_call p v T _ n _ w ha.st) ha HR (fun s j1 d1 val w1 HR hv ha hij1 hg1 => ?_) (fun j c w' hr hg => ⟨rfl, (show LPost _ _ _ _ _ _ _ _ _ _ _ by rw [hr.out]; exact ⟨rfl, hg⟩)⟩)
  obtain ⟨rfl, hsl⟩ := hv
  have hga := hg1
  have hP1 := hIw.out.box.grown hga hgpp
  have h01 := hg1.size
  clear q0 hg1 hsl
  have q0 := hP1.cell 0 rfl
  have lp := hP1.lt
  unfold strV
  go_wp2_with fail
  refine name_alloc (K := fun W => Calls _ _ _ W _) fun w2 hX hw2 hz2' => ?_
  replace hga := grown_below hga hw2
  have hXp : w1.heap.size ≠ p := by have := ha.st.ps.lt; omega
  replace ha := ha.below hw2
  have h12 : w1.heap.size + 1 ≤ w2.heap.size := by omega
  clear hw2 hz2' q0 hP1 lp
  refine at_need ha _ [61] rfl HR (fun w3 HR ha hg3 => ?_) (fun j c w' hr hg => ⟨rfl, (show LPost _ _ _ _ _ _ _ _ _ _ _ by rw [hr.out]; exact ⟨rfl, hg⟩)⟩)
  replace hga := grown_trans hga hg3
  replace hX := hX.grown hg3 hXp
  have h23 := hg3.size
  have hP3 := hIw.out.box.grown hga hgpp
  clear hg3
  have q0 := hP3.cell 0 rfl
  go_wp2_with fail
  have hle3 := ha.st.le
  refine at_call (expr_call m p v T n w3 _ _ ha.st (by omega)) ha HR (fun e j4 d4 val w4 HR hv ha hij4 hg4 => ?_) (fun j c w' hr hg => ⟨rfl, (show LPost _ _ _ _ _ _ _ _ _ _ _ by rw [hr.out]; exact ⟨rfl, hg⟩)⟩)
  obtain ⟨es, rfl, hre⟩ := hv
  obtain ⟨e0, e1, e2, e3, e4, e5, E', e6, e7, rfl⟩ := erep_lit hre
  have HE := Lib.hid hre
  replace hga := grown_trans hga hg4
  replace hX := hX.grown hg4 hXp
  have h34 := hg4.size
  clear hre hg4 q0 hP3
  go_wp2_with (refine store_part rfl 34 (.tmp 10) (.tmp 9) rfl w1.heap.size 1 [.int .i64 e0, .int .i64 e1, .int .i64 e2, .int .i64 e3, .string e4, .string e5, .slice E' e6 e7] rfl rfl 88 [.string ⟨s.toArray⟩] zeroE7 [] hX rfl rfl (by kernel_rfl) (goodE.one HE.out) ?_)
  intro w5 hX5 hg5 hz5
  replace hga := grown_new hga hg5 (by omega)
  have ha5 := ha.own hg5 (by omega)
  replace HE := Lib.hid (goodE.kept HE.out fun q hq hl => hg5.block q hl (fun h => by injection h with h; have := hq.1; omega))
  have h45 : w4.heap.size ≤ w5.heap.size := by omega
  clear hg5 hz5 hX ha
  have hI5 := hIw.out.grown goodSet hga hgsp hgpp hgtp hpb
  obtain ⟨hP5, hT5, ⟨vs, hS5, hO5⟩, hb5, hf5⟩ := hI5
  have hSw := hIw.out.st
  obtain ⟨vs0, hSw0, hOw0⟩ := hSw
  obtain rfl : vs0 = vs := by
    have h1 := (hSw0.grown hga hgsp).cell 29 (mid_at hpre _)
    have h2 := hS5.cell 29 (mid_at hpre _)
    rw [h1] at h2
    injection h2
  obtain ⟨A8, c8', rfl⟩ := hO5.form
  have HO5 := Lib.hid hO5
  have HF5 := Lib.hid hf5
  have HO0 : Hid (∀ g, (Value.slice A8 l.length c8').ownBlock = some g → base ≤ g ∧ g < w.heap.size) := Lib.hid (fun g e => hOw0.blk g e)
  have HR5 : Hid (SetRep w5 (fun q => base ≤ q ∧ (Value.slice A8 l.length c8').ownBlock ≠ some q) (s, e) [.string ⟨s.toArray⟩, .int .i64 e0, .int .i64 e1, .int .i64 e2, .int .i64 e3, .string e4, .string e5, .slice E' e6 e7]) := Lib.hid ⟨_, goodE.mono HE.out fun q hq _ => ⟨by have := hq.1; omega, fun h => by have := (HO0.out q h).2; have := hq.1; omega⟩, rfl⟩
  clear hO5 hOw0 hSw0 hf5 HE
  have r29 := hS5.cell 29 (mid_at hpre _)
  have t0 := hT5.cell 0 rfl
  have g0 := hX5.cell 0 rfl
  have g1 := hX5.cell 1 rfl
  have g2 := hX5.cell 2 rfl
  have g3 := hX5.cell 3 rfl
  have g4 := hX5.cell 4 rfl
  have g5 := hX5.cell 5 rfl
  have g6 := hX5.cell 6 rfl
  have g7 := hX5.cell 7 rfl
  have lS := hS5.lt
  have lT := hT5.lt
  go_upto_region 3 with (fail)
  go_region_law (refine step_push goodSet (by rfl) (.tmp 15) (.tmp 17) 42 (by rfl) base 88 i0' _ 104 Tryz.underlying42 hi0' hz0 hz1 hz2 (by rfl) (by omega) (by omega) (.slice A8 l.length c8') l (by rfl) ((HO5.out.below goodSet (belowD w5 1)).below goodSet (below1 (w5.drewN 1) _)) w5.heap.size 1 [.string ⟨s.toArray⟩, .int .i64 e0, .int .i64 e1, .int .i64 e2, .int .i64 e3, .string e4, .string e5, .slice E' e6 e7] (s, e) (by rfl) (Blk.new (w5.drewN 1) _ _) (goodSet.below (goodSet.below HR5.out (belowD w5 1)) (below1 (w5.drewN 1) _)) (by omega) (by simp; omega) ?_; intro gg cap w9 hO9 hg9; have hS9 := ((hS5.drewN 1).alloc _).push hg9 (fun e => by have := (HO0.out _ e).1; omega); have hT9 := ((hT5.drewN 1).alloc _).push hg9 (fun e => by have := (HO0.out _ e).1; omega); have y91 := hS9.cell 29 (mid_at hpre _); have z91 := hS9.free 29; have t09 := hT9.cell 0 rfl)
  all_goals
    have hfin := list_push goodSet (k := 29) (post := post) hpre (ha5.drewN 1) (hP5.drewN 1) (hT5.drewN 1) (hS5.drewN 1) hb5 (HF5.out.below (belowD w5 1) hb5) hgs hne hne' hbs hbp hbt (fun g e => (HO0.out g e).1) _ hg9 hO9
    have HFin := Lib.hid hfin
    clear hfin
    go_end0
    rw [← HR.out]
    exact ⟨rfl, HFin.out.1, by omega, HFin.out.2⟩
end Go.Proofs.YtpmncgbpbcgfaaaGreatDoor
