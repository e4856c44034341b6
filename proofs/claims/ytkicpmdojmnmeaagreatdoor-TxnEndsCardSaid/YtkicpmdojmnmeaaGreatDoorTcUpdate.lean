/-
  Update in a transaction that has ended: refused; the old memory stays as it was.
-/
import Derived.Test.YtkicpmdojmnmeaaGreatDoorTcAcc
import Derived.Laws.OwnMore
namespace Go.Proofs.YtkicpmdojmnmeaaGreatDoor
open Go.RowKit Go.Proofs.YtkicpmdojmnmeaaGreatDoor.Ps
set_option linter.unusedVariables false
set_option linter.unusedSimpArgs false
/-- the cells that an append of one zero expression has laid -/
theorem row_new {w : World} {base : Nat} {e : TypeId} {n g cap : Nat} {xs zs : List Value} (h : w.ownsRow base e 7 (.slice (some ⟨g, 0, none⟩) (n + 1) cap) (n + 1) (xs ++ zs)) (hx : xs.length = n * 7) (j : Nat) {u : Value} (hu : zs[j]? = some u) (hj : j < 7) : w.cell? ⟨g, n * 7 + j, none⟩ = some u := by
  rw [World.ownsRow.cellAt h (n * 7 + j) (by omega), List.getElem?_append_right (by omega), hx, Nat.add_sub_cancel_left]
  exact hu
structure AccG (w1 : World) (n g : Nat) (te ts : TypeId) (gg k cap : Nat) (v : Value) (wr : World) : Prop where
  blk : Blk wr g [v] ts
  own : ∃ xs, wr.ownsRow n te 7 (.slice (some ⟨gg, 0, none⟩) k cap) k xs
  but : But n g w1 wr
  lo : n ≤ gg
  hi : g < n
section
variable {w1 wr : World} {n g gg k cap : Nat} {te ts : TypeId} {v : Value}
theorem AccG.elem (h : AccG w1 n g te ts gg k cap v wr) (j : Nat) (u : Value) : AccG w1 n g te ts gg k cap v (wr.setCell ⟨gg, j, none⟩ u) := by
  obtain ⟨xs, ho⟩ := h.own
  obtain ⟨k1, k2⟩ := World.ownsRow.stored ho j u
  exact ⟨h.blk.grown k2 (by have := h.lo; have := h.hi; omega), ⟨_, k1⟩, h.but.grown k2 (fun q e => .inl (by injection e with e; have := h.lo; omega)), h.lo, h.hi⟩
theorem AccG.var (h : AccG w1 n g te ts gg k cap v wr) (u : Value) : AccG w1 n g te ts gg k cap u (wr.setCell ⟨g, 0, none⟩ u) := by
  obtain ⟨xs, ho⟩ := h.own
  exact ⟨h.blk.set 0 u, ⟨_, ho.kept (only_setCell (World.grownBy.refl wr _) 0 _) (.inr (fun e => by have := own_base0 ho e; have := h.hi; omega))⟩, h.but.set 0 u, h.lo, h.hi⟩
theorem AccG.done (h : AccG w1 n g te ts gg k cap (.slice (some ⟨gg, 0, none⟩) k cap) wr) : AccF w1 n g (fun v => [v]) te ts 7 k wr := ⟨⟨_, _, h.blk, h.own⟩, h.but⟩
end
set_option maxHeartbeats 60000000 in
set_option maxRecDepth 100000 in
theorem update_call {t : Value} {s : ByteArray} {cs : List Value} {c : C} {a1 : Option Addr} {n1 m1 : Nat} {xs : List C} {p1 p2 : Int} {w : World} (ht : TxE t w) (h : Rp Tryz.prog w 27 cs c) (hs : Sm c) (hx : Rp Tryz.prog w 25 [.slice a1 n1 m1] (.s xs)) (hsx : Sm (.s xs)) :
    Calls Tryz.prog 17 #[t, .string s, .agg cs.toArray, .slice a1 n1 m1, .agg #[.int .i64 p1, .int .i64 p2]] w fun e w' => e = .returned (.tuple #[.int .i64 0, .int .i64 20]) ∧ Below w.heap.size w w' := by
  obtain ⟨op, i, kd, vi, sv, nm, a, n, m, xs0, rfl, hr, ys0, hc0, hmem⟩ := rp_expr h
  obtain ⟨i0', hi0', hz0, hz1, hz2⟩ := info_parts infoE
  have hn := expr_bound hx
  have HP := Lib.hid h
  have HS := Lib.hid hs
  have HT := Lib.hid ht
  have HR := Lib.hid hx
  clear h hs hr hc0 hmem ht hx hsx
  go_enter Tryz.func17, Tryz.ntmps17
  go_wp2_with fail
  refine name_alloc3 (K := fun W => Calls _ _ _ W _) fun w1 hA hZ hX hw1 hsz1 => ?_
  refine (cloneE_call _ c (Nat.le_refl _) _ w1 (HP.out.kept hw1 (Nat.le_refl _)) HS.out).mono ?_
  rintro e' w4 ⟨⟨v, rfl, op4, i4, kd4, vi4, s4, nm4, A4, n4, m4, rfl⟩, hw4⟩
  have HA := Lib.hid ((hA.below hw4).alloc (.cells #[.int .i64 0, .int .i64 0, .int .i64 0, .int .i64 0, .string ⟨#[]⟩, .string ⟨#[]⟩, .slice none 0 0] 27))
  have HW := Lib.hid ((hw1.trans (hw4.mono (by omega))).alloc (show w.heap.size ≤ w4.heap.size by have := hw4.size; omega) (.cells #[.int .i64 0, .int .i64 0, .int .i64 0, .int .i64 0, .string ⟨#[]⟩, .string ⟨#[]⟩, .slice none 0 0] 27))
  have hz4 := hw4.size
  clear hw4 hA hZ hX hw1
  go_wp2_with (refine store_blk rfl 27 (.tmp 12) (.tmp 19) rfl w4.heap.size [.int .i64 op4, .int .i64 i4, .int .i64 kd4, .int .i64 vi4, .string s4, .string nm4, .slice A4 n4 m4] rfl rfl 27 _ (Blk.new w4 _ _) (by kernel_rfl) rfl ?one ?_)
  case one => intro u hu; exact one7 hu
  intro w6 hB6 hg6 hz6
  have HA6 := Lib.hid (HA.out.grown hg6 (by omega))
  have HW6 := Lib.hid (HW.out.grown hg6 (by simp; omega) (fun q e => by injection e with e; omega))
  clear hg6 HW HA hB6
  go_wp2_with fail
  refine name_alloc (K := Code.wp _ _ _ _) fun wc hG hwc hsc => ?_
  have HAc := Lib.hid (HA6.out.below hwc)
  have HWc := Lib.hid (HW6.out.trans (hwc.mono (by have := HW6.out.size; omega)))
  clear hwc HA6 HW6
  have hz6' : w6.heap.size = w4.heap.size + 1 := by first | omega | simpa using hz6
  rw [hz6'] at hG hsc
  obtain ⟨g, hgd⟩ : ∃ g, g = w4.heap.size + 1 := ⟨_, rfl⟩
  rw [← hgd] at hG hsc ⊢
  have hwg : w.heap.size + 1 ≤ g := by omega
  clear hgd hz6 hz6'
  go_loopw [22] (fun c wr => ∃ k, k ≤ n1 ∧ c = .int .i64 (k : Int) ∧ AccF wc wc.heap.size g (fun v => [v]) 27 25 7 k wr) (fun c _ => n1 - (intOf c).toNat)
  case atStart => exact ⟨0, Nat.zero_le _, rfl, ⟨⟨none, 0, hG, [], by simp, .inl ⟨rfl, rfl⟩⟩, But.refl⟩⟩
  case round =>
    obtain ⟨k, hk, rfl, ⟨A3, cap3, hB, os, hown⟩, hbut⟩ := hrel
    have HO := Lib.hid hown
    have HU := Lib.hid hbut
    have HBl := Lib.hid hB
    have HW := Lib.hid (hbut.old HWc.out (by omega) (by omega) (by omega))
    have hzr := hbut.size
    by_cases hlt : k < n1
    · obtain ⟨b, o, us, eq, hbl, hul, hcell, hkx, hrx⟩ := elem_at Tryz.underlying25 cells_expr (by omega) HR.out hlt
      subst eq
      have HX := Lib.hid hrx
      have SX : Hid (Sm xs[k]) := Lib.hid trivial
      obtain ⟨p0, p1, p2, p3, p4, p5, A, p6, p7, ys, rfl, _, _, _, _⟩ := rp_expr hrx
      have rr : ∀ j (u : Value), ([.int .i64 p0, .int .i64 p1, .int .i64 p2, .int .i64 p3, .string p4, .string p5, .slice A p6 p7] : List Value)[j]? = some u → wr.cell? ⟨b, o + k * 7 + j, none⟩ = some u := fun j u hu => by
        rw [HW.out.cell (by show b < _; omega)]
        exact hcell j u hu
      have r0 := rr 0 _ rfl
      have r1 := rr 1 _ rfl
      have r2 := rr 2 _ rfl
      have r3 := rr 3 _ rfl
      have r4 := rr 4 _ rfl
      have r5 := rr 5 _ rfl
      have r6 := rr 6 _ rfl
      simp only [Nat.add_zero] at r0
      have d1 : decide ((k : Int) < (n1 : Int)) = true := decide_eq_true (by omega)
      have hBr0 := hB
      clear rr hbut hown hcell hul hrx hB hG
      go_upto_region 1 with (fail)
      refine name_alloc (K := Code.wp _ _ _ _) fun w7 hV hw7 hz7 => ?_
      have v0 := hV.cell 0 rfl
      have v1 := hV.cell 1 rfl
      have v2 := hV.cell 2 rfl
      have v3 := hV.cell 3 rfl
      have v4 := hV.cell 4 rfl
      have v5 := hV.cell 5 rfl
      have v6 := hV.cell 6 rfl
      have hvl := hV.lt
      have g7 := (hBr0.below hw7).cell 0 rfl
      have hgl7 := (hBr0.below hw7).lt
      have HW7 := Lib.hid (HW.out.trans (hw7.mono (by have := HW.out.size; omega)))
      have HO7 := Lib.hid (kept_below HO.out hw7)
      have HU7 := Lib.hid (HU.out.below hw7 hzr)
      have HBl7 := Lib.hid (HBl.out.below hw7)
      have hz7' : wc.heap.size ≤ w7.heap.size := by omega
      have hzw := HW7.out.size
      have hgc : g < wc.heap.size := by omega
      clear r0 r1 r2 r3 r4 r5 r6 hV hw7 hz7 hBr0 hsc
      have c9 : (k : Int) < (k : Int) + 1 := by omega
      go_region_law (first | (go_simp; go_at_call 56; refine (cloneE_call _ xs[k] (Nat.le_refl _) _ _ (HX.out.kept (n := w.heap.size) (by first | exact HW7.out.trans ((belowD w7 1).mono (by omega)) | exact HW7.out.trans ((bDA w7 _).mono (by omega))) (Nat.le_refl _)) SX.out).mono ?_; rintro e' w8 ⟨⟨v8, rfl, op9, i9, kd9, vi9, s9, nm9, A9, n9, m9, rfl⟩, hw8⟩; have HW8 : Hid (Below w7.heap.size w7 w8) := Lib.hid (by first | exact step0 hw8 | exact step1 hw8); (try have HN8 : Hid (Blk w8 w7.heap.size [.int .i64 0, .int .i64 0, .int .i64 0, .int .i64 0, .string ⟨#[]⟩, .string ⟨#[]⟩, .slice none 0 0] 27) := Lib.hid (new1 hw8)); have HU8 := Lib.hid (HU7.out.below HW8.out (by omega)); have HO8 := Lib.hid (kept_below HO7.out HW8.out); have HBl8 := Lib.hid (HBl7.out.below HW8.out); have y80 := HBl8.out.cell 0 rfl; have hz8 : w7.heap.size ≤ w8.heap.size := HW8.out.size; have l8 : g < w8.heap.size := (by omega); clear hw8 HW8) | (first | (refine step_append_lies _ (by rfl) (.tmp 26) (.tmp 30) 25 (by rfl) wc.heap.size 27 i0' _ 7 88 Tryz.underlying25 hi0' hz0 hz1 hz2 (by rfl) (by omega) (.slice A3 k cap3) k os (by rfl) (kept_below HO8.out (below1 w8 _)) ⟨w8.heap.size, 0, none⟩ 1 1 [.int .i64 0, .int .i64 0, .int .i64 0, .int .i64 0, .string ⟨#[]⟩, .string ⟨#[]⟩, .slice none 0 0] (by rfl) (by rfl) (World.news_of_block (Blk.new w8 _ _)) (by intro u hu; exact one7 hu) (by omega) (by unfold maxLen; omega) (by omega) (by (try simp); omega) _ (by rfl) ?_; intro gg cap w9 hO9 hg9 hor9 hlt9; have HG9 : Hid (AccG wc wc.heap.size g 27 25 gg (k + 1) cap (.slice A3 k cap3) w9) := Lib.hid ⟨(HBl8.out.alloc (.cells #[.int .i64 0, .int .i64 0, .int .i64 0, .int .i64 0, .string ⟨#[]⟩, .string ⟨#[]⟩, .slice none 0 0] 27)).push hg9 (fun e => by have := own_base0 HO8.out e; omega), ⟨_, hO9⟩, (HU8.out.below (below1 w8 _) (by omega)).grown hg9 (fun q hq => .inl (own_base0 HO8.out hq)), own_base0 hO9 rfl, hgc⟩; have hxl := HO8.out.1; have y90 := row_new hO9 hxl 0 rfl (by omega); have y91 := row_new hO9 hxl 1 rfl (by omega); have y92 := row_new hO9 hxl 2 rfl (by omega); have y93 := row_new hO9 hxl 3 rfl (by omega); have y94 := row_new hO9 hxl 4 rfl (by omega); have y95 := row_new hO9 hxl 5 rfl (by omega); have y96 := row_new hO9 hxl 6 rfl (by omega); have f90 := World.ownsRow.frozenAt hO9 (k * 7); have f91 := World.ownsRow.frozenAt hO9 (k * 7 + 1); have f92 := World.ownsRow.frozenAt hO9 (k * 7 + 2); have f93 := World.ownsRow.frozenAt hO9 (k * 7 + 3); have f94 := World.ownsRow.frozenAt hO9 (k * 7 + 4); have f95 := World.ownsRow.frozenAt hO9 (k * 7 + 5); have f96 := World.ownsRow.frozenAt hO9 (k * 7 + 6); simp only [Nat.add_zero] at y90; have z90 := HG9.out.blk.cell 0 rfl; have z91 := HG9.out.blk.free 0; have hgg : gg ≠ g := (by have := HG9.out.lo; omega); clear hO9 hg9 hor9 hxl) | (refine step_append_lies _ (by rfl) (.tmp 26) (.tmp 30) 25 (by rfl) wc.heap.size 27 i0' _ 7 88 Tryz.underlying25 hi0' hz0 hz1 hz2 (by rfl) (by omega) (.slice A3 k cap3) k os (by rfl) HO8.out ⟨w7.heap.size, 0, none⟩ 1 1 [.int .i64 0, .int .i64 0, .int .i64 0, .int .i64 0, .string ⟨#[]⟩, .string ⟨#[]⟩, .slice none 0 0] (by rfl) (by rfl) (World.news_of_block HN8.out) (by intro u hu; exact one7 hu) (by omega) (by unfold maxLen; omega) (by omega) (by (try simp); omega) _ (by rfl) ?_; intro gg cap w9 hO9 hg9 hor9 hlt9; have HG9 : Hid (AccG wc wc.heap.size g 27 25 gg (k + 1) cap (.slice A3 k cap3) w9) := Lib.hid ⟨HBl8.out.push hg9 (fun e => by have := own_base0 HO8.out e; omega), ⟨_, hO9⟩, HU8.out.grown hg9 (fun q hq => .inl (own_base0 HO8.out hq)), own_base0 hO9 rfl, hgc⟩; have hxl := HO8.out.1; have y90 := row_new hO9 hxl 0 rfl (by omega); have y91 := row_new hO9 hxl 1 rfl (by omega); have y92 := row_new hO9 hxl 2 rfl (by omega); have y93 := row_new hO9 hxl 3 rfl (by omega); have y94 := row_new hO9 hxl 4 rfl (by omega); have y95 := row_new hO9 hxl 5 rfl (by omega); have y96 := row_new hO9 hxl 6 rfl (by omega); have f90 := World.ownsRow.frozenAt hO9 (k * 7); have f91 := World.ownsRow.frozenAt hO9 (k * 7 + 1); have f92 := World.ownsRow.frozenAt hO9 (k * 7 + 2); have f93 := World.ownsRow.frozenAt hO9 (k * 7 + 3); have f94 := World.ownsRow.frozenAt hO9 (k * 7 + 4); have f95 := World.ownsRow.frozenAt hO9 (k * 7 + 5); have f96 := World.ownsRow.frozenAt hO9 (k * 7 + 6); simp only [Nat.add_zero] at y90; have z90 := HG9.out.blk.cell 0 rfl; have z91 := HG9.out.blk.free 0; have hgg : gg ≠ g := (by have := HG9.out.lo; omega); clear hO9 hg9 hor9 hxl)))
      all_goals
        have HFA := Lib.hid (((((((((HG9.out.elem (k * 7) (.int .i64 op9)).elem (k * 7 + 1) (.int .i64 i9)).elem (k * 7 + 2) (.int .i64 kd9)).elem (k * 7 + 3) (.int .i64 vi9)).elem (k * 7 + 4) (.string s9)).elem (k * 7 + 5) (.string nm9)).elem (k * 7 + 6) (.slice A9 n9 m9)).var (.slice (some ⟨gg, 0, none⟩) (k + 1) cap)).done)
        have HFB := Lib.hid (((((((((HG9.out.var (.slice (some ⟨gg, 0, none⟩) (k + 1) cap)).elem (k * 7) (.int .i64 op9)).elem (k * 7 + 1) (.int .i64 i9)).elem (k * 7 + 2) (.int .i64 kd9)).elem (k * 7 + 3) (.int .i64 vi9)).elem (k * 7 + 4) (.string s9)).elem (k * 7 + 5) (.string nm9)).elem (k * 7 + 6) (.slice A9 n9 m9)).done)
        clear y90 y91 y92 y93 y94 y95 y96 f90 f91 f92 f93 f94 f95 f96 z90 z91
        go_wp2_with fail
        go_roundw
        case rel => first | (with_reducible refine ⟨k + 1, ?_, ?_, HFA.out⟩; omega; go_num) | (with_reducible refine ⟨k + 1, ?_, ?_, HFB.out⟩; omega; go_num)
        case measure => simp [intOf]; omega
    · obtain rfl : k = n1 := by omega
      have d1 : decide ((k : Int) < (k : Int)) = false := decide_eq_false (by omega)
      have hAr := (HU.out.blk HAc.out (by omega) (by omega)).cell 0 rfl
      have HTr := Lib.hid (HT.out.kept HW.out)
      clear hbut hown hB
      go_wp2_with fail
      refine (perform_call HTr.out).mono ?_
      rintro e' w4 ⟨rfl, rfl⟩
      go_wp2_with fail
      go_ret2
      exact ⟨rfl, HW.out⟩
end Go.Proofs.YtkicpmdojmnmeaaGreatDoor
