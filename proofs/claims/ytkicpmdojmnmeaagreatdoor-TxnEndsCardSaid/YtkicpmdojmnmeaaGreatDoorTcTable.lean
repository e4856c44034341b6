/-
  schema.Clone: some table; the old memory stays as it was.
-/
import Derived.Test.YtkicpmdojmnmeaaGreatDoorTcAcc
import Derived.Test.YtkicpmdojmnmeaaGreatDoorTcCloneC
import Derived.Test.YtkicpmdojmnmeaaGreatDoorTcCloneI
import Derived.Test.YtkicpmdojmnmeaaGreatDoorTcShift
namespace Go.Proofs.YtkicpmdojmnmeaaGreatDoor
open Go.RowKit Go.Proofs.YtkicpmdojmnmeaaGreatDoor.Ps
set_option linter.unusedVariables false
set_option linter.unusedSimpArgs false
theorem cells_table : Tryz.prog.cellsOf 34 = 5 := by kernel_rfl
theorem cells_foreign : Tryz.prog.cellsOf 168 = 2 := by kernel_rfl
theorem cells_cols : Tryz.prog.cellsOf 30 = 1 := by kernel_rfl
theorem cells_ints : Tryz.prog.cellsOf 31 = 1 := by kernel_rfl
theorem cells_foreigns : Tryz.prog.cellsOf 32 = 1 := by kernel_rfl
theorem infoF : (Tryz.prog.info? 168).map (fun i => (i.zero, i.size, i.bytes)) = some (some (.agg #[.slice none 0 0, .string ByteArray.empty]), 2, 40) := by kernel_rfl
/-- a table's cells, whatever they are -/
def IsT (e : Value) : Prop := ∃ nm a1 n1 m1 a2 n2 m2 a3 n3 m3 a4 n4 m4, e = .agg #[.string nm, .slice a1 n1 m1, .slice a2 n2 m2, .slice a3 n3 m3, .slice a4 n4 m4]
theorem len5 {α : Type} : ∀ {l : List α}, l.length = 5 → ∃ a b c d e, l = [a, b, c, d, e]
  | [a, b, c, d, e], _ => ⟨a, b, c, d, e, rfl⟩
theorem len2 {α : Type} : ∀ {l : List α}, l.length = 2 → ∃ a b, l = [a, b]
  | [a, b], _ => ⟨a, b, rfl⟩
theorem rp_table {w : World} {cs : List Value} {c : C} (h : Rp Tryz.prog w 34 cs c) : ∃ nm a1 n1 m1 a2 n2 m2 a3 n3 m3 a4 n4 m4 x1 x2 x3 x4, cs = [.string nm, .slice a1 n1 m1, .slice a2 n2 m2, .slice a3 n3 m3, .slice a4 n4 m4] ∧ Rp Tryz.prog w 30 [.slice a1 n1 m1] (.s x1) ∧ Rp Tryz.prog w 31 [.slice a2 n2 m2] (.s x2) ∧ Rp Tryz.prog w 32 [.slice a3 n3 m3] (.s x3) ∧ Rp Tryz.prog w 25 [.slice a4 n4 m4] (.s x4) ∧
    x1.length = n1 ∧ x2.length = n2 ∧ x3.length = n3 ∧ x4.length = n4 ∧ ∃ ys, c = .a ys ∧ C.s x1 ∈ ys ∧ C.s x2 ∈ ys ∧ C.s x3 ∈ ys ∧ C.s x4 ∈ ys := by
  obtain ⟨ys, rfl, hn, hl, hx⟩ := h.struct_inv Tryz.underlying34
  obtain ⟨a0, a1, a2, a3, a4, rfl⟩ := len5 (hn.trans cells_table)
  have h0 := hx 0 (by decide) (by rw [hl]; decide)
  have h1 := hx 1 (by decide) (by rw [hl]; decide)
  have h2 := hx 2 (by decide) (by rw [hl]; decide)
  have h3 := hx 3 (by decide) (by rw [hl]; decide)
  have h4 := hx 4 (by decide) (by rw [hl]; decide)
  simp [cells_cols, cells_str, cells_ints, cells_foreigns, cells_exprs] at h0 h1 h2 h3 h4
  obtain ⟨s, e0, _⟩ := h0.string_inv Tryz.underlying9
  obtain ⟨b1, n1, m1, x1, e1, f1, l1, _⟩ := h1.slice_inv Tryz.underlying30
  obtain ⟨b2, n2, m2, x2, e2, f2, l2, _⟩ := h2.slice_inv Tryz.underlying31
  obtain ⟨b3, n3, m3, x3, e3, f3, l3, _⟩ := h3.slice_inv Tryz.underlying32
  obtain ⟨b4, n4, m4, x4, e4, f4, l4, _⟩ := h4.slice_inv Tryz.underlying25
  cases e0
  cases e1
  cases e2
  cases e3
  cases e4
  rw [f1] at h1
  rw [f2] at h2
  rw [f3] at h3
  rw [f4] at h4
  refine ⟨_, _, _, _, _, _, _, _, _, _, _, _, _, x1, x2, x3, x4, rfl, h1, h2, h3, h4, l1, l2, l3, l4, ys, rfl, ?_, ?_, ?_, ?_⟩
  · rw [← f1]; exact List.getElem_mem _
  · rw [← f2]; exact List.getElem_mem _
  · rw [← f3]; exact List.getElem_mem _
  · rw [← f4]; exact List.getElem_mem _
theorem rp_foreign {w : World} {cs : List Value} {c : C} (h : Rp Tryz.prog w 168 cs c) : ∃ nm a1 n1 m1 x1, cs = [.slice a1 n1 m1, .string nm] ∧ Rp Tryz.prog w 31 [.slice a1 n1 m1] (.s x1) ∧ x1.length = n1 ∧ ∃ ys, c = .a ys ∧ C.s x1 ∈ ys := by
  obtain ⟨ys, rfl, hn, hl, hx⟩ := h.struct_inv Tryz.underlying168
  obtain ⟨a0, a1, rfl⟩ := len2 (hn.trans cells_foreign)
  have h0 := hx 0 (by decide) (by rw [hl]; decide)
  have h1 := hx 1 (by decide) (by rw [hl]; decide)
  simp [cells_str, cells_ints] at h0 h1
  obtain ⟨s, e1, _⟩ := h1.string_inv Tryz.underlying9
  obtain ⟨b1, n1, m1, x1, e0, f1, l1, _⟩ := h0.slice_inv Tryz.underlying31
  cases e0
  cases e1
  rw [f1] at h0
  refine ⟨_, _, _, _, x1, rfl, h0, l1, ys, rfl, ?_⟩
  rw [← f1]; exact List.getElem_mem _
/-- behind the first region -/
structure TaA (w wx : World) (nm : ByteArray) (g : Nat) : Prop where
  blk : ∃ a1 n1 m1 a2 n2 m2, Blk wx g [.string nm, .slice a1 n1 m1, .slice a2 n2 m2, .slice none 0 0, .slice none 0 0] 34
  lo : w.heap.size ≤ g
  bel : Below w.heap.size w wx
/-- the new block's cells are written -/
theorem TaA.set {w w6 : World} {nm : ByteArray} {g : Nat} {cs : List Value} {a1 : Option Addr} {n1 m1 : Nat} {a2 : Option Addr} {n2 m2 : Nat} (h : Blk w6 g cs 34) (hl : cs.length = 5) (hg : w.heap.size ≤ g) (hb : Below w.heap.size w w6) :
    TaA w (((((w6.setCell ⟨g, 0, none⟩ (.string nm)).setCell ⟨g, 1, none⟩ (.slice a1 n1 m1)).setCell ⟨g, 2, none⟩ (.slice a2 n2 m2)).setCell ⟨g, 3, none⟩ (.slice none 0 0)).setCell ⟨g, 4, none⟩ (.slice none 0 0)) nm g := by
  obtain ⟨c0, c1, c2, c3, c4, rfl⟩ := len5 hl
  exact ⟨⟨_, _, _, _, _, _, ((((h.set 0 _).set 1 _).set 2 _).set 3 _).set 4 _⟩, hg, ((((hb.setCell (by exact hg) _).setCell (by exact hg) _).setCell (by exact hg) _).setCell (by exact hg) _).setCell (by exact hg) _⟩
theorem TaA.new {w w6 : World} {nm : ByteArray} {a1 : Option Addr} {n1 m1 : Nat} {a2 : Option Addr} {n2 m2 : Nat} (hb : Below w.heap.size w w6) :
    TaA w (w6.alloc (.cells #[.string nm, .slice a1 n1 m1, .slice a2 n2 m2, .slice none 0 0, .slice none 0 0] 34)) nm w6.heap.size :=
  ⟨⟨_, _, _, _, _, _, Blk.new w6 _ _⟩, hb.size, hb.alloc hb.size _⟩
set_option maxHeartbeats 60000000 in
set_option maxRecDepth 100000 in
theorem table_call {cs : List Value} {c : C} {w : World} (h : Rp Tryz.prog w 34 cs c) (hs : Sm c) :
    Calls Tryz.prog 66 #[.agg cs.toArray] w fun e w' => (∃ v, e = .returned v ∧ IsT v) ∧ Below w.heap.size w w' := by
  obtain ⟨nm, a1, n1, m1, a2, n2, m2, a3, n3, m3, a4, n4, m4, x1, x2, x3, x4, rfl, h1, h2, h3, h4, l1, l2, l3, l4, ys, hc, c1, c2, c3, c4⟩ := rp_table h
  have H1 := Lib.hid h1
  have H2 := Lib.hid h2
  have H3 := Lib.hid h3
  have H4 := Lib.hid h4
  have S3 : Hid (n3 * 40 ≤ 140737488351232) := Lib.hid (by
    have h1 := h3.bound Tryz.underlying32
    rw [show Tryz.prog.bytesOf 168 = 40 by kernel_rfl] at h1
    exact h1)
  have S4 := Lib.hid (expr_bound h4)
  clear h1 h2 h3 h4 h c1 c2 c3 c4 hs hc l1 l2
  obtain ⟨i0', hi0', hz0, hz1, hz2⟩ := info_parts infoE
  obtain ⟨i1', hi1', hy0, hy1, hy2⟩ := info_parts infoF
  go_enter Tryz.func66, Tryz.ntmps66
  go_upto_region 1 with (fail)
  refine name_alloc2 (K := Code.wp _ _ _ _) fun w1 hB hX hw1 hsz1 => ?_
  have e0 := hB.cell 0 rfl
  have e1 := hB.cell 1 rfl
  have e2 := hB.cell 2 rfl
  have HX := Lib.hid hX
  have HSZ := Lib.hid hsz1
  have hws := hw1.size
  have hlt1 := hB.lt
  clear hsz1
  have HBx := Lib.hid hB
  clear hX
  go_cut [3] (fun v wx => ∃ g, v = .pointer (some ⟨g, 0, none⟩) ∧ TaA w1 wx nm g)
  case first =>
    go_region_law (first | (go_simp; go_at_call 165; refine (cloneC_call (H1.out.kept (n := w.heap.size) (by first | exact hw1.trans ((belowD w1 1).mono (by omega)) | exact hw1.trans ((bDA w1 _).mono (by omega))) (Nat.le_refl _))).mono ?_; rintro e' w5 ⟨v5, rfl, ⟨a5, n5, m5, rfl⟩, hw5⟩; have HB5 : Hid (Below w1.heap.size w1 w5) := Lib.hid (by first | exact step0 hw5 | exact step1 hw5); (try have HZ5 : Hid (Blk w5 w1.heap.size [.string ⟨#[]⟩, .slice none 0 0, .slice none 0 0, .slice none 0 0, .slice none 0 0] 34) := Lib.hid (new1 hw5)); have y50 := (hB.below HB5.out).cell 0 rfl; have y51 := (hB.below HB5.out).cell 1 rfl; have y52 := (hB.below HB5.out).cell 2 rfl; have z50 := (hB.below HB5.out).lt; have hz5 := HB5.out.size; clear hw5) | (go_simp; go_at_call 166; refine (cloneI_call (H2.out.kept (n := w.heap.size) (by first | exact hw1.trans (HB5.out.mono (by omega)) | exact (hw1.trans (HB5.out.mono (by omega))).trans ((below1 w5 _).mono (by omega))) (Nat.le_refl _))).mono ?_; rintro e' w6 ⟨v6, rfl, ⟨a6, n6, m6, rfl⟩, hw6⟩; have HB6 : Hid (Below w1.heap.size w1 w6) := Lib.hid (HB5.out.trans (by first | exact hw6.mono (by omega) | exact (step2 hw6).mono (by omega))); (first | have HZ6 : Hid (Blk w6 w1.heap.size [.string ⟨#[]⟩, .slice none 0 0, .slice none 0 0, .slice none 0 0, .slice none 0 0] 34) := Lib.hid (HZ5.out.below hw6) | have HZ6 : Hid (Blk w6 w5.heap.size [.string ⟨#[]⟩, .slice none 0 0, .slice none 0 0, .slice none 0 0, .slice none 0 0] 34) := Lib.hid (new2 hw6) | skip); have y60 := (hB.below HB6.out).cell 0 rfl; have y61 := (hB.below HB6.out).cell 1 rfl; have y62 := (hB.below HB6.out).cell 2 rfl; have z60 := (hB.below HB6.out).lt; (try have z1 := HZ6.out.cell 0 rfl; have z2 := HZ6.out.cell 1 rfl; have z3 := HZ6.out.cell 2 rfl; have z4 := HZ6.out.cell 3 rfl; have z5 := HZ6.out.cell 4 rfl; have f1 := HZ6.out.free 0; have f2 := HZ6.out.free 1; have f3 := HZ6.out.free 2; have f4 := HZ6.out.free 3; have f5 := HZ6.out.free 4); clear hw6))
    all_goals
      go_wp2_with fail
      go_meet
      first | exact ⟨_, rfl, TaA.set HZ6.out rfl (by omega) HB6.out⟩ | exact ⟨_, rfl, TaA.new HB6.out⟩
  case rest =>
    obtain ⟨g, rfl, ⟨b1, k1, q1, b2, k2, q2, hT⟩, hlo, hbel⟩ := hcut
    have hn3 := S3.out
    have hn4 := S4.out
    have r3 := (hB.below hbel).cell 3 rfl
    have HBx := Lib.hid (hB.below hbel)
    have HW := Lib.hid (hw1.trans (hbel.mono (by omega)))
    have HX := Lib.hid (HX.out.below hbel)
    have hg1 := hT.lt
    have hlo2 : w.heap.size + 1 + 1 ≤ g := by have := HSZ.out; omega
    have hT := Lib.hid hT
    clear hbel e0 e1 e2 hB
    go_wp2_with fail
    go_loopw [20] (fun v wr => ∃ k, k ≤ n3 ∧ v = .int .i64 (k : Int) ∧ AccF wc wc.heap.size g (fun v => [.string nm, .slice b1 k1 q1, .slice b2 k2 q2, v, .slice none 0 0]) 168 34 2 k wr) (fun c _ => n3 - (intOf c).toNat)
    case atStart => exact ⟨0, Nat.zero_le _, rfl, ⟨⟨none, 0, hT.out, [], by simp, .inl ⟨rfl, rfl⟩⟩, But.refl⟩⟩
    case round =>
      obtain ⟨k, hk, rfl, ⟨A3, cap3, hBr, os, hown⟩, hbut⟩ := hrel
      have HO := Lib.hid hown
      have HU := Lib.hid hbut
      have HBl := Lib.hid hBr
      have HWr := Lib.hid (hbut.old HW.out (by have := HW.out.size; omega) (by omega) (by have := HW.out.size; omega))
      have hzr := hbut.size
      have HBr := Lib.hid hBr
      by_cases hlt : k < n3
      · obtain ⟨b, o, us, eq, hbl, hul, hcell, hkx, hrx⟩ := elem_at Tryz.underlying32 cells_foreign (by omega) H3.out hlt
        subst eq
        obtain ⟨fn, a8, n8, m8, x8, rfl, hr8, hl8, ys8, hc8, hm8⟩ := rp_foreign hrx
        have HX8 := Lib.hid hr8
        have r0 : wr.cell? ⟨b, o + k * 2, none⟩ = some (.slice a8 n8 m8) := by
          rw [HWr.out.cell (by show b < _; omega)]
          exact hcell 0 _ rfl
        have r1 : wr.cell? ⟨b, o + k * 2 + 1, none⟩ = some (.string fn) := by
          rw [HWr.out.cell (by show b < _; omega)]
          exact hcell 1 _ rfl
        have d1 : decide ((k : Int) < (n3 : Int)) = true := decide_eq_true (by omega)
        have g3 := hBr.cell 3 rfl
        have hgl := hBr.lt
        have hBr0 := hBr
        clear hbut hown hcell hul hrx hBr hr8 hc8 hm8 hl8
        go_upto_region 1 with (fail)
        refine name_alloc (K := Code.wp _ _ _ _) fun w7 hV hw7 hz7 => ?_
        have v0 := hV.cell 0 rfl
        have v1 := hV.cell 1 rfl
        have hvl := hV.lt
        have g7 := (hBr0 : Blk wr g _ _).below hw7 |>.cell 3 rfl
        have hgl7 := ((hBr0 : Blk wr g _ _).below hw7).lt
        have HW7 := Lib.hid (HWr.out.trans (hw7.mono (by have := HWr.out.size; omega)))
        have HO7 := Lib.hid (kept_below HO.out hw7)
        have HU7 := Lib.hid (HU.out.below hw7 hzr)
        have HBl7 := Lib.hid (HBl.out.below hw7)
        have HV7 := Lib.hid hV
        have hz7' : wc.heap.size ≤ w7.heap.size := by omega
        have hzw := HW7.out.size
        clear r0 r1 hV hw7 hz7 g3 hBr0
        go_region_law (first | (go_simp; go_at_call 166; refine (cloneI_call (HX8.out.kept (n := w.heap.size) (by exact HW7.out.trans ((belowD w7 1).mono (by omega))) (Nat.le_refl _))).mono ?_; rintro e' w8 ⟨v8, rfl, ⟨a9, n9, m9, rfl⟩, hw8⟩; have HU8 := Lib.hid ((HU7.out.below (belowD w7 1) (by omega)).below hw8 (by show _ ≤ w7.heap.size; omega)); have HO8 := Lib.hid (kept_below HO7.out ((belowD w7 1).trans hw8)); have HBl8 := Lib.hid ((HBl7.out.below (belowD w7 1)).below hw8); have y80 := HBl8.out.cell 3 rfl; have hz8 : w7.heap.size ≤ w8.heap.size := hw8.size; have l8 : g < w8.heap.size := (by omega); have HV8 := ((HV7.out.below (belowD w7 1)).below hw8); have y81 := HV8.cell 0 rfl; have y82 := HV8.cell 1 rfl; have l82 := HV8.lt; clear hw8 HV8) | (refine step_append_lies _ (by rfl) (.tmp 25) (.tmp 32) 32 (by rfl) wc.heap.size 168 i1' _ 2 40 Tryz.underlying32 hi1' hy0 hy1 hy2 (by rfl) (by omega) (.slice A3 k cap3) k os (by rfl) (kept_below HO8.out (below1 w8 _)) ⟨w8.heap.size, 0, none⟩ 1 1 [.slice a9 n9 m9, .string fn] (by rfl) (by rfl) (World.news_of_block (Blk.new w8 _ _)) (by simp [Value.oneCell']) (by omega) (by unfold maxLen; omega) (by omega) (by simp; omega) _ (by rfl) ?_; intro gg cap w9 hO9 hg9 hor9 hlt9; have HU9 := Lib.hid (((HU8.out.below (below1 w8 _) (by omega)).grown hg9 (fun q hq => .inl (own_base0 HO8.out hq)))); have hS9 := (HBl8.out.alloc (.cells #[.slice a9 n9 m9, .string fn] 168)).push hg9 (fun e => by have := own_base0 HO8.out e; omega); have y91 := hS9.cell 3 rfl; have z91 := hS9.free 3; have HO9 := Lib.hid hO9; have HS9 := Lib.hid hS9))
        all_goals
          have HFin : Hid (AccF wc wc.heap.size g (fun v => [.string nm, .slice b1 k1 q1, .slice b2 k2 q2, v, .slice none 0 0]) 168 34 2 (k + 1) (w9.setCell ⟨g, 3, none⟩ (.slice (some ⟨gg, 0, none⟩) (k + 1) cap))) := Lib.hid ⟨⟨_, _, HS9.out.set 3 _, _, HO9.out.kept (only_setCell (World.grownBy.refl w9 _) 3 _) (.inr (fun e => by have := own_base0 HO9.out e; omega))⟩, HU9.out.set 3 _⟩
          clear HS9 HO9 HU9 hO9 hg9 hS9 y91 z91
          go_wp2_with fail
          go_roundw
          case rel => exact ⟨k + 1, by omega, by go_num, HFin.out⟩
          case measure => simp [intOf]; omega
      · obtain rfl : k = n3 := by omega
        have d1 : decide ((k : Int) < (k : Int)) = false := decide_eq_false (by omega)
        have r4 := (HU.out.blk HBx.out HBx.out.lt (by omega)).cell 4 rfl
        have hgr := hBr.lt
        have HXq := Lib.hid (HU.out.blk HX.out HX.out.lt (by omega))
        have hwr := HWr.out.size
        clear hbut hown hBr HO HU HBl HW HX hT r3
        go_wp2_with fail
        obtain ⟨wq, hwq⟩ : ∃ x, x = wr := ⟨_, rfl⟩
        subst hwq
        go_loopw [39] (fun v wl => ∃ i, i ≤ n4 ∧ v = .int .i64 (i : Int) ∧ AccF wq wq.heap.size g (fun v => [.string nm, .slice b1 k1 q1, .slice b2 k2 q2, .slice A3 k cap3, v]) 27 34 7 i wl) (fun c _ => n4 - (intOf c).toNat)
        case atStart => exact ⟨0, Nat.zero_le _, rfl, ⟨⟨none, 0, HBr.out, [], by simp, .inl ⟨rfl, rfl⟩⟩, But.refl⟩⟩
        case round =>
          obtain ⟨i, hi, rfl, ⟨A5, cap5, hBl, ol, hown⟩, hbut⟩ := hrel
          have HO := Lib.hid hown
          have HU := Lib.hid hbut
          have HBl := Lib.hid hBl
          have HWl := Lib.hid (hbut.old HWr.out (by omega) (by omega) (by omega))
          have hzl := hbut.size
          by_cases hlt : i < n4
          · obtain ⟨b, o, us, eq, hbl, hul, hcell, hkx, hrx⟩ := elem_at Tryz.underlying25 cells_expr (by omega) H4.out hlt
            subst eq
            have HX := Lib.hid hrx
            have SX : Hid (Sm x4[i]) := Lib.hid trivial
            obtain ⟨p0, p1, p2, p3, p4, p5, A, p6, p7, ys, rfl, _, _, _, _⟩ := rp_expr hrx
            have rr : ∀ j (u : Value), ([.int .i64 p0, .int .i64 p1, .int .i64 p2, .int .i64 p3, .string p4, .string p5, .slice A p6 p7] : List Value)[j]? = some u → wr.cell? ⟨b, o + i * 7 + j, none⟩ = some u := fun j u hu => by
              rw [HWl.out.cell (by show b < _; omega)]
              exact hcell j u hu
            have t0 := rr 0 _ rfl
            have t1 := rr 1 _ rfl
            have t2 := rr 2 _ rfl
            have t3 := rr 3 _ rfl
            have t4 := rr 4 _ rfl
            have t5 := rr 5 _ rfl
            have t6 := rr 6 _ rfl
            simp only [Nat.add_zero] at t0
            have d1 : decide ((i : Int) < (n4 : Int)) = true := decide_eq_true (by omega)
            have hBr0 := hBl
            clear rr hbut hown hcell hul hrx hBl
            go_upto_region 1 with (fail)
            refine name_alloc (K := Code.wp _ _ _ _) fun w7 hV hw7 hz7 => ?_
            have v0 := hV.cell 0 rfl
            have v1 := hV.cell 1 rfl
            have v2 := hV.cell 2 rfl
            have v3 := hV.cell 3 rfl
            have v4 := hV.cell 4 rfl
            have v5 := hV.cell 5 rfl
            have v6 := hV.cell 6 rfl
            have hvl := hV.lt
            have g7 := (hBr0.below hw7).cell 4 rfl
            have hgl7 := (hBr0.below hw7).lt
            have HW7 := Lib.hid (HWl.out.trans (hw7.mono (by have := HWl.out.size; omega)))
            have HO7 := Lib.hid (kept_below HO.out hw7)
            have HU7 := Lib.hid (HU.out.below hw7 hzl)
            have HBl7 := Lib.hid (HBl.out.below hw7)
            have HV7 := Lib.hid hV
            have hz7' : wq.heap.size ≤ w7.heap.size := by omega
            have hzw := HW7.out.size
            clear t0 t1 t2 t3 t4 t5 t6 hV hw7 hz7 hBr0
            go_region_law (first | (go_simp; go_at_call 167; refine (shift_call 0 (HX.out.kept (n := w.heap.size) (by exact HW7.out.trans ((belowD w7 1).mono (by omega))) (Nat.le_refl _)) SX.out).mono ?_; rintro e' w8 ⟨⟨v8, rfl, op9, i9, kd9, vi9, s9, nm9, A9, n9, m9, rfl⟩, hw8⟩; have HU8 := Lib.hid ((HU7.out.below (belowD w7 1) (by omega)).below hw8 (by show _ ≤ w7.heap.size; omega)); have HO8 := Lib.hid (kept_below HO7.out ((belowD w7 1).trans hw8)); have HBl8 := Lib.hid ((HBl7.out.below (belowD w7 1)).below hw8); have y80 := HBl8.out.cell 4 rfl; have hz8 : w7.heap.size ≤ w8.heap.size := hw8.size; have l8 : g < w8.heap.size := (by omega); clear hw8) | (refine step_append_lies _ (by rfl) (.tmp 44) (.tmp 47) 25 (by rfl) wq.heap.size 27 i0' _ 7 88 Tryz.underlying25 hi0' hz0 hz1 hz2 (by rfl) (by omega) (.slice A5 i cap5) i ol (by rfl) (kept_below HO8.out (below1 w8 _)) ⟨w8.heap.size, 0, none⟩ 1 1 [.int .i64 op9, .int .i64 i9, .int .i64 kd9, .int .i64 vi9, .string s9, .string nm9, .slice A9 n9 m9] (by rfl) (by rfl) (World.news_of_block (Blk.new w8 _ _)) (fun u hu => one7 hu) (by omega) (by unfold maxLen; omega) (by omega) (by simp; omega) _ (by rfl) ?_; intro gg cap w9 hO9 hg9 hor9 hlt9; have HU9 := Lib.hid (((HU8.out.below (below1 w8 _) (by omega)).grown hg9 (fun q hq => .inl (own_base0 HO8.out hq)))); have hS9 := (HBl8.out.alloc (.cells #[.int .i64 op9, .int .i64 i9, .int .i64 kd9, .int .i64 vi9, .string s9, .string nm9, .slice A9 n9 m9] 27)).push hg9 (fun e => by have := own_base0 HO8.out e; omega); have y91 := hS9.cell 4 rfl; have z91 := hS9.free 4; have HO9 := Lib.hid hO9; have HS9 := Lib.hid hS9))
            all_goals
              have HFin : Hid (AccF wq wq.heap.size g (fun v => [.string nm, .slice b1 k1 q1, .slice b2 k2 q2, .slice A3 k cap3, v]) 27 34 7 (i + 1) (w9.setCell ⟨g, 4, none⟩ (.slice (some ⟨gg, 0, none⟩) (i + 1) cap))) := Lib.hid ⟨⟨_, _, HS9.out.set 4 _, _, HO9.out.kept (only_setCell (World.grownBy.refl w9 _) 4 _) (.inr (fun e => by have := own_base0 HO9.out e; omega))⟩, HU9.out.set 4 _⟩
              clear HS9 HO9 HU9 hO9 hg9 hS9 y91 z91
              go_wp2_with fail
              go_roundw
              case rel => exact ⟨i + 1, by omega, by go_num, HFin.out⟩
              case measure => simp [intOf]; omega
          · obtain rfl : i = n4 := by omega
            have d2 : decide ((i : Int) < (i : Int)) = false := decide_eq_false (by omega)
            have s0 := hBl.cell 0 rfl
            have s1 := hBl.cell 1 rfl
            have s2 := hBl.cell 2 rfl
            have s3 := hBl.cell 3 rfl
            have s4 := hBl.cell 4 rfl
            have HXr := Lib.hid (HU.out.blk HXq.out HXq.out.lt (by omega))
            clear hbut hown hBl
            go_wp2_with (refine store_blk rfl 34 (.tmp 2) (.tmp 51) rfl (w.heap.size + 1) [.string nm, .slice b1 k1 q1, .slice b2 k2 q2, .slice A3 k cap3, .slice A5 i cap5] rfl rfl 34 _ HXr.out (by kernel_rfl) rfl ?one ?_)
            case one =>
              intro u hu
              simp only [List.mem_cons, List.not_mem_nil, or_false] at hu
              rcases hu with rfl | rfl | rfl | rfl | rfl <;> rfl
            intro w6 hB6 hg6 hz6
            go_wp2_with fail
            refine bodyPost_ret (results_cell_row Tryz.results66 _ _ (w.heap.size + 1) _ _ _ _ rfl hB6 Tryz.underlying34 rfl (by kernel_rfl)) rfl ?_
            exact ⟨⟨_, rfl, _, _, _, _, _, _, _, _, _, _, _, _, _, rfl⟩, HWl.out.grown hg6 (by omega) (fun q e => by injection e with e; omega)⟩
end Go.Proofs.YtkicpmdojmnmeaaGreatDoor
