/-
  expr.mapped with Shift's closure, and expr.Shift: some expression; the old memory stays as it was.
-/
import Derived.Test.YtkicpmdojmnmeaaGreatDoorTcShift1
namespace Go.Proofs.YtkicpmdojmnmeaaGreatDoor
open Go.RowKit Go.Proofs.YtkicpmdojmnmeaaGreatDoor.Ps
set_option linter.unusedVariables false
set_option linter.unusedSimpArgs false
set_option maxHeartbeats 4000000 in
set_option maxRecDepth 100000 in
theorem mapped_call : ∀ (N : Nat) (c : C), SizeOf.sizeOf c ≤ N → ∀ (cs : List Value) (p : Nat) (z : Int) (w : World), w.cell? ⟨p, 0, none⟩ = some (.int .i64 z) → p < w.heap.size → Rp Tryz.prog w 27 cs c → Sm c →
    Calls Tryz.prog 270 #[.agg cs.toArray, .func (.func 271) #[] #[.pointer (some ⟨p, 0, none⟩)]] w fun e w' => (∃ v, e = .returned v ∧ IsE v) ∧ Below w.heap.size w w'
  | 0, c, hc => by cases c <;> simp at hc
  | N + 1, c, hc => by
    intro cs p z w hp hpl h hs
    obtain ⟨op, i, kd, vi, s, nm, a, n, m, xs, rfl, hr, ys0, hc0, hmem⟩ := rp_expr h
    have hsz := sub_size hc0 hmem
    have HI := Lib.hid (mapped_call N)
    have HR := Lib.hid hr
    have HN := Lib.hid (show SizeOf.sizeOf (C.s xs) ≤ N by omega)
    obtain ⟨i0', hi0', hz0, hz1, hz2⟩ := info_parts infoE
    have hn : n * 88 ≤ 140737488351232 ∧ ∀ x ∈ xs, Sm x := ⟨expr_bound hr, fun _ _ => trivial⟩
    have HS := Lib.hid hn.2
    have hn := hn.1
    clear h hr hsz hc hs hc0 hmem
    go_enter Tryz.func270, Tryz.ntmps270
    go_wp2_with fail
    refine name_alloc2 (K := Code.wp _ _ _ _) fun w1 hB hX hw1 hsz1 => ?_
    go_loopw [5, 11] (fun v c wr => ∃ k, CeAt w1 w.heap.size n k v c wr) (fun _ c _ => n - (intOf c).toNat)
    case atStart => exact ⟨0, ⟨Nat.zero_le _, rfl, ⟨[], none, 0, rfl, by simp, .inl ⟨rfl, rfl⟩⟩, Below.refl _ _⟩⟩
    case round =>
      obtain ⟨k, ⟨hk, rfl, hown, hb⟩⟩ := hrel
      obtain ⟨os, A3, cap3, rfl, hown⟩ := hown
      have HO := Lib.hid hown
      have HB := Lib.hid hb
      have HBw := Lib.hid (hw1.trans (hb.mono (by omega)))
      have hzr := hb.size
      by_cases hlt : k < n
      · obtain ⟨b, o, us, eq, hbl, hul, hcell, hkx, hrx⟩ := elem_at Tryz.underlying25 cells_expr (by omega) HR.out hlt
        subst eq
        have HX := Lib.hid hrx
        obtain ⟨p0, p1, p2, p3, p4, p5, A, p6, p7, ys, rfl, _, _, _, _⟩ := rp_expr hrx
        have rr : ∀ j (u : Value), ([.int .i64 p0, .int .i64 p1, .int .i64 p2, .int .i64 p3, .string p4, .string p5, .slice A p6 p7] : List Value)[j]? = some u → wr.cell? ⟨b, o + k * 7 + j, none⟩ = some u := fun j u hu => by
          rw [hb.cell (by show b < _; omega), hw1.cell (by show b < _; omega)]
          exact hcell j u hu
        have r0 := rr 0 _ rfl
        have r1 := rr 1 _ rfl
        have r2 := rr 2 _ rfl
        have r3 := rr 3 _ rfl
        have r4 := rr 4 _ rfl
        have r5 := rr 5 _ rfl
        have r6 := rr 6 _ rfl
        simp only [Nat.add_zero] at r0
        have c2 : (k : Int) < (n : Int) := by omega
        have c3 : (0 : Int) ≤ (k : Int) := by omega
        have d1 : decide ((k : Int) < (n : Int)) = true := decide_eq_true c2
        clear rr hb hown hcell hul hrx
        go_wp2_with fail
        refine (HI.out xs[k] ?hsz _ p z _ ?hpc ?hpl2 (HX.out.kept (HBw.out.alloc (by omega) _) (Nat.le_refl _)) (HS.out _ (List.getElem_mem _))).mono ?_
        case hpc => rw [((below1 wr _).mono (Nat.le_refl _)).cell (by show p < wr.heap.size; omega), HBw.out.cell hpl]; exact hp
        case hpl2 => simp; omega
        case hsz =>
          have h1 := List.sizeOf_lt_of_mem (List.getElem_mem hkx)
          have h2 := HN.out
          simp only [C.s.sizeOf_spec] at h2
          omega
        rintro e' w4 ⟨⟨v, rfl, op4, i4, kd4, vi4, s4, nm4, A4, n4, m4, rfl⟩, hw4⟩
        have HO4 := Lib.hid (kept_below HO.out ((below1 wr _).trans (hw4.mono (by simp))))
        have HB4 := Lib.hid (HB.out.trans (((below1 wr _).trans (hw4.mono (by simp))).mono (by omega)))
        have hz4 := hw4.size
        simp only [World.size_alloc] at hz4
        clear hw4 HO HB r0 r1 r2 r3 r4 r5 r6
        go_wp2_with (at_builtin; refine wpList_append_lies _ rfl (.tmp 15) (.tmp 19) 25 rfl (w.heap.size + 2) 27 i0' _ 7 88 Tryz.underlying25 hi0' hz0 hz1 hz2 rfl (by decide) (.slice A3 k cap3) k os rfl (kept_below HO4.out (below1 w4 _)) ⟨w4.heap.size, 0, none⟩ 1 1 [.int .i64 op4, .int .i64 i4, .int .i64 kd4, .int .i64 vi4, .string s4, .string nm4, .slice A4 n4 m4] rfl (by rfl) ?q1 ?q2 (by omega) ?q3 ?q4 ?q5 _ rfl ?_)
        case q1 => exact World.news_of_block (Blk.new w4 _ _)
        case q2 => intro u hu; exact one7 hu
        case q3 => unfold maxLen; omega
        case q4 => omega
        case q5 => simp; omega
        intro g cap w7 hown7 hg7 hor7 hlt7
        have HO7 := Lib.hid hown7
        have HB7 := Lib.hid ((HB4.out.trans ((below1 w4 _).mono (by omega))).grown hg7 (by simp; omega) (fun q hq => own_base0 HO4.out hq))
        clear hown7 hg7 hor7 HO4 HB4
        go_wp2_with fail
        go_roundw
        case rel => exact ⟨k + 1, ⟨by omega, by go_num, ⟨_, _, _, rfl, HO7.out⟩, HB7.out⟩⟩
        case measure => simp [intOf]; omega
      · obtain rfl : k = n := by omega
        have d1 : decide ((k : Int) < (k : Int)) = false := decide_eq_false (by omega)
        have hBr : Blk wr w.heap.size [.int .i64 op, .int .i64 i, .int .i64 kd, .int .i64 vi, .string s, .string nm, .slice a k m] 27 := (hb.block _ (by omega)).trans hB
        have hXr : Blk wr (w.heap.size + 1) [.int .i64 0, .int .i64 0, .int .i64 0, .int .i64 0, .string ⟨#[]⟩, .string ⟨#[]⟩, .slice none 0 0] 27 := (hb.block _ (by omega)).trans hX
        have f6 := hBr.free 6
        have e6 := hBr.cell 6 rfl
        have hBs := hBr.set 6 (.slice A3 k cap3)
        have hXs : Blk (wr.setCell ⟨w.heap.size, 6, none⟩ (.slice A3 k cap3)) (w.heap.size + 1) _ _ := hXr.grown (only_setCell (World.grownBy.refl _ _) 6 _) (by omega)
        have s0 := hBs.cell 0 rfl
        have s1 := hBs.cell 1 rfl
        have s2 := hBs.cell 2 rfl
        have s3 := hBs.cell 3 rfl
        have s4 := hBs.cell 4 rfl
        have s5 := hBs.cell 5 rfl
        have s6 := hBs.cell 6 rfl
        have HXs := Lib.hid hXs
        have HZ := Lib.hid (show Below w.heap.size w (wr.setCell ⟨w.heap.size, 6, none⟩ (.slice A3 k cap3)) from HBw.out.setCell (by show w.heap.size ≤ w.heap.size; omega) _)
        clear hb hown hBr hXr hBs hXs hB hX
        by_cases h2 : op = 2
        · subst h2
          go_wp2_with fail
          refine (shift1_call _ _ _ _ _ _ _ _ _ p z _ ?hpc ?hpl2).mono ?_
          case hpc => rw [HZ.out.cell hpl]; exact hp
          case hpl2 => simp [World.setCell]; omega
          rintro e' w8 ⟨⟨v, rfl, op4, i4, kd4, vi4, s4, nm4, A4, n4, m4, rfl⟩, hw8⟩
          have hX8 := HXs.out.below hw8
          have hz8 := hw8.size
          have HZ8 := Lib.hid (HZ.out.trans (hw8.mono (by simp [World.setCell]; omega)))
          simp [World.setCell] at hz8
          clear hw8 HXs HZ
          go_wp2_with (refine store_blk rfl 27 (.tmp 4) (.tmp 29) rfl (w.heap.size + 1) [.int .i64 op4, .int .i64 i4, .int .i64 kd4, .int .i64 vi4, .string s4, .string nm4, .slice A4 n4 m4] rfl rfl 27 _ hX8 (by kernel_rfl) rfl ?one ?_)
          case one => intro u hu; exact one7 hu
          intro w6 hB6 hg6 hz6
          go_wp2_with fail
          refine bodyPost_ret (results_cell_row Tryz.results270 _ _ (w.heap.size + 1) _ _ _ _ rfl hB6 Tryz.underlying27 rfl (by kernel_rfl)) rfl ?_
          exact ⟨⟨_, rfl, _, _, _, _, _, _, _, _, _, rfl⟩, HZ8.out.grown hg6 (by omega) (fun q e => by injection e with e; omega)⟩
        · have d2 : decide (op = 2) = false := decide_eq_false h2
          go_wp2_with (refine store_blk rfl 27 (.tmp 4) (.tmp 30) rfl (w.heap.size + 1) [.int .i64 op, .int .i64 i, .int .i64 kd, .int .i64 vi, .string s, .string nm, .slice A3 k cap3] rfl rfl 27 _ HXs.out (by kernel_rfl) rfl ?one ?_)
          case one => intro u hu; exact one7 hu
          intro w6 hB6 hg6 hz6
          go_wp2_with fail
          refine bodyPost_ret (results_cell_row Tryz.results270 _ _ (w.heap.size + 1) _ _ _ _ rfl hB6 Tryz.underlying27 rfl (by kernel_rfl)) rfl ?_
          exact ⟨⟨_, rfl, _, _, _, _, _, _, _, _, _, rfl⟩, HZ.out.grown hg6 (by simp [World.setCell]; omega) (fun q e => by injection e with e; omega)⟩
end Go.Proofs.YtkicpmdojmnmeaaGreatDoor
