import Derived.Test.YtlimlmjljjmcpaaGreatDoorPxS
/-
  Values: which are valid; names of relations: the program's and the reference's.
-/
namespace Go.Proofs.YtlimlmjljjmcpaaGreatDoor.Px
open Go Go.RowKit Go.Proofs.YtlimlmjljjmcpaaGreatDoor.Ps
set_option linter.unusedVariables false
set_option linter.unusedSimpArgs false
set_option maxRecDepth 100000 in
set_option maxHeartbeats 4000000 in
theorem null_call (w : World) : Calls Tryz.prog 145 #[] w (Ret w (.agg #[.int .i64 0, .int .i64 0, .string ⟨#[]⟩])) := by
  go_enter Tryz.func145, Tryz.ntmps145
  go_wp2_with fail
  exact bodyPost_ret (results_cell_row Tryz.results145 _ _ w.heap.size _ _ (0, 0) _ rfl (heap_alloc_new w _) Tryz.underlying23 rfl (by kernel_rfl)) rfl ⟨rfl, below1 w _⟩
set_option maxRecDepth 100000 in
set_option maxHeartbeats 4000000 in
theorem true_call (w : World) : Calls Tryz.prog 150 #[.bool true] w (Ret w (.agg #[.int .i64 3, .int .i64 1, .string ⟨#[]⟩])) := by
  go_enter Tryz.func150, Tryz.ntmps150
  go_wp2_with fail
  exact bodyPost_ret (results_cell_row Tryz.results150 _ _ w.heap.size _ _ (0, 0) _ rfl (heap_alloc_new w _) Tryz.underlying23 rfl (by kernel_rfl)) rfl ⟨rfl, below1 w _⟩
set_option maxRecDepth 100000 in
set_option maxHeartbeats 4000000 in
theorem false_call (w : World) : Calls Tryz.prog 150 #[.bool false] w (Ret w (.agg #[.int .i64 3, .int .i64 0, .string ⟨#[]⟩])) := by
  go_enter Tryz.func150, Tryz.ntmps150
  go_wp2_with fail
  exact bodyPost_ret (results_cell_row Tryz.results150 _ _ w.heap.size _ _ (0, 0) _ rfl (heap_alloc_new w _) Tryz.underlying23 rfl (by kernel_rfl)) rfl ⟨rfl, below1 w _⟩
/-! ### relations -/
set_option maxRecDepth 100000 in
set_option maxHeartbeats 4000000 in
theorem relNames_call (w : World) : Calls Tryz.prog 143 #[] w (Ret w (.agg #[.string ⟨(relL 0).toArray⟩, .string ⟨(relL 1).toArray⟩, .string ⟨(relL 2).toArray⟩, .string ⟨(relL 3).toArray⟩, .string ⟨(relL 4).toArray⟩, .string ⟨(relL 5).toArray⟩, .string ⟨(relL 6).toArray⟩, .string ⟨(relL 7).toArray⟩, .string ⟨(relL 8).toArray⟩, .string ⟨(relL 9).toArray⟩, .string ⟨(relL 10).toArray⟩, .string ⟨(relL 11).toArray⟩, .string ⟨(relL 12).toArray⟩])) := by
  go_enter Tryz.func143, Tryz.ntmps143
  go_wp2_with fail
  exact bodyPost_ret (results_cell_row Tryz.results143 _ _ w.heap.size _ _ (0, 0) _ rfl (heap_alloc_new w _) Tryz.underlying163 rfl (by kernel_rfl)) rfl ⟨rfl, below1 w _⟩
set_option maxRecDepth 100000 in
set_option maxHeartbeats 4000000 in
theorem exists_call (n : Int) (w : World) : Calls Tryz.prog 142 #[.int .i64 n] w (Ret w (.bool (decide (0 ≤ n) && decide (n < 13)))) := by
  by_cases h0 : 0 ≤ n <;> by_cases h1 : n < 13
  all_goals
    go_enter Tryz.func142, Tryz.ntmps142
    go_wp2_with fail
    go_ret
    exact ⟨by simp [h0, h1], Below.refl _ _⟩
theorem rel_none {n : Int} (h : ¬ (0 ≤ n ∧ n < 13)) : relL n = [] := by
  unfold relL
  repeat rw [if_neg (by omega)]
theorem thirteen {n : Int} (h : 0 ≤ n ∧ n < 13) : n = 0 ∨ n = 1 ∨ n = 2 ∨ n = 3 ∨ n = 4 ∨ n = 5 ∨ n = 6 ∨ n = 7 ∨ n = 8 ∨ n = 9 ∨ n = 10 ∨ n = 11 ∨ n = 12 := by omega
set_option maxRecDepth 100000 in
set_option maxHeartbeats 4000000 in
theorem rel_call (n : Int) (w : World) : Calls Tryz.prog 65 #[.int .i64 n] w (Ret w (.string ⟨(relL n).toArray⟩)) := by
  have HE := exists_call n w
  by_cases h : 0 ≤ n ∧ n < 13
  · rw [decide_eq_true h.1, decide_eq_true h.2, Bool.true_and] at HE
    have HE := Lib.hid HE
    rcases thirteen h with rfl | rfl | rfl | rfl | rfl | rfl | rfl | rfl | rfl | rfl | rfl | rfl | rfl
    · have hix : ∀ w2, (Instr.index 163 (.agg #[.string ⟨(relL 0).toArray⟩, .string ⟨(relL 1).toArray⟩, .string ⟨(relL 2).toArray⟩, .string ⟨(relL 3).toArray⟩, .string ⟨(relL 4).toArray⟩, .string ⟨(relL 5).toArray⟩, .string ⟨(relL 6).toArray⟩, .string ⟨(relL 7).toArray⟩, .string ⟨(relL 8).toArray⟩, .string ⟨(relL 9).toArray⟩, .string ⟨(relL 10).toArray⟩, .string ⟨(relL 11).toArray⟩, .string ⟨(relL 12).toArray⟩]) (.int .i64 0)).run Tryz.prog w2 = .ok (.string ⟨(relL 0).toArray⟩) w2 := fun w2 => by kernel_rfl
      clear h
      go_enter Tryz.func65, Tryz.ntmps65
      go_wp2_with fail
      refine HE.out.mono ?_
      rintro e w1 ⟨rfl, hb1⟩
      have HB := Lib.hid hb1
      clear hb1
      go_wp2_with fail
      refine (relNames_call w1).mono ?_
      rintro e w2 ⟨rfl, hb2⟩
      have HB2 := Lib.hid (HB.out.trans (hb2.mono HB.out.size))
      clear hb2
      go_wp2_with fail
      go_ret
      exact ⟨rfl, HB2.out⟩
    · have hix : ∀ w2, (Instr.index 163 (.agg #[.string ⟨(relL 0).toArray⟩, .string ⟨(relL 1).toArray⟩, .string ⟨(relL 2).toArray⟩, .string ⟨(relL 3).toArray⟩, .string ⟨(relL 4).toArray⟩, .string ⟨(relL 5).toArray⟩, .string ⟨(relL 6).toArray⟩, .string ⟨(relL 7).toArray⟩, .string ⟨(relL 8).toArray⟩, .string ⟨(relL 9).toArray⟩, .string ⟨(relL 10).toArray⟩, .string ⟨(relL 11).toArray⟩, .string ⟨(relL 12).toArray⟩]) (.int .i64 1)).run Tryz.prog w2 = .ok (.string ⟨(relL 1).toArray⟩) w2 := fun w2 => by kernel_rfl
      clear h
      go_enter Tryz.func65, Tryz.ntmps65
      go_wp2_with fail
      refine HE.out.mono ?_
      rintro e w1 ⟨rfl, hb1⟩
      have HB := Lib.hid hb1
      clear hb1
      go_wp2_with fail
      refine (relNames_call w1).mono ?_
      rintro e w2 ⟨rfl, hb2⟩
      have HB2 := Lib.hid (HB.out.trans (hb2.mono HB.out.size))
      clear hb2
      go_wp2_with fail
      go_ret
      exact ⟨rfl, HB2.out⟩
    · have hix : ∀ w2, (Instr.index 163 (.agg #[.string ⟨(relL 0).toArray⟩, .string ⟨(relL 1).toArray⟩, .string ⟨(relL 2).toArray⟩, .string ⟨(relL 3).toArray⟩, .string ⟨(relL 4).toArray⟩, .string ⟨(relL 5).toArray⟩, .string ⟨(relL 6).toArray⟩, .string ⟨(relL 7).toArray⟩, .string ⟨(relL 8).toArray⟩, .string ⟨(relL 9).toArray⟩, .string ⟨(relL 10).toArray⟩, .string ⟨(relL 11).toArray⟩, .string ⟨(relL 12).toArray⟩]) (.int .i64 2)).run Tryz.prog w2 = .ok (.string ⟨(relL 2).toArray⟩) w2 := fun w2 => by kernel_rfl
      clear h
      go_enter Tryz.func65, Tryz.ntmps65
      go_wp2_with fail
      refine HE.out.mono ?_
      rintro e w1 ⟨rfl, hb1⟩
      have HB := Lib.hid hb1
      clear hb1
      go_wp2_with fail
      refine (relNames_call w1).mono ?_
      rintro e w2 ⟨rfl, hb2⟩
      have HB2 := Lib.hid (HB.out.trans (hb2.mono HB.out.size))
      clear hb2
      go_wp2_with fail
      go_ret
      exact ⟨rfl, HB2.out⟩
    · have hix : ∀ w2, (Instr.index 163 (.agg #[.string ⟨(relL 0).toArray⟩, .string ⟨(relL 1).toArray⟩, .string ⟨(relL 2).toArray⟩, .string ⟨(relL 3).toArray⟩, .string ⟨(relL 4).toArray⟩, .string ⟨(relL 5).toArray⟩, .string ⟨(relL 6).toArray⟩, .string ⟨(relL 7).toArray⟩, .string ⟨(relL 8).toArray⟩, .string ⟨(relL 9).toArray⟩, .string ⟨(relL 10).toArray⟩, .string ⟨(relL 11).toArray⟩, .string ⟨(relL 12).toArray⟩]) (.int .i64 3)).run Tryz.prog w2 = .ok (.string ⟨(relL 3).toArray⟩) w2 := fun w2 => by kernel_rfl
      clear h
      go_enter Tryz.func65, Tryz.ntmps65
      go_wp2_with fail
      refine HE.out.mono ?_
      rintro e w1 ⟨rfl, hb1⟩
      have HB := Lib.hid hb1
      clear hb1
      go_wp2_with fail
      refine (relNames_call w1).mono ?_
      rintro e w2 ⟨rfl, hb2⟩
      have HB2 := Lib.hid (HB.out.trans (hb2.mono HB.out.size))
      clear hb2
      go_wp2_with fail
      go_ret
      exact ⟨rfl, HB2.out⟩
    · have hix : ∀ w2, (Instr.index 163 (.agg #[.string ⟨(relL 0).toArray⟩, .string ⟨(relL 1).toArray⟩, .string ⟨(relL 2).toArray⟩, .string ⟨(relL 3).toArray⟩, .string ⟨(relL 4).toArray⟩, .string ⟨(relL 5).toArray⟩, .string ⟨(relL 6).toArray⟩, .string ⟨(relL 7).toArray⟩, .string ⟨(relL 8).toArray⟩, .string ⟨(relL 9).toArray⟩, .string ⟨(relL 10).toArray⟩, .string ⟨(relL 11).toArray⟩, .string ⟨(relL 12).toArray⟩]) (.int .i64 4)).run Tryz.prog w2 = .ok (.string ⟨(relL 4).toArray⟩) w2 := fun w2 => by kernel_rfl
      clear h
      go_enter Tryz.func65, Tryz.ntmps65
      go_wp2_with fail
      refine HE.out.mono ?_
      rintro e w1 ⟨rfl, hb1⟩
      have HB := Lib.hid hb1
      clear hb1
      go_wp2_with fail
      refine (relNames_call w1).mono ?_
      rintro e w2 ⟨rfl, hb2⟩
      have HB2 := Lib.hid (HB.out.trans (hb2.mono HB.out.size))
      clear hb2
      go_wp2_with fail
      go_ret
      exact ⟨rfl, HB2.out⟩
    · have hix : ∀ w2, (Instr.index 163 (.agg #[.string ⟨(relL 0).toArray⟩, .string ⟨(relL 1).toArray⟩, .string ⟨(relL 2).toArray⟩, .string ⟨(relL 3).toArray⟩, .string ⟨(relL 4).toArray⟩, .string ⟨(relL 5).toArray⟩, .string ⟨(relL 6).toArray⟩, .string ⟨(relL 7).toArray⟩, .string ⟨(relL 8).toArray⟩, .string ⟨(relL 9).toArray⟩, .string ⟨(relL 10).toArray⟩, .string ⟨(relL 11).toArray⟩, .string ⟨(relL 12).toArray⟩]) (.int .i64 5)).run Tryz.prog w2 = .ok (.string ⟨(relL 5).toArray⟩) w2 := fun w2 => by kernel_rfl
      clear h
      go_enter Tryz.func65, Tryz.ntmps65
      go_wp2_with fail
      refine HE.out.mono ?_
      rintro e w1 ⟨rfl, hb1⟩
      have HB := Lib.hid hb1
      clear hb1
      go_wp2_with fail
      refine (relNames_call w1).mono ?_
      rintro e w2 ⟨rfl, hb2⟩
      have HB2 := Lib.hid (HB.out.trans (hb2.mono HB.out.size))
      clear hb2
      go_wp2_with fail
      go_ret
      exact ⟨rfl, HB2.out⟩
    · have hix : ∀ w2, (Instr.index 163 (.agg #[.string ⟨(relL 0).toArray⟩, .string ⟨(relL 1).toArray⟩, .string ⟨(relL 2).toArray⟩, .string ⟨(relL 3).toArray⟩, .string ⟨(relL 4).toArray⟩, .string ⟨(relL 5).toArray⟩, .string ⟨(relL 6).toArray⟩, .string ⟨(relL 7).toArray⟩, .string ⟨(relL 8).toArray⟩, .string ⟨(relL 9).toArray⟩, .string ⟨(relL 10).toArray⟩, .string ⟨(relL 11).toArray⟩, .string ⟨(relL 12).toArray⟩]) (.int .i64 6)).run Tryz.prog w2 = .ok (.string ⟨(relL 6).toArray⟩) w2 := fun w2 => by kernel_rfl
      clear h
      go_enter Tryz.func65, Tryz.ntmps65
      go_wp2_with fail
      refine HE.out.mono ?_
      rintro e w1 ⟨rfl, hb1⟩
      have HB := Lib.hid hb1
      clear hb1
      go_wp2_with fail
      refine (relNames_call w1).mono ?_
      rintro e w2 ⟨rfl, hb2⟩
      have HB2 := Lib.hid (HB.out.trans (hb2.mono HB.out.size))
      clear hb2
      go_wp2_with fail
      go_ret
      exact ⟨rfl, HB2.out⟩
    · have hix : ∀ w2, (Instr.index 163 (.agg #[.string ⟨(relL 0).toArray⟩, .string ⟨(relL 1).toArray⟩, .string ⟨(relL 2).toArray⟩, .string ⟨(relL 3).toArray⟩, .string ⟨(relL 4).toArray⟩, .string ⟨(relL 5).toArray⟩, .string ⟨(relL 6).toArray⟩, .string ⟨(relL 7).toArray⟩, .string ⟨(relL 8).toArray⟩, .string ⟨(relL 9).toArray⟩, .string ⟨(relL 10).toArray⟩, .string ⟨(relL 11).toArray⟩, .string ⟨(relL 12).toArray⟩]) (.int .i64 7)).run Tryz.prog w2 = .ok (.string ⟨(relL 7).toArray⟩) w2 := fun w2 => by kernel_rfl
      clear h
      go_enter Tryz.func65, Tryz.ntmps65
      go_wp2_with fail
      refine HE.out.mono ?_
      rintro e w1 ⟨rfl, hb1⟩
      have HB := Lib.hid hb1
      clear hb1
      go_wp2_with fail
      refine (relNames_call w1).mono ?_
      rintro e w2 ⟨rfl, hb2⟩
      have HB2 := Lib.hid (HB.out.trans (hb2.mono HB.out.size))
      clear hb2
      go_wp2_with fail
      go_ret
      exact ⟨rfl, HB2.out⟩
    · have hix : ∀ w2, (Instr.index 163 (.agg #[.string ⟨(relL 0).toArray⟩, .string ⟨(relL 1).toArray⟩, .string ⟨(relL 2).toArray⟩, .string ⟨(relL 3).toArray⟩, .string ⟨(relL 4).toArray⟩, .string ⟨(relL 5).toArray⟩, .string ⟨(relL 6).toArray⟩, .string ⟨(relL 7).toArray⟩, .string ⟨(relL 8).toArray⟩, .string ⟨(relL 9).toArray⟩, .string ⟨(relL 10).toArray⟩, .string ⟨(relL 11).toArray⟩, .string ⟨(relL 12).toArray⟩]) (.int .i64 8)).run Tryz.prog w2 = .ok (.string ⟨(relL 8).toArray⟩) w2 := fun w2 => by kernel_rfl
      clear h
      go_enter Tryz.func65, Tryz.ntmps65
      go_wp2_with fail
      refine HE.out.mono ?_
      rintro e w1 ⟨rfl, hb1⟩
      have HB := Lib.hid hb1
      clear hb1
      go_wp2_with fail
      refine (relNames_call w1).mono ?_
      rintro e w2 ⟨rfl, hb2⟩
      have HB2 := Lib.hid (HB.out.trans (hb2.mono HB.out.size))
      clear hb2
      go_wp2_with fail
      go_ret
      exact ⟨rfl, HB2.out⟩
    · have hix : ∀ w2, (Instr.index 163 (.agg #[.string ⟨(relL 0).toArray⟩, .string ⟨(relL 1).toArray⟩, .string ⟨(relL 2).toArray⟩, .string ⟨(relL 3).toArray⟩, .string ⟨(relL 4).toArray⟩, .string ⟨(relL 5).toArray⟩, .string ⟨(relL 6).toArray⟩, .string ⟨(relL 7).toArray⟩, .string ⟨(relL 8).toArray⟩, .string ⟨(relL 9).toArray⟩, .string ⟨(relL 10).toArray⟩, .string ⟨(relL 11).toArray⟩, .string ⟨(relL 12).toArray⟩]) (.int .i64 9)).run Tryz.prog w2 = .ok (.string ⟨(relL 9).toArray⟩) w2 := fun w2 => by kernel_rfl
      clear h
      go_enter Tryz.func65, Tryz.ntmps65
      go_wp2_with fail
      refine HE.out.mono ?_
      rintro e w1 ⟨rfl, hb1⟩
      have HB := Lib.hid hb1
      clear hb1
      go_wp2_with fail
      refine (relNames_call w1).mono ?_
      rintro e w2 ⟨rfl, hb2⟩
      have HB2 := Lib.hid (HB.out.trans (hb2.mono HB.out.size))
      clear hb2
      go_wp2_with fail
      go_ret
      exact ⟨rfl, HB2.out⟩
    · have hix : ∀ w2, (Instr.index 163 (.agg #[.string ⟨(relL 0).toArray⟩, .string ⟨(relL 1).toArray⟩, .string ⟨(relL 2).toArray⟩, .string ⟨(relL 3).toArray⟩, .string ⟨(relL 4).toArray⟩, .string ⟨(relL 5).toArray⟩, .string ⟨(relL 6).toArray⟩, .string ⟨(relL 7).toArray⟩, .string ⟨(relL 8).toArray⟩, .string ⟨(relL 9).toArray⟩, .string ⟨(relL 10).toArray⟩, .string ⟨(relL 11).toArray⟩, .string ⟨(relL 12).toArray⟩]) (.int .i64 10)).run Tryz.prog w2 = .ok (.string ⟨(relL 10).toArray⟩) w2 := fun w2 => by kernel_rfl
      clear h
      go_enter Tryz.func65, Tryz.ntmps65
      go_wp2_with fail
      refine HE.out.mono ?_
      rintro e w1 ⟨rfl, hb1⟩
      have HB := Lib.hid hb1
      clear hb1
      go_wp2_with fail
      refine (relNames_call w1).mono ?_
      rintro e w2 ⟨rfl, hb2⟩
      have HB2 := Lib.hid (HB.out.trans (hb2.mono HB.out.size))
      clear hb2
      go_wp2_with fail
      go_ret
      exact ⟨rfl, HB2.out⟩
    · have hix : ∀ w2, (Instr.index 163 (.agg #[.string ⟨(relL 0).toArray⟩, .string ⟨(relL 1).toArray⟩, .string ⟨(relL 2).toArray⟩, .string ⟨(relL 3).toArray⟩, .string ⟨(relL 4).toArray⟩, .string ⟨(relL 5).toArray⟩, .string ⟨(relL 6).toArray⟩, .string ⟨(relL 7).toArray⟩, .string ⟨(relL 8).toArray⟩, .string ⟨(relL 9).toArray⟩, .string ⟨(relL 10).toArray⟩, .string ⟨(relL 11).toArray⟩, .string ⟨(relL 12).toArray⟩]) (.int .i64 11)).run Tryz.prog w2 = .ok (.string ⟨(relL 11).toArray⟩) w2 := fun w2 => by kernel_rfl
      clear h
      go_enter Tryz.func65, Tryz.ntmps65
      go_wp2_with fail
      refine HE.out.mono ?_
      rintro e w1 ⟨rfl, hb1⟩
      have HB := Lib.hid hb1
      clear hb1
      go_wp2_with fail
      refine (relNames_call w1).mono ?_
      rintro e w2 ⟨rfl, hb2⟩
      have HB2 := Lib.hid (HB.out.trans (hb2.mono HB.out.size))
      clear hb2
      go_wp2_with fail
      go_ret
      exact ⟨rfl, HB2.out⟩
    · have hix : ∀ w2, (Instr.index 163 (.agg #[.string ⟨(relL 0).toArray⟩, .string ⟨(relL 1).toArray⟩, .string ⟨(relL 2).toArray⟩, .string ⟨(relL 3).toArray⟩, .string ⟨(relL 4).toArray⟩, .string ⟨(relL 5).toArray⟩, .string ⟨(relL 6).toArray⟩, .string ⟨(relL 7).toArray⟩, .string ⟨(relL 8).toArray⟩, .string ⟨(relL 9).toArray⟩, .string ⟨(relL 10).toArray⟩, .string ⟨(relL 11).toArray⟩, .string ⟨(relL 12).toArray⟩]) (.int .i64 12)).run Tryz.prog w2 = .ok (.string ⟨(relL 12).toArray⟩) w2 := fun w2 => by kernel_rfl
      clear h
      go_enter Tryz.func65, Tryz.ntmps65
      go_wp2_with fail
      refine HE.out.mono ?_
      rintro e w1 ⟨rfl, hb1⟩
      have HB := Lib.hid hb1
      clear hb1
      go_wp2_with fail
      refine (relNames_call w1).mono ?_
      rintro e w2 ⟨rfl, hb2⟩
      have HB2 := Lib.hid (HB.out.trans (hb2.mono HB.out.size))
      clear hb2
      go_wp2_with fail
      go_ret
      exact ⟨rfl, HB2.out⟩
  · have e : (decide (0 ≤ n) && decide (n < 13)) = false := by
      rw [← Bool.decide_and]
      exact decide_eq_false h
    rw [e] at HE
    rw [rel_none h]
    have HE := Lib.hid HE
    clear e h
    go_enter Tryz.func65, Tryz.ntmps65
    go_wp2_with fail
    refine HE.out.mono ?_
    rintro e w1 ⟨rfl, hb1⟩
    go_wp2_with fail
    go_ret
    exact ⟨rfl, hb1⟩
set_option maxRecDepth 100000 in
set_option maxHeartbeats 4000000 in
theorem rrel_call (n : Int) (w : World) : Calls Tryz.prog 76 #[.int .i64 n] w (Ret w (.string ⟨(relL n).toArray⟩)) := by
  by_cases h : 0 ≤ n ∧ n < 13
  · rcases thirteen h with rfl | rfl | rfl | rfl | rfl | rfl | rfl | rfl | rfl | rfl | rfl | rfl | rfl
    all_goals
      clear h
      go_enter Tryz.func76, Tryz.ntmps76
      go_wp2_with fail
      go_ret
      exact ⟨rfl, below1 w _⟩
  · rw [rel_none h]
    by_cases h0 : n < 0
    · clear h
      go_enter Tryz.func76, Tryz.ntmps76
      go_wp2_with fail
      go_ret
      exact ⟨rfl, Below.refl _ _⟩
    · have h1 : (13 : Int) ≤ n := by omega
      clear h
      go_enter Tryz.func76, Tryz.ntmps76
      go_wp2_with fail
      go_ret
      exact ⟨rfl, Below.refl _ _⟩
/-! ### printable bytes -/
def okL (l : S) : Bool := l.all (fun c => !badB c.toNat)
def OkRel (s : ByteArray) (i : Value) : Prop := ∃ k : Nat, k ≤ s.size ∧ i = .int .i64 k ∧ ∀ j (h : j < s.size), j < k → badB s[j].toNat = false
theorem ok_all {s : ByteArray} (h : ∀ j (hj : j < s.size), badB s[j].toNat = false) : okL s.data.toList = true := by
  unfold okL
  rw [List.all_eq_true]
  intro c hc
  obtain ⟨j, hj, e⟩ := List.mem_iff_getElem.1 hc
  have hj' : j < s.size := by simpa using hj
  have h3 := h j hj'
  have e2 : s[j] = c := e
  rw [e2] at h3
  rw [h3]
  rfl
theorem ok_not {s : ByteArray} {k : Nat} (hk : k < s.size) (h : badB s[k].toNat = true) : okL s.data.toList = false := by
  cases ho : okL s.data.toList with
  | false => rfl
  | true =>
    unfold okL at ho
    have := List.all_eq_true.1 ho _ (mem_at hk)
    rw [h] at this
    cases this
theorem bad_cases (n : Nat) : (badB n = true ∧ (n : Int) < 32) ∨ (badB n = true ∧ (32 : Int) ≤ n ∧ (126 : Int) < n) ∨ (badB n = false ∧ (32 : Int) ≤ n ∧ (n : Int) ≤ 126) := by
  unfold badB
  simp
  omega
set_option maxRecDepth 100000 in
set_option maxHeartbeats 4000000 in
theorem printable_any (s : ByteArray) (w : World) (hs : s.size ≤ 140737488351232) : Calls Tryz.prog 140 #[.string s] w (Ret w (.bool (okL s.data.toList))) := by
  go_enter Tryz.func140, Tryz.ntmps140
  go_wp2_with fail
  go_loop [3, 6] (fun _ i => OkRel s i) (fun _ i => s.size - (intOf i).toNat)
  case atStart => exact ⟨0, Nat.zero_le _, rfl, fun j _ hj => absurd hj (by omega)⟩
  case round =>
    obtain ⟨k, hk, rfl, hi⟩ := hrel
    have HI := Lib.hid hi
    clear hi
    by_cases hlt : k < s.size
    · rcases bad_cases s[k].toNat with ⟨hb, h1⟩ | ⟨hb, h1, h2⟩ | ⟨hb, h1, h2⟩
      · have HN := Lib.hid (ok_not hlt hb)
        clear hb HI
        go_wp2_with fail
        go_ret
        exact ⟨by rw [HN.out]; rfl, Below.refl _ _⟩
      · have HN := Lib.hid (ok_not hlt hb)
        clear hb HI
        go_wp2_with fail
        go_ret
        exact ⟨by rw [HN.out]; rfl, Below.refl _ _⟩
      · have HIN : Hid (∀ j (h : j < s.size), j < k + 1 → badB s[j].toNat = false) := Lib.hid (fun j hj hjk => by
          by_cases e : j = k
          · subst e; exact hb
          · exact HI.out j hj (by omega))
        clear hb
        go_wp2_with fail
        go_round
        case rel => exact ⟨k + 1, by omega, by go_num, HIN.out⟩
        case measure => simp [intOf]; omega
    · obtain rfl : k = s.size := by omega
      have HN := Lib.hid (ok_all fun j hj => HI.out j hj hj)
      clear HI
      go_wp2_with fail
      go_ret
      exact ⟨by rw [HN.out]; rfl, Below.refl _ _⟩
set_option maxRecDepth 100000 in
set_option maxHeartbeats 4000000 in
theorem rprintable_any (s : ByteArray) (w : World) (hs : s.size ≤ 140737488351232) : Calls Tryz.prog 242 #[.string s] w (Ret w (.bool (okL s.data.toList))) := by
  go_enter Tryz.func242, Tryz.ntmps242
  go_wp2_with fail
  go_loop [3] (fun i => OkRel s i) (fun i => s.size - (intOf i).toNat)
  case atStart => exact ⟨0, Nat.zero_le _, rfl, fun j _ hj => absurd hj (by omega)⟩
  case round =>
    obtain ⟨k, hk, rfl, hi⟩ := hrel
    have HI := Lib.hid hi
    clear hi
    by_cases hlt : k < s.size
    · rcases bad_cases s[k].toNat with ⟨hb, h1⟩ | ⟨hb, h1, h2⟩ | ⟨hb, h1, h2⟩
      · have HN := Lib.hid (ok_not hlt hb)
        clear hb HI
        go_wp2_with fail
        go_ret
        exact ⟨by rw [HN.out]; rfl, Below.refl _ _⟩
      · have HN := Lib.hid (ok_not hlt hb)
        clear hb HI
        go_wp2_with fail
        go_ret
        exact ⟨by rw [HN.out]; rfl, Below.refl _ _⟩
      · have HIN : Hid (∀ j (h : j < s.size), j < k + 1 → badB s[j].toNat = false) := Lib.hid (fun j hj hjk => by
          by_cases e : j = k
          · subst e; exact hb
          · exact HI.out j hj (by omega))
        clear hb
        go_wp2_with fail
        go_round
        case rel => exact ⟨k + 1, by omega, by go_num, HIN.out⟩
        case measure => simp [intOf]; omega
    · obtain rfl : k = s.size := by omega
      have HN := Lib.hid (ok_all fun j hj => HI.out j hj hj)
      clear HI
      go_wp2_with fail
      go_ret
      exact ⟨by rw [HN.out]; rfl, Below.refl _ _⟩
end Go.Proofs.YtlimlmjljjmcpaaGreatDoor.Px

/-
  Values: which are valid: the program's and the reference's.
-/
namespace Go.Proofs.YtlimlmjljjmcpaaGreatDoor.Px
open Go Go.RowKit Go.Proofs.YtlimlmjljjmcpaaGreatDoor.Ps
set_option linter.unusedVariables false
set_option linter.unusedSimpArgs false
theorem mkE (l : S) : (ByteArray.mk l.toArray).toList.isEmpty = l.isEmpty := by rw [Lib.toList_data]
set_option maxRecDepth 100000 in
set_option maxHeartbeats 8000000 in
theorem valid_call (vk vi : Int) (vs : S) (w : World) (hs : vs.length ≤ 140737488351232) : Calls Tryz.prog 62 #[.agg #[.int .i64 vk, .int .i64 vi, .string ⟨vs.toArray⟩]] w (Ret w (.bool (validV vk vi vs))) := by
  have hsz := mkS vs
  have hem := mkE vs
  have CP := Lib.hid fun w1 => printable_any ⟨vs.toArray⟩ w1 (by rw [hsz]; exact hs)
  rw [mkL] at CP
  go_enter Tryz.func62, Tryz.ntmps62
  go_upto_region 1 with (fail)
  refine name_alloc (K := Code.wp _ _ _ _) fun w1 hB hw1 hz1 => ?_
  have p0 := hB.cell 0 rfl
  have p1 := hB.cell 1 rfl
  have p2 := hB.cell 2 rfl
  have HW := Lib.hid hw1
  have HBk := Lib.hid hB
  clear hB hw1
  cases he : vs.isEmpty <;> rw [he] at hem <;> go_wp2_with fail
  all_goals (try (refine (CP.out w1).mono ?_; rintro e w2 ⟨rfl, hw2⟩; have HW2 := Lib.hid (HW.out.trans (hw2.mono HW.out.size)); clear hw2; go_wp2_with fail))
  all_goals (go_ret; first | (refine ⟨congrArg (fun z => Ending.returned (.bool z)) ?_, HW.out⟩; clear HBk p0 p1 p2; unfold validV; simp_all [okL, maxN] <;> first | omega | rfl | (intro h9; have := of_decide_eq_true h9; omega) | (rw [Bool.eq_iff_iff]; simp <;> omega)) | (refine ⟨congrArg (fun z => Ending.returned (.bool z)) ?_, HW2.out⟩; clear HBk p0 p1 p2; unfold validV; simp_all [okL, maxN] <;> first | omega | rfl | (intro h9; have := of_decide_eq_true h9; omega) | (rw [Bool.eq_iff_iff]; simp <;> omega)))
set_option maxRecDepth 100000 in
set_option maxHeartbeats 8000000 in
theorem rvalid_call (vk vi : Int) (vs : S) (w : World) (hs : vs.length ≤ 140737488351232) : Calls Tryz.prog 149 #[.agg #[.int .i64 vk, .int .i64 vi, .string ⟨vs.toArray⟩]] w (Ret w (.bool (validV vk vi vs))) := by
  have hsz := mkS vs
  have hem := mkE vs
  have CP := Lib.hid fun w1 => rprintable_any ⟨vs.toArray⟩ w1 (by rw [hsz]; exact hs)
  rw [mkL] at CP
  go_enter Tryz.func149, Tryz.ntmps149
  go_upto_region 1 with (fail)
  refine name_alloc (K := Code.wp _ _ _ _) fun w1 hB hw1 hz1 => ?_
  have p0 := hB.cell 0 rfl
  have p1 := hB.cell 1 rfl
  have p2 := hB.cell 2 rfl
  have HW := Lib.hid hw1
  have HBk := Lib.hid hB
  clear hB hw1
  cases he : vs.isEmpty <;> rw [he] at hem <;> go_wp2_with fail
  all_goals (try (refine (CP.out w1).mono ?_; rintro e w2 ⟨rfl, hw2⟩; have HW2 := Lib.hid (HW.out.trans (hw2.mono HW.out.size)); clear hw2; go_wp2_with fail))
  all_goals (go_ret; first | (refine ⟨congrArg (fun z => Ending.returned (.bool z)) ?_, HW.out⟩; clear HBk p0 p1 p2; unfold validV; simp_all [okL, maxN] <;> first | omega | rfl | (intro h9; have := of_decide_eq_true h9; omega) | (rw [Bool.eq_iff_iff]; simp <;> omega)) | (refine ⟨congrArg (fun z => Ending.returned (.bool z)) ?_, HW2.out⟩; clear HBk p0 p1 p2; unfold validV; simp_all [okL, maxN] <;> first | omega | rfl | (intro h9; have := of_decide_eq_true h9; omega) | (rw [Bool.eq_iff_iff]; simp <;> omega)))
end Go.Proofs.YtlimlmjljjmcpaaGreatDoor.Px

/-
  A value's literal: the program's.
-/
namespace Go.Proofs.YtlimlmjljjmcpaaGreatDoor.Px
open Go Go.RowKit Go.Proofs.YtlimlmjljjmcpaaGreatDoor.Ps
set_option linter.unusedVariables false
set_option linter.unusedSimpArgs false
theorem itoa_at (n : Int) (w : World) (h0 : -maxN ≤ n) (h1 : n ≤ maxN) (h : Env w) : Calls Tryz.prog 119 #[.int .i64 n] w (Ret w (.string ⟨(itoaL n).toArray⟩)) := by
  unfold maxN at h0 h1
  exact (Tryz.strconv_Itoa n (by omega) (by omega) w h.pow).mono fun e w' ⟨h1, k, os, h2⟩ => ⟨h1, by rw [h2]; exact below_grow w k os⟩
theorem replace_at (x : S) (w : World) (hx : x.length ≤ 1000) (h : Env w) : Calls Tryz.prog 144 #[.string ⟨x.toArray⟩, .string ⟨#[39]⟩, .string ⟨#[39, 39]⟩] w (Ret w (.string ⟨(quoteBody x).toArray⟩)) := by
  obtain ⟨m, hm⟩ := h.maxl
  have hc : Lib.countB ⟨x.toArray⟩ ⟨#[39]⟩ ≤ 100000 := by
    have := Lib.count_le x [39]
    show Lib.count _ _ ≤ _
    simp only
    omega
  have CR := Tryz.strings_ReplaceAll ⟨x.toArray⟩ ⟨#[39]⟩ ⟨#[39, 39]⟩ m w (by rw [mkS]; omega) hm (by decide) (by
    rw [mkS]
    have e2 : (ByteArray.mk #[39, 39]).size = 2 := rfl
    rw [e2]
    omega)
  rw [mkL] at CR
  have er : Lib.replaceAll x (ByteArray.mk #[39]).data.toList (ByteArray.mk #[39, 39]).data.toList = quoteBody x := replace_quote x
  rw [er] at CR
  exact CR
theorem lit_int {vi : Int} {vs : S} (h : validV 1 vi vs = true) : litL 1 vi vs = itoaL vi ∧ -maxN ≤ vi ∧ vi ≤ maxN := by
  refine ⟨by unfold litL; rw [if_pos h]; rfl, ?_⟩
  have e : validV 1 vi vs = (vs.isEmpty && (decide (-maxN ≤ vi) && decide (vi ≤ maxN))) := rfl
  rw [e] at h
  simp only [Bool.and_eq_true, decide_eq_true_eq] at h
  exact h.2
theorem lit_text {vi : Int} {vs : S} (h : validV 2 vi vs = true) : litL 2 vi vs = quoteL vs ∧ vs.length ≤ 200 := by
  refine ⟨by unfold litL; rw [if_pos h]; rfl, ?_⟩
  have e : validV 2 vi vs = (decide (vi = 0) && (decide (vs.length ≤ 200) && vs.all (fun c => !badB c.toNat))) := rfl
  rw [e] at h
  simp only [Bool.and_eq_true, decide_eq_true_eq] at h
  exact h.2.1
theorem lit_bool {vi : Int} {vs : S} (h : validV 3 vi vs = true) : litL 3 vi vs = (if vi = 1 then [84, 82, 85, 69] else [70, 65, 76, 83, 69]) ∧ vs = [] ∧ (vi = 0 ∨ vi = 1) := by
  refine ⟨by unfold litL; rw [if_pos h]; rfl, ?_⟩
  have e : validV 3 vi vs = (vs.isEmpty && (decide (vi = 0) || decide (vi = 1))) := rfl
  rw [e] at h
  simp only [Bool.and_eq_true, Bool.or_eq_true, decide_eq_true_eq, List.isEmpty_iff] at h
  exact h
theorem lit_kind {vk vi : Int} {vs : S} (h : validV vk vi vs = true) (h1 : vk ≠ 1) (h2 : vk ≠ 2) (h3 : vk ≠ 3) : litL vk vi vs = [78, 85, 76, 76] ∧ vk = 0 ∧ vi = 0 ∧ vs = [] := by
  have h0 : vk = 0 := by
    unfold validV at h
    by_cases e : vk = 0
    · exact e
    · rw [if_neg e, if_neg h1, if_neg h2, if_neg h3] at h
      cases h
  subst h0
  refine ⟨by unfold litL; rw [if_pos h]; rfl, rfl, ?_⟩
  have e : validV 0 vi vs = (decide (vi = 0) && vs.isEmpty) := rfl
  rw [e] at h
  simp only [Bool.and_eq_true, decide_eq_true_eq, List.isEmpty_iff] at h
  exact h
theorem lit_none {vk vi : Int} {vs : S} (h : validV vk vi vs = false) : litL vk vi vs = [] := by unfold litL; rw [h]; rfl
set_option maxRecDepth 100000 in
set_option maxHeartbeats 8000000 in
theorem literal_call (vk vi : Int) (vs : S) (w : World) (hs : vs.length ≤ 140737488351232) (hE : Env w) : Calls Tryz.prog 66 #[.agg #[.int .i64 vk, .int .i64 vi, .string ⟨vs.toArray⟩]] w (Ret w (.string ⟨(litL vk vi vs).toArray⟩)) := by
  have HE := Lib.hid hE
  have HS := Lib.hid hs
  clear hE hs
  go_enter Tryz.func66, Tryz.ntmps66
  go_upto_region 1 with (fail)
  refine name_alloc (K := Code.wp _ _ _ _) fun w1 hB hw1 hz1 => ?_
  have p0 := hB.cell 0 rfl
  have p1 := hB.cell 1 rfl
  have p2 := hB.cell 2 rfl
  have HW := Lib.hid hw1
  have HBk := Lib.hid hB
  clear hB hw1
  go_wp2_with fail
  refine (valid_call vk vi vs w1 HS.out).mono ?_
  rintro e w2 ⟨rfl, hw12⟩
  clear p0 p1 p2
  have hB2 := HBk.out.below hw12
  have hw2 := HW.out.trans (hw12.mono HW.out.size)
  have HE2 := Lib.hid (HE.out.below hw2)
  clear hw12
  have p0 := hB2.cell 0 rfl
  have p1 := hB2.cell 1 rfl
  have p2 := hB2.cell 2 rfl
  have HW2 := Lib.hid hw2
  clear hw2 hB2 HBk HW
  cases hv : validV vk vi vs with
  | false =>
    have HL := Lib.hid (lit_none hv)
    clear hv
    go_wp2_with fail
    go_ret
    exact ⟨by rw [HL.out]; rfl, HW2.out⟩
  | true =>
    by_cases k1 : vk = 1
    · subst k1
      obtain ⟨l1, l2, l3⟩ := lit_int hv
      have HL := Lib.hid l1
      have HI := Lib.hid (Ret.at_ (itoa_at vi w2 l2 l3 HE2.out) HW2.out)
      clear hv l1 l2 l3
      go_wp2_with fail
      refine HI.out.mono ?_
      rintro e w3 ⟨rfl, hw3⟩
      go_wp2_with fail
      go_ret
      exact ⟨by rw [HL.out]; rfl, hw3⟩
    · by_cases k2 : vk = 2
      · subst k2
        obtain ⟨l1, l2⟩ := lit_text hv
        have hq := quote_len vs
        have HL : Hid (litL 2 vi vs = 39 :: (quoteBody vs ++ [39])) := Lib.hid (l1.trans rfl)
        have HR := Lib.hid (Ret.at_ (replace_at vs w2 (by omega) HE2.out) HW2.out)
        clear hv l1
        generalize quoteBody vs = y at HR hq HL
        go_wp2_with fail
        refine HR.out.mono ?_
        rintro e w3 ⟨rfl, hw3⟩
        have y2 : ¬ maxLen < 1 + y.length := by unfold maxLen; omega
        have y3 : ¬ maxLen < 1 + y.length + 1 := by unfold maxLen; omega
        go_wp2_with fail
        go_ret
        exact ⟨congrArg (fun z => Ending.returned (.string z)) (by rw [HL.out]; exact cat3 y), hw3⟩
      · by_cases k3 : vk = 3
        · subst k3
          obtain ⟨l1, rfl, hvi⟩ := lit_bool hv
          rcases hvi with rfl | rfl
          all_goals
            have HL := Lib.hid l1
            clear hv l1
            go_wp2_with fail
            go_ret
            exact ⟨by rw [HL.out]; rfl, HW2.out⟩
        · obtain ⟨l1, rfl, rfl, rfl⟩ := lit_kind hv k1 k2 k3
          have HL := Lib.hid l1
          clear hv l1
          go_wp2_with fail
          go_ret
          exact ⟨by rw [HL.out]; rfl, HW2.out⟩
end Go.Proofs.YtlimlmjljjmcpaaGreatDoor.Px
