/-
  Insert into a transaction that has ended: refused; the old memory stays as it was.
-/
import Derived.Test.YtkicpmdojmnmeaaGreatDoorTcAcc
import Derived.Test.YtkicpmdojmnmeaaGreatDoorTcCloneV
namespace Go.Proofs.YtkicpmdojmnmeaaGreatDoor
open Go.RowKit Go.Proofs.YtkicpmdojmnmeaaGreatDoor.Ps
set_option linter.unusedVariables false
set_option linter.unusedSimpArgs false
theorem cells_vals : Tryz.prog.cellsOf 112 = 1 := by kernel_rfl
theorem infoVs : (Tryz.prog.info? 112).map (fun i => (i.zero, i.size, i.bytes)) = some (some (.slice none 0 0), 1, 24) := by kernel_rfl
set_option maxHeartbeats 4000000 in
set_option maxRecDepth 100000 in
theorem insert_call {t : Value} {s : ByteArray} {a : Option Addr} {n m : Nat} {xs : List C} {p1 p2 : Int} {w : World} (ht : TxE t w) (h : Rp Tryz.prog w 22 [.slice a n m] (.s xs)) (hs : Sm (.s xs)) :
    Calls Tryz.prog 15 #[t, .string s, .slice a n m, .agg #[.int .i64 p1, .int .i64 p2]] w fun e w' => e = .returned (.tuple #[.int .i64 0, .int .i64 20]) ∧ Below w.heap.size w w' := by
  obtain ⟨i0', hi0', hz0, hz1, hz2⟩ := info_parts infoVs
  have hn : n * 24 ≤ 140737488351232 := by
    have h1 := h.bound Tryz.underlying22
    rw [show Tryz.prog.bytesOf 112 = 24 by kernel_rfl] at h1
    exact h1
  have hln : xs.length = n := by
    obtain ⟨_, _, _, _, e1, e2, e3, _⟩ := h.slice_inv Tryz.underlying22
    cases e1
    cases e2
    exact e3
  have HR := Lib.hid h
  have HT := Lib.hid ht
  clear h hs ht
  go_enter Tryz.func15, Tryz.ntmps15
  go_wp2_with fail
  refine name_alloc3 (K := Code.wp _ _ _ _) fun w1 hA hP hG hw1 hsz1 => ?_
  have HA := Lib.hid hA
  clear hA hP
  go_loopw [15] (fun c wr => ∃ k, k ≤ n ∧ c = .int .i64 (k : Int) ∧ AccF w1 (w.heap.size + 1 + 1 + 1) (w.heap.size + 1 + 1) (fun v => [v]) 112 22 1 k wr) (fun c _ => n - (intOf c).toNat)
  case atStart => exact ⟨0, Nat.zero_le _, rfl, ⟨⟨none, 0, hG, [], by simp, .inl ⟨rfl, rfl⟩⟩, But.refl⟩⟩
  case round =>
    obtain ⟨k, hk, rfl, ⟨A3, cap3, hB, os, hown⟩, hbut⟩ := hrel
    have HO := Lib.hid hown
    have HB := Lib.hid hbut
    have HBl := Lib.hid hB
    have HW := Lib.hid (hbut.old hw1 (by omega) (by omega) (by omega))
    have hzr := hbut.size
    by_cases hlt : k < n
    · obtain ⟨b, o, us, eq, hbl, hul, hcell, hkx, hrx⟩ := elem_at Tryz.underlying22 cells_vals (by omega) HR.out hlt
      subst eq
      have HX := Lib.hid hrx
      obtain ⟨a4, n4, m4, rfl⟩ : ∃ a4 n4 m4, us = [.slice a4 n4 m4] := by
        obtain ⟨a4, n4, m4, zs, e, e2, e3, _⟩ := hrx.slice_inv Tryz.underlying112
        exact ⟨a4, n4, m4, e⟩
      have r0 : wr.cell? ⟨b, o + k, none⟩ = some (.slice a4 n4 m4) := by
        have := hcell 0 _ rfl
        rw [Nat.mul_one, Nat.add_zero] at this
        rw [HW.out.cell (by show b < _; omega)]
        exact this
      have d1 : decide ((k : Int) < (n : Int)) = true := decide_eq_true (by omega)
      have g0 := hB.cell 0 rfl
      clear hbut hown hcell hul hrx hB hG
      go_upto_region 1 with (fail)
      go_region_law (first | (go_simp; go_at_call 49; refine (cloneV_call (HX.out.kept (HW.out.trans ((belowD wr 1).mono (by omega))) (Nat.le_refl _))).mono ?_; rintro e' w8 ⟨v8, rfl, ⟨a8, n8, m8, rfl⟩, hw8⟩; have HB8 := Lib.hid ((HB.out.below (belowD wr 1) (by omega)).below hw8 (by show _ ≤ wr.heap.size; omega)); have HO8 := Lib.hid (kept_below HO.out ((belowD wr 1).trans hw8)); have HBl8 := Lib.hid ((HBl.out.below (belowD wr 1)).below hw8); have y1 := HBl8.out.cell 0 rfl; have hz8 : wr.heap.size ≤ w8.heap.size := hw8.size; have l8 : w.heap.size + 1 + 1 < w8.heap.size := (by omega); clear hw8) | (refine step_append_lies _ (by rfl) (.tmp 19) (.tmp 22) 22 (by rfl) (w.heap.size + 1 + 1 + 1) 112 i0' _ 1 24 Tryz.underlying22 hi0' hz0 hz1 hz2 (by rfl) (by omega) (.slice A3 k cap3) k os (by rfl) (kept_below HO8.out (below1 w8 _)) ⟨w8.heap.size, 0, none⟩ 1 1 [.slice a8 n8 m8] (by rfl) (by rfl) (World.news_of_block (Blk.new w8 _ _)) (by simp [Value.oneCell']) (by omega) (by unfold maxLen; omega) (by omega) (by simp; omega) _ (by rfl) ?_; intro gg cap w9 hO9 hg9 hor9 hlt9; have HB9 := Lib.hid (((HB8.out.below (below1 w8 _) (by omega)).grown hg9 (fun q hq => .inl (own_base0 HO8.out hq)))); have hS9 := (HBl8.out.alloc (.cells #[.slice a8 n8 m8] 112)).push hg9 (fun e => by have := own_base0 HO8.out e; omega); have y91 := hS9.cell 0 rfl; have z91 := hS9.free 0; have HO9 := Lib.hid hO9; have HS9 := Lib.hid hS9))
      all_goals
        have HFin : Hid (AccF w1 (w.heap.size + 1 + 1 + 1) (w.heap.size + 1 + 1) (fun v => [v]) 112 22 1 (k + 1) (w9.setCell ⟨w.heap.size + 1 + 1, 0, none⟩ (.slice (some ⟨gg, 0, none⟩) (k + 1) cap))) := Lib.hid ⟨⟨_, _, HS9.out.set 0 _, _, HO9.out.kept (only_setCell (World.grownBy.refl w9 _) 0 _) (.inr (fun e => by have := own_base0 HO9.out e; omega))⟩, HB9.out.set 0 _⟩
        clear HS9 HO9 HB9 hO9 hg9 hS9 y91 z91 g0 r0
        go_wp2_with fail
        go_roundw
        case rel => exact ⟨k + 1, by omega, by go_num, HFin.out⟩
        case measure => simp [intOf]; omega
    · obtain rfl : k = n := by omega
      have d1 : decide ((k : Int) < (k : Int)) = false := decide_eq_false (by omega)
      have hAr := (HB.out.blk HA.out (by omega) (by omega)).cell 0 rfl
      have HTr := Lib.hid (HT.out.kept HW.out)
      clear hbut hown hB
      go_wp2_with fail
      refine (perform_call HTr.out).mono ?_
      rintro e' w4 ⟨rfl, rfl⟩
      go_wp2_with fail
      go_ret2
      exact ⟨rfl, HW.out⟩
end Go.Proofs.YtkicpmdojmnmeaaGreatDoor
