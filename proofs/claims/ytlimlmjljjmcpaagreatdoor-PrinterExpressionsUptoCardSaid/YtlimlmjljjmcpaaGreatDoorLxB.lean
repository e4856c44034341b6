import Derived.Test.YtlimlmjljjmcpaaGreatDoorProg
import Derived.Test.YtlimlmjljjmcpaaGreatDoorLxPlain
import Derived.WalkKit
import Derived.WalkSpells
import Derived.WalkLawsBesides
import Derived.Lib.Hide
import Derived.Deep.QuietTactic
import Derived.BigQuiet
import Derived.Deep.Draws
import Derived.Laws.OwnMore
import Derived.Deep.LoopGhost
/-
  Classes of bytes: the lexer's letter, digit and blank, and the reference's.
-/
namespace Go.Proofs.YtlimlmjljjmcpaaGreatDoor
open Go.RowKit
set_option linter.unusedVariables false
set_option linter.unusedSimpArgs false

theorem size_list (s : ByteArray) : s.data.toList.length = s.size := by rw [Array.length_toList]; rfl
theorem bytes_ext {x y : ByteArray} (h : x.data.toList = y.data.toList) : x = y := by
  apply ByteArray.ext
  exact Array.ext' h
theorem ret_bool {a b : Bool} (h : a = b) : Ending.returned (.bool a) = .returned (.bool b) := by rw [h]

set_option maxHeartbeats 400000 in
theorem letter_any (n : Nat) (w : World) (hn : n < 256) :
    Calls Tryz.prog 237 #[.int .u8 (n : Int)] w fun e w' => e = .returned (.bool (letterB n)) ∧ w = w' := by
  by_cases a0 : 97 ≤ n <;> by_cases a1 : n ≤ 122 <;> by_cases a2 : 65 ≤ n <;> by_cases a3 : n ≤ 90 <;> by_cases a4 : n = 95 <;> try omega
  all_goals
    go_enter Tryz.func237, Tryz.ntmps237
    go_wp2
    all_goals
      go_ret
      exact ⟨ret_bool (by simp [letterB, *] <;> omega), rfl⟩
set_option maxHeartbeats 400000 in
theorem digit_any (n : Nat) (w : World) (hn : n < 256) :
    Calls Tryz.prog 235 #[.int .u8 (n : Int)] w fun e w' => e = .returned (.bool (digitB n)) ∧ w = w' := by
  by_cases a0 : 48 ≤ n <;> by_cases a1 : n ≤ 57 <;> try omega
  all_goals
    go_enter Tryz.func235, Tryz.ntmps235
    go_wp2
    all_goals
      go_ret
      exact ⟨ret_bool (by simp [digitB, *] <;> omega), rfl⟩
set_option maxHeartbeats 400000 in
theorem blank_any (n : Nat) (w : World) (hn : n < 256) :
    Calls Tryz.prog 245 #[.int .u8 (n : Int)] w fun e w' => e = .returned (.bool (blankB n)) ∧ w = w' := by
  by_cases a0 : n = 32 <;> by_cases a1 : n = 9 <;> by_cases a2 : n = 10 <;> try omega
  all_goals
    go_enter Tryz.func245, Tryz.ntmps245
    go_wp2
    all_goals
      go_ret
      exact ⟨ret_bool (by simp [blankB, *] <;> omega), rfl⟩
end Go.Proofs.YtlimlmjljjmcpaaGreatDoor

/-
  The scanner's run: it advances over bytes of a class and returns them.
-/
namespace Go.Proofs.YtlimlmjljjmcpaaGreatDoor
open Go.RowKit
set_option linter.unusedVariables false
set_option linter.unusedSimpArgs false

/-- the scanner in block b: its text and its place -/
def Sc (w : World) (b : Nat) (s : ByteArray) (a : Nat) : Prop := w.heap[b]? = some (.cells #[.string s, .int .i64 (a : Int)] 182 (0, 0))
section
variable {w w' : World} {b : Nat} {s : ByteArray} {a : Nat}
theorem Sc.text (h : Sc w b s a) : w.cell? ⟨b, 0, none⟩ = some (.string s) := by rw [cell_of_row w b 0 _ _ (0, 0) h]; rfl
theorem Sc.at_ (h : Sc w b s a) : w.cell? ⟨b, 1, none⟩ = some (.int .i64 (a : Int)) := by rw [cell_of_row w b 1 _ _ (0, 0) h]; rfl
theorem Sc.free (h : Sc w b s a) (j : Nat) : w.frozen? ⟨b, j, none⟩ = false := by unfold Sc at h; simp [World.frozen?, h]
theorem Sc.set (h : Sc w b s a) (k : Nat) : Sc (w.setCell ⟨b, 1, none⟩ (.int .i64 (k : Int))) b s k := by
  unfold Sc at h ⊢
  simp [World.setCell, Array.getElem?_modify, h]
theorem Sc.drewN (h : Sc w b s a) (k : Nat) : Sc (w.drewN k) b s a := h
end
theorem only_drewN {a w : World} {row : Option Nat} (h : a.grownBy w row) (n : Nat) : a.grownBy (w.drewN n) row := ⟨h.os, h.tape, h.output, h.size, h.block⟩
theorem only_setCell {a w : World} {g : Nat} (h : a.grownBy w (some g)) (j : Nat) (u : Value) : a.grownBy (w.setCell ⟨g, j, none⟩ u) (some g) :=
  ⟨h.os, h.tape, h.output, by simpa [World.setCell] using h.size, fun i hi hne => (Below.heap_setCell w _ u i (by rintro rfl; exact hne rfl)).trans (h.block i hi hne)⟩

def RunRel (w : World) (b : Nat) (s : ByteArray) (a : Nat) (cls : Nat → Bool) (g : Nat) (wr : World) : Prop :=
  ∃ k, a ≤ k ∧ k + g = s.size ∧ Sc wr b s k ∧ w.grownBy wr (some b) ∧ runEnd cls s.data.toList k = runEnd cls s.data.toList a
def RunPost (w : World) (b : Nat) (s : ByteArray) (a : Nat) (cls : Nat → Bool) (e : Ending) (w' : World) : Prop :=
  e = .returned (.string (s.extract a (runEnd cls s.data.toList a))) ∧ Sc w' b s (runEnd cls s.data.toList a) ∧ w.grownBy w' (some b)

set_option maxHeartbeats 400000 in
theorem wordClass_any (n : Nat) (w : World) (hn : n < 256) :
    Calls Tryz.prog 286 #[.int .u8 (n : Int)] w fun e w' => e = .returned (.bool (wordB n)) ∧ w = w' := by
  have c1 := Lib.hid (letter_any n w hn)
  have c2 := Lib.hid (digit_any n w hn)
  unfold wordB
  rcases h1 : letterB n with _ | _
  all_goals
    rw [h1] at c1
    go_enter Tryz.func286, Tryz.ntmps286
    go_wp2_with fail
    refine c1.out.mono ?_
    rintro e w' ⟨rfl, rfl⟩
    go_wp2_with fail
    first
      | (go_ret; exact ⟨rfl, rfl⟩)
      | (refine c2.out.mono ?_
         rintro e w' ⟨rfl, rfl⟩
         go_wp2_with fail
         go_ret
         exact ⟨rfl, rfl⟩)
set_option maxHeartbeats 400000 in
theorem run_blank (b : Nat) (s : ByteArray) (a : Nat) (w : World) (h : Sc w b s a) (ha : a ≤ s.size) (hs : s.size ≤ 65536) :
    Calls Tryz.prog 244 #[.pointer (some ⟨b, 0, none⟩), .func (.func 245) #[] #[]] w (RunPost w b s a blankB) := by
  have h0 := h.text
  have h1 := h.at_
  go_enter Tryz.func244, Tryz.ntmps244
  go_wp2_with fail
  clear h0 h1
  go_loopg [] (s.size - a) (fun g wr => RunRel w b s a blankB g wr)
  case atStart => exact ⟨a, Nat.le_refl _, by omega, h, World.grownBy.refl _ _, rfl⟩
  case round =>
    obtain ⟨k, hak, hkg, hsc, hgr, hre⟩ := hrel
    have HRE := Lib.hid hre
    clear hre
    have h0 := hsc.text
    have h1 := hsc.at_
    by_cases hlt : k < s.size
    · have hb : s[k].toNat < 256 := s[k].toNat_lt
      have i1 : (k : Int) < (s.size : Int) := by omega
      have i0 : (0 : Int) ≤ (k : Int) := by omega
      have hkl : k < s.data.toList.length := by simpa using hlt
      have hel : s.data.toList[k] = s[k] := rfl
      have hcl : ∀ W : World, Calls Tryz.prog 245 #[.int .u8 (s[k].toNat : Int)] W fun e w' => e = .returned (.bool (blankB s[k].toNat)) ∧ w' = W := fun W => (blank_any s[k].toNat W hb).mono (fun _ _ h => ⟨h.1, h.2.symm⟩)
      rcases hc : blankB s[k].toNat with _ | _
      · have HE := Lib.hid ((runEnd_no hkl (by rw [hel]; exact hc)).symm.trans HRE.out)
        rw [hc] at hcl
        have HCL := Lib.hid hcl
        clear hcl hc
        go_wp2_with fail
        go_quiet ((go_at_call 245; exact Calls.quiet_of_same (HCL.out _)))
        go_wp2_with fail
        replace h0 := (hsc.drewN nq).text
        replace h1 := (hsc.drewN nq).at_
        replace hsc := hsc.drewN nq
        replace hgr := only_drewN hgr nq
        generalize wr.drewN nq = w2 at h0 h1 hsc hgr ⊢
        have j0 : (0 : Int) ≤ (a : Int) := by omega
        have j1 : (a : Int) ≤ (k : Int) := by omega
        have j2 : (k : Int) ≤ (s.size : Int) := by omega
        go_quiet (fail)
        go_wp2_with fail
        go_ret
        refine ⟨?_, by rw [← HE.out]; exact hsc.drewN _, only_drewN hgr _⟩
        rw [← HE.out]
        rfl
      · have HE := Lib.hid ((runEnd_yes hkl (by rw [hel]; exact hc)).symm.trans HRE.out)
        rw [hc] at hcl
        have HCL := Lib.hid hcl
        clear hcl hc
        go_wp2_with fail
        go_quiet ((go_at_call 245; exact Calls.quiet_of_same (HCL.out _)))
        replace h0 := (hsc.drewN nq).text
        replace h1 := (hsc.drewN nq).at_
        have hf := (hsc.drewN nq).free 1
        replace hsc := (hsc.drewN nq).set (k + 1)
        replace hgr := only_setCell (only_drewN hgr nq) 1 (.int .i64 ((k + 1 : Nat) : Int))
        generalize wr.drewN nq = w2 at h0 h1 hsc hgr hf ⊢
        go_wp2_with fail
        go_roundg (gk - 1)
        case measure => omega
        case rel => exact ⟨k + 1, by omega, by omega, by simpa using hsc, by simpa using hgr, HE.out⟩
    · obtain rfl : k = s.size := by omega
      have d1 : decide ((s.size : Int) < (s.size : Int)) = false := by simp
      have HE := Lib.hid ((runEnd_end (cls := blankB) (l := s.data.toList) (a := s.size) (by simp)).symm.trans HRE.out)
      go_wp2_with fail
      go_quiet (fail)
      go_wp2_with fail
      replace h0 := (hsc.drewN nq).text
      replace h1 := (hsc.drewN nq).at_
      replace hsc := hsc.drewN nq
      replace hgr := only_drewN hgr nq
      generalize wr.drewN nq = w2 at h0 h1 hsc hgr ⊢
      have j0 : (0 : Int) ≤ (a : Int) := by omega
      have j1 : (a : Int) ≤ (s.size : Int) := by omega
      have j2 : (s.size : Int) ≤ (s.size : Int) := by omega
      go_quiet (fail)
      go_wp2_with fail
      go_ret
      refine ⟨?_, by rw [← HE.out]; exact hsc.drewN _, only_drewN hgr _⟩
      rw [← HE.out]
      rfl
set_option maxHeartbeats 400000 in
theorem run_digit (b : Nat) (s : ByteArray) (a : Nat) (w : World) (h : Sc w b s a) (ha : a ≤ s.size) (hs : s.size ≤ 65536) :
    Calls Tryz.prog 244 #[.pointer (some ⟨b, 0, none⟩), .func (.func 235) #[] #[]] w (RunPost w b s a digitB) := by
  have h0 := h.text
  have h1 := h.at_
  go_enter Tryz.func244, Tryz.ntmps244
  go_wp2_with fail
  clear h0 h1
  go_loopg [] (s.size - a) (fun g wr => RunRel w b s a digitB g wr)
  case atStart => exact ⟨a, Nat.le_refl _, by omega, h, World.grownBy.refl _ _, rfl⟩
  case round =>
    obtain ⟨k, hak, hkg, hsc, hgr, hre⟩ := hrel
    have HRE := Lib.hid hre
    clear hre
    have h0 := hsc.text
    have h1 := hsc.at_
    by_cases hlt : k < s.size
    · have hb : s[k].toNat < 256 := s[k].toNat_lt
      have i1 : (k : Int) < (s.size : Int) := by omega
      have i0 : (0 : Int) ≤ (k : Int) := by omega
      have hkl : k < s.data.toList.length := by simpa using hlt
      have hel : s.data.toList[k] = s[k] := rfl
      have hcl : ∀ W : World, Calls Tryz.prog 235 #[.int .u8 (s[k].toNat : Int)] W fun e w' => e = .returned (.bool (digitB s[k].toNat)) ∧ w' = W := fun W => (digit_any s[k].toNat W hb).mono (fun _ _ h => ⟨h.1, h.2.symm⟩)
      rcases hc : digitB s[k].toNat with _ | _
      · have HE := Lib.hid ((runEnd_no hkl (by rw [hel]; exact hc)).symm.trans HRE.out)
        rw [hc] at hcl
        have HCL := Lib.hid hcl
        clear hcl hc
        go_wp2_with fail
        go_quiet ((go_at_call 235; exact Calls.quiet_of_same (HCL.out _)))
        go_wp2_with fail
        replace h0 := (hsc.drewN nq).text
        replace h1 := (hsc.drewN nq).at_
        replace hsc := hsc.drewN nq
        replace hgr := only_drewN hgr nq
        generalize wr.drewN nq = w2 at h0 h1 hsc hgr ⊢
        have j0 : (0 : Int) ≤ (a : Int) := by omega
        have j1 : (a : Int) ≤ (k : Int) := by omega
        have j2 : (k : Int) ≤ (s.size : Int) := by omega
        go_quiet (fail)
        go_wp2_with fail
        go_ret
        refine ⟨?_, by rw [← HE.out]; exact hsc.drewN _, only_drewN hgr _⟩
        rw [← HE.out]
        rfl
      · have HE := Lib.hid ((runEnd_yes hkl (by rw [hel]; exact hc)).symm.trans HRE.out)
        rw [hc] at hcl
        have HCL := Lib.hid hcl
        clear hcl hc
        go_wp2_with fail
        go_quiet ((go_at_call 235; exact Calls.quiet_of_same (HCL.out _)))
        replace h0 := (hsc.drewN nq).text
        replace h1 := (hsc.drewN nq).at_
        have hf := (hsc.drewN nq).free 1
        replace hsc := (hsc.drewN nq).set (k + 1)
        replace hgr := only_setCell (only_drewN hgr nq) 1 (.int .i64 ((k + 1 : Nat) : Int))
        generalize wr.drewN nq = w2 at h0 h1 hsc hgr hf ⊢
        go_wp2_with fail
        go_roundg (gk - 1)
        case measure => omega
        case rel => exact ⟨k + 1, by omega, by omega, by simpa using hsc, by simpa using hgr, HE.out⟩
    · obtain rfl : k = s.size := by omega
      have d1 : decide ((s.size : Int) < (s.size : Int)) = false := by simp
      have HE := Lib.hid ((runEnd_end (cls := digitB) (l := s.data.toList) (a := s.size) (by simp)).symm.trans HRE.out)
      go_wp2_with fail
      go_quiet (fail)
      go_wp2_with fail
      replace h0 := (hsc.drewN nq).text
      replace h1 := (hsc.drewN nq).at_
      replace hsc := hsc.drewN nq
      replace hgr := only_drewN hgr nq
      generalize wr.drewN nq = w2 at h0 h1 hsc hgr ⊢
      have j0 : (0 : Int) ≤ (a : Int) := by omega
      have j1 : (a : Int) ≤ (s.size : Int) := by omega
      have j2 : (s.size : Int) ≤ (s.size : Int) := by omega
      go_quiet (fail)
      go_wp2_with fail
      go_ret
      refine ⟨?_, by rw [← HE.out]; exact hsc.drewN _, only_drewN hgr _⟩
      rw [← HE.out]
      rfl
set_option maxHeartbeats 400000 in
theorem run_word (b : Nat) (s : ByteArray) (a : Nat) (w : World) (h : Sc w b s a) (ha : a ≤ s.size) (hs : s.size ≤ 65536) :
    Calls Tryz.prog 244 #[.pointer (some ⟨b, 0, none⟩), .func (.func 286) #[] #[]] w (RunPost w b s a wordB) := by
  have h0 := h.text
  have h1 := h.at_
  go_enter Tryz.func244, Tryz.ntmps244
  go_wp2_with fail
  clear h0 h1
  go_loopg [] (s.size - a) (fun g wr => RunRel w b s a wordB g wr)
  case atStart => exact ⟨a, Nat.le_refl _, by omega, h, World.grownBy.refl _ _, rfl⟩
  case round =>
    obtain ⟨k, hak, hkg, hsc, hgr, hre⟩ := hrel
    have HRE := Lib.hid hre
    clear hre
    have h0 := hsc.text
    have h1 := hsc.at_
    by_cases hlt : k < s.size
    · have hb : s[k].toNat < 256 := s[k].toNat_lt
      have i1 : (k : Int) < (s.size : Int) := by omega
      have i0 : (0 : Int) ≤ (k : Int) := by omega
      have hkl : k < s.data.toList.length := by simpa using hlt
      have hel : s.data.toList[k] = s[k] := rfl
      have hcl : ∀ W : World, Calls Tryz.prog 286 #[.int .u8 (s[k].toNat : Int)] W fun e w' => e = .returned (.bool (wordB s[k].toNat)) ∧ w' = W := fun W => (wordClass_any s[k].toNat W hb).mono (fun _ _ h => ⟨h.1, h.2.symm⟩)
      rcases hc : wordB s[k].toNat with _ | _
      · have HE := Lib.hid ((runEnd_no hkl (by rw [hel]; exact hc)).symm.trans HRE.out)
        rw [hc] at hcl
        have HCL := Lib.hid hcl
        clear hcl hc
        go_wp2_with fail
        go_quiet ((go_at_call 286; exact Calls.quiet_of_same (HCL.out _)))
        go_wp2_with fail
        replace h0 := (hsc.drewN nq).text
        replace h1 := (hsc.drewN nq).at_
        replace hsc := hsc.drewN nq
        replace hgr := only_drewN hgr nq
        generalize wr.drewN nq = w2 at h0 h1 hsc hgr ⊢
        have j0 : (0 : Int) ≤ (a : Int) := by omega
        have j1 : (a : Int) ≤ (k : Int) := by omega
        have j2 : (k : Int) ≤ (s.size : Int) := by omega
        go_quiet (fail)
        go_wp2_with fail
        go_ret
        refine ⟨?_, by rw [← HE.out]; exact hsc.drewN _, only_drewN hgr _⟩
        rw [← HE.out]
        rfl
      · have HE := Lib.hid ((runEnd_yes hkl (by rw [hel]; exact hc)).symm.trans HRE.out)
        rw [hc] at hcl
        have HCL := Lib.hid hcl
        clear hcl hc
        go_wp2_with fail
        go_quiet ((go_at_call 286; exact Calls.quiet_of_same (HCL.out _)))
        replace h0 := (hsc.drewN nq).text
        replace h1 := (hsc.drewN nq).at_
        have hf := (hsc.drewN nq).free 1
        replace hsc := (hsc.drewN nq).set (k + 1)
        replace hgr := only_setCell (only_drewN hgr nq) 1 (.int .i64 ((k + 1 : Nat) : Int))
        generalize wr.drewN nq = w2 at h0 h1 hsc hgr hf ⊢
        go_wp2_with fail
        go_roundg (gk - 1)
        case measure => omega
        case rel => exact ⟨k + 1, by omega, by omega, by simpa using hsc, by simpa using hgr, HE.out⟩
    · obtain rfl : k = s.size := by omega
      have d1 : decide ((s.size : Int) < (s.size : Int)) = false := by simp
      have HE := Lib.hid ((runEnd_end (cls := wordB) (l := s.data.toList) (a := s.size) (by simp)).symm.trans HRE.out)
      go_wp2_with fail
      go_quiet (fail)
      go_wp2_with fail
      replace h0 := (hsc.drewN nq).text
      replace h1 := (hsc.drewN nq).at_
      replace hsc := hsc.drewN nq
      replace hgr := only_drewN hgr nq
      generalize wr.drewN nq = w2 at h0 h1 hsc hgr ⊢
      have j0 : (0 : Int) ≤ (a : Int) := by omega
      have j1 : (a : Int) ≤ (s.size : Int) := by omega
      have j2 : (s.size : Int) ≤ (s.size : Int) := by omega
      go_quiet (fail)
      go_wp2_with fail
      go_ret
      refine ⟨?_, by rw [← HE.out]; exact hsc.drewN _, only_drewN hgr _⟩
      rw [← HE.out]
      rfl
end Go.Proofs.YtlimlmjljjmcpaaGreatDoor
