/-
  The reference's word.
-/
import Derived.Test.YtlbmamcchomecaaDoorLrWord3
namespace Go.Proofs.YtlbmamcchomecaaDoor
open Go.RowKit
set_option linter.unusedVariables false
set_option linter.unusedSimpArgs false

def RefPost (w : World) (a : Nat) : Scan → Ending → World → Prop
  | .err c, e, w' => e = .returned (.tuple #[.agg #[.int .i64 0, .string ⟨#[]⟩, .int .i64 0, .int .i64 0], .int .i64 (a : Int), .int .i64 (c : Int)]) ∧ Below w.heap.size w w'
  | .tok t f, e, w' => e = .returned (.tuple #[tokV t, .int .i64 (f : Int), .int .i64 0]) ∧ Below w.heap.size w w'
theorem results_ref {fn : Func} (hr : fn.results = #[.cell 4 30, .tmp 5, .tmp 6]) (tmps : Array Value) {w : World} {g : Nat} {v0 v1 v2 v3 : Value} (ht : tmps.getD 4 undef = .pointer (some ⟨g, 0, none⟩)) (h : Tk w g v0 v1 v2 v3) :
    (results fn tmps).run Tryd.prog w = .ok (.tuple #[.agg #[v0, v1, v2, v3], tmps.getD 5 undef, tmps.getD 6 undef]) w := by
  have c0 := h.c0
  have c1 := h.c1
  have c2 := h.c2
  have c3 := h.c3
  have ht' : tmps[4]?.getD undef = .pointer (some ⟨g, 0, none⟩) := by rw [← ht, Array.getD_eq_getD_getElem?]
  simp only [results, hr]
  simp [ht', go_sem, c0, c1, c2, c3]
/-- an upper-case letter stands between a and k -/
def upTo (s : ByteArray) (a k : Nat) : Bool := ((s.data.toList.drop a).take (k - a)).any (fun c => upperB c.toNat)
theorem upTo_step {s : ByteArray} {a k : Nat} (h : k < s.size) (ha : a ≤ k) : upTo s a (k + 1) = (upTo s a k || upperB s[k].toNat) := by
  unfold upTo
  have e : k + 1 - a = (k - a) + 1 := by omega
  have hl : k - a < (s.data.toList.drop a).length := by simp; omega
  rw [e, List.take_succ_eq_append_getElem hl, List.any_append]
  simp only [List.any_cons, List.any_nil, Bool.or_false]
  congr 2
  simp only [List.getElem_drop]
  have e2 : a + (k - a) = k := by omega
  simp only [e2]
  rfl
theorem upTo_run (s : ByteArray) (a : Nat) : upTo s a (runEnd wordB s.data.toList a) = (runOf wordB s.data.toList a).any (fun c => upperB c.toNat) := by
  unfold upTo
  rw [runOf_take]
theorem upTo_self (s : ByteArray) (a : Nat) : upTo s a a = false := by unfold upTo; simp
def WRel (s : ByteArray) (a : Nat) (e u : Value) : Prop :=
  ∃ k : Nat, a ≤ k ∧ k ≤ s.size ∧ e = .int .i64 k ∧ u = .bool (upTo s a k) ∧ runEnd wordB s.data.toList k = runEnd wordB s.data.toList a
set_option maxRecDepth 100000 in
set_option maxHeartbeats 4000000 in
theorem word_scan_ref (s : ByteArray) (a : Nat) (w : World) (ha : a ≤ s.size) (hs : s.size ≤ 65536) :
    Calls Tryd.prog 22 #[.string s, .int .i64 (a : Int)] w (RefPost w a (wordScan s.data.toList a)) := by
  have hk := Tk.new w (.int .i64 0) (.string ⟨#[]⟩) (.int .i64 0) (.int .i64 0)
  have hbw : Below w.heap.size w (w.alloc (.cells #[.int .i64 0, .string ⟨#[]⟩, .int .i64 0, .int .i64 0] 30)) := (Below.refl _ _).alloc (Nat.le_refl _) _
  have hll : (runOf wordB s.data.toList a).length ≤ 65536 := by
    have h1 := runEnd_le wordB s.data.toList a (by simpa using ha)
    rw [runOf_length]
    simp at h1
    omega
  go_enter Tryd.func22, Tryd.ntmps22
  go_wp2_with fail
  generalize w.alloc (.cells #[.int .i64 0, .string ⟨#[]⟩, .int .i64 0, .int .i64 0] 30) = w1 at hk hbw ⊢
  go_loop [7, 8] (fun e u => WRel s a e u) (fun e _ => s.size - (intOf e).toNat)
  case atStart => exact ⟨a, Nat.le_refl _, ha, rfl, by rw [upTo_self], rfl⟩
  case round =>
    obtain ⟨k, hak, hks, rfl, rfl, hre⟩ := hrel
    have HRE := Lib.hid hre
    clear hre
    by_cases hlt : k < s.size
    · have hb8 : s[k].toNat < 256 := s[k].toNat_lt
      have hkl : k < s.data.toList.length := by simpa using hlt
      have hel : s.data.toList[k] = s[k] := rfl
      have CL := Lib.hid (refLetter_any s[k].toNat w1 hb8)
      have CD := Lib.hid (refDigit_any s[k].toNat w1 hb8)
      rcases hc : wordB s[k].toNat with _ | _
      · have HE := Lib.hid ((runEnd_no hkl (by rw [hel]; exact hc)).symm.trans HRE.out)
        have hc1 : letterB s[k].toNat = false ∧ digitB s[k].toNat = false := by unfold wordB at hc; simpa using hc
        rw [hc1.1] at CL
        rw [hc1.2] at CD
        have HUB : Hid (upTo s a k = (runOf wordB s.data.toList a).any (fun c => upperB c.toNat)) := Lib.hid (by rw [HE.out, upTo_run])
        have HEX : Hid (s.extract a k = ⟨(runOf wordB s.data.toList a).toArray⟩) := Lib.hid (by rw [HE.out, extract_run])
        have hkE : (k : Int) = (runEnd wordB s.data.toList a : Int) := by rw [← HE.out]
        have j1 : (a : Int) ≤ (k : Int) := by omega
        have j2 : (k : Int) ≤ (s.size : Int) := by omega
        have j0 : (0 : Int) ≤ (a : Int) := by omega
        have HKE := Lib.hid hkE
        clear hc hc1 hkE
        generalize upTo s a k = ub at HUB ⊢
        go_wp2_with fail
        refine CL.out.mono ?_
        rintro e w' ⟨rfl, rfl⟩
        go_wp2_with fail
        refine CD.out.mono ?_
        rintro e w' ⟨rfl, rfl⟩
        go_wp2_with fail
        rw [HEX.out]
        clear HEX
        go_wp2_with fail
        refine (word_ref' _ _ (by omega)).mono ?_
        rintro e w2 ⟨rfl, hb2⟩
        replace hbw := hbw.trans (hb2.mono hbw.size)
        replace hk := hk.below hb2
        clear hb2
        rcases hW : isWord (runOf wordB s.data.toList a) with _ | _
        · rcases hU : (runOf wordB s.data.toList a).any (fun c => upperB c.toNat) with _ | _
          · rw [hU] at HUB
            have hub := HUB.out
            subst hub
            by_cases h24 : 24 < (runOf wordB s.data.toList a).length
            · have HF := Lib.hid (show wordScan s.data.toList a = .err 5 by unfold wordScan; rw [hW, hU, if_pos h24]; rfl)
              clear hW hU HUB
              have c0 := hk.c0
              have c1 := hk.c1
              have c2 := hk.c2
              have c3 := hk.c3
              have f0 := hk.free 0
              have f1 := hk.free 1
              have f2 := hk.free 2
              have f3 := hk.free 3
              go_wp2_with fail
              have hk4 := hk.set4 (.int .i64 0) (.string ⟨#[]⟩) (.int .i64 0) (.int .i64 0)
              refine bodyPost_ret (results_ref Tryd.results22 _ rfl hk4) rfl ?_
              rw [HF.out]
              exact ⟨rfl, (((hbw.setCell (Nat.le_refl _) _).setCell (Nat.le_refl _) _).setCell (Nat.le_refl _) _).setCell (Nat.le_refl _) _⟩
            · have HF := Lib.hid (show wordScan s.data.toList a = .tok ⟨1, runOf wordB s.data.toList a, 0, a⟩ k by unfold wordScan; rw [hW, hU, if_neg h24, ← HE.out]; rfl)
              clear hW hU HUB
              have c0 := hk.c0
              have c1 := hk.c1
              have c2 := hk.c2
              have c3 := hk.c3
              have f0 := hk.free 0
              have f1 := hk.free 1
              have f2 := hk.free 2
              have f3 := hk.free 3
              go_wp2_with fail
              have hk4 := hk.set4 (.int .i64 1) (.string ⟨(runOf wordB s.data.toList a).toArray⟩) (.int .i64 0) (.int .i64 a)
              refine bodyPost_ret (results_ref Tryd.results22 _ rfl hk4) rfl ?_
              rw [HF.out]
              exact ⟨rfl, (((hbw.setCell (Nat.le_refl _) _).setCell (Nat.le_refl _) _).setCell (Nat.le_refl _) _).setCell (Nat.le_refl _) _⟩
          · rw [hU] at HUB
            have hub := HUB.out
            subst hub
            have HF := Lib.hid (show wordScan s.data.toList a = .err 1 by unfold wordScan; rw [hW, hU]; rfl)
            clear hW hU HUB
            have c0 := hk.c0
            have c1 := hk.c1
            have c2 := hk.c2
            have c3 := hk.c3
            have f0 := hk.free 0
            have f1 := hk.free 1
            have f2 := hk.free 2
            have f3 := hk.free 3
            go_wp2_with fail
            have hk4 := hk.set4 (.int .i64 0) (.string ⟨#[]⟩) (.int .i64 0) (.int .i64 0)
            refine bodyPost_ret (results_ref Tryd.results22 _ rfl hk4) rfl ?_
            rw [HF.out]
            exact ⟨rfl, (((hbw.setCell (Nat.le_refl _) _).setCell (Nat.le_refl _) _).setCell (Nat.le_refl _) _).setCell (Nat.le_refl _) _⟩
        · have HF := Lib.hid (show wordScan s.data.toList a = .tok ⟨2, upL (runOf wordB s.data.toList a), 0, a⟩ k by unfold wordScan; rw [if_pos hW, ← HE.out])
          clear hW HUB
          go_wp2_with fail
          refine (upper_ref' _ _ (by omega)).mono ?_
          rintro e w3 ⟨rfl, hb3⟩
          replace hbw := hbw.trans (hb3.mono hbw.size)
          replace hk := hk.below hb3
          clear hb3
          have c0 := hk.c0
          have c1 := hk.c1
          have c2 := hk.c2
          have c3 := hk.c3
          have f0 := hk.free 0
          have f1 := hk.free 1
          have f2 := hk.free 2
          have f3 := hk.free 3
          go_wp2_with fail
          have hk4 := hk.set4 (.int .i64 2) (.string ⟨(upL (runOf wordB s.data.toList a)).toArray⟩) (.int .i64 0) (.int .i64 a)
          refine bodyPost_ret (results_ref Tryd.results22 _ rfl hk4) rfl ?_
          rw [HF.out]
          exact ⟨rfl, (((hbw.setCell (Nat.le_refl _) _).setCell (Nat.le_refl _) _).setCell (Nat.le_refl _) _).setCell (Nat.le_refl _) _⟩
      · have HE := Lib.hid ((runEnd_yes hkl (by rw [hel]; exact hc)).symm.trans HRE.out)
        have HUS := Lib.hid (upTo_step hlt hak)
        have hcc : letterB s[k].toNat = true ∨ (letterB s[k].toNat = false ∧ digitB s[k].toNat = true) := by
          unfold wordB at hc
          rcases h1 : letterB s[k].toNat with _ | _
          · rw [h1] at hc; exact .inr ⟨rfl, by simpa using hc⟩
          · exact .inl rfl
        clear hc
        generalize upTo s a k = ub at HUS ⊢
        have hup : (upperB s[k].toNat = true ∧ (65 : Int) ≤ (s[k].toNat : Int) ∧ (s[k].toNat : Int) ≤ 90) ∨ (upperB s[k].toNat = false ∧ (s[k].toNat : Int) < 65) ∨ (upperB s[k].toNat = false ∧ (65 : Int) ≤ (s[k].toNat : Int) ∧ 90 < (s[k].toNat : Int)) := by
          unfold upperB; simp; omega
        rcases hcc with h1 | ⟨h1, h2⟩
        · rw [h1] at CL
          clear CD
          rcases ub with _ | _ <;> rcases hup with ⟨hu, u1, u2⟩ | ⟨hu, u1⟩ | ⟨hu, u1, u2⟩
          all_goals
            rw [hu] at HUS
            clear hu h1
            go_wp2_with fail
            refine CL.out.mono ?_
            rintro e w' ⟨rfl, rfl⟩
            go_wp2_with fail
            go_round
            case rel => exact ⟨k + 1, by omega, by omega, by go_num, by rw [HUS.out]; first | rfl | (simp <;> omega), HE.out⟩
            case measure => simp [intOf]; omega
        · rw [h1] at CL
          rw [h2] at CD
          rcases ub with _ | _ <;> rcases hup with ⟨hu, u1, u2⟩ | ⟨hu, u1⟩ | ⟨hu, u1, u2⟩
          all_goals
            rw [hu] at HUS
            clear hu h1 h2
            go_wp2_with fail
            refine CL.out.mono ?_
            rintro e w' ⟨rfl, rfl⟩
            go_wp2_with fail
            refine CD.out.mono ?_
            rintro e w' ⟨rfl, rfl⟩
            go_wp2_with fail
            go_round
            case rel => exact ⟨k + 1, by omega, by omega, by go_num, by rw [HUS.out]; first | rfl | (simp <;> omega), HE.out⟩
            case measure => simp [intOf]; omega
    · obtain rfl : k = s.size := by omega
      have HE := Lib.hid ((runEnd_end (cls := wordB) (l := s.data.toList) (a := s.size) (by simp)).symm.trans HRE.out)
      have HUB : Hid (upTo s a s.size = (runOf wordB s.data.toList a).any (fun c => upperB c.toNat)) := Lib.hid (by rw [HE.out, upTo_run])
      have HEX : Hid (s.extract a s.size = ⟨(runOf wordB s.data.toList a).toArray⟩) := Lib.hid (by rw [HE.out, extract_run])
      have HKE : Hid ((s.size : Int) = (runEnd wordB s.data.toList a : Int)) := Lib.hid (by rw [← HE.out])
      have j1 : (a : Int) ≤ (s.size : Int) := by omega
      have j0 : (0 : Int) ≤ (a : Int) := by omega
      generalize upTo s a s.size = ub at HUB ⊢
      go_wp2_with fail
      rw [HEX.out]
      clear HEX
      go_wp2_with fail
      refine (word_ref' _ _ (by omega)).mono ?_
      rintro e w2 ⟨rfl, hb2⟩
      replace hbw := hbw.trans (hb2.mono hbw.size)
      replace hk := hk.below hb2
      clear hb2
      rcases hW : isWord (runOf wordB s.data.toList a) with _ | _
      · rcases hU : (runOf wordB s.data.toList a).any (fun c => upperB c.toNat) with _ | _
        · rw [hU] at HUB
          have hub := HUB.out
          subst hub
          by_cases h24 : 24 < (runOf wordB s.data.toList a).length
          · have HF := Lib.hid (show wordScan s.data.toList a = .err 5 by unfold wordScan; rw [hW, hU, if_pos h24]; rfl)
            clear hW hU HUB
            have c0 := hk.c0
            have c1 := hk.c1
            have c2 := hk.c2
            have c3 := hk.c3
            have f0 := hk.free 0
            have f1 := hk.free 1
            have f2 := hk.free 2
            have f3 := hk.free 3
            go_wp2_with fail
            have hk4 := hk.set4 (.int .i64 0) (.string ⟨#[]⟩) (.int .i64 0) (.int .i64 0)
            refine bodyPost_ret (results_ref Tryd.results22 _ rfl hk4) rfl ?_
            rw [HF.out]
            exact ⟨rfl, (((hbw.setCell (Nat.le_refl _) _).setCell (Nat.le_refl _) _).setCell (Nat.le_refl _) _).setCell (Nat.le_refl _) _⟩
          · have HF := Lib.hid (show wordScan s.data.toList a = .tok ⟨1, runOf wordB s.data.toList a, 0, a⟩ s.size by unfold wordScan; rw [hW, hU, if_neg h24, ← HE.out]; rfl)
            clear hW hU HUB
            have c0 := hk.c0
            have c1 := hk.c1
            have c2 := hk.c2
            have c3 := hk.c3
            have f0 := hk.free 0
            have f1 := hk.free 1
            have f2 := hk.free 2
            have f3 := hk.free 3
            go_wp2_with fail
            have hk4 := hk.set4 (.int .i64 1) (.string ⟨(runOf wordB s.data.toList a).toArray⟩) (.int .i64 0) (.int .i64 a)
            refine bodyPost_ret (results_ref Tryd.results22 _ rfl hk4) rfl ?_
            rw [HF.out]
            exact ⟨rfl, (((hbw.setCell (Nat.le_refl _) _).setCell (Nat.le_refl _) _).setCell (Nat.le_refl _) _).setCell (Nat.le_refl _) _⟩
        · rw [hU] at HUB
          have hub := HUB.out
          subst hub
          have HF := Lib.hid (show wordScan s.data.toList a = .err 1 by unfold wordScan; rw [hW, hU]; rfl)
          clear hW hU HUB
          have c0 := hk.c0
          have c1 := hk.c1
          have c2 := hk.c2
          have c3 := hk.c3
          have f0 := hk.free 0
          have f1 := hk.free 1
          have f2 := hk.free 2
          have f3 := hk.free 3
          go_wp2_with fail
          have hk4 := hk.set4 (.int .i64 0) (.string ⟨#[]⟩) (.int .i64 0) (.int .i64 0)
          refine bodyPost_ret (results_ref Tryd.results22 _ rfl hk4) rfl ?_
          rw [HF.out]
          exact ⟨rfl, (((hbw.setCell (Nat.le_refl _) _).setCell (Nat.le_refl _) _).setCell (Nat.le_refl _) _).setCell (Nat.le_refl _) _⟩
      · have HF := Lib.hid (show wordScan s.data.toList a = .tok ⟨2, upL (runOf wordB s.data.toList a), 0, a⟩ s.size by unfold wordScan; rw [if_pos hW, ← HE.out])
        clear hW HUB
        go_wp2_with fail
        refine (upper_ref' _ _ (by omega)).mono ?_
        rintro e w3 ⟨rfl, hb3⟩
        replace hbw := hbw.trans (hb3.mono hbw.size)
        replace hk := hk.below hb3
        clear hb3
        have c0 := hk.c0
        have c1 := hk.c1
        have c2 := hk.c2
        have c3 := hk.c3
        have f0 := hk.free 0
        have f1 := hk.free 1
        have f2 := hk.free 2
        have f3 := hk.free 3
        go_wp2_with fail
        have hk4 := hk.set4 (.int .i64 2) (.string ⟨(upL (runOf wordB s.data.toList a)).toArray⟩) (.int .i64 0) (.int .i64 a)
        refine bodyPost_ret (results_ref Tryd.results22 _ rfl hk4) rfl ?_
        rw [HF.out]
        exact ⟨rfl, (((hbw.setCell (Nat.le_refl _) _).setCell (Nat.le_refl _) _).setCell (Nat.le_refl _) _).setCell (Nat.le_refl _) _⟩
end Go.Proofs.YtlbmamcchomecaaDoor
