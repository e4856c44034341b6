/-
  The reference's number.
-/
import Derived.Test.YtlbmamcchomecaaDoorLrScanW
namespace Go.Proofs.YtlbmamcchomecaaDoor
open Go.RowKit
set_option linter.unusedVariables false
set_option linter.unusedSimpArgs false

def valTo (s : ByteArray) (a k : Nat) : Nat := numVal ((s.data.toList.drop a).take (k - a))
theorem valTo_step {s : ByteArray} {a k : Nat} (h : k < s.size) (ha : a ≤ k) (hc : 48 ≤ s[k].toNat) : ((valTo s a (k + 1) : Nat) : Int) = min ((valTo s a k : Int) * 10 + ((s[k].toNat : Int) - 48)) 1125899906842625 := by
  unfold valTo
  have e : k + 1 - a = (k - a) + 1 := by omega
  have hl : k - a < (s.data.toList.drop a).length := by simp; omega
  have hx : (s.data.toList.drop a)[k - a] = s[k] := by
    simp only [List.getElem_drop]
    have e2 : a + (k - a) = k := by omega
    simp only [e2]
    rfl
  rw [e, List.take_succ_eq_append_getElem hl, numVal_snoc, hx]
  unfold numStep
  omega
theorem valTo_run (s : ByteArray) (a : Nat) : valTo s a (runEnd digitB s.data.toList a) = numVal (runOf digitB s.data.toList a) := by
  unfold valTo
  rw [runOf_take]
theorem valTo_self (s : ByteArray) (a : Nat) : valTo s a a = 0 := by unfold valTo; simp [numVal]
theorem numberScan_at {s : ByteArray} {a k : Nat} (ha : a < s.size) (hd : digitB s[a].toNat = true) (hk : k = runEnd digitB s.data.toList a) :
    numberScan s.data.toList a = if (decide (s[a].toNat = 48) && decide (a + 1 < k)) || nextBad s k then .err 1 else if 1125899906842624 < numVal (runOf digitB s.data.toList a) then .err 6 else .tok ⟨3, [], numVal (runOf digitB s.data.toList a), a⟩ k := by
  rw [numberScan_eq, ← hk]
  have hlen : (runOf digitB s.data.toList a).length = k - a := by rw [runOf_length, ← hk]
  have hal : a < s.data.toList.length := by simpa using ha
  have hhd : (runOf digitB s.data.toList a).head? = some s[a] := by
    unfold runOf
    rw [List.drop_eq_getElem_cons hal, List.takeWhile_cons]
    have : digitB s.data.toList[a].toNat = true := hd
    rw [if_pos this]
    rfl
  have e : headBad (runOf digitB s.data.toList a) = (decide (s[a].toNat = 48) && decide (a + 1 < k)) := by
    unfold headBad
    rw [hlen, hhd, Bool.and_comm]
    congr 1
    · simp only [Option.some.injEq]
      congr 1
      apply propext
      constructor
      · intro h; rw [h]; rfl
      · intro h; exact UInt8.toNat_inj.1 h
    · congr 1
      apply propext
      omega
  rw [e]
def NRel (s : ByteArray) (a : Nat) (e n : Value) : Prop :=
  ∃ k : Nat, a ≤ k ∧ k ≤ s.size ∧ e = .int .i64 k ∧ n = .int .i64 (valTo s a k : Nat) ∧ runEnd digitB s.data.toList k = runEnd digitB s.data.toList a
set_option maxRecDepth 100000 in
set_option maxHeartbeats 4000000 in
theorem number_scan_ref (s : ByteArray) (a : Nat) (w : World) (ha : a < s.size) (hd : digitB s[a].toNat = true) (hs : s.size ≤ 65536) :
    Calls Tryd.prog 24 #[.string s, .int .i64 (a : Int)] w (RefPost w a (numberScan s.data.toList a)) := by
  have hk := Tk.new w (.int .i64 0) (.string ⟨#[]⟩) (.int .i64 0) (.int .i64 0)
  have hbw : Below w.heap.size w (w.alloc (.cells #[.int .i64 0, .string ⟨#[]⟩, .int .i64 0, .int .i64 0] 30)) := (Below.refl _ _).alloc (Nat.le_refl _) _
  have HD := Lib.hid hd
  clear hd
  go_enter Tryd.func24, Tryd.ntmps24
  go_wp2_with fail
  generalize w.alloc (.cells #[.int .i64 0, .string ⟨#[]⟩, .int .i64 0, .int .i64 0] 30) = w1 at hk hbw ⊢
  go_loop [7, 8] (fun e n => NRel s a e n) (fun e _ => s.size - (intOf e).toNat)
  case atStart => exact ⟨a, Nat.le_refl _, by omega, rfl, by rw [valTo_self]; rfl, rfl⟩
  case round =>
    obtain ⟨k, hak, hks, rfl, rfl, hre⟩ := hrel
    have HRE := Lib.hid hre
    clear hre
    have hvb : valTo s a k ≤ 1125899906842625 := numVal_le _
    by_cases hlt : k < s.size
    · have hb8 : s[k].toNat < 256 := s[k].toNat_lt
      have hkl : k < s.data.toList.length := by simpa using hlt
      have hel : s.data.toList[k] = s[k] := rfl
      have CL := Lib.hid (refLetter_any s[k].toNat w1 hb8)
      have CD := Lib.hid (refDigit_any s[k].toNat w1 hb8)
      have i0 : (0 : Int) ≤ (k : Int) := by omega
      have i1 : (k : Int) < (s.size : Int) := by omega
      rcases hc : digitB s[k].toNat with _ | _
      · have HE := Lib.hid ((runEnd_no hkl (by rw [hel]; exact hc)).symm.trans HRE.out)
        have HNV : Hid (valTo s a k = numVal (runOf digitB s.data.toList a)) := Lib.hid (by rw [HE.out, valTo_run])
        rw [hc] at CD
        clear hc
        have HNS := Lib.hid (numberScan_at ha HD.out HE.out)
        have a0 : (0 : Int) ≤ (a : Int) := by omega
        have a1 : (a : Int) < (s.size : Int) := by omega
        by_cases h48 : s[a].toNat = 48 ∧ a + 1 < k
        · have HF := Lib.hid (HNS.out.trans (by rw [decide_eq_true h48.1, decide_eq_true h48.2, Bool.and_self, Bool.true_or, if_pos rfl]))
          have d5 : ((s[a].toNat : Int) == 48) = true := beq_iff_eq.2 (by omega)
          have d6 : (a : Int) + 1 < (k : Int) := by omega
          clear h48
          go_wp2_with fail
          refine CD.out.mono ?_
          rintro e w' ⟨rfl, rfl⟩
          have c0 := hk.c0
          have c1 := hk.c1
          have c2 := hk.c2
          have c3 := hk.c3
          have f0 := hk.free 0
          have f1 := hk.free 1
          have f2 := hk.free 2
          have f3 := hk.free 3
          go_wp2_with fail
          have hk4 := hk.set4 (.int .i64 0) (.string ⟨#[]⟩) (.int .i64 0) (.int .i64 0)
          refine bodyPost_ret (results_ref Tryd.results24 _ rfl hk4) rfl ?_
          rw [HF.out]
          exact ⟨rfl, (((hbw.setCell (Nat.le_refl _) _).setCell (Nat.le_refl _) _).setCell (Nat.le_refl _) _).setCell (Nat.le_refl _) _⟩
        · have HHD : Hid ((decide (s[a].toNat = 48) && decide (a + 1 < k)) = false) := Lib.hid (by simp; omega)
          have hn48 : s[a].toNat ≠ 48 ∨ k ≤ a + 1 := by omega
          rcases hc : letterB s[k].toNat with _ | _
          · have HNB : Hid (nextBad s k = false) := Lib.hid (by rw [next_at hlt]; exact hc)
            rw [hc] at CL
            clear hc
            have hn49 : ((s[a].toNat : Int) == 48) = false ∨ (((s[a].toNat : Int) == 48) = true ∧ (k : Int) ≤ (a : Int) + 1) := by
              by_cases e : s[a].toNat = 48
              · exact .inr ⟨beq_iff_eq.2 (by omega), by omega⟩
              · exact .inl (beq_eq_false_iff_ne.2 (by omega))
            rcases hn49 with d5 | ⟨d5, d6⟩
            all_goals
              go_wp2_with fail
              refine CD.out.mono ?_
              rintro e w' ⟨rfl, rfl⟩
              go_wp2_with fail
              refine CL.out.mono ?_
              rintro e w' ⟨rfl, rfl⟩
              clear hn48 d5
              rcases Nat.lt_or_ge 1125899906842624 (numVal (runOf digitB s.data.toList a)) with hm | hm
              · have HF := Lib.hid (HNS.out.trans (by rw [HHD.out, HNB.out, Bool.or_false, if_neg (by decide), if_pos hm]))
                rw [HNV.out]
                generalize numVal (runOf digitB s.data.toList a) = n at hm HF ⊢
                have c0 := hk.c0
                have c1 := hk.c1
                have c2 := hk.c2
                have c3 := hk.c3
                have f0 := hk.free 0
                have f1 := hk.free 1
                have f2 := hk.free 2
                have f3 := hk.free 3
                go_wp2_with fail
                have hk4 := hk.set4 (.int .i64 0) (.string ⟨#[]⟩) (.int .i64 0) (.int .i64 0)
                refine bodyPost_ret (results_ref Tryd.results24 _ rfl hk4) rfl ?_
                rw [HF.out]
                exact ⟨rfl, (((hbw.setCell (Nat.le_refl _) _).setCell (Nat.le_refl _) _).setCell (Nat.le_refl _) _).setCell (Nat.le_refl _) _⟩
              · have HF := Lib.hid (HNS.out.trans (by rw [HHD.out, HNB.out, Bool.or_false, if_neg (by decide), if_neg (by omega)]))
                have hm2 := numVal_le (runOf digitB s.data.toList a)
                rw [HNV.out]
                generalize numVal (runOf digitB s.data.toList a) = n at hm hm2 HF ⊢
                have c0 := hk.c0
                have c1 := hk.c1
                have c2 := hk.c2
                have c3 := hk.c3
                have f0 := hk.free 0
                have f1 := hk.free 1
                have f2 := hk.free 2
                have f3 := hk.free 3
                go_wp2_with fail
                have hk4 := hk.set4 (.int .i64 3) (.string ⟨#[]⟩) (.int .i64 n) (.int .i64 a)
                refine bodyPost_ret (results_ref Tryd.results24 _ rfl hk4) rfl ?_
                rw [HF.out]
                exact ⟨rfl, (((hbw.setCell (Nat.le_refl _) _).setCell (Nat.le_refl _) _).setCell (Nat.le_refl _) _).setCell (Nat.le_refl _) _⟩
          · have HF := Lib.hid (HNS.out.trans (by rw [HHD.out, next_at hlt, hc, Bool.or_true, if_pos rfl]))
            rw [hc] at CL
            clear hc
            have hn49 : ((s[a].toNat : Int) == 48) = false ∨ (((s[a].toNat : Int) == 48) = true ∧ (k : Int) ≤ (a : Int) + 1) := by
              by_cases e : s[a].toNat = 48
              · exact .inr ⟨beq_iff_eq.2 (by omega), by omega⟩
              · exact .inl (beq_eq_false_iff_ne.2 (by omega))
            rcases hn49 with d5 | ⟨d5, d6⟩
            all_goals
              go_wp2_with fail
              refine CD.out.mono ?_
              rintro e w' ⟨rfl, rfl⟩
              go_wp2_with fail
              refine CL.out.mono ?_
              rintro e w' ⟨rfl, rfl⟩
              have c0 := hk.c0
              have c1 := hk.c1
              have c2 := hk.c2
              have c3 := hk.c3
              have f0 := hk.free 0
              have f1 := hk.free 1
              have f2 := hk.free 2
              have f3 := hk.free 3
              go_wp2_with fail
              have hk4 := hk.set4 (.int .i64 0) (.string ⟨#[]⟩) (.int .i64 0) (.int .i64 0)
              refine bodyPost_ret (results_ref Tryd.results24 _ rfl hk4) rfl ?_
              rw [HF.out]
              exact ⟨rfl, (((hbw.setCell (Nat.le_refl _) _).setCell (Nat.le_refl _) _).setCell (Nat.le_refl _) _).setCell (Nat.le_refl _) _⟩
      · have HE := Lib.hid ((runEnd_yes hkl (by rw [hel]; exact hc)).symm.trans HRE.out)
        have hdr := digit_range hc
        have HVS := Lib.hid (valTo_step hlt hak hdr.1)
        have g1 : (48 : Int) ≤ (s[k].toNat : Int) := by omega
        have g2 : (s[k].toNat : Int) ≤ 57 := by omega
        rw [hc] at CD
        clear hc CL
        generalize valTo s a k = n at hvb HVS ⊢
        go_wp2_with fail
        refine CD.out.mono ?_
        rintro e w' ⟨rfl, rfl⟩
        go_wp2_with fail
        go_round
        case rel => exact ⟨k + 1, by omega, by omega, by go_num, by rw [HVS.out], HE.out⟩
        case measure => simp [intOf]; omega
    · obtain rfl : k = s.size := by omega
      have HE := Lib.hid ((runEnd_end (cls := digitB) (l := s.data.toList) (a := s.size) (by simp)).symm.trans HRE.out)
      have HNV : Hid (valTo s a s.size = numVal (runOf digitB s.data.toList a)) := Lib.hid (by rw [HE.out, valTo_run])
      have HNS := Lib.hid (numberScan_at ha HD.out HE.out)
      have a0 : (0 : Int) ≤ (a : Int) := by omega
      have a1 : (a : Int) < (s.size : Int) := by omega
      by_cases h48 : s[a].toNat = 48 ∧ a + 1 < s.size
      · have HF := Lib.hid (HNS.out.trans (by rw [decide_eq_true h48.1, decide_eq_true h48.2, Bool.and_self, Bool.true_or, if_pos rfl]))
        have d5 : ((s[a].toNat : Int) == 48) = true := beq_iff_eq.2 (by omega)
        have d6 : (a : Int) + 1 < (s.size : Int) := by omega
        clear h48
        have c0 := hk.c0
        have c1 := hk.c1
        have c2 := hk.c2
        have c3 := hk.c3
        have f0 := hk.free 0
        have f1 := hk.free 1
        have f2 := hk.free 2
        have f3 := hk.free 3
        go_wp2_with fail
        have hk4 := hk.set4 (.int .i64 0) (.string ⟨#[]⟩) (.int .i64 0) (.int .i64 0)
        refine bodyPost_ret (results_ref Tryd.results24 _ rfl hk4) rfl ?_
        rw [HF.out]
        exact ⟨rfl, (((hbw.setCell (Nat.le_refl _) _).setCell (Nat.le_refl _) _).setCell (Nat.le_refl _) _).setCell (Nat.le_refl _) _⟩
      · have HHD : Hid ((decide (s[a].toNat = 48) && decide (a + 1 < s.size)) = false) := Lib.hid (by simp; omega)
        have hn48 : s[a].toNat ≠ 48 ∨ s.size ≤ a + 1 := by omega
        have HNB : Hid (nextBad s s.size = false) := Lib.hid (next_end (Nat.le_refl _))
        have hn49 : ((s[a].toNat : Int) == 48) = false ∨ (((s[a].toNat : Int) == 48) = true ∧ (s.size : Int) ≤ (a : Int) + 1) := by
          by_cases e : s[a].toNat = 48
          · exact .inr ⟨beq_iff_eq.2 (by omega), by omega⟩
          · exact .inl (beq_eq_false_iff_ne.2 (by omega))
        rcases hn49 with d5 | ⟨d5, d6⟩
        all_goals
          rcases Nat.lt_or_ge 1125899906842624 (numVal (runOf digitB s.data.toList a)) with hm | hm
          · have HF := Lib.hid (HNS.out.trans (by rw [HHD.out, HNB.out, Bool.or_false, if_neg (by decide), if_pos hm]))
            rw [HNV.out]
            generalize numVal (runOf digitB s.data.toList a) = n at hm HF ⊢
            have c0 := hk.c0
            have c1 := hk.c1
            have c2 := hk.c2
            have c3 := hk.c3
            have f0 := hk.free 0
            have f1 := hk.free 1
            have f2 := hk.free 2
            have f3 := hk.free 3
            go_wp2_with fail
            have hk4 := hk.set4 (.int .i64 0) (.string ⟨#[]⟩) (.int .i64 0) (.int .i64 0)
            refine bodyPost_ret (results_ref Tryd.results24 _ rfl hk4) rfl ?_
            rw [HF.out]
            exact ⟨rfl, (((hbw.setCell (Nat.le_refl _) _).setCell (Nat.le_refl _) _).setCell (Nat.le_refl _) _).setCell (Nat.le_refl _) _⟩
          · have HF := Lib.hid (HNS.out.trans (by rw [HHD.out, HNB.out, Bool.or_false, if_neg (by decide), if_neg (by omega)]))
            have hm2 := numVal_le (runOf digitB s.data.toList a)
            rw [HNV.out]
            generalize numVal (runOf digitB s.data.toList a) = n at hm hm2 HF ⊢
            have c0 := hk.c0
            have c1 := hk.c1
            have c2 := hk.c2
            have c3 := hk.c3
            have f0 := hk.free 0
            have f1 := hk.free 1
            have f2 := hk.free 2
            have f3 := hk.free 3
            go_wp2_with fail
            have hk4 := hk.set4 (.int .i64 3) (.string ⟨#[]⟩) (.int .i64 n) (.int .i64 a)
            refine bodyPost_ret (results_ref Tryd.results24 _ rfl hk4) rfl ?_
            rw [HF.out]
            exact ⟨rfl, (((hbw.setCell (Nat.le_refl _) _).setCell (Nat.le_refl _) _).setCell (Nat.le_refl _) _).setCell (Nat.le_refl _) _⟩
end Go.Proofs.YtlbmamcchomecaaDoor
