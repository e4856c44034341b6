/-
  The scanner's number.
-/
import Derived.Test.YtlbmamcchomecaaDoorLxScanW
namespace Go.Proofs.YtlbmamcchomecaaDoor
open Go.RowKit
set_option linter.unusedVariables false
set_option linter.unusedSimpArgs false

theorem numStep_le (n : Nat) (c : UInt8) : numStep n c ≤ 1125899906842625 := Nat.min_le_right _ _
theorem numVal_le (l : List UInt8) : numVal l ≤ 1125899906842625 := by
  unfold numVal
  rcases List.eq_nil_or_concat l with rfl | ⟨l', c, rfl⟩
  · simp
  · simp [List.foldl_append, numStep_le]
theorem numVal_snoc (l : List UInt8) (c : UInt8) : numVal (l ++ [c]) = numStep (numVal l) c := by simp [numVal, List.foldl_append]
theorem take_snoc (s : ByteArray) (k : Nat) (h : k < s.size) : s.data.toList.take (k + 1) = s.data.toList.take k ++ [s[k]] := by
  rw [List.take_succ_eq_append_getElem (by simpa using h)]; rfl
def NumRel (x : ByteArray) (n i : Value) : Prop := ∃ k : Nat, k ≤ x.size ∧ i = .int .i64 k ∧ n = .int .i64 (numVal (x.data.toList.take k) : Nat)
/-- the test on the number's shape -/
def headBad (r : List UInt8) : Bool := decide (1 < r.length) && decide (r.head? = some 48)
def nextBad (s : ByteArray) (E : Nat) : Bool := match s.data.toList[E]? with | some c => letterB c.toNat | none => false
theorem numberScan_eq (s : ByteArray) (a : Nat) : numberScan s.data.toList a = if headBad (runOf digitB s.data.toList a) || nextBad s (runEnd digitB s.data.toList a) then .err 1 else if 1125899906842624 < numVal (runOf digitB s.data.toList a) then .err 6 else .tok ⟨3, [], numVal (runOf digitB s.data.toList a), a⟩ (runEnd digitB s.data.toList a) := rfl
theorem head_one {x : ByteArray} (h : x.size ≤ 1) : headBad x.data.toList = false := by
  unfold headBad
  have : x.size = x.data.toList.length := by rw [Array.length_toList]; rfl
  rw [decide_eq_false (by omega)]
  rfl
theorem head_at {x : ByteArray} (h : 1 < x.size) : headBad x.data.toList = decide (x[0].toNat = 48) := by
  unfold headBad
  have hl : x.size = x.data.toList.length := by rw [Array.length_toList]; rfl
  rw [decide_eq_true (by omega), Bool.true_and]
  have e : x.data.toList.head? = some x[0] := by
    rw [List.head?_eq_getElem?, List.getElem?_eq_getElem (by omega)]
    rfl
  rw [e]
  simp only [Option.some.injEq]
  congr 1
  apply propext
  constructor
  · intro h; rw [h]; rfl
  · intro h; exact UInt8.toNat_inj.1 h
theorem next_end {s : ByteArray} {E : Nat} (h : s.size ≤ E) : nextBad s E = false := by
  unfold nextBad
  rw [List.getElem?_eq_none (by simpa using h)]
theorem next_at {s : ByteArray} {E : Nat} (h : E < s.size) : nextBad s E = letterB s[E].toNat := by
  unfold nextBad
  rw [List.getElem?_eq_getElem (by simpa using h)]
  rfl
theorem digit_range {n : Nat} (h : digitB n = true) : 48 ≤ n ∧ n ≤ 57 := by unfold digitB at h; simpa using h
theorem num_step (x : ByteArray) (k : Nat) (h : k < x.size) (hc : 48 ≤ x[k].toNat) : ((numVal (x.data.toList.take (k + 1)) : Nat) : Int) = min (10 * (numVal (x.data.toList.take k) : Int) + ((x[k].toNat : Int) - 48)) 1125899906842625 := by
  rw [take_snoc x k h, numVal_snoc]
  unfold numStep
  omega
theorem take_all (x : ByteArray) : x.data.toList.take x.size = x.data.toList := List.take_of_length_le (by simp)
theorem quiet_left {P : Program} {f : FuncId} {args : Array Value} {w : World} {n : Nat} {v : Value}
    (h : Calls P f args (w.drewN n) fun e w' => e = .returned v ∧ w.drewN n = w') : Calls P f args (w.drewN n) fun e w'' => e = .returned v ∧ ∃ m, w'' = w.drewN m :=
  h.mono fun _ _ ⟨he, hm⟩ => ⟨he, n, hm.symm⟩
set_option maxHeartbeats 2000000 in
theorem scan_number (b : Nat) (s : ByteArray) (a : Nat) (w : World) (h : Sc w b s a) (ha : a < s.size) (hd : digitB s[a].toNat = true) (hs : s.size ≤ 65536) :
    Calls Tryd.prog 41 #[.pointer (some ⟨b, 0, none⟩)] w (ScanPost w b s a (numberScan s.data.toList a)) := by
  have h0 := (h.alloc (.cells #[.int .i64 0, .string ⟨#[]⟩, .int .i64 0, .int .i64 0] 30)).at_
  go_enter Tryd.func41, Tryd.ntmps41
  go_wp2_with fail
  have hk0 := Tk.new w (.int .i64 0) (.string ⟨#[]⟩) (.int .i64 0) (.int .i64 0)
  have hsc0 := h.alloc (.cells #[.int .i64 0, .string ⟨#[]⟩, .int .i64 0, .int .i64 0] 30)
  have hg0 : w.grownBy (w.alloc (.cells #[.int .i64 0, .string ⟨#[]⟩, .int .i64 0, .int .i64 0] 30)) (some b) := World.grownBy_alloc w _ _
  have hbl := h.lt
  have hne : w.heap.size ≠ b := by omega
  have hal : a < s.data.toList.length := by simpa using ha
  have hE1 : a < runEnd digitB s.data.toList a := runEnd_lt hal hd
  have hE2 : runEnd digitB s.data.toList a ≤ s.size := by simpa using runEnd_le digitB s.data.toList a (by omega)
  clear h h0 hd
  refine (run_digit b s a _ hsc0 (by omega) hs).mono ?_
  rintro e w1 ⟨rfl, hsc1, hg1⟩
  have hk1 := hk0.grown hg1 hne
  have hG1 := grown_trans hg0 hg1
  clear hk0 hg0 hg1 hsc0
  have HX := Lib.hid (extract_run digitB s a)
  have HC : Hid (∀ c ∈ runOf digitB s.data.toList a, digitB c.toNat = true) := Lib.hid (fun c hc => runOf_cls hc)
  have HF := Lib.hid (numberScan_eq s a)
  have HL : Hid ((runOf digitB s.data.toList a).length = runEnd digitB s.data.toList a - a) := Lib.hid (runOf_length _ _ _)
  generalize hr : runOf digitB s.data.toList a = r at HX HC HF HL
  generalize hx : s.extract a (runEnd digitB s.data.toList a) = x at HX ⊢
  generalize hE : runEnd digitB s.data.toList a = E at *
  clear hr hx hE
  have hxl : x.data.toList = r := by rw [HX.out]
  have hxs : x.size = E - a := by
    have : x.size = x.data.toList.length := by rw [Array.length_toList]; rfl
    rw [this, hxl, HL.out]
  have hx1 : 1 ≤ x.size := by omega
  have hx2 : x.size ≤ 65536 := by omega
  have HXL := Lib.hid hxl
  rw [← hxl] at HF HC
  clear hxl hxs HX HL
  have hcs : ∀ W : World, ∀ hh : E < s.size, Calls Tryd.prog 33 #[.int .u8 (s[E].toNat : Int)] W fun e w' => e = .returned (.bool (letterB s[E].toNat)) ∧ w' = W := fun W hh => (letter_any s[E].toNat W s[E].toNat_lt).mono (fun _ _ h => ⟨h.1, h.2.symm⟩)
  have HCS := Lib.hid hcs
  clear hcs
  have t0 := hsc1.text
  have t1 := hsc1.at_
  have e0 : (0 : Int) ≤ (E : Int) := by omega
  have z0 : 0 < x.size := by omega
  have z1 : (0 : Int) < (x.size : Int) := by omega
  rcases Nat.lt_or_ge 1 x.size with hx | hx
  · have hA := head_at hx
    rcases Nat.decEq x[0].toNat 48 with h48 | h48
    · skip
      have HHB := Lib.hid (show headBad x.data.toList = false by rw [hA, decide_eq_false h48])
      have d0 : decide (1 < x.size) = true := decide_eq_true hx
      have d1 : decide ((1 : Int) < (x.size : Int)) = true := decide_eq_true (by omega)
      have d2 : ((x[0].toNat : Int) == 48) = false := beq_eq_false_iff_ne.2 (by omega)
      clear hA h48
      rcases Nat.lt_or_ge E s.size with hE | hE
      · have d3 : decide (E < s.size) = true := decide_eq_true hE
        have d4 : decide ((E : Int) < (s.size : Int)) = true := decide_eq_true (by omega)
        have i1 : (E : Int) < (s.size : Int) := by omega
        have hcl : ∀ W : World, Calls Tryd.prog 33 #[.int .u8 (s[E].toNat : Int)] W fun e w' => e = .returned (.bool (letterB s[E].toNat)) ∧ w' = W := fun W => HCS.out W hE
        have hN := next_at hE
        rcases hc : letterB s[E].toNat with _ | _
        · rw [hc] at hcl hN
          have HNB := Lib.hid hN
          have HCL := Lib.hid hcl
          clear hcl hc hN HCS
          go_wp2_with fail
          go_quiet ((go_at_call 33; exact Calls.quiet_of_same (HCL.out _)))
          go_wp2_with fail
          replace hk1 := hk1.drewN nq
          replace hsc1 := hsc1.drewN nq
          replace hG1 := only_drewN hG1 nq
          generalize w1.drewN nq = w2 at hk1 hsc1 hG1 ⊢
          clear t0 t1
          go_loop [5, 50] (fun n i => NumRel x n i) (fun _ i => x.size - (intOf i).toNat)
          case atStart => exact ⟨0, Nat.zero_le _, rfl, rfl⟩
          case round =>
            obtain ⟨k, hk, rfl, rfl⟩ := hrel
            have hnb := numVal_le (x.data.toList.take k)
            by_cases hlt : k < x.size
            · have hdr := digit_range (HC.out x[k] (List.getElem_mem (l := x.data.toList) (n := k) (by simpa using hlt)))
              have HS := Lib.hid (num_step x k hlt (by omega))
              have g1 : (48 : Int) ≤ (x[k].toNat : Int) := by omega
              have g2 : (x[k].toNat : Int) ≤ 57 := by omega
              generalize numVal (x.data.toList.take k) = n at hnb HS ⊢
              go_wp2_with fail
              go_round
              case rel => exact ⟨k + 1, by omega, by go_num, by rw [HS.out]⟩
              case measure => simp [intOf]; omega
            · obtain rfl : k = x.size := by omega
              have HE := Lib.hid (take_all x)
              have c0 := hk1.c0
              have c1 := hk1.c1
              have c2 := hk1.c2
              have c3 := hk1.c3
              have f0 := hk1.free 0
              have f1 := hk1.free 1
              have f2 := hk1.free 2
              have f3 := hk1.free 3
              rw [HE.out] at hnb ⊢
              by_cases hm : 1125899906842624 < numVal x.data.toList
              · have HFF := Lib.hid (HF.out.trans (by rw [HHB.out, HNB.out, Bool.or_false, if_neg (by decide), if_pos hm]))
                generalize numVal x.data.toList = n at hm hnb HFF ⊢
                clear HF
                go_wp2_with fail
                refine ⟨rfl, ?_⟩
                rw [HFF.out]
                exact ⟨rfl, hG1⟩
              · have HFF := Lib.hid (HF.out.trans (by rw [HHB.out, HNB.out, Bool.or_false, if_neg (by decide), if_neg hm]))
                generalize numVal x.data.toList = n at hm hnb HFF ⊢
                clear HF
                go_wp2_with fail
                have hk4 := hk1.set4 (.int .i64 3) (.string ⟨#[]⟩) (.int .i64 n) (.int .i64 a)
                refine bodyPost_ret (results_tok Tryd.results41 _ rfl hk4) rfl ?_
                rw [HFF.out]
                exact ⟨rfl, (((hsc1.far (Ne.symm hne) _ _).far (Ne.symm hne) _ _).far (Ne.symm hne) _ _).far (Ne.symm hne) _ _, only_new (only_new (only_new (only_new hG1 (Nat.le_refl _) _ _) (Nat.le_refl _) _ _) (Nat.le_refl _) _ _) (Nat.le_refl _) _ _⟩
        · rw [hc] at hcl hN
          have HCL := Lib.hid hcl
          have HFF := Lib.hid (HF.out.trans (by rw [HHB.out, hN, Bool.or_true, if_pos rfl]))
          clear hcl hc hN HF HC HXL HCS HHB
          go_wp2_with fail
          go_quiet ((go_at_call 33; exact Calls.quiet_of_same (HCL.out _)))
          go_wp2_with fail
          refine ⟨rfl, ?_⟩
          rw [HFF.out]
          exact ⟨rfl, only_drewN hG1 _⟩
      · have HNB := Lib.hid (next_end hE)
        have d3 : decide (E < s.size) = false := decide_eq_false (by omega)
        have d4 : decide ((E : Int) < (s.size : Int)) = false := decide_eq_false (by omega)
        clear HCS
        go_wp2_with fail
        go_quiet (fail)
        go_wp2_with fail
        replace hk1 := hk1.drewN nq
        replace hsc1 := hsc1.drewN nq
        replace hG1 := only_drewN hG1 nq
        generalize w1.drewN nq = w2 at hk1 hsc1 hG1 ⊢
        clear t0 t1
        go_loop [5, 50] (fun n i => NumRel x n i) (fun _ i => x.size - (intOf i).toNat)
        case atStart => exact ⟨0, Nat.zero_le _, rfl, rfl⟩
        case round =>
          obtain ⟨k, hk, rfl, rfl⟩ := hrel
          have hnb := numVal_le (x.data.toList.take k)
          by_cases hlt : k < x.size
          · have hdr := digit_range (HC.out x[k] (List.getElem_mem (l := x.data.toList) (n := k) (by simpa using hlt)))
            have HS := Lib.hid (num_step x k hlt (by omega))
            have g1 : (48 : Int) ≤ (x[k].toNat : Int) := by omega
            have g2 : (x[k].toNat : Int) ≤ 57 := by omega
            generalize numVal (x.data.toList.take k) = n at hnb HS ⊢
            go_wp2_with fail
            go_round
            case rel => exact ⟨k + 1, by omega, by go_num, by rw [HS.out]⟩
            case measure => simp [intOf]; omega
          · obtain rfl : k = x.size := by omega
            have HE := Lib.hid (take_all x)
            have c0 := hk1.c0
            have c1 := hk1.c1
            have c2 := hk1.c2
            have c3 := hk1.c3
            have f0 := hk1.free 0
            have f1 := hk1.free 1
            have f2 := hk1.free 2
            have f3 := hk1.free 3
            rw [HE.out] at hnb ⊢
            by_cases hm : 1125899906842624 < numVal x.data.toList
            · have HFF := Lib.hid (HF.out.trans (by rw [HHB.out, HNB.out, Bool.or_false, if_neg (by decide), if_pos hm]))
              generalize numVal x.data.toList = n at hm hnb HFF ⊢
              clear HF
              go_wp2_with fail
              refine ⟨rfl, ?_⟩
              rw [HFF.out]
              exact ⟨rfl, hG1⟩
            · have HFF := Lib.hid (HF.out.trans (by rw [HHB.out, HNB.out, Bool.or_false, if_neg (by decide), if_neg hm]))
              generalize numVal x.data.toList = n at hm hnb HFF ⊢
              clear HF
              go_wp2_with fail
              have hk4 := hk1.set4 (.int .i64 3) (.string ⟨#[]⟩) (.int .i64 n) (.int .i64 a)
              refine bodyPost_ret (results_tok Tryd.results41 _ rfl hk4) rfl ?_
              rw [HFF.out]
              exact ⟨rfl, (((hsc1.far (Ne.symm hne) _ _).far (Ne.symm hne) _ _).far (Ne.symm hne) _ _).far (Ne.symm hne) _ _, only_new (only_new (only_new (only_new hG1 (Nat.le_refl _) _ _) (Nat.le_refl _) _ _) (Nat.le_refl _) _ _) (Nat.le_refl _) _ _⟩
    · rw [decide_eq_true h48] at hA
      have HA := Lib.hid hA
      have d0 : decide (1 < x.size) = true := decide_eq_true hx
      have d1 : decide ((1 : Int) < (x.size : Int)) = true := decide_eq_true (by omega)
      have d2 : ((x[0].toNat : Int) == 48) = true := by rw [h48]; rfl
      have HFF := Lib.hid (HF.out.trans (by rw [HA.out, Bool.true_or, if_pos rfl]))
      clear hA h48 HF HC HXL HA HCS
      go_wp2_with fail
      go_quiet (fail)
      go_wp2_with fail
      refine ⟨rfl, ?_⟩
      rw [HFF.out]
      exact ⟨rfl, only_drewN hG1 _⟩
  · skip
    have HHB := Lib.hid (head_one hx)
    have d0 : decide (1 < x.size) = false := decide_eq_false (by omega)
    have d1 : decide ((1 : Int) < (x.size : Int)) = false := decide_eq_false (by omega)
    rcases Nat.lt_or_ge E s.size with hE | hE
    · have d3 : decide (E < s.size) = true := decide_eq_true hE
      have d4 : decide ((E : Int) < (s.size : Int)) = true := decide_eq_true (by omega)
      have i1 : (E : Int) < (s.size : Int) := by omega
      have hcl : ∀ W : World, Calls Tryd.prog 33 #[.int .u8 (s[E].toNat : Int)] W fun e w' => e = .returned (.bool (letterB s[E].toNat)) ∧ w' = W := fun W => HCS.out W hE
      have hN := next_at hE
      rcases hc : letterB s[E].toNat with _ | _
      · rw [hc] at hcl hN
        have HNB := Lib.hid hN
        have HCL := Lib.hid hcl
        clear hcl hc hN HCS
        go_wp2_with fail
        go_quiet ((go_at_call 33; exact Calls.quiet_of_same (HCL.out _)))
        go_wp2_with fail
        replace hk1 := hk1.drewN nq
        replace hsc1 := hsc1.drewN nq
        replace hG1 := only_drewN hG1 nq
        generalize w1.drewN nq = w2 at hk1 hsc1 hG1 ⊢
        clear t0 t1
        go_loop [5, 50] (fun n i => NumRel x n i) (fun _ i => x.size - (intOf i).toNat)
        case atStart => exact ⟨0, Nat.zero_le _, rfl, rfl⟩
        case round =>
          obtain ⟨k, hk, rfl, rfl⟩ := hrel
          have hnb := numVal_le (x.data.toList.take k)
          by_cases hlt : k < x.size
          · have hdr := digit_range (HC.out x[k] (List.getElem_mem (l := x.data.toList) (n := k) (by simpa using hlt)))
            have HS := Lib.hid (num_step x k hlt (by omega))
            have g1 : (48 : Int) ≤ (x[k].toNat : Int) := by omega
            have g2 : (x[k].toNat : Int) ≤ 57 := by omega
            generalize numVal (x.data.toList.take k) = n at hnb HS ⊢
            go_wp2_with fail
            go_round
            case rel => exact ⟨k + 1, by omega, by go_num, by rw [HS.out]⟩
            case measure => simp [intOf]; omega
          · obtain rfl : k = x.size := by omega
            have HE := Lib.hid (take_all x)
            have c0 := hk1.c0
            have c1 := hk1.c1
            have c2 := hk1.c2
            have c3 := hk1.c3
            have f0 := hk1.free 0
            have f1 := hk1.free 1
            have f2 := hk1.free 2
            have f3 := hk1.free 3
            rw [HE.out] at hnb ⊢
            by_cases hm : 1125899906842624 < numVal x.data.toList
            · have HFF := Lib.hid (HF.out.trans (by rw [HHB.out, HNB.out, Bool.or_false, if_neg (by decide), if_pos hm]))
              generalize numVal x.data.toList = n at hm hnb HFF ⊢
              clear HF
              go_wp2_with fail
              refine ⟨rfl, ?_⟩
              rw [HFF.out]
              exact ⟨rfl, hG1⟩
            · have HFF := Lib.hid (HF.out.trans (by rw [HHB.out, HNB.out, Bool.or_false, if_neg (by decide), if_neg hm]))
              generalize numVal x.data.toList = n at hm hnb HFF ⊢
              clear HF
              go_wp2_with fail
              have hk4 := hk1.set4 (.int .i64 3) (.string ⟨#[]⟩) (.int .i64 n) (.int .i64 a)
              refine bodyPost_ret (results_tok Tryd.results41 _ rfl hk4) rfl ?_
              rw [HFF.out]
              exact ⟨rfl, (((hsc1.far (Ne.symm hne) _ _).far (Ne.symm hne) _ _).far (Ne.symm hne) _ _).far (Ne.symm hne) _ _, only_new (only_new (only_new (only_new hG1 (Nat.le_refl _) _ _) (Nat.le_refl _) _ _) (Nat.le_refl _) _ _) (Nat.le_refl _) _ _⟩
      · rw [hc] at hcl hN
        have HCL := Lib.hid hcl
        have HFF := Lib.hid (HF.out.trans (by rw [HHB.out, hN, Bool.or_true, if_pos rfl]))
        clear hcl hc hN HF HC HXL HCS HHB
        go_wp2_with fail
        go_quiet ((go_at_call 33; exact Calls.quiet_of_same (HCL.out _)))
        go_wp2_with fail
        refine ⟨rfl, ?_⟩
        rw [HFF.out]
        exact ⟨rfl, only_drewN hG1 _⟩
    · have HNB := Lib.hid (next_end hE)
      have d3 : decide (E < s.size) = false := decide_eq_false (by omega)
      have d4 : decide ((E : Int) < (s.size : Int)) = false := decide_eq_false (by omega)
      clear HCS
      go_wp2_with fail
      go_quiet (fail)
      go_wp2_with fail
      replace hk1 := hk1.drewN nq
      replace hsc1 := hsc1.drewN nq
      replace hG1 := only_drewN hG1 nq
      generalize w1.drewN nq = w2 at hk1 hsc1 hG1 ⊢
      clear t0 t1
      go_loop [5, 50] (fun n i => NumRel x n i) (fun _ i => x.size - (intOf i).toNat)
      case atStart => exact ⟨0, Nat.zero_le _, rfl, rfl⟩
      case round =>
        obtain ⟨k, hk, rfl, rfl⟩ := hrel
        have hnb := numVal_le (x.data.toList.take k)
        by_cases hlt : k < x.size
        · have hdr := digit_range (HC.out x[k] (List.getElem_mem (l := x.data.toList) (n := k) (by simpa using hlt)))
          have HS := Lib.hid (num_step x k hlt (by omega))
          have g1 : (48 : Int) ≤ (x[k].toNat : Int) := by omega
          have g2 : (x[k].toNat : Int) ≤ 57 := by omega
          generalize numVal (x.data.toList.take k) = n at hnb HS ⊢
          go_wp2_with fail
          go_round
          case rel => exact ⟨k + 1, by omega, by go_num, by rw [HS.out]⟩
          case measure => simp [intOf]; omega
        · obtain rfl : k = x.size := by omega
          have HE := Lib.hid (take_all x)
          have c0 := hk1.c0
          have c1 := hk1.c1
          have c2 := hk1.c2
          have c3 := hk1.c3
          have f0 := hk1.free 0
          have f1 := hk1.free 1
          have f2 := hk1.free 2
          have f3 := hk1.free 3
          rw [HE.out] at hnb ⊢
          by_cases hm : 1125899906842624 < numVal x.data.toList
          · have HFF := Lib.hid (HF.out.trans (by rw [HHB.out, HNB.out, Bool.or_false, if_neg (by decide), if_pos hm]))
            generalize numVal x.data.toList = n at hm hnb HFF ⊢
            clear HF
            go_wp2_with fail
            refine ⟨rfl, ?_⟩
            rw [HFF.out]
            exact ⟨rfl, hG1⟩
          · have HFF := Lib.hid (HF.out.trans (by rw [HHB.out, HNB.out, Bool.or_false, if_neg (by decide), if_neg hm]))
            generalize numVal x.data.toList = n at hm hnb HFF ⊢
            clear HF
            go_wp2_with fail
            have hk4 := hk1.set4 (.int .i64 3) (.string ⟨#[]⟩) (.int .i64 n) (.int .i64 a)
            refine bodyPost_ret (results_tok Tryd.results41 _ rfl hk4) rfl ?_
            rw [HFF.out]
            exact ⟨rfl, (((hsc1.far (Ne.symm hne) _ _).far (Ne.symm hne) _ _).far (Ne.symm hne) _ _).far (Ne.symm hne) _ _, only_new (only_new (only_new (only_new hG1 (Nat.le_refl _) _ _) (Nat.le_refl _) _ _) (Nat.le_refl _) _ _) (Nat.le_refl _) _ _⟩
end Go.Proofs.YtlbmamcchomecaaDoor
