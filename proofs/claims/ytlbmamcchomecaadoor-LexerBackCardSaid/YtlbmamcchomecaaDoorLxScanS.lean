/-
  The scanner's symbol.
-/
import Derived.Test.YtlbmamcchomecaaDoorLxScanW
import Derived.StillTailTactics
import Derived.BigRegion
import Derived.IntWalk
import Derived.Outline
namespace Go.Proofs.YtlbmamcchomecaaDoor
open Go.RowKit
set_option linter.unusedVariables false
set_option linter.unusedSimpArgs false

theorem Tk.far {w : World} {g : Nat} {v0 v1 v2 v3 : Value} (h : Tk w g v0 v1 v2 v3) {b : Nat} (hne : g ≠ b) (j : Nat) (u : Value) : Tk (w.setCell ⟨b, j, none⟩ u) g v0 v1 v2 v3 := (Below.heap_setCell w _ u g hne).trans h
theorem bytes_ext {x y : ByteArray} (h : x.data.toList = y.data.toList) : x = y := by
  apply ByteArray.ext
  exact Array.ext' h
theorem symScan_two {s : ByteArray} {a : Nat} {l : List UInt8} (h : (s.extract a (a + 2)).data.toList = l) (hl : twos.contains l = true) : symScan s.data.toList a = .tok ⟨5, l, 0, a⟩ (a + 2) := by
  rw [extract_bytes, mk_list] at h
  have e : a + 2 - a = 2 := by omega
  rw [e] at h
  unfold symScan
  rw [h, if_pos hl]
theorem symScan_one {s : ByteArray} {a : Nat} (ha : a < s.size) (h : twos.contains ((s.data.toList.drop a).take 2) = false) : symScan s.data.toList a = if ones.contains s[a] then .tok ⟨5, [s[a]], 0, a⟩ (a + 1) else .err 1 := by
  unfold symScan
  rw [h, List.getElem?_eq_getElem (by simpa using ha)]
  rfl
theorem two_no {s : ByteArray} {a : Nat} (h : s.size < a + 2) : twos.contains ((s.data.toList.drop a).take 2) = false := by
  have hl : ((s.data.toList.drop a).take 2).length < 2 := by simp; omega
  generalize (s.data.toList.drop a).take 2 = l at hl ⊢
  rcases hc : twos.contains l with _ | _
  · rfl
  · have hm : l ∈ twos := by simpa using hc
    simp only [twos, List.mem_cons, List.not_mem_nil, or_false] at hm
    rcases hm with rfl | rfl | rfl | rfl <;> simp at hl
theorem two_none {s : ByteArray} {a : Nat} (h1 : (s.extract a (a + 2)).data.toList ≠ [60, 62]) (h2 : (s.extract a (a + 2)).data.toList ≠ [60, 61]) (h3 : (s.extract a (a + 2)).data.toList ≠ [62, 61]) (h4 : (s.extract a (a + 2)).data.toList ≠ [124, 124]) :
    twos.contains ((s.data.toList.drop a).take 2) = false := by
  rw [extract_bytes, mk_list] at h1 h2 h3 h4
  have e : a + 2 - a = 2 := by omega
  rw [e] at h1 h2 h3 h4
  simp [twos, h1, h2, h3, h4]
theorem extract_one {s : ByteArray} {a : Nat} (h : a < s.size) : s.extract a (a + 1) = ⟨[s[a]].toArray⟩ := by
  apply bytes_ext
  rw [extract_bytes, mk_list, mk_list]
  have e : a + 1 - a = 1 := by omega
  rw [e, List.drop_eq_getElem_cons (by simpa using h)]
  rfl
theorem index_ones (c : UInt8) : (Lib.indexByte ones c < 0) ↔ ones.contains c = false := by
  have h : ∀ n : Fin 256, (decide (Lib.indexByte ones (UInt8.ofNat n.val) < 0)) = !(ones.contains (UInt8.ofNat n.val)) := by decide +kernel
  have := h ⟨c.toNat, c.toNat_lt⟩
  rw [UInt8.ofNat_toNat] at this
  rcases hc : ones.contains c with _ | _
  · rw [hc] at this; simpa using this
  · rw [hc] at this; simpa using this
theorem index_call (s : ByteArray) (a : Nat) (h : a < s.size) (x : ByteArray) (hx : x.data.toList = ones) (W : World) :
    Calls Tryd.prog 60 #[.string x, .int .u8 (s[a].toNat : Int)] W fun e w' => e = .returned (.int .i64 (Lib.indexByte ones s[a])) ∧ w' = W :=
  (Tryd.strings_IndexByte x (s[a].toNat : Int) W).mono fun _ _ h => by
    rw [hx] at h
    have e : (((s[a].toNat : Int)).toNat).toUInt8 = s[a] := by simp
    rw [e] at h
    exact h
set_option maxHeartbeats 2000000 in
set_option maxRecDepth 100000 in
theorem scan_symbol (b : Nat) (s : ByteArray) (a : Nat) (w : World) (h : Sc w b s a) (ha : a < s.size) (hs : s.size ≤ 65536) :
    Calls Tryd.prog 43 #[.pointer (some ⟨b, 0, none⟩)] w (ScanPost w b s a (symScan s.data.toList a)) := by
  have hk0 := Tk.new w (.int .i64 0) (.string ⟨#[]⟩) (.int .i64 0) (.int .i64 0)
  have hsc0 := h.alloc (.cells #[.int .i64 0, .string ⟨#[]⟩, .int .i64 0, .int .i64 0] 30)
  have hg0 : w.grownBy (w.alloc (.cells #[.int .i64 0, .string ⟨#[]⟩, .int .i64 0, .int .i64 0] 30)) (some b) := World.grownBy_alloc w _ _
  have hbl := h.lt
  have hne : w.heap.size ≠ b := by omega
  clear h
  have a0 : (0 : Int) ≤ (a : Int) := by omega
  have a1 : (a : Int) < (s.size : Int) := by omega
  go_enter Tryd.func43, Tryd.ntmps43
  go_wp2_with fail
  generalize w.alloc (.cells #[.int .i64 0, .string ⟨#[]⟩, .int .i64 0, .int .i64 0] 30) = w1 at hk0 hsc0 hg0 ⊢
  have t0 := hsc0.text
  have t1 := hsc0.at_
  by_cases h2 : a + 2 ≤ s.size
  · have d0 : decide ((a : Int) + 2 ≤ (s.size : Int)) = true := decide_eq_true (by omega)
    have d1 : decide (a + 2 ≤ s.size) = true := decide_eq_true h2
    have v0 : IntKind.i64.wrap ((a : Int) + 2) = (a : Int) + 2 := IntWalk.i64_in _ (by omega)
    have v1 : (0 : Int) ≤ (a : Int) + 2 := by omega
    have v2 : ((a : Int) + 2).toNat = a + 2 := by omega
    have v3 : (a : Int) ≤ (a : Int) + 2 := by omega
    have v4 : (a : Int) + 2 ≤ (s.size : Int) := by omega
    go_quiet (fail)
    go_wp2_with fail
    replace hk0 := hk0.drewN nq
    replace hsc0 := hsc0.drewN nq
    replace hg0 := only_drewN hg0 nq
    replace t0 := hsc0.text
    replace t1 := hsc0.at_
    generalize w1.drewN nq = w2 at hk0 hsc0 hg0 t0 t1 ⊢
    go_quiet (fail)
    replace hk0 := hk0.drewN nq
    replace hsc0 := hsc0.drewN nq
    replace hg0 := only_drewN hg0 nq
    replace t0 := hsc0.text
    replace t1 := hsc0.at_
    generalize w2.drewN nq = w3 at hk0 hsc0 hg0 t0 t1 ⊢
    generalize hy : s.extract a (a + 2) = y
    have HY := Lib.hid hy
    clear hy d0 d1 v0 v1 v2 v3 v4
    by_cases e1 : y.toList = [60, 62]
    · have b1 : (y.toList == [60, 62]) = true := beq_iff_eq.2 e1
      have HF := Lib.hid (symScan_two (s := s) (a := a) (l := [60, 62]) (by rw [HY.out, ← Lib.toList_data]; exact e1) (by decide))
      have HE := Lib.hid (show s.extract a (a + 2) = ⟨([60, 62] : List UInt8).toArray⟩ from bytes_ext (by rw [HY.out, ← Lib.toList_data]; exact e1))
      clear e1
      go_wp2_with fail
      go_quiet (fail)
      replace hk0 := hk0.drewN nq
      replace hsc0 := hsc0.drewN nq
      replace hg0 := only_drewN hg0 nq
      replace t0 := hsc0.text
      replace t1 := hsc0.at_
      generalize w3.drewN nq = w4 at hk0 hsc0 hg0 t0 t1 ⊢
      have ff := hsc0.free 1
      go_wp2_with fail
      have hk1 : Tk (w4.setCell ⟨b, 1, none⟩ (.int .i64 ((a : Int) + 2))) w.heap.size (.int .i64 0) (.string ⟨#[]⟩) (.int .i64 0) (.int .i64 0) := hk0.far hne _ _
      have hsc1 : Sc (w4.setCell ⟨b, 1, none⟩ (.int .i64 ((a : Int) + 2))) b s (a + 2) := hsc0.set (a + 2)
      have hg1 : w.grownBy (w4.setCell ⟨b, 1, none⟩ (.int .i64 ((a : Int) + 2))) (some b) := only_setCell hg0 1 _
      generalize w4.setCell ⟨b, 1, none⟩ (.int .i64 ((a : Int) + 2)) = w5 at hk1 hsc1 hg1 ⊢
      clear hk0 hsc0 hg0 t0 t1 ff
      have t0 := hsc1.text
      have t1 := hsc1.at_
      have v0 : IntKind.i64.wrap ((a : Int) + 2 - 2) = (a : Int) := by rw [IntWalk.i64_in _ (by omega)]; omega
      have v5 : IntKind.i64.wrap (a : Int) = (a : Int) := IntWalk.i64_in _ (by omega)
      have v1 : (0 : Int) ≤ (a : Int) + 2 := by omega
      have v2 : ((a : Int) + 2).toNat = a + 2 := by omega
      have v3 : (a : Int) ≤ (a : Int) + 2 := by omega
      have v4 : (a : Int) + 2 ≤ (s.size : Int) := by omega
      go_still_tail 22, (by kernel_rfl)
      change wpList _ _ _ _ _ w5.drew
      replace hk1 : Tk w5.drew w.heap.size (.int .i64 0) (.string ⟨#[]⟩) (.int .i64 0) (.int .i64 0) := hk1
      replace hsc1 : Sc w5.drew b s (a + 2) := hsc1
      replace hg1 : w.grownBy w5.drew (some b) := only_drewN hg1 1
      generalize w5.drew = w6 at hk1 hsc1 hg1 ⊢
      replace t0 := hsc1.text
      replace t1 := hsc1.at_
      have c0 := hk1.c0
      have c1 := hk1.c1
      have c2 := hk1.c2
      have c3 := hk1.c3
      have f0 := hk1.free 0
      have f1 := hk1.free 1
      have f2 := hk1.free 2
      have f3 := hk1.free 3
      clear v0 v5
      go_wp2_with fail
      have hk4 := hk1.set4 (.int .i64 5) (.string (s.extract a (a + 2))) (.int .i64 0) (.int .i64 a)
      refine bodyPost_ret (results_tok Tryd.results43 _ rfl hk4) rfl ?_
      rw [HF.out]
      exact ⟨by rw [HE.out]; rfl, (((hsc1.far (Ne.symm hne) _ _).far (Ne.symm hne) _ _).far (Ne.symm hne) _ _).far (Ne.symm hne) _ _, only_new (only_new (only_new (only_new hg1 (Nat.le_refl _) _ _) (Nat.le_refl _) _ _) (Nat.le_refl _) _ _) (Nat.le_refl _) _ _⟩
    · have b1 : (y.toList == [60, 62]) = false := beq_eq_false_iff_ne.2 e1
      by_cases e2 : y.toList = [60, 61]
      · have b2 : (y.toList == [60, 61]) = true := beq_iff_eq.2 e2
        have HF := Lib.hid (symScan_two (s := s) (a := a) (l := [60, 61]) (by rw [HY.out, ← Lib.toList_data]; exact e2) (by decide))
        have HE := Lib.hid (show s.extract a (a + 2) = ⟨([60, 61] : List UInt8).toArray⟩ from bytes_ext (by rw [HY.out, ← Lib.toList_data]; exact e2))
        clear e1 e2
        go_wp2_with fail
        go_quiet (fail)
        replace hk0 := hk0.drewN nq
        replace hsc0 := hsc0.drewN nq
        replace hg0 := only_drewN hg0 nq
        replace t0 := hsc0.text
        replace t1 := hsc0.at_
        generalize w3.drewN nq = w4 at hk0 hsc0 hg0 t0 t1 ⊢
        have ff := hsc0.free 1
        go_wp2_with fail
        have hk1 : Tk (w4.setCell ⟨b, 1, none⟩ (.int .i64 ((a : Int) + 2))) w.heap.size (.int .i64 0) (.string ⟨#[]⟩) (.int .i64 0) (.int .i64 0) := hk0.far hne _ _
        have hsc1 : Sc (w4.setCell ⟨b, 1, none⟩ (.int .i64 ((a : Int) + 2))) b s (a + 2) := hsc0.set (a + 2)
        have hg1 : w.grownBy (w4.setCell ⟨b, 1, none⟩ (.int .i64 ((a : Int) + 2))) (some b) := only_setCell hg0 1 _
        generalize w4.setCell ⟨b, 1, none⟩ (.int .i64 ((a : Int) + 2)) = w5 at hk1 hsc1 hg1 ⊢
        clear hk0 hsc0 hg0 t0 t1 ff
        have t0 := hsc1.text
        have t1 := hsc1.at_
        have v0 : IntKind.i64.wrap ((a : Int) + 2 - 2) = (a : Int) := by rw [IntWalk.i64_in _ (by omega)]; omega
        have v5 : IntKind.i64.wrap (a : Int) = (a : Int) := IntWalk.i64_in _ (by omega)
        have v1 : (0 : Int) ≤ (a : Int) + 2 := by omega
        have v2 : ((a : Int) + 2).toNat = a + 2 := by omega
        have v3 : (a : Int) ≤ (a : Int) + 2 := by omega
        have v4 : (a : Int) + 2 ≤ (s.size : Int) := by omega
        go_still_tail 22, (by kernel_rfl)
        change wpList _ _ _ _ _ w5.drew
        replace hk1 : Tk w5.drew w.heap.size (.int .i64 0) (.string ⟨#[]⟩) (.int .i64 0) (.int .i64 0) := hk1
        replace hsc1 : Sc w5.drew b s (a + 2) := hsc1
        replace hg1 : w.grownBy w5.drew (some b) := only_drewN hg1 1
        generalize w5.drew = w6 at hk1 hsc1 hg1 ⊢
        replace t0 := hsc1.text
        replace t1 := hsc1.at_
        have c0 := hk1.c0
        have c1 := hk1.c1
        have c2 := hk1.c2
        have c3 := hk1.c3
        have f0 := hk1.free 0
        have f1 := hk1.free 1
        have f2 := hk1.free 2
        have f3 := hk1.free 3
        clear v0 v5
        go_wp2_with fail
        have hk4 := hk1.set4 (.int .i64 5) (.string (s.extract a (a + 2))) (.int .i64 0) (.int .i64 a)
        refine bodyPost_ret (results_tok Tryd.results43 _ rfl hk4) rfl ?_
        rw [HF.out]
        exact ⟨by rw [HE.out]; rfl, (((hsc1.far (Ne.symm hne) _ _).far (Ne.symm hne) _ _).far (Ne.symm hne) _ _).far (Ne.symm hne) _ _, only_new (only_new (only_new (only_new hg1 (Nat.le_refl _) _ _) (Nat.le_refl _) _ _) (Nat.le_refl _) _ _) (Nat.le_refl _) _ _⟩
      · have b2 : (y.toList == [60, 61]) = false := beq_eq_false_iff_ne.2 e2
        by_cases e3 : y.toList = [62, 61]
        · have b3 : (y.toList == [62, 61]) = true := beq_iff_eq.2 e3
          have HF := Lib.hid (symScan_two (s := s) (a := a) (l := [62, 61]) (by rw [HY.out, ← Lib.toList_data]; exact e3) (by decide))
          have HE := Lib.hid (show s.extract a (a + 2) = ⟨([62, 61] : List UInt8).toArray⟩ from bytes_ext (by rw [HY.out, ← Lib.toList_data]; exact e3))
          clear e1 e2 e3
          go_wp2_with fail
          go_quiet (fail)
          replace hk0 := hk0.drewN nq
          replace hsc0 := hsc0.drewN nq
          replace hg0 := only_drewN hg0 nq
          replace t0 := hsc0.text
          replace t1 := hsc0.at_
          generalize w3.drewN nq = w4 at hk0 hsc0 hg0 t0 t1 ⊢
          have ff := hsc0.free 1
          go_wp2_with fail
          have hk1 : Tk (w4.setCell ⟨b, 1, none⟩ (.int .i64 ((a : Int) + 2))) w.heap.size (.int .i64 0) (.string ⟨#[]⟩) (.int .i64 0) (.int .i64 0) := hk0.far hne _ _
          have hsc1 : Sc (w4.setCell ⟨b, 1, none⟩ (.int .i64 ((a : Int) + 2))) b s (a + 2) := hsc0.set (a + 2)
          have hg1 : w.grownBy (w4.setCell ⟨b, 1, none⟩ (.int .i64 ((a : Int) + 2))) (some b) := only_setCell hg0 1 _
          generalize w4.setCell ⟨b, 1, none⟩ (.int .i64 ((a : Int) + 2)) = w5 at hk1 hsc1 hg1 ⊢
          clear hk0 hsc0 hg0 t0 t1 ff
          have t0 := hsc1.text
          have t1 := hsc1.at_
          have v0 : IntKind.i64.wrap ((a : Int) + 2 - 2) = (a : Int) := by rw [IntWalk.i64_in _ (by omega)]; omega
          have v5 : IntKind.i64.wrap (a : Int) = (a : Int) := IntWalk.i64_in _ (by omega)
          have v1 : (0 : Int) ≤ (a : Int) + 2 := by omega
          have v2 : ((a : Int) + 2).toNat = a + 2 := by omega
          have v3 : (a : Int) ≤ (a : Int) + 2 := by omega
          have v4 : (a : Int) + 2 ≤ (s.size : Int) := by omega
          go_still_tail 22, (by kernel_rfl)
          change wpList _ _ _ _ _ w5.drew
          replace hk1 : Tk w5.drew w.heap.size (.int .i64 0) (.string ⟨#[]⟩) (.int .i64 0) (.int .i64 0) := hk1
          replace hsc1 : Sc w5.drew b s (a + 2) := hsc1
          replace hg1 : w.grownBy w5.drew (some b) := only_drewN hg1 1
          generalize w5.drew = w6 at hk1 hsc1 hg1 ⊢
          replace t0 := hsc1.text
          replace t1 := hsc1.at_
          have c0 := hk1.c0
          have c1 := hk1.c1
          have c2 := hk1.c2
          have c3 := hk1.c3
          have f0 := hk1.free 0
          have f1 := hk1.free 1
          have f2 := hk1.free 2
          have f3 := hk1.free 3
          clear v0 v5
          go_wp2_with fail
          have hk4 := hk1.set4 (.int .i64 5) (.string (s.extract a (a + 2))) (.int .i64 0) (.int .i64 a)
          refine bodyPost_ret (results_tok Tryd.results43 _ rfl hk4) rfl ?_
          rw [HF.out]
          exact ⟨by rw [HE.out]; rfl, (((hsc1.far (Ne.symm hne) _ _).far (Ne.symm hne) _ _).far (Ne.symm hne) _ _).far (Ne.symm hne) _ _, only_new (only_new (only_new (only_new hg1 (Nat.le_refl _) _ _) (Nat.le_refl _) _ _) (Nat.le_refl _) _ _) (Nat.le_refl _) _ _⟩
        · have b3 : (y.toList == [62, 61]) = false := beq_eq_false_iff_ne.2 e3
          by_cases e4 : y.toList = [124, 124]
          · have b4 : (y.toList == [124, 124]) = true := beq_iff_eq.2 e4
            have HF := Lib.hid (symScan_two (s := s) (a := a) (l := [124, 124]) (by rw [HY.out, ← Lib.toList_data]; exact e4) (by decide))
            have HE := Lib.hid (show s.extract a (a + 2) = ⟨([124, 124] : List UInt8).toArray⟩ from bytes_ext (by rw [HY.out, ← Lib.toList_data]; exact e4))
            clear e1 e2 e3 e4
            go_wp2_with fail
            go_quiet (fail)
            replace hk0 := hk0.drewN nq
            replace hsc0 := hsc0.drewN nq
            replace hg0 := only_drewN hg0 nq
            replace t0 := hsc0.text
            replace t1 := hsc0.at_
            generalize w3.drewN nq = w4 at hk0 hsc0 hg0 t0 t1 ⊢
            have ff := hsc0.free 1
            go_wp2_with fail
            have hk1 : Tk (w4.setCell ⟨b, 1, none⟩ (.int .i64 ((a : Int) + 2))) w.heap.size (.int .i64 0) (.string ⟨#[]⟩) (.int .i64 0) (.int .i64 0) := hk0.far hne _ _
            have hsc1 : Sc (w4.setCell ⟨b, 1, none⟩ (.int .i64 ((a : Int) + 2))) b s (a + 2) := hsc0.set (a + 2)
            have hg1 : w.grownBy (w4.setCell ⟨b, 1, none⟩ (.int .i64 ((a : Int) + 2))) (some b) := only_setCell hg0 1 _
            generalize w4.setCell ⟨b, 1, none⟩ (.int .i64 ((a : Int) + 2)) = w5 at hk1 hsc1 hg1 ⊢
            clear hk0 hsc0 hg0 t0 t1 ff
            have t0 := hsc1.text
            have t1 := hsc1.at_
            have v0 : IntKind.i64.wrap ((a : Int) + 2 - 2) = (a : Int) := by rw [IntWalk.i64_in _ (by omega)]; omega
            have v5 : IntKind.i64.wrap (a : Int) = (a : Int) := IntWalk.i64_in _ (by omega)
            have v1 : (0 : Int) ≤ (a : Int) + 2 := by omega
            have v2 : ((a : Int) + 2).toNat = a + 2 := by omega
            have v3 : (a : Int) ≤ (a : Int) + 2 := by omega
            have v4 : (a : Int) + 2 ≤ (s.size : Int) := by omega
            go_still_tail 22, (by kernel_rfl)
            change wpList _ _ _ _ _ w5.drew
            replace hk1 : Tk w5.drew w.heap.size (.int .i64 0) (.string ⟨#[]⟩) (.int .i64 0) (.int .i64 0) := hk1
            replace hsc1 : Sc w5.drew b s (a + 2) := hsc1
            replace hg1 : w.grownBy w5.drew (some b) := only_drewN hg1 1
            generalize w5.drew = w6 at hk1 hsc1 hg1 ⊢
            replace t0 := hsc1.text
            replace t1 := hsc1.at_
            have c0 := hk1.c0
            have c1 := hk1.c1
            have c2 := hk1.c2
            have c3 := hk1.c3
            have f0 := hk1.free 0
            have f1 := hk1.free 1
            have f2 := hk1.free 2
            have f3 := hk1.free 3
            clear v0 v5
            go_wp2_with fail
            have hk4 := hk1.set4 (.int .i64 5) (.string (s.extract a (a + 2))) (.int .i64 0) (.int .i64 a)
            refine bodyPost_ret (results_tok Tryd.results43 _ rfl hk4) rfl ?_
            rw [HF.out]
            exact ⟨by rw [HE.out]; rfl, (((hsc1.far (Ne.symm hne) _ _).far (Ne.symm hne) _ _).far (Ne.symm hne) _ _).far (Ne.symm hne) _ _, only_new (only_new (only_new (only_new hg1 (Nat.le_refl _) _ _) (Nat.le_refl _) _ _) (Nat.le_refl _) _ _) (Nat.le_refl _) _ _⟩
          · have b4 : (y.toList == [124, 124]) = false := beq_eq_false_iff_ne.2 e4
            have HT := Lib.hid (two_none (s := s) (a := a) (by rw [HY.out, ← Lib.toList_data]; exact e1) (by rw [HY.out, ← Lib.toList_data]; exact e2) (by rw [HY.out, ← Lib.toList_data]; exact e3) (by rw [HY.out, ← Lib.toList_data]; exact e4))
            clear e1 e2 e3 e4
            rcases ho : ones.contains s[a] with _ | _
            · have HF := Lib.hid ((symScan_one ha HT.out).trans (by rw [ho, if_neg (by decide)]))
              have hi := (index_ones s[a]).2 ho
              have HI : Hid (∀ W : World, Calls Tryd.prog 60 #[.string ⟨#[40, 41, 44, 46, 59, 42, 61, 60, 62, 43, 45, 47, 37]⟩, .int .u8 (s[a].toNat : Int)] W fun e w' => e = .returned (.int .i64 (Lib.indexByte ones s[a])) ∧ w' = W) := Lib.hid (fun W => index_call s a ha _ rfl W)
              clear ho
              generalize Lib.indexByte ones s[a] = ix at hi HI
              have di : decide (ix < 0) = true := decide_eq_true hi
              go_wp2_with fail
              go_quiet ((go_at_call 60; exact Calls.quiet_of_same (HI.out _)))
              replace hk0 := hk0.drewN nq
              replace hsc0 := hsc0.drewN nq
              replace hg0 := only_drewN hg0 nq
              replace t0 := hsc0.text
              replace t1 := hsc0.at_
              generalize w3.drewN nq = w4 at hk0 hsc0 hg0 t0 t1 ⊢
              go_wp2_with fail
              refine ⟨rfl, ?_⟩
              rw [HF.out]
              exact ⟨rfl, hg0⟩
            · have HF := Lib.hid ((symScan_one ha HT.out).trans (by rw [ho, if_pos rfl]))
              have hi : ¬ Lib.indexByte ones s[a] < 0 := fun h => by have := (index_ones s[a]).1 h; rw [ho] at this; cases this
              have HI : Hid (∀ W : World, Calls Tryd.prog 60 #[.string ⟨#[40, 41, 44, 46, 59, 42, 61, 60, 62, 43, 45, 47, 37]⟩, .int .u8 (s[a].toNat : Int)] W fun e w' => e = .returned (.int .i64 (Lib.indexByte ones s[a])) ∧ w' = W) := Lib.hid (fun W => index_call s a ha _ rfl W)
              have HE := Lib.hid (extract_one ha)
              clear ho
              generalize Lib.indexByte ones s[a] = ix at hi HI
              have di : decide (ix < 0) = false := decide_eq_false hi
              go_wp2_with fail
              go_quiet ((go_at_call 60; exact Calls.quiet_of_same (HI.out _)))
              replace hk0 := hk0.drewN nq
              replace hsc0 := hsc0.drewN nq
              replace hg0 := only_drewN hg0 nq
              replace t0 := hsc0.text
              replace t1 := hsc0.at_
              generalize w3.drewN nq = w4 at hk0 hsc0 hg0 t0 t1 ⊢
              have ff := hsc0.free 1
              go_wp2_with fail
              have hk1 : Tk (w4.setCell ⟨b, 1, none⟩ (.int .i64 ((a : Int) + 1))) w.heap.size (.int .i64 0) (.string ⟨#[]⟩) (.int .i64 0) (.int .i64 0) := hk0.far hne _ _
              have hsc1 : Sc (w4.setCell ⟨b, 1, none⟩ (.int .i64 ((a : Int) + 1))) b s (a + 1) := hsc0.set (a + 1)
              have hg1 : w.grownBy (w4.setCell ⟨b, 1, none⟩ (.int .i64 ((a : Int) + 1))) (some b) := only_setCell hg0 1 _
              generalize w4.setCell ⟨b, 1, none⟩ (.int .i64 ((a : Int) + 1)) = w5 at hk1 hsc1 hg1 ⊢
              clear hk0 hsc0 hg0 t0 t1 ff
              have t0 := hsc1.text
              have t1 := hsc1.at_
              have v0 : IntKind.i64.wrap ((a : Int) + 1 - 1) = (a : Int) := by rw [IntWalk.i64_in _ (by omega)]; omega
              have v5 : IntKind.i64.wrap (a : Int) = (a : Int) := IntWalk.i64_in _ (by omega)
              have v1 : (0 : Int) ≤ (a : Int) + 1 := by omega
              have v2 : ((a : Int) + 1).toNat = a + 1 := by omega
              have v3 : (a : Int) ≤ (a : Int) + 1 := by omega
              have v4 : (a : Int) + 1 ≤ (s.size : Int) := by omega
              go_still_tail 22, (by kernel_rfl)
              change wpList _ _ _ _ _ w5.drew
              replace hk1 : Tk w5.drew w.heap.size (.int .i64 0) (.string ⟨#[]⟩) (.int .i64 0) (.int .i64 0) := hk1
              replace hsc1 : Sc w5.drew b s (a + 1) := hsc1
              replace hg1 : w.grownBy w5.drew (some b) := only_drewN hg1 1
              generalize w5.drew = w6 at hk1 hsc1 hg1 ⊢
              replace t0 := hsc1.text
              replace t1 := hsc1.at_
              have c0 := hk1.c0
              have c1 := hk1.c1
              have c2 := hk1.c2
              have c3 := hk1.c3
              have f0 := hk1.free 0
              have f1 := hk1.free 1
              have f2 := hk1.free 2
              have f3 := hk1.free 3
              clear v0 v5
              go_wp2_with fail
              have hk4 := hk1.set4 (.int .i64 5) (.string (s.extract a (a + 1))) (.int .i64 0) (.int .i64 a)
              refine bodyPost_ret (results_tok Tryd.results43 _ rfl hk4) rfl ?_
              rw [HF.out]
              exact ⟨by rw [HE.out]; rfl, (((hsc1.far (Ne.symm hne) _ _).far (Ne.symm hne) _ _).far (Ne.symm hne) _ _).far (Ne.symm hne) _ _, only_new (only_new (only_new (only_new hg1 (Nat.le_refl _) _ _) (Nat.le_refl _) _ _) (Nat.le_refl _) _ _) (Nat.le_refl _) _ _⟩
  · have HT := Lib.hid (two_no (s := s) (a := a) (by omega))
    have d0 : decide ((a : Int) + 2 ≤ (s.size : Int)) = false := decide_eq_false (by omega)
    have d1 : decide (a + 2 ≤ s.size) = false := decide_eq_false h2
    have v0 : IntKind.i64.wrap ((a : Int) + 2) = (a : Int) + 2 := IntWalk.i64_in _ (by omega)
    go_quiet (fail)
    replace hk0 := hk0.drewN nq
    replace hsc0 := hsc0.drewN nq
    replace hg0 := only_drewN hg0 nq
    replace t0 := hsc0.text
    replace t1 := hsc0.at_
    generalize w1.drewN nq = w3 at hk0 hsc0 hg0 t0 t1 ⊢
    clear v0 d0 d1
    go_wp2_with fail
    rcases ho : ones.contains s[a] with _ | _
    · have HF := Lib.hid ((symScan_one ha HT.out).trans (by rw [ho, if_neg (by decide)]))
      have hi := (index_ones s[a]).2 ho
      have HI : Hid (∀ W : World, Calls Tryd.prog 60 #[.string ⟨#[40, 41, 44, 46, 59, 42, 61, 60, 62, 43, 45, 47, 37]⟩, .int .u8 (s[a].toNat : Int)] W fun e w' => e = .returned (.int .i64 (Lib.indexByte ones s[a])) ∧ w' = W) := Lib.hid (fun W => index_call s a ha _ rfl W)
      clear ho
      generalize Lib.indexByte ones s[a] = ix at hi HI
      have di : decide (ix < 0) = true := decide_eq_true hi
      go_quiet ((go_at_call 60; exact Calls.quiet_of_same (HI.out _)))
      replace hk0 := hk0.drewN nq
      replace hsc0 := hsc0.drewN nq
      replace hg0 := only_drewN hg0 nq
      replace t0 := hsc0.text
      replace t1 := hsc0.at_
      generalize w3.drewN nq = w4 at hk0 hsc0 hg0 t0 t1 ⊢
      go_wp2_with fail
      refine ⟨rfl, ?_⟩
      rw [HF.out]
      exact ⟨rfl, hg0⟩
    · have HF := Lib.hid ((symScan_one ha HT.out).trans (by rw [ho, if_pos rfl]))
      have hi : ¬ Lib.indexByte ones s[a] < 0 := fun h => by have := (index_ones s[a]).1 h; rw [ho] at this; cases this
      have HI : Hid (∀ W : World, Calls Tryd.prog 60 #[.string ⟨#[40, 41, 44, 46, 59, 42, 61, 60, 62, 43, 45, 47, 37]⟩, .int .u8 (s[a].toNat : Int)] W fun e w' => e = .returned (.int .i64 (Lib.indexByte ones s[a])) ∧ w' = W) := Lib.hid (fun W => index_call s a ha _ rfl W)
      have HE := Lib.hid (extract_one ha)
      clear ho
      generalize Lib.indexByte ones s[a] = ix at hi HI
      have di : decide (ix < 0) = false := decide_eq_false hi
      go_quiet ((go_at_call 60; exact Calls.quiet_of_same (HI.out _)))
      replace hk0 := hk0.drewN nq
      replace hsc0 := hsc0.drewN nq
      replace hg0 := only_drewN hg0 nq
      replace t0 := hsc0.text
      replace t1 := hsc0.at_
      generalize w3.drewN nq = w4 at hk0 hsc0 hg0 t0 t1 ⊢
      have ff := hsc0.free 1
      go_wp2_with fail
      have hk1 : Tk (w4.setCell ⟨b, 1, none⟩ (.int .i64 ((a : Int) + 1))) w.heap.size (.int .i64 0) (.string ⟨#[]⟩) (.int .i64 0) (.int .i64 0) := hk0.far hne _ _
      have hsc1 : Sc (w4.setCell ⟨b, 1, none⟩ (.int .i64 ((a : Int) + 1))) b s (a + 1) := hsc0.set (a + 1)
      have hg1 : w.grownBy (w4.setCell ⟨b, 1, none⟩ (.int .i64 ((a : Int) + 1))) (some b) := only_setCell hg0 1 _
      generalize w4.setCell ⟨b, 1, none⟩ (.int .i64 ((a : Int) + 1)) = w5 at hk1 hsc1 hg1 ⊢
      clear hk0 hsc0 hg0 t0 t1 ff
      have t0 := hsc1.text
      have t1 := hsc1.at_
      have v0 : IntKind.i64.wrap ((a : Int) + 1 - 1) = (a : Int) := by rw [IntWalk.i64_in _ (by omega)]; omega
      have v5 : IntKind.i64.wrap (a : Int) = (a : Int) := IntWalk.i64_in _ (by omega)
      have v1 : (0 : Int) ≤ (a : Int) + 1 := by omega
      have v2 : ((a : Int) + 1).toNat = a + 1 := by omega
      have v3 : (a : Int) ≤ (a : Int) + 1 := by omega
      have v4 : (a : Int) + 1 ≤ (s.size : Int) := by omega
      go_still_tail 22, (by kernel_rfl)
      change wpList _ _ _ _ _ w5.drew
      replace hk1 : Tk w5.drew w.heap.size (.int .i64 0) (.string ⟨#[]⟩) (.int .i64 0) (.int .i64 0) := hk1
      replace hsc1 : Sc w5.drew b s (a + 1) := hsc1
      replace hg1 : w.grownBy w5.drew (some b) := only_drewN hg1 1
      generalize w5.drew = w6 at hk1 hsc1 hg1 ⊢
      replace t0 := hsc1.text
      replace t1 := hsc1.at_
      have c0 := hk1.c0
      have c1 := hk1.c1
      have c2 := hk1.c2
      have c3 := hk1.c3
      have f0 := hk1.free 0
      have f1 := hk1.free 1
      have f2 := hk1.free 2
      have f3 := hk1.free 3
      clear v0 v5
      go_wp2_with fail
      have hk4 := hk1.set4 (.int .i64 5) (.string (s.extract a (a + 1))) (.int .i64 0) (.int .i64 a)
      refine bodyPost_ret (results_tok Tryd.results43 _ rfl hk4) rfl ?_
      rw [HF.out]
      exact ⟨by rw [HE.out]; rfl, (((hsc1.far (Ne.symm hne) _ _).far (Ne.symm hne) _ _).far (Ne.symm hne) _ _).far (Ne.symm hne) _ _, only_new (only_new (only_new (only_new hg1 (Nat.le_refl _) _ _) (Nat.le_refl _) _ _) (Nat.le_refl _) _ _) (Nat.le_refl _) _ _⟩
end Go.Proofs.YtlbmamcchomecaaDoor
