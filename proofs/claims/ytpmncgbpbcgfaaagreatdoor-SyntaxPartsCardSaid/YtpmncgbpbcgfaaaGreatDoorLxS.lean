import Derived.Test.YtpmncgbpbcgfaaaGreatDoorLxW
import Derived.StillTailTactics
import Derived.BigRegion
import Derived.IntWalk
import Derived.Outline
/-
  The scanner's symbol.
-/
namespace Go.Proofs.YtpmncgbpbcgfaaaGreatDoor
open Go.RowKit
set_option linter.unusedVariables false
set_option linter.unusedSimpArgs false

theorem Tk.far {w : World} {g : Nat} {v0 v1 v2 v3 : Value} (h : Tk w g v0 v1 v2 v3) {b : Nat} (hne : g ≠ b) (j : Nat) (u : Value) : Tk (w.setCell ⟨b, j, none⟩ u) g v0 v1 v2 v3 := (Below.heap_setCell w _ u g hne).trans h
theorem bytes_ext {x y : ByteArray} (h : x.data.toList = y.data.toList) : x = y := by
  apply ByteArray.ext
  exact Array.ext' h
theorem symScan_two {s : ByteArray} {a : Nat} {l : List UInt8} (h : (s.extract a (a + 2)).data.toList = l) (hl : twos.contains l = true) : symScan s.data.toList a = .tok ⟨5, l, 0, a⟩ (a + 2) := by
  rw [extract_bytes, mk_list] at h
  have e : a + 2 - a = 2 := by omega
  rw [e] at h
  unfold symScan
  rw [h, if_pos hl]
theorem symScan_one {s : ByteArray} {a : Nat} (ha : a < s.size) (h : twos.contains ((s.data.toList.drop a).take 2) = false) : symScan s.data.toList a = if ones.contains s[a] then .tok ⟨5, [s[a]], 0, a⟩ (a + 1) else .err 1 := by
  unfold symScan
  rw [h, List.getElem?_eq_getElem (by simpa using ha)]
  rfl
theorem two_no {s : ByteArray} {a : Nat} (h : s.size < a + 2) : twos.contains ((s.data.toList.drop a).take 2) = false := by
  have hl : ((s.data.toList.drop a).take 2).length < 2 := by simp; omega
  generalize (s.data.toList.drop a).take 2 = l at hl ⊢
  rcases hc : twos.contains l with _ | _
  · rfl
  · have hm : l ∈ twos := by simpa using hc
    simp only [twos, List.mem_cons, List.not_mem_nil, or_false] at hm
    rcases hm with rfl | rfl | rfl | rfl <;> simp at hl
theorem two_none {s : ByteArray} {a : Nat} (h1 : (s.extract a (a + 2)).data.toList ≠ [60, 62]) (h2 : (s.extract a (a + 2)).data.toList ≠ [60, 61]) (h3 : (s.extract a (a + 2)).data.toList ≠ [62, 61]) (h4 : (s.extract a (a + 2)).data.toList ≠ [124, 124]) :
    twos.contains ((s.data.toList.drop a).take 2) = false := by
  rw [extract_bytes, mk_list] at h1 h2 h3 h4
  have e : a + 2 - a = 2 := by omega
  rw [e] at h1 h2 h3 h4
  simp [twos, h1, h2, h3, h4]
theorem extract_one {s : ByteArray} {a : Nat} (h : a < s.size) : s.extract a (a + 1) = ⟨[s[a]].toArray⟩ := by
  apply bytes_ext
  rw [extract_bytes, mk_list, mk_list]
  have e : a + 1 - a = 1 := by omega
  rw [e, List.drop_eq_getElem_cons (by simpa using h)]
  rfl
theorem index_ones (c : UInt8) : (Lib.indexByte ones c < 0) ↔ ones.contains c = false := by
  have h : ∀ n : Fin 256, (decide (Lib.indexByte ones (UInt8.ofNat n.val) < 0)) = !(ones.contains (UInt8.ofNat n.val)) := by decide +kernel
  have := h ⟨c.toNat, c.toNat_lt⟩
  rw [UInt8.ofNat_toNat] at this
  rcases hc : ones.contains c with _ | _
  · rw [hc] at this; simpa using this
  · rw [hc] at this; simpa using this
theorem index_call (s : ByteArray) (a : Nat) (h : a < s.size) (x : ByteArray) (hx : x.data.toList = ones) (W : World) :
    Calls Tryz.prog 98 #[.string x, .int .u8 (s[a].toNat : Int)] W fun e w' => e = .returned (.int .i64 (Lib.indexByte ones s[a])) ∧ w' = W :=
  (Tryz.strings_IndexByte x (s[a].toNat : Int) W).mono fun _ _ h => by
    rw [hx] at h
    have e : (((s[a].toNat : Int)).toNat).toUInt8 = s[a] := by simp
    rw [e] at h
    exact h
set_option maxHeartbeats 2000000 in
set_option maxRecDepth 100000 in
theorem scan_symbol (b : Nat) (s : ByteArray) (a : Nat) (w : World) (h : Sc w b s a) (ha : a < s.size) (hs : s.size ≤ 65536) :
    Calls Tryz.prog 80 #[.pointer (some ⟨b, 0, none⟩)] w (ScanPost w b s a (symScan s.data.toList a)) := by
  have hk0 := Tk.new w (.int .i64 0) (.string ⟨#[]⟩) (.int .i64 0) (.int .i64 0)
  have hsc0 := h.alloc (.cells #[.int .i64 0, .string ⟨#[]⟩, .int .i64 0, .int .i64 0] 95)
  have hg0 : w.grownBy (w.alloc (.cells #[.int .i64 0, .string ⟨#[]⟩, .int .i64 0, .int .i64 0] 95)) (some b) := World.grownBy_alloc w _ _
  have hbl := h.lt
  have hne : w.heap.size ≠ b := by omega
  clear h
  have a0 : (0 : Int) ≤ (a : Int) := by omega
  have a1 : (a : Int) < (s.size : Int) := by omega
  go_enter Tryz.func80, Tryz.ntmps80
  go_wp2_with fail
  generalize w.alloc (.cells #[.int .i64 0, .string ⟨#[]⟩, .int .i64 0, .int .i64 0] 95) = w1 at hk0 hsc0 hg0 ⊢
  have t0 := hsc0.text
  have t1 := hsc0.at_
  by_cases h2 : a + 2 ≤ s.size
  · have d0 : decide ((a : Int) + 2 ≤ (s.size : Int)) = true := decide_eq_true (by omega)
    have d1 : decide (a + 2 ≤ s.size) = true := decide_eq_true h2
    have v0 : IntKind.i64.wrap ((a : Int) + 2) = (a : Int) + 2 := IntWalk.i64_in _ (by omega)
    have v1 : (0 : Int) ≤ (a : Int) + 2 := by omega
    have v2 : ((a : Int) + 2).toNat = a + 2 := by omega
    have v3 : (a : Int) ≤ (a : Int) + 2 := by omega
    have v4 : (a : Int) + 2 ≤ (s.size : Int) := by omega
    go_quiet (fail)
    go_wp2_with fail
    replace hk0 := hk0.drewN nq
    replace hsc0 := hsc0.drewN nq
    replace hg0 := only_drewN hg0 nq
    replace t0 := hsc0.text
    replace t1 := hsc0.at_
    generalize w1.drewN nq = w2 at hk0 hsc0 hg0 t0 t1 ⊢
    go_quiet (fail)
    replace hk0 := hk0.drewN nq
    replace hsc0 := hsc0.drewN nq
    replace hg0 := only_drewN hg0 nq
    replace t0 := hsc0.text
    replace t1 := hsc0.at_
    generalize w2.drewN nq = w3 at hk0 hsc0 hg0 t0 t1 ⊢
    generalize hy : s.extract a (a + 2) = y
    have HY := Lib.hid hy
    clear hy d0 d1 v0 v1 v2 v3 v4
    by_cases e1 : y.toList = [60, 62]
    · have b1 : (y.toList == [60, 62]) = true := beq_iff_eq.2 e1
      have HF := Lib.hid (symScan_two (s := s) (a := a) (l := [60, 62]) (by rw [HY.out, ← Lib.toList_data]; exact e1) (by decide))
      have HE := Lib.hid (show s.extract a (a + 2) = ⟨([60, 62] : List UInt8).toArray⟩ from bytes_ext (by rw [HY.out, ← Lib.toList_data]; exact e1))
      clear e1
      go_wp2_with fail
      go_quiet (fail)
      replace hk0 := hk0.drewN nq
      replace hsc0 := hsc0.drewN nq
      replace hg0 := only_drewN hg0 nq
      replace t0 := hsc0.text
      replace t1 := hsc0.at_
      generalize w3.drewN nq = w4 at hk0 hsc0 hg0 t0 t1 ⊢
      have ff := hsc0.free 1
      go_wp2_with fail
      have hk1 : Tk (w4.setCell ⟨b, 1, none⟩ (.int .i64 ((a : Int) + 2))) w.heap.size (.int .i64 0) (.string ⟨#[]⟩) (.int .i64 0) (.int .i64 0) := hk0.far hne _ _
      have hsc1 : Sc (w4.setCell ⟨b, 1, none⟩ (.int .i64 ((a : Int) + 2))) b s (a + 2) := hsc0.set (a + 2)
      have hg1 : w.grownBy (w4.setCell ⟨b, 1, none⟩ (.int .i64 ((a : Int) + 2))) (some b) := only_setCell hg0 1 _
      generalize w4.setCell ⟨b, 1, none⟩ (.int .i64 ((a : Int) + 2)) = w5 at hk1 hsc1 hg1 ⊢
      clear hk0 hsc0 hg0 t0 t1 ff
      have t0 := hsc1.text
      have t1 := hsc1.at_
      have v0 : IntKind.i64.wrap ((a : Int) + 2 - 2) = (a : Int) := by rw [IntWalk.i64_in _ (by omega)]; omega
      have v5 : IntKind.i64.wrap (a : Int) = (a : Int) := IntWalk.i64_in _ (by omega)
      have v1 : (0 : Int) ≤ (a : Int) + 2 := by omega
      have v2 : ((a : Int) + 2).toNat = a + 2 := by omega
      have v3 : (a : Int) ≤ (a : Int) + 2 := by omega
      have v4 : (a : Int) + 2 ≤ (s.size : Int) := by omega
      go_still_tail 22, (by kernel_rfl)
      change wpList _ _ _ _ _ w5.drew
      replace hk1 : Tk w5.drew w.heap.size (.int .i64 0) (.string ⟨#[]⟩) (.int .i64 0) (.int .i64 0) := hk1
      replace hsc1 : Sc w5.drew b s (a + 2) := hsc1
      replace hg1 : w.grownBy w5.drew (some b) := only_drewN hg1 1
      generalize w5.drew = w6 at hk1 hsc1 hg1 ⊢
      replace t0 := hsc1.text
      replace t1 := hsc1.at_
      have c0 := hk1.c0
      have c1 := hk1.c1
      have c2 := hk1.c2
      have c3 := hk1.c3
      have f0 := hk1.free 0
      have f1 := hk1.free 1
      have f2 := hk1.free 2
      have f3 := hk1.free 3
      clear v0 v5
      go_wp2_with fail
      have hk4 := hk1.set4 (.int .i64 5) (.string (s.extract a (a + 2))) (.int .i64 0) (.int .i64 a)
      refine bodyPost_ret (results_tok Tryz.results80 _ rfl hk4) rfl ?_
      rw [HF.out]
      exact ⟨by rw [HE.out]; rfl, (((hsc1.far (Ne.symm hne) _ _).far (Ne.symm hne) _ _).far (Ne.symm hne) _ _).far (Ne.symm hne) _ _, only_new (only_new (only_new (only_new hg1 (Nat.le_refl _) _ _) (Nat.le_refl _) _ _) (Nat.le_refl _) _ _) (Nat.le_refl _) _ _⟩
    · have b1 : (y.toList == [60, 62]) = false := beq_eq_false_iff_ne.2 e1
      by_cases e2 : y.toList = [60, 61]
      · have b2 : (y.toList == [60, 61]) = true := beq_iff_eq.2 e2
        have HF := Lib.hid (symScan_two (s := s) (a := a) (l := [60, 61]) (by rw [HY.out, ← Lib.toList_data]; exact e2) (by decide))
        have HE := Lib.hid (show s.extract a (a + 2) = ⟨([60, 61] : List UInt8).toArray⟩ from bytes_ext (by rw [HY.out, ← Lib.toList_data]; exact e2))
        clear e1 e2
        go_wp2_with fail
        go_quiet (fail)
        replace hk0 := hk0.drewN nq
        replace hsc0 := hsc0.drewN nq
        replace hg0 := only_drewN hg0 nq
        replace t0 := hsc0.text
        replace t1 := hsc0.at_
        generalize w3.drewN nq = w4 at hk0 hsc0 hg0 t0 t1 ⊢
        have ff := hsc0.free 1
        go_wp2_with fail
        have hk1 : Tk (w4.setCell ⟨b, 1, none⟩ (.int .i64 ((a : Int) + 2))) w.heap.size (.int .i64 0) (.string ⟨#[]⟩) (.int .i64 0) (.int .i64 0) := hk0.far hne _ _
        have hsc1 : Sc (w4.setCell ⟨b, 1, none⟩ (.int .i64 ((a : Int) + 2))) b s (a + 2) := hsc0.set (a + 2)
        have hg1 : w.grownBy (w4.setCell ⟨b, 1, none⟩ (.int .i64 ((a : Int) + 2))) (some b) := only_setCell hg0 1 _
        generalize w4.setCell ⟨b, 1, none⟩ (.int .i64 ((a : Int) + 2)) = w5 at hk1 hsc1 hg1 ⊢
        clear hk0 hsc0 hg0 t0 t1 ff
        have t0 := hsc1.text
        have t1 := hsc1.at_
        have v0 : IntKind.i64.wrap ((a : Int) + 2 - 2) = (a : Int) := by rw [IntWalk.i64_in _ (by omega)]; omega
        have v5 : IntKind.i64.wrap (a : Int) = (a : Int) := IntWalk.i64_in _ (by omega)
        have v1 : (0 : Int) ≤ (a : Int) + 2 := by omega
        have v2 : ((a : Int) + 2).toNat = a + 2 := by omega
        have v3 : (a : Int) ≤ (a : Int) + 2 := by omega
        have v4 : (a : Int) + 2 ≤ (s.size : Int) := by omega
        go_still_tail 22, (by kernel_rfl)
        change wpList _ _ _ _ _ w5.drew
        replace hk1 : Tk w5.drew w.heap.size (.int .i64 0) (.string ⟨#[]⟩) (.int .i64 0) (.int .i64 0) := hk1
        replace hsc1 : Sc w5.drew b s (a + 2) := hsc1
        replace hg1 : w.grownBy w5.drew (some b) := only_drewN hg1 1
        generalize w5.drew = w6 at hk1 hsc1 hg1 ⊢
        replace t0 := hsc1.text
        replace t1 := hsc1.at_
        have c0 := hk1.c0
        have c1 := hk1.c1
        have c2 := hk1.c2
        have c3 := hk1.c3
        have f0 := hk1.free 0
        have f1 := hk1.free 1
        have f2 := hk1.free 2
        have f3 := hk1.free 3
        clear v0 v5
        go_wp2_with fail
        have hk4 := hk1.set4 (.int .i64 5) (.string (s.extract a (a + 2))) (.int .i64 0) (.int .i64 a)
        refine bodyPost_ret (results_tok Tryz.results80 _ rfl hk4) rfl ?_
        rw [HF.out]
        exact ⟨by rw [HE.out]; rfl, (((hsc1.far (Ne.symm hne) _ _).far (Ne.symm hne) _ _).far (Ne.symm hne) _ _).far (Ne.symm hne) _ _, only_new (only_new (only_new (only_new hg1 (Nat.le_refl _) _ _) (Nat.le_refl _) _ _) (Nat.le_refl _) _ _) (Nat.le_refl _) _ _⟩
      · have b2 : (y.toList == [60, 61]) = false := beq_eq_false_iff_ne.2 e2
        by_cases e3 : y.toList = [62, 61]
        · have b3 : (y.toList == [62, 61]) = true := beq_iff_eq.2 e3
          have HF := Lib.hid (symScan_two (s := s) (a := a) (l := [62, 61]) (by rw [HY.out, ← Lib.toList_data]; exact e3) (by decide))
          have HE := Lib.hid (show s.extract a (a + 2) = ⟨([62, 61] : List UInt8).toArray⟩ from bytes_ext (by rw [HY.out, ← Lib.toList_data]; exact e3))
          clear e1 e2 e3
          go_wp2_with fail
          go_quiet (fail)
          replace hk0 := hk0.drewN nq
          replace hsc0 := hsc0.drewN nq
          replace hg0 := only_drewN hg0 nq
          replace t0 := hsc0.text
          replace t1 := hsc0.at_
          generalize w3.drewN nq = w4 at hk0 hsc0 hg0 t0 t1 ⊢
          have ff := hsc0.free 1
          go_wp2_with fail
          have hk1 : Tk (w4.setCell ⟨b, 1, none⟩ (.int .i64 ((a : Int) + 2))) w.heap.size (.int .i64 0) (.string ⟨#[]⟩) (.int .i64 0) (.int .i64 0) := hk0.far hne _ _
          have hsc1 : Sc (w4.setCell ⟨b, 1, none⟩ (.int .i64 ((a : Int) + 2))) b s (a + 2) := hsc0.set (a + 2)
          have hg1 : w.grownBy (w4.setCell ⟨b, 1, none⟩ (.int .i64 ((a : Int) + 2))) (some b) := only_setCell hg0 1 _
          generalize w4.setCell ⟨b, 1, none⟩ (.int .i64 ((a : Int) + 2)) = w5 at hk1 hsc1 hg1 ⊢
          clear hk0 hsc0 hg0 t0 t1 ff
          have t0 := hsc1.text
          have t1 := hsc1.at_
          have v0 : IntKind.i64.wrap ((a : Int) + 2 - 2) = (a : Int) := by rw [IntWalk.i64_in _ (by omega)]; omega
          have v5 : IntKind.i64.wrap (a : Int) = (a : Int) := IntWalk.i64_in _ (by omega)
          have v1 : (0 : Int) ≤ (a : Int) + 2 := by omega
          have v2 : ((a : Int) + 2).toNat = a + 2 := by omega
          have v3 : (a : Int) ≤ (a : Int) + 2 := by omega
          have v4 : (a : Int) + 2 ≤ (s.size : Int) := by omega
          go_still_tail 22, (by kernel_rfl)
          change wpList _ _ _ _ _ w5.drew
          replace hk1 : Tk w5.drew w.heap.size (.int .i64 0) (.string ⟨#[]⟩) (.int .i64 0) (.int .i64 0) := hk1
          replace hsc1 : Sc w5.drew b s (a + 2) := hsc1
          replace hg1 : w.grownBy w5.drew (some b) := only_drewN hg1 1
          generalize w5.drew = w6 at hk1 hsc1 hg1 ⊢
          replace t0 := hsc1.text
          replace t1 := hsc1.at_
          have c0 := hk1.c0
          have c1 := hk1.c1
          have c2 := hk1.c2
          have c3 := hk1.c3
          have f0 := hk1.free 0
          have f1 := hk1.free 1
          have f2 := hk1.free 2
          have f3 := hk1.free 3
          clear v0 v5
          go_wp2_with fail
          have hk4 := hk1.set4 (.int .i64 5) (.string (s.extract a (a + 2))) (.int .i64 0) (.int .i64 a)
          refine bodyPost_ret (results_tok Tryz.results80 _ rfl hk4) rfl ?_
          rw [HF.out]
          exact ⟨by rw [HE.out]; rfl, (((hsc1.far (Ne.symm hne) _ _).far (Ne.symm hne) _ _).far (Ne.symm hne) _ _).far (Ne.symm hne) _ _, only_new (only_new (only_new (only_new hg1 (Nat.le_refl _) _ _) (Nat.le_refl _) _ _) (Nat.le_refl _) _ _) (Nat.le_refl _) _ _⟩
        · have b3 : (y.toList == [62, 61]) = false := beq_eq_false_iff_ne.2 e3
          by_cases e4 : y.toList = [124, 124]
          · have b4 : (y.toList == [124, 124]) = true := beq_iff_eq.2 e4
            have HF := Lib.hid (symScan_two (s := s) (a := a) (l := [124, 124]) (by rw [HY.out, ← Lib.toList_data]; exact e4) (by decide))
            have HE := Lib.hid (show s.extract a (a + 2) = ⟨([124, 124] : List UInt8).toArray⟩ from bytes_ext (by rw [HY.out, ← Lib.toList_data]; exact e4))
            clear e1 e2 e3 e4
            go_wp2_with fail
            go_quiet (fail)
            replace hk0 := hk0.drewN nq
            replace hsc0 := hsc0.drewN nq
            replace hg0 := only_drewN hg0 nq
            replace t0 := hsc0.text
            replace t1 := hsc0.at_
            generalize w3.drewN nq = w4 at hk0 hsc0 hg0 t0 t1 ⊢
            have ff := hsc0.free 1
            go_wp2_with fail
            have hk1 : Tk (w4.setCell ⟨b, 1, none⟩ (.int .i64 ((a : Int) + 2))) w.heap.size (.int .i64 0) (.string ⟨#[]⟩) (.int .i64 0) (.int .i64 0) := hk0.far hne _ _
            have hsc1 : Sc (w4.setCell ⟨b, 1, none⟩ (.int .i64 ((a : Int) + 2))) b s (a + 2) := hsc0.set (a + 2)
            have hg1 : w.grownBy (w4.setCell ⟨b, 1, none⟩ (.int .i64 ((a : Int) + 2))) (some b) := only_setCell hg0 1 _
            generalize w4.setCell ⟨b, 1, none⟩ (.int .i64 ((a : Int) + 2)) = w5 at hk1 hsc1 hg1 ⊢
            clear hk0 hsc0 hg0 t0 t1 ff
            have t0 := hsc1.text
            have t1 := hsc1.at_
            have v0 : IntKind.i64.wrap ((a : Int) + 2 - 2) = (a : Int) := by rw [IntWalk.i64_in _ (by omega)]; omega
            have v5 : IntKind.i64.wrap (a : Int) = (a : Int) := IntWalk.i64_in _ (by omega)
            have v1 : (0 : Int) ≤ (a : Int) + 2 := by omega
            have v2 : ((a : Int) + 2).toNat = a + 2 := by omega
            have v3 : (a : Int) ≤ (a : Int) + 2 := by omega
            have v4 : (a : Int) + 2 ≤ (s.size : Int) := by omega
            go_still_tail 22, (by kernel_rfl)
            change wpList _ _ _ _ _ w5.drew
            replace hk1 : Tk w5.drew w.heap.size (.int .i64 0) (.string ⟨#[]⟩) (.int .i64 0) (.int .i64 0) := hk1
            replace hsc1 : Sc w5.drew b s (a + 2) := hsc1
            replace hg1 : w.grownBy w5.drew (some b) := only_drewN hg1 1
            generalize w5.drew = w6 at hk1 hsc1 hg1 ⊢
            replace t0 := hsc1.text
            replace t1 := hsc1.at_
            have c0 := hk1.c0
            have c1 := hk1.c1
            have c2 := hk1.c2
            have c3 := hk1.c3
            have f0 := hk1.free 0
            have f1 := hk1.free 1
            have f2 := hk1.free 2
            have f3 := hk1.free 3
            clear v0 v5
            go_wp2_with fail
            have hk4 := hk1.set4 (.int .i64 5) (.string (s.extract a (a + 2))) (.int .i64 0) (.int .i64 a)
            refine bodyPost_ret (results_tok Tryz.results80 _ rfl hk4) rfl ?_
            rw [HF.out]
            exact ⟨by rw [HE.out]; rfl, (((hsc1.far (Ne.symm hne) _ _).far (Ne.symm hne) _ _).far (Ne.symm hne) _ _).far (Ne.symm hne) _ _, only_new (only_new (only_new (only_new hg1 (Nat.le_refl _) _ _) (Nat.le_refl _) _ _) (Nat.le_refl _) _ _) (Nat.le_refl _) _ _⟩
          · have b4 : (y.toList == [124, 124]) = false := beq_eq_false_iff_ne.2 e4
            have HT := Lib.hid (two_none (s := s) (a := a) (by rw [HY.out, ← Lib.toList_data]; exact e1) (by rw [HY.out, ← Lib.toList_data]; exact e2) (by rw [HY.out, ← Lib.toList_data]; exact e3) (by rw [HY.out, ← Lib.toList_data]; exact e4))
            clear e1 e2 e3 e4
            rcases ho : ones.contains s[a] with _ | _
            · have HF := Lib.hid ((symScan_one ha HT.out).trans (by rw [ho, if_neg (by decide)]))
              have hi := (index_ones s[a]).2 ho
              have HI : Hid (∀ W : World, Calls Tryz.prog 98 #[.string ⟨#[40, 41, 44, 46, 59, 42, 61, 60, 62, 43, 45, 47, 37]⟩, .int .u8 (s[a].toNat : Int)] W fun e w' => e = .returned (.int .i64 (Lib.indexByte ones s[a])) ∧ w' = W) := Lib.hid (fun W => index_call s a ha _ rfl W)
              clear ho
              generalize Lib.indexByte ones s[a] = ix at hi HI
              have di : decide (ix < 0) = true := decide_eq_true hi
              go_wp2_with fail
              go_quiet ((go_at_call 98; exact Calls.quiet_of_same (HI.out _)))
              replace hk0 := hk0.drewN nq
              replace hsc0 := hsc0.drewN nq
              replace hg0 := only_drewN hg0 nq
              replace t0 := hsc0.text
              replace t1 := hsc0.at_
              generalize w3.drewN nq = w4 at hk0 hsc0 hg0 t0 t1 ⊢
              go_wp2_with fail
              refine ⟨rfl, ?_⟩
              rw [HF.out]
              exact ⟨rfl, hg0⟩
            · have HF := Lib.hid ((symScan_one ha HT.out).trans (by rw [ho, if_pos rfl]))
              have hi : ¬ Lib.indexByte ones s[a] < 0 := fun h => by have := (index_ones s[a]).1 h; rw [ho] at this; cases this
              have HI : Hid (∀ W : World, Calls Tryz.prog 98 #[.string ⟨#[40, 41, 44, 46, 59, 42, 61, 60, 62, 43, 45, 47, 37]⟩, .int .u8 (s[a].toNat : Int)] W fun e w' => e = .returned (.int .i64 (Lib.indexByte ones s[a])) ∧ w' = W) := Lib.hid (fun W => index_call s a ha _ rfl W)
              have HE := Lib.hid (extract_one ha)
              clear ho
              generalize Lib.indexByte ones s[a] = ix at hi HI
              have di : decide (ix < 0) = false := decide_eq_false hi
              go_wp2_with fail
              go_quiet ((go_at_call 98; exact Calls.quiet_of_same (HI.out _)))
              replace hk0 := hk0.drewN nq
              replace hsc0 := hsc0.drewN nq
              replace hg0 := only_drewN hg0 nq
              replace t0 := hsc0.text
              replace t1 := hsc0.at_
              generalize w3.drewN nq = w4 at hk0 hsc0 hg0 t0 t1 ⊢
              have ff := hsc0.free 1
              go_wp2_with fail
              have hk1 : Tk (w4.setCell ⟨b, 1, none⟩ (.int .i64 ((a : Int) + 1))) w.heap.size (.int .i64 0) (.string ⟨#[]⟩) (.int .i64 0) (.int .i64 0) := hk0.far hne _ _
              have hsc1 : Sc (w4.setCell ⟨b, 1, none⟩ (.int .i64 ((a : Int) + 1))) b s (a + 1) := hsc0.set (a + 1)
              have hg1 : w.grownBy (w4.setCell ⟨b, 1, none⟩ (.int .i64 ((a : Int) + 1))) (some b) := only_setCell hg0 1 _
              generalize w4.setCell ⟨b, 1, none⟩ (.int .i64 ((a : Int) + 1)) = w5 at hk1 hsc1 hg1 ⊢
              clear hk0 hsc0 hg0 t0 t1 ff
              have t0 := hsc1.text
              have t1 := hsc1.at_
              have v0 : IntKind.i64.wrap ((a : Int) + 1 - 1) = (a : Int) := by rw [IntWalk.i64_in _ (by omega)]; omega
              have v5 : IntKind.i64.wrap (a : Int) = (a : Int) := IntWalk.i64_in _ (by omega)
              have v1 : (0 : Int) ≤ (a : Int) + 1 := by omega
              have v2 : ((a : Int) + 1).toNat = a + 1 := by omega
              have v3 : (a : Int) ≤ (a : Int) + 1 := by omega
              have v4 : (a : Int) + 1 ≤ (s.size : Int) := by omega
              go_still_tail 22, (by kernel_rfl)
              change wpList _ _ _ _ _ w5.drew
              replace hk1 : Tk w5.drew w.heap.size (.int .i64 0) (.string ⟨#[]⟩) (.int .i64 0) (.int .i64 0) := hk1
              replace hsc1 : Sc w5.drew b s (a + 1) := hsc1
              replace hg1 : w.grownBy w5.drew (some b) := only_drewN hg1 1
              generalize w5.drew = w6 at hk1 hsc1 hg1 ⊢
              replace t0 := hsc1.text
              replace t1 := hsc1.at_
              have c0 := hk1.c0
              have c1 := hk1.c1
              have c2 := hk1.c2
              have c3 := hk1.c3
              have f0 := hk1.free 0
              have f1 := hk1.free 1
              have f2 := hk1.free 2
              have f3 := hk1.free 3
              clear v0 v5
              go_wp2_with fail
              have hk4 := hk1.set4 (.int .i64 5) (.string (s.extract a (a + 1))) (.int .i64 0) (.int .i64 a)
              refine bodyPost_ret (results_tok Tryz.results80 _ rfl hk4) rfl ?_
              rw [HF.out]
              exact ⟨by rw [HE.out]; rfl, (((hsc1.far (Ne.symm hne) _ _).far (Ne.symm hne) _ _).far (Ne.symm hne) _ _).far (Ne.symm hne) _ _, only_new (only_new (only_new (only_new hg1 (Nat.le_refl _) _ _) (Nat.le_refl _) _ _) (Nat.le_refl _) _ _) (Nat.le_refl _) _ _⟩
  · have HT := Lib.hid (two_no (s := s) (a := a) (by omega))
    have d0 : decide ((a : Int) + 2 ≤ (s.size : Int)) = false := decide_eq_false (by omega)
    have d1 : decide (a + 2 ≤ s.size) = false := decide_eq_false h2
    have v0 : IntKind.i64.wrap ((a : Int) + 2) = (a : Int) + 2 := IntWalk.i64_in _ (by omega)
    go_quiet (fail)
    replace hk0 := hk0.drewN nq
    replace hsc0 := hsc0.drewN nq
    replace hg0 := only_drewN hg0 nq
    replace t0 := hsc0.text
    replace t1 := hsc0.at_
    generalize w1.drewN nq = w3 at hk0 hsc0 hg0 t0 t1 ⊢
    clear v0 d0 d1
    go_wp2_with fail
    rcases ho : ones.contains s[a] with _ | _
    · have HF := Lib.hid ((symScan_one ha HT.out).trans (by rw [ho, if_neg (by decide)]))
      have hi := (index_ones s[a]).2 ho
      have HI : Hid (∀ W : World, Calls Tryz.prog 98 #[.string ⟨#[40, 41, 44, 46, 59, 42, 61, 60, 62, 43, 45, 47, 37]⟩, .int .u8 (s[a].toNat : Int)] W fun e w' => e = .returned (.int .i64 (Lib.indexByte ones s[a])) ∧ w' = W) := Lib.hid (fun W => index_call s a ha _ rfl W)
      clear ho
      generalize Lib.indexByte ones s[a] = ix at hi HI
      have di : decide (ix < 0) = true := decide_eq_true hi
      go_quiet ((go_at_call 98; exact Calls.quiet_of_same (HI.out _)))
      replace hk0 := hk0.drewN nq
      replace hsc0 := hsc0.drewN nq
      replace hg0 := only_drewN hg0 nq
      replace t0 := hsc0.text
      replace t1 := hsc0.at_
      generalize w3.drewN nq = w4 at hk0 hsc0 hg0 t0 t1 ⊢
      go_wp2_with fail
      refine ⟨rfl, ?_⟩
      rw [HF.out]
      exact ⟨rfl, hg0⟩
    · have HF := Lib.hid ((symScan_one ha HT.out).trans (by rw [ho, if_pos rfl]))
      have hi : ¬ Lib.indexByte ones s[a] < 0 := fun h => by have := (index_ones s[a]).1 h; rw [ho] at this; cases this
      have HI : Hid (∀ W : World, Calls Tryz.prog 98 #[.string ⟨#[40, 41, 44, 46, 59, 42, 61, 60, 62, 43, 45, 47, 37]⟩, .int .u8 (s[a].toNat : Int)] W fun e w' => e = .returned (.int .i64 (Lib.indexByte ones s[a])) ∧ w' = W) := Lib.hid (fun W => index_call s a ha _ rfl W)
      have HE := Lib.hid (extract_one ha)
      clear ho
      generalize Lib.indexByte ones s[a] = ix at hi HI
      have di : decide (ix < 0) = false := decide_eq_false hi
      go_quiet ((go_at_call 98; exact Calls.quiet_of_same (HI.out _)))
      replace hk0 := hk0.drewN nq
      replace hsc0 := hsc0.drewN nq
      replace hg0 := only_drewN hg0 nq
      replace t0 := hsc0.text
      replace t1 := hsc0.at_
      generalize w3.drewN nq = w4 at hk0 hsc0 hg0 t0 t1 ⊢
      have ff := hsc0.free 1
      go_wp2_with fail
      have hk1 : Tk (w4.setCell ⟨b, 1, none⟩ (.int .i64 ((a : Int) + 1))) w.heap.size (.int .i64 0) (.string ⟨#[]⟩) (.int .i64 0) (.int .i64 0) := hk0.far hne _ _
      have hsc1 : Sc (w4.setCell ⟨b, 1, none⟩ (.int .i64 ((a : Int) + 1))) b s (a + 1) := hsc0.set (a + 1)
      have hg1 : w.grownBy (w4.setCell ⟨b, 1, none⟩ (.int .i64 ((a : Int) + 1))) (some b) := only_setCell hg0 1 _
      generalize w4.setCell ⟨b, 1, none⟩ (.int .i64 ((a : Int) + 1)) = w5 at hk1 hsc1 hg1 ⊢
      clear hk0 hsc0 hg0 t0 t1 ff
      have t0 := hsc1.text
      have t1 := hsc1.at_
      have v0 : IntKind.i64.wrap ((a : Int) + 1 - 1) = (a : Int) := by rw [IntWalk.i64_in _ (by omega)]; omega
      have v5 : IntKind.i64.wrap (a : Int) = (a : Int) := IntWalk.i64_in _ (by omega)
      have v1 : (0 : Int) ≤ (a : Int) + 1 := by omega
      have v2 : ((a : Int) + 1).toNat = a + 1 := by omega
      have v3 : (a : Int) ≤ (a : Int) + 1 := by omega
      have v4 : (a : Int) + 1 ≤ (s.size : Int) := by omega
      go_still_tail 22, (by kernel_rfl)
      change wpList _ _ _ _ _ w5.drew
      replace hk1 : Tk w5.drew w.heap.size (.int .i64 0) (.string ⟨#[]⟩) (.int .i64 0) (.int .i64 0) := hk1
      replace hsc1 : Sc w5.drew b s (a + 1) := hsc1
      replace hg1 : w.grownBy w5.drew (some b) := only_drewN hg1 1
      generalize w5.drew = w6 at hk1 hsc1 hg1 ⊢
      replace t0 := hsc1.text
      replace t1 := hsc1.at_
      have c0 := hk1.c0
      have c1 := hk1.c1
      have c2 := hk1.c2
      have c3 := hk1.c3
      have f0 := hk1.free 0
      have f1 := hk1.free 1
      have f2 := hk1.free 2
      have f3 := hk1.free 3
      clear v0 v5
      go_wp2_with fail
      have hk4 := hk1.set4 (.int .i64 5) (.string (s.extract a (a + 1))) (.int .i64 0) (.int .i64 a)
      refine bodyPost_ret (results_tok Tryz.results80 _ rfl hk4) rfl ?_
      rw [HF.out]
      exact ⟨by rw [HE.out]; rfl, (((hsc1.far (Ne.symm hne) _ _).far (Ne.symm hne) _ _).far (Ne.symm hne) _ _).far (Ne.symm hne) _ _, only_new (only_new (only_new (only_new hg1 (Nat.le_refl _) _ _) (Nat.le_refl _) _ _) (Nat.le_refl _) _ _) (Nat.le_refl _) _ _⟩
end Go.Proofs.YtpmncgbpbcgfaaaGreatDoor

/-
  The scanner's text.
-/
namespace Go.Proofs.YtpmncgbpbcgfaaaGreatDoor
open Go.RowKit
set_option linter.unusedVariables false
set_option linter.unusedSimpArgs false

section
variable {T e : TypeId} {B b : Nat} {bs : List Value} {w w' : World}
theorem build_keep (h : Lib.IsBuilder T e B b bs w) (hk : ∀ i, B ≤ i → w'.heap[i]? = w.heap[i]?) : Lib.IsBuilder T e B b bs w' := by
  have one : ∀ p, Lib.BuilderAt T e B b p bs w → Lib.BuilderAt T e B b p bs w' := by
    rintro p ⟨hB, v, hb, hown, hne⟩
    refine ⟨hB, v, (hk b hB).trans hb, ⟨hown.1, ?_⟩, hne⟩
    rcases hown.2 with h0 | ⟨g, cap, cur, hv, hg, hh, r⟩
    · exact .inl h0
    · exact .inr ⟨g, cap, cur, hv, hg, (hk g hg).trans hh, r⟩
  rcases h with h | h
  · exact .inl (one _ h)
  · exact .inr (one _ h)
theorem build_drewN (h : Lib.IsBuilder T e B b bs w) (n : Nat) : Lib.IsBuilder T e B b bs (w.drewN n) := build_keep h fun _ _ => rfl
theorem build_far (h : Lib.IsBuilder T e B b bs w) {p : Addr} (hp : p.block < B) (u : Value) : Lib.IsBuilder T e B b bs (w.setCell p u) :=
  build_keep h fun i hi => Below.heap_setCell w p u i (by rintro rfl; omega)
end
theorem grown_belowB {a w w' : World} {B : Nat} {row : Option Nat} (h : a.grownBy w row) (hb : Below B w w') (hB : a.heap.size ≤ B) : a.grownBy w' row :=
  ⟨hb.os.trans h.os, hb.tape.trans h.tape, hb.output.trans h.output, Nat.le_trans h.size hb.size, fun i hi hne => (hb.block i (by omega)).trans (h.block i hi hne)⟩
theorem byteCells_snoc (l : List UInt8) (c : UInt8) : Lib.byteCells (l ++ [c]) = Lib.byteCells l ++ [.int .u8 (c.toNat : Int)] := by simp [Lib.byteCells]
section
variable {s : ByteArray} {k a : Nat} {out : List UInt8}
theorem drop_at (h : k < s.size) : s.data.toList.drop k = s[k] :: s.data.toList.drop (k + 1) := by
  rw [List.drop_eq_getElem_cons (by simpa using h)]; rfl
theorem tg_cons (a : Nat) (c : UInt8) (r : List UInt8) (i : Nat) (out : List UInt8) : textGo a (c :: r) i out = if c = 39 then (match r with | [] => textEnd a i out | d :: r' => if d = 39 then textGo a r' (i + 2) (out ++ [39]) else textEnd a i out) else if badB c.toNat then .err 1 else textGo a r (i + 1) (out ++ [c]) := textGo.eq_def ..
theorem tg_end (h : s.size ≤ k) : textGo a (s.data.toList.drop k) k out = .err 2 := by
  rw [List.drop_eq_nil_of_le (by simpa using h)]; rfl
theorem ne39 {c : UInt8} (h : c.toNat ≠ 39) : ¬ c = 39 := fun e => h (by rw [e]; rfl)
theorem tg_bad (h : k < s.size) (hc : s[k].toNat ≠ 39) (hb : badB s[k].toNat = true) : textGo a (s.data.toList.drop k) k out = .err 1 := by
  rw [drop_at h, tg_cons, if_neg (ne39 hc), if_pos hb]
theorem tg_char (h : k < s.size) (hc : s[k].toNat ≠ 39) (hb : badB s[k].toNat = false) : textGo a (s.data.toList.drop k) k out = textGo a (s.data.toList.drop (k + 1)) (k + 1) (out ++ [s[k]]) := by
  rw [drop_at h, tg_cons, if_neg (ne39 hc), if_neg (by rw [hb]; decide)]
theorem eq39 {c : UInt8} (h : c.toNat = 39) : c = 39 := UInt8.toNat_inj.1 h
theorem tg_stop (h : k < s.size) (hc : s[k].toNat = 39) (hn : ∀ h1 : k + 1 < s.size, s[k + 1].toNat ≠ 39) : textGo a (s.data.toList.drop k) k out = textEnd a k out := by
  rw [drop_at h, tg_cons, if_pos (eq39 hc)]
  by_cases h1 : k + 1 < s.size
  · rw [drop_at h1]
    simp only
    rw [if_neg (ne39 (hn h1))]
  · rw [List.drop_eq_nil_of_le (by simpa using h1)]
theorem tg_two (h1 : k + 1 < s.size) (hc : s[k].toNat = 39) (hn : s[k + 1].toNat = 39) : textGo a (s.data.toList.drop k) k out = textGo a (s.data.toList.drop (k + 2)) (k + 2) (out ++ [s[k]]) := by
  rw [drop_at (show k < s.size by omega), tg_cons, if_pos (eq39 hc), drop_at h1]
  simp only
  rw [if_pos (eq39 hn), eq39 hc]
end
theorem len_call (B : Nat) (out : List UInt8) {w : World} (h : Lib.IsBuilder 159 5 B B (Lib.byteCells out) w) :
    Calls Tryz.prog 96 #[.pointer (some ⟨B, 0, none⟩)] w fun e w' => e = .returned (.int .i64 (out.length : Int)) ∧ w = w' :=
  (Tryz.Builder_Len B B _ w h).mono fun _ _ hh => ⟨by rw [hh.1, Lib.byteCells_length], hh.2.symm⟩
def TextRel (w : World) (a b : Nat) (s : ByteArray) (gk : Nat) (wr : World) : Prop :=
  ∃ (k : Nat) (out : List UInt8), k + gk = s.size ∧ out.length ≤ k ∧ Sc wr b s k ∧ Tk wr w.heap.size (.int .i64 0) (.string ⟨#[]⟩) (.int .i64 0) (.int .i64 0) ∧
    Lib.IsBuilder 159 5 (w.heap.size + 1) (w.heap.size + 1) (Lib.byteCells out) wr ∧ w.grownBy wr (some b) ∧ textGo a (s.data.toList.drop k) k out = textScan s.data.toList a
set_option maxHeartbeats 4000000 in
set_option maxRecDepth 100000 in
theorem scan_text (b : Nat) (s : ByteArray) (a : Nat) (w : World) (h : Sc w b s a) (ha : a < s.size) (hs : s.size ≤ 65536) :
    Calls Tryz.prog 79 #[.pointer (some ⟨b, 0, none⟩)] w (ScanPost w b s a (textScan s.data.toList a)) := by
  have hbl := h.lt
  have hne : w.heap.size ≠ b := by omega
  have h1 := h.alloc (.cells #[.int .i64 0, .string ⟨#[]⟩, .int .i64 0, .int .i64 0] 95)
  have h2 := h1.alloc (.cells #[.pointer none, .slice none 0 0] 159)
  have q1 := h1.at_
  have q2 := h2.at_
  have q3 := h2.free 1
  have hA := ((h.set (a + 1)).alloc (.cells #[.int .i64 0, .string ⟨#[]⟩, .int .i64 0, .int .i64 0] 95)).alloc (.cells #[.pointer none, .slice none 0 0] 159)
  have hsz : (w.setCell ⟨b, 1, none⟩ (.int .i64 ((a + 1 : Nat) : Int))).heap.size = w.heap.size := by simp [World.setCell]
  have hK := (Tk.new (w.setCell ⟨b, 1, none⟩ (.int .i64 ((a + 1 : Nat) : Int))) (.int .i64 0) (.string ⟨#[]⟩) (.int .i64 0) (.int .i64 0)).below ((Below.refl _ _).alloc (Nat.le_refl _) (.cells #[.pointer none, .slice none 0 0] 159))
  rw [hsz] at hK
  have hG : w.grownBy (((w.setCell ⟨b, 1, none⟩ (.int .i64 ((a + 1 : Nat) : Int))).alloc (.cells #[.int .i64 0, .string ⟨#[]⟩, .int .i64 0, .int .i64 0] 95)).alloc (.cells #[.pointer none, .slice none 0 0] 159)) (some b) := grown_trans (grown_trans (only_setCell (World.grownBy.refl w _) 1 _) (World.grownBy_alloc _ _ _)) (World.grownBy_alloc _ _ _)
  have hBd := Lib.fresh_isBuilder 159 5 ((w.setCell ⟨b, 1, none⟩ (.int .i64 ((a + 1 : Nat) : Int))).alloc (.cells #[.int .i64 0, .string ⟨#[]⟩, .int .i64 0, .int .i64 0] 95))
  have hsz2 : ((w.setCell ⟨b, 1, none⟩ (.int .i64 ((a + 1 : Nat) : Int))).alloc (.cells #[.int .i64 0, .string ⟨#[]⟩, .int .i64 0, .int .i64 0] 95)).heap.size = w.heap.size + 1 := by simp [World.setCell]
  rw [hsz2] at hBd
  clear hsz hsz2
  have hc1 : ((a + 1 : Nat) : Int) = (a : Int) + 1 := by omega
  rw [hc1] at hA hK hG hBd
  clear hc1
  have HBD := Lib.hid hBd
  clear hBd h h1 h2
  go_enter Tryz.func79, Tryz.ntmps79
  go_wp2_with fail
  clear q1 q2 q3
  generalize ((w.setCell ⟨b, 1, none⟩ (.int .i64 ((a : Int) + 1))).alloc (.cells #[.int .i64 0, .string ⟨#[]⟩, .int .i64 0, .int .i64 0] 95)).alloc (.cells #[.pointer none, .slice none 0 0] 159) = w0 at hA hK hG HBD ⊢
  go_loopg [] (s.size - (a + 1)) (fun gk wr => TextRel w a b s gk wr)
  case atStart => exact ⟨a + 1, [], by omega, by simp, hA, hK, HBD.out, hG, rfl⟩
  case round =>
    obtain ⟨k, out, hkg, hol, hsc, hk, hbd, hg, htg⟩ := hrel
    have HT := Lib.hid htg
    have HB := Lib.hid hbd
    clear htg hbd hA hK hG HBD
    have t0 := hsc.text
    have t1 := hsc.at_
    by_cases hlt : k < s.size
    · have d1 : decide ((s.size : Int) ≤ (k : Int)) = false := decide_eq_false (by omega)
      have i0 : (0 : Int) ≤ (k : Int) := by omega
      have i1 : (k : Int) < (s.size : Int) := by omega
      have hb8 : s[k].toNat < 256 := s[k].toNat_lt
      go_wp2_with fail
      go_quiet (fail)
      replace hk := hk.drewN nq
      replace hsc := hsc.drewN nq
      replace hg := only_drewN hg nq
      replace HB := Lib.hid (build_drewN HB.out nq)
      replace t0 := hsc.text
      replace t1 := hsc.at_
      generalize wr.drewN nq = w1 at hk hsc hg HB t0 t1 ⊢
      go_wp2_with fail
      go_quiet (fail)
      replace hk := hk.drewN nq
      replace hsc := hsc.drewN nq
      replace hg := only_drewN hg nq
      replace HB := Lib.hid (build_drewN HB.out nq)
      replace t0 := hsc.text
      replace t1 := hsc.at_
      generalize w1.drewN nq = w2 at hk hsc hg HB t0 t1 ⊢
      have ff := hsc.free 1
      by_cases hc : s[k].toNat = 39
      · have c1 : ((s[k].toNat : Int) == 39) = true := beq_iff_eq.2 (by omega)
        have c2 : (32 : Int) ≤ (s[k].toNat : Int) := by omega
        have c3 : (s[k].toNat : Int) ≤ 126 := by omega
        by_cases h1 : k + 1 < s.size
        · have e1 : decide ((s.size : Int) ≤ (k : Int) + 1) = false := decide_eq_false (by omega)
          have e2 : (0 : Int) ≤ (k : Int) + 1 := by omega
          have e3 : (k : Int) + 1 < (s.size : Int) := by omega
          have e4 : ((k : Int) + 1).toNat = k + 1 := by omega
          by_cases hn : s[k + 1].toNat = 39
          · have n1 : ((s[k + 1].toNat : Int) != 39) = false := by rw [hn]; rfl
            have HT2 := Lib.hid ((tg_two h1 hc hn).symm.trans HT.out)
            clear HT hc hn
            go_wp2_with fail
            have hk' : Tk (w2.setCell ⟨b, 1, none⟩ (.int .i64 ((k : Int) + 1))) w.heap.size (.int .i64 0) (.string ⟨#[]⟩) (.int .i64 0) (.int .i64 0) := hk.far hne _ _
            have hsc' : Sc (w2.setCell ⟨b, 1, none⟩ (.int .i64 ((k : Int) + 1))) b s (k + 1) := hsc.set (k + 1)
            have hg' : w.grownBy (w2.setCell ⟨b, 1, none⟩ (.int .i64 ((k : Int) + 1))) (some b) := only_setCell hg 1 _
            have HB' := Lib.hid (build_far HB.out (p := ⟨b, 1, none⟩) (by show b < _; omega) (.int .i64 ((k : Int) + 1)))
            generalize w2.setCell ⟨b, 1, none⟩ (.int .i64 ((k : Int) + 1)) = w3 at hk' hsc' hg' HB' ⊢
            clear hk hsc hg HB t0 t1 ff
            have hk := hk'
            have hsc := hsc'
            have hg := hg'
            have HB := HB'
            clear hk' hsc' hg' HB'
            have t0 := hsc.text
            have t1 := hsc.at_
            go_quiet (fail)
            replace hk := hk.drewN nq
            replace hsc := hsc.drewN nq
            replace hg := only_drewN hg nq
            replace HB := Lib.hid (build_drewN HB.out nq)
            replace t0 := hsc.text
            replace t1 := hsc.at_
            generalize w3.drewN nq = w4 at hk hsc hg HB t0 t1 ⊢
            go_wp2_with fail
            refine (Tryz.Builder_WriteByte (w.heap.size + 1) (w.heap.size + 1) _ (s[k].toNat : Int) _ HB.out (by rw [Lib.byteCells_length]; omega) (by have := hk.lt; omega)).mono ?_
            rintro e w5 ⟨rfl, hbb, hbl2⟩
            replace hk := (hbl2.block _ (by omega)).trans hk
            replace hsc := (hbl2.block _ (by omega)).trans hsc
            replace hg := grown_belowB hg hbl2 (by omega)
            change Tk w5 w.heap.size (.int .i64 0) (.string ⟨#[]⟩) (.int .i64 0) (.int .i64 0) at hk
            change Sc w5 b s _ at hsc
            replace HB : Hid (Lib.IsBuilder 159 5 (w.heap.size + 1) (w.heap.size + 1) (Lib.byteCells (out ++ [s[k]])) w5) := Lib.hid (Or.inr (by rw [byteCells_snoc]; exact hbb))
            clear hbb hbl2
            replace t0 := hsc.text
            replace t1 := hsc.at_
            have ff := hsc.free 1
            go_wp2_with fail
            go_roundg (gk - 2)
            case measure => omega
            case rel =>
              have hsc9 := hsc.set (k + 2)
              have hg9 := only_setCell hg 1 (.int .i64 ((k + 2 : Nat) : Int))
              have hk9 := hk.far hne 1 (.int .i64 ((k + 2 : Nat) : Int))
              have hb9 := build_far HB.out (p := ⟨b, 1, none⟩) (by show b < _; omega) (.int .i64 ((k + 2 : Nat) : Int))
              have e9 : ((k + 2 : Nat) : Int) = (k : Int) + 1 + 1 := by omega
              rw [e9] at hsc9 hg9 hk9 hb9
              exact ⟨k + 2, out ++ [s[k]], by omega, by rw [List.length_append]; simp; omega, hsc9, hk9, hb9, hg9, HT2.out⟩
          · have n1 : ((s[k + 1].toNat : Int) != 39) = true := by rw [bne_iff_ne]; omega
            have HT2 := Lib.hid ((tg_stop (by omega) hc (fun _ => hn)).symm.trans HT.out)
            clear HT hc hn
            go_wp2_with fail
            have hk' : Tk (w2.setCell ⟨b, 1, none⟩ (.int .i64 ((k : Int) + 1))) w.heap.size (.int .i64 0) (.string ⟨#[]⟩) (.int .i64 0) (.int .i64 0) := hk.far hne _ _
            have hsc' : Sc (w2.setCell ⟨b, 1, none⟩ (.int .i64 ((k : Int) + 1))) b s (k + 1) := hsc.set (k + 1)
            have hg' : w.grownBy (w2.setCell ⟨b, 1, none⟩ (.int .i64 ((k : Int) + 1))) (some b) := only_setCell hg 1 _
            have HB' := Lib.hid (build_far HB.out (p := ⟨b, 1, none⟩) (by show b < _; omega) (.int .i64 ((k : Int) + 1)))
            generalize w2.setCell ⟨b, 1, none⟩ (.int .i64 ((k : Int) + 1)) = w3 at hk' hsc' hg' HB' ⊢
            clear hk hsc hg HB t0 t1 ff
            have hk := hk'
            have hsc := hsc'
            have hg := hg'
            have HB := HB'
            clear hk' hsc' hg' HB'
            have t0 := hsc.text
            have t1 := hsc.at_
            go_quiet (fail)
            replace hk := hk.drewN nq
            replace hsc := hsc.drewN nq
            replace hg := only_drewN hg nq
            replace HB := Lib.hid (build_drewN HB.out nq)
            replace t0 := hsc.text
            replace t1 := hsc.at_
            generalize w3.drewN nq = w4 at hk hsc hg HB t0 t1 ⊢
            go_wp2_with fail
            refine (len_call _ _ HB.out).mono ?_
            rintro e w' ⟨rfl, rfl⟩
            by_cases h200 : 200 < out.length
            · have HF := Lib.hid (HT2.out.symm.trans (show textEnd a k out = .err 5 by unfold textEnd; rw [if_pos h200]))
              have l1 : (200 : Int) < (out.length : Int) := by omega
              clear HT2
              go_wp2_with fail
              refine ⟨rfl, ?_⟩
              rw [HF.out]
              exact ⟨rfl, hg⟩
            · have HF := Lib.hid (HT2.out.symm.trans (show textEnd a k out = .tok ⟨4, out, 0, a⟩ (k + 1) by unfold textEnd; rw [if_neg h200]))
              have l1 : ¬ (200 : Int) < (out.length : Int) := by omega
              clear HT2
              go_wp2_with fail
              refine (Tryz.Builder_String_any (w.heap.size + 1) (w.heap.size + 1) out _ HB.out (by have := hk.lt; omega)).mono ?_
              rintro e w5 ⟨rfl, hbl2⟩
              replace hk := (hbl2.block _ (by omega)).trans hk
              replace hsc := (hbl2.block _ (by omega)).trans hsc
              replace hg := grown_belowB hg hbl2 (by omega)
              clear hbl2 HB t0 t1
              change Tk w5 w.heap.size (.int .i64 0) (.string ⟨#[]⟩) (.int .i64 0) (.int .i64 0) at hk
              change Sc w5 b s (k + 1) at hsc
              have c0 := hk.c0
              have c1 := hk.c1
              have c2 := hk.c2
              have c3 := hk.c3
              have f0 := hk.free 0
              have f1 := hk.free 1
              have f2 := hk.free 2
              have f3 := hk.free 3
              go_wp2_with fail
              have hk4 := hk.set4 (.int .i64 4) (.string ⟨out.toArray⟩) (.int .i64 0) (.int .i64 a)
              refine bodyPost_ret (results_tok Tryz.results79 _ rfl hk4) rfl ?_
              rw [HF.out]
              exact ⟨rfl, (((hsc.far (Ne.symm hne) _ _).far (Ne.symm hne) _ _).far (Ne.symm hne) _ _).far (Ne.symm hne) _ _, only_new (only_new (only_new (only_new hg (Nat.le_refl _) _ _) (Nat.le_refl _) _ _) (Nat.le_refl _) _ _) (Nat.le_refl _) _ _⟩
        · have e1 : decide ((s.size : Int) ≤ (k : Int) + 1) = true := decide_eq_true (by omega)
          have HT2 := Lib.hid ((tg_stop (by omega) hc (fun h => absurd h h1)).symm.trans HT.out)
          clear HT hc
          go_wp2_with fail
          have hk' : Tk (w2.setCell ⟨b, 1, none⟩ (.int .i64 ((k : Int) + 1))) w.heap.size (.int .i64 0) (.string ⟨#[]⟩) (.int .i64 0) (.int .i64 0) := hk.far hne _ _
          have hsc' : Sc (w2.setCell ⟨b, 1, none⟩ (.int .i64 ((k : Int) + 1))) b s (k + 1) := hsc.set (k + 1)
          have hg' : w.grownBy (w2.setCell ⟨b, 1, none⟩ (.int .i64 ((k : Int) + 1))) (some b) := only_setCell hg 1 _
          have HB' := Lib.hid (build_far HB.out (p := ⟨b, 1, none⟩) (by show b < _; omega) (.int .i64 ((k : Int) + 1)))
          generalize w2.setCell ⟨b, 1, none⟩ (.int .i64 ((k : Int) + 1)) = w3 at hk' hsc' hg' HB' ⊢
          clear hk hsc hg HB t0 t1 ff
          have hk := hk'
          have hsc := hsc'
          have hg := hg'
          have HB := HB'
          clear hk' hsc' hg' HB'
          have t0 := hsc.text
          have t1 := hsc.at_
          go_quiet (fail)
          replace hk := hk.drewN nq
          replace hsc := hsc.drewN nq
          replace hg := only_drewN hg nq
          replace HB := Lib.hid (build_drewN HB.out nq)
          replace t0 := hsc.text
          replace t1 := hsc.at_
          generalize w3.drewN nq = w4 at hk hsc hg HB t0 t1 ⊢
          go_wp2_with fail
          refine (len_call _ _ HB.out).mono ?_
          rintro e w' ⟨rfl, rfl⟩
          by_cases h200 : 200 < out.length
          · have HF := Lib.hid (HT2.out.symm.trans (show textEnd a k out = .err 5 by unfold textEnd; rw [if_pos h200]))
            have l1 : (200 : Int) < (out.length : Int) := by omega
            clear HT2
            go_wp2_with fail
            refine ⟨rfl, ?_⟩
            rw [HF.out]
            exact ⟨rfl, hg⟩
          · have HF := Lib.hid (HT2.out.symm.trans (show textEnd a k out = .tok ⟨4, out, 0, a⟩ (k + 1) by unfold textEnd; rw [if_neg h200]))
            have l1 : ¬ (200 : Int) < (out.length : Int) := by omega
            clear HT2
            go_wp2_with fail
            refine (Tryz.Builder_String_any (w.heap.size + 1) (w.heap.size + 1) out _ HB.out (by have := hk.lt; omega)).mono ?_
            rintro e w5 ⟨rfl, hbl2⟩
            replace hk := (hbl2.block _ (by omega)).trans hk
            replace hsc := (hbl2.block _ (by omega)).trans hsc
            replace hg := grown_belowB hg hbl2 (by omega)
            clear hbl2 HB t0 t1
            change Tk w5 w.heap.size (.int .i64 0) (.string ⟨#[]⟩) (.int .i64 0) (.int .i64 0) at hk
            change Sc w5 b s (k + 1) at hsc
            have c0 := hk.c0
            have c1 := hk.c1
            have c2 := hk.c2
            have c3 := hk.c3
            have f0 := hk.free 0
            have f1 := hk.free 1
            have f2 := hk.free 2
            have f3 := hk.free 3
            go_wp2_with fail
            have hk4 := hk.set4 (.int .i64 4) (.string ⟨out.toArray⟩) (.int .i64 0) (.int .i64 a)
            refine bodyPost_ret (results_tok Tryz.results79 _ rfl hk4) rfl ?_
            rw [HF.out]
            exact ⟨rfl, (((hsc.far (Ne.symm hne) _ _).far (Ne.symm hne) _ _).far (Ne.symm hne) _ _).far (Ne.symm hne) _ _, only_new (only_new (only_new (only_new hg (Nat.le_refl _) _ _) (Nat.le_refl _) _ _) (Nat.le_refl _) _ _) (Nat.le_refl _) _ _⟩
      · have c1 : ((s[k].toNat : Int) == 39) = false := beq_eq_false_iff_ne.2 (by omega)
        rcases hb : badB s[k].toNat with _ | _
        · have HT2 := Lib.hid ((tg_char hlt hc hb).symm.trans HT.out)
          have c2 : (32 : Int) ≤ (s[k].toNat : Int) := by unfold badB at hb; simp at hb; omega
          have c3 : (s[k].toNat : Int) ≤ 126 := by unfold badB at hb; simp at hb; omega
          clear HT hc hb
          go_wp2_with fail
          refine (Tryz.Builder_WriteByte (w.heap.size + 1) (w.heap.size + 1) _ (s[k].toNat : Int) _ HB.out (by rw [Lib.byteCells_length]; omega) (by have := hk.lt; omega)).mono ?_
          rintro e w3 ⟨rfl, hbb, hbl2⟩
          replace hk := (hbl2.block _ (by omega)).trans hk
          replace hsc := (hbl2.block _ (by omega)).trans hsc
          replace hg := grown_belowB hg hbl2 (by omega)
          change Tk w3 w.heap.size (.int .i64 0) (.string ⟨#[]⟩) (.int .i64 0) (.int .i64 0) at hk
          change Sc w3 b s _ at hsc
          replace HB : Hid (Lib.IsBuilder 159 5 (w.heap.size + 1) (w.heap.size + 1) (Lib.byteCells (out ++ [s[k]])) w3) := Lib.hid (Or.inr (by rw [byteCells_snoc]; exact hbb))
          clear hbb hbl2
          replace t0 := hsc.text
          replace t1 := hsc.at_
          have ff := hsc.free 1
          go_wp2_with fail
          go_roundg (gk - 1)
          case measure => omega
          case rel =>
            have hsc9 := hsc.set (k + 1)
            have hg9 := only_setCell hg 1 (.int .i64 ((k + 1 : Nat) : Int))
            have hk9 := hk.far hne 1 (.int .i64 ((k + 1 : Nat) : Int))
            have hb9 := build_far HB.out (p := ⟨b, 1, none⟩) (by show b < _; omega) (.int .i64 ((k + 1 : Nat) : Int))
            have e9 : ((k + 1 : Nat) : Int) = (k : Int) + 1 := by omega
            rw [e9] at hsc9 hg9 hk9 hb9
            exact ⟨k + 1, out ++ [s[k]], by omega, by rw [List.length_append]; simp; omega, hsc9, hk9, hb9, hg9, HT2.out⟩
        · have HT2 := Lib.hid ((tg_bad hlt hc hb).symm.trans HT.out)
          have cc : (s[k].toNat : Int) < 32 ∨ 126 < (s[k].toNat : Int) := by unfold badB at hb; simp at hb; omega
          clear HT hc hb
          rcases cc with c2 | c2
          all_goals
            go_wp2_with fail
            refine ⟨rfl, ?_⟩
            rw [← HT2.out]
            exact ⟨rfl, hg⟩
    · obtain rfl : k = s.size := by omega
      have d1 : decide ((s.size : Int) ≤ (s.size : Int)) = true := by simp
      have HT2 := Lib.hid ((tg_end (Nat.le_refl _)).symm.trans HT.out)
      clear HT
      go_wp2_with fail
      go_quiet (fail)
      go_wp2_with fail
      refine ⟨rfl, ?_⟩
      rw [← HT2.out]
      exact ⟨rfl, only_drewN hg _⟩
end Go.Proofs.YtpmncgbpbcgfaaaGreatDoor
