/-
  The reference's symbol.
-/
import Derived.Test.YtlbmamcchomecaaDoorLrScanW
namespace Go.Proofs.YtlbmamcchomecaaDoor
open Go.RowKit
set_option linter.unusedVariables false
set_option linter.unusedSimpArgs false

def symL (j : Nat) : List UInt8 := if j < 4 then twos.getD j [] else [ones.getD (j - 4) 0]
def symBlock : Obj := .cells ((List.range 17).map fun j => kwS (symL j)).toArray 9
def Hits (s : ByteArray) (a j : Nat) : Prop := a + (symL j).length ≤ s.size ∧ (s.data.toList.drop a).take (symL j).length = symL j
theorem symL_two {j : Nat} (h : j < 4) : (symL j).length = 2 ∧ symL j ∈ twos := by
  match j, h with
  | 0, _ => decide
  | 1, _ => decide
  | 2, _ => decide
  | 3, _ => decide
theorem symL_one {j : Nat} (h : 4 ≤ j) : symL j = [ones.getD (j - 4) 0] := by unfold symL; rw [if_neg (by omega)]
theorem twos_at {l : List UInt8} (h : l ∈ twos) : ∃ j, j < 4 ∧ l = symL j := by
  simp only [twos, List.mem_cons, List.not_mem_nil, or_false] at h
  rcases h with rfl | rfl | rfl | rfl
  · exact ⟨0, by omega, rfl⟩
  · exact ⟨1, by omega, rfl⟩
  · exact ⟨2, by omega, rfl⟩
  · exact ⟨3, by omega, rfl⟩
theorem no_two {s : ByteArray} {a : Nat} (h : ∀ j, j < 4 → ¬ Hits s a j) : twos.contains ((s.data.toList.drop a).take 2) = false := by
  rw [Bool.eq_false_iff]
  intro hc
  have hm : (s.data.toList.drop a).take 2 ∈ twos := by simpa using hc
  obtain ⟨j, hj, e⟩ := twos_at hm
  have hl := (symL_two hj).1
  refine h j hj ⟨?_, by rw [hl]; exact e⟩
  have := congrArg List.length e
  rw [hl] at this
  simp at this
  omega
theorem sym_hit {s : ByteArray} {a k : Nat} (hk : k < 17) (ha : a < s.size) (hno : ∀ j, j < k → ¬ Hits s a j) (h : Hits s a k) : symScan s.data.toList a = .tok ⟨5, symL k, 0, a⟩ (a + (symL k).length) := by
  rcases Nat.lt_or_ge k 4 with h4 | h4
  · obtain ⟨hl, hm⟩ := symL_two h4
    have e := h.2
    rw [hl] at e
    unfold symScan
    rw [e, if_pos (by simpa using hm), hl]
  · have h2 := no_two (fun j hj => hno j (by omega))
    rw [symScan_one ha h2]
    have e := h.2
    rw [symL_one h4] at e ⊢
    simp only [List.length_singleton] at e
    rw [List.drop_eq_getElem_cons (by simpa using ha)] at e
    have e1 : s[a] = ones.getD (k - 4) 0 := by
      have e2 : s.data.toList[a]'(by simpa using ha) = ones.getD (k - 4) 0 := by simpa using e
      exact e2
    have hm : ones.contains s[a] = true := by
      rw [e1]
      have hlen : ones.length = 13 := rfl
      rw [List.getD_eq_getElem?_getD, List.getElem?_eq_getElem (show k - 4 < ones.length by omega)]
      simp
    rw [if_pos hm, e1]
    rfl
theorem sym_miss {s : ByteArray} {a : Nat} (ha : a < s.size) (hno : ∀ j, j < 17 → ¬ Hits s a j) : symScan s.data.toList a = .err 1 := by
  have h2 := no_two (fun j hj => hno j (by omega))
  rw [symScan_one ha h2]
  rw [if_neg]
  intro hc
  have hm : s[a] ∈ ones := by simpa using hc
  obtain ⟨j, hj, e⟩ := List.mem_iff_getElem.1 hm
  have hlen : ones.length = 13 := rfl
  refine hno (j + 4) (by omega) ?_
  have hs1 : symL (j + 4) = [s[a]] := by
    rw [symL_one (by omega)]
    have e3 : j + 4 - 4 = j := by omega
    rw [e3, List.getD_eq_getElem?_getD, List.getElem?_eq_getElem hj, ← e]
    rfl
  unfold Hits
  rw [hs1]
  refine ⟨by simp; omega, ?_⟩
  rw [List.drop_eq_getElem_cons (by simpa using ha)]
  rfl
theorem symL_len (j : Nat) : (symL j).length ≤ 2 := by
  rcases Nat.lt_or_ge j 4 with h | h
  · exact Nat.le_of_eq (symL_two h).1
  · rw [symL_one h]; simp
theorem sym_cell {w : World} {B : Nat} (h : w.heap[B]? = some symBlock) {j : Nat} (hj : j < 17) : w.cell? ⟨B, j, none⟩ = some (.string ⟨(symL j).toArray⟩) := by
  rw [cell_of_row w B j _ _ (0, 0) h]
  simp only [List.getElem?_toArray, List.getElem?_map]
  rw [List.getElem?_range hj]
  rfl
theorem new_sym (w : World) (o : Obj) (h : o = symBlock) : (w.alloc o).heap[w.heap.size]? = some symBlock := by rw [h]; exact heap_alloc_new w _
def SRel (w : World) (s : ByteArray) (a : Nat) (i : Value) (wr : World) : Prop :=
  ∃ k : Nat, k ≤ 17 ∧ i = .int .i64 k ∧ Tk wr w.heap.size (.int .i64 0) (.string ⟨#[]⟩) (.int .i64 0) (.int .i64 0) ∧ wr.heap[w.heap.size + 1]? = some symBlock ∧ Below w.heap.size w wr ∧ ∀ j, j < k → ¬ Hits s a j
theorem below_drewN {B : Nat} {a w : World} (h : Below B a w) (n : Nat) : Below B a (w.drewN n) := ⟨h.os, h.tape, h.output, h.size, h.block⟩
set_option maxRecDepth 100000 in
set_option maxHeartbeats 4000000 in
theorem symbol_scan_ref (s : ByteArray) (a : Nat) (w : World) (ha : a < s.size) (hs : s.size ≤ 65536) :
    Calls Tryd.prog 26 #[.string s, .int .i64 (a : Int)] w (RefPost w a (symScan s.data.toList a)) := by
  have hk0 := Tk.new w (.int .i64 0) (.string ⟨#[]⟩) (.int .i64 0) (.int .i64 0)
  have hb0 : Below w.heap.size w (w.alloc (.cells #[.int .i64 0, .string ⟨#[]⟩, .int .i64 0, .int .i64 0] 30)) := (Below.refl _ _).alloc (Nat.le_refl _) _
  have hsz : (w.alloc (.cells #[.int .i64 0, .string ⟨#[]⟩, .int .i64 0, .int .i64 0] 30)).heap.size = w.heap.size + 1 := by simp
  go_enter Tryd.func26, Tryd.ntmps26
  go_wp2_with fail
  generalize hw : (w.alloc (.cells #[.int .i64 0, .string ⟨#[]⟩, .int .i64 0, .int .i64 0] 30)).alloc _ = w0
  have hblk : w0.heap[w.heap.size + 1]? = some symBlock := by
    rw [← hw, ← hsz]
    exact new_sym _ _ (by kernel_rfl)
  have hk1 : Tk w0 w.heap.size (.int .i64 0) (.string ⟨#[]⟩) (.int .i64 0) (.int .i64 0) := by
    rw [← hw]
    exact hk0.below ((Below.refl _ _).alloc (Nat.le_refl _) _)
  have hb1 : Below w.heap.size w w0 := by
    rw [← hw]
    exact hb0.alloc (by omega) _
  clear hw hsz hk0 hb0
  go_loopw [8] (fun i wr => SRel w s a i wr) (fun i _ => 17 - (intOf i).toNat)
  case atStart => exact ⟨0, by omega, rfl, hk1, hblk, hb1, fun j hj => absurd hj (by omega)⟩
  case round =>
    obtain ⟨k, hk17, rfl, hk, hbl, hb, hno⟩ := hrel
    have HN := Lib.hid hno
    clear hno hk1 hblk hb1
    by_cases hlt : k < 17
    · have hcell := sym_cell hbl hlt
      have hlen := symL_len k
      have k0 : (0 : Int) ≤ (k : Int) := by omega
      have k1 : (k : Int) < 17 := by omega
      have a0 : (0 : Int) ≤ (a : Int) := by omega
      have HH : Hid (Hits s a k ↔ (a + (symL k).length ≤ s.size ∧ (s.data.toList.drop a).take (symL k).length = symL k)) := Lib.hid Iff.rfl
      have HIT := Lib.hid (fun h : Hits s a k => sym_hit hlt ha HN.out h)
      have HB := Lib.hid hbl
      clear hbl
      generalize symL k = y at hcell hlen HH HIT
      go_wp2_with fail
      have hsum : ((y.length : Int) + (a : Int)) = (a : Int) + (y.length : Int) := by omega
      clear hsum
      by_cases hfit : a + y.length ≤ s.size
      · have d0 : decide ((a : Int) + (y.length : Int) ≤ (s.size : Int)) = true := decide_eq_true (by omega)
        have d1 : decide (a + y.length ≤ s.size) = true := decide_eq_true hfit
        have v1 : (0 : Int) ≤ (a : Int) + (y.length : Int) := by omega
        have v2 : ((a : Int) + (y.length : Int)).toNat = a + y.length := by omega
        have v3 : (a : Int) ≤ (a : Int) + (y.length : Int) := by omega
        have v4 : (a : Int) + (y.length : Int) ≤ (s.size : Int) := by omega
        have hext : (s.extract a (a + y.length)).toList = (s.data.toList.drop a).take y.length := by
          rw [Lib.toList_data, extract_bytes, mk_list]
          congr 1
          omega
        have HX := Lib.hid hext
        clear hext
        go_quiet (fail)
        rw [HX.out]
        replace hk := hk.drewN nq
        replace hb := below_drewN hb nq
        replace HB : Hid ((wr.drewN nq).heap[w.heap.size + 1]? = some symBlock) := Lib.hid HB.out
        replace hcell : (wr.drewN nq).cell? ⟨w.heap.size + 1, k, none⟩ = some (.string ⟨y.toArray⟩) := hcell
        generalize wr.drewN nq = w2 at hk hb HB hcell ⊢
        by_cases he : (s.data.toList.drop a).take y.length = y
        · have HF := Lib.hid (HIT.out (HH.out.2 ⟨hfit, he⟩))
          rw [beq_iff_eq.2 he]
          clear HIT HH HN he d0 d1
          have c0 := hk.c0
          have c1 := hk.c1
          have c2 := hk.c2
          have c3 := hk.c3
          have f0 := hk.free 0
          have f1 := hk.free 1
          have f2 := hk.free 2
          have f3 := hk.free 3
          go_wp2_with fail
          have hk4 := hk.set4 (.int .i64 5) (.string ⟨y.toArray⟩) (.int .i64 0) (.int .i64 a)
          refine bodyPost_ret (results_ref Tryd.results26 _ rfl hk4) rfl ?_
          rw [HF.out]
          exact ⟨rfl, (((hb.setCell (Nat.le_refl _) _).setCell (Nat.le_refl _) _).setCell (Nat.le_refl _) _).setCell (Nat.le_refl _) _⟩
        · have HNO : Hid (¬ Hits s a k) := Lib.hid (fun h => he (HH.out.1 h).2)
          rw [beq_eq_false_iff_ne.2 he]
          clear HIT HH he d0 d1
          have HN2 := Lib.hid (fun j (hj : j < k + 1) => show ¬ Hits s a j by
            by_cases e : j = k
            · subst e; exact HNO.out
            · exact HN.out j (by omega))
          go_wp2_with fail
          go_roundw
          case rel => exact ⟨k + 1, by omega, by go_num, hk, HB.out, hb, HN2.out⟩
          case measure => simp [intOf]; omega
      · have HNO : Hid (¬ Hits s a k) := Lib.hid (fun h => hfit (HH.out.1 h).1)
        have d0 : decide ((a : Int) + (y.length : Int) ≤ (s.size : Int)) = false := decide_eq_false (by omega)
        have d1 : decide (a + y.length ≤ s.size) = false := decide_eq_false hfit
        go_quiet (fail)
        replace hk := hk.drewN nq
        replace hb := below_drewN hb nq
        replace HB : Hid ((wr.drewN nq).heap[w.heap.size + 1]? = some symBlock) := Lib.hid HB.out
        generalize wr.drewN nq = w2 at hk hb HB ⊢
        clear d0 d1 hcell HIT HH
        have HN2 := Lib.hid (fun j (hj : j < k + 1) => show ¬ Hits s a j by
          by_cases e : j = k
          · subst e; exact HNO.out
          · exact HN.out j (by omega))
        go_wp2_with fail
        go_roundw
        case rel => exact ⟨k + 1, by omega, by go_num, hk, HB.out, hb, HN2.out⟩
        case measure => simp [intOf]; omega
    · obtain rfl : k = 17 := by omega
      have HF := Lib.hid (sym_miss ha HN.out)
      clear HN hbl
      have c0 := hk.c0
      have c1 := hk.c1
      have c2 := hk.c2
      have c3 := hk.c3
      have f0 := hk.free 0
      have f1 := hk.free 1
      have f2 := hk.free 2
      have f3 := hk.free 3
      go_wp2_with fail
      have hk4 := hk.set4 (.int .i64 0) (.string ⟨#[]⟩) (.int .i64 0) (.int .i64 0)
      refine bodyPost_ret (results_ref Tryd.results26 _ rfl hk4) rfl ?_
      rw [HF.out]
      exact ⟨rfl, (((hb.setCell (Nat.le_refl _) _).setCell (Nat.le_refl _) _).setCell (Nat.le_refl _) _).setCell (Nat.le_refl _) _⟩
end Go.Proofs.YtlbmamcchomecaaDoor
