/-
  The scanner's word: a keyword, a name, or a panic.
-/
import Derived.Test.YtlbmamcchomecaaDoorLxWord
namespace Go.Proofs.YtlbmamcchomecaaDoor
open Go.RowKit
set_option linter.unusedVariables false
set_option linter.unusedSimpArgs false

def strV (l : List UInt8) : Value := .string ⟨l.toArray⟩
def tokV (t : Tok) : Value := .agg #[.int .i64 (t.kind : Int), strV t.text, .int .i64 (t.int : Int), .int .i64 (t.at_ : Int)]
def failV (a c : Nat) : Value := .iface 36 (.agg #[.int .i64 (a : Int), .int .i64 (c : Int)])
def ScanPost (w : World) (b : Nat) (s : ByteArray) (a : Nat) : Scan → Ending → World → Prop
  | .err c, e, w' => e = .panicked [{ v := failV a c, recovered := false }] ∧ w.grownBy w' (some b)
  | .tok t f, e, w' => e = .returned (tokV t) ∧ Sc w' b s f ∧ w.grownBy w' (some b)
theorem extract_bytes (s : ByteArray) (i j : Nat) : s.extract i j = ⟨((s.data.toList.drop i).take (j - i)).toArray⟩ := by
  apply ByteArray.ext
  rw [ByteArray.data_extract]
  apply Array.ext'
  simp [List.take_drop]
theorem extract_run (cls : Nat → Bool) (s : ByteArray) (a : Nat) : s.extract a (runEnd cls s.data.toList a) = ⟨(runOf cls s.data.toList a).toArray⟩ := by
  rw [extract_bytes, runOf_take]
theorem mk_size (l : List UInt8) : (ByteArray.mk l.toArray).size = l.length := by simp [ByteArray.size]
theorem mk_list (l : List UInt8) : (ByteArray.mk l.toArray).data.toList = l := by simp
def RunsTo (w : World) (b : Nat) (s : ByteArray) (r : List UInt8) (k : Nat) (e : Ending) (w' : World) : Prop :=
  e = .returned (strV r) ∧ Sc w' b s k ∧ w.grownBy w' (some b)
theorem run_word' (b : Nat) (s : ByteArray) (a : Nat) (w : World) (h : Sc w b s a) (ha : a ≤ s.size) (hs : s.size ≤ 65536) :
    Calls Tryd.prog 38 #[.pointer (some ⟨b, 0, none⟩), .func (.func 57) #[] #[]] w (RunsTo w b s (runOf wordB s.data.toList a) (runEnd wordB s.data.toList a)) :=
  (run_word b s a w h ha hs).mono fun _ _ ⟨h1, h2, h3⟩ => ⟨by rw [h1, extract_run]; rfl, h2, h3⟩
theorem run_digit' (b : Nat) (s : ByteArray) (a : Nat) (w : World) (h : Sc w b s a) (ha : a ≤ s.size) (hs : s.size ≤ 65536) :
    Calls Tryd.prog 38 #[.pointer (some ⟨b, 0, none⟩), .func (.func 32) #[] #[]] w (RunsTo w b s (runOf digitB s.data.toList a) (runEnd digitB s.data.toList a)) :=
  (run_digit b s a w h ha hs).mono fun _ _ ⟨h1, h2, h3⟩ => ⟨by rw [h1, extract_run]; rfl, h2, h3⟩
theorem word_call' (l : List UInt8) (w : World) (hs : l.length ≤ 140737488351232) (h : Tab w) :
    Calls Tryd.prog 14 #[.string ⟨l.toArray⟩] w fun e w' => e = .returned (.bool (isWord l)) ∧ Below w.heap.size w w' :=
  (word_call ⟨l.toArray⟩ w (by rw [mk_size]; exact hs) h).mono fun _ _ h => by unfold WordPost at h; simpa using h
theorem lower_same {l : List UInt8} (h : l.any (fun c => upperB c.toNat) = false) : Lib.toLowerA l = l := by
  unfold Lib.toLowerA
  rw [List.map_congr_left (g := id), List.map_id]
  intro c hc
  have h1 := List.any_eq_false.1 h c hc
  unfold Lib.lowerB Lib.isUpperB
  rw [if_neg]
  · rfl
  · unfold upperB at h1
    simp [UInt8.le_iff_toNat_le] at h1 ⊢
    omega
theorem lower_other {l : List UInt8} (h : l.any (fun c => upperB c.toNat) = true) : Lib.toLowerA l ≠ l := by
  intro he
  obtain ⟨c, hc, h1⟩ := List.any_eq_true.1 h
  unfold Lib.toLowerA at he
  have h2 : ∀ x ∈ l, Lib.lowerB x = x := by
    have : l.map Lib.lowerB = l.map id := by rw [he, List.map_id]
    intro x hx
    exact (List.map_inj_left.1 this) x hx
  have h3 := h2 c hc
  unfold upperB at h1
  simp at h1
  have h4 : Lib.isUpperB c = true := by unfold Lib.isUpperB; simp [UInt8.le_iff_toNat_le]; omega
  unfold Lib.lowerB at h3
  rw [if_pos h4] at h3
  have h5 := congrArg UInt8.toNat h3
  rw [UInt8.toNat_add] at h5
  simp at h5
  omega
theorem word_ascii {n : Nat} (h : wordB n = true) : n < 128 := by
  unfold wordB letterB digitB at h
  simp at h
  omega
theorem run_ascii (l : List UInt8) (a : Nat) : ∀ (j : Nat) (b : UInt8), (ByteArray.mk (runOf wordB l a).toArray).data.toList[j]? = some b → b.toNat < 128 := by
  intro j b hj
  rw [mk_list] at hj
  exact word_ascii (runOf_cls (List.mem_of_getElem? hj))
theorem lower_call (l : List UInt8) (a : Nat) (w : World) (hl : (runOf wordB l a).length ≤ 65536) :
    Calls Tryd.prog 58 #[.string ⟨(runOf wordB l a).toArray⟩] w fun e w' => e = .returned (.string ⟨(Lib.toLowerA (runOf wordB l a)).toArray⟩) ∧ Below w.heap.size w w' :=
  (Tryd.strings_ToLower_ascii ⟨(runOf wordB l a).toArray⟩ w (by rw [mk_size]; omega) (run_ascii l a)).mono fun _ _ h => by simpa using h
theorem upper_call (l : List UInt8) (a : Nat) (w : World) (hl : (runOf wordB l a).length ≤ 65536) :
    Calls Tryd.prog 31 #[.string ⟨(runOf wordB l a).toArray⟩] w fun e w' => e = .returned (.string ⟨(upL (runOf wordB l a)).toArray⟩) ∧ Below w.heap.size w w' :=
  (Tryd.strings_ToUpper_ascii ⟨(runOf wordB l a).toArray⟩ w (by rw [mk_size]; omega) (run_ascii l a)).mono fun _ _ h => by rw [mk_list, upper_upL] at h; exact h
/-- a token's block: a result's variable -/
def Tk (w : World) (g : Nat) (v0 v1 v2 v3 : Value) : Prop := w.heap[g]? = some (.cells #[v0, v1, v2, v3] 30 (0, 0))
section
variable {w w' : World} {g : Nat} {v0 v1 v2 v3 : Value}
theorem Tk.c0 (h : Tk w g v0 v1 v2 v3) : w.cell? ⟨g, 0, none⟩ = some v0 := by rw [cell_of_row w g 0 _ _ (0, 0) h]; rfl
theorem Tk.c1 (h : Tk w g v0 v1 v2 v3) : w.cell? ⟨g, 1, none⟩ = some v1 := by rw [cell_of_row w g 1 _ _ (0, 0) h]; rfl
theorem Tk.c2 (h : Tk w g v0 v1 v2 v3) : w.cell? ⟨g, 2, none⟩ = some v2 := by rw [cell_of_row w g 2 _ _ (0, 0) h]; rfl
theorem Tk.c3 (h : Tk w g v0 v1 v2 v3) : w.cell? ⟨g, 3, none⟩ = some v3 := by rw [cell_of_row w g 3 _ _ (0, 0) h]; rfl
theorem Tk.free (h : Tk w g v0 v1 v2 v3) (j : Nat) : w.frozen? ⟨g, j, none⟩ = false := by unfold Tk at h; simp [World.frozen?, h]
theorem Tk.lt (h : Tk w g v0 v1 v2 v3) : g < w.heap.size := by
  rcases Nat.lt_or_ge g w.heap.size with hlt | hge
  · exact hlt
  · unfold Tk at h; rw [Array.getElem?_eq_none hge] at h; cases h
theorem Tk.below (h : Tk w g v0 v1 v2 v3) (hb : Below w.heap.size w w') : Tk w' g v0 v1 v2 v3 := (hb.block _ h.lt).trans h
theorem Tk.grown {b : Nat} (h : Tk w g v0 v1 v2 v3) (hb : w.grownBy w' (some b)) (hne : g ≠ b) : Tk w' g v0 v1 v2 v3 := (hb.block _ h.lt (by simpa using hne)).trans h
theorem Tk.drewN (h : Tk w g v0 v1 v2 v3) (k : Nat) : Tk (w.drewN k) g v0 v1 v2 v3 := h
theorem Tk.set4 (h : Tk w g v0 v1 v2 v3) (n0 n1 n2 n3 : Value) : Tk ((((w.setCell ⟨g, 0, none⟩ n0).setCell ⟨g, 1, none⟩ n1).setCell ⟨g, 2, none⟩ n2).setCell ⟨g, 3, none⟩ n3) g n0 n1 n2 n3 := by
  unfold Tk at h ⊢
  simp [World.setCell, Array.getElem?_modify, h]
theorem results_tok {fn : Func} (hr : fn.results = #[.cell 2 30]) (tmps : Array Value) (ht : tmps.getD 2 undef = .pointer (some ⟨g, 0, none⟩)) (h : Tk w g v0 v1 v2 v3) :
    (results fn tmps).run Tryd.prog w = .ok (.agg #[v0, v1, v2, v3]) w := by
  have c0 := h.c0
  have c1 := h.c1
  have c2 := h.c2
  have c3 := h.c3
  have ht' : tmps[2]?.getD undef = .pointer (some ⟨g, 0, none⟩) := by rw [← ht, Array.getD_eq_getD_getElem?]
  simp only [results, hr]
  simp [ht', go_sem, c0, c1, c2, c3]
theorem Tk.new (w : World) (v0 v1 v2 v3 : Value) : Tk (w.alloc (.cells #[v0, v1, v2, v3] 30)) w.heap.size v0 v1 v2 v3 := heap_alloc_new w _
end
theorem grown_trans {a b c : World} {row : Option Nat} (h : a.grownBy b row) (k : b.grownBy c row) : a.grownBy c row :=
  ⟨k.os.trans h.os, k.tape.trans h.tape, k.output.trans h.output, Nat.le_trans h.size k.size, fun i hi hne => (k.block i (Nat.lt_of_lt_of_le hi h.size) hne).trans (h.block i hi hne)⟩
/-- stores into a block that came to be behind a -/
theorem only_new {a w : World} {row : Option Nat} (h : a.grownBy w row) {g : Nat} (hg : a.heap.size ≤ g) (j : Nat) (u : Value) : a.grownBy (w.setCell ⟨g, j, none⟩ u) row :=
  ⟨h.os, h.tape, h.output, by simpa [World.setCell] using h.size, fun i hi hne => (Below.heap_setCell w _ u i (by rintro rfl; exact absurd hi (by omega))).trans (h.block i hi hne)⟩
theorem Sc.far {w : World} {b : Nat} {s : ByteArray} {a : Nat} (h : Sc w b s a) {g : Nat} (hg : b ≠ g) (j : Nat) (u : Value) : Sc (w.setCell ⟨g, j, none⟩ u) b s a := (Below.heap_setCell w _ u b hg).trans h
set_option maxHeartbeats 1000000 in
theorem scan_word (b : Nat) (s : ByteArray) (a : Nat) (w : World) (h : Sc w b s a) (ht : Tab w) (ha : a ≤ s.size) (hs : s.size ≤ 65536) :
    Calls Tryd.prog 40 #[.pointer (some ⟨b, 0, none⟩)] w (ScanPost w b s a (wordScan s.data.toList a)) := by
  have h0 := (h.alloc (.cells #[.int .i64 0, .string ⟨#[]⟩, .int .i64 0, .int .i64 0] 30)).at_
  go_enter Tryd.func40, Tryd.ntmps40
  go_wp2_with fail
  have hk0 := Tk.new w (.int .i64 0) (.string ⟨#[]⟩) (.int .i64 0) (.int .i64 0)
  have hsc0 := h.alloc (.cells #[.int .i64 0, .string ⟨#[]⟩, .int .i64 0, .int .i64 0] 30)
  have ht0 := ht.alloc (.cells #[.int .i64 0, .string ⟨#[]⟩, .int .i64 0, .int .i64 0] 30)
  have hg0 : w.grownBy (w.alloc (.cells #[.int .i64 0, .string ⟨#[]⟩, .int .i64 0, .int .i64 0] 30)) (some b) := World.grownBy_alloc w _ _
  have hbl := h.lt
  have hne : w.heap.size ≠ b := by omega
  have hll : (runOf wordB s.data.toList a).length ≤ 65536 := by
    have h1 := runEnd_le wordB s.data.toList a (by simpa using ha)
    rw [runOf_length]
    simp at h1
    omega
  clear h h0 ht
  refine (run_word' b s a _ hsc0 ha hs).mono ?_
  rintro e w1 ⟨rfl, hsc1, hg1⟩
  have hk1 := hk0.grown hg1 hne
  have ht1 := ht0.grown hsc0 hg1
  have hG1 := grown_trans hg0 hg1
  clear hk0 ht0 hg0 hg1 hsc0
  unfold strV
  go_wp2_with fail
  refine (word_call' _ _ (by omega) ht1).mono ?_
  rintro e w2 ⟨rfl, hb2⟩
  have hk2 := hk1.below hb2
  have hG2 := grown_below hG1 hb2
  have hsc2 := hsc1.below hb2
  clear hk1 hG1 hsc1 hb2 ht1
  rcases hW : isWord (runOf wordB s.data.toList a) with _ | _
  · have hlo := lower_call s.data.toList a w2 hll
    rcases hU : (runOf wordB s.data.toList a).any (fun c => upperB c.toNat) with _ | _
    · have hn : (Lib.toLowerA (runOf wordB s.data.toList a)).toArray = (runOf wordB s.data.toList a).toArray := by rw [lower_same hU]
      rw [hn] at hlo
      have HLO := Lib.hid hlo
      clear hn hlo
      by_cases h24 : 24 < (runOf wordB s.data.toList a).length
      · have HF := Lib.hid (show wordScan s.data.toList a = .err 5 by unfold wordScan; rw [hW, hU, if_pos h24]; rfl)
        clear hW hU
        go_wp2_with fail
        refine HLO.out.mono ?_
        rintro e w3 ⟨rfl, hb3⟩
        have hG3 := grown_below hG2 hb3
        clear hk2 hG2 hsc2 hb3 HLO
        go_wp2_with fail
        refine ⟨rfl, ?_⟩
        rw [HF.out]
        exact ⟨rfl, hG3⟩
      · have HF := Lib.hid (show wordScan s.data.toList a = .tok ⟨1, runOf wordB s.data.toList a, 0, a⟩ (runEnd wordB s.data.toList a) by unfold wordScan; rw [hW, hU, if_neg h24]; rfl)
        clear hW hU
        go_wp2_with fail
        refine HLO.out.mono ?_
        rintro e w3 ⟨rfl, hb3⟩
        have hk3 := hk2.below hb3
        have hG3 := grown_below hG2 hb3
        have hsc3 := hsc2.below hb3
        clear hk2 hG2 hsc2 hb3 HLO
        have c0 := hk3.c0
        have c1 := hk3.c1
        have c2 := hk3.c2
        have c3 := hk3.c3
        have f0 := hk3.free 0
        have f1 := hk3.free 1
        have f2 := hk3.free 2
        have f3 := hk3.free 3
        go_wp2_with fail
        have hk4 := hk3.set4 (.int .i64 1) (.string ⟨(runOf wordB s.data.toList a).toArray⟩) (.int .i64 0) (.int .i64 a)
        refine bodyPost_ret (results_tok Tryd.results40 _ rfl hk4) rfl ?_
        rw [HF.out]
        exact ⟨rfl, (((hsc3.far (Ne.symm hne) _ _).far (Ne.symm hne) _ _).far (Ne.symm hne) _ _).far (Ne.symm hne) _ _, only_new (only_new (only_new (only_new hG3 (Nat.le_refl _) _ _) (Nat.le_refl _) _ _) (Nat.le_refl _) _ _) (Nat.le_refl _) _ _⟩
    · have HN := Lib.hid (lower_other hU)
      have HF := Lib.hid (show wordScan s.data.toList a = .err 1 by unfold wordScan; rw [hW, hU]; rfl)
      have HLO := Lib.hid hlo
      clear hW hU hlo
      go_wp2_with fail
      refine HLO.out.mono ?_
      rintro e w3 ⟨rfl, hb3⟩
      have hG3 := grown_below hG2 hb3
      clear hk2 hG2 hsc2 hb3 HLO
      have hd : (Lib.toLowerA (runOf wordB s.data.toList a) == runOf wordB s.data.toList a) = false := beq_eq_false_iff_ne.2 HN.out
      have hd2 : (Lib.toLowerA (runOf wordB s.data.toList a) != runOf wordB s.data.toList a) = true := bne_iff_ne.2 HN.out
      have hd3 : ¬ Lib.toLowerA (runOf wordB s.data.toList a) = runOf wordB s.data.toList a := HN.out
      go_wp2_with fail
      refine ⟨rfl, ?_⟩
      rw [HF.out]
      exact ⟨rfl, hG3⟩
  · have HF := Lib.hid (show wordScan s.data.toList a = .tok ⟨2, upL (runOf wordB s.data.toList a), 0, a⟩ (runEnd wordB s.data.toList a) by unfold wordScan; rw [if_pos hW])
    clear hW
    go_wp2_with fail
    refine (upper_call _ a _ hll).mono ?_
    rintro e w3 ⟨rfl, hb3⟩
    have hk3 := hk2.below hb3
    have hG3 := grown_below hG2 hb3
    have hsc3 := hsc2.below hb3
    clear hk2 hG2 hsc2 hb3
    have c0 := hk3.c0
    have c1 := hk3.c1
    have c2 := hk3.c2
    have c3 := hk3.c3
    have f0 := hk3.free 0
    have f1 := hk3.free 1
    have f2 := hk3.free 2
    have f3 := hk3.free 3
    go_wp2_with fail
    have hk4 := hk3.set4 (.int .i64 2) (.string ⟨(upL (runOf wordB s.data.toList a)).toArray⟩) (.int .i64 0) (.int .i64 a)
    refine bodyPost_ret (results_tok Tryd.results40 _ rfl hk4) rfl ?_
    rw [HF.out]
    exact ⟨rfl, (((hsc3.far (Ne.symm hne) _ _).far (Ne.symm hne) _ _).far (Ne.symm hne) _ _).far (Ne.symm hne) _ _, only_new (only_new (only_new (only_new hG3 (Nat.le_refl _) _ _) (Nat.le_refl _) _ _) (Nat.le_refl _) _ _) (Nat.le_refl _) _ _⟩
end Go.Proofs.YtlbmamcchomecaaDoor
