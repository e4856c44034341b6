import Derived.Test.YtpmncgbpbcgfaaaGreatDoorLxB
import Derived.Test.YtpmncgbpbcgfaaaGreatDoorShelf
import Derived.WalkSmall
import Derived.LoopTactic
/-
  The keywords: what lexer.Words and lexer.Word return.
-/
namespace Go.Proofs.YtpmncgbpbcgfaaaGreatDoor
open Go.RowKit
set_option linter.unusedVariables false
set_option linter.unusedSimpArgs false

/-- strings.asciiSpace holds what its initialiser laid -/
def Tab (w : World) : Prop := Lib.TabIs Tryz.prog w "strings.asciiSpace" .u8 Lib.asciiSpaceTab
theorem gSpace : Tryz.prog.globalNamed "strings.asciiSpace" = some 3 := by kernel_rfl
section
variable {w w' : World} {B b : Nat} {s : ByteArray} {a : Nat}
theorem Tab.form (h : Tab w) : ∃ t f, w.heap[3]? = some (.cells (Lib.asciiSpaceTab.map fun z => Value.int .u8 z).toArray t f) := by
  unfold Tab Lib.TabIs World.var? at h
  rw [gSpace] at h
  simp only [Option.bind_some] at h
  split at h
  · rename_i cs t f hh
    injection h with h
    exact ⟨t, f, by rw [← h]; exact hh⟩
  · cases h
theorem Tab.lt (h : Tab w) : 3 < w.heap.size := by
  obtain ⟨t, f, hh⟩ := h.form
  rcases Nat.lt_or_ge 3 w.heap.size with hlt | hge
  · exact hlt
  · rw [Array.getElem?_eq_none hge] at hh; cases hh
theorem Tab.same (h : Tab w) (hb : w'.heap[3]? = w.heap[3]?) : Tab w' := by
  unfold Tab Lib.TabIs World.var? at h ⊢
  rw [gSpace] at h ⊢
  simp only [Option.bind_some] at h ⊢
  rw [hb]
  exact h
theorem Tab.below (h : Tab w) (hb : Below w.heap.size w w') : Tab w' := h.same (hb.block _ h.lt)
theorem Tab.drewN (h : Tab w) (k : Nat) : Tab (w.drewN k) := h
theorem Tab.alloc (h : Tab w) (o : Obj) : Tab (w.alloc o) := h.same (Below.heap_alloc w o _ h.lt)
theorem Tab.ne_sc (h : Tab w) (hs : Sc w b s a) : 3 ≠ b := by
  rintro rfl
  obtain ⟨t, f, hh⟩ := h.form
  unfold Sc at hs
  rw [hh] at hs
  simp only [Option.some.injEq, Obj.cells.injEq] at hs
  have := congrArg Array.size hs.1
  simp [Lib.asciiSpaceTab_length] at this
theorem Tab.grown (h : Tab w) (hs : Sc w b s a) (hg : w.grownBy w' (some b)) : Tab w' := h.same (hg.block _ h.lt (by simpa using h.ne_sc hs))
theorem Sc.lt (h : Sc w b s a) : b < w.heap.size := by
  rcases Nat.lt_or_ge b w.heap.size with hlt | hge
  · exact hlt
  · unfold Sc at h; rw [Array.getElem?_eq_none hge] at h; cases h
theorem Sc.below (h : Sc w b s a) (hb : Below w.heap.size w w') : Sc w' b s a := (hb.block _ h.lt).trans h
theorem Sc.alloc (h : Sc w b s a) (o : Obj) : Sc (w.alloc o) b s a := (Below.heap_alloc w o _ h.lt).trans h
end
theorem grown_below {a w w' : World} {row : Option Nat} (h : a.grownBy w row) (hb : Below w.heap.size w w') : a.grownBy w' row :=
  ⟨hb.os.trans h.os, hb.tape.trans h.tape, hb.output.trans h.output, Nat.le_trans h.size hb.size, fun i hi hne => (hb.block i (Nat.lt_of_lt_of_le hi h.size)).trans (h.block i hi hne)⟩

def kwText : List UInt8 := [65, 68, 68, 32, 65, 70, 84, 69, 82, 32, 65, 76, 76, 32, 65, 76, 84, 69, 82, 32, 65, 78, 68, 32, 65, 83, 32, 66, 69, 70, 79, 82, 69, 32, 66, 69, 71, 73, 78, 32, 66, 69, 84, 87, 69, 69, 78, 32, 66, 79, 79, 76, 32, 66, 89, 32, 67, 72, 69, 67, 75, 32, 67, 79, 65, 76, 69, 83, 67, 69, 32, 67, 79, 77, 77, 73, 84, 32, 67, 79, 78, 84, 65, 73, 78, 83, 32, 67, 79, 85, 78, 84, 32, 67, 82, 69, 65, 84, 69, 32, 68, 69, 70, 65, 85, 76, 84, 32, 68, 69, 76, 69, 84, 69, 32, 68, 69, 83, 67, 32, 68, 73, 83, 84, 73, 78, 67, 84, 32, 68, 82, 79, 80, 32, 68, 85, 82, 73, 78, 71, 32, 69, 81, 85, 65, 76, 83, 32, 69, 88, 67, 69, 80, 84, 32, 70, 65, 76, 83, 69, 32, 70, 73, 78, 73, 83, 72, 69, 68, 66, 89, 32, 70, 73, 78, 73, 83, 72, 69, 83, 32, 70, 79, 82, 69, 73, 71, 78, 32, 70, 79, 82, 69, 86, 69, 82, 32, 70, 82, 79, 77, 32, 71, 82, 79, 85, 80, 32, 72, 79, 76, 68, 32, 73, 70, 32, 73, 78, 83, 69, 82, 84, 32, 73, 78, 84, 32, 73, 78, 84, 69, 82, 83, 69, 67, 84, 32, 73, 78, 84, 79, 32, 73, 83, 32, 74, 79, 73, 78, 32, 75, 69, 89, 32, 76, 69, 70, 84, 32, 76, 69, 78, 71, 84, 72, 32, 76, 73, 77, 73, 84, 32, 77, 65, 88, 32, 77, 69, 69, 84, 83, 32, 77, 69, 84, 66, 89, 32, 77, 73, 78, 32, 78, 79, 78, 83, 69, 81, 85, 69, 78, 67, 69, 68, 32, 78, 79, 84, 32, 78, 79, 87, 32, 78, 85, 76, 76, 32, 79, 70, 32, 79, 78, 32, 79, 82, 32, 79, 82, 68, 69, 82, 32, 79, 86, 69, 82, 76, 65, 80, 80, 69, 68, 66, 89, 32, 79, 86, 69, 82, 76, 65, 80, 83, 32, 80, 82, 73, 77, 65, 82, 89, 32, 80, 82, 85, 78, 69, 32, 82, 69, 70, 69, 82, 69, 78, 67, 69, 83, 32, 82, 69, 76, 69, 65, 83, 69, 32, 82, 69, 78, 65, 77, 69, 32, 82, 69, 84, 65, 73, 78, 32, 82, 79, 76, 76, 66, 65, 67, 75, 32, 83, 69, 76, 69, 67, 84, 32, 83, 69, 81, 85, 69, 78, 67, 69, 68, 32, 83, 69, 84, 32, 83, 84, 65, 82, 84, 69, 68, 66, 89, 32, 83, 84, 65, 82, 84, 83, 32, 83, 85, 77, 32, 83, 89, 83, 84, 69, 77, 32, 83, 89, 83, 84, 69, 77, 70, 82, 79, 77, 32, 83, 89, 83, 84, 69, 77, 84, 79, 32, 84, 65, 66, 76, 69, 32, 84, 69, 88, 84, 32, 84, 79, 32, 84, 82, 85, 69, 32, 84, 88, 32, 85, 78, 68, 69, 82, 32, 85, 78, 73, 79, 78, 32, 85, 80, 68, 65, 84, 69, 32, 86, 65, 76, 73, 68, 32, 86, 65, 76, 73, 68, 70, 82, 79, 77, 32, 86, 65, 76, 73, 68, 84, 79, 32, 86, 65, 76, 85, 69, 83, 32, 87, 72, 69, 82, 69]
def kwS (l : List UInt8) : Value := .string ⟨l.toArray⟩
def kwBlock : Obj := .cells (keywords.map kwS).toArray 9
theorem fields_kw : Lib.fields kwText = keywords := by decide +kernel
theorem kwText_ascii : kwText.all (fun b => decide (b.toNat < 128)) = true := by decide +kernel
theorem kwText_length : kwText.length < 1000 := by decide +kernel
theorem fields_call (s : ByteArray) (w : World) (hs : s.data.toList = kwText) (h : Tab w) :
    Calls Tryz.prog 136 #[.string s] w fun e w' => e = .returned (.slice (some ⟨w.heap.size, 0, none⟩) 87 87) ∧ w.alloc kwBlock = w' := by
  have hsz : s.size < 4294967281 := by
    have h1 : s.size = s.data.toList.length := by rw [Array.length_toList]; rfl
    have := kwText_length
    rw [← hs] at this
    omega
  refine (Tryz.strings_Fields s w hsz ?_ h).mono ?_
  · intro j b hj
    rw [hs] at hj
    have := List.all_eq_true.1 kwText_ascii b (List.mem_of_getElem? hj)
    simpa using this
  · rintro e w' ⟨rfl, rfl⟩
    rw [hs, fields_kw]
    exact ⟨rfl, rfl⟩
set_option maxRecDepth 100000 in
set_option maxHeartbeats 400000 in
theorem words_call (w : World) (h : Tab w) :
    Calls Tryz.prog 110 #[] w fun e w' => e = .returned (.slice (some ⟨w.heap.size, 0, none⟩) 87 87) ∧ w.alloc kwBlock = w' := by
  have H := Lib.hid h
  clear h
  go_enter Tryz.func110, Tryz.ntmps110
  go_wp2_with fail
  refine (fields_call _ w (by kernel_rfl) H.out).mono ?_
  rintro e w' ⟨rfl, rfl⟩
  go_wp2_with fail
  go_ret
  exact ⟨rfl, rfl⟩
theorem kw_ascii : keywords.all (fun l => l.all fun b => decide (b.toNat < 128)) = true := by decide +kernel
theorem upC_ge (c : UInt8) (h : 128 ≤ c.toNat) : upC c = c := by unfold upC; rw [if_neg (by omega)]
theorem isWord_high {l : List UInt8} {c : UInt8} (hc : c ∈ l) (h : 128 ≤ c.toNat) : isWord l = false := by
  rcases hw : isWord l with _ | _
  · rfl
  · unfold isWord at hw
    have hm : upL l ∈ keywords := by simpa using hw
    have h1 := List.all_eq_true.1 kw_ascii _ hm
    have h2 := List.all_eq_true.1 h1 (upC c) (List.mem_map_of_mem hc)
    rw [upC_ge c h] at h2
    simp at h2
    omega
theorem upper_upC (c : UInt8) : Lib.upperB c = upC c := by
  unfold Lib.upperB upC Lib.isLowerB
  have h := c.toNat_lt
  by_cases h1 : 97 ≤ c.toNat ∧ c.toNat ≤ 122
  · have h2 : (97 ≤ c && c ≤ 122) = true := by simp [UInt8.le_iff_toNat_le]; omega
    rw [if_pos h1, if_pos (by simpa using h2)]
    apply UInt8.toNat_inj.1
    rw [UInt8.toNat_sub_of_le _ _ (by rw [UInt8.le_iff_toNat_le]; simp; omega), UInt8.toNat_ofNat_of_lt' (by show _ < 256; omega)]
    rfl
  · have h2 : ¬ (97 ≤ c && c ≤ 122) = true := by simp [UInt8.le_iff_toNat_le]; omega
    rw [if_neg h1, if_neg (by simpa using h2)]
theorem upper_upL (l : List UInt8) : Lib.toUpperA l = upL l := by unfold Lib.toUpperA upL; exact List.map_congr_left fun c _ => upper_upC c
def kwAt (t : Nat) : ByteArray := ⟨(keywords.getD t []).toArray⟩
theorem kw_cell (w : World) (j : Nat) (hj : j < 87) : (w.alloc kwBlock).cell? ⟨w.heap.size, 0 + j, none⟩ = some (.string (kwAt j)) := by
  have hl : keywords.length = 87 := by decide +kernel
  have h1 := cell_of_row (w.alloc kwBlock) w.heap.size (0 + j) (keywords.map kwS).toArray 9 (0, 0) (heap_alloc_new w _)
  rw [h1, Nat.zero_add]
  simp only [List.getElem?_toArray, List.getElem?_map]
  rw [List.getElem?_eq_getElem (by omega)]
  simp [kwS, kwAt, List.getD, List.getElem?_eq_getElem (show j < keywords.length by omega)]
def bsAt (x : List UInt8) : Nat := Lib.bsGo (fun t => Op.bytesLess (keywords.getD t []) x) 87 0 87
theorem bs_each : (List.range 87).all (fun i => decide (bsAt (keywords.getD i []) = i)) = true := by decide +kernel
theorem bs_found (x : List UInt8) : decide (bsAt x < 87 ∧ keywords.getD (bsAt x) [] = x) = keywords.contains x := by
  have hl : keywords.length = 87 := by decide +kernel
  rw [Bool.eq_iff_iff]
  simp only [decide_eq_true_eq, List.contains_iff_mem]
  constructor
  · rintro ⟨h1, h2⟩
    have := List.getElem_mem (l := keywords) (n := bsAt x) (by omega)
    have e : keywords.getD (bsAt x) [] = keywords[bsAt x]'(by omega) := by simp [List.getD, List.getElem?_eq_getElem (show bsAt x < keywords.length by omega)]
    rw [← h2]
    have h3 : keywords.getD (bsAt x) [] ∈ keywords := by rw [e]; exact this
    rw [h2] at h3 ⊢
    exact h3
  · intro hm
    obtain ⟨i, hi, rfl⟩ := List.mem_iff_getElem.1 hm
    have h1 := List.all_eq_true.1 bs_each i (List.mem_range.2 (by omega))
    have e : keywords.getD i [] = keywords[i] := by simp [List.getD, List.getElem?_eq_getElem hi]
    rw [e] at h1
    have h2 : bsAt keywords[i] = i := by simpa using h1
    rw [h2, e]
    exact ⟨by omega, rfl⟩
theorem search_call (w : World) (x : List UInt8) (s : ByteArray) (B : Nat) (hs : s.data.toList = x) (w' : World) (hc : ∀ j, j < 87 → w'.cell? ⟨B, 0 + j, none⟩ = some (.string (kwAt j))) :
    Calls Tryz.prog 109 #[.slice (some ⟨B, 0, none⟩) 87 87, .string s] w' fun e w'' => (∃ n : Nat, e = .returned (.tuple #[.int .i64 n, .bool (keywords.contains x)])) ∧ Below w'.heap.size w' w'' := by
  refine (Tryz.slices_BinarySearch_string B 0 87 87 kwAt s w' (by omega) hc).mono ?_
  rintro e w'' ⟨rfl, q, rfl⟩
  have e1 : (fun t => Op.bytesLess (kwAt t).toList s.toList) = fun t => Op.bytesLess (keywords.getD t []) x := by
    funext t
    rw [← hs, Lib.toList_data, Lib.toList_data]
    unfold kwAt
    simp
  rw [e1]
  refine ⟨⟨bsAt x, ?_⟩, ⟨rfl, rfl, rfl, Nat.le_refl _, fun _ _ => rfl⟩⟩
  rw [← bs_found]
  have e2 : (kwAt (bsAt x) = s) ↔ (keywords.getD (bsAt x) [] = x) := by
    rw [← hs]
    unfold kwAt
    constructor
    · intro h
      have := congrArg (fun z : ByteArray => z.data.toList) h
      simpa using this
    · intro h; rw [h]
  refine congrArg Ending.returned (congrArg Value.tuple ?_)
  have e3 : (decide (bsAt x < 87 ∧ kwAt (bsAt x) = s)) = decide (bsAt x < 87 ∧ keywords.getD (bsAt x) [] = x) := by simp only [e2]
  rw [← e3]
  rfl
theorem search_word (l : List UInt8) (s : ByteArray) (B : Nat) (hs : s.data.toList = upL l) (w' : World) (hc : ∀ j, j < 87 → w'.cell? ⟨B, 0 + j, none⟩ = some (.string (kwAt j))) :
    Calls Tryz.prog 109 #[.slice (some ⟨B, 0, none⟩) 87 87, .string s] w' fun e w'' => (∃ n : Nat, e = .returned (.tuple #[.int .i64 n, .bool (isWord l)])) ∧ Below w'.heap.size w' w'' := search_call w' (upL l) s B hs w' hc
def Highs (s : ByteArray) (k : Nat) : Prop := ∀ j (h : j < s.size), j < k → s[j].toNat < 128
def WordPost (w : World) (s : ByteArray) (e : Ending) (w' : World) : Prop := e = .returned (.bool (isWord s.data.toList)) ∧ Below w.heap.size w w'
def AscRel (s : ByteArray) (i : Value) : Prop := ∃ k : Nat, k ≤ s.size ∧ Highs s k ∧ i = .int .i64 k
set_option maxHeartbeats 400000 in
theorem word_call (s : ByteArray) (w : World) (hs : s.size ≤ 140737488351232) (h : Tab w) :
    Calls Tryz.prog 92 #[.string s] w (WordPost w s) := by
  have H := Lib.hid h
  clear h
  go_enter Tryz.func92, Tryz.ntmps92
  go_wp2_with fail
  go_loop [8] (fun i => AscRel s i) (fun i => s.size - (intOf i).toNat)
  case atStart => exact ⟨0, Nat.zero_le _, fun j _ hj => absurd hj (by omega), rfl⟩
  case round =>
    obtain ⟨k, hk, hi, rfl⟩ := hrel
    have HI := Lib.hid hi
    clear hi
    by_cases hlt : k < s.size
    · by_cases hc : s[k].toNat < 128
      · have c1 : ¬ (128 ≤ (s[k].toNat : Int)) := by omega
        go_wp2_with fail
        go_round
        case rel =>
          refine ⟨k + 1, by omega, fun j hj hjk => ?_, by go_num⟩
          by_cases e : j = k
          · subst e; exact hc
          · exact HI.out j hj (by omega)
        case measure => simp [intOf]; omega
      · have c1 : 128 ≤ (s[k].toNat : Int) := by omega
        have HW := Lib.hid (isWord_high (l := s.data.toList) (c := s[k]) (by exact List.getElem_mem (l := s.data.toList) (n := k) (by simpa using hlt)) (by omega))
        go_wp2_with fail
        go_ret
        exact ⟨by rw [HW.out]; rfl, Below.refl _ _⟩
    · obtain rfl : k = s.size := by omega
      have hasc : ∀ (j : Nat) (b : UInt8), s.data.toList[j]? = some b → b.toNat < 128 := by
        intro j b hj
        obtain ⟨hlt, e⟩ := List.getElem?_eq_some_iff.1 hj
        have hjs : j < s.size := by simpa using hlt
        rw [← e]
        exact HI.out j hjs hjs
      have HA := Lib.hid hasc
      clear hasc HI
      go_wp2_with fail
      refine (words_call _ H.out).mono ?_
      rintro e w' ⟨rfl, rfl⟩
      go_wp2_with fail
      refine (Tryz.strings_ToUpper_ascii s _ (by omega) HA.out).mono ?_
      rintro e w2 ⟨rfl, hb⟩
      have HB := Lib.hid hb
      clear hb
      go_wp2_with fail
      refine (search_word s.data.toList _ w.heap.size (by rw [upper_upL]) w2 ?_).mono ?_
      · intro j hj
        rw [HB.out.cell (by simp)]
        exact kw_cell w j hj
      rintro e w3 ⟨⟨n, rfl⟩, hb3⟩
      have HB3 := Lib.hid hb3
      clear hb3
      go_wp2_with fail
      go_ret
      refine ⟨rfl, ?_⟩
      have b1 : Below w.heap.size w (w.alloc kwBlock) := (Below.refl _ _).alloc (Nat.le_refl _) _
      have b2 := b1.trans (HB.out.mono (by simp))
      exact b2.trans (HB3.out.mono b2.size)
end Go.Proofs.YtpmncgbpbcgfaaaGreatDoor

/-
  The scanner's word: a keyword, a name, or a panic.
-/
namespace Go.Proofs.YtpmncgbpbcgfaaaGreatDoor
open Go.RowKit
set_option linter.unusedVariables false
set_option linter.unusedSimpArgs false

def strV (l : List UInt8) : Value := .string ⟨l.toArray⟩
def tokV (t : Tok) : Value := .agg #[.int .i64 (t.kind : Int), strV t.text, .int .i64 (t.int : Int), .int .i64 (t.at_ : Int)]
def failV (a c : Nat) : Value := .iface 118 (.agg #[.int .i64 (a : Int), .int .i64 (c : Int)])
def ScanPost (w : World) (b : Nat) (s : ByteArray) (a : Nat) : Scan → Ending → World → Prop
  | .err c, e, w' => e = .panicked [{ v := failV a c, recovered := false }] ∧ w.grownBy w' (some b)
  | .tok t f, e, w' => e = .returned (tokV t) ∧ Sc w' b s f ∧ w.grownBy w' (some b)
theorem extract_bytes (s : ByteArray) (i j : Nat) : s.extract i j = ⟨((s.data.toList.drop i).take (j - i)).toArray⟩ := by
  apply ByteArray.ext
  rw [ByteArray.data_extract]
  apply Array.ext'
  simp [List.take_drop]
theorem extract_run (cls : Nat → Bool) (s : ByteArray) (a : Nat) : s.extract a (runEnd cls s.data.toList a) = ⟨(runOf cls s.data.toList a).toArray⟩ := by
  rw [extract_bytes, runOf_take]
theorem mk_size (l : List UInt8) : (ByteArray.mk l.toArray).size = l.length := by simp [ByteArray.size]
theorem mk_list (l : List UInt8) : (ByteArray.mk l.toArray).data.toList = l := by simp
def RunsTo (w : World) (b : Nat) (s : ByteArray) (r : List UInt8) (k : Nat) (e : Ending) (w' : World) : Prop :=
  e = .returned (strV r) ∧ Sc w' b s k ∧ w.grownBy w' (some b)
theorem run_word' (b : Nat) (s : ByteArray) (a : Nat) (w : World) (h : Sc w b s a) (ha : a ≤ s.size) (hs : s.size ≤ 65536) :
    Calls Tryz.prog 73 #[.pointer (some ⟨b, 0, none⟩), .func (.func 91) #[] #[]] w (RunsTo w b s (runOf wordB s.data.toList a) (runEnd wordB s.data.toList a)) :=
  (run_word b s a w h ha hs).mono fun _ _ ⟨h1, h2, h3⟩ => ⟨by rw [h1, extract_run]; rfl, h2, h3⟩
theorem run_digit' (b : Nat) (s : ByteArray) (a : Nat) (w : World) (h : Sc w b s a) (ha : a ≤ s.size) (hs : s.size ≤ 65536) :
    Calls Tryz.prog 73 #[.pointer (some ⟨b, 0, none⟩), .func (.func 77) #[] #[]] w (RunsTo w b s (runOf digitB s.data.toList a) (runEnd digitB s.data.toList a)) :=
  (run_digit b s a w h ha hs).mono fun _ _ ⟨h1, h2, h3⟩ => ⟨by rw [h1, extract_run]; rfl, h2, h3⟩
theorem word_call' (l : List UInt8) (w : World) (hs : l.length ≤ 140737488351232) (h : Tab w) :
    Calls Tryz.prog 92 #[.string ⟨l.toArray⟩] w fun e w' => e = .returned (.bool (isWord l)) ∧ Below w.heap.size w w' :=
  (word_call ⟨l.toArray⟩ w (by rw [mk_size]; exact hs) h).mono fun _ _ h => by unfold WordPost at h; simpa using h
theorem lower_same {l : List UInt8} (h : l.any (fun c => upperB c.toNat) = false) : Lib.toLowerA l = l := by
  unfold Lib.toLowerA
  rw [List.map_congr_left (g := id), List.map_id]
  intro c hc
  have h1 := List.any_eq_false.1 h c hc
  unfold Lib.lowerB Lib.isUpperB
  rw [if_neg]
  · rfl
  · unfold upperB at h1
    simp [UInt8.le_iff_toNat_le] at h1 ⊢
    omega
theorem lower_other {l : List UInt8} (h : l.any (fun c => upperB c.toNat) = true) : Lib.toLowerA l ≠ l := by
  intro he
  obtain ⟨c, hc, h1⟩ := List.any_eq_true.1 h
  unfold Lib.toLowerA at he
  have h2 : ∀ x ∈ l, Lib.lowerB x = x := by
    have : l.map Lib.lowerB = l.map id := by rw [he, List.map_id]
    intro x hx
    exact (List.map_inj_left.1 this) x hx
  have h3 := h2 c hc
  unfold upperB at h1
  simp at h1
  have h4 : Lib.isUpperB c = true := by unfold Lib.isUpperB; simp [UInt8.le_iff_toNat_le]; omega
  unfold Lib.lowerB at h3
  rw [if_pos h4] at h3
  have h5 := congrArg UInt8.toNat h3
  rw [UInt8.toNat_add] at h5
  simp at h5
  omega
theorem word_ascii {n : Nat} (h : wordB n = true) : n < 128 := by
  unfold wordB letterB digitB at h
  simp at h
  omega
theorem run_ascii (l : List UInt8) (a : Nat) : ∀ (j : Nat) (b : UInt8), (ByteArray.mk (runOf wordB l a).toArray).data.toList[j]? = some b → b.toNat < 128 := by
  intro j b hj
  rw [mk_list] at hj
  exact word_ascii (runOf_cls (List.mem_of_getElem? hj))
theorem lower_call (l : List UInt8) (a : Nat) (w : World) (hl : (runOf wordB l a).length ≤ 65536) :
    Calls Tryz.prog 94 #[.string ⟨(runOf wordB l a).toArray⟩] w fun e w' => e = .returned (.string ⟨(Lib.toLowerA (runOf wordB l a)).toArray⟩) ∧ Below w.heap.size w w' :=
  (Tryz.strings_ToLower_ascii ⟨(runOf wordB l a).toArray⟩ w (by rw [mk_size]; omega) (run_ascii l a)).mono fun _ _ h => by simpa using h
theorem upper_call (l : List UInt8) (a : Nat) (w : World) (hl : (runOf wordB l a).length ≤ 65536) :
    Calls Tryz.prog 93 #[.string ⟨(runOf wordB l a).toArray⟩] w fun e w' => e = .returned (.string ⟨(upL (runOf wordB l a)).toArray⟩) ∧ Below w.heap.size w w' :=
  (Tryz.strings_ToUpper_ascii ⟨(runOf wordB l a).toArray⟩ w (by rw [mk_size]; omega) (run_ascii l a)).mono fun _ _ h => by rw [mk_list, upper_upL] at h; exact h
/-- a token's block: a result's variable -/
def Tk (w : World) (g : Nat) (v0 v1 v2 v3 : Value) : Prop := w.heap[g]? = some (.cells #[v0, v1, v2, v3] 95 (0, 0))
section
variable {w w' : World} {g : Nat} {v0 v1 v2 v3 : Value}
theorem Tk.c0 (h : Tk w g v0 v1 v2 v3) : w.cell? ⟨g, 0, none⟩ = some v0 := by rw [cell_of_row w g 0 _ _ (0, 0) h]; rfl
theorem Tk.c1 (h : Tk w g v0 v1 v2 v3) : w.cell? ⟨g, 1, none⟩ = some v1 := by rw [cell_of_row w g 1 _ _ (0, 0) h]; rfl
theorem Tk.c2 (h : Tk w g v0 v1 v2 v3) : w.cell? ⟨g, 2, none⟩ = some v2 := by rw [cell_of_row w g 2 _ _ (0, 0) h]; rfl
theorem Tk.c3 (h : Tk w g v0 v1 v2 v3) : w.cell? ⟨g, 3, none⟩ = some v3 := by rw [cell_of_row w g 3 _ _ (0, 0) h]; rfl
theorem Tk.free (h : Tk w g v0 v1 v2 v3) (j : Nat) : w.frozen? ⟨g, j, none⟩ = false := by unfold Tk at h; simp [World.frozen?, h]
theorem Tk.lt (h : Tk w g v0 v1 v2 v3) : g < w.heap.size := by
  rcases Nat.lt_or_ge g w.heap.size with hlt | hge
  · exact hlt
  · unfold Tk at h; rw [Array.getElem?_eq_none hge] at h; cases h
theorem Tk.below (h : Tk w g v0 v1 v2 v3) (hb : Below w.heap.size w w') : Tk w' g v0 v1 v2 v3 := (hb.block _ h.lt).trans h
theorem Tk.grown {b : Nat} (h : Tk w g v0 v1 v2 v3) (hb : w.grownBy w' (some b)) (hne : g ≠ b) : Tk w' g v0 v1 v2 v3 := (hb.block _ h.lt (by simpa using hne)).trans h
theorem Tk.drewN (h : Tk w g v0 v1 v2 v3) (k : Nat) : Tk (w.drewN k) g v0 v1 v2 v3 := h
theorem Tk.set4 (h : Tk w g v0 v1 v2 v3) (n0 n1 n2 n3 : Value) : Tk ((((w.setCell ⟨g, 0, none⟩ n0).setCell ⟨g, 1, none⟩ n1).setCell ⟨g, 2, none⟩ n2).setCell ⟨g, 3, none⟩ n3) g n0 n1 n2 n3 := by
  unfold Tk at h ⊢
  simp [World.setCell, Array.getElem?_modify, h]
theorem results_tok {fn : Func} (hr : fn.results = #[.cell 2 95]) (tmps : Array Value) (ht : tmps.getD 2 undef = .pointer (some ⟨g, 0, none⟩)) (h : Tk w g v0 v1 v2 v3) :
    (results fn tmps).run Tryz.prog w = .ok (.agg #[v0, v1, v2, v3]) w := by
  have c0 := h.c0
  have c1 := h.c1
  have c2 := h.c2
  have c3 := h.c3
  have ht' : tmps[2]?.getD undef = .pointer (some ⟨g, 0, none⟩) := by rw [← ht, Array.getD_eq_getD_getElem?]
  simp only [results, hr]
  simp [ht', go_sem, c0, c1, c2, c3]
theorem Tk.new (w : World) (v0 v1 v2 v3 : Value) : Tk (w.alloc (.cells #[v0, v1, v2, v3] 95)) w.heap.size v0 v1 v2 v3 := heap_alloc_new w _
end
theorem grown_trans {a b c : World} {row : Option Nat} (h : a.grownBy b row) (k : b.grownBy c row) : a.grownBy c row :=
  ⟨k.os.trans h.os, k.tape.trans h.tape, k.output.trans h.output, Nat.le_trans h.size k.size, fun i hi hne => (k.block i (Nat.lt_of_lt_of_le hi h.size) hne).trans (h.block i hi hne)⟩
/-- stores into a block that came to be behind a -/
theorem only_new {a w : World} {row : Option Nat} (h : a.grownBy w row) {g : Nat} (hg : a.heap.size ≤ g) (j : Nat) (u : Value) : a.grownBy (w.setCell ⟨g, j, none⟩ u) row :=
  ⟨h.os, h.tape, h.output, by simpa [World.setCell] using h.size, fun i hi hne => (Below.heap_setCell w _ u i (by rintro rfl; exact absurd hi (by omega))).trans (h.block i hi hne)⟩
theorem Sc.far {w : World} {b : Nat} {s : ByteArray} {a : Nat} (h : Sc w b s a) {g : Nat} (hg : b ≠ g) (j : Nat) (u : Value) : Sc (w.setCell ⟨g, j, none⟩ u) b s a := (Below.heap_setCell w _ u b hg).trans h
set_option maxHeartbeats 1000000 in
theorem scan_word (b : Nat) (s : ByteArray) (a : Nat) (w : World) (h : Sc w b s a) (ht : Tab w) (ha : a ≤ s.size) (hs : s.size ≤ 65536) :
    Calls Tryz.prog 76 #[.pointer (some ⟨b, 0, none⟩)] w (ScanPost w b s a (wordScan s.data.toList a)) := by
  have h0 := (h.alloc (.cells #[.int .i64 0, .string ⟨#[]⟩, .int .i64 0, .int .i64 0] 95)).at_
  go_enter Tryz.func76, Tryz.ntmps76
  go_wp2_with fail
  have hk0 := Tk.new w (.int .i64 0) (.string ⟨#[]⟩) (.int .i64 0) (.int .i64 0)
  have hsc0 := h.alloc (.cells #[.int .i64 0, .string ⟨#[]⟩, .int .i64 0, .int .i64 0] 95)
  have ht0 := ht.alloc (.cells #[.int .i64 0, .string ⟨#[]⟩, .int .i64 0, .int .i64 0] 95)
  have hg0 : w.grownBy (w.alloc (.cells #[.int .i64 0, .string ⟨#[]⟩, .int .i64 0, .int .i64 0] 95)) (some b) := World.grownBy_alloc w _ _
  have hbl := h.lt
  have hne : w.heap.size ≠ b := by omega
  have hll : (runOf wordB s.data.toList a).length ≤ 65536 := by
    have h1 := runEnd_le wordB s.data.toList a (by simpa using ha)
    rw [runOf_length]
    simp at h1
    omega
  clear h h0 ht
  refine (run_word' b s a _ hsc0 ha hs).mono ?_
  rintro e w1 ⟨rfl, hsc1, hg1⟩
  have hk1 := hk0.grown hg1 hne
  have ht1 := ht0.grown hsc0 hg1
  have hG1 := grown_trans hg0 hg1
  clear hk0 ht0 hg0 hg1 hsc0
  unfold strV
  go_wp2_with fail
  refine (word_call' _ _ (by omega) ht1).mono ?_
  rintro e w2 ⟨rfl, hb2⟩
  have hk2 := hk1.below hb2
  have hG2 := grown_below hG1 hb2
  have hsc2 := hsc1.below hb2
  clear hk1 hG1 hsc1 hb2 ht1
  rcases hW : isWord (runOf wordB s.data.toList a) with _ | _
  · have hlo := lower_call s.data.toList a w2 hll
    rcases hU : (runOf wordB s.data.toList a).any (fun c => upperB c.toNat) with _ | _
    · have hn : (Lib.toLowerA (runOf wordB s.data.toList a)).toArray = (runOf wordB s.data.toList a).toArray := by rw [lower_same hU]
      rw [hn] at hlo
      have HLO := Lib.hid hlo
      clear hn hlo
      by_cases h24 : 24 < (runOf wordB s.data.toList a).length
      · have HF := Lib.hid (show wordScan s.data.toList a = .err 5 by unfold wordScan; rw [hW, hU, if_pos h24]; rfl)
        clear hW hU
        go_wp2_with fail
        refine HLO.out.mono ?_
        rintro e w3 ⟨rfl, hb3⟩
        have hG3 := grown_below hG2 hb3
        clear hk2 hG2 hsc2 hb3 HLO
        go_wp2_with fail
        refine ⟨rfl, ?_⟩
        rw [HF.out]
        exact ⟨rfl, hG3⟩
      · have HF := Lib.hid (show wordScan s.data.toList a = .tok ⟨1, runOf wordB s.data.toList a, 0, a⟩ (runEnd wordB s.data.toList a) by unfold wordScan; rw [hW, hU, if_neg h24]; rfl)
        clear hW hU
        go_wp2_with fail
        refine HLO.out.mono ?_
        rintro e w3 ⟨rfl, hb3⟩
        have hk3 := hk2.below hb3
        have hG3 := grown_below hG2 hb3
        have hsc3 := hsc2.below hb3
        clear hk2 hG2 hsc2 hb3 HLO
        have c0 := hk3.c0
        have c1 := hk3.c1
        have c2 := hk3.c2
        have c3 := hk3.c3
        have f0 := hk3.free 0
        have f1 := hk3.free 1
        have f2 := hk3.free 2
        have f3 := hk3.free 3
        go_wp2_with fail
        have hk4 := hk3.set4 (.int .i64 1) (.string ⟨(runOf wordB s.data.toList a).toArray⟩) (.int .i64 0) (.int .i64 a)
        refine bodyPost_ret (results_tok Tryz.results76 _ rfl hk4) rfl ?_
        rw [HF.out]
        exact ⟨rfl, (((hsc3.far (Ne.symm hne) _ _).far (Ne.symm hne) _ _).far (Ne.symm hne) _ _).far (Ne.symm hne) _ _, only_new (only_new (only_new (only_new hG3 (Nat.le_refl _) _ _) (Nat.le_refl _) _ _) (Nat.le_refl _) _ _) (Nat.le_refl _) _ _⟩
    · have HN := Lib.hid (lower_other hU)
      have HF := Lib.hid (show wordScan s.data.toList a = .err 1 by unfold wordScan; rw [hW, hU]; rfl)
      have HLO := Lib.hid hlo
      clear hW hU hlo
      go_wp2_with fail
      refine HLO.out.mono ?_
      rintro e w3 ⟨rfl, hb3⟩
      have hG3 := grown_below hG2 hb3
      clear hk2 hG2 hsc2 hb3 HLO
      have hd : (Lib.toLowerA (runOf wordB s.data.toList a) == runOf wordB s.data.toList a) = false := beq_eq_false_iff_ne.2 HN.out
      have hd2 : (Lib.toLowerA (runOf wordB s.data.toList a) != runOf wordB s.data.toList a) = true := bne_iff_ne.2 HN.out
      have hd3 : ¬ Lib.toLowerA (runOf wordB s.data.toList a) = runOf wordB s.data.toList a := HN.out
      go_wp2_with fail
      refine ⟨rfl, ?_⟩
      rw [HF.out]
      exact ⟨rfl, hG3⟩
  · have HF := Lib.hid (show wordScan s.data.toList a = .tok ⟨2, upL (runOf wordB s.data.toList a), 0, a⟩ (runEnd wordB s.data.toList a) by unfold wordScan; rw [if_pos hW])
    clear hW
    go_wp2_with fail
    refine (upper_call _ a _ hll).mono ?_
    rintro e w3 ⟨rfl, hb3⟩
    have hk3 := hk2.below hb3
    have hG3 := grown_below hG2 hb3
    have hsc3 := hsc2.below hb3
    clear hk2 hG2 hsc2 hb3
    have c0 := hk3.c0
    have c1 := hk3.c1
    have c2 := hk3.c2
    have c3 := hk3.c3
    have f0 := hk3.free 0
    have f1 := hk3.free 1
    have f2 := hk3.free 2
    have f3 := hk3.free 3
    go_wp2_with fail
    have hk4 := hk3.set4 (.int .i64 2) (.string ⟨(upL (runOf wordB s.data.toList a)).toArray⟩) (.int .i64 0) (.int .i64 a)
    refine bodyPost_ret (results_tok Tryz.results76 _ rfl hk4) rfl ?_
    rw [HF.out]
    exact ⟨rfl, (((hsc3.far (Ne.symm hne) _ _).far (Ne.symm hne) _ _).far (Ne.symm hne) _ _).far (Ne.symm hne) _ _, only_new (only_new (only_new (only_new hG3 (Nat.le_refl _) _ _) (Nat.le_refl _) _ _) (Nat.le_refl _) _ _) (Nat.le_refl _) _ _⟩
end Go.Proofs.YtpmncgbpbcgfaaaGreatDoor

/-
  The scanner's number.
-/
namespace Go.Proofs.YtpmncgbpbcgfaaaGreatDoor
open Go.RowKit
set_option linter.unusedVariables false
set_option linter.unusedSimpArgs false

theorem numStep_le (n : Nat) (c : UInt8) : numStep n c ≤ 1125899906842625 := Nat.min_le_right _ _
theorem numVal_le (l : List UInt8) : numVal l ≤ 1125899906842625 := by
  unfold numVal
  rcases List.eq_nil_or_concat l with rfl | ⟨l', c, rfl⟩
  · simp
  · simp [List.foldl_append, numStep_le]
theorem numVal_snoc (l : List UInt8) (c : UInt8) : numVal (l ++ [c]) = numStep (numVal l) c := by simp [numVal, List.foldl_append]
theorem take_snoc (s : ByteArray) (k : Nat) (h : k < s.size) : s.data.toList.take (k + 1) = s.data.toList.take k ++ [s[k]] := by
  rw [List.take_succ_eq_append_getElem (by simpa using h)]; rfl
def NumRel (x : ByteArray) (n i : Value) : Prop := ∃ k : Nat, k ≤ x.size ∧ i = .int .i64 k ∧ n = .int .i64 (numVal (x.data.toList.take k) : Nat)
/-- the test on the number's shape -/
def headBad (r : List UInt8) : Bool := decide (1 < r.length) && decide (r.head? = some 48)
def nextBad (s : ByteArray) (E : Nat) : Bool := match s.data.toList[E]? with | some c => letterB c.toNat | none => false
theorem numberScan_eq (s : ByteArray) (a : Nat) : numberScan s.data.toList a = if headBad (runOf digitB s.data.toList a) || nextBad s (runEnd digitB s.data.toList a) then .err 1 else if 1125899906842624 < numVal (runOf digitB s.data.toList a) then .err 6 else .tok ⟨3, [], numVal (runOf digitB s.data.toList a), a⟩ (runEnd digitB s.data.toList a) := rfl
theorem head_one {x : ByteArray} (h : x.size ≤ 1) : headBad x.data.toList = false := by
  unfold headBad
  have : x.size = x.data.toList.length := by rw [Array.length_toList]; rfl
  rw [decide_eq_false (by omega)]
  rfl
theorem head_at {x : ByteArray} (h : 1 < x.size) : headBad x.data.toList = decide (x[0].toNat = 48) := by
  unfold headBad
  have hl : x.size = x.data.toList.length := by rw [Array.length_toList]; rfl
  rw [decide_eq_true (by omega), Bool.true_and]
  have e : x.data.toList.head? = some x[0] := by
    rw [List.head?_eq_getElem?, List.getElem?_eq_getElem (by omega)]
    rfl
  rw [e]
  simp only [Option.some.injEq]
  congr 1
  apply propext
  constructor
  · intro h; rw [h]; rfl
  · intro h; exact UInt8.toNat_inj.1 h
theorem next_end {s : ByteArray} {E : Nat} (h : s.size ≤ E) : nextBad s E = false := by
  unfold nextBad
  rw [List.getElem?_eq_none (by simpa using h)]
theorem next_at {s : ByteArray} {E : Nat} (h : E < s.size) : nextBad s E = letterB s[E].toNat := by
  unfold nextBad
  rw [List.getElem?_eq_getElem (by simpa using h)]
  rfl
theorem digit_range {n : Nat} (h : digitB n = true) : 48 ≤ n ∧ n ≤ 57 := by unfold digitB at h; simpa using h
theorem num_step (x : ByteArray) (k : Nat) (h : k < x.size) (hc : 48 ≤ x[k].toNat) : ((numVal (x.data.toList.take (k + 1)) : Nat) : Int) = min (10 * (numVal (x.data.toList.take k) : Int) + ((x[k].toNat : Int) - 48)) 1125899906842625 := by
  rw [take_snoc x k h, numVal_snoc]
  unfold numStep
  omega
theorem take_all (x : ByteArray) : x.data.toList.take x.size = x.data.toList := List.take_of_length_le (by simp)
theorem quiet_left {P : Program} {f : FuncId} {args : Array Value} {w : World} {n : Nat} {v : Value}
    (h : Calls P f args (w.drewN n) fun e w' => e = .returned v ∧ w.drewN n = w') : Calls P f args (w.drewN n) fun e w'' => e = .returned v ∧ ∃ m, w'' = w.drewN m :=
  h.mono fun _ _ ⟨he, hm⟩ => ⟨he, n, hm.symm⟩
set_option maxHeartbeats 2000000 in
theorem scan_number (b : Nat) (s : ByteArray) (a : Nat) (w : World) (h : Sc w b s a) (ha : a < s.size) (hd : digitB s[a].toNat = true) (hs : s.size ≤ 65536) :
    Calls Tryz.prog 78 #[.pointer (some ⟨b, 0, none⟩)] w (ScanPost w b s a (numberScan s.data.toList a)) := by
  have h0 := (h.alloc (.cells #[.int .i64 0, .string ⟨#[]⟩, .int .i64 0, .int .i64 0] 95)).at_
  go_enter Tryz.func78, Tryz.ntmps78
  go_wp2_with fail
  have hk0 := Tk.new w (.int .i64 0) (.string ⟨#[]⟩) (.int .i64 0) (.int .i64 0)
  have hsc0 := h.alloc (.cells #[.int .i64 0, .string ⟨#[]⟩, .int .i64 0, .int .i64 0] 95)
  have hg0 : w.grownBy (w.alloc (.cells #[.int .i64 0, .string ⟨#[]⟩, .int .i64 0, .int .i64 0] 95)) (some b) := World.grownBy_alloc w _ _
  have hbl := h.lt
  have hne : w.heap.size ≠ b := by omega
  have hal : a < s.data.toList.length := by simpa using ha
  have hE1 : a < runEnd digitB s.data.toList a := runEnd_lt hal hd
  have hE2 : runEnd digitB s.data.toList a ≤ s.size := by simpa using runEnd_le digitB s.data.toList a (by omega)
  clear h h0 hd
  refine (run_digit b s a _ hsc0 (by omega) hs).mono ?_
  rintro e w1 ⟨rfl, hsc1, hg1⟩
  have hk1 := hk0.grown hg1 hne
  have hG1 := grown_trans hg0 hg1
  clear hk0 hg0 hg1 hsc0
  have HX := Lib.hid (extract_run digitB s a)
  have HC : Hid (∀ c ∈ runOf digitB s.data.toList a, digitB c.toNat = true) := Lib.hid (fun c hc => runOf_cls hc)
  have HF := Lib.hid (numberScan_eq s a)
  have HL : Hid ((runOf digitB s.data.toList a).length = runEnd digitB s.data.toList a - a) := Lib.hid (runOf_length _ _ _)
  generalize hr : runOf digitB s.data.toList a = r at HX HC HF HL
  generalize hx : s.extract a (runEnd digitB s.data.toList a) = x at HX ⊢
  generalize hE : runEnd digitB s.data.toList a = E at *
  clear hr hx hE
  have hxl : x.data.toList = r := by rw [HX.out]
  have hxs : x.size = E - a := by
    have : x.size = x.data.toList.length := by rw [Array.length_toList]; rfl
    rw [this, hxl, HL.out]
  have hx1 : 1 ≤ x.size := by omega
  have hx2 : x.size ≤ 65536 := by omega
  have HXL := Lib.hid hxl
  rw [← hxl] at HF HC
  clear hxl hxs HX HL
  have hcs : ∀ W : World, ∀ hh : E < s.size, Calls Tryz.prog 75 #[.int .u8 (s[E].toNat : Int)] W fun e w' => e = .returned (.bool (letterB s[E].toNat)) ∧ w' = W := fun W hh => (letter_any s[E].toNat W s[E].toNat_lt).mono (fun _ _ h => ⟨h.1, h.2.symm⟩)
  have HCS := Lib.hid hcs
  clear hcs
  have t0 := hsc1.text
  have t1 := hsc1.at_
  have e0 : (0 : Int) ≤ (E : Int) := by omega
  have z0 : 0 < x.size := by omega
  have z1 : (0 : Int) < (x.size : Int) := by omega
  rcases Nat.lt_or_ge 1 x.size with hx | hx
  · have hA := head_at hx
    rcases Nat.decEq x[0].toNat 48 with h48 | h48
    · skip
      have HHB := Lib.hid (show headBad x.data.toList = false by rw [hA, decide_eq_false h48])
      have d0 : decide (1 < x.size) = true := decide_eq_true hx
      have d1 : decide ((1 : Int) < (x.size : Int)) = true := decide_eq_true (by omega)
      have d2 : ((x[0].toNat : Int) == 48) = false := beq_eq_false_iff_ne.2 (by omega)
      clear hA h48
      rcases Nat.lt_or_ge E s.size with hE | hE
      · have d3 : decide (E < s.size) = true := decide_eq_true hE
        have d4 : decide ((E : Int) < (s.size : Int)) = true := decide_eq_true (by omega)
        have i1 : (E : Int) < (s.size : Int) := by omega
        have hcl : ∀ W : World, Calls Tryz.prog 75 #[.int .u8 (s[E].toNat : Int)] W fun e w' => e = .returned (.bool (letterB s[E].toNat)) ∧ w' = W := fun W => HCS.out W hE
        have hN := next_at hE
        rcases hc : letterB s[E].toNat with _ | _
        · rw [hc] at hcl hN
          have HNB := Lib.hid hN
          have HCL := Lib.hid hcl
          clear hcl hc hN HCS
          go_wp2_with fail
          go_quiet ((go_at_call 75; exact Calls.quiet_of_same (HCL.out _)))
          go_wp2_with fail
          replace hk1 := hk1.drewN nq
          replace hsc1 := hsc1.drewN nq
          replace hG1 := only_drewN hG1 nq
          generalize w1.drewN nq = w2 at hk1 hsc1 hG1 ⊢
          clear t0 t1
          go_loop [5, 50] (fun n i => NumRel x n i) (fun _ i => x.size - (intOf i).toNat)
          case atStart => exact ⟨0, Nat.zero_le _, rfl, rfl⟩
          case round =>
            obtain ⟨k, hk, rfl, rfl⟩ := hrel
            have hnb := numVal_le (x.data.toList.take k)
            by_cases hlt : k < x.size
            · have hdr := digit_range (HC.out x[k] (List.getElem_mem (l := x.data.toList) (n := k) (by simpa using hlt)))
              have HS := Lib.hid (num_step x k hlt (by omega))
              have g1 : (48 : Int) ≤ (x[k].toNat : Int) := by omega
              have g2 : (x[k].toNat : Int) ≤ 57 := by omega
              generalize numVal (x.data.toList.take k) = n at hnb HS ⊢
              go_wp2_with fail
              go_round
              case rel => exact ⟨k + 1, by omega, by go_num, by rw [HS.out]⟩
              case measure => simp [intOf]; omega
            · obtain rfl : k = x.size := by omega
              have HE := Lib.hid (take_all x)
              have c0 := hk1.c0
              have c1 := hk1.c1
              have c2 := hk1.c2
              have c3 := hk1.c3
              have f0 := hk1.free 0
              have f1 := hk1.free 1
              have f2 := hk1.free 2
              have f3 := hk1.free 3
              rw [HE.out] at hnb ⊢
              by_cases hm : 1125899906842624 < numVal x.data.toList
              · have HFF := Lib.hid (HF.out.trans (by rw [HHB.out, HNB.out, Bool.or_false, if_neg (by decide), if_pos hm]))
                generalize numVal x.data.toList = n at hm hnb HFF ⊢
                clear HF
                go_wp2_with fail
                refine ⟨rfl, ?_⟩
                rw [HFF.out]
                exact ⟨rfl, hG1⟩
              · have HFF := Lib.hid (HF.out.trans (by rw [HHB.out, HNB.out, Bool.or_false, if_neg (by decide), if_neg hm]))
                generalize numVal x.data.toList = n at hm hnb HFF ⊢
                clear HF
                go_wp2_with fail
                have hk4 := hk1.set4 (.int .i64 3) (.string ⟨#[]⟩) (.int .i64 n) (.int .i64 a)
                refine bodyPost_ret (results_tok Tryz.results78 _ rfl hk4) rfl ?_
                rw [HFF.out]
                exact ⟨rfl, (((hsc1.far (Ne.symm hne) _ _).far (Ne.symm hne) _ _).far (Ne.symm hne) _ _).far (Ne.symm hne) _ _, only_new (only_new (only_new (only_new hG1 (Nat.le_refl _) _ _) (Nat.le_refl _) _ _) (Nat.le_refl _) _ _) (Nat.le_refl _) _ _⟩
        · rw [hc] at hcl hN
          have HCL := Lib.hid hcl
          have HFF := Lib.hid (HF.out.trans (by rw [HHB.out, hN, Bool.or_true, if_pos rfl]))
          clear hcl hc hN HF HC HXL HCS HHB
          go_wp2_with fail
          go_quiet ((go_at_call 75; exact Calls.quiet_of_same (HCL.out _)))
          go_wp2_with fail
          refine ⟨rfl, ?_⟩
          rw [HFF.out]
          exact ⟨rfl, only_drewN hG1 _⟩
      · have HNB := Lib.hid (next_end hE)
        have d3 : decide (E < s.size) = false := decide_eq_false (by omega)
        have d4 : decide ((E : Int) < (s.size : Int)) = false := decide_eq_false (by omega)
        clear HCS
        go_wp2_with fail
        go_quiet (fail)
        go_wp2_with fail
        replace hk1 := hk1.drewN nq
        replace hsc1 := hsc1.drewN nq
        replace hG1 := only_drewN hG1 nq
        generalize w1.drewN nq = w2 at hk1 hsc1 hG1 ⊢
        clear t0 t1
        go_loop [5, 50] (fun n i => NumRel x n i) (fun _ i => x.size - (intOf i).toNat)
        case atStart => exact ⟨0, Nat.zero_le _, rfl, rfl⟩
        case round =>
          obtain ⟨k, hk, rfl, rfl⟩ := hrel
          have hnb := numVal_le (x.data.toList.take k)
          by_cases hlt : k < x.size
          · have hdr := digit_range (HC.out x[k] (List.getElem_mem (l := x.data.toList) (n := k) (by simpa using hlt)))
            have HS := Lib.hid (num_step x k hlt (by omega))
            have g1 : (48 : Int) ≤ (x[k].toNat : Int) := by omega
            have g2 : (x[k].toNat : Int) ≤ 57 := by omega
            generalize numVal (x.data.toList.take k) = n at hnb HS ⊢
            go_wp2_with fail
            go_round
            case rel => exact ⟨k + 1, by omega, by go_num, by rw [HS.out]⟩
            case measure => simp [intOf]; omega
          · obtain rfl : k = x.size := by omega
            have HE := Lib.hid (take_all x)
            have c0 := hk1.c0
            have c1 := hk1.c1
            have c2 := hk1.c2
            have c3 := hk1.c3
            have f0 := hk1.free 0
            have f1 := hk1.free 1
            have f2 := hk1.free 2
            have f3 := hk1.free 3
            rw [HE.out] at hnb ⊢
            by_cases hm : 1125899906842624 < numVal x.data.toList
            · have HFF := Lib.hid (HF.out.trans (by rw [HHB.out, HNB.out, Bool.or_false, if_neg (by decide), if_pos hm]))
              generalize numVal x.data.toList = n at hm hnb HFF ⊢
              clear HF
              go_wp2_with fail
              refine ⟨rfl, ?_⟩
              rw [HFF.out]
              exact ⟨rfl, hG1⟩
            · have HFF := Lib.hid (HF.out.trans (by rw [HHB.out, HNB.out, Bool.or_false, if_neg (by decide), if_neg hm]))
              generalize numVal x.data.toList = n at hm hnb HFF ⊢
              clear HF
              go_wp2_with fail
              have hk4 := hk1.set4 (.int .i64 3) (.string ⟨#[]⟩) (.int .i64 n) (.int .i64 a)
              refine bodyPost_ret (results_tok Tryz.results78 _ rfl hk4) rfl ?_
              rw [HFF.out]
              exact ⟨rfl, (((hsc1.far (Ne.symm hne) _ _).far (Ne.symm hne) _ _).far (Ne.symm hne) _ _).far (Ne.symm hne) _ _, only_new (only_new (only_new (only_new hG1 (Nat.le_refl _) _ _) (Nat.le_refl _) _ _) (Nat.le_refl _) _ _) (Nat.le_refl _) _ _⟩
    · rw [decide_eq_true h48] at hA
      have HA := Lib.hid hA
      have d0 : decide (1 < x.size) = true := decide_eq_true hx
      have d1 : decide ((1 : Int) < (x.size : Int)) = true := decide_eq_true (by omega)
      have d2 : ((x[0].toNat : Int) == 48) = true := by rw [h48]; rfl
      have HFF := Lib.hid (HF.out.trans (by rw [HA.out, Bool.true_or, if_pos rfl]))
      clear hA h48 HF HC HXL HA HCS
      go_wp2_with fail
      go_quiet (fail)
      go_wp2_with fail
      refine ⟨rfl, ?_⟩
      rw [HFF.out]
      exact ⟨rfl, only_drewN hG1 _⟩
  · skip
    have HHB := Lib.hid (head_one hx)
    have d0 : decide (1 < x.size) = false := decide_eq_false (by omega)
    have d1 : decide ((1 : Int) < (x.size : Int)) = false := decide_eq_false (by omega)
    rcases Nat.lt_or_ge E s.size with hE | hE
    · have d3 : decide (E < s.size) = true := decide_eq_true hE
      have d4 : decide ((E : Int) < (s.size : Int)) = true := decide_eq_true (by omega)
      have i1 : (E : Int) < (s.size : Int) := by omega
      have hcl : ∀ W : World, Calls Tryz.prog 75 #[.int .u8 (s[E].toNat : Int)] W fun e w' => e = .returned (.bool (letterB s[E].toNat)) ∧ w' = W := fun W => HCS.out W hE
      have hN := next_at hE
      rcases hc : letterB s[E].toNat with _ | _
      · rw [hc] at hcl hN
        have HNB := Lib.hid hN
        have HCL := Lib.hid hcl
        clear hcl hc hN HCS
        go_wp2_with fail
        go_quiet ((go_at_call 75; exact Calls.quiet_of_same (HCL.out _)))
        go_wp2_with fail
        replace hk1 := hk1.drewN nq
        replace hsc1 := hsc1.drewN nq
        replace hG1 := only_drewN hG1 nq
        generalize w1.drewN nq = w2 at hk1 hsc1 hG1 ⊢
        clear t0 t1
        go_loop [5, 50] (fun n i => NumRel x n i) (fun _ i => x.size - (intOf i).toNat)
        case atStart => exact ⟨0, Nat.zero_le _, rfl, rfl⟩
        case round =>
          obtain ⟨k, hk, rfl, rfl⟩ := hrel
          have hnb := numVal_le (x.data.toList.take k)
          by_cases hlt : k < x.size
          · have hdr := digit_range (HC.out x[k] (List.getElem_mem (l := x.data.toList) (n := k) (by simpa using hlt)))
            have HS := Lib.hid (num_step x k hlt (by omega))
            have g1 : (48 : Int) ≤ (x[k].toNat : Int) := by omega
            have g2 : (x[k].toNat : Int) ≤ 57 := by omega
            generalize numVal (x.data.toList.take k) = n at hnb HS ⊢
            go_wp2_with fail
            go_round
            case rel => exact ⟨k + 1, by omega, by go_num, by rw [HS.out]⟩
            case measure => simp [intOf]; omega
          · obtain rfl : k = x.size := by omega
            have HE := Lib.hid (take_all x)
            have c0 := hk1.c0
            have c1 := hk1.c1
            have c2 := hk1.c2
            have c3 := hk1.c3
            have f0 := hk1.free 0
            have f1 := hk1.free 1
            have f2 := hk1.free 2
            have f3 := hk1.free 3
            rw [HE.out] at hnb ⊢
            by_cases hm : 1125899906842624 < numVal x.data.toList
            · have HFF := Lib.hid (HF.out.trans (by rw [HHB.out, HNB.out, Bool.or_false, if_neg (by decide), if_pos hm]))
              generalize numVal x.data.toList = n at hm hnb HFF ⊢
              clear HF
              go_wp2_with fail
              refine ⟨rfl, ?_⟩
              rw [HFF.out]
              exact ⟨rfl, hG1⟩
            · have HFF := Lib.hid (HF.out.trans (by rw [HHB.out, HNB.out, Bool.or_false, if_neg (by decide), if_neg hm]))
              generalize numVal x.data.toList = n at hm hnb HFF ⊢
              clear HF
              go_wp2_with fail
              have hk4 := hk1.set4 (.int .i64 3) (.string ⟨#[]⟩) (.int .i64 n) (.int .i64 a)
              refine bodyPost_ret (results_tok Tryz.results78 _ rfl hk4) rfl ?_
              rw [HFF.out]
              exact ⟨rfl, (((hsc1.far (Ne.symm hne) _ _).far (Ne.symm hne) _ _).far (Ne.symm hne) _ _).far (Ne.symm hne) _ _, only_new (only_new (only_new (only_new hG1 (Nat.le_refl _) _ _) (Nat.le_refl _) _ _) (Nat.le_refl _) _ _) (Nat.le_refl _) _ _⟩
      · rw [hc] at hcl hN
        have HCL := Lib.hid hcl
        have HFF := Lib.hid (HF.out.trans (by rw [HHB.out, hN, Bool.or_true, if_pos rfl]))
        clear hcl hc hN HF HC HXL HCS HHB
        go_wp2_with fail
        go_quiet ((go_at_call 75; exact Calls.quiet_of_same (HCL.out _)))
        go_wp2_with fail
        refine ⟨rfl, ?_⟩
        rw [HFF.out]
        exact ⟨rfl, only_drewN hG1 _⟩
    · have HNB := Lib.hid (next_end hE)
      have d3 : decide (E < s.size) = false := decide_eq_false (by omega)
      have d4 : decide ((E : Int) < (s.size : Int)) = false := decide_eq_false (by omega)
      clear HCS
      go_wp2_with fail
      go_quiet (fail)
      go_wp2_with fail
      replace hk1 := hk1.drewN nq
      replace hsc1 := hsc1.drewN nq
      replace hG1 := only_drewN hG1 nq
      generalize w1.drewN nq = w2 at hk1 hsc1 hG1 ⊢
      clear t0 t1
      go_loop [5, 50] (fun n i => NumRel x n i) (fun _ i => x.size - (intOf i).toNat)
      case atStart => exact ⟨0, Nat.zero_le _, rfl, rfl⟩
      case round =>
        obtain ⟨k, hk, rfl, rfl⟩ := hrel
        have hnb := numVal_le (x.data.toList.take k)
        by_cases hlt : k < x.size
        · have hdr := digit_range (HC.out x[k] (List.getElem_mem (l := x.data.toList) (n := k) (by simpa using hlt)))
          have HS := Lib.hid (num_step x k hlt (by omega))
          have g1 : (48 : Int) ≤ (x[k].toNat : Int) := by omega
          have g2 : (x[k].toNat : Int) ≤ 57 := by omega
          generalize numVal (x.data.toList.take k) = n at hnb HS ⊢
          go_wp2_with fail
          go_round
          case rel => exact ⟨k + 1, by omega, by go_num, by rw [HS.out]⟩
          case measure => simp [intOf]; omega
        · obtain rfl : k = x.size := by omega
          have HE := Lib.hid (take_all x)
          have c0 := hk1.c0
          have c1 := hk1.c1
          have c2 := hk1.c2
          have c3 := hk1.c3
          have f0 := hk1.free 0
          have f1 := hk1.free 1
          have f2 := hk1.free 2
          have f3 := hk1.free 3
          rw [HE.out] at hnb ⊢
          by_cases hm : 1125899906842624 < numVal x.data.toList
          · have HFF := Lib.hid (HF.out.trans (by rw [HHB.out, HNB.out, Bool.or_false, if_neg (by decide), if_pos hm]))
            generalize numVal x.data.toList = n at hm hnb HFF ⊢
            clear HF
            go_wp2_with fail
            refine ⟨rfl, ?_⟩
            rw [HFF.out]
            exact ⟨rfl, hG1⟩
          · have HFF := Lib.hid (HF.out.trans (by rw [HHB.out, HNB.out, Bool.or_false, if_neg (by decide), if_neg hm]))
            generalize numVal x.data.toList = n at hm hnb HFF ⊢
            clear HF
            go_wp2_with fail
            have hk4 := hk1.set4 (.int .i64 3) (.string ⟨#[]⟩) (.int .i64 n) (.int .i64 a)
            refine bodyPost_ret (results_tok Tryz.results78 _ rfl hk4) rfl ?_
            rw [HFF.out]
            exact ⟨rfl, (((hsc1.far (Ne.symm hne) _ _).far (Ne.symm hne) _ _).far (Ne.symm hne) _ _).far (Ne.symm hne) _ _, only_new (only_new (only_new (only_new hG1 (Nat.le_refl _) _ _) (Nat.le_refl _) _ _) (Nat.le_refl _) _ _) (Nat.le_refl _) _ _⟩
end Go.Proofs.YtpmncgbpbcgfaaaGreatDoor
