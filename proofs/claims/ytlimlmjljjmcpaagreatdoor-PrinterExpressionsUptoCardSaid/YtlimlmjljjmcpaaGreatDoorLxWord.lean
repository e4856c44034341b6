/-
  The keywords: what lexer.Words and lexer.Word return.
-/
import Derived.Test.YtlimlmjljjmcpaaGreatDoorLxB
import Derived.Test.YtlimlmjljjmcpaaGreatDoorShelf
import Derived.WalkSmall
import Derived.LoopTactic
namespace Go.Proofs.YtlimlmjljjmcpaaGreatDoor
open Go.RowKit
set_option linter.unusedVariables false
set_option linter.unusedSimpArgs false

/-- strings.asciiSpace holds what its initialiser laid -/
def Tab (w : World) : Prop := Lib.TabIs Tryz.prog w "strings.asciiSpace" .u8 Lib.asciiSpaceTab
theorem gSpace : Tryz.prog.globalNamed "strings.asciiSpace" = some 2 := by kernel_rfl
section
variable {w w' : World} {B b : Nat} {s : ByteArray} {a : Nat}
theorem Tab.form (h : Tab w) : ∃ t f, w.heap[2]? = some (.cells (Lib.asciiSpaceTab.map fun z => Value.int .u8 z).toArray t f) := by
  unfold Tab Lib.TabIs World.var? at h
  rw [gSpace] at h
  simp only [Option.bind_some] at h
  split at h
  · rename_i cs t f hh
    injection h with h
    exact ⟨t, f, by rw [← h]; exact hh⟩
  · cases h
theorem Tab.lt (h : Tab w) : 2 < w.heap.size := by
  obtain ⟨t, f, hh⟩ := h.form
  rcases Nat.lt_or_ge 2 w.heap.size with hlt | hge
  · exact hlt
  · rw [Array.getElem?_eq_none hge] at hh; cases hh
theorem Tab.same (h : Tab w) (hb : w'.heap[2]? = w.heap[2]?) : Tab w' := by
  unfold Tab Lib.TabIs World.var? at h ⊢
  rw [gSpace] at h ⊢
  simp only [Option.bind_some] at h ⊢
  rw [hb]
  exact h
theorem Tab.below (h : Tab w) (hb : Below w.heap.size w w') : Tab w' := h.same (hb.block _ h.lt)
theorem Tab.drewN (h : Tab w) (k : Nat) : Tab (w.drewN k) := h
theorem Tab.alloc (h : Tab w) (o : Obj) : Tab (w.alloc o) := h.same (Below.heap_alloc w o _ h.lt)
theorem Tab.ne_sc (h : Tab w) (hs : Sc w b s a) : 2 ≠ b := by
  rintro rfl
  obtain ⟨t, f, hh⟩ := h.form
  unfold Sc at hs
  rw [hh] at hs
  simp only [Option.some.injEq, Obj.cells.injEq] at hs
  have := congrArg Array.size hs.1
  simp [Lib.asciiSpaceTab_length] at this
theorem Tab.grown (h : Tab w) (hs : Sc w b s a) (hg : w.grownBy w' (some b)) : Tab w' := h.same (hg.block _ h.lt (by simpa using h.ne_sc hs))
theorem Sc.lt (h : Sc w b s a) : b < w.heap.size := by
  rcases Nat.lt_or_ge b w.heap.size with hlt | hge
  · exact hlt
  · unfold Sc at h; rw [Array.getElem?_eq_none hge] at h; cases h
theorem Sc.below (h : Sc w b s a) (hb : Below w.heap.size w w') : Sc w' b s a := (hb.block _ h.lt).trans h
theorem Sc.alloc (h : Sc w b s a) (o : Obj) : Sc (w.alloc o) b s a := (Below.heap_alloc w o _ h.lt).trans h
end
theorem grown_below {a w w' : World} {row : Option Nat} (h : a.grownBy w row) (hb : Below w.heap.size w w') : a.grownBy w' row :=
  ⟨hb.os.trans h.os, hb.tape.trans h.tape, hb.output.trans h.output, Nat.le_trans h.size hb.size, fun i hi hne => (hb.block i (Nat.lt_of_lt_of_le hi h.size)).trans (h.block i hi hne)⟩

def kwText : List UInt8 := [65, 68, 68, 32, 65, 70, 84, 69, 82, 32, 65, 76, 76, 32, 65, 76, 84, 69, 82, 32, 65, 78, 68, 32, 65, 83, 32, 66, 69, 70, 79, 82, 69, 32, 66, 69, 71, 73, 78, 32, 66, 69, 84, 87, 69, 69, 78, 32, 66, 79, 79, 76, 32, 66, 89, 32, 67, 72, 69, 67, 75, 32, 67, 79, 65, 76, 69, 83, 67, 69, 32, 67, 79, 77, 77, 73, 84, 32, 67, 79, 78, 84, 65, 73, 78, 83, 32, 67, 79, 85, 78, 84, 32, 67, 82, 69, 65, 84, 69, 32, 68, 69, 70, 65, 85, 76, 84, 32, 68, 69, 76, 69, 84, 69, 32, 68, 69, 83, 67, 32, 68, 73, 83, 84, 73, 78, 67, 84, 32, 68, 82, 79, 80, 32, 68, 85, 82, 73, 78, 71, 32, 69, 81, 85, 65, 76, 83, 32, 69, 88, 67, 69, 80, 84, 32, 70, 65, 76, 83, 69, 32, 70, 73, 78, 73, 83, 72, 69, 68, 66, 89, 32, 70, 73, 78, 73, 83, 72, 69, 83, 32, 70, 79, 82, 69, 73, 71, 78, 32, 70, 79, 82, 69, 86, 69, 82, 32, 70, 82, 79, 77, 32, 71, 82, 79, 85, 80, 32, 72, 79, 76, 68, 32, 73, 70, 32, 73, 78, 83, 69, 82, 84, 32, 73, 78, 84, 32, 73, 78, 84, 69, 82, 83, 69, 67, 84, 32, 73, 78, 84, 79, 32, 73, 83, 32, 74, 79, 73, 78, 32, 75, 69, 89, 32, 76, 69, 70, 84, 32, 76, 69, 78, 71, 84, 72, 32, 76, 73, 77, 73, 84, 32, 77, 65, 88, 32, 77, 69, 69, 84, 83, 32, 77, 69, 84, 66, 89, 32, 77, 73, 78, 32, 78, 79, 78, 83, 69, 81, 85, 69, 78, 67, 69, 68, 32, 78, 79, 84, 32, 78, 79, 87, 32, 78, 85, 76, 76, 32, 79, 70, 32, 79, 78, 32, 79, 82, 32, 79, 82, 68, 69, 82, 32, 79, 86, 69, 82, 76, 65, 80, 80, 69, 68, 66, 89, 32, 79, 86, 69, 82, 76, 65, 80, 83, 32, 80, 82, 73, 77, 65, 82, 89, 32, 80, 82, 85, 78, 69, 32, 82, 69, 70, 69, 82, 69, 78, 67, 69, 83, 32, 82, 69, 76, 69, 65, 83, 69, 32, 82, 69, 78, 65, 77, 69, 32, 82, 69, 84, 65, 73, 78, 32, 82, 79, 76, 76, 66, 65, 67, 75, 32, 83, 69, 76, 69, 67, 84, 32, 83, 69, 81, 85, 69, 78, 67, 69, 68, 32, 83, 69, 84, 32, 83, 84, 65, 82, 84, 69, 68, 66, 89, 32, 83, 84, 65, 82, 84, 83, 32, 83, 85, 77, 32, 83, 89, 83, 84, 69, 77, 32, 83, 89, 83, 84, 69, 77, 70, 82, 79, 77, 32, 83, 89, 83, 84, 69, 77, 84, 79, 32, 84, 65, 66, 76, 69, 32, 84, 69, 88, 84, 32, 84, 79, 32, 84, 82, 85, 69, 32, 84, 88, 32, 85, 78, 68, 69, 82, 32, 85, 78, 73, 79, 78, 32, 85, 80, 68, 65, 84, 69, 32, 86, 65, 76, 73, 68, 32, 86, 65, 76, 73, 68, 70, 82, 79, 77, 32, 86, 65, 76, 73, 68, 84, 79, 32, 86, 65, 76, 85, 69, 83, 32, 87, 72, 69, 82, 69]
def kwS (l : List UInt8) : Value := .string ⟨l.toArray⟩
def kwBlock : Obj := .cells (keywords.map kwS).toArray 9
theorem fields_kw : Lib.fields kwText = keywords := by decide +kernel
theorem kwText_ascii : kwText.all (fun b => decide (b.toNat < 128)) = true := by decide +kernel
theorem kwText_length : kwText.length < 1000 := by decide +kernel
theorem fields_call (s : ByteArray) (w : World) (hs : s.data.toList = kwText) (h : Tab w) :
    Calls Tryz.prog 320 #[.string s] w fun e w' => e = .returned (.slice (some ⟨w.heap.size, 0, none⟩) 87 87) ∧ w.alloc kwBlock = w' := by
  have hsz : s.size < 4294967281 := by
    have h1 : s.size = s.data.toList.length := by rw [Array.length_toList]; rfl
    have := kwText_length
    rw [← hs] at this
    omega
  refine (Tryz.strings_Fields s w hsz ?_ h).mono ?_
  · intro j b hj
    rw [hs] at hj
    have := List.all_eq_true.1 kwText_ascii b (List.mem_of_getElem? hj)
    simpa using this
  · rintro e w' ⟨rfl, rfl⟩
    rw [hs, fields_kw]
    exact ⟨rfl, rfl⟩
set_option maxRecDepth 100000 in
set_option maxHeartbeats 400000 in
theorem words_call (w : World) (h : Tab w) :
    Calls Tryz.prog 280 #[] w fun e w' => e = .returned (.slice (some ⟨w.heap.size, 0, none⟩) 87 87) ∧ w.alloc kwBlock = w' := by
  have H := Lib.hid h
  clear h
  go_enter Tryz.func280, Tryz.ntmps280
  go_wp2_with fail
  refine (fields_call _ w (by kernel_rfl) H.out).mono ?_
  rintro e w' ⟨rfl, rfl⟩
  go_wp2_with fail
  go_ret
  exact ⟨rfl, rfl⟩
theorem kw_ascii : keywords.all (fun l => l.all fun b => decide (b.toNat < 128)) = true := by decide +kernel
theorem upC_ge (c : UInt8) (h : 128 ≤ c.toNat) : upC c = c := by unfold upC; rw [if_neg (by omega)]
theorem isWord_high {l : List UInt8} {c : UInt8} (hc : c ∈ l) (h : 128 ≤ c.toNat) : isWord l = false := by
  rcases hw : isWord l with _ | _
  · rfl
  · unfold isWord at hw
    have hm : upL l ∈ keywords := by simpa using hw
    have h1 := List.all_eq_true.1 kw_ascii _ hm
    have h2 := List.all_eq_true.1 h1 (upC c) (List.mem_map_of_mem hc)
    rw [upC_ge c h] at h2
    simp at h2
    omega
theorem upper_upC (c : UInt8) : Lib.upperB c = upC c := by
  unfold Lib.upperB upC Lib.isLowerB
  have h := c.toNat_lt
  by_cases h1 : 97 ≤ c.toNat ∧ c.toNat ≤ 122
  · have h2 : (97 ≤ c && c ≤ 122) = true := by simp [UInt8.le_iff_toNat_le]; omega
    rw [if_pos h1, if_pos (by simpa using h2)]
    apply UInt8.toNat_inj.1
    rw [UInt8.toNat_sub_of_le _ _ (by rw [UInt8.le_iff_toNat_le]; simp; omega), UInt8.toNat_ofNat_of_lt' (by show _ < 256; omega)]
    rfl
  · have h2 : ¬ (97 ≤ c && c ≤ 122) = true := by simp [UInt8.le_iff_toNat_le]; omega
    rw [if_neg h1, if_neg (by simpa using h2)]
theorem upper_upL (l : List UInt8) : Lib.toUpperA l = upL l := by unfold Lib.toUpperA upL; exact List.map_congr_left fun c _ => upper_upC c
def kwAt (t : Nat) : ByteArray := ⟨(keywords.getD t []).toArray⟩
theorem kw_cell (w : World) (j : Nat) (hj : j < 87) : (w.alloc kwBlock).cell? ⟨w.heap.size, 0 + j, none⟩ = some (.string (kwAt j)) := by
  have hl : keywords.length = 87 := by decide +kernel
  have h1 := cell_of_row (w.alloc kwBlock) w.heap.size (0 + j) (keywords.map kwS).toArray 9 (0, 0) (heap_alloc_new w _)
  rw [h1, Nat.zero_add]
  simp only [List.getElem?_toArray, List.getElem?_map]
  rw [List.getElem?_eq_getElem (by omega)]
  simp [kwS, kwAt, List.getD, List.getElem?_eq_getElem (show j < keywords.length by omega)]
def bsAt (x : List UInt8) : Nat := Lib.bsGo (fun t => Op.bytesLess (keywords.getD t []) x) 87 0 87
theorem bs_each : (List.range 87).all (fun i => decide (bsAt (keywords.getD i []) = i)) = true := by decide +kernel
theorem bs_found (x : List UInt8) : decide (bsAt x < 87 ∧ keywords.getD (bsAt x) [] = x) = keywords.contains x := by
  have hl : keywords.length = 87 := by decide +kernel
  rw [Bool.eq_iff_iff]
  simp only [decide_eq_true_eq, List.contains_iff_mem]
  constructor
  · rintro ⟨h1, h2⟩
    have := List.getElem_mem (l := keywords) (n := bsAt x) (by omega)
    have e : keywords.getD (bsAt x) [] = keywords[bsAt x]'(by omega) := by simp [List.getD, List.getElem?_eq_getElem (show bsAt x < keywords.length by omega)]
    rw [← h2]
    have h3 : keywords.getD (bsAt x) [] ∈ keywords := by rw [e]; exact this
    rw [h2] at h3 ⊢
    exact h3
  · intro hm
    obtain ⟨i, hi, rfl⟩ := List.mem_iff_getElem.1 hm
    have h1 := List.all_eq_true.1 bs_each i (List.mem_range.2 (by omega))
    have e : keywords.getD i [] = keywords[i] := by simp [List.getD, List.getElem?_eq_getElem hi]
    rw [e] at h1
    have h2 : bsAt keywords[i] = i := by simpa using h1
    rw [h2, e]
    exact ⟨by omega, rfl⟩
theorem search_call (w : World) (x : List UInt8) (s : ByteArray) (B : Nat) (hs : s.data.toList = x) (w' : World) (hc : ∀ j, j < 87 → w'.cell? ⟨B, 0 + j, none⟩ = some (.string (kwAt j))) :
    Calls Tryz.prog 279 #[.slice (some ⟨B, 0, none⟩) 87 87, .string s] w' fun e w'' => (∃ n : Nat, e = .returned (.tuple #[.int .i64 n, .bool (keywords.contains x)])) ∧ Below w'.heap.size w' w'' := by
  refine (Tryz.slices_BinarySearch_string B 0 87 87 kwAt s w' (by omega) hc).mono ?_
  rintro e w'' ⟨rfl, q, rfl⟩
  have e1 : (fun t => Op.bytesLess (kwAt t).toList s.toList) = fun t => Op.bytesLess (keywords.getD t []) x := by
    funext t
    rw [← hs, Lib.toList_data, Lib.toList_data]
    unfold kwAt
    simp
  rw [e1]
  refine ⟨⟨bsAt x, ?_⟩, ⟨rfl, rfl, rfl, Nat.le_refl _, fun _ _ => rfl⟩⟩
  rw [← bs_found]
  have e2 : (kwAt (bsAt x) = s) ↔ (keywords.getD (bsAt x) [] = x) := by
    rw [← hs]
    unfold kwAt
    constructor
    · intro h
      have := congrArg (fun z : ByteArray => z.data.toList) h
      simpa using this
    · intro h; rw [h]
  refine congrArg Ending.returned (congrArg Value.tuple ?_)
  have e3 : (decide (bsAt x < 87 ∧ kwAt (bsAt x) = s)) = decide (bsAt x < 87 ∧ keywords.getD (bsAt x) [] = x) := by simp only [e2]
  rw [← e3]
  rfl
theorem search_word (l : List UInt8) (s : ByteArray) (B : Nat) (hs : s.data.toList = upL l) (w' : World) (hc : ∀ j, j < 87 → w'.cell? ⟨B, 0 + j, none⟩ = some (.string (kwAt j))) :
    Calls Tryz.prog 279 #[.slice (some ⟨B, 0, none⟩) 87 87, .string s] w' fun e w'' => (∃ n : Nat, e = .returned (.tuple #[.int .i64 n, .bool (isWord l)])) ∧ Below w'.heap.size w' w'' := search_call w' (upL l) s B hs w' hc
def Highs (s : ByteArray) (k : Nat) : Prop := ∀ j (h : j < s.size), j < k → s[j].toNat < 128
def WordPost (w : World) (s : ByteArray) (e : Ending) (w' : World) : Prop := e = .returned (.bool (isWord s.data.toList)) ∧ Below w.heap.size w w'
def AscRel (s : ByteArray) (i : Value) : Prop := ∃ k : Nat, k ≤ s.size ∧ Highs s k ∧ i = .int .i64 k
set_option maxHeartbeats 400000 in
theorem word_call (s : ByteArray) (w : World) (hs : s.size ≤ 140737488351232) (h : Tab w) :
    Calls Tryz.prog 236 #[.string s] w (WordPost w s) := by
  have H := Lib.hid h
  clear h
  go_enter Tryz.func236, Tryz.ntmps236
  go_wp2_with fail
  go_loop [8] (fun i => AscRel s i) (fun i => s.size - (intOf i).toNat)
  case atStart => exact ⟨0, Nat.zero_le _, fun j _ hj => absurd hj (by omega), rfl⟩
  case round =>
    obtain ⟨k, hk, hi, rfl⟩ := hrel
    have HI := Lib.hid hi
    clear hi
    by_cases hlt : k < s.size
    · by_cases hc : s[k].toNat < 128
      · have c1 : ¬ (128 ≤ (s[k].toNat : Int)) := by omega
        go_wp2_with fail
        go_round
        case rel =>
          refine ⟨k + 1, by omega, fun j hj hjk => ?_, by go_num⟩
          by_cases e : j = k
          · subst e; exact hc
          · exact HI.out j hj (by omega)
        case measure => simp [intOf]; omega
      · have c1 : 128 ≤ (s[k].toNat : Int) := by omega
        have HW := Lib.hid (isWord_high (l := s.data.toList) (c := s[k]) (by exact List.getElem_mem (l := s.data.toList) (n := k) (by simpa using hlt)) (by omega))
        go_wp2_with fail
        go_ret
        exact ⟨by rw [HW.out]; rfl, Below.refl _ _⟩
    · obtain rfl : k = s.size := by omega
      have hasc : ∀ (j : Nat) (b : UInt8), s.data.toList[j]? = some b → b.toNat < 128 := by
        intro j b hj
        obtain ⟨hlt, e⟩ := List.getElem?_eq_some_iff.1 hj
        have hjs : j < s.size := by simpa using hlt
        rw [← e]
        exact HI.out j hjs hjs
      have HA := Lib.hid hasc
      clear hasc HI
      go_wp2_with fail
      refine (words_call _ H.out).mono ?_
      rintro e w' ⟨rfl, rfl⟩
      go_wp2_with fail
      refine (Tryz.strings_ToUpper_ascii s _ (by omega) HA.out).mono ?_
      rintro e w2 ⟨rfl, hb⟩
      have HB := Lib.hid hb
      clear hb
      go_wp2_with fail
      refine (search_word s.data.toList _ w.heap.size (by rw [upper_upL]) w2 ?_).mono ?_
      · intro j hj
        rw [HB.out.cell (by simp)]
        exact kw_cell w j hj
      rintro e w3 ⟨⟨n, rfl⟩, hb3⟩
      have HB3 := Lib.hid hb3
      clear hb3
      go_wp2_with fail
      go_ret
      refine ⟨rfl, ?_⟩
      have b1 : Below w.heap.size w (w.alloc kwBlock) := (Below.refl _ _).alloc (Nat.le_refl _) _
      have b2 := b1.trans (HB.out.mono (by simp))
      exact b2.trans (HB3.out.mono b2.size)
end Go.Proofs.YtlimlmjljjmcpaaGreatDoor
