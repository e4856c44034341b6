/-
  The reference's Name, and the walk of bitemporallaw17.LexerWords.
-/
import Derived.Test.YtlbmamcchomecaaDoorLnName
namespace Go.Proofs.YtlbmamcchomecaaDoor
open Go.RowKit
set_option linter.unusedVariables false
set_option linter.unusedSimpArgs false

theorem low_in {l : List UInt8} (h : ∀ j, j < 87 → lowWords.getD j [] ≠ l) : lowWords.contains l = false := by
  rw [Bool.eq_false_iff]
  intro hc
  have hm : l ∈ lowWords := by simpa using hc
  obtain ⟨j, hj, e⟩ := List.mem_iff_getElem.1 hm
  refine h j (by rw [low_length] at hj; exact hj) ?_
  rw [← e, List.getD_eq_getElem?_getD, List.getElem?_eq_getElem hj]
  rfl
theorem low_yes {l : List UInt8} {k : Nat} (hk : k < 87) (h : lowWords.getD k [] = l) : lowWords.contains l = true := by
  have : lowWords.getD k [] ∈ lowWords := by
    rw [List.getD_eq_getElem?_getD, List.getElem?_eq_getElem (show k < lowWords.length by rw [low_length]; exact hk)]
    exact List.getElem_mem _
  rw [← h]
  simpa using this
def inB (l : List UInt8) : Bool := lowWords.contains l
def InRel (s : ByteArray) (i : Value) : Prop := ∃ k : Nat, k ≤ 87 ∧ i = .int .i64 k ∧ ∀ j, j < k → lowWords.getD j [] ≠ s.data.toList
set_option maxRecDepth 100000 in
set_option maxHeartbeats 1000000 in
theorem in_ref (s : ByteArray) (w : World) (B : Nat) (h : w.heap[B]? = some lowBlock) :
    Calls Tryd.prog 54 #[.slice (some ⟨B, 0, none⟩) 87 87, .string s] w fun e w' => e = .returned (.bool (inB s.data.toList)) ∧ w = w' := by
  have H := Lib.hid h
  clear h
  go_enter Tryd.func54, Tryd.ntmps54
  go_wp2_with fail
  go_loop [5] (fun i => InRel s i) (fun i => 87 - (intOf i).toNat)
  case atStart => exact ⟨0, by omega, rfl, fun j hj => absurd hj (by omega)⟩
  case round =>
    obtain ⟨k, hk, rfl, hno⟩ := hrel
    have HN := Lib.hid hno
    clear hno
    by_cases hlt : k < 87
    · have hc := low_cell H.out hlt
      have HY := Lib.hid (fun e : lowWords.getD k [] = s.data.toList => low_yes hlt e)
      have HN2 : Hid (lowWords.getD k [] ≠ s.data.toList → ∀ j, j < k + 1 → lowWords.getD j [] ≠ s.data.toList) := Lib.hid (fun h j hj => by
        by_cases e : j = k
        · subst e; exact h
        · exact HN.out j (by omega))
      have k0 : (0 : Int) ≤ (k : Int) := by omega
      have k1 : (k : Int) < 87 := by omega
      generalize lowWords.getD k [] = y at hc HY HN2
      by_cases he : y = s.toList
      · have b1 : (y == s.toList) = true := beq_iff_eq.2 he
        have HW : Hid (inB s.data.toList = true) := Lib.hid (HY.out (he.trans (Lib.toList_data s)))
        clear he HY HN2
        go_wp2_with fail
        go_ret
        exact ⟨by rw [HW.out]; rfl, rfl⟩
      · have b1 : (y == s.toList) = false := beq_eq_false_iff_ne.2 he
        have HW := Lib.hid (HN2.out (fun e => he (e.trans (Lib.toList_data s).symm)))
        clear he HY HN2
        go_wp2_with fail
        go_round
        case rel => exact ⟨k + 1, by omega, by go_num, HW.out⟩
        case measure => simp [intOf]; omega
    · obtain rfl : k = 87 := by omega
      have HW : Hid (inB s.data.toList = false) := Lib.hid (low_in HN.out)
      clear HN
      go_wp2_with fail
      go_ret
      exact ⟨by rw [HW.out]; rfl, rfl⟩
set_option maxRecDepth 100000 in
set_option maxHeartbeats 2000000 in
theorem name_ref13 (s : ByteArray) (w : World) : Calls Tryd.prog 34 #[.string s] w (NmPost w s) := by
  have hnot : ∀ (x : Bool) (w : World), (Op.unary .not (.bool x)).run Tryd.prog w = .ok (.bool (!x)) w := fun _ _ => rfl
  rcases Nat.eq_zero_or_pos s.size with h0 | h0
  · have hl : s.toList = [] := by rw [Lib.toList_data]; exact List.eq_nil_of_length_eq_zero (by rw [size_list]; exact h0)
    have hl2 : s.toList.isEmpty = true := by rw [hl]; rfl
    have HN := Lib.hid (name_empty (l := s.data.toList) (by rw [← Lib.toList_data]; exact hl))
    clear hl h0
    go_enter Tryd.func34, Tryd.ntmps34
    go_wp2_with fail
    go_ret
    exact ⟨by rw [HN.out]; rfl, Below.refl _ _⟩
  · have hne : s.data.toList ≠ [] := fun e => by have := size_list s; rw [e] at this; simp at this; omega
    have hl2 : s.toList.isEmpty = false := by rw [Lib.toList_data]; simpa using hne
    have HNE := Lib.hid hne
    clear hne
    rcases Nat.lt_or_ge 24 s.size with h24 | h24
    · have HN := Lib.hid (name_long (l := s.data.toList) (by rw [size_list]; exact h24))
      have d1 : (24 : Int) < (s.size : Int) := by omega
      go_enter Tryd.func34, Tryd.ntmps34
      go_wp2_with fail
      go_ret
      exact ⟨by rw [HN.out]; rfl, Below.refl _ _⟩
    · have d1 : ¬ (24 : Int) < (s.size : Int) := by omega
      have z1 : (0 : Int) < (s.size : Int) := by omega
      have hHD := head_digit h0
      rcases hc : digitB s[0].toNat with _ | _
      · have HHD := Lib.hid (hHD.trans hc)
        have hcc : (s[0].toNat : Int) < 48 ∨ ((48 : Int) ≤ (s[0].toNat : Int) ∧ (57 : Int) < (s[0].toNat : Int)) := by unfold digitB at hc; simp at hc; omega
        clear hc hHD
        rcases hcc with q1 | ⟨q1, q2⟩
        all_goals
          go_enter Tryd.func34, Tryd.ntmps34
          go_wp2_with fail
          go_loop [3] (fun i => NmRel s i) (fun i => s.size - (intOf i).toNat)
          case atStart => exact ⟨0, Nat.zero_le _, rfl, fun j _ hj => absurd hj (by omega)⟩
          case round =>
            obtain ⟨k, hk, rfl, hi⟩ := hrel
            have HI := Lib.hid hi
            clear hi
            by_cases hlt : k < s.size
            · have hb8 : s[k].toNat < 256 := s[k].toNat_lt
              have HIN : Hid (lowB s[k].toNat = true → ∀ j (h : j < s.size), j < k + 1 → lowB s[j].toNat = true) := Lib.hid (fun hl j hj hjk => by
                by_cases e : j = k
                · subst e; exact hl
                · exact HI.out j hj (by omega))
              rcases hlo : lowB s[k].toNat with _ | _
              · have HN := Lib.hid (name_bad (mem_at hlt) hlo)
                have b3 : ((s[k].toNat : Int) == 95) = false := beq_eq_false_iff_ne.2 (by unfold lowB at hlo; simp at hlo; omega)
                have hq : ((s[k].toNat : Int) < 48) ∨ ((48 : Int) ≤ (s[k].toNat : Int) ∧ (57 : Int) < (s[k].toNat : Int) ∧ (s[k].toNat : Int) < 97) ∨ ((97 : Int) ≤ (s[k].toNat : Int) ∧ (122 : Int) < (s[k].toNat : Int)) := by unfold lowB at hlo; simp at hlo; omega
                clear hlo HIN
                rcases hq with r1 | ⟨r1, r2, r3⟩ | ⟨r1, r2⟩
                · go_wp2_with fail
                  go_ret
                  exact ⟨by rw [HN.out]; rfl, Below.refl _ _⟩
                · have e5 : decide ((s[k].toNat : Int) ≤ 57) = false := decide_eq_false (by omega)
                  go_wp2_with fail
                  go_ret
                  exact ⟨by rw [HN.out]; rfl, Below.refl _ _⟩
                · have e5 : decide ((s[k].toNat : Int) ≤ 57) = false := decide_eq_false (by omega)
                  have e6 : decide ((s[k].toNat : Int) ≤ 122) = false := decide_eq_false (by omega)
                  go_wp2_with fail
                  go_ret
                  exact ⟨by rw [HN.out]; rfl, Below.refl _ _⟩
              · have HLO := Lib.hid (HIN.out hlo)
                have hq : ((97 : Int) ≤ (s[k].toNat : Int) ∧ (s[k].toNat : Int) ≤ 122) ∨ ((s[k].toNat : Int) < 97 ∧ (48 : Int) ≤ (s[k].toNat : Int) ∧ (s[k].toNat : Int) ≤ 57) ∨ s[k].toNat = 95 := by unfold lowB at hlo; simp at hlo; omega
                clear hlo HIN
                rcases hq with ⟨r1, r2⟩ | ⟨r0, r1, r2⟩ | r1
                · go_wp2_with fail
                  go_round
                  case rel => exact ⟨k + 1, by omega, by go_num, HLO.out⟩
                  case measure => simp [intOf]; omega
                · go_wp2_with fail
                  go_round
                  case rel => exact ⟨k + 1, by omega, by go_num, HLO.out⟩
                  case measure => simp [intOf]; omega
                · have b3 : ((s[k].toNat : Int) == 95) = true := beq_iff_eq.2 (by omega)
                  have r2 : (s[k].toNat : Int) < 97 := by omega
                  have r3 : (48 : Int) ≤ (s[k].toNat : Int) := by omega
                  have r4 : (57 : Int) < (s[k].toNat : Int) := by omega
                  clear r1
                  go_wp2_with fail
                  go_round
                  case rel => exact ⟨k + 1, by omega, by go_num, HLO.out⟩
                  case measure => simp [intOf]; omega
            · obtain rfl : k = s.size := by omega
              have hal := all_low HI.out
              have HWL := Lib.hid (word_low hal)
              have hn : nameB s.data.toList = !(inB s.data.toList) := by
                rcases hw : isWord s.data.toList with _ | _
                · rw [name_yes HNE.out (by rw [size_list]; exact h24) HHD.out hw hal]
                  unfold inB; rw [← HWL.out, hw]; rfl
                · rw [name_word hw]
                  unfold inB; rw [← HWL.out, hw]; rfl
              have HN := Lib.hid hn
              clear hn hal HI
              go_wp2_with fail
              refine (lowWords_ref w).mono ?_
              rintro e w' ⟨rfl, rfl⟩
              go_wp2_with fail
              refine (in_ref s _ w.heap.size (heap_alloc_new w _)).mono ?_
              rintro e w' ⟨rfl, rfl⟩
              go_wp2_with fail
              go_ret
              exact ⟨by rw [HN.out]; rfl, (Below.refl _ _).alloc (Nat.le_refl _) _⟩
      · have HN := Lib.hid (name_digit (hHD.trans hc))
        have q1 : (48 : Int) ≤ (s[0].toNat : Int) := by unfold digitB at hc; simp at hc; omega
        have q2 : (s[0].toNat : Int) ≤ 57 := by unfold digitB at hc; simp at hc; omega
        clear hc hHD
        go_enter Tryd.func34, Tryd.ntmps34
        go_wp2_with fail
        go_ret
        exact ⟨by rw [HN.out]; rfl, Below.refl _ _⟩
theorem name_ref (s : ByteArray) (w : World) : Calls Tryd.prog 17 #[.string s] w (NmPost w s) := by
  have HC := Lib.hid (name_ref13 s w)
  go_enter Tryd.func17, Tryd.ntmps17
  go_wp2_with fail
  refine HC.out.mono ?_
  rintro e w' ⟨rfl, hb⟩
  go_wp2_with fail
  go_ret
  exact ⟨rfl, hb⟩
theorem own_kw {wr : World} {base g cap : Nat} (h : wr.ownsRow base 9 1 (.slice (some ⟨g, 0, none⟩) 87 cap) 87 (keywords.map kwS)) {k : Nat} (hk : k < 87) : wr.cell? ⟨g, k, none⟩ = some (.string (kwAt k)) := by
  have e1 : (⟨g, 0, none⟩ : Addr).add k = ⟨g, k, none⟩ := by unfold Addr.add; split <;> simp_all
  rw [← e1]
  refine h.cells (g := g) rfl k _ ?_
  rw [List.getElem?_map, List.getElem?_eq_getElem (by rw [kw_length]; exact hk)]
  simp [kwS, kwAt, List.getD_eq_getElem?_getD, List.getElem?_eq_getElem (show k < keywords.length by rw [kw_length]; exact hk)]
/-- two lists of the keywords in one world -/
structure Kws (w : World) (B B' : Nat) (A' : Option Addr) (c' : Nat) (wr : World) : Prop where
  a : wr.heap[B]? = some kwBlock
  b : wr.ownsRow B' 9 1 (.slice A' 87 c') 87 (keywords.map kwS)
  bel : Below w.heap.size w wr
theorem kwb_cell {w : World} {B : Nat} (h : w.heap[B]? = some kwBlock) {j : Nat} (hj : j < 87) : w.cell? ⟨B, j, none⟩ = some (.string (kwAt j)) := by
  rw [cell_of_row w B j _ _ (0, 0) h]
  simp only [List.getElem?_toArray, List.getElem?_map]
  rw [List.getElem?_eq_getElem (by rw [kw_length]; exact hj)]
  simp [kwS, kwAt, List.getD_eq_getElem?_getD, List.getElem?_eq_getElem (show j < keywords.length by rw [kw_length]; exact hj)]
def KwRel (w : World) (B B' : Nat) (A' : Option Addr) (c' : Nat) (i : Value) (wr : World) : Prop := ∃ k : Nat, k ≤ 87 ∧ i = .int .i64 k ∧ Kws w B B' A' c' wr
theorem word_from {w w1 : World} (s : ByteArray) (hs : s.size ≤ 140737488351232) (hb : Below w.heap.size w w1) (ht : Tab w1) : Calls Tryd.prog 14 #[.string s] w1 fun e w' => e = .returned (.bool (isWord s.data.toList)) ∧ Below w.heap.size w w' :=
  (word_call s w1 hs ht).mono fun _ _ h => ⟨h.1, hb.trans (h.2.mono hb.size)⟩
theorem rword_from {w w1 : World} (s : ByteArray) (hs : s.size ≤ 140737488351232) (hb : Below w.heap.size w w1) : Calls Tryd.prog 15 #[.string s] w1 fun e w' => e = .returned (.bool (isWord s.data.toList)) ∧ Below w.heap.size w w' :=
  (word_ref s w1 hs).mono fun _ _ h => ⟨h.1, hb.trans (h.2.mono hb.size)⟩
theorem name_from {w w1 : World} (s : ByteArray) (hb : Below w.heap.size w w1) (ht : Tab w1) : Calls Tryd.prog 16 #[.string s] w1 fun e w' => e = .returned (.bool (nameB s.data.toList)) ∧ Below w.heap.size w w' :=
  (name_call s w1 ht).mono fun _ _ h => ⟨h.1, hb.trans (h.2.mono hb.size)⟩
theorem rname_from {w w1 : World} (s : ByteArray) (hb : Below w.heap.size w w1) : Calls Tryd.prog 17 #[.string s] w1 fun e w' => e = .returned (.bool (nameB s.data.toList)) ∧ Below w.heap.size w w' :=
  (name_ref s w1).mono fun _ _ h => ⟨h.1, hb.trans (h.2.mono hb.size)⟩
set_option maxRecDepth 100000 in
set_option maxHeartbeats 2000000 in
theorem words_walk (s : ByteArray) (w : World) (hs : s.size ≤ 140737488351232) (ht : Tab w) : Calls Tryd.prog 5 #[.string s] w (TruePost w) := by
  have HT := Lib.hid ht
  clear ht
  go_enter Tryd.func5, Tryd.ntmps5
  go_wp2_with fail
  refine (words_call w HT.out).mono ?_
  rintro e w' ⟨rfl, rfl⟩
  have hblk := heap_alloc_new w kwBlock
  have hb1 : Below w.heap.size w (w.alloc kwBlock) := (Below.refl _ _).alloc (Nat.le_refl _) _
  generalize w.alloc kwBlock = w1 at hblk hb1 ⊢
  go_wp2_with fail
  refine (words_ref w1).mono ?_
  rintro e w2 ⟨v, rfl, ho, hb2⟩
  have ho : w2.ownsRow w1.heap.size 9 1 v 87 (keywords.map kwS) := ho
  obtain ⟨A', n', c', rfl⟩ := own_slice ho
  obtain rfl := own_len ho
  have HI : Hid (Kws w w.heap.size w1.heap.size A' c' w2) := Lib.hid ⟨(hb2.block _ (lt_of_block hblk)).trans hblk, ho, hb1.trans (hb2.mono hb1.size)⟩
  clear hblk hb1 hb2 ho
  go_wp2_with fail
  go_loopw [15] (fun i wr => KwRel w w.heap.size w1.heap.size A' c' i wr) (fun i _ => 87 - (intOf i).toNat)
  case atStart => exact ⟨0, by omega, rfl, HI.out⟩
  case round =>
    obtain ⟨k, hk, rfl, hI⟩ := hrel
    have HI2 := Lib.hid hI
    clear hI HI
    by_cases hlt : k < 87
    · obtain ⟨g', rfl⟩ := own_addr HI2.out.b (by omega)
      have x0 := kwb_cell HI2.out.a hlt
      have y0 : wr.cell? ⟨g', k, none⟩ = some (.string (kwAt k)) := own_kw HI2.out.b hlt
      have k0 : (0 : Int) ≤ (k : Int) := by omega
      have k1 : (k : Int) < 87 := by omega
      generalize kwAt k = y at x0 y0
      go_wp2_with fail
      go_quiet (fail)
      have HI3 : Hid (Kws w w.heap.size w1.heap.size (some ⟨g', 0, none⟩) c' (wr.drewN nq)) := Lib.hid ⟨HI2.out.a, HI2.out.b, below_drewN HI2.out.bel nq⟩
      clear x0 y0 HI2
      generalize wr.drewN nq = w3 at HI3 ⊢
      go_wp2_with fail
      go_roundw
      case rel => exact ⟨k + 1, by omega, by go_num, HI3.out⟩
      case measure => simp [intOf]; omega
    · have HB := Lib.hid HI2.out.bel
      clear HI2
      go_wp2_with fail
      refine (word_from s hs HB.out (HT.out.below HB.out)).mono ?_
      rintro e w3 ⟨rfl, hb3⟩
      have HB3 := Lib.hid hb3
      clear hb3 HB
      go_wp2_with fail
      refine (rword_from s hs HB3.out).mono ?_
      rintro e w4 ⟨rfl, hb4⟩
      have HB4 := Lib.hid hb4
      clear hb4 HB3
      go_wp2_with fail
      refine (name_from s HB4.out (HT.out.below HB4.out)).mono ?_
      rintro e w5 ⟨rfl, hb5⟩
      have HB5 := Lib.hid hb5
      clear hb5 HB4
      go_wp2_with fail
      refine (rname_from s HB5.out).mono ?_
      rintro e w6 ⟨rfl, hb6⟩
      have HA := Lib.hid (awake_from hb6 (HT.out.below hb6))
      clear hb6 HB5
      go_wp2_with fail
      refine HA.out.mono ?_
      rintro e w7 ⟨rfl, hb7⟩
      go_wp2_with fail
      go_ret
      exact ⟨rfl, hb7⟩
end Go.Proofs.YtlbmamcchomecaaDoor
