/-
  The reference's Word.
-/
import Derived.Test.YtlbmamcchomecaaDoorLrWord2
namespace Go.Proofs.YtlbmamcchomecaaDoor
open Go.RowKit
set_option linter.unusedVariables false
set_option linter.unusedSimpArgs false

structure WInv (w : World) (v : Value) (wr : World) : Prop where
  own : wr.ownsRow w.heap.size 9 1 v 87 (keywords.map kwS)
  bel : Below w.heap.size w wr
theorem WInv.below {w wr w' : World} {v : Value} (h : WInv w v wr) (hb : Below wr.heap.size wr w') : WInv w v w' :=
  ⟨h.own.kept (w' := w') (row := none) ⟨hb.os, hb.tape, hb.output, hb.size, fun i hi _ => hb.block i hi⟩ (by rcases v.ownBlock with _ | g; exact .inl rfl; exact .inr (by simp)), h.bel.trans (hb.mono h.bel.size)⟩
theorem WInv.drew {w wr : World} {v : Value} (h : WInv w v wr) : WInv w v wr.drew := ⟨h.own, h.bel.drew⟩
theorem WInv.drewN {w wr : World} {v : Value} (h : WInv w v wr) (n : Nat) : WInv w v (wr.drewN n) := ⟨h.own, ⟨h.bel.os, h.bel.tape, h.bel.output, h.bel.size, h.bel.block⟩⟩
theorem WInv.cell {w wr : World} {g cap : Nat} (h : WInv w (.slice (some ⟨g, 0, none⟩) 87 cap) wr) {k : Nat} (hk : k < 87) : wr.cell? ⟨g, k, none⟩ = some (.string (kwAt k)) := by
  have e1 : (⟨g, 0, none⟩ : Addr).add k = ⟨g, k, none⟩ := by unfold Addr.add; split <;> simp_all
  rw [← e1]
  refine h.own.cells (g := g) rfl k _ ?_
  rw [List.getElem?_map, List.getElem?_eq_getElem (by rw [kw_length]; exact hk)]
  simp [kwS, kwAt, List.getD_eq_getElem?_getD, List.getElem?_eq_getElem (show k < keywords.length by rw [kw_length]; exact hk)]
def WdRel (w : World) (v : Value) (s : ByteArray) (i : Value) (wr : World) : Prop := ∃ k : Nat, k ≤ 87 ∧ i = .int .i64 k ∧ WInv w v wr ∧ ∀ j, j < k → keywords.getD j [] ≠ upL s.data.toList
theorem not_word {l : List UInt8} (h : ∀ j, j < 87 → keywords.getD j [] ≠ upL l) : isWord l = false := by
  unfold isWord
  rw [Bool.eq_false_iff]
  intro hc
  have hm : upL l ∈ keywords := by simpa using hc
  obtain ⟨j, hj, e⟩ := List.mem_iff_getElem.1 hm
  refine h j (by rw [kw_length] at hj; exact hj) ?_
  rw [← e, List.getD_eq_getElem?_getD, List.getElem?_eq_getElem hj]
  rfl
theorem yes_word {l : List UInt8} {k : Nat} (hk : k < 87) (h : keywords.getD k [] = upL l) : isWord l = true := by
  unfold isWord
  have : keywords.getD k [] ∈ keywords := by
    rw [List.getD_eq_getElem?_getD, List.getElem?_eq_getElem (show k < keywords.length by rw [kw_length]; exact hk)]
    exact List.getElem_mem _
  rw [← h]
  simpa using this
def S3 (w : World) (v : Value) (g k : Nat) (w' : World) : Prop := w'.cell? ⟨g, k, none⟩ = some (.string (kwAt k)) ∧ WInv w v w'
set_option maxRecDepth 100000 in
set_option maxHeartbeats 2000000 in
theorem word_ref (s : ByteArray) (w : World) (hs : s.size ≤ 140737488351232) : Calls Tryd.prog 15 #[.string s] w (WordPost w s) := by
  go_enter Tryd.func15, Tryd.ntmps15
  go_wp2_with fail
  refine (words_ref w).mono ?_
  rintro e w1 ⟨v, rfl, ho, hb⟩
  have hI : WInv w v w1 := ⟨ho, hb⟩
  obtain ⟨g, cap, rfl, _, _⟩ := World.ownsRow.form ho (by omega)
  have HI := Lib.hid hI
  clear ho hb hI
  go_wp2_with fail
  go_loopw [4] (fun i wr => WdRel w (.slice (some ⟨g, 0, none⟩) 87 cap) s i wr) (fun i _ => 87 - (intOf i).toNat)
  case atStart => exact ⟨0, by omega, rfl, HI.out, fun j hj => absurd hj (by omega)⟩
  case round =>
    obtain ⟨k, hk, rfl, hI, hno⟩ := hrel
    have HN := Lib.hid hno
    clear hno HI
    by_cases hlt : k < 87
    · have hc := hI.cell hlt
      have HII := Lib.hid hI
      clear hI
      have k0 : (0 : Int) ≤ (k : Int) := by omega
      have k1 : (k : Int) < 87 := by omega
      go_wp2_with fail
      go_region_held3 (fun w' => w'.cell? ⟨g, k, none⟩ = some (.string (kwAt k)) ∧ WInv w (.slice (some ⟨g, 0, none⟩) 87 cap) w')
        (first | exact ⟨hc, HII.out.drew⟩ | exact ⟨WInv.cell (HII.out.drew.below hbb) hlt, HII.out.drew.below hbb⟩ | go_keep)
        (first | (go_at_call 29; refine (upper_ref s _ hs).mono ?_; rintro e w' ⟨rfl, hbb⟩))
      have HI2 := Lib.hid (HII.out.drew.below hbb)
      have hkl : (kwAt k).toList = keywords.getD k [] := by rw [Lib.toList_data]; simp [kwAt]
      by_cases he : keywords.getD k [] = upL s.data.toList
      · have hb1 : ((kwAt k).toList == upL s.data.toList) = true := beq_iff_eq.2 (hkl.trans he)
        have HW := Lib.hid (yes_word hlt he)
        rw [hb1]
        clear hkl he HII hbb HN hb1
        go_wp2_with fail
        go_ret
        exact ⟨by rw [HW.out]; rfl, HI2.out.bel⟩
      · have hb1 : ((kwAt k).toList == upL s.data.toList) = false := beq_eq_false_iff_ne.2 (fun e => he (hkl.symm.trans e))
        have HE := Lib.hid he
        rw [hb1]
        clear hkl he HII hbb hb1
        go_wp2_with fail
        go_roundw
        case rel =>
          refine ⟨k + 1, by omega, by go_num, HI2.out, fun j hj => ?_⟩
          by_cases e : j = k
          · subst e; exact HE.out
          · exact HN.out j (by omega)
        case measure => simp [intOf]; omega
    · obtain rfl : k = 87 := by omega
      have HW := Lib.hid (not_word HN.out)
      have HI2 := Lib.hid hI.bel
      clear hI HN
      go_wp2_with fail
      go_ret
      exact ⟨by rw [HW.out]; rfl, HI2.out⟩
theorem word_ref' (l : List UInt8) (w : World) (hs : l.length ≤ 140737488351232) :
    Calls Tryd.prog 15 #[.string ⟨l.toArray⟩] w fun e w' => e = .returned (.bool (isWord l)) ∧ Below w.heap.size w w' :=
  (word_ref ⟨l.toArray⟩ w (by rw [mk_size]; exact hs)).mono fun _ _ h => by unfold WordPost at h; simpa using h
theorem upper_ref' (l : List UInt8) (w : World) (hs : l.length ≤ 140737488351232) :
    Calls Tryd.prog 29 #[.string ⟨l.toArray⟩] w fun e w' => e = .returned (.string ⟨(upL l).toArray⟩) ∧ Below w.heap.size w w' :=
  (upper_ref ⟨l.toArray⟩ w (by rw [mk_size]; exact hs)).mono fun _ _ h => by unfold StrPost at h; simpa using h
end Go.Proofs.YtlbmamcchomecaaDoor
