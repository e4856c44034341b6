/-
  Appended frames are found again, also if their end is torn off (plain). Condition: every body has at most 2^20 bytes.
-/
import Derived.Test.YtfmjlkgbaanlhaaFrScanPlain
import Derived.Test.YtfmjlkgbaanlhaaFrDamPlain
namespace Go.Proofs.Ytfmjlkgbaanlhaa
open Go.RowKit
set_option linter.unusedVariables false
set_option linter.unusedSimpArgs false

theorem frameF_take4 (body rest : List UInt8) : (frameF body ++ rest).take 4 = be4 body.length := by
  rw [frameF, List.append_assoc]; exact List.take_left' (be4_length _)
theorem frameF_drop4 (body rest : List UInt8) : (frameF body ++ rest).drop 4 = be4 (sumF (be4 body.length ++ body)) ++ (body ++ rest) := by
  rw [frameF, List.append_assoc, List.drop_left' (be4_length _), List.append_assoc]
theorem frameF_drop8 (body rest : List UInt8) : (frameF body ++ rest).drop 8 = body ++ rest := by
  rw [show (8 : Nat) = 4 + 4 from rfl, ← List.drop_drop, frameF_drop4]; exact List.drop_left' (be4_length _)
theorem beNum_frameF (body rest : List UInt8) (h : body.length ≤ 1048576) : beNum (frameF body ++ rest) = body.length := by
  rw [frameF, List.append_assoc]; exact beNum_be4 _ (by omega) _
/-- a whole frame is read -/
theorem nextF_frame (P body R : List UInt8) (h : body.length ≤ 1048576) : nextF (P ++ (frameF body ++ R)) (P.length : Int) = (body, ((P.length + (frameF body).length : Nat) : Int), 0) := by
  have hl : (frameF body ++ R).length = body.length + 8 + R.length := by rw [List.length_append, frameF_length]
  rw [nextF, if_neg (by rw [List.length_append]; omega), Int.toNat_natCast, List.drop_left]
  simp only [hl, beNum_frameF body R h, frameF_take4, frameF_drop4, frameF_drop8]
  rw [if_neg (by omega), if_neg (by omega), if_neg (by omega), List.take_left, beNum_be4 _ (sumF_lt _), if_neg (fun h => h rfl), frameF_length]
  refine Prod.ext rfl (Prod.ext ?_ rfl)
  simp only
  omega
/-- a torn frame is not intact -/
theorem nextF_torn (P body f : List UInt8) (h : body.length ≤ 1048576) (j : Nat) (hf : f = (frameF body).take j) (hj : j < (frameF body).length) : (nextF (P ++ f) (P.length : Int)).2.2 ≠ 0 := by
  have hlj : f.length = j := by rw [hf, List.length_take]; omega
  rw [nextF, if_neg (by rw [List.length_append]; omega), Int.toNat_natCast, List.drop_left]
  by_cases h8 : f.length < 8
  · simp only [if_pos h8]; decide
  · have hb : beNum f = body.length := by
      have := beNum_frameF body [] h
      rw [List.append_nil] at this
      rw [← this, hf]
      rw [hlj] at h8
      simp only [beNum, List.getD, List.getElem?_take]
      rw [if_pos (by omega), if_pos (by omega), if_pos (by omega), if_pos (by omega)]
    rw [frameF_length] at hj
    simp only [if_neg h8, hb]
    rw [if_neg (by omega), if_pos (by omega)]
    decide

/-- the frames of bodies -/
def framesF (l : List (List UInt8)) : List UInt8 := l.flatMap frameF
theorem framesF_snoc (l : List (List UInt8)) (b : List UInt8) : framesF (l ++ [b]) = framesF l ++ frameF b := by simp [framesF]
theorem framesF_append (l r : List (List UInt8)) : framesF (l ++ r) = framesF l ++ framesF r := by simp [framesF]
/-- the offset after the first i frames -/
def endF (l : List (List UInt8)) (i : Nat) : Nat := (framesF (l.take i)).length
theorem endF_succ (l : List (List UInt8)) (i : Nat) (h : i < l.length) : endF l (i + 1) = endF l i + (l[i].length + 8) := by
  rw [endF, List.take_succ_eq_append_getElem h, framesF_snoc, List.length_append, frameF_length]; rfl
theorem endF_mono (l : List (List UInt8)) {i j : Nat} (h : i ≤ j) : endF l i ≤ endF l j := by
  have e : l.take i = (l.take j).take i := by rw [List.take_take, Nat.min_eq_left h]
  have e2 : l.take j = (l.take j).take i ++ (l.take j).drop i := (List.take_append_drop i _).symm
  unfold endF
  rw [e]
  conv => rhs; rw [e2]
  rw [framesF_append, List.length_append]
  omega
theorem framesF_split (l : List (List UInt8)) (i : Nat) (h : i < l.length) : framesF l = framesF (l.take i) ++ (frameF l[i] ++ framesF (l.drop (i + 1))) := by
  have e : l = l.take i ++ ([l[i]] ++ l.drop (i + 1)) := by simp
  conv => lhs; rw [e]
  rw [framesF_append, framesF_append]
  simp [framesF]
theorem endF_all (l : List (List UInt8)) : endF l l.length = (framesF l).length := by rw [endF, List.take_length]
/-- the frames that lie within the first k bytes -/
theorem steps_within (l : List (List UInt8)) (k : Nat) (hb : ∀ b ∈ l, b.length ≤ 1048576) : ∀ i, i ≤ l.length → endF l i ≤ k → steps ((framesF l).take k) i = some (l.take i, endF l i)
  | 0, _, _ => rfl
  | i + 1, hi, hk => by
    have he := endF_succ l i (by omega)
    have ih := steps_within l k hb i (by omega) (by omega)
    have hs := framesF_split l i (by omega)
    have hlen : endF l i = (framesF (l.take i)).length := rfl
    have e : (framesF l).take k = framesF (l.take i) ++ (frameF (l[i]'(by omega)) ++ (framesF (l.drop (i + 1))).take (k - endF l (i + 1))) := by
      have a1 : (framesF (l.take i)).take k = framesF (l.take i) := List.take_of_length_le (by omega)
      have a2 : (frameF (l[i]'(by omega))).take (k - (framesF (l.take i)).length) = frameF (l[i]'(by omega)) := List.take_of_length_le (by rw [frameF_length]; omega)
      rw [hs, List.take_append, List.take_append, a1, a2, frameF_length]
      congr 3
      omega
    have hn := nextF_frame (framesF (l.take i)) (l[i]'(by omega)) ((framesF (l.drop (i + 1))).take (k - endF l (i + 1))) (hb _ (List.getElem_mem _))
    rw [← e, ← hlen] at hn
    have hst := steps_succ _ i _ _ ih (by rw [hn])
    rw [hst, hn]
    simp only [Int.toNat_natCast]
    rw [List.take_succ_eq_append_getElem (by omega), frameF_length, he]
/-- W frames lie within the first k bytes, and no more -/
theorem scanned_within (l : List (List UInt8)) (k W : Nat) (hb : ∀ b ∈ l, b.length ≤ 1048576) (hk : k ≤ (framesF l).length) (hW : W ≤ l.length) (h1 : endF l W ≤ k) (h2 : W < l.length → k < endF l (W + 1)) :
    Scanned ((framesF l).take k) (l.take W) (endF l W) := by
  refine ⟨⟨W, steps_within l k hb W hW h1⟩, ?_⟩
  by_cases hl : W < l.length
  · have he := endF_succ l W hl
    have h3 := h2 hl
    have hs := framesF_split l W hl
    have hlen : endF l W = (framesF (l.take W)).length := rfl
    have e : (framesF l).take k = framesF (l.take W) ++ (frameF l[W]).take (k - endF l W) := by
      have a1 : (framesF (l.take W)).take k = framesF (l.take W) := List.take_of_length_le (by omega)
      rw [hs, List.take_append, List.take_append, a1, ← hlen]
      rw [show k - endF l W - (frameF l[W]).length = 0 from by rw [frameF_length]; omega]
      simp
    have ht := nextF_torn (framesF (l.take W)) l[W] _ (hb _ (List.getElem_mem _)) (k - endF l W) rfl (by rw [frameF_length]; omega)
    rw [← e, ← hlen] at ht
    exact ht
  · obtain rfl : W = l.length := by omega
    rw [endF_all] at h1 ⊢
    obtain rfl : k = (framesF l).length := by omega
    rw [List.take_length, nextF, if_neg (by omega)]
    simp only [Int.toNat_natCast, List.drop_length, List.length_nil]
    rw [if_pos (by omega)]
    decide

/-- how the law counts: the frames that end at k or before -/
def CountTo (l : List (List UInt8)) (k j W E : Nat) : Prop := W ≤ j ∧ E = endF l W ∧ E ≤ k ∧ (W < j → k < endF l (W + 1))
theorem CountTo.zero (l : List (List UInt8)) (k : Nat) : CountTo l k 0 0 0 := ⟨Nat.le_refl _, rfl, Nat.zero_le _, fun h => absurd h (by omega)⟩
theorem CountTo.yes {l : List (List UInt8)} {k j W E : Nat} (h : CountTo l k j W E) (he : endF l (j + 1) ≤ k) : CountTo l k (j + 1) (W + 1) (endF l (j + 1)) := by
  obtain ⟨h1, h2, h3, h4⟩ := h
  have hW : W = j := by
    rcases Nat.lt_or_ge W j with hlt | hge
    · have := h4 hlt
      have := endF_mono l (show W + 1 ≤ j + 1 by omega)
      omega
    · omega
  subst hW
  exact ⟨Nat.le_refl _, rfl, he, fun h => absurd h (by omega)⟩
theorem CountTo.no {l : List (List UInt8)} {k j W E : Nat} (h : CountTo l k j W E) (he : k < endF l (j + 1)) : CountTo l k (j + 1) W E := by
  obtain ⟨h1, h2, h3, h4⟩ := h
  refine ⟨by omega, h2, h3, fun _ => ?_⟩
  rcases Nat.lt_or_ge W j with hlt | hge
  · exact h4 hlt
  · obtain rfl : W = j := by omega
    exact he
end Go.Proofs.Ytfmjlkgbaanlhaa
