/-
  A text between quotes: the plain law of strings.ReplaceAll there.
-/
import Derived.Test.YtlimlmjljjmcpaaGreatDoorLxWord
import Derived.Lib.Replace
import Derived.Lib.ItoaNum
import Derived.Lib.Join
namespace Go.Proofs.YtlimlmjljjmcpaaGreatDoor
open Go.RowKit
set_option linter.unusedVariables false
set_option linter.unusedSimpArgs false

def quoteC (c : UInt8) : List UInt8 := if c = 39 then [39, 39] else [c]
def quoteBody (l : List UInt8) : List UInt8 := l.flatMap quoteC
def quoteL (l : List UInt8) : List UInt8 := 39 :: (quoteBody l ++ [39])
theorem idx_split : ∀ s : List UInt8, (Lib.index s [39] = -1 ∧ ∀ c ∈ s, c ≠ 39) ∨ ∃ i : Nat, Lib.index s [39] = i ∧ s = s.take i ++ 39 :: s.drop (i + 1) ∧ ∀ c ∈ s.take i, c ≠ 39
  | [] => .inl ⟨by simp [Lib.index], fun c hc => by cases hc⟩
  | b :: l => by
    by_cases hb : b = 39
    · subst hb
      exact .inr ⟨0, by simp [Lib.index], by simp, fun c hc => by simp at hc⟩
    · have hp : ([39] : List UInt8).isPrefixOf (b :: l) = false := by simp [List.isPrefixOf]; exact fun e => hb e.symm
      rcases idx_split l with ⟨h1, h2⟩ | ⟨i, h1, h2, h3⟩
      · refine .inl ⟨by simp [Lib.index, hp, h1], fun c hc => ?_⟩
        rcases List.mem_cons.1 hc with rfl | hc
        · exact hb
        · exact h2 c hc
      · refine .inr ⟨i + 1, ?_, ?_, fun c hc => ?_⟩
        · have : ¬ (Lib.index l [39] == -1) = true := by rw [h1]; simp <;> omega
          simp only [Lib.index, hp, Bool.false_eq_true, if_false]
          rw [if_neg this, h1]
          omega
        · simp only [List.take_succ_cons, List.drop_succ_cons, List.cons_append]
          rw [← h2]
        · rw [List.take_succ_cons] at hc
          rcases List.mem_cons.1 hc with rfl | hc
          · exact hb
          · exact h3 c hc
theorem quote_same {l : List UInt8} (h : ∀ c ∈ l, c ≠ 39) : quoteBody l = l := by
  induction l with
  | nil => rfl
  | cons c l ih =>
    have hq : quoteBody (c :: l) = quoteC c ++ quoteBody l := by simp [quoteBody]
    rw [hq, ih (fun x hx => h x (List.mem_cons_of_mem _ hx))]
    unfold quoteC
    rw [if_neg (h c (by simp))]
    rfl
theorem replaceK_quote (n : Nat) : ∀ s : List UInt8, s.length ≤ n → Lib.replaceK [39] [39, 39] (Lib.count s [39]) s = quoteBody s := by
  induction n with
  | zero =>
    intro s h
    obtain rfl : s = [] := List.eq_nil_of_length_eq_zero (by omega)
    rw [Lib.count_miss (by simp [Lib.index])]
    rfl
  | succ n ih =>
    intro s h
    rcases idx_split s with ⟨h1, h2⟩ | ⟨i, h1, h2, h3⟩
    · rw [Lib.count_miss h1, quote_same h2]; rfl
    · have hl : (s.drop (i + 1)).length ≤ n := by
        have := congrArg List.length h2
        simp at this ⊢
        omega
      rw [Lib.count_hit (by simp) h1, Nat.add_comm, Lib.replaceK_hit _ _ _ _ i h1]
      have e1 : i + ([39] : List UInt8).length = i + 1 := rfl
      rw [e1, ih _ hl]
      conv => rhs; rw [h2]
      have hq : quoteBody (s.take i ++ 39 :: s.drop (i + 1)) = quoteBody (s.take i) ++ (quoteC 39 ++ quoteBody (s.drop (i + 1))) := by simp [quoteBody]
      rw [hq, quote_same h3]
      simp [quoteC]
theorem replace_quote (s : List UInt8) : Lib.replaceAll s [39] [39, 39] = quoteBody s := by
  unfold Lib.replaceAll Lib.replace
  rw [if_neg (by decide)]
  have : Lib.replaceNum s [39] (-1) = Lib.count s [39] := by unfold Lib.replaceNum; rw [if_pos (.inl (by decide))]
  rw [this]
  exact replaceK_quote s.length s (Nat.le_refl _)

theorem quote_len (x : List UInt8) : (quoteBody x).length ≤ 2 * x.length := by
  induction x with
  | nil => simp [quoteBody]
  | cons c l ih =>
    have hq : quoteBody (c :: l) = quoteC c ++ quoteBody l := by simp [quoteBody]
    rw [hq, List.length_append]
    have : (quoteC c).length ≤ 2 := by unfold quoteC; split <;> simp
    simp only [List.length_cons]
    omega
theorem cat3 (y : List UInt8) : (ByteArray.mk #[39] ++ ByteArray.mk y.toArray ++ ByteArray.mk #[39]) = ⟨(39 :: (y ++ [39])).toArray⟩ := by
  apply bytes_ext
  simp [ByteArray.data_append]
end Go.Proofs.YtlimlmjljjmcpaaGreatDoor
