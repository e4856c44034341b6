/-
  Tokens are found again in their text: the plain law.
-/
import Derived.Test.YtlbmamcchomecaaDoorLxPos
import Derived.Lib.Replace
import Derived.Lib.ItoaNum
import Derived.Lib.Join
namespace Go.Proofs.YtlbmamcchomecaaDoor
open Go.RowKit
set_option linter.unusedVariables false
set_option linter.unusedSimpArgs false

def quoteC (c : UInt8) : List UInt8 := if c = 39 then [39, 39] else [c]
def quoteBody (l : List UInt8) : List UInt8 := l.flatMap quoteC
def quoteL (l : List UInt8) : List UInt8 := 39 :: (quoteBody l ++ [39])
/-- what a token is written as -/
def piece (t : Tok) : List UInt8 := if t.kind = 3 then Lib.decDigits t.int else if t.kind = 4 then quoteL t.text else t.text
def textF (T : List Tok) : List UInt8 := Lib.join (T.map piece) [32]

/-- a token that the lexer can return -/
inductive OkTok : Tok → Prop
  | name {l a} (h0 : l ≠ []) (h1 : ∀ h : 0 < l.length, letterB l[0].toNat = true) (h2 : ∀ c ∈ l, wordB c.toNat = true) (h3 : isWord l = false) (h4 : l.any (fun c => upperB c.toNat) = false) (h5 : l.length ≤ 24) : OkTok ⟨1, l, 0, a⟩
  | word {l a} (h : l ∈ keywords) : OkTok ⟨2, l, 0, a⟩
  | num {n a} (h : n ≤ 1125899906842624) : OkTok ⟨3, [], n, a⟩
  | text {l a} (h : ∀ c ∈ l, badB c.toNat = false) (h2 : l.length ≤ 200) : OkTok ⟨4, l, 0, a⟩
  | two {l a} (h : l ∈ twos) : OkTok ⟨5, l, 0, a⟩
  | one {c a} (h : c ∈ ones) : OkTok ⟨5, [c], 0, a⟩

theorem textGo_ok (a : Nat) (r : List UInt8) (i : Nat) (out : List UInt8) {t : Tok} {e : Nat} (h : textGo a r i out = .tok t e) (ho : ∀ c ∈ out, badB c.toNat = false) : OkTok t := by
  have hend : ∀ (i : Nat) (out : List UInt8), textEnd a i out = .tok t e → (∀ c ∈ out, badB c.toNat = false) → OkTok t := by
    intro i out h ho
    unfold textEnd at h
    split at h
    · cases h
    · cases h; exact .text ho (by omega)
  induction r, i, out using textGo.induct with
  | case1 i out => simp [textGo] at h
  | case2 i out => simp [textGo] at h; exact hend _ _ h ho
  | case3 i out r ih =>
    simp [textGo] at h
    refine ih h (fun c hc => ?_)
    rcases List.mem_append.1 hc with h1 | h1
    · exact ho c h1
    · obtain rfl := List.mem_singleton.1 h1; decide
  | case4 i out d r hd => simp [textGo, hd] at h; exact hend _ _ h ho
  | case5 i out c r hc hb => unfold textGo at h; rw [if_neg hc, if_pos hb] at h; cases h
  | case6 i out c r hc hb ih =>
    unfold textGo at h
    rw [if_neg hc, if_neg hb] at h
    refine ih h (fun x hx => ?_)
    rcases List.mem_append.1 hx with h1 | h1
    · exact ho x h1
    · obtain rfl := List.mem_singleton.1 h1; simpa using hb
theorem scanAt_ok {l : List UInt8} {a : Nat} (ha : a < l.length) {t : Tok} {e : Nat} (h : scanAt l a l[a] = .tok t e) : OkTok t := by
  unfold scanAt at h
  split at h
  · rename_i hl
    have hrun : runOf wordB l a = l[a] :: (l.drop (a + 1)).takeWhile fun c => wordB c.toNat := by
      unfold runOf
      rw [List.drop_eq_getElem_cons ha, List.takeWhile_cons, if_pos (by simp [wordB, hl])]
    unfold wordScan at h
    split at h
    · rename_i hw
      cases h
      exact .word (by unfold isWord at hw; simpa using hw)
    · rename_i hw
      split at h
      · cases h
      · rename_i hu
        split at h
        · cases h
        · rename_i h24
          cases h
          refine .name (by rw [hrun]; simp) (fun h0 => ?_) (fun c hc => runOf_cls hc) (by simpa using hw) (by simpa using hu) (by omega)
          simp only [hrun, List.getElem_cons_zero]
          exact hl
  · split at h
    · unfold numberScan at h
      split at h
      · cases h
      · split at h
        · cases h
        · cases h; exact .num (by omega)
    · split at h
      · exact textGo_ok _ _ _ _ h (fun c hc => by cases hc)
      · unfold symScan at h
        split at h
        · rename_i ht
          cases h; exact .two (by simpa using ht)
        · split at h
          · split at h
            · rename_i hc
              cases h; exact .one (by simpa using hc)
            · cases h
          · cases h
theorem Lexes.ok {l : List UInt8} {a : Nat} {acc : List Tok} {r : Res} (h : Lexes l a acc r) : ∀ T, r = .toks T → (∀ t ∈ acc, OkTok t) → ∀ t ∈ T, OkTok t := by
  induction h with
  | fin h => intro T e h1; cases e; exact h1
  | skip h hb _ ih => intro T e h1; exact ih T e h1
  | err h hb hs => intro T e; cases e
  | tok h hb hs _ ih =>
    intro T e h1
    refine ih T e (fun t ht => ?_)
    rcases List.mem_append.1 ht with h2 | h2
    · exact h1 t h2
    · obtain rfl := List.mem_singleton.1 h2; exact scanAt_ok h hs

/-- the rest behind a token's piece: nothing, or a space -/
def Rest (r : List UInt8) : Prop := r = [] ∨ ∃ r', r = 32 :: r'
theorem takeWhile_piece {p : UInt8 → Bool} {x r : List UInt8} (hx : ∀ c ∈ x, p c = true) (hr : Rest r) (h32 : p 32 = false) : (x ++ r).takeWhile p = x := by
  rw [List.takeWhile_append_of_pos hx]
  rcases hr with rfl | ⟨r', rfl⟩
  · simp
  · rw [List.takeWhile_cons, if_neg (by rw [h32]; decide)]; simp
section
variable {l x r : List UInt8} {a : Nat}
theorem run_piece {cls : Nat → Bool} (hd : l.drop a = x ++ r) (hx : ∀ c ∈ x, cls c.toNat = true) (hr : Rest r) (h32 : cls 32 = false) : runOf cls l a = x ∧ runEnd cls l a = a + x.length := by
  have : runOf cls l a = x := by unfold runOf; rw [hd]; exact takeWhile_piece hx hr h32
  refine ⟨this, ?_⟩
  have h2 := runOf_length cls l a
  rw [this] at h2
  have := runEnd_ge cls l a
  omega
end
theorem kw_facts : keywords.all (fun l => isWord l && (decide (upL l = l) && (l.all (fun c => wordB c.toNat) && (match l.head? with | some c => letterB c.toNat | none => false)))) = true := by decide +kernel
theorem two_facts : twos.all (fun l => match l.head? with | some c => !letterB c.toNat && (!digitB c.toNat && (decide (c ≠ 39) && !blankB c.toNat)) | none => false) = true := by decide +kernel
theorem one_facts : ones.all (fun c => !letterB c.toNat && (!digitB c.toNat && (decide (c ≠ 39) && (!blankB c.toNat && (!twos.contains [c] && !twos.contains [c, 32]))))) = true := by decide +kernel
theorem get_drop {l : List UInt8} {a : Nat} {c : UInt8} {r : List UInt8} (h : l.drop a = c :: r) : ∃ ha : a < l.length, l[a] = c := by
  have ha : a < l.length := by
    rcases Nat.lt_or_ge a l.length with h1 | h1
    · exact h1
    · rw [List.drop_eq_nil_of_le h1] at h; cases h
  refine ⟨ha, ?_⟩
  rw [List.drop_eq_getElem_cons ha] at h
  injection h
theorem letter_noblank {n : Nat} (h : letterB n = true) : blankB n = false := by unfold letterB at h; unfold blankB; simp at h ⊢; omega
theorem digit_noblank {n : Nat} (h : digitB n = true) : blankB n = false ∧ letterB n = false := by unfold digitB at h; unfold blankB letterB; simp at h ⊢; omega
end Go.Proofs.YtlbmamcchomecaaDoor
