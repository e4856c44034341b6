/-
  What a text is lexed to: plain functions on lists of bytes, and the relation 'Lexes'; no program in sight.
-/
import Derived.Below
namespace Go.Proofs.YtlimlmjljjmcpaaGreatDoor
set_option linter.unusedVariables false
set_option linter.unusedSimpArgs false

def letterB (n : Nat) : Bool := decide (97 ≤ n) && decide (n ≤ 122) || (decide (65 ≤ n) && decide (n ≤ 90) || decide (n = 95))
def digitB (n : Nat) : Bool := decide (48 ≤ n) && decide (n ≤ 57)
def blankB (n : Nat) : Bool := decide (n = 32) || (decide (n = 9) || decide (n = 10))
def wordB (n : Nat) : Bool := letterB n || digitB n
def upperB (n : Nat) : Bool := decide (65 ≤ n) && decide (n ≤ 90)
def badB (n : Nat) : Bool := decide (n < 32) || decide (126 < n)

/-- where the bytes of a class end -/
def runEnd (cls : Nat → Bool) (l : List UInt8) (a : Nat) : Nat := a + ((l.drop a).takeWhile fun c => cls c.toNat).length
theorem runEnd_yes {cls : Nat → Bool} {l : List UInt8} {a : Nat} (h : a < l.length) (hc : cls l[a].toNat = true) : runEnd cls l a = runEnd cls l (a + 1) := by
  unfold runEnd
  rw [List.drop_eq_getElem_cons h, List.takeWhile_cons, if_pos hc, List.length_cons]
  omega
theorem runEnd_no {cls : Nat → Bool} {l : List UInt8} {a : Nat} (h : a < l.length) (hc : cls l[a].toNat = false) : runEnd cls l a = a := by
  unfold runEnd
  rw [List.drop_eq_getElem_cons h, List.takeWhile_cons, if_neg (by rw [hc]; decide)]
  simp
theorem runEnd_end {cls : Nat → Bool} {l : List UInt8} {a : Nat} (h : l.length ≤ a) : runEnd cls l a = a := by
  unfold runEnd
  rw [List.drop_eq_nil_of_le h]
  simp
theorem runEnd_ge (cls : Nat → Bool) (l : List UInt8) (a : Nat) : a ≤ runEnd cls l a := Nat.le_add_right _ _
theorem runEnd_le (cls : Nat → Bool) (l : List UInt8) (a : Nat) (h : a ≤ l.length) : runEnd cls l a ≤ l.length := by
  unfold runEnd
  have := (List.takeWhile_sublist (fun c : UInt8 => cls c.toNat) (l := l.drop a)).length_le
  simp at this
  omega
theorem runEnd_lt {cls : Nat → Bool} {l : List UInt8} {a : Nat} (h : a < l.length) (hc : cls l[a].toNat = true) : a < runEnd cls l a := by
  rw [runEnd_yes h hc]
  have := runEnd_ge cls l (a + 1)
  omega
/-- the bytes of a class from a on -/
def runOf (cls : Nat → Bool) (l : List UInt8) (a : Nat) : List UInt8 := (l.drop a).takeWhile fun c => cls c.toNat
theorem runOf_length (cls : Nat → Bool) (l : List UInt8) (a : Nat) : (runOf cls l a).length = runEnd cls l a - a := by unfold runOf runEnd; omega
theorem runOf_cls {cls : Nat → Bool} {l : List UInt8} {a : Nat} {c : UInt8} (h : c ∈ runOf cls l a) : cls c.toNat = true := by
  unfold runOf at h
  have := List.all_takeWhile (p := fun c : UInt8 => cls c.toNat) (l := l.drop a)
  exact List.all_eq_true.1 this c h
theorem take_takeWhile {α : Type} (p : α → Bool) (l : List α) : l.take (l.takeWhile p).length = l.takeWhile p := by
  induction l with
  | nil => rfl
  | cons x r ih =>
    rw [List.takeWhile_cons]
    split
    · simp [ih]
    · rfl
theorem runOf_take (cls : Nat → Bool) (l : List UInt8) (a : Nat) : runOf cls l a = (l.drop a).take (runEnd cls l a - a) := by
  rw [← runOf_length]; unfold runOf; rw [take_takeWhile]

structure Tok where
  kind : Nat
  text : List UInt8
  int : Nat
  at_ : Nat
deriving DecidableEq

/-- what the scan of one token comes to: a token and where it ends, or an error's code -/
inductive Scan where
  | err (code : Nat)
  | tok (t : Tok) (fin : Nat)

def upC (c : UInt8) : UInt8 := if 97 ≤ c.toNat ∧ c.toNat ≤ 122 then UInt8.ofNat (c.toNat - 32) else c
def upL (l : List UInt8) : List UInt8 := l.map upC
/-- the keywords, in upper case -/
def keywords : List (List UInt8) := [[65, 68, 68], [65, 70, 84, 69, 82], [65, 76, 76], [65, 76, 84, 69, 82], [65, 78, 68], [65, 83], [66, 69, 70, 79, 82, 69], [66, 69, 71, 73, 78], [66, 69, 84, 87, 69, 69, 78], [66, 79, 79, 76], [66, 89], [67, 72, 69, 67, 75], [67, 79, 65, 76, 69, 83, 67, 69], [67, 79, 77, 77, 73, 84], [67, 79, 78, 84, 65, 73, 78, 83], [67, 79, 85, 78, 84], [67, 82, 69, 65, 84, 69], [68, 69, 70, 65, 85, 76, 84], [68, 69, 76, 69, 84, 69], [68, 69, 83, 67], [68, 73, 83, 84, 73, 78, 67, 84], [68, 82, 79, 80], [68, 85, 82, 73, 78, 71], [69, 81, 85, 65, 76, 83], [69, 88, 67, 69, 80, 84], [70, 65, 76, 83, 69], [70, 73, 78, 73, 83, 72, 69, 68, 66, 89], [70, 73, 78, 73, 83, 72, 69, 83], [70, 79, 82, 69, 73, 71, 78], [70, 79, 82, 69, 86, 69, 82], [70, 82, 79, 77], [71, 82, 79, 85, 80], [72, 79, 76, 68], [73, 70], [73, 78, 83, 69, 82, 84], [73, 78, 84], [73, 78, 84, 69, 82, 83, 69, 67, 84], [73, 78, 84, 79], [73, 83], [74, 79, 73, 78], [75, 69, 89], [76, 69, 70, 84], [76, 69, 78, 71, 84, 72], [76, 73, 77, 73, 84], [77, 65, 88], [77, 69, 69, 84, 83], [77, 69, 84, 66, 89], [77, 73, 78], [78, 79, 78, 83, 69, 81, 85, 69, 78, 67, 69, 68], [78, 79, 84], [78, 79, 87], [78, 85, 76, 76], [79, 70], [79, 78], [79, 82], [79, 82, 68, 69, 82], [79, 86, 69, 82, 76, 65, 80, 80, 69, 68, 66, 89], [79, 86, 69, 82, 76, 65, 80, 83], [80, 82, 73, 77, 65, 82, 89], [80, 82, 85, 78, 69], [82, 69, 70, 69, 82, 69, 78, 67, 69, 83], [82, 69, 76, 69, 65, 83, 69], [82, 69, 78, 65, 77, 69], [82, 69, 84, 65, 73, 78], [82, 79, 76, 76, 66, 65, 67, 75], [83, 69, 76, 69, 67, 84], [83, 69, 81, 85, 69, 78, 67, 69, 68], [83, 69, 84], [83, 84, 65, 82, 84, 69, 68, 66, 89], [83, 84, 65, 82, 84, 83], [83, 85, 77], [83, 89, 83, 84, 69, 77], [83, 89, 83, 84, 69, 77, 70, 82, 79, 77], [83, 89, 83, 84, 69, 77, 84, 79], [84, 65, 66, 76, 69], [84, 69, 88, 84], [84, 79], [84, 82, 85, 69], [84, 88], [85, 78, 68, 69, 82], [85, 78, 73, 79, 78], [85, 80, 68, 65, 84, 69], [86, 65, 76, 73, 68], [86, 65, 76, 73, 68, 70, 82, 79, 77], [86, 65, 76, 73, 68, 84, 79], [86, 65, 76, 85, 69, 83], [87, 72, 69, 82, 69]]
def isWord (l : List UInt8) : Bool := keywords.contains (upL l)
def wordScan (l : List UInt8) (a : Nat) : Scan :=
  if isWord (runOf wordB l a) then .tok ⟨2, upL (runOf wordB l a), 0, a⟩ (runEnd wordB l a)
  else if (runOf wordB l a).any (fun c => upperB c.toNat) then .err 1
  else if 24 < (runOf wordB l a).length then .err 5
  else .tok ⟨1, runOf wordB l a, 0, a⟩ (runEnd wordB l a)
def numStep (n : Nat) (c : UInt8) : Nat := min (10 * n + (c.toNat - 48)) 1125899906842625
def numVal (l : List UInt8) : Nat := l.foldl numStep 0
def badNum (l : List UInt8) (a : Nat) : Bool :=
  (decide (1 < (runOf digitB l a).length) && decide ((runOf digitB l a).head? = some 48)) || (match l[runEnd digitB l a]? with | some c => letterB c.toNat | none => false)
def numberScan (l : List UInt8) (a : Nat) : Scan :=
  if badNum l a then .err 1
  else if 1125899906842624 < numVal (runOf digitB l a) then .err 6
  else .tok ⟨3, [], numVal (runOf digitB l a), a⟩ (runEnd digitB l a)
def textEnd (a i : Nat) (out : List UInt8) : Scan := if 200 < out.length then .err 5 else .tok ⟨4, out, 0, a⟩ (i + 1)
/-- the rest of a text from place i on, with what has been read -/
def textGo (a : Nat) : List UInt8 → Nat → List UInt8 → Scan
  | [], _, _ => .err 2
  | c :: r, i, out =>
    if c = 39 then
      match r with
      | [] => textEnd a i out
      | d :: r' => if d = 39 then textGo a r' (i + 2) (out ++ [39]) else textEnd a i out
    else if badB c.toNat then .err 1 else textGo a r (i + 1) (out ++ [c])
def textScan (l : List UInt8) (a : Nat) : Scan := textGo a (l.drop (a + 1)) (a + 1) []
def twos : List (List UInt8) := [[60, 62], [60, 61], [62, 61], [124, 124]]
def ones : List UInt8 := [40, 41, 44, 46, 59, 42, 61, 60, 62, 43, 45, 47, 37]
def symScan (l : List UInt8) (a : Nat) : Scan :=
  if twos.contains ((l.drop a).take 2) then .tok ⟨5, (l.drop a).take 2, 0, a⟩ (a + 2)
  else match l[a]? with
    | some c => if ones.contains c then .tok ⟨5, [c], 0, a⟩ (a + 1) else .err 1
    | none => .err 1
def scanAt (l : List UInt8) (a : Nat) (c : UInt8) : Scan :=
  if letterB c.toNat then wordScan l a else if digitB c.toNat then numberScan l a else if c = 39 then textScan l a else symScan l a

/-- what a whole text comes to -/
inductive Res where
  | err (at_ : Nat) (code : Nat)
  | toks (l : List Tok)

inductive Lexes (l : List UInt8) : Nat → List Tok → Res → Prop
  | fin {a acc} (h : l.length ≤ a) : Lexes l a acc (.toks acc)
  | skip {a acc r} (h : a < l.length) (hb : blankB l[a].toNat = true) (k : Lexes l (a + 1) acc r) : Lexes l a acc r
  | err {a acc c} (h : a < l.length) (hb : blankB l[a].toNat = false) (hs : scanAt l a l[a] = .err c) : Lexes l a acc (.err a c)
  | tok {a acc t e r} (h : a < l.length) (hb : blankB l[a].toNat = false) (hs : scanAt l a l[a] = .tok t e) (k : Lexes l e (acc ++ [t]) r) : Lexes l a acc r

theorem Lexes.det {l : List UInt8} {a : Nat} {acc : List Tok} {r r' : Res} (h : Lexes l a acc r) (h' : Lexes l a acc r') : r = r' := by
  induction h generalizing r' with
  | fin h => cases h' with
    | fin => rfl
    | skip h1 => omega
    | err h1 => omega
    | tok h1 => omega
  | skip h hb _ ih => cases h' with
    | fin h1 => omega
    | skip _ _ k => exact ih k
    | err h1 hb1 => rw [hb] at hb1; cases hb1
    | tok h1 hb1 => rw [hb] at hb1; cases hb1
  | err h hb hs => cases h' with
    | fin h1 => omega
    | skip _ hb1 => rw [hb] at hb1; cases hb1
    | err _ _ hs1 => rw [hs] at hs1; cases hs1; rfl
    | tok _ _ hs1 => rw [hs] at hs1; cases hs1
  | tok h hb hs _ ih => cases h' with
    | fin h1 => omega
    | skip _ hb1 => rw [hb] at hb1; cases hb1
    | err _ _ hs1 => rw [hs] at hs1; cases hs1
    | tok _ _ hs1 k => rw [hs] at hs1; cases hs1; exact ih k
theorem Lexes.run {l : List UInt8} {a : Nat} {acc : List Tok} {r : Res} (k : Lexes l (runEnd blankB l a) acc r) : Lexes l a acc r := by
  by_cases h : a < l.length
  · by_cases hb : blankB l[a].toNat = true
    · rw [runEnd_yes h hb] at k
      exact .skip h hb (Lexes.run k)
    · rw [runEnd_no h (by simpa using hb)] at k
      exact k
  · rw [runEnd_end (by omega)] at k
    exact k
termination_by l.length - a
theorem run_not {cls : Nat → Bool} {l : List UInt8} {a : Nat} (h : runEnd cls l a < l.length) : cls l[runEnd cls l a].toNat = false := by
  by_cases h0 : a < l.length
  · by_cases hb : cls l[a].toNat = true
    · have e := runEnd_yes h0 hb
      have := run_not (cls := cls) (l := l) (a := a + 1) (by rw [← e]; exact h)
      simp only [← e] at this
      exact this
    · have e := runEnd_no h0 (by simpa using hb)
      simp only [e]
      simpa using hb
  · rw [runEnd_end (by omega)] at h
    omega
termination_by l.length - a

theorem textGo_end (a : Nat) (r : List UInt8) (i : Nat) (out : List UInt8) {t : Tok} {e : Nat} (h : textGo a r i out = .tok t e) : i < e ∧ e ≤ i + r.length ∧ t.at_ = a := by
  induction r, i, out using textGo.induct with
  | case1 i out => simp [textGo] at h
  | case2 i out => simp [textGo, textEnd] at h; split at h <;> cases h <;> simp
  | case3 i out r ih => simp [textGo] at h; have := ih h; simp at this ⊢; omega
  | case4 i out d r hd => simp [textGo, textEnd, hd] at h; split at h <;> cases h <;> simp
  | case5 i out c r hc hb => unfold textGo at h; rw [if_neg hc, if_pos hb] at h; cases h
  | case6 i out c r hc hb ih => unfold textGo at h; rw [if_neg hc, if_neg hb] at h; have := ih h; simp at this ⊢; omega
theorem scanAt_end {l : List UInt8} {a : Nat} (ha : a < l.length) {t : Tok} {e : Nat} (h : scanAt l a l[a] = .tok t e) : a < e ∧ e ≤ l.length ∧ t.at_ = a := by
  unfold scanAt at h
  split at h
  · rename_i hl
    have h1 := runEnd_lt (cls := wordB) ha (by simp [wordB, hl])
    have h2 := runEnd_le wordB l a (by omega)
    unfold wordScan at h
    split at h
    · cases h; exact ⟨h1, h2, rfl⟩
    · split at h
      · cases h
      · split at h
        · cases h
        · cases h; exact ⟨h1, h2, rfl⟩
  · split at h
    · rename_i hl
      have h1 := runEnd_lt (cls := digitB) ha hl
      have h2 := runEnd_le digitB l a (by omega)
      unfold numberScan at h
      split at h
      · cases h
      · split at h
        · cases h
        · cases h; exact ⟨h1, h2, rfl⟩
    · split at h
      · have := textGo_end _ _ _ _ h
        simp at this
        omega
      · unfold symScan at h
        split at h
        · rename_i ht
          cases h
          refine ⟨by omega, ?_, rfl⟩
          have : ((l.drop a).take 2).length = 2 := by
            simp [twos] at ht
            rcases ht with ht | ht | ht | ht <;> rw [ht] <;> rfl
          simp at this
          omega
        · rw [List.getElem?_eq_getElem ha] at h
          simp only at h
          split at h
          · cases h; exact ⟨by omega, by omega, rfl⟩
          · cases h
end Go.Proofs.YtlimlmjljjmcpaaGreatDoor
