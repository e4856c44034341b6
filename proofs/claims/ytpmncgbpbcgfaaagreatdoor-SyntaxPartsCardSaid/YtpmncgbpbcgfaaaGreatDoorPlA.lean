import Derived.Below
/-
  What a text is lexed to: plain functions on lists of bytes, and the relation 'Lexes'; no program in sight.
-/
namespace Go.Proofs.YtpmncgbpbcgfaaaGreatDoor
set_option linter.unusedVariables false
set_option linter.unusedSimpArgs false

def letterB (n : Nat) : Bool := decide (97 ≤ n) && decide (n ≤ 122) || (decide (65 ≤ n) && decide (n ≤ 90) || decide (n = 95))
def digitB (n : Nat) : Bool := decide (48 ≤ n) && decide (n ≤ 57)
def blankB (n : Nat) : Bool := decide (n = 32) || (decide (n = 9) || decide (n = 10))
def wordB (n : Nat) : Bool := letterB n || digitB n
def upperB (n : Nat) : Bool := decide (65 ≤ n) && decide (n ≤ 90)
def badB (n : Nat) : Bool := decide (n < 32) || decide (126 < n)

/-- where the bytes of a class end -/
def runEnd (cls : Nat → Bool) (l : List UInt8) (a : Nat) : Nat := a + ((l.drop a).takeWhile fun c => cls c.toNat).length
theorem runEnd_yes {cls : Nat → Bool} {l : List UInt8} {a : Nat} (h : a < l.length) (hc : cls l[a].toNat = true) : runEnd cls l a = runEnd cls l (a + 1) := by
  unfold runEnd
  rw [List.drop_eq_getElem_cons h, List.takeWhile_cons, if_pos hc, List.length_cons]
  omega
theorem runEnd_no {cls : Nat → Bool} {l : List UInt8} {a : Nat} (h : a < l.length) (hc : cls l[a].toNat = false) : runEnd cls l a = a := by
  unfold runEnd
  rw [List.drop_eq_getElem_cons h, List.takeWhile_cons, if_neg (by rw [hc]; decide)]
  simp
theorem runEnd_end {cls : Nat → Bool} {l : List UInt8} {a : Nat} (h : l.length ≤ a) : runEnd cls l a = a := by
  unfold runEnd
  rw [List.drop_eq_nil_of_le h]
  simp
theorem runEnd_ge (cls : Nat → Bool) (l : List UInt8) (a : Nat) : a ≤ runEnd cls l a := Nat.le_add_right _ _
theorem runEnd_le (cls : Nat → Bool) (l : List UInt8) (a : Nat) (h : a ≤ l.length) : runEnd cls l a ≤ l.length := by
  unfold runEnd
  have := (List.takeWhile_sublist (fun c : UInt8 => cls c.toNat) (l := l.drop a)).length_le
  simp at this
  omega
theorem runEnd_lt {cls : Nat → Bool} {l : List UInt8} {a : Nat} (h : a < l.length) (hc : cls l[a].toNat = true) : a < runEnd cls l a := by
  rw [runEnd_yes h hc]
  have := runEnd_ge cls l (a + 1)
  omega
/-- the bytes of a class from a on -/
def runOf (cls : Nat → Bool) (l : List UInt8) (a : Nat) : List UInt8 := (l.drop a).takeWhile fun c => cls c.toNat
theorem runOf_length (cls : Nat → Bool) (l : List UInt8) (a : Nat) : (runOf cls l a).length = runEnd cls l a - a := by unfold runOf runEnd; omega
theorem runOf_cls {cls : Nat → Bool} {l : List UInt8} {a : Nat} {c : UInt8} (h : c ∈ runOf cls l a) : cls c.toNat = true := by
  unfold runOf at h
  have := List.all_takeWhile (p := fun c : UInt8 => cls c.toNat) (l := l.drop a)
  exact List.all_eq_true.1 this c h
theorem take_takeWhile {α : Type} (p : α → Bool) (l : List α) : l.take (l.takeWhile p).length = l.takeWhile p := by
  induction l with
  | nil => rfl
  | cons x r ih =>
    rw [List.takeWhile_cons]
    split
    · simp [ih]
    · rfl
theorem runOf_take (cls : Nat → Bool) (l : List UInt8) (a : Nat) : runOf cls l a = (l.drop a).take (runEnd cls l a - a) := by
  rw [← runOf_length]; unfold runOf; rw [take_takeWhile]

structure Tok where
  kind : Nat
  text : List UInt8
  int : Nat
  at_ : Nat
deriving DecidableEq

/-- what the scan of one token comes to: a token and where it ends, or an error's code -/
inductive Scan where
  | err (code : Nat)
  | tok (t : Tok) (fin : Nat)

def upC (c : UInt8) : UInt8 := if 97 ≤ c.toNat ∧ c.toNat ≤ 122 then UInt8.ofNat (c.toNat - 32) else c
def upL (l : List UInt8) : List UInt8 := l.map upC
/-- the keywords, in upper case -/
def keywords : List (List UInt8) := [[65, 68, 68], [65, 70, 84, 69, 82], [65, 76, 76], [65, 76, 84, 69, 82], [65, 78, 68], [65, 83], [66, 69, 70, 79, 82, 69], [66, 69, 71, 73, 78], [66, 69, 84, 87, 69, 69, 78], [66, 79, 79, 76], [66, 89], [67, 72, 69, 67, 75], [67, 79, 65, 76, 69, 83, 67, 69], [67, 79, 77, 77, 73, 84], [67, 79, 78, 84, 65, 73, 78, 83], [67, 79, 85, 78, 84], [67, 82, 69, 65, 84, 69], [68, 69, 70, 65, 85, 76, 84], [68, 69, 76, 69, 84, 69], [68, 69, 83, 67], [68, 73, 83, 84, 73, 78, 67, 84], [68, 82, 79, 80], [68, 85, 82, 73, 78, 71], [69, 81, 85, 65, 76, 83], [69, 88, 67, 69, 80, 84], [70, 65, 76, 83, 69], [70, 73, 78, 73, 83, 72, 69, 68, 66, 89], [70, 73, 78, 73, 83, 72, 69, 83], [70, 79, 82, 69, 73, 71, 78], [70, 79, 82, 69, 86, 69, 82], [70, 82, 79, 77], [71, 82, 79, 85, 80], [72, 79, 76, 68], [73, 70], [73, 78, 83, 69, 82, 84], [73, 78, 84], [73, 78, 84, 69, 82, 83, 69, 67, 84], [73, 78, 84, 79], [73, 83], [74, 79, 73, 78], [75, 69, 89], [76, 69, 70, 84], [76, 69, 78, 71, 84, 72], [76, 73, 77, 73, 84], [77, 65, 88], [77, 69, 69, 84, 83], [77, 69, 84, 66, 89], [77, 73, 78], [78, 79, 78, 83, 69, 81, 85, 69, 78, 67, 69, 68], [78, 79, 84], [78, 79, 87], [78, 85, 76, 76], [79, 70], [79, 78], [79, 82], [79, 82, 68, 69, 82], [79, 86, 69, 82, 76, 65, 80, 80, 69, 68, 66, 89], [79, 86, 69, 82, 76, 65, 80, 83], [80, 82, 73, 77, 65, 82, 89], [80, 82, 85, 78, 69], [82, 69, 70, 69, 82, 69, 78, 67, 69, 83], [82, 69, 76, 69, 65, 83, 69], [82, 69, 78, 65, 77, 69], [82, 69, 84, 65, 73, 78], [82, 79, 76, 76, 66, 65, 67, 75], [83, 69, 76, 69, 67, 84], [83, 69, 81, 85, 69, 78, 67, 69, 68], [83, 69, 84], [83, 84, 65, 82, 84, 69, 68, 66, 89], [83, 84, 65, 82, 84, 83], [83, 85, 77], [83, 89, 83, 84, 69, 77], [83, 89, 83, 84, 69, 77, 70, 82, 79, 77], [83, 89, 83, 84, 69, 77, 84, 79], [84, 65, 66, 76, 69], [84, 69, 88, 84], [84, 79], [84, 82, 85, 69], [84, 88], [85, 78, 68, 69, 82], [85, 78, 73, 79, 78], [85, 80, 68, 65, 84, 69], [86, 65, 76, 73, 68], [86, 65, 76, 73, 68, 70, 82, 79, 77], [86, 65, 76, 73, 68, 84, 79], [86, 65, 76, 85, 69, 83], [87, 72, 69, 82, 69]]
def isWord (l : List UInt8) : Bool := keywords.contains (upL l)
def wordScan (l : List UInt8) (a : Nat) : Scan :=
  if isWord (runOf wordB l a) then .tok ⟨2, upL (runOf wordB l a), 0, a⟩ (runEnd wordB l a)
  else if (runOf wordB l a).any (fun c => upperB c.toNat) then .err 1
  else if 24 < (runOf wordB l a).length then .err 5
  else .tok ⟨1, runOf wordB l a, 0, a⟩ (runEnd wordB l a)
def numStep (n : Nat) (c : UInt8) : Nat := min (10 * n + (c.toNat - 48)) 1125899906842625
def numVal (l : List UInt8) : Nat := l.foldl numStep 0
def badNum (l : List UInt8) (a : Nat) : Bool :=
  (decide (1 < (runOf digitB l a).length) && decide ((runOf digitB l a).head? = some 48)) || (match l[runEnd digitB l a]? with | some c => letterB c.toNat | none => false)
def numberScan (l : List UInt8) (a : Nat) : Scan :=
  if badNum l a then .err 1
  else if 1125899906842624 < numVal (runOf digitB l a) then .err 6
  else .tok ⟨3, [], numVal (runOf digitB l a), a⟩ (runEnd digitB l a)
def textEnd (a i : Nat) (out : List UInt8) : Scan := if 200 < out.length then .err 5 else .tok ⟨4, out, 0, a⟩ (i + 1)
/-- the rest of a text from place i on, with what has been read -/
def textGo (a : Nat) : List UInt8 → Nat → List UInt8 → Scan
  | [], _, _ => .err 2
  | c :: r, i, out =>
    if c = 39 then
      match r with
      | [] => textEnd a i out
      | d :: r' => if d = 39 then textGo a r' (i + 2) (out ++ [39]) else textEnd a i out
    else if badB c.toNat then .err 1 else textGo a r (i + 1) (out ++ [c])
def textScan (l : List UInt8) (a : Nat) : Scan := textGo a (l.drop (a + 1)) (a + 1) []
def twos : List (List UInt8) := [[60, 62], [60, 61], [62, 61], [124, 124]]
def ones : List UInt8 := [40, 41, 44, 46, 59, 42, 61, 60, 62, 43, 45, 47, 37]
def symScan (l : List UInt8) (a : Nat) : Scan :=
  if twos.contains ((l.drop a).take 2) then .tok ⟨5, (l.drop a).take 2, 0, a⟩ (a + 2)
  else match l[a]? with
    | some c => if ones.contains c then .tok ⟨5, [c], 0, a⟩ (a + 1) else .err 1
    | none => .err 1
def scanAt (l : List UInt8) (a : Nat) (c : UInt8) : Scan :=
  if letterB c.toNat then wordScan l a else if digitB c.toNat then numberScan l a else if c = 39 then textScan l a else symScan l a

/-- what a whole text comes to -/
inductive Res where
  | err (at_ : Nat) (code : Nat)
  | toks (l : List Tok)

inductive Lexes (l : List UInt8) : Nat → List Tok → Res → Prop
  | fin {a acc} (h : l.length ≤ a) : Lexes l a acc (.toks acc)
  | skip {a acc r} (h : a < l.length) (hb : blankB l[a].toNat = true) (k : Lexes l (a + 1) acc r) : Lexes l a acc r
  | err {a acc c} (h : a < l.length) (hb : blankB l[a].toNat = false) (hs : scanAt l a l[a] = .err c) : Lexes l a acc (.err a c)
  | tok {a acc t e r} (h : a < l.length) (hb : blankB l[a].toNat = false) (hs : scanAt l a l[a] = .tok t e) (k : Lexes l e (acc ++ [t]) r) : Lexes l a acc r

theorem Lexes.det {l : List UInt8} {a : Nat} {acc : List Tok} {r r' : Res} (h : Lexes l a acc r) (h' : Lexes l a acc r') : r = r' := by
  induction h generalizing r' with
  | fin h => cases h' with
    | fin => rfl
    | skip h1 => omega
    | err h1 => omega
    | tok h1 => omega
  | skip h hb _ ih => cases h' with
    | fin h1 => omega
    | skip _ _ k => exact ih k
    | err h1 hb1 => rw [hb] at hb1; cases hb1
    | tok h1 hb1 => rw [hb] at hb1; cases hb1
  | err h hb hs => cases h' with
    | fin h1 => omega
    | skip _ hb1 => rw [hb] at hb1; cases hb1
    | err _ _ hs1 => rw [hs] at hs1; cases hs1; rfl
    | tok _ _ hs1 => rw [hs] at hs1; cases hs1
  | tok h hb hs _ ih => cases h' with
    | fin h1 => omega
    | skip _ hb1 => rw [hb] at hb1; cases hb1
    | err _ _ hs1 => rw [hs] at hs1; cases hs1
    | tok _ _ hs1 k => rw [hs] at hs1; cases hs1; exact ih k
theorem Lexes.run {l : List UInt8} {a : Nat} {acc : List Tok} {r : Res} (k : Lexes l (runEnd blankB l a) acc r) : Lexes l a acc r := by
  by_cases h : a < l.length
  · by_cases hb : blankB l[a].toNat = true
    · rw [runEnd_yes h hb] at k
      exact .skip h hb (Lexes.run k)
    · rw [runEnd_no h (by simpa using hb)] at k
      exact k
  · rw [runEnd_end (by omega)] at k
    exact k
termination_by l.length - a
theorem run_not {cls : Nat → Bool} {l : List UInt8} {a : Nat} (h : runEnd cls l a < l.length) : cls l[runEnd cls l a].toNat = false := by
  by_cases h0 : a < l.length
  · by_cases hb : cls l[a].toNat = true
    · have e := runEnd_yes h0 hb
      have := run_not (cls := cls) (l := l) (a := a + 1) (by rw [← e]; exact h)
      simp only [← e] at this
      exact this
    · have e := runEnd_no h0 (by simpa using hb)
      simp only [e]
      simpa using hb
  · rw [runEnd_end (by omega)] at h
    omega
termination_by l.length - a

theorem textGo_end (a : Nat) (r : List UInt8) (i : Nat) (out : List UInt8) {t : Tok} {e : Nat} (h : textGo a r i out = .tok t e) : i < e ∧ e ≤ i + r.length ∧ t.at_ = a := by
  induction r, i, out using textGo.induct with
  | case1 i out => simp [textGo] at h
  | case2 i out => simp [textGo, textEnd] at h; split at h <;> cases h <;> simp
  | case3 i out r ih => simp [textGo] at h; have := ih h; simp at this ⊢; omega
  | case4 i out d r hd => simp [textGo, textEnd, hd] at h; split at h <;> cases h <;> simp
  | case5 i out c r hc hb => unfold textGo at h; rw [if_neg hc, if_pos hb] at h; cases h
  | case6 i out c r hc hb ih => unfold textGo at h; rw [if_neg hc, if_neg hb] at h; have := ih h; simp at this ⊢; omega
theorem scanAt_end {l : List UInt8} {a : Nat} (ha : a < l.length) {t : Tok} {e : Nat} (h : scanAt l a l[a] = .tok t e) : a < e ∧ e ≤ l.length ∧ t.at_ = a := by
  unfold scanAt at h
  split at h
  · rename_i hl
    have h1 := runEnd_lt (cls := wordB) ha (by simp [wordB, hl])
    have h2 := runEnd_le wordB l a (by omega)
    unfold wordScan at h
    split at h
    · cases h; exact ⟨h1, h2, rfl⟩
    · split at h
      · cases h
      · split at h
        · cases h
        · cases h; exact ⟨h1, h2, rfl⟩
  · split at h
    · rename_i hl
      have h1 := runEnd_lt (cls := digitB) ha hl
      have h2 := runEnd_le digitB l a (by omega)
      unfold numberScan at h
      split at h
      · cases h
      · split at h
        · cases h
        · cases h; exact ⟨h1, h2, rfl⟩
    · split at h
      · have := textGo_end _ _ _ _ h
        simp at this
        omega
      · unfold symScan at h
        split at h
        · rename_i ht
          cases h
          refine ⟨by omega, ?_, rfl⟩
          have : ((l.drop a).take 2).length = 2 := by
            simp [twos] at ht
            rcases ht with ht | ht | ht | ht <;> rw [ht] <;> rfl
          simp at this
          omega
        · rw [List.getElem?_eq_getElem ha] at h
          simp only at h
          split at h
          · cases h; exact ⟨by omega, by omega, rfl⟩
          · cases h
end Go.Proofs.YtpmncgbpbcgfaaaGreatDoor

/-
  The parser as plain functions on the tokens' cores (kind, text, number): no program in sight.
-/
namespace Go.Proofs.YtpmncgbpbcgfaaaGreatDoor
set_option linter.unusedVariables false
set_option linter.unusedSimpArgs false

structure Core where
  kind : Nat
  text : List UInt8
  int : Nat
deriving DecidableEq
def Tok.core (t : Tok) : Core := ⟨t.kind, t.text, t.int⟩

/-- what a parse comes to: a value, the next token, and whether something was too deep; or the token (or the end) at which it fails, and the code -/
inductive R (α : Type) where
  | ok (a : α) (i : Nat) (d : Bool)
  | fail (j c : Nat)
def P (α : Type) := List Core → Nat → Bool → R α
def P.pure {α : Type} (a : α) : P α := fun _ i d => .ok a i d
def P.bind {α β : Type} (x : P α) (f : α → P β) : P β := fun C i d => match x C i d with
  | .ok a j d' => f a C j d'
  | .fail j c => .fail j c
instance : Monad P where
  pure := P.pure
  bind := P.bind

def aheadB (C : List Core) (i n kind : Nat) (text : List UInt8) : Bool := match C[i + n]? with | some t => decide (t.kind = kind) && decide (t.text = text) | none => false
def kindB (C : List Core) (i kind : Nat) : Bool := match C[i]? with | some t => decide (t.kind = kind) | none => false
def pAhead (n kind : Nat) (text : List UInt8) : P Bool := fun C i d => .ok (aheadB C i n kind text) i d
def pSkip (kind : Nat) (text : List UInt8) : P Bool := fun C i d => if aheadB C i 0 kind text then .ok true (i + 1) d else .ok false i d
def pWord (s : List UInt8) : P Bool := pSkip 2 s
def pSymbol (s : List UInt8) : P Bool := pSkip 5 s
def pWrong {α : Type} : P α := fun C i d => if C.length ≤ i then .fail C.length 2 else .fail i 1
def pStep : P Unit := fun C i d => .ok () (i + 1) d
def pWords : List (List UInt8) → P Unit
  | [] => pure ()
  | s :: l => do
    if ← pWord s then pWords l else pWrong
def pNeed (s : List UInt8) : P Unit := do
  if ← pSymbol s then pure () else pWrong
/-- a token of a kind, with its place -/
def pTake (kind : Nat) : P (Nat × Core) := fun C i d => match C[i]? with
  | some t => if t.kind = kind then .ok (i, t) (i + 1) d else pWrong C i d
  | none => pWrong C i d
def pName : P (List UInt8) := do
  let t ← pTake 1
  pure t.2.text
def pCheck (b : Bool) (j c : Nat) : P Unit := fun C i d => if b then .ok () i d else .fail j c
def forever : Nat := 1099511627776
def pInstant : P Nat := do
  let t ← pTake 3
  pCheck (decide (t.2.int < forever)) t.1 6
  pure t.2.int
def pPeriod : P (Nat × Nat) := do
  pWords [[70, 82, 79, 77]]
  let f ← pTake 3
  pWords [[84, 79]]
  if ← pWord [70, 79, 82, 69, 86, 69, 82] then
    pCheck (decide (f.2.int < forever)) f.1 6
    pure (f.2.int, forever)
  else
    let t ← pTake 3
    pCheck (decide (t.2.int < forever)) f.1 6
    pCheck (decide (f.2.int < t.2.int)) f.1 6
    pure (f.2.int, t.2.int)
/-- elements separated by commas -/
def pMore {α : Type} (x : P α) : Nat → List α → P (List α)
  | 0, _ => fun _ _ _ => .fail 0 99
  | n + 1, l => do
    if ← pSymbol [44] then
      let a ← x
      pMore x n (l ++ [a])
    else pure l
def pList {α : Type} (n : Nat) (x : P α) : P (List α) := do
  let a ← x
  pMore x n [a]

/-- api.Value -/
structure V where
  kind : Nat
  int : Int
  text : List UInt8
deriving DecidableEq
def V.null : V := ⟨0, 0, []⟩
def V.ofInt (n : Int) : V := ⟨1, n, []⟩
def V.ofText (s : List UInt8) : V := ⟨2, 0, s⟩
def V.ofBool (b : Bool) : V := ⟨3, if b then 1 else 0, []⟩
/-- api.Expr -/
inductive E where
  | mk (op : Nat) (int : Nat) (v : V) (name : List UInt8) (args : List E)
def E.node (op : Nat) (args : List E) : E := .mk op 0 V.null [] args
def E.name (s : List UInt8) : E := .mk 3 0 V.null s []
def E.const (v : V) : E := .mk 1 0 v [] []
def E.args : E → List E
  | .mk _ _ _ _ l => l
mutual
def E.dep : E → Nat
  | .mk _ _ _ _ l => 1 + E.depL l
def E.depL : List E → Nat
  | [] => 0
  | e :: l => max (E.dep e) (E.depL l)
end

def pPlain : P (Option V) := do
  if ← pWord [78, 85, 76, 76] then pure (some V.null)
  else if ← pWord [84, 82, 85, 69] then pure (some (V.ofBool true))
  else if ← pWord [70, 65, 76, 83, 69] then pure (some (V.ofBool false))
  else fun C i d => match C[i]? with
    | none => .ok none i d
    | some t => if t.kind = 3 then .ok (some (V.ofInt t.int)) (i + 1) d else if t.kind = 4 then .ok (some (V.ofText t.text)) (i + 1) d else .ok none i d
def pLiteral : P V := do
  if ← pSymbol [45] then
    let t ← pTake 3
    pure (V.ofInt (-(t.2.int : Int)))
  else
    match ← pPlain with
    | some v => pure v
    | none => pWrong
/-- operands joined by a word -/
def pJoin (word : List UInt8) (x : P E) : Nat → List E → P (List E)
  | 0, _ => fun _ _ _ => .fail 0 99
  | n + 1, l => do
    if ← pWord word then
      let e ← x
      pJoin word x n (l ++ [e])
    else pure l
def joinE (op : Nat) : List E → E
  | [e] => e
  | l => E.node op l
def pJoined (n op : Nat) (word : List UInt8) (x : P E) : P E := do
  let e ← x
  let l ← pJoin word x n [e]
  pure (joinE op l)
def pOperator : List (List UInt8 × Nat) → P (Option Nat)
  | [] => pure none
  | (s, op) :: l => do
    if ← pSymbol s then pure (some op) else pOperator l
def pChainGo (ops : List (List UInt8 × Nat)) (x : P E) : Nat → E → P E
  | 0, _ => fun _ _ _ => .fail 0 99
  | n + 1, e => do
    match ← pOperator ops with
    | none => pure e
    | some op =>
      let f ← x
      pChainGo ops x n (E.node op [e, f])
def pChain (n : Nat) (ops : List (List UInt8 × Nat)) (x : P E) : P E := do
  let e ← x
  pChainGo ops x n e
def relations : List (List UInt8) := [[66, 69, 70, 79, 82, 69], [77, 69, 69, 84, 83], [79, 86, 69, 82, 76, 65, 80, 83], [83, 84, 65, 82, 84, 83], [68, 85, 82, 73, 78, 71], [70, 73, 78, 73, 83, 72, 69, 83], [69, 81, 85, 65, 76, 83], [70, 73, 78, 73, 83, 72, 69, 68, 66, 89], [67, 79, 78, 84, 65, 73, 78, 83], [83, 84, 65, 82, 84, 69, 68, 66, 89], [79, 86, 69, 82, 76, 65, 80, 80, 69, 68, 66, 89], [77, 69, 84, 66, 89], [65, 70, 84, 69, 82]]
def relOf (C : List Core) (i : Nat) : Option Nat := match C[i]?, C[i + 1]? with
  | some a, some b => if a.kind = 1 ∧ b.kind = 2 then (if b.text ∈ relations then some (relations.idxOf b.text) else none) else none
  | _, _ => none
def cmpOps : List (List UInt8 × Nat) := [([61], 7), ([60, 62], 8), ([60], 9), ([60, 61], 10), ([62], 11), ([62, 61], 12)]
def sumOps : List (List UInt8 × Nat) := [([43], 13), ([45], 14), ([124, 124], 19)]
def mulOps : List (List UInt8 × Nat) := [([42], 15), ([47], 16), ([37], 17)]
def pSum (n : Nat) (unary : P E) : P E := pChain n sumOps (pChain n mulOps unary)
def pCompare (n : Nat) (unary : P E) : P E := fun C i d => match relOf C i with
  | some rel => (do
      let a ← pName
      pStep
      let b ← pName
      pure (E.mk 25 rel V.null [] [E.name a, E.name b]) : P E) C i d
  | none => (do
      let e ← pSum n unary
      match ← pOperator cmpOps with
      | some op =>
        let f ← pSum n unary
        pure (E.node op [e, f])
      | none =>
        if ← pWord [73, 83] then
          let no ← pWord [78, 79, 84]
          pWords [[78, 85, 76, 76]]
          pure (if no then E.node 4 [E.node 21 [e]] else E.node 21 [e])
        else pure e : P E) C i d
def pArgs (orE : P E) (k : Nat) : Nat → Nat → List E → P (List E)
  | 0, _, _ => fun _ _ _ => .fail 0 99
  | n + 1, i, l => do
    let more ← pAhead 0 5 [44]
    if decide (i < k) || (decide (k = 0) && more) then
      pNeed [44]
      let e ← orE
      pArgs orE k n (i + 1) (l ++ [e])
    else pure l
def pCall (n : Nat) (orE : P E) (op k : Nat) : P E := do
  pNeed [40]
  let e ← orE
  let l ← pArgs orE k n 1 [e]
  pNeed [41]
  pure (E.node op l)
def boundOf (s : List UInt8) : Option Nat :=
  if s = [86, 65, 76, 73, 68, 70, 82, 79, 77] then some 0 else if s = [86, 65, 76, 73, 68, 84, 79] then some 1 else if s = [83, 89, 83, 84, 69, 77, 70, 82, 79, 77] then some 2 else if s = [83, 89, 83, 84, 69, 77, 84, 79] then some 3 else if s = [84, 88] then some 4 else none
def pRef : P E := do
  let s ← pName
  if ← pSymbol [46] then
    let t ← pName
    pure (E.name (s ++ (46 :: t)))
  else pure (E.name s)
def pPrimary (n : Nat) (orE : P E) : P E := do
  match ← pPlain with
  | some v => pure (E.const v)
  | none =>
    if ← pSymbol [40] then
      let e ← orE
      pNeed [41]
      pure e
    else if ← pWord [73, 70] then pCall n orE 22 3
    else if ← pWord [67, 79, 65, 76, 69, 83, 67, 69] then pCall n orE 23 0
    else if ← pWord [76, 69, 78, 71, 84, 72] then pCall n orE 20 1
    else fun C i d =>
      if kindB C i 2 then
        match C[i]?.bind (fun t => boundOf t.text) with
        | none => pWrong C i d
        | some b => (do
            pStep
            pNeed [40]
            let s ← pName
            pNeed [41]
            pure (E.mk 26 b V.null s []) : P E) C i d
      else pRef C i d
mutual
def pOr : Nat → P E
  | 0 => fun _ _ _ => .fail 0 99
  | n + 1 => pJoined n 6 [79, 82] (pJoined n 5 [65, 78, 68] (pNot n))
def pNot : Nat → P E
  | 0 => fun _ _ _ => .fail 0 99
  | n + 1 => do
    if ← pWord [78, 79, 84] then
      let e ← pNot n
      pure (E.node 4 [e])
    else pCompare n (pUnary n)
def pUnary : Nat → P E
  | 0 => fun _ _ _ => .fail 0 99
  | n + 1 => do
    if ← pAhead 0 5 [45] then
      (fun C i d => if kindB C (i + 1) 3 then (do
          let v ← pLiteral
          pure (E.const v) : P E) C i d
        else (do
          pStep
          let e ← pUnary n
          pure (E.node 18 [e]) : P E) C i d)
    else pPrimary n (pOr n)
end
def pExpr (n : Nat) : P E := fun C i d => match pOr n C i d with
  | .ok e j d' => .ok e j (d' || decide (24 < E.dep e))
  | .fail j c => .fail j c
end Go.Proofs.YtpmncgbpbcgfaaaGreatDoor

/-
  The parser of queries and statements as plain functions.
-/
namespace Go.Proofs.YtpmncgbpbcgfaaaGreatDoor
set_option linter.unusedVariables false
set_option linter.unusedSimpArgs false

structure Clau where
  kind : Nat
  lo : Nat
  hi : Nat
structure Src where
  table : List UInt8
  alias_ : List UInt8
  clause : Clau
  under : Int
structure Item where
  expr : E
  agg : Nat
  star : Bool
  name : List UInt8
structure Jn where
  source : Src
  left : Bool
  on : E
structure Sel where
  distinct : Bool
  items : List Item
  src : Src
  joins : List Jn
  hasWhere : Bool
  cond : E
  groupBy : List E
/-- the zero values -/
def E.zero : E := .mk 0 0 V.null [] []
def Clau.zero : Clau := ⟨0, 0, 0⟩
def Src.zero : Src := ⟨[], [], Clau.zero, 0⟩
def Sel.zero : Sel := ⟨false, [], Src.zero, [], false, E.zero, []⟩
inductive Qry where
  | mk (op : Nat) (all : Bool) (sel : Sel) (args : List Qry) (order : List (Nat × Bool)) (limit : Int)
def Qry.zero : Qry := .mk 0 false Sel.zero [] [] 0

def pClause : P Clau := do
  if ← pWord [65, 83] then
    pWords [[79, 70]]
    let t ← pInstant
    pure ⟨1, t, 0⟩
  else if ← pWord [66, 69, 84, 87, 69, 69, 78] then
    let f ← pTake 3
    pWords [[65, 78, 68]]
    let t ← pTake 3
    pCheck (decide (f.2.int ≤ t.2.int) && decide (t.2.int < forever)) f.1 6
    pure ⟨3, f.2.int, t.2.int⟩
  else if ← pWord [65, 76, 76] then pure ⟨4, 0, 0⟩
  else
    let q ← pPeriod
    pure ⟨2, q.1, q.2⟩
def pSource : P Src := do
  let n ← pName
  let a ← (do if ← pWord [65, 83] then pName else pure [] : P (List UInt8))
  let c ← (do if ← pWord [83, 89, 83, 84, 69, 77] then pClause else pure Clau.zero : P Clau)
  let u ← (do if ← pWord [85, 78, 68, 69, 82] then (do let t ← pInstant; pure (t : Int)) else pure (-1) : P Int)
  pure ⟨n, a, c, u⟩
def pAggregate : P Nat := do
  if ← pWord [67, 79, 85, 78, 84] then pure 1
  else if ← pWord [83, 85, 77] then pure 2
  else if ← pWord [77, 73, 78] then pure 3
  else if ← pWord [77, 65, 88] then pure 4
  else pure 0
def pItem (n : Nat) : P Item := do
  let g ← pAggregate
  let x ← (do
    if g = 0 then
      let e ← pExpr n
      pure (e, false)
    else
      pNeed [40]
      let star ← (do if g = 1 then pSymbol [42] else pure false : P Bool)
      if star then
        pNeed [41]
        pure (E.zero, true)
      else
        let e ← pExpr n
        pNeed [41]
        pure (e, false) : P (E × Bool))
  let s ← (do if ← pWord [65, 83] then pName else pure [] : P (List UInt8))
  pure ⟨x.1, g, x.2, s⟩
def pJoins (n : Nat) : Nat → List Jn → P (List Jn)
  | 0, _ => fun _ _ _ => .fail 0 99
  | k + 1, l => do
    let left ← pWord [76, 69, 70, 84]
    let j ← pAhead 0 2 [74, 79, 73, 78]
    if left && !j then pWrong
    else if ← pWord [74, 79, 73, 78] then
      let s ← pSource
      pWords [[79, 78]]
      let e ← pExpr n
      pJoins n k (l ++ [⟨s, left, e⟩])
    else pure l
def pWhere (n : Nat) : P (Bool × E) := do
  if ← pWord [87, 72, 69, 82, 69] then
    let e ← pExpr n
    pure (true, e)
  else pure (false, E.zero)
def pSel (n : Nat) : P Sel := do
  let d ← pWord [68, 73, 83, 84, 73, 78, 67, 84]
  let items ← (do if ← pSymbol [42] then pure [⟨E.zero, 0, true, []⟩] else pList n (pItem n) : P (List Item))
  pWords [[70, 82, 79, 77]]
  let f ← pSource
  let js ← pJoins n n []
  let w ← pWhere n
  let g ← (do
    if ← pWord [71, 82, 79, 85, 80] then
      pWords [[66, 89]]
      pList n pRef
    else pure [] : P (List E))
  pure ⟨d, items, f, js, w.1, w.2, g⟩
def pCombination : P (Option Nat) := do
  if ← pWord [85, 78, 73, 79, 78] then pure (some 1)
  else if ← pWord [69, 88, 67, 69, 80, 84] then pure (some 2)
  else if ← pWord [73, 78, 84, 69, 82, 83, 69, 67, 84] then pure (some 3)
  else pure none
def pCombGo (term : P (Qry × Nat)) : Nat → Qry × Nat → P (Qry × Nat)
  | 0, _ => fun _ _ _ => .fail 0 99
  | k + 1, q => do
    match ← pCombination with
    | none => pure q
    | some op =>
      let all ← pWord [65, 76, 76]
      let r ← term
      pCombGo term k (.mk op all Sel.zero [q.1, r.1] [] (-1), 1 + max q.2 r.2)
/-- combined queries with their depth -/
def pCombined : Nat → P (Qry × Nat)
  | 0 => fun _ _ _ => .fail 0 99
  | n + 1 => do
    let term : P (Qry × Nat) := do
      if ← pSymbol [40] then
        let q ← pCombined n
        pNeed [41]
        pure q
      else
        pWords [[83, 69, 76, 69, 67, 84]]
        let s ← pSel n
        pure (.mk 0 false s [] [] (-1), 1)
    let q ← term
    pCombGo term n q
def pOrder : P (Nat × Bool) := do
  let t ← pTake 3
  pCheck (decide (0 < t.2.int)) t.1 6
  let d ← pWord [68, 69, 83, 67]
  pure (t.2.int - 1, d)
def Qry.ends : Qry → List (Nat × Bool) → Option Nat → Qry
  | .mk op all s args _ lim, o, l => .mk op all s args o (match l with | some n => (n : Int) | none => lim)
def pQuery (n : Nat) : P Qry := do
  let q ← pCombined n
  (fun C i d => .ok () i (d || decide (24 < q.2)) : P Unit)
  let o ← (do
    if ← pWord [79, 82, 68, 69, 82] then
      pWords [[66, 89]]
      pList n pOrder
    else pure [] : P (List (Nat × Bool)))
  let l ← (do
    if ← pWord [76, 73, 77, 73, 84] then
      let t ← pTake 3
      pure (some t.2.int)
    else pure none : P (Option Nat))
  pure (q.1.ends o l)

structure Col where
  name : List UInt8
  kind : Nat
  nullable : Bool
structure Frn where
  cols : List Nat
  table : List UInt8
structure Tbl where
  name : List UInt8
  cols : List Col
  key : List Nat
  frns : List Frn
structure Chg where
  kind : Nat
  name : List UInt8
  to : List UInt8
  col : Col
  dflt : V
structure Hld where
  name : List UInt8
  table : List UInt8
  valid : Nat × Nat
  system : Nat × Nat
structure Stm where
  kind : Nat
  mode : Nat
  valid : Nat × Nat
  query : Qry
  name : List UInt8
  rows : List (List E)
  sets : List (List UInt8 × E)
  hasWhere : Bool
  cond : E
  table : Tbl
  checks : List E
  change : Chg
  hold : Hld
  number : Nat
def Col.zero : Col := ⟨[], 0, false⟩
def Tbl.zero : Tbl := ⟨[], [], [], []⟩
def Chg.zero : Chg := ⟨0, [], [], Col.zero, V.null⟩
def Hld.zero : Hld := ⟨[], [], (0, 0), (0, 0)⟩
def Stm.zero : Stm := ⟨0, 0, (0, 0), Qry.zero, [], [], [], false, E.zero, Tbl.zero, [], Chg.zero, Hld.zero, 0⟩

def pPrefix (st : Stm) : P (Bool × Stm) := do
  if ← pWord [86, 65, 76, 73, 68] then
    pWords [[65, 83], [79, 70]]
    let t ← pInstant
    pure (true, { st with mode := 1, valid := (t, t + 1) })
  else if ← pWord [83, 69, 81, 85, 69, 78, 67, 69, 68] then
    if ← pAhead 0 2 [70, 82, 79, 77] then
      let p ← pPeriod
      pure (true, { st with mode := 2, valid := p })
    else pure (true, { st with mode := 2, valid := (0, forever) })
  else if ← pWord [78, 79, 78, 83, 69, 81, 85, 69, 78, 67, 69, 68] then pure (true, { st with mode := 3 })
  else pure (false, st)
def pSet (n : Nat) : P (List UInt8 × E) := do
  let s ← pName
  pNeed [61]
  let e ← pExpr n
  pure (s, e)
def pRow (n : Nat) : P (List E) := do
  pNeed [40]
  let l ← pList n (pExpr n)
  pNeed [41]
  pure l
def pModification (n : Nat) (word : List UInt8) (st : Stm) : P Stm := do
  if word = [73, 78, 83, 69, 82, 84] then
    pWords [[73, 78, 84, 79]]
    let s ← pName
    pWords [[86, 65, 76, 85, 69, 83]]
    let l ← pList n (pRow n)
    pure { st with kind := 2, name := s, rows := l }
  else if word = [85, 80, 68, 65, 84, 69] then
    let s ← pName
    pWords [[83, 69, 84]]
    let l ← pList n (pSet n)
    let w ← pWhere n
    pure { st with kind := 3, name := s, sets := l, hasWhere := w.1, cond := w.2 }
  else
    pWords [[70, 82, 79, 77]]
    let s ← pName
    let w ← pWhere n
    pure { st with kind := 4, name := s, hasWhere := w.1, cond := w.2 }
def pColumn : P Col := do
  let s ← pName
  let k ← (do
    if ← pWord [73, 78, 84] then pure 1
    else if ← pWord [84, 69, 88, 84] then pure 2
    else if ← pWord [66, 79, 79, 76] then pure 3
    else pWrong : P Nat)
  let nl ← pWord [78, 85, 76, 76]
  pure ⟨s, k, nl⟩
def pNames (n : Nat) : P (List (Nat × Core)) := do
  pNeed [40]
  let l ← pList n (pTake 1)
  pNeed [41]
  pure l
def pIndexes (cols : List Col) : List (Nat × Core) → P (List Nat)
  | [] => pure []
  | t :: l => do
    pCheck (cols.any fun c => decide (c.name = t.2.text)) t.1 11
    let r ← pIndexes cols l
    pure (cols.findIdx (fun c => decide (c.name = t.2.text)) :: r)
def pColumns (n : Nat) (cols : List Col) : P (List Nat) := do
  let l ← pNames n
  pIndexes cols l
def pColsGo : Nat → List Col → P (List Col)
  | 0, _ => fun _ _ _ => .fail 0 99
  | k + 1, l => do
    if ← pWord [80, 82, 73, 77, 65, 82, 89] then pure l
    else
      let c ← pColumn
      pNeed [44]
      pColsGo k (l ++ [c])
def pFrnsGo (n : Nat) (cols : List Col) : Nat → List Frn → P (List Frn)
  | 0, _ => fun _ _ _ => .fail 0 99
  | k + 1, l => do
    let a ← pAhead 0 5 [44]
    let b ← pAhead 1 2 [70, 79, 82, 69, 73, 71, 78]
    if a && b then
      pStep
      pStep
      pWords [[75, 69, 89]]
      let c ← pColumns n cols
      pWords [[82, 69, 70, 69, 82, 69, 78, 67, 69, 83]]
      let s ← pName
      pFrnsGo n cols k (l ++ [⟨c, s⟩])
    else pure l
def pChecksGo (n : Nat) : Nat → List E → P (List E)
  | 0, _ => fun _ _ _ => .fail 0 99
  | k + 1, l => do
    if ← pSymbol [44] then
      pWords [[67, 72, 69, 67, 75]]
      pNeed [40]
      let e ← pExpr n
      pNeed [41]
      pChecksGo n k (l ++ [e])
    else pure l
def pCreate (n : Nat) (st : Stm) : P Stm := do
  pWords [[84, 65, 66, 76, 69]]
  let s ← pName
  pNeed [40]
  let c ← pColumn
  pNeed [44]
  let cols ← pColsGo n [c]
  pWords [[75, 69, 89]]
  let key ← pColumns n cols
  let frns ← pFrnsGo n cols n []
  let checks ← pChecksGo n n []
  pNeed [41]
  pure { st with kind := 5, table := ⟨s, cols, key, frns⟩, checks := checks }
def pAlter (st : Stm) : P Stm := do
  pWords [[84, 65, 66, 76, 69]]
  let s ← pName
  let c ← (do
    if ← pWord [65, 68, 68] then
      let c ← pColumn
      pWords [[68, 69, 70, 65, 85, 76, 84]]
      let v ← pLiteral
      pure ⟨1, [], [], c, v⟩
    else if ← pWord [68, 82, 79, 80] then
      let x ← pName
      pure ⟨2, x, [], Col.zero, V.null⟩
    else if ← pWord [82, 69, 78, 65, 77, 69] then
      let x ← pName
      pWords [[84, 79]]
      let y ← pName
      pure ⟨3, x, y, Col.zero, V.null⟩
    else if ← pWord [84, 69, 88, 84] then
      let x ← pName
      pure ⟨4, x, [], Col.zero, V.null⟩
    else pWrong : P Chg)
  pure { st with kind := 6, name := s, change := c }
/-- any other statement, if one begins here -/
def pCommand (n : Nat) (st : Stm) : P (Option Stm) := do
  if ← pWord [67, 82, 69, 65, 84, 69] then
    let s ← pCreate n st
    pure (some s)
  else if ← pWord [65, 76, 84, 69, 82] then
    let s ← pAlter st
    pure (some s)
  else if ← pWord [66, 69, 71, 73, 78] then pure (some { st with kind := 7 })
  else if ← pWord [67, 79, 77, 77, 73, 84] then pure (some { st with kind := 8 })
  else if ← pWord [82, 79, 76, 76, 66, 65, 67, 75] then pure (some { st with kind := 9 })
  else if ← pWord [83, 69, 84] then
    pWords [[78, 79, 87]]
    let t ← pInstant
    pure (some { st with kind := 10, number := t })
  else if ← pWord [72, 79, 76, 68] then
    let a ← pName
    pWords [[79, 78]]
    let b ← pName
    pWords [[86, 65, 76, 73, 68]]
    let v ← pPeriod
    pWords [[83, 89, 83, 84, 69, 77]]
    let y ← pPeriod
    pure (some { st with kind := 11, hold := ⟨a, b, v, y⟩ })
  else if ← pWord [82, 69, 76, 69, 65, 83, 69] then
    let a ← pName
    pure (some { st with kind := 12, name := a })
  else if ← pWord [82, 69, 84, 65, 73, 78] then
    let a ← pName
    let t ← pTake 3
    pCheck (decide (t.2.int ≤ forever)) t.1 6
    pure (some { st with kind := 13, name := a, number := t.2.int })
  else if ← pWord [80, 82, 85, 78, 69] then pure (some { st with kind := 14 })
  else pure none
def pStatement (n : Nat) : P Stm := do
  let x ← pPrefix Stm.zero
  (fun C i d => match C[i]? with
    | some t =>
      if t.kind = 2 then
        if t.text = [73, 78, 83, 69, 82, 84] ∨ t.text = [85, 80, 68, 65, 84, 69] ∨ t.text = [68, 69, 76, 69, 84, 69] then (do
          pCheck (decide (x.2.mode ≠ 3)) i 15
          pStep
          pModification n t.text x.2 : P Stm) C i d
        else if t.text = [83, 69, 76, 69, 67, 84] then (do
          let q ← pQuery n
          pure { x.2 with kind := 1, query := q } : P Stm) C i d
        else if x.1 then pWrong C i d
        else (do
          match ← pCommand n x.2 with
          | some s => pure s
          | none => pWrong : P Stm) C i d
      else (do
        let q ← pQuery n
        pure { x.2 with kind := 1, query := q } : P Stm) C i d
    | none => (do
        let q ← pQuery n
        pure { x.2 with kind := 1, query := q } : P Stm) C i d : P Stm)
/-- a whole text: nothing is left, and nothing is too deep -/
inductive Whole (α : Type) where
  | ok (a : α)
  | deep
  | fail (j c : Nat)
def pWhole {α : Type} (x : P α) (C : List Core) : Whole α := match x C 0 false with
  | .fail j c => .fail j c
  | .ok a j d => if j < C.length then .fail j 1 else if d then .deep else .ok a
end Go.Proofs.YtpmncgbpbcgfaaaGreatDoor

/-
  What is parsed without the mark 'too deep' is not too deep.
-/
namespace Go.Proofs.YtpmncgbpbcgfaaaGreatDoor
set_option linter.unusedVariables false
set_option linter.unusedSimpArgs false

/-- where the mark is not set behind a parse it was not set before it, and the value is in order -/
def Dp {α : Type} (Φ : α → Prop) (x : P α) : Prop := ∀ C i d a j d', x C i d = .ok a j d' → d' = false → d = false ∧ Φ a
section
variable {α β : Type} {Φ : α → Prop} {Ψ : β → Prop}
theorem Dp.ret {a : α} (h : Φ a) : Dp Φ (Pure.pure a) := by
  intro C i d b j d' hx hd
  cases hx
  exact ⟨hd, h⟩
theorem Dp.bind {x : P α} {f : α → P β} (hx : Dp Φ x) (hf : ∀ a, Dp (fun b => Φ a → Ψ b) (f a)) : Dp Ψ (x >>= f) := by
  intro C i d b j d' he hd
  replace he : P.bind x f C i d = .ok b j d' := he
  unfold P.bind at he
  rcases hq : x C i d with ⟨a, j0, d0⟩ | ⟨j0, c⟩
  · rw [hq] at he
    obtain ⟨h1, h2⟩ := hf a C j0 d0 b j d' he hd
    obtain ⟨h3, h4⟩ := hx C i d a j0 d0 hq h1
    exact ⟨h3, h2 h4⟩
  · rw [hq] at he; cases he
theorem Dp.mono {Φ' : α → Prop} {x : P α} (h : Dp Φ x) (hr : ∀ a, Φ a → Φ' a) : Dp Φ' x := by
  intro C i d a j d' he hd
  obtain ⟨h1, h2⟩ := h C i d a j d' he hd
  exact ⟨h1, hr _ h2⟩
theorem Dp.fail {f : List Core → Nat → Bool → Nat} {c : List Core → Nat → Bool → Nat} : Dp Φ (fun C i d => .fail (f C i d) (c C i d)) := by
  intro C i d a j d' he hd
  cases he
theorem Dp.wrong : Dp Φ pWrong := by
  intro C i d a j d' he hd
  unfold pWrong at he
  split at he <;> cases he
theorem wrong_no {C : List Core} {i j : Nat} {d d1 : Bool} {a : α} (h : (pWrong : P α) C i d = .ok a j d1) : False := by
  unfold pWrong at h
  split at h <;> cases h
theorem Dp.ite {x y : P α} {c : Prop} [Decidable c] (h1 : Dp Φ x) (h2 : Dp Φ y) : Dp Φ (if c then x else y) := by
  split
  · exact h1
  · exact h2
/-- a parse that does not touch the mark -/
def Still (x : P α) : Prop := ∀ C i d a j d', x C i d = .ok a j d' → d' = d
theorem Still.dp {x : P α} (h : Still x) : Dp (fun _ => True) x := by
  intro C i d a j d' he hd
  rw [h C i d a j d' he] at hd
  exact ⟨hd, trivial⟩
/-- a step whose value does not matter -/
theorem Dp.seq {x : P α} {f : α → P β} (hx : Dp (fun _ => True) x) (hf : ∀ a, Dp Ψ (f a)) : Dp Ψ (x >>= f) := Dp.bind hx fun a => (hf a).mono fun _ h _ => h
end
abbrev Mk {α : Type} (x : P α) : Prop := Dp (fun _ => True) x
theorem Mk.skip (kind : Nat) (l : List UInt8) : Mk (pSkip kind l) := by
  intro C i d a j d' he hd
  unfold pSkip at he
  split at he <;> cases he <;> exact ⟨hd, trivial⟩
theorem Mk.word (l : List UInt8) : Mk (pWord l) := Mk.skip _ _
theorem Mk.symbol (l : List UInt8) : Mk (pSymbol l) := Mk.skip _ _
theorem Mk.ahead (n kind : Nat) (l : List UInt8) : Mk (pAhead n kind l) := by
  intro C i d a j d' he hd
  cases he
  exact ⟨hd, trivial⟩
theorem Mk.ret {α : Type} (a : α) : Mk (Pure.pure a : P α) := Dp.ret trivial
theorem Mk.step : Mk pStep := by
  intro C i d a j d' he hd
  cases he
  exact ⟨hd, trivial⟩
theorem Mk.take (kind : Nat) : Mk (pTake kind) := by
  intro C i d a j d' he hd
  unfold pTake pWrong at he
  split at he
  · split at he
    · cases he; exact ⟨hd, trivial⟩
    · split at he <;> cases he
  · split at he <;> cases he
theorem Mk.check (b : Bool) (j c : Nat) : Mk (pCheck b j c) := by
  intro C i d a j d' he hd
  unfold pCheck at he
  split at he
  · cases he; exact ⟨hd, trivial⟩
  · cases he
theorem Mk.words : ∀ l, Mk (pWords l)
  | [] => Mk.ret ()
  | s :: l => Dp.seq (Mk.word s) fun _ => Dp.ite (Mk.words l) Dp.wrong
theorem Mk.need (l : List UInt8) : Mk (pNeed l) := Dp.seq (Mk.symbol l) fun _ => Dp.ite (Mk.ret ()) Dp.wrong
theorem Mk.name : Mk pName := Dp.seq (Mk.take _) fun _ => Mk.ret _
theorem Mk.instant : Mk pInstant := Dp.seq (Mk.take _) fun _ => Dp.seq (Mk.check _ _ _) fun _ => Mk.ret _
theorem Mk.period : Mk pPeriod :=
  Dp.seq (Mk.words _) fun _ => Dp.seq (Mk.take _) fun _ => Dp.seq (Mk.words _) fun _ => Dp.seq (Mk.word _) fun _ => Dp.ite (Dp.seq (Mk.check _ _ _) fun _ => Mk.ret _) (Dp.seq (Mk.take _) fun _ => Dp.seq (Mk.check _ _ _) fun _ => Dp.seq (Mk.check _ _ _) fun _ => Mk.ret _)
section
variable {α : Type} {Φ : α → Prop} {x : P α}
theorem Dp.more (h : Dp Φ x) : ∀ n l, Dp (fun r => (∀ a ∈ l, Φ a) → ∀ a ∈ r, Φ a) (pMore x n l)
  | 0, _ => Dp.fail
  | n + 1, l => Dp.seq (Mk.symbol _) fun _ => Dp.ite (Dp.bind h fun a => (Dp.more h n _).mono fun r hr ha hl => hr (by
      intro b hb
      rcases List.mem_append.1 hb with hb | hb
      · exact hl b hb
      · rw [List.mem_singleton.1 hb]; exact ha)) (Dp.ret fun h => h)
theorem Dp.list (h : Dp Φ x) (n : Nat) : Dp (fun r => ∀ a ∈ r, Φ a) (pList n x) := Dp.bind h fun a => (Dp.more h n _).mono fun r hr ha => hr (by
  intro b hb
  rw [List.mem_singleton.1 hb]; exact ha)
theorem Mk.list (h : Mk x) (n : Nat) : Mk (pList n x) := (Dp.list h n).mono fun _ _ => trivial
end
theorem Mk.plain : Mk pPlain := Dp.seq (Mk.word _) fun _ => Dp.ite (Mk.ret _) (Dp.seq (Mk.word _) fun _ => Dp.ite (Mk.ret _) (Dp.seq (Mk.word _) fun _ => Dp.ite (Mk.ret _) (by
  intro C i d a j d' he hd
  simp only at he
  split at he
  · cases he; exact ⟨hd, trivial⟩
  · split at he
    · cases he; exact ⟨hd, trivial⟩
    · split at he <;> cases he <;> exact ⟨hd, trivial⟩)))
theorem Mk.literal : Mk pLiteral := Dp.seq (Mk.symbol _) fun _ => Dp.ite (Dp.seq (Mk.take _) fun _ => Mk.ret _) (Dp.seq Mk.plain fun o => by
  cases o
  · exact Dp.wrong
  · exact Mk.ret _)
theorem Mk.join {x : P E} (word : List UInt8) (h : Mk x) : ∀ n l, Mk (pJoin word x n l)
  | 0, _ => Dp.fail
  | n + 1, l => Dp.seq (Mk.word _) fun _ => Dp.ite (Dp.seq h fun e => Mk.join word h n _) (Mk.ret _)
theorem Mk.joined {x : P E} (n op : Nat) (word : List UInt8) (h : Mk x) : Mk (pJoined n op word x) := Dp.seq h fun e => Dp.seq (Mk.join word h n _) fun l => Mk.ret _
theorem Mk.operator : ∀ l : List (List UInt8 × Nat), Mk (pOperator l)
  | [] => Mk.ret _
  | (s, op) :: l => Dp.seq (Mk.symbol _) fun _ => Dp.ite (Mk.ret _) (Mk.operator l)
theorem Mk.chainGo {x : P E} (ops : List (List UInt8 × Nat)) (h : Mk x) : ∀ n e, Mk (pChainGo ops x n e)
  | 0, _ => Dp.fail
  | n + 1, e => Dp.seq (Mk.operator ops) fun o => by
    cases o
    · exact Mk.ret _
    · exact Dp.seq h fun f => Mk.chainGo ops h n _
theorem Mk.chain {x : P E} (n : Nat) (ops : List (List UInt8 × Nat)) (h : Mk x) : Mk (pChain n ops x) := Dp.seq h fun e => Mk.chainGo ops h n e
theorem Mk.sum {x : P E} (n : Nat) (h : Mk x) : Mk (pSum n x) := Mk.chain n _ (Mk.chain n _ h)
theorem Mk.compare {x : P E} (n : Nat) (h : Mk x) : Mk (pCompare n x) := by
  intro C i d a j d' he hd
  unfold pCompare at he
  rcases hr : relOf C i with _ | rel
  · rw [hr] at he
    refine (Dp.seq (Ψ := fun _ => True) (Mk.sum n h) fun e => Dp.seq (Mk.operator _) fun o => ?_ : Dp _ _) C i d a j d' he hd
    cases o
    · exact Dp.seq (Mk.word _) fun _ => Dp.ite (Dp.seq (Mk.word _) fun no => Dp.seq (Mk.words _) fun _ => Mk.ret _) (Mk.ret _)
    · exact Dp.seq (Mk.sum n h) fun f => Mk.ret _
  · rw [hr] at he
    exact (Dp.seq (Ψ := fun _ => True) Mk.name fun a => Dp.seq Mk.step fun _ => Dp.seq Mk.name fun b => Mk.ret _ : Dp _ _) C i d a j d' he hd
theorem Mk.args {x : P E} (k : Nat) (h : Mk x) : ∀ n i l, Mk (pArgs x k n i l)
  | 0, _, _ => Dp.fail
  | n + 1, i, l => Dp.seq (Mk.ahead _ _ _) fun more => Dp.ite (Dp.seq (Mk.need _) fun _ => Dp.seq h fun e => Mk.args k h n _ _) (Mk.ret _)
theorem Mk.call {x : P E} (n op k : Nat) (h : Mk x) : Mk (pCall n x op k) := Dp.seq (Mk.need _) fun _ => Dp.seq h fun e => Dp.seq (Mk.args k h n _ _) fun l => Dp.seq (Mk.need _) fun _ => Mk.ret _
theorem Mk.ref : Mk pRef := Dp.seq Mk.name fun s => Dp.seq (Mk.symbol _) fun _ => Dp.ite (Dp.seq Mk.name fun t => Mk.ret _) (Mk.ret _)
theorem Mk.primary {x : P E} (n : Nat) (h : Mk x) : Mk (pPrimary n x) := by
  refine Dp.seq Mk.plain fun o => ?_
  cases o with
  | some v => exact Mk.ret _
  | none =>
    refine Dp.seq (Mk.symbol _) fun _ => Dp.ite (Dp.seq h fun e => Dp.seq (Mk.need _) fun _ => Mk.ret _) (Dp.seq (Mk.word _) fun _ => Dp.ite (Mk.call _ _ _ h) (Dp.seq (Mk.word _) fun _ => Dp.ite (Mk.call _ _ _ h) (Dp.seq (Mk.word _) fun _ => Dp.ite (Mk.call _ _ _ h) ?_)))
    intro C i d a j d' he hd
    simp only at he
    split at he
    · rcases hq : C[i]?.bind (fun t => boundOf t.text) with _ | b
      · rw [hq] at he
        exact (wrong_no he).elim
      · rw [hq] at he
        exact (Dp.seq (Ψ := fun _ => True) Mk.step fun _ => Dp.seq (Mk.need _) fun _ => Dp.seq Mk.name fun s => Dp.seq (Mk.need _) fun _ => Mk.ret _ : Dp _ _) C i d a j d' he hd
    · exact Mk.ref C i d a j d' he hd
theorem Mk.exprs : ∀ n, Mk (pOr n) ∧ Mk (pNot n) ∧ Mk (pUnary n)
  | 0 => ⟨by unfold pOr; exact Dp.fail, by unfold pNot; exact Dp.fail, by unfold pUnary; exact Dp.fail⟩
  | n + 1 => by
    obtain ⟨h1, h2, h3⟩ := Mk.exprs n
    refine ⟨?_, ?_, ?_⟩
    · unfold pOr
      exact Mk.joined _ _ _ (Mk.joined _ _ _ h2)
    · unfold pNot
      exact Dp.seq (Mk.word _) fun _ => Dp.ite (Dp.seq h2 fun e => Mk.ret _) (Mk.compare n h3)
    · unfold pUnary
      refine Dp.seq (Mk.ahead _ _ _) fun _ => Dp.ite ?_ (Mk.primary n h1)
      intro C i d a j d' he hd
      simp only at he
      split at he
      · exact (Dp.seq (Ψ := fun _ => True) Mk.literal fun v => Mk.ret _ : Dp _ _) C i d a j d' he hd
      · exact (Dp.seq (Ψ := fun _ => True) Mk.step fun _ => Dp.seq h3 fun e => Mk.ret _ : Dp _ _) C i d a j d' he hd
/-- expressions that are not too deep -/
def EOk (e : E) : Prop := E.dep e ≤ 24
theorem EOk.zero : EOk E.zero := by unfold EOk E.zero E.dep E.depL; omega
theorem EOk.name (s : List UInt8) : EOk (E.name s) := by unfold EOk E.name E.dep E.depL; omega
theorem Dp.expr (n : Nat) : Dp EOk (pExpr n) := by
  intro C i d a j d' he hd
  unfold pExpr at he
  rcases hq : pOr n C i d with ⟨e, j0, d0⟩ | ⟨j0, c⟩
  · rw [hq] at he
    cases he
    rw [Bool.or_eq_false_iff] at hd
    refine ⟨((Mk.exprs n).1 C i d _ _ _ hq hd.1).1, ?_⟩
    have := of_decide_eq_false hd.2
    unfold EOk
    omega
  · rw [hq] at he; cases he
theorem Dp.ref : Dp EOk pRef := Dp.seq Mk.name fun s => Dp.seq (Mk.symbol _) fun _ => Dp.ite (Dp.seq Mk.name fun t => Dp.ret (EOk.name _)) (Dp.ret (EOk.name _))
structure SelOk (s : Sel) : Prop where
  items : ∀ a ∈ s.items, EOk a.expr
  joins : ∀ a ∈ s.joins, EOk a.on
  cond : EOk s.cond
  group : ∀ a ∈ s.groupBy, EOk a
mutual
def Qry.dep : Qry → Nat
  | .mk op _ _ args _ _ => 1 + Qry.depL args
def Qry.depL : List Qry → Nat
  | [] => 0
  | q :: l => max (Qry.dep q) (Qry.depL l)
end
inductive QOk : Qry → Prop
  | mk {op : Nat} {all : Bool} {s : Sel} {args : List Qry} {o : List (Nat × Bool)} {l : Int} (hs : SelOk s) (ha : ∀ a ∈ args, QOk a) (h0 : op = 0 → args = []) : QOk (.mk op all s args o l)
theorem SelOk.zero : SelOk Sel.zero := ⟨by simp [Sel.zero], by simp [Sel.zero], EOk.zero, by simp [Sel.zero]⟩
theorem QOk.zero : QOk Qry.zero := .mk SelOk.zero (by simp) fun _ => rfl
theorem Mk.clause : Mk pClause :=
  Dp.seq (Mk.word _) fun _ => Dp.ite (Dp.seq (Mk.words _) fun _ => Dp.seq Mk.instant fun _ => Mk.ret _) (Dp.seq (Mk.word _) fun _ => Dp.ite (Dp.seq (Mk.take _) fun _ => Dp.seq (Mk.words _) fun _ => Dp.seq (Mk.take _) fun _ => Dp.seq (Mk.check _ _ _) fun _ => Mk.ret _) (Dp.seq (Mk.word _) fun _ => Dp.ite (Mk.ret _) (Dp.seq Mk.period fun _ => Mk.ret _)))
theorem Mk.source : Mk pSource :=
  Dp.seq Mk.name fun _ => Dp.seq (Dp.seq (Mk.word _) fun _ => Dp.ite Mk.name (Mk.ret _)) fun _ => Dp.seq (Dp.seq (Mk.word _) fun _ => Dp.ite Mk.clause (Mk.ret _)) fun _ => Dp.seq (Dp.seq (Mk.word _) fun _ => Dp.ite (Dp.seq Mk.instant fun _ => Mk.ret _) (Mk.ret _)) fun _ => Mk.ret _
theorem Mk.aggregate : Mk pAggregate := Dp.seq (Mk.word _) fun _ => Dp.ite (Mk.ret _) (Dp.seq (Mk.word _) fun _ => Dp.ite (Mk.ret _) (Dp.seq (Mk.word _) fun _ => Dp.ite (Mk.ret _) (Dp.seq (Mk.word _) fun _ => Dp.ite (Mk.ret _) (Mk.ret _))))
theorem Dp.item (n : Nat) : Dp (fun a => EOk a.expr) (pItem n) := by
  refine Dp.seq Mk.aggregate fun g => Dp.bind (Φ := fun x => EOk x.1) (Dp.ite (Dp.bind (Dp.expr n) fun e => Dp.ret fun h => h) (Dp.seq (Mk.need _) fun _ => Dp.seq (Dp.ite (Mk.symbol _) (Mk.ret _)) fun star => Dp.ite (Dp.seq (Mk.need _) fun _ => Dp.ret EOk.zero) (Dp.bind (Dp.expr n) fun e => Dp.seq (Mk.need _) fun _ => Dp.ret fun h => h))) fun x => Dp.seq (Dp.seq (Mk.word _) fun _ => Dp.ite Mk.name (Mk.ret _)) fun s => Dp.ret fun h => h
theorem Dp.joins (n : Nat) : ∀ k l, Dp (fun r => (∀ a ∈ l, EOk a.on) → ∀ a ∈ r, EOk a.on) (pJoins n k l)
  | 0, _ => Dp.fail
  | k + 1, l => Dp.seq (Mk.word _) fun left => Dp.seq (Mk.ahead _ _ _) fun j => Dp.ite Dp.wrong (Dp.seq (Mk.word _) fun _ => Dp.ite (Dp.seq Mk.source fun s => Dp.seq (Mk.words _) fun _ => Dp.bind (Dp.expr n) fun e => (Dp.joins n k _).mono fun r hr he hl => hr (by
      intro b hb
      rcases List.mem_append.1 hb with hb | hb
      · exact hl b hb
      · rw [List.mem_singleton.1 hb]; exact he)) (Dp.ret fun h => h))
theorem Dp.where_ (n : Nat) : Dp (fun w => EOk w.2) (pWhere n) := Dp.seq (Mk.word _) fun _ => Dp.ite (Dp.bind (Dp.expr n) fun e => Dp.ret fun h => h) (Dp.ret EOk.zero)
theorem Dp.sel (n : Nat) : Dp SelOk (pSel n) := by
  refine Dp.seq (Mk.word _) fun d => Dp.bind (Φ := fun l : List Item => ∀ a ∈ l, EOk a.expr) (Dp.seq (Mk.symbol _) fun _ => Dp.ite (Dp.ret (by intro a ha; rw [List.mem_singleton.1 ha]; exact EOk.zero)) (Dp.list (Dp.item n) n)) fun items => Dp.seq (Mk.words _) fun _ => Dp.seq Mk.source fun f => Dp.bind (Dp.joins n n []) fun js => Dp.bind (Dp.where_ n) fun w => Dp.bind (Φ := fun l : List E => ∀ a ∈ l, EOk a) ?_ fun g => Dp.ret fun hg hw hj hi => ⟨hi, hj (by simp), hw, hg⟩
  exact Dp.seq (Mk.word _) fun _ => Dp.ite (Dp.seq (Mk.words _) fun _ => Dp.list Dp.ref n) (Dp.ret (by simp))
theorem Dp.combination : Dp (fun o => o ≠ some 0) pCombination := Dp.seq (Mk.word _) fun _ => Dp.ite (Dp.ret (by simp)) (Dp.seq (Mk.word _) fun _ => Dp.ite (Dp.ret (by simp)) (Dp.seq (Mk.word _) fun _ => Dp.ite (Dp.ret (by simp)) (Dp.ret (by simp))))
def QnOk (x : Qry × Nat) : Prop := QOk x.1 ∧ x.2 = x.1.dep
theorem Dp.combGo {term : P (Qry × Nat)} (h : Dp QnOk term) : ∀ k q, Dp (fun r => QnOk q → QnOk r) (pCombGo term k q)
  | 0, _ => Dp.fail
  | k + 1, q => Dp.bind Dp.combination fun o => by
    cases o with
    | none => exact Dp.ret fun _ h => h
    | some op =>
      refine Dp.seq (Mk.word _) fun all => Dp.bind h fun r => (Dp.combGo h k _).mono fun s hs hr ho hq => hs ⟨.mk SelOk.zero ?_ fun e => absurd (by rw [e]) ho, ?_⟩
      · intro a ha
        rcases List.mem_cons.1 ha with rfl | ha
        · exact hq.1
        · rw [List.mem_singleton.1 ha]; exact hr.1
      · simp only [Qry.dep, Qry.depL]
        rw [hq.2, hr.2]
        omega
theorem Dp.combined : ∀ n, Dp QnOk (pCombined n)
  | 0 => by unfold pCombined; exact Dp.fail
  | n + 1 => by
    have ht : Dp QnOk (do
      if ← pSymbol [40] then
        let q ← pCombined n
        pNeed [41]
        pure q
      else
        pWords [[83, 69, 76, 69, 67, 84]]
        let s ← pSel n
        pure (.mk 0 false s [] [] (-1), 1) : P (Qry × Nat)) :=
      Dp.seq (Mk.symbol _) fun _ => Dp.ite (Dp.bind (Dp.combined n) fun q => Dp.seq (Mk.need _) fun _ => Dp.ret fun h => h) (Dp.seq (Mk.words _) fun _ => Dp.bind (Dp.sel n) fun s => Dp.ret fun h => ⟨.mk h (by simp) fun _ => rfl, by simp [Qry.dep, Qry.depL]⟩)
    unfold pCombined
    exact Dp.bind ht fun q => Dp.combGo ht n q
theorem Mk.order : Mk pOrder := Dp.seq (Mk.take _) fun _ => Dp.seq (Mk.check _ _ _) fun _ => Dp.seq (Mk.word _) fun _ => Mk.ret _
def QdOk (q : Qry) : Prop := QOk q ∧ q.dep ≤ 24
theorem Dp.query (n : Nat) : Dp QdOk (pQuery n) := by
  refine Dp.bind (Dp.combined n) fun q => Dp.bind (Φ := fun _ => q.2 ≤ 24) ?_ fun _ => Dp.seq (Dp.seq (Mk.word _) fun _ => Dp.ite (Dp.seq (Mk.words _) fun _ => Mk.list Mk.order n) (Mk.ret _)) fun o => Dp.seq (Dp.seq (Mk.word _) fun _ => Dp.ite (Dp.seq (Mk.take _) fun _ => Mk.ret _) (Mk.ret _)) fun l => Dp.ret fun hd hq => ?_
  · intro C i d a j d' he hd
    cases he
    rw [Bool.or_eq_false_iff] at hd
    exact ⟨hd.1, by have := of_decide_eq_false hd.2; omega⟩
  · obtain ⟨q, m⟩ := q
    obtain ⟨h1, h2⟩ := hq
    cases h1 with
    | mk hs ha h0 => exact ⟨.mk hs ha h0, by simp only [Qry.ends, Qry.dep] at h2 ⊢; omega⟩
structure StmOk (s : Stm) : Prop where
  query : QdOk s.query
  rows : ∀ r ∈ s.rows, ∀ e ∈ r, EOk e
  sets : ∀ e ∈ s.sets, EOk e.2
  cond : EOk s.cond
  checks : ∀ e ∈ s.checks, EOk e
theorem StmOk.zero : StmOk Stm.zero := ⟨⟨QOk.zero, by simp [Stm.zero, Qry.zero, Qry.dep, Qry.depL]⟩, by simp [Stm.zero], by simp [Stm.zero], EOk.zero, by simp [Stm.zero]⟩
theorem Dp.prefix_ (st : Stm) : Dp (fun x => StmOk st → StmOk x.2) (pPrefix st) :=
  Dp.seq (Mk.word _) fun _ => Dp.ite (Dp.seq (Mk.words _) fun _ => Dp.seq Mk.instant fun t => Dp.ret fun h => ⟨h.1, h.2, h.3, h.4, h.5⟩) (Dp.seq (Mk.word _) fun _ => Dp.ite (Dp.seq (Mk.ahead _ _ _) fun b => Dp.ite (Dp.seq Mk.period fun p => Dp.ret fun h => ⟨h.1, h.2, h.3, h.4, h.5⟩) (Dp.ret fun h => ⟨h.1, h.2, h.3, h.4, h.5⟩)) (Dp.seq (Mk.word _) fun _ => Dp.ite (Dp.ret fun h => ⟨h.1, h.2, h.3, h.4, h.5⟩) (Dp.ret fun h => h)))
theorem Dp.set (n : Nat) : Dp (fun x => EOk x.2) (pSet n) := Dp.seq Mk.name fun s => Dp.seq (Mk.need _) fun _ => Dp.bind (Dp.expr n) fun e => Dp.ret fun h => h
theorem Dp.row (n : Nat) : Dp (fun l => ∀ e ∈ l, EOk e) (pRow n) := Dp.seq (Mk.need _) fun _ => Dp.bind (Dp.list (Dp.expr n) n) fun l => Dp.seq (Mk.need _) fun _ => Dp.ret fun h => h
theorem Dp.modification (n : Nat) (word : List UInt8) (st : Stm) : Dp (fun s => StmOk st → StmOk s) (pModification n word st) :=
  Dp.ite (Dp.seq (Mk.words _) fun _ => Dp.seq Mk.name fun s => Dp.seq (Mk.words _) fun _ => Dp.bind (Dp.list (Dp.row n) n) fun l => Dp.ret fun hl h => ⟨h.1, hl, h.3, h.4, h.5⟩)
    (Dp.ite (Dp.seq Mk.name fun s => Dp.seq (Mk.words _) fun _ => Dp.bind (Dp.list (Dp.set n) n) fun l => Dp.bind (Dp.where_ n) fun w => Dp.ret fun hw hl h => ⟨h.1, h.2, hl, hw, h.5⟩)
      (Dp.seq (Mk.words _) fun _ => Dp.seq Mk.name fun s => Dp.bind (Dp.where_ n) fun w => Dp.ret fun hw h => ⟨h.1, h.2, h.3, hw, h.5⟩))
theorem Mk.column : Mk pColumn := Dp.seq Mk.name fun s => Dp.seq (Dp.seq (Mk.word _) fun _ => Dp.ite (Mk.ret _) (Dp.seq (Mk.word _) fun _ => Dp.ite (Mk.ret _) (Dp.seq (Mk.word _) fun _ => Dp.ite (Mk.ret _) Dp.wrong))) fun k => Dp.seq (Mk.word _) fun nl => Mk.ret _
theorem Mk.indexes (cols : List Col) : ∀ l, Mk (pIndexes cols l)
  | [] => Mk.ret _
  | t :: l => Dp.seq (Mk.check _ _ _) fun _ => Dp.seq (Mk.indexes cols l) fun r => Mk.ret _
theorem Mk.columns (n : Nat) (cols : List Col) : Mk (pColumns n cols) := Dp.seq (Dp.seq (Mk.need _) fun _ => Dp.seq (Mk.list (Mk.take _) n) fun l => Dp.seq (Mk.need _) fun _ => Mk.ret _) fun l => Mk.indexes cols l
theorem Mk.colsGo : ∀ k l, Mk (pColsGo k l)
  | 0, _ => Dp.fail
  | k + 1, l => Dp.seq (Mk.word _) fun _ => Dp.ite (Mk.ret _) (Dp.seq Mk.column fun c => Dp.seq (Mk.need _) fun _ => Mk.colsGo k _)
theorem Mk.frnsGo (n : Nat) (cols : List Col) : ∀ k l, Mk (pFrnsGo n cols k l)
  | 0, _ => Dp.fail
  | k + 1, l => Dp.seq (Mk.ahead _ _ _) fun a => Dp.seq (Mk.ahead _ _ _) fun b => Dp.ite (Dp.seq Mk.step fun _ => Dp.seq Mk.step fun _ => Dp.seq (Mk.words _) fun _ => Dp.seq (Mk.columns n cols) fun c => Dp.seq (Mk.words _) fun _ => Dp.seq Mk.name fun s => Mk.frnsGo n cols k _) (Mk.ret _)
theorem Dp.checksGo (n : Nat) : ∀ k l, Dp (fun r => (∀ a ∈ l, EOk a) → ∀ a ∈ r, EOk a) (pChecksGo n k l)
  | 0, _ => Dp.fail
  | k + 1, l => Dp.seq (Mk.symbol _) fun _ => Dp.ite (Dp.seq (Mk.words _) fun _ => Dp.seq (Mk.need _) fun _ => Dp.bind (Dp.expr n) fun e => Dp.seq (Mk.need _) fun _ => (Dp.checksGo n k _).mono fun r hr he hl => hr (by
      intro b hb
      rcases List.mem_append.1 hb with hb | hb
      · exact hl b hb
      · rw [List.mem_singleton.1 hb]; exact he)) (Dp.ret fun h => h)
theorem Dp.create (n : Nat) (st : Stm) : Dp (fun s => StmOk st → StmOk s) (pCreate n st) :=
  Dp.seq (Mk.words _) fun _ => Dp.seq Mk.name fun s => Dp.seq (Mk.need _) fun _ => Dp.seq Mk.column fun c => Dp.seq (Mk.need _) fun _ => Dp.seq (Mk.colsGo _ _) fun cols => Dp.seq (Mk.words _) fun _ =>
    Dp.seq (Mk.columns _ _) fun key => Dp.seq (Mk.frnsGo _ _ _ _) fun frns => Dp.bind (Dp.checksGo _ _ []) fun checks => Dp.seq (Mk.need _) fun _ => Dp.ret fun hc h => ⟨h.1, h.2, h.3, h.4, hc (by simp)⟩
theorem Dp.alter (st : Stm) : Dp (fun s => StmOk st → StmOk s) (pAlter st) :=
  Dp.seq (Mk.words _) fun _ => Dp.seq Mk.name fun s => Dp.seq (Dp.seq (Mk.word _) fun _ => Dp.ite (Dp.seq Mk.column fun c => Dp.seq (Mk.words _) fun _ => Dp.seq Mk.literal fun v => Mk.ret _) (Dp.seq (Mk.word _) fun _ => Dp.ite (Dp.seq Mk.name fun x => Mk.ret _)
      (Dp.seq (Mk.word _) fun _ => Dp.ite (Dp.seq Mk.name fun x => Dp.seq (Mk.words _) fun _ => Dp.seq Mk.name fun y => Mk.ret _) (Dp.seq (Mk.word _) fun _ => Dp.ite (Dp.seq Mk.name fun x => Mk.ret _) Dp.wrong)))) fun c => Dp.ret fun h => ⟨h.1, h.2, h.3, h.4, h.5⟩
def OptOk (st : Stm) (o : Option Stm) : Prop := StmOk st → ∀ s, o = some s → StmOk s
theorem OptOk.mk {st s : Stm} (h : StmOk st → StmOk s) : OptOk st (some s) := fun hs t ht => by cases ht; exact h hs
theorem Dp.command (n : Nat) (st : Stm) : Dp (OptOk st) (pCommand n st) := by
  have k : ∀ {s : Stm}, s.query = st.query → s.rows = st.rows → s.sets = st.sets → s.cond = st.cond → s.checks = st.checks → StmOk st → StmOk s := fun h1 h2 h3 h4 h5 h => ⟨by rw [h1]; exact h.1, by rw [h2]; exact h.2, by rw [h3]; exact h.3, by rw [h4]; exact h.4, by rw [h5]; exact h.5⟩
  refine Dp.seq (Mk.word _) fun _ => Dp.ite (Dp.bind (Dp.create n st) fun s => Dp.ret fun h => OptOk.mk h) (Dp.seq (Mk.word _) fun _ => Dp.ite (Dp.bind (Dp.alter st) fun s => Dp.ret fun h => OptOk.mk h) (Dp.seq (Mk.word _) fun _ => Dp.ite (Dp.ret (OptOk.mk (k rfl rfl rfl rfl rfl))) (Dp.seq (Mk.word _) fun _ => Dp.ite (Dp.ret (OptOk.mk (k rfl rfl rfl rfl rfl))) (Dp.seq (Mk.word _) fun _ => Dp.ite (Dp.ret (OptOk.mk (k rfl rfl rfl rfl rfl))) (Dp.seq (Mk.word _) fun _ => Dp.ite (Dp.seq (Mk.words _) fun _ => Dp.seq Mk.instant fun t => Dp.ret (OptOk.mk (k rfl rfl rfl rfl rfl))) (Dp.seq (Mk.word _) fun _ => Dp.ite ?_ (Dp.seq (Mk.word _) fun _ => Dp.ite (Dp.seq Mk.name fun a => Dp.ret (OptOk.mk (k rfl rfl rfl rfl rfl))) (Dp.seq (Mk.word _) fun _ => Dp.ite ?_ (Dp.seq (Mk.word _) fun _ => Dp.ite (Dp.ret (OptOk.mk (k rfl rfl rfl rfl rfl))) (Dp.ret fun _ s hs => by cases hs))))))))))
  · exact Dp.seq Mk.name fun a => Dp.seq (Mk.words _) fun _ => Dp.seq Mk.name fun b => Dp.seq (Mk.words _) fun _ => Dp.seq Mk.period fun v => Dp.seq (Mk.words _) fun _ => Dp.seq Mk.period fun y => Dp.ret (OptOk.mk (k rfl rfl rfl rfl rfl))
  · exact Dp.seq Mk.name fun a => Dp.seq (Mk.take _) fun t => Dp.seq (Mk.check _ _ _) fun _ => Dp.ret (OptOk.mk (k rfl rfl rfl rfl rfl))
theorem Dp.statement (n : Nat) : Dp StmOk (pStatement n) := by
  refine Dp.bind (Dp.prefix_ Stm.zero) fun x => ?_
  have hq : Dp (fun s => (StmOk Stm.zero → StmOk x.2) → StmOk s) (do
        let q ← pQuery n
        pure { x.2 with kind := 1, query := q } : P Stm) := Dp.bind (Dp.query n) fun q => Dp.ret fun h hx => let h' := hx StmOk.zero; ⟨h, h'.2, h'.3, h'.4, h'.5⟩
  intro C i d a j d' he hd
  simp only at he
  rcases h : C[i]? with _ | t
  · rw [h] at he
    exact hq C i d a j d' he hd
  · rw [h] at he
    simp only at he
    split at he
    · split at he
      · exact (Dp.seq (Ψ := fun s => (StmOk Stm.zero → StmOk x.2) → StmOk s) (Mk.check _ _ _) fun _ => Dp.seq Mk.step fun _ => (Dp.modification n _ _).mono fun s hs hx => hs (hx StmOk.zero) : Dp _ _) C i d a j d' he hd
      · split at he
        · exact hq C i d a j d' he hd
        · split at he
          · exact (wrong_no he).elim
          · refine (Dp.bind (Ψ := fun s => (StmOk Stm.zero → StmOk x.2) → StmOk s) (Dp.command n x.2) fun o => ?_ : Dp _ _) C i d a j d' he hd
            cases o with
            | none => exact Dp.wrong
            | some s => exact Dp.ret fun ho hx => ho (hx StmOk.zero) s rfl
    · exact hq C i d a j d' he hd
theorem whole_ok {α : Type} {Φ : α → Prop} {x : P α} (h : Dp Φ x) {C : List Core} {a : α} (he : pWhole x C = .ok a) : Φ a := by
  unfold pWhole at he
  rcases hx : x C 0 false with ⟨b, j, d⟩ | ⟨j, c⟩
  · rw [hx] at he
    simp only at he
    split at he
    · cases he
    · split at he
      · cases he
      · rename_i hd
        cases he
        exact (h C 0 false _ j d hx (by simpa using hd)).2
  · rw [hx] at he; cases he
end Go.Proofs.YtpmncgbpbcgfaaaGreatDoor

/-
  No parse fails with the code 0.
-/
namespace Go.Proofs.YtpmncgbpbcgfaaaGreatDoor
set_option linter.unusedVariables false
set_option linter.unusedSimpArgs false

def Nz {α : Type} (x : P α) : Prop := ∀ C i d j c, x C i d = .fail j c → 0 < c ∧ c < 100
section
variable {α β : Type}
theorem Nz.ret (a : α) : Nz (Pure.pure a : P α) := by
  intro C i d j c h
  cases h
theorem Nz.bind {x : P α} {f : α → P β} (hx : Nz x) (hf : ∀ a, Nz (f a)) : Nz (x >>= f) := by
  intro C i d j c he
  replace he : P.bind x f C i d = .fail j c := he
  unfold P.bind at he
  rcases hq : x C i d with ⟨a, j0, d0⟩ | ⟨j0, c0⟩
  · rw [hq] at he
    exact hf a C j0 d0 j c he
  · rw [hq] at he
    cases he
    exact hx C i d _ _ hq
theorem Nz.ite {x y : P α} {p : Prop} [Decidable p] (h1 : Nz x) (h2 : Nz y) : Nz (if p then x else y) := by
  split
  · exact h1
  · exact h2
theorem Nz.out : Nz (fun _ _ _ => .fail 0 99 : P α) := by
  intro C i d j c h
  cases h
  omega
theorem Nz.wrong : Nz (pWrong : P α) := by
  intro C i d j c h
  unfold pWrong at h
  split at h <;> cases h <;> omega
theorem Nz.okay (f : List Core → Nat → Bool → α) (g : List Core → Nat → Bool → Nat) (k : List Core → Nat → Bool → Bool) : Nz (fun C i d => .ok (f C i d) (g C i d) (k C i d) : P α) := by
  intro C i d j c h
  cases h
end
theorem Nz.skip (kind : Nat) (l : List UInt8) : Nz (pSkip kind l) := by
  intro C i d j c h
  unfold pSkip at h
  split at h <;> cases h
theorem Nz.word (l : List UInt8) : Nz (pWord l) := Nz.skip _ _
theorem Nz.symbol (l : List UInt8) : Nz (pSymbol l) := Nz.skip _ _
theorem Nz.ahead (n kind : Nat) (l : List UInt8) : Nz (pAhead n kind l) := by
  intro C i d j c h
  cases h
theorem Nz.step : Nz pStep := by
  intro C i d j c h
  cases h
theorem Nz.take (kind : Nat) : Nz (pTake kind) := by
  intro C i d j c h
  unfold pTake at h
  split at h
  · split at h
    · cases h
    · exact Nz.wrong _ _ _ _ _ h
  · exact Nz.wrong _ _ _ _ _ h
theorem Nz.check (b : Bool) (k e : Nat) (he : 0 < e ∧ e < 100) : Nz (pCheck b k e) := by
  intro C i d j c h
  unfold pCheck at h
  split at h
  · cases h
  · cases h
    exact he
theorem Nz.words : ∀ l, Nz (pWords l)
  | [] => Nz.ret ()
  | s :: l => Nz.bind (Nz.word s) fun _ => Nz.ite (Nz.words l) Nz.wrong
theorem Nz.need (l : List UInt8) : Nz (pNeed l) := by
  unfold pNeed
  repeat' first
    | assumption
    | exact Nz.words _
    | exact Nz.ret _
    | exact Nz.wrong
    | exact Nz.out
    | exact Nz.okay _ _ _
    | exact Nz.word _
    | exact Nz.symbol _
    | exact Nz.ahead _ _ _
    | exact Nz.step
    | exact Nz.take _
    | exact Nz.check _ _ _ (by omega)
    | (refine Nz.bind ?_ fun _ => ?_)
    | (refine Nz.ite ?_ ?_)
    | split
theorem Nz.name : Nz pName := by
  unfold pName
  repeat' first
    | assumption
    | exact Nz.need _
    | exact Nz.words _
    | exact Nz.ret _
    | exact Nz.wrong
    | exact Nz.out
    | exact Nz.okay _ _ _
    | exact Nz.word _
    | exact Nz.symbol _
    | exact Nz.ahead _ _ _
    | exact Nz.step
    | exact Nz.take _
    | exact Nz.check _ _ _ (by omega)
    | (refine Nz.bind ?_ fun _ => ?_)
    | (refine Nz.ite ?_ ?_)
    | split
theorem Nz.instant : Nz pInstant := by
  unfold pInstant
  repeat' first
    | assumption
    | exact Nz.name
    | exact Nz.need _
    | exact Nz.words _
    | exact Nz.ret _
    | exact Nz.wrong
    | exact Nz.out
    | exact Nz.okay _ _ _
    | exact Nz.word _
    | exact Nz.symbol _
    | exact Nz.ahead _ _ _
    | exact Nz.step
    | exact Nz.take _
    | exact Nz.check _ _ _ (by omega)
    | (refine Nz.bind ?_ fun _ => ?_)
    | (refine Nz.ite ?_ ?_)
    | split
theorem Nz.period : Nz pPeriod := by
  unfold pPeriod
  repeat' first
    | assumption
    | exact Nz.instant
    | exact Nz.name
    | exact Nz.need _
    | exact Nz.words _
    | exact Nz.ret _
    | exact Nz.wrong
    | exact Nz.out
    | exact Nz.okay _ _ _
    | exact Nz.word _
    | exact Nz.symbol _
    | exact Nz.ahead _ _ _
    | exact Nz.step
    | exact Nz.take _
    | exact Nz.check _ _ _ (by omega)
    | (refine Nz.bind ?_ fun _ => ?_)
    | (refine Nz.ite ?_ ?_)
    | split
theorem Nz.more {α : Type} {x : P α} (h : Nz x) : ∀ n l, Nz (pMore x n l)
  | 0, _ => Nz.out
  | n + 1, l => Nz.bind (Nz.symbol _) fun _ => Nz.ite (Nz.bind h fun a => Nz.more h n _) (Nz.ret _)
theorem Nz.list {α : Type} {x : P α} (h : Nz x) (n : Nat) : Nz (pList n x) := Nz.bind h fun a => Nz.more h n _
theorem Nz.plain : Nz pPlain := Nz.bind (Nz.word _) fun _ => Nz.ite (Nz.ret _) (Nz.bind (Nz.word _) fun _ => Nz.ite (Nz.ret _) (Nz.bind (Nz.word _) fun _ => Nz.ite (Nz.ret _) (by
  intro C i d j c h
  simp only at h
  split at h
  · cases h
  · split at h
    · cases h
    · split at h <;> cases h)))
theorem Nz.literal : Nz pLiteral := by
  unfold pLiteral
  repeat' first
    | assumption
    | exact Nz.plain
    | (refine Nz.list ?_ _)
    | exact Nz.period
    | exact Nz.instant
    | exact Nz.name
    | exact Nz.need _
    | exact Nz.words _
    | exact Nz.ret _
    | exact Nz.wrong
    | exact Nz.out
    | exact Nz.okay _ _ _
    | exact Nz.word _
    | exact Nz.symbol _
    | exact Nz.ahead _ _ _
    | exact Nz.step
    | exact Nz.take _
    | exact Nz.check _ _ _ (by omega)
    | (refine Nz.bind ?_ fun _ => ?_)
    | (refine Nz.ite ?_ ?_)
    | split
theorem Nz.join {x : P E} (word : List UInt8) (h : Nz x) : ∀ n l, Nz (pJoin word x n l)
  | 0, _ => Nz.out
  | n + 1, l => Nz.bind (Nz.word _) fun _ => Nz.ite (Nz.bind h fun e => Nz.join word h n _) (Nz.ret _)
theorem Nz.joined {x : P E} (n op : Nat) (word : List UInt8) (h : Nz x) : Nz (pJoined n op word x) := Nz.bind h fun e => Nz.bind (Nz.join word h n _) fun l => Nz.ret _
theorem Nz.operator : ∀ l : List (List UInt8 × Nat), Nz (pOperator l)
  | [] => Nz.ret _
  | (s, op) :: l => Nz.bind (Nz.symbol _) fun _ => Nz.ite (Nz.ret _) (Nz.operator l)
theorem Nz.chainGo {x : P E} (ops : List (List UInt8 × Nat)) (h : Nz x) : ∀ n e, Nz (pChainGo ops x n e)
  | 0, _ => Nz.out
  | n + 1, e => Nz.bind (Nz.operator ops) fun o => by
    cases o
    · exact Nz.ret _
    · exact Nz.bind h fun f => Nz.chainGo ops h n _
theorem Nz.chain {x : P E} (n : Nat) (ops : List (List UInt8 × Nat)) (h : Nz x) : Nz (pChain n ops x) := Nz.bind h fun e => Nz.chainGo ops h n e
theorem Nz.sum {x : P E} (n : Nat) (h : Nz x) : Nz (pSum n x) := Nz.chain n _ (Nz.chain n _ h)
theorem Nz.compare {x : P E} (n : Nat) (h : Nz x) : Nz (pCompare n x) := by
  intro C i d j c he
  unfold pCompare at he
  rcases hr : relOf C i with _ | rel
  · rw [hr] at he
    refine (Nz.bind (Nz.sum n h) fun e => Nz.bind (Nz.operator _) fun o => ?_ : Nz _) C i d j c he
    cases o
    · exact Nz.bind (Nz.word _) fun _ => Nz.ite (Nz.bind (Nz.word _) fun no => Nz.bind (Nz.words _) fun _ => Nz.ret _) (Nz.ret _)
    · exact Nz.bind (Nz.sum n h) fun f => Nz.ret _
  · rw [hr] at he
    exact (Nz.bind Nz.name fun a => Nz.bind Nz.step fun _ => Nz.bind Nz.name fun b => Nz.ret _ : Nz _) C i d j c he
theorem Nz.args {x : P E} (k : Nat) (h : Nz x) : ∀ n i l, Nz (pArgs x k n i l)
  | 0, _, _ => Nz.out
  | n + 1, i, l => Nz.bind (Nz.ahead _ _ _) fun more => Nz.ite (Nz.bind (Nz.need _) fun _ => Nz.bind h fun e => Nz.args k h n _ _) (Nz.ret _)
theorem Nz.call {x : P E} (n op k : Nat) (h : Nz x) : Nz (pCall n x op k) := Nz.bind (Nz.need _) fun _ => Nz.bind h fun e => Nz.bind (Nz.args k h n _ _) fun l => Nz.bind (Nz.need _) fun _ => Nz.ret _
theorem Nz.ref : Nz pRef := Nz.bind Nz.name fun s => Nz.bind (Nz.symbol _) fun _ => Nz.ite (Nz.bind Nz.name fun t => Nz.ret _) (Nz.ret _)
theorem Nz.primary {x : P E} (n : Nat) (h : Nz x) : Nz (pPrimary n x) := by
  refine Nz.bind Nz.plain fun o => ?_
  cases o with
  | some v => exact Nz.ret _
  | none =>
    refine Nz.bind (Nz.symbol _) fun _ => Nz.ite (Nz.bind h fun e => Nz.bind (Nz.need _) fun _ => Nz.ret _) (Nz.bind (Nz.word _) fun _ => Nz.ite (Nz.call _ _ _ h) (Nz.bind (Nz.word _) fun _ => Nz.ite (Nz.call _ _ _ h) (Nz.bind (Nz.word _) fun _ => Nz.ite (Nz.call _ _ _ h) ?_)))
    intro C i d j c he
    simp only at he
    split at he
    · rcases hq : C[i]?.bind (fun t => boundOf t.text) with _ | b
      · rw [hq] at he
        exact Nz.wrong _ _ _ _ _ he
      · rw [hq] at he
        exact (Nz.bind Nz.step fun _ => Nz.bind (Nz.need _) fun _ => Nz.bind Nz.name fun s => Nz.bind (Nz.need _) fun _ => Nz.ret _ : Nz _) C i d j c he
    · exact Nz.ref C i d j c he
theorem Nz.exprs : ∀ n, Nz (pOr n) ∧ Nz (pNot n) ∧ Nz (pUnary n)
  | 0 => ⟨by unfold pOr; exact Nz.out, by unfold pNot; exact Nz.out, by unfold pUnary; exact Nz.out⟩
  | n + 1 => by
    obtain ⟨h1, h2, h3⟩ := Nz.exprs n
    refine ⟨?_, ?_, ?_⟩
    · unfold pOr
      exact Nz.joined _ _ _ (Nz.joined _ _ _ h2)
    · unfold pNot
      exact Nz.bind (Nz.word _) fun _ => Nz.ite (Nz.bind h2 fun e => Nz.ret _) (Nz.compare n h3)
    · unfold pUnary
      refine Nz.bind (Nz.ahead _ _ _) fun _ => Nz.ite ?_ (Nz.primary n h1)
      intro C i d j c he
      simp only at he
      split at he
      · exact (Nz.bind Nz.literal fun v => Nz.ret _ : Nz _) C i d j c he
      · exact (Nz.bind Nz.step fun _ => Nz.bind h3 fun e => Nz.ret _ : Nz _) C i d j c he
theorem Nz.expr (n : Nat) : Nz (pExpr n) := by
  intro C i d j c he
  unfold pExpr at he
  rcases hq : pOr n C i d with ⟨e, j0, d0⟩ | ⟨j0, c0⟩
  · rw [hq] at he
    cases he
  · rw [hq] at he
    cases he
    exact (Nz.exprs n).1 C i d _ _ hq
theorem Nz.clause : Nz pClause := by
  unfold pClause
  repeat' first
    | assumption
    | exact Nz.expr _
    | exact Nz.ref
    | exact Nz.literal
    | exact Nz.plain
    | (refine Nz.list ?_ _)
    | exact Nz.period
    | exact Nz.instant
    | exact Nz.name
    | exact Nz.need _
    | exact Nz.words _
    | exact Nz.ret _
    | exact Nz.wrong
    | exact Nz.out
    | exact Nz.okay _ _ _
    | exact Nz.word _
    | exact Nz.symbol _
    | exact Nz.ahead _ _ _
    | exact Nz.step
    | exact Nz.take _
    | exact Nz.check _ _ _ (by omega)
    | (refine Nz.bind ?_ fun _ => ?_)
    | (refine Nz.ite ?_ ?_)
    | split
theorem Nz.source : Nz pSource := by
  unfold pSource
  repeat' first
    | assumption
    | exact Nz.clause
    | exact Nz.expr _
    | exact Nz.ref
    | exact Nz.literal
    | exact Nz.plain
    | (refine Nz.list ?_ _)
    | exact Nz.period
    | exact Nz.instant
    | exact Nz.name
    | exact Nz.need _
    | exact Nz.words _
    | exact Nz.ret _
    | exact Nz.wrong
    | exact Nz.out
    | exact Nz.okay _ _ _
    | exact Nz.word _
    | exact Nz.symbol _
    | exact Nz.ahead _ _ _
    | exact Nz.step
    | exact Nz.take _
    | exact Nz.check _ _ _ (by omega)
    | (refine Nz.bind ?_ fun _ => ?_)
    | (refine Nz.ite ?_ ?_)
    | split
theorem Nz.aggregate : Nz pAggregate := by
  unfold pAggregate
  repeat' first
    | assumption
    | exact Nz.source
    | exact Nz.clause
    | exact Nz.expr _
    | exact Nz.ref
    | exact Nz.literal
    | exact Nz.plain
    | (refine Nz.list ?_ _)
    | exact Nz.period
    | exact Nz.instant
    | exact Nz.name
    | exact Nz.need _
    | exact Nz.words _
    | exact Nz.ret _
    | exact Nz.wrong
    | exact Nz.out
    | exact Nz.okay _ _ _
    | exact Nz.word _
    | exact Nz.symbol _
    | exact Nz.ahead _ _ _
    | exact Nz.step
    | exact Nz.take _
    | exact Nz.check _ _ _ (by omega)
    | (refine Nz.bind ?_ fun _ => ?_)
    | (refine Nz.ite ?_ ?_)
    | split
theorem Nz.item (n : Nat) : Nz (pItem n) := by
  unfold pItem
  repeat' first
    | assumption
    | exact Nz.aggregate
    | exact Nz.source
    | exact Nz.clause
    | exact Nz.expr _
    | exact Nz.ref
    | exact Nz.literal
    | exact Nz.plain
    | (refine Nz.list ?_ _)
    | exact Nz.period
    | exact Nz.instant
    | exact Nz.name
    | exact Nz.need _
    | exact Nz.words _
    | exact Nz.ret _
    | exact Nz.wrong
    | exact Nz.out
    | exact Nz.okay _ _ _
    | exact Nz.word _
    | exact Nz.symbol _
    | exact Nz.ahead _ _ _
    | exact Nz.step
    | exact Nz.take _
    | exact Nz.check _ _ _ (by omega)
    | (refine Nz.bind ?_ fun _ => ?_)
    | (refine Nz.ite ?_ ?_)
    | split
theorem Nz.joins (n : Nat) : ∀ k l, Nz (pJoins n k l)
  | 0, _ => Nz.out
  | k + 1, l => by
    have ih := Nz.joins n k
    unfold pJoins
    repeat' first
      | assumption
      | exact Nz.item _
      | exact Nz.aggregate
      | exact Nz.source
      | exact Nz.clause
      | exact Nz.expr _
      | exact Nz.ref
      | exact Nz.literal
      | exact Nz.plain
      | (refine Nz.list ?_ _)
      | exact Nz.period
      | exact Nz.instant
      | exact Nz.name
      | exact Nz.need _
      | exact Nz.words _
      | exact Nz.ret _
      | exact Nz.wrong
      | exact Nz.out
      | exact Nz.okay _ _ _
      | exact Nz.word _
      | exact Nz.symbol _
      | exact Nz.ahead _ _ _
      | exact Nz.step
      | exact Nz.take _
      | exact Nz.check _ _ _ (by omega)
      | exact ih _
      | (refine Nz.bind ?_ fun _ => ?_)
      | (refine Nz.ite ?_ ?_)
      | split
theorem Nz.where_ (n : Nat) : Nz (pWhere n) := by
  unfold pWhere
  repeat' first
    | assumption
    | exact Nz.joins _ _ _
    | exact Nz.item _
    | exact Nz.aggregate
    | exact Nz.source
    | exact Nz.clause
    | exact Nz.expr _
    | exact Nz.ref
    | exact Nz.literal
    | exact Nz.plain
    | (refine Nz.list ?_ _)
    | exact Nz.period
    | exact Nz.instant
    | exact Nz.name
    | exact Nz.need _
    | exact Nz.words _
    | exact Nz.ret _
    | exact Nz.wrong
    | exact Nz.out
    | exact Nz.okay _ _ _
    | exact Nz.word _
    | exact Nz.symbol _
    | exact Nz.ahead _ _ _
    | exact Nz.step
    | exact Nz.take _
    | exact Nz.check _ _ _ (by omega)
    | (refine Nz.bind ?_ fun _ => ?_)
    | (refine Nz.ite ?_ ?_)
    | split
theorem Nz.sel (n : Nat) : Nz (pSel n) := by
  unfold pSel
  repeat' first
    | assumption
    | exact Nz.where_ _
    | exact Nz.joins _ _ _
    | exact Nz.item _
    | exact Nz.aggregate
    | exact Nz.source
    | exact Nz.clause
    | exact Nz.expr _
    | exact Nz.ref
    | exact Nz.literal
    | exact Nz.plain
    | (refine Nz.list ?_ _)
    | exact Nz.period
    | exact Nz.instant
    | exact Nz.name
    | exact Nz.need _
    | exact Nz.words _
    | exact Nz.ret _
    | exact Nz.wrong
    | exact Nz.out
    | exact Nz.okay _ _ _
    | exact Nz.word _
    | exact Nz.symbol _
    | exact Nz.ahead _ _ _
    | exact Nz.step
    | exact Nz.take _
    | exact Nz.check _ _ _ (by omega)
    | (refine Nz.bind ?_ fun _ => ?_)
    | (refine Nz.ite ?_ ?_)
    | split
theorem Nz.combination : Nz pCombination := by
  unfold pCombination
  repeat' first
    | assumption
    | exact Nz.sel _
    | exact Nz.where_ _
    | exact Nz.joins _ _ _
    | exact Nz.item _
    | exact Nz.aggregate
    | exact Nz.source
    | exact Nz.clause
    | exact Nz.expr _
    | exact Nz.ref
    | exact Nz.literal
    | exact Nz.plain
    | (refine Nz.list ?_ _)
    | exact Nz.period
    | exact Nz.instant
    | exact Nz.name
    | exact Nz.need _
    | exact Nz.words _
    | exact Nz.ret _
    | exact Nz.wrong
    | exact Nz.out
    | exact Nz.okay _ _ _
    | exact Nz.word _
    | exact Nz.symbol _
    | exact Nz.ahead _ _ _
    | exact Nz.step
    | exact Nz.take _
    | exact Nz.check _ _ _ (by omega)
    | (refine Nz.bind ?_ fun _ => ?_)
    | (refine Nz.ite ?_ ?_)
    | split
theorem Nz.combGo {term : P (Qry × Nat)} (h : Nz term) : ∀ k q, Nz (pCombGo term k q)
  | 0, _ => Nz.out
  | k + 1, q => by
    have ih := Nz.combGo h k
    unfold pCombGo
    repeat' first
      | assumption
      | exact Nz.combination
      | exact Nz.sel _
      | exact Nz.where_ _
      | exact Nz.joins _ _ _
      | exact Nz.item _
      | exact Nz.aggregate
      | exact Nz.source
      | exact Nz.clause
      | exact Nz.expr _
      | exact Nz.ref
      | exact Nz.literal
      | exact Nz.plain
      | (refine Nz.list ?_ _)
      | exact Nz.period
      | exact Nz.instant
      | exact Nz.name
      | exact Nz.need _
      | exact Nz.words _
      | exact Nz.ret _
      | exact Nz.wrong
      | exact Nz.out
      | exact Nz.okay _ _ _
      | exact Nz.word _
      | exact Nz.symbol _
      | exact Nz.ahead _ _ _
      | exact Nz.step
      | exact Nz.take _
      | exact Nz.check _ _ _ (by omega)
      | exact ih _
      | (refine Nz.bind ?_ fun _ => ?_)
      | (refine Nz.ite ?_ ?_)
      | split
theorem Nz.combined : ∀ n, Nz (pCombined n)
  | 0 => by unfold pCombined; exact Nz.out
  | n + 1 => by
    have ih := Nz.combined n
    have ht : Nz (do
      if ← pSymbol [40] then
        let q ← pCombined n
        pNeed [41]
        pure q
      else
        pWords [[83, 69, 76, 69, 67, 84]]
        let s ← pSel n
        pure (.mk 0 false s [] [] (-1), 1) : P (Qry × Nat)) := by
      repeat' first
        | assumption
        | exact Nz.combination
        | exact Nz.sel _
        | exact Nz.where_ _
        | exact Nz.joins _ _ _
        | exact Nz.item _
        | exact Nz.aggregate
        | exact Nz.source
        | exact Nz.clause
        | exact Nz.expr _
        | exact Nz.ref
        | exact Nz.literal
        | exact Nz.plain
        | (refine Nz.list ?_ _)
        | exact Nz.period
        | exact Nz.instant
        | exact Nz.name
        | exact Nz.need _
        | exact Nz.words _
        | exact Nz.ret _
        | exact Nz.wrong
        | exact Nz.out
        | exact Nz.okay _ _ _
        | exact Nz.word _
        | exact Nz.symbol _
        | exact Nz.ahead _ _ _
        | exact Nz.step
        | exact Nz.take _
        | exact Nz.check _ _ _ (by omega)
        | (refine Nz.bind ?_ fun _ => ?_)
        | (refine Nz.ite ?_ ?_)
        | split
    unfold pCombined
    exact Nz.bind ht fun q => Nz.combGo ht n q
theorem Nz.order : Nz pOrder := by
  unfold pOrder
  repeat' first
    | assumption
    | exact Nz.combined _
    | exact Nz.combination
    | exact Nz.sel _
    | exact Nz.where_ _
    | exact Nz.joins _ _ _
    | exact Nz.item _
    | exact Nz.aggregate
    | exact Nz.source
    | exact Nz.clause
    | exact Nz.expr _
    | exact Nz.ref
    | exact Nz.literal
    | exact Nz.plain
    | (refine Nz.list ?_ _)
    | exact Nz.period
    | exact Nz.instant
    | exact Nz.name
    | exact Nz.need _
    | exact Nz.words _
    | exact Nz.ret _
    | exact Nz.wrong
    | exact Nz.out
    | exact Nz.okay _ _ _
    | exact Nz.word _
    | exact Nz.symbol _
    | exact Nz.ahead _ _ _
    | exact Nz.step
    | exact Nz.take _
    | exact Nz.check _ _ _ (by omega)
    | (refine Nz.bind ?_ fun _ => ?_)
    | (refine Nz.ite ?_ ?_)
    | split
theorem Nz.query (n : Nat) : Nz (pQuery n) := by
  unfold pQuery
  repeat' first
    | assumption
    | exact Nz.order
    | exact Nz.combined _
    | exact Nz.combination
    | exact Nz.sel _
    | exact Nz.where_ _
    | exact Nz.joins _ _ _
    | exact Nz.item _
    | exact Nz.aggregate
    | exact Nz.source
    | exact Nz.clause
    | exact Nz.expr _
    | exact Nz.ref
    | exact Nz.literal
    | exact Nz.plain
    | (refine Nz.list ?_ _)
    | exact Nz.period
    | exact Nz.instant
    | exact Nz.name
    | exact Nz.need _
    | exact Nz.words _
    | exact Nz.ret _
    | exact Nz.wrong
    | exact Nz.out
    | exact Nz.okay _ _ _
    | exact Nz.word _
    | exact Nz.symbol _
    | exact Nz.ahead _ _ _
    | exact Nz.step
    | exact Nz.take _
    | exact Nz.check _ _ _ (by omega)
    | (refine Nz.bind ?_ fun _ => ?_)
    | (refine Nz.ite ?_ ?_)
    | split
theorem Nz.prefix_ (st : Stm) : Nz (pPrefix st) := by
  unfold pPrefix
  repeat' first
    | assumption
    | exact Nz.query _
    | exact Nz.order
    | exact Nz.combined _
    | exact Nz.combination
    | exact Nz.sel _
    | exact Nz.where_ _
    | exact Nz.joins _ _ _
    | exact Nz.item _
    | exact Nz.aggregate
    | exact Nz.source
    | exact Nz.clause
    | exact Nz.expr _
    | exact Nz.ref
    | exact Nz.literal
    | exact Nz.plain
    | (refine Nz.list ?_ _)
    | exact Nz.period
    | exact Nz.instant
    | exact Nz.name
    | exact Nz.need _
    | exact Nz.words _
    | exact Nz.ret _
    | exact Nz.wrong
    | exact Nz.out
    | exact Nz.okay _ _ _
    | exact Nz.word _
    | exact Nz.symbol _
    | exact Nz.ahead _ _ _
    | exact Nz.step
    | exact Nz.take _
    | exact Nz.check _ _ _ (by omega)
    | (refine Nz.bind ?_ fun _ => ?_)
    | (refine Nz.ite ?_ ?_)
    | split
theorem Nz.set (n : Nat) : Nz (pSet n) := by
  unfold pSet
  repeat' first
    | assumption
    | exact Nz.prefix_ _
    | exact Nz.query _
    | exact Nz.order
    | exact Nz.combined _
    | exact Nz.combination
    | exact Nz.sel _
    | exact Nz.where_ _
    | exact Nz.joins _ _ _
    | exact Nz.item _
    | exact Nz.aggregate
    | exact Nz.source
    | exact Nz.clause
    | exact Nz.expr _
    | exact Nz.ref
    | exact Nz.literal
    | exact Nz.plain
    | (refine Nz.list ?_ _)
    | exact Nz.period
    | exact Nz.instant
    | exact Nz.name
    | exact Nz.need _
    | exact Nz.words _
    | exact Nz.ret _
    | exact Nz.wrong
    | exact Nz.out
    | exact Nz.okay _ _ _
    | exact Nz.word _
    | exact Nz.symbol _
    | exact Nz.ahead _ _ _
    | exact Nz.step
    | exact Nz.take _
    | exact Nz.check _ _ _ (by omega)
    | (refine Nz.bind ?_ fun _ => ?_)
    | (refine Nz.ite ?_ ?_)
    | split
theorem Nz.row (n : Nat) : Nz (pRow n) := by
  unfold pRow
  repeat' first
    | assumption
    | exact Nz.set _
    | exact Nz.prefix_ _
    | exact Nz.query _
    | exact Nz.order
    | exact Nz.combined _
    | exact Nz.combination
    | exact Nz.sel _
    | exact Nz.where_ _
    | exact Nz.joins _ _ _
    | exact Nz.item _
    | exact Nz.aggregate
    | exact Nz.source
    | exact Nz.clause
    | exact Nz.expr _
    | exact Nz.ref
    | exact Nz.literal
    | exact Nz.plain
    | (refine Nz.list ?_ _)
    | exact Nz.period
    | exact Nz.instant
    | exact Nz.name
    | exact Nz.need _
    | exact Nz.words _
    | exact Nz.ret _
    | exact Nz.wrong
    | exact Nz.out
    | exact Nz.okay _ _ _
    | exact Nz.word _
    | exact Nz.symbol _
    | exact Nz.ahead _ _ _
    | exact Nz.step
    | exact Nz.take _
    | exact Nz.check _ _ _ (by omega)
    | (refine Nz.bind ?_ fun _ => ?_)
    | (refine Nz.ite ?_ ?_)
    | split
theorem Nz.modification (n : Nat) (word : List UInt8) (st : Stm) : Nz (pModification n word st) := by
  unfold pModification
  repeat' first
    | assumption
    | exact Nz.row _
    | exact Nz.set _
    | exact Nz.prefix_ _
    | exact Nz.query _
    | exact Nz.order
    | exact Nz.combined _
    | exact Nz.combination
    | exact Nz.sel _
    | exact Nz.where_ _
    | exact Nz.joins _ _ _
    | exact Nz.item _
    | exact Nz.aggregate
    | exact Nz.source
    | exact Nz.clause
    | exact Nz.expr _
    | exact Nz.ref
    | exact Nz.literal
    | exact Nz.plain
    | (refine Nz.list ?_ _)
    | exact Nz.period
    | exact Nz.instant
    | exact Nz.name
    | exact Nz.need _
    | exact Nz.words _
    | exact Nz.ret _
    | exact Nz.wrong
    | exact Nz.out
    | exact Nz.okay _ _ _
    | exact Nz.word _
    | exact Nz.symbol _
    | exact Nz.ahead _ _ _
    | exact Nz.step
    | exact Nz.take _
    | exact Nz.check _ _ _ (by omega)
    | (refine Nz.bind ?_ fun _ => ?_)
    | (refine Nz.ite ?_ ?_)
    | split
theorem Nz.column : Nz pColumn := by
  unfold pColumn
  repeat' first
    | assumption
    | exact Nz.modification _ _ _
    | exact Nz.row _
    | exact Nz.set _
    | exact Nz.prefix_ _
    | exact Nz.query _
    | exact Nz.order
    | exact Nz.combined _
    | exact Nz.combination
    | exact Nz.sel _
    | exact Nz.where_ _
    | exact Nz.joins _ _ _
    | exact Nz.item _
    | exact Nz.aggregate
    | exact Nz.source
    | exact Nz.clause
    | exact Nz.expr _
    | exact Nz.ref
    | exact Nz.literal
    | exact Nz.plain
    | (refine Nz.list ?_ _)
    | exact Nz.period
    | exact Nz.instant
    | exact Nz.name
    | exact Nz.need _
    | exact Nz.words _
    | exact Nz.ret _
    | exact Nz.wrong
    | exact Nz.out
    | exact Nz.okay _ _ _
    | exact Nz.word _
    | exact Nz.symbol _
    | exact Nz.ahead _ _ _
    | exact Nz.step
    | exact Nz.take _
    | exact Nz.check _ _ _ (by omega)
    | (refine Nz.bind ?_ fun _ => ?_)
    | (refine Nz.ite ?_ ?_)
    | split
theorem Nz.names (n : Nat) : Nz (pNames n) := by
  unfold pNames
  repeat' first
    | assumption
    | exact Nz.column
    | exact Nz.modification _ _ _
    | exact Nz.row _
    | exact Nz.set _
    | exact Nz.prefix_ _
    | exact Nz.query _
    | exact Nz.order
    | exact Nz.combined _
    | exact Nz.combination
    | exact Nz.sel _
    | exact Nz.where_ _
    | exact Nz.joins _ _ _
    | exact Nz.item _
    | exact Nz.aggregate
    | exact Nz.source
    | exact Nz.clause
    | exact Nz.expr _
    | exact Nz.ref
    | exact Nz.literal
    | exact Nz.plain
    | (refine Nz.list ?_ _)
    | exact Nz.period
    | exact Nz.instant
    | exact Nz.name
    | exact Nz.need _
    | exact Nz.words _
    | exact Nz.ret _
    | exact Nz.wrong
    | exact Nz.out
    | exact Nz.okay _ _ _
    | exact Nz.word _
    | exact Nz.symbol _
    | exact Nz.ahead _ _ _
    | exact Nz.step
    | exact Nz.take _
    | exact Nz.check _ _ _ (by omega)
    | (refine Nz.bind ?_ fun _ => ?_)
    | (refine Nz.ite ?_ ?_)
    | split
theorem Nz.indexes (cols : List Col) : ∀ l, Nz (pIndexes cols l)
  | [] => Nz.ret _
  | t :: l => Nz.bind (Nz.check _ _ _ (by omega)) fun _ => Nz.bind (Nz.indexes cols l) fun r => Nz.ret _
theorem Nz.columns (n : Nat) (cols : List Col) : Nz (pColumns n cols) := by
  unfold pColumns
  repeat' first
    | assumption
    | exact Nz.indexes _ _
    | exact Nz.names _
    | exact Nz.column
    | exact Nz.modification _ _ _
    | exact Nz.row _
    | exact Nz.set _
    | exact Nz.prefix_ _
    | exact Nz.query _
    | exact Nz.order
    | exact Nz.combined _
    | exact Nz.combination
    | exact Nz.sel _
    | exact Nz.where_ _
    | exact Nz.joins _ _ _
    | exact Nz.item _
    | exact Nz.aggregate
    | exact Nz.source
    | exact Nz.clause
    | exact Nz.expr _
    | exact Nz.ref
    | exact Nz.literal
    | exact Nz.plain
    | (refine Nz.list ?_ _)
    | exact Nz.period
    | exact Nz.instant
    | exact Nz.name
    | exact Nz.need _
    | exact Nz.words _
    | exact Nz.ret _
    | exact Nz.wrong
    | exact Nz.out
    | exact Nz.okay _ _ _
    | exact Nz.word _
    | exact Nz.symbol _
    | exact Nz.ahead _ _ _
    | exact Nz.step
    | exact Nz.take _
    | exact Nz.check _ _ _ (by omega)
    | (refine Nz.bind ?_ fun _ => ?_)
    | (refine Nz.ite ?_ ?_)
    | split
theorem Nz.colsGo : ∀ k l, Nz (pColsGo k l)
  | 0, _ => Nz.out
  | k + 1, l => by
    have ih := Nz.colsGo k
    unfold pColsGo
    repeat' first
      | assumption
      | exact Nz.columns _ _
      | exact Nz.indexes _ _
      | exact Nz.names _
      | exact Nz.column
      | exact Nz.modification _ _ _
      | exact Nz.row _
      | exact Nz.set _
      | exact Nz.prefix_ _
      | exact Nz.query _
      | exact Nz.order
      | exact Nz.combined _
      | exact Nz.combination
      | exact Nz.sel _
      | exact Nz.where_ _
      | exact Nz.joins _ _ _
      | exact Nz.item _
      | exact Nz.aggregate
      | exact Nz.source
      | exact Nz.clause
      | exact Nz.expr _
      | exact Nz.ref
      | exact Nz.literal
      | exact Nz.plain
      | (refine Nz.list ?_ _)
      | exact Nz.period
      | exact Nz.instant
      | exact Nz.name
      | exact Nz.need _
      | exact Nz.words _
      | exact Nz.ret _
      | exact Nz.wrong
      | exact Nz.out
      | exact Nz.okay _ _ _
      | exact Nz.word _
      | exact Nz.symbol _
      | exact Nz.ahead _ _ _
      | exact Nz.step
      | exact Nz.take _
      | exact Nz.check _ _ _ (by omega)
      | exact ih _
      | (refine Nz.bind ?_ fun _ => ?_)
      | (refine Nz.ite ?_ ?_)
      | split
theorem Nz.frnsGo (n : Nat) (cols : List Col) : ∀ k l, Nz (pFrnsGo n cols k l)
  | 0, _ => Nz.out
  | k + 1, l => by
    have ih := Nz.frnsGo n cols k
    unfold pFrnsGo
    repeat' first
      | assumption
      | exact Nz.colsGo _ _
      | exact Nz.columns _ _
      | exact Nz.indexes _ _
      | exact Nz.names _
      | exact Nz.column
      | exact Nz.modification _ _ _
      | exact Nz.row _
      | exact Nz.set _
      | exact Nz.prefix_ _
      | exact Nz.query _
      | exact Nz.order
      | exact Nz.combined _
      | exact Nz.combination
      | exact Nz.sel _
      | exact Nz.where_ _
      | exact Nz.joins _ _ _
      | exact Nz.item _
      | exact Nz.aggregate
      | exact Nz.source
      | exact Nz.clause
      | exact Nz.expr _
      | exact Nz.ref
      | exact Nz.literal
      | exact Nz.plain
      | (refine Nz.list ?_ _)
      | exact Nz.period
      | exact Nz.instant
      | exact Nz.name
      | exact Nz.need _
      | exact Nz.words _
      | exact Nz.ret _
      | exact Nz.wrong
      | exact Nz.out
      | exact Nz.okay _ _ _
      | exact Nz.word _
      | exact Nz.symbol _
      | exact Nz.ahead _ _ _
      | exact Nz.step
      | exact Nz.take _
      | exact Nz.check _ _ _ (by omega)
      | exact ih _
      | (refine Nz.bind ?_ fun _ => ?_)
      | (refine Nz.ite ?_ ?_)
      | split
theorem Nz.checksGo (n : Nat) : ∀ k l, Nz (pChecksGo n k l)
  | 0, _ => Nz.out
  | k + 1, l => by
    have ih := Nz.checksGo n k
    unfold pChecksGo
    repeat' first
      | assumption
      | exact Nz.frnsGo _ _ _ _
      | exact Nz.colsGo _ _
      | exact Nz.columns _ _
      | exact Nz.indexes _ _
      | exact Nz.names _
      | exact Nz.column
      | exact Nz.modification _ _ _
      | exact Nz.row _
      | exact Nz.set _
      | exact Nz.prefix_ _
      | exact Nz.query _
      | exact Nz.order
      | exact Nz.combined _
      | exact Nz.combination
      | exact Nz.sel _
      | exact Nz.where_ _
      | exact Nz.joins _ _ _
      | exact Nz.item _
      | exact Nz.aggregate
      | exact Nz.source
      | exact Nz.clause
      | exact Nz.expr _
      | exact Nz.ref
      | exact Nz.literal
      | exact Nz.plain
      | (refine Nz.list ?_ _)
      | exact Nz.period
      | exact Nz.instant
      | exact Nz.name
      | exact Nz.need _
      | exact Nz.words _
      | exact Nz.ret _
      | exact Nz.wrong
      | exact Nz.out
      | exact Nz.okay _ _ _
      | exact Nz.word _
      | exact Nz.symbol _
      | exact Nz.ahead _ _ _
      | exact Nz.step
      | exact Nz.take _
      | exact Nz.check _ _ _ (by omega)
      | exact ih _
      | (refine Nz.bind ?_ fun _ => ?_)
      | (refine Nz.ite ?_ ?_)
      | split
theorem Nz.create (n : Nat) (st : Stm) : Nz (pCreate n st) := by
  unfold pCreate
  repeat' first
    | assumption
    | exact Nz.checksGo _ _ _
    | exact Nz.frnsGo _ _ _ _
    | exact Nz.colsGo _ _
    | exact Nz.columns _ _
    | exact Nz.indexes _ _
    | exact Nz.names _
    | exact Nz.column
    | exact Nz.modification _ _ _
    | exact Nz.row _
    | exact Nz.set _
    | exact Nz.prefix_ _
    | exact Nz.query _
    | exact Nz.order
    | exact Nz.combined _
    | exact Nz.combination
    | exact Nz.sel _
    | exact Nz.where_ _
    | exact Nz.joins _ _ _
    | exact Nz.item _
    | exact Nz.aggregate
    | exact Nz.source
    | exact Nz.clause
    | exact Nz.expr _
    | exact Nz.ref
    | exact Nz.literal
    | exact Nz.plain
    | (refine Nz.list ?_ _)
    | exact Nz.period
    | exact Nz.instant
    | exact Nz.name
    | exact Nz.need _
    | exact Nz.words _
    | exact Nz.ret _
    | exact Nz.wrong
    | exact Nz.out
    | exact Nz.okay _ _ _
    | exact Nz.word _
    | exact Nz.symbol _
    | exact Nz.ahead _ _ _
    | exact Nz.step
    | exact Nz.take _
    | exact Nz.check _ _ _ (by omega)
    | (refine Nz.bind ?_ fun _ => ?_)
    | (refine Nz.ite ?_ ?_)
    | split
theorem Nz.alter (st : Stm) : Nz (pAlter st) := by
  unfold pAlter
  repeat' first
    | assumption
    | exact Nz.create _ _
    | exact Nz.checksGo _ _ _
    | exact Nz.frnsGo _ _ _ _
    | exact Nz.colsGo _ _
    | exact Nz.columns _ _
    | exact Nz.indexes _ _
    | exact Nz.names _
    | exact Nz.column
    | exact Nz.modification _ _ _
    | exact Nz.row _
    | exact Nz.set _
    | exact Nz.prefix_ _
    | exact Nz.query _
    | exact Nz.order
    | exact Nz.combined _
    | exact Nz.combination
    | exact Nz.sel _
    | exact Nz.where_ _
    | exact Nz.joins _ _ _
    | exact Nz.item _
    | exact Nz.aggregate
    | exact Nz.source
    | exact Nz.clause
    | exact Nz.expr _
    | exact Nz.ref
    | exact Nz.literal
    | exact Nz.plain
    | (refine Nz.list ?_ _)
    | exact Nz.period
    | exact Nz.instant
    | exact Nz.name
    | exact Nz.need _
    | exact Nz.words _
    | exact Nz.ret _
    | exact Nz.wrong
    | exact Nz.out
    | exact Nz.okay _ _ _
    | exact Nz.word _
    | exact Nz.symbol _
    | exact Nz.ahead _ _ _
    | exact Nz.step
    | exact Nz.take _
    | exact Nz.check _ _ _ (by omega)
    | (refine Nz.bind ?_ fun _ => ?_)
    | (refine Nz.ite ?_ ?_)
    | split
theorem Nz.command (n : Nat) (st : Stm) : Nz (pCommand n st) := by
  unfold pCommand
  repeat' first
    | assumption
    | exact Nz.alter _
    | exact Nz.create _ _
    | exact Nz.checksGo _ _ _
    | exact Nz.frnsGo _ _ _ _
    | exact Nz.colsGo _ _
    | exact Nz.columns _ _
    | exact Nz.indexes _ _
    | exact Nz.names _
    | exact Nz.column
    | exact Nz.modification _ _ _
    | exact Nz.row _
    | exact Nz.set _
    | exact Nz.prefix_ _
    | exact Nz.query _
    | exact Nz.order
    | exact Nz.combined _
    | exact Nz.combination
    | exact Nz.sel _
    | exact Nz.where_ _
    | exact Nz.joins _ _ _
    | exact Nz.item _
    | exact Nz.aggregate
    | exact Nz.source
    | exact Nz.clause
    | exact Nz.expr _
    | exact Nz.ref
    | exact Nz.literal
    | exact Nz.plain
    | (refine Nz.list ?_ _)
    | exact Nz.period
    | exact Nz.instant
    | exact Nz.name
    | exact Nz.need _
    | exact Nz.words _
    | exact Nz.ret _
    | exact Nz.wrong
    | exact Nz.out
    | exact Nz.okay _ _ _
    | exact Nz.word _
    | exact Nz.symbol _
    | exact Nz.ahead _ _ _
    | exact Nz.step
    | exact Nz.take _
    | exact Nz.check _ _ _ (by omega)
    | (refine Nz.bind ?_ fun _ => ?_)
    | (refine Nz.ite ?_ ?_)
    | split
theorem Nz.statement (n : Nat) : Nz (pStatement n) := by
  refine Nz.bind (Nz.prefix_ Stm.zero) fun x => ?_
  have hq : Nz (do
        let q ← pQuery n
        pure { x.2 with kind := 1, query := q } : P Stm) := Nz.bind (Nz.query n) fun q => Nz.ret _
  intro C i d j c he
  simp only at he
  split at he
  · split at he
    · split at he
      · exact (Nz.bind (Nz.check _ _ _ (by omega)) fun _ => Nz.bind Nz.step fun _ => Nz.modification _ _ _ : Nz _) C i d j c he
      · split at he
        · exact hq C i d j c he
        · split at he
          · exact Nz.wrong _ _ _ _ _ he
          · refine (Nz.bind (Nz.command n x.2) fun o => ?_ : Nz _) C i d j c he
            cases o
            · exact Nz.wrong
            · exact Nz.ret _
    · exact hq C i d j c he
  · exact hq C i d j c he
theorem Nz.whole {α : Type} {x : P α} (h : Nz x) {C : List Core} {j c : Nat} (he : pWhole x C = .fail j c) : 0 < c ∧ c < 100 := by
  unfold pWhole at he
  split at he
  · rename_i hx
    cases he
    exact h C 0 false _ _ hx
  · split at he
    · cases he
      omega
    · split at he <;> cases he
end Go.Proofs.YtpmncgbpbcgfaaaGreatDoor
