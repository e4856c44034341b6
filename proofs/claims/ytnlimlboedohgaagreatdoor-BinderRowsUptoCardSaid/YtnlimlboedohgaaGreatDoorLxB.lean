import Derived.Below
import Derived.Test.YtnlimlboedohgaaGreatDoorProg
import Derived.WalkKit
import Derived.WalkSpells
import Derived.WalkLawsBesides
import Derived.Lib.Hide
import Derived.Deep.QuietTactic
import Derived.BigQuiet
import Derived.Deep.Draws
import Derived.Laws.OwnMore
import Derived.Deep.LoopGhost
import Derived.Test.YtnlimlboedohgaaGreatDoorShelf
import Derived.WalkSmall
import Derived.LoopTactic
/-
  What a text is lexed to: plain functions on lists of bytes, and the relation 'Lexes'; no program in sight.
-/
namespace Go.Proofs.YtnlimlboedohgaaGreatDoor
set_option linter.unusedVariables false
set_option linter.unusedSimpArgs false

def letterB (n : Nat) : Bool := decide (97 <= n) && decide (n <= 122) || (decide (65 <= n) && decide (n <= 90) || decide (n = 95))
def digitB (n : Nat) : Bool := decide (48 <= n) && decide (n <= 57)
def blankB (n : Nat) : Bool := decide (n = 32) || (decide (n = 9) || decide (n = 10))
def wordB (n : Nat) : Bool := letterB n || digitB n
def upperB (n : Nat) : Bool := decide (65 <= n) && decide (n <= 90)
def badB (n : Nat) : Bool := decide (n < 32) || decide (126 < n)

/-- where the bytes of a class end -/
def runEnd (cls : Nat -> Bool) (l : List UInt8) (a : Nat) : Nat := a + ((l.drop a).takeWhile fun c => cls c.toNat).length
theorem runEnd_yes {cls : Nat -> Bool} {l : List UInt8} {a : Nat} (h : a < l.length) (hc : cls l[a].toNat = true) : runEnd cls l a = runEnd cls l (a + 1) := by
 unfold runEnd
 rw [List.drop_eq_getElem_cons h, List.takeWhile_cons, if_pos hc, List.length_cons]
 omega
theorem runEnd_no {cls : Nat -> Bool} {l : List UInt8} {a : Nat} (h : a < l.length) (hc : cls l[a].toNat = false) : runEnd cls l a = a := by
 unfold runEnd
 rw [List.drop_eq_getElem_cons h, List.takeWhile_cons, if_neg (by rw [hc]; decide)]
 simp
theorem runEnd_end {cls : Nat -> Bool} {l : List UInt8} {a : Nat} (h : l.length <= a) : runEnd cls l a = a := by
 unfold runEnd
 rw [List.drop_eq_nil_of_le h]
 simp
/-- the bytes of a class from a on -/
def runOf (cls : Nat -> Bool) (l : List UInt8) (a : Nat) : List UInt8 := (l.drop a).takeWhile fun c => cls c.toNat
structure Tok where
 kind : Nat
 text : List UInt8
 int : Nat
 at_ : Nat
deriving DecidableEq

/-- what the scan of one token comes to: a token and where it ends, or an error's code -/
inductive Scan where
 | err (code : Nat)
 | tok (t : Tok) (fin : Nat)

def upC (c : UInt8) : UInt8 := if 97 <= c.toNat /\ c.toNat <= 122 then UInt8.ofNat (c.toNat - 32) else c
def upL (l : List UInt8) : List UInt8 := l.map upC
/-- the keywords, in upper case -/
def keywords : List (List UInt8) := [[65, 68, 68], [65, 70, 84, 69, 82], [65, 76, 76], [65, 76, 84, 69, 82], [65, 78, 68], [65, 83], [66, 69, 70, 79, 82, 69], [66, 69, 71, 73, 78], [66, 69, 84, 87, 69, 69, 78], [66, 79, 79, 76], [66, 89], [67, 72, 69, 67, 75], [67, 79, 65, 76, 69, 83, 67, 69], [67, 79, 77, 77, 73, 84], [67, 79, 78, 84, 65, 73, 78, 83], [67, 79, 85, 78, 84], [67, 82, 69, 65, 84, 69], [68, 69, 70, 65, 85, 76, 84], [68, 69, 76, 69, 84, 69], [68, 69, 83, 67], [68, 73, 83, 84, 73, 78, 67, 84], [68, 82, 79, 80], [68, 85, 82, 73, 78, 71], [69, 81, 85, 65, 76, 83], [69, 88, 67, 69, 80, 84], [70, 65, 76, 83, 69], [70, 73, 78, 73, 83, 72, 69, 68, 66, 89], [70, 73, 78, 73, 83, 72, 69, 83], [70, 79, 82, 69, 73, 71, 78], [70, 79, 82, 69, 86, 69, 82], [70, 82, 79, 77], [71, 82, 79, 85, 80], [72, 79, 76, 68], [73, 70], [73, 78, 83, 69, 82, 84], [73, 78, 84], [73, 78, 84, 69, 82, 83, 69, 67, 84], [73, 78, 84, 79], [73, 83], [74, 79, 73, 78], [75, 69, 89], [76, 69, 70, 84], [76, 69, 78, 71, 84, 72], [76, 73, 77, 73, 84], [77, 65, 88], [77, 69, 69, 84, 83], [77, 69, 84, 66, 89], [77, 73, 78], [78, 79, 78, 83, 69, 81, 85, 69, 78, 67, 69, 68], [78, 79, 84], [78, 79, 87], [78, 85, 76, 76], [79, 70], [79, 78], [79, 82], [79, 82, 68, 69, 82], [79, 86, 69, 82, 76, 65, 80, 80, 69, 68, 66, 89], [79, 86, 69, 82, 76, 65, 80, 83], [80, 82, 73, 77, 65, 82, 89], [80, 82, 85, 78, 69], [82, 69, 70, 69, 82, 69, 78, 67, 69, 83], [82, 69, 76, 69, 65, 83, 69], [82, 69, 78, 65, 77, 69], [82, 69, 84, 65, 73, 78], [82, 79, 76, 76, 66, 65, 67, 75], [83, 69, 76, 69, 67, 84], [83, 69, 81, 85, 69, 78, 67, 69, 68], [83, 69, 84], [83, 84, 65, 82, 84, 69, 68, 66, 89], [83, 84, 65, 82, 84, 83], [83, 85, 77], [83, 89, 83, 84, 69, 77], [83, 89, 83, 84, 69, 77, 70, 82, 79, 77], [83, 89, 83, 84, 69, 77, 84, 79], [84, 65, 66, 76, 69], [84, 69, 88, 84], [84, 79], [84, 82, 85, 69], [84, 88], [85, 78, 68, 69, 82], [85, 78, 73, 79, 78], [85, 80, 68, 65, 84, 69], [86, 65, 76, 73, 68], [86, 65, 76, 73, 68, 70, 82, 79, 77], [86, 65, 76, 73, 68, 84, 79], [86, 65, 76, 85, 69, 83], [87, 72, 69, 82, 69]]
def isWord (l : List UInt8) : Bool := keywords.contains (upL l)
def wordScan (l : List UInt8) (a : Nat) : Scan :=
 if isWord (runOf wordB l a) then .tok ⟨2, upL (runOf wordB l a), 0, a⟩ (runEnd wordB l a)
 else if (runOf wordB l a).any (fun c => upperB c.toNat) then .err 1
 else if 24 < (runOf wordB l a).length then .err 5
 else .tok ⟨1, runOf wordB l a, 0, a⟩ (runEnd wordB l a)
def numStep (n : Nat) (c : UInt8) : Nat := min (10 * n + (c.toNat - 48)) 1125899906842625
def numVal (l : List UInt8) : Nat := l.foldl numStep 0
def badNum (l : List UInt8) (a : Nat) : Bool :=
 (decide (1 < (runOf digitB l a).length) && decide ((runOf digitB l a).head? = some 48)) || (match l[runEnd digitB l a]? with | some c => letterB c.toNat | none => false)
def numberScan (l : List UInt8) (a : Nat) : Scan :=
 if badNum l a then .err 1
 else if 1125899906842624 < numVal (runOf digitB l a) then .err 6
 else .tok ⟨3, [], numVal (runOf digitB l a), a⟩ (runEnd digitB l a)
def textEnd (a i : Nat) (out : List UInt8) : Scan := if 200 < out.length then .err 5 else .tok ⟨4, out, 0, a⟩ (i + 1)
/-- the rest of a text from place i on, with what has been read -/
def textGo (a : Nat) : List UInt8 -> Nat -> List UInt8 -> Scan
 | [], _, _ => .err 2
 | c :: r, i, out =>
  if c = 39 then
   match r with
   | [] => textEnd a i out
   | d :: r' => if d = 39 then textGo a r' (i + 2) (out ++ [39]) else textEnd a i out
  else if badB c.toNat then .err 1 else textGo a r (i + 1) (out ++ [c])
def textScan (l : List UInt8) (a : Nat) : Scan := textGo a (l.drop (a + 1)) (a + 1) []
def twos : List (List UInt8) := [[60, 62], [60, 61], [62, 61], [124, 124]]
def ones : List UInt8 := [40, 41, 44, 46, 59, 42, 61, 60, 62, 43, 45, 47, 37]
def symScan (l : List UInt8) (a : Nat) : Scan :=
 if twos.contains ((l.drop a).take 2) then .tok ⟨5, (l.drop a).take 2, 0, a⟩ (a + 2)
 else match l[a]? with
  | some c => if ones.contains c then .tok ⟨5, [c], 0, a⟩ (a + 1) else .err 1
  | none => .err 1
def scanAt (l : List UInt8) (a : Nat) (c : UInt8) : Scan :=
 if letterB c.toNat then wordScan l a else if digitB c.toNat then numberScan l a else if c = 39 then textScan l a else symScan l a

/-- what a whole text comes to -/
inductive Res where
 | err (at_ : Nat) (code : Nat)
 | toks (l : List Tok)

inductive Lexes (l : List UInt8) : Nat -> List Tok -> Res -> Prop
 | fin {a acc} (h : l.length <= a) : Lexes l a acc (.toks acc)
 | skip {a acc r} (h : a < l.length) (hb : blankB l[a].toNat = true) (k : Lexes l (a + 1) acc r) : Lexes l a acc r
 | err {a acc c} (h : a < l.length) (hb : blankB l[a].toNat = false) (hs : scanAt l a l[a] = .err c) : Lexes l a acc (.err a c)
 | tok {a acc t e r} (h : a < l.length) (hb : blankB l[a].toNat = false) (hs : scanAt l a l[a] = .tok t e) (k : Lexes l e (acc ++ [t]) r) : Lexes l a acc r

theorem Lexes.run {l : List UInt8} {a : Nat} {acc : List Tok} {r : Res} (k : Lexes l (runEnd blankB l a) acc r) : Lexes l a acc r := by
 by_cases h : a < l.length
 ·by_cases hb : blankB l[a].toNat = true
  ·rw [runEnd_yes h hb] at k
   exact .skip h hb (Lexes.run k)
  ·rw [runEnd_no h (by simpa using hb)] at k
   exact k
 ·rw [runEnd_end (by omega)] at k
  exact k
termination_by l.length - a
end Go.Proofs.YtnlimlboedohgaaGreatDoor

/-
  Classes of bytes: the lexer's letter, digit and blank, and the reference's.
-/
namespace Go.Proofs.YtnlimlboedohgaaGreatDoor
open Go.RowKit
set_option linter.unusedVariables false
set_option linter.unusedSimpArgs false

theorem size_list (s : ByteArray) : s.data.toList.length = s.size := by rw [Array.length_toList]; rfl
theorem bytes_ext {x y : ByteArray} (h : x.data.toList = y.data.toList) : x = y := by
 apply ByteArray.ext
 exact Array.ext' h

/-- the scanner in block b: its text and its place -/
def Sc (w : World) (b : Nat) (s : ByteArray) (a : Nat) : Prop := w.heap[b]? = some (.cells #[.string s, .int .i64 (a : Int)] 255 (0, 0))
section
variable {w w' : World} {b : Nat} {s : ByteArray} {a : Nat}
theorem Sc.text (h : Sc w b s a) : w.cell? ⟨b, 0, none⟩ = some (.string s) := by rw [cell_of_row w b 0 _ _ (0, 0) h]; rfl
theorem Sc.at_ (h : Sc w b s a) : w.cell? ⟨b, 1, none⟩ = some (.int .i64 (a : Int)) := by rw [cell_of_row w b 1 _ _ (0, 0) h]; rfl
theorem Sc.free (h : Sc w b s a) (j : Nat) : w.frozen? ⟨b, j, none⟩ = false := by unfold Sc at h; simp [World.frozen?, h]
theorem Sc.set (h : Sc w b s a) (k : Nat) : Sc (w.setCell ⟨b, 1, none⟩ (.int .i64 (k : Int))) b s k := by
 unfold Sc at h |-
 simp [World.setCell, Array.getElem?_modify, h]
theorem Sc.drewN (h : Sc w b s a) (k : Nat) : Sc (w.drewN k) b s a := h
end
end Go.Proofs.YtnlimlboedohgaaGreatDoor
/-
  The keywords: what lexer.Words and lexer.Word return.
-/
namespace Go.Proofs.YtnlimlboedohgaaGreatDoor
open Go.RowKit
set_option linter.unusedVariables false
set_option linter.unusedSimpArgs false

/-- strings.asciiSpace holds what its initialiser laid -/
def Tab (w : World) : Prop := Lib.TabIs Tryz.prog w "strings.asciiSpace" .u8 Lib.asciiSpaceTab
theorem gSpace : Tryz.prog.globalNamed "strings.asciiSpace" = some 1 := by kernel_rfl
section
variable {w w' : World} {B b : Nat} {s : ByteArray} {a : Nat}
theorem Tab.form (h : Tab w) : ∃ t f, w.heap[1]? = some (.cells (Lib.asciiSpaceTab.map fun z => Value.int .u8 z).toArray t f) := by
 unfold Tab Lib.TabIs World.var? at h
 rw [gSpace] at h
 simp only [Option.bind_some] at h
 split at h
 ·rename_i cs t f hh
  injection h with h
  exact ⟨t, f, by rw [<- h]; exact hh⟩
 ·cases h
theorem Tab.lt (h : Tab w) : 1 < w.heap.size := by
 obtain ⟨t, f, hh⟩ := h.form
 rcases Nat.lt_or_ge 1 w.heap.size with hlt | hge
 ·exact hlt
 ·rw [Array.getElem?_eq_none hge] at hh; cases hh
theorem Tab.same (h : Tab w) (hb : w'.heap[1]? = w.heap[1]?) : Tab w' := by
 unfold Tab Lib.TabIs World.var? at h |-
 rw [gSpace] at h |-
 simp only [Option.bind_some] at h |-
 rw [hb]
 exact h
theorem Tab.below (h : Tab w) (hb : Below w.heap.size w w') : Tab w' := h.same (hb.block _ h.lt)
theorem Tab.drewN (h : Tab w) (k : Nat) : Tab (w.drewN k) := h
theorem Tab.alloc (h : Tab w) (o : Obj) : Tab (w.alloc o) := h.same (Below.heap_alloc w o _ h.lt)
theorem Tab.ne_sc (h : Tab w) (hs : Sc w b s a) : 1 ≠ b := by
 rintro rfl
 obtain ⟨t, f, hh⟩ := h.form
 unfold Sc at hs
 rw [hh] at hs
 simp only [Option.some.injEq, Obj.cells.injEq] at hs
 have := congrArg Array.size hs.1
 simp [Lib.asciiSpaceTab_length] at this
theorem Tab.grown (h : Tab w) (hs : Sc w b s a) (hg : w.grownBy w' (some b)) : Tab w' := h.same (hg.block _ h.lt (by simpa using h.ne_sc hs))
theorem Sc.lt (h : Sc w b s a) : b < w.heap.size := by
 rcases Nat.lt_or_ge b w.heap.size with hlt | hge
 ·exact hlt
 ·unfold Sc at h; rw [Array.getElem?_eq_none hge] at h; cases h
theorem Sc.below (h : Sc w b s a) (hb : Below w.heap.size w w') : Sc w' b s a := (hb.block _ h.lt).trans h
theorem Sc.alloc (h : Sc w b s a) (o : Obj) : Sc (w.alloc o) b s a := (Below.heap_alloc w o _ h.lt).trans h
end
theorem grown_below {a w w' : World} {row : Option Nat} (h : a.grownBy w row) (hb : Below w.heap.size w w') : a.grownBy w' row :=
 ⟨hb.os.trans h.os, hb.tape.trans h.tape, hb.output.trans h.output, Nat.le_trans h.size hb.size, fun i hi hne => (hb.block i (Nat.lt_of_lt_of_le hi h.size)).trans (h.block i hi hne)⟩

def kwS (l : List UInt8) : Value := .string ⟨l.toArray⟩
theorem kw_ascii : keywords.all (fun l => l.all fun b => decide (b.toNat < 128)) = true := by decide +kernel
end Go.Proofs.YtnlimlboedohgaaGreatDoor

