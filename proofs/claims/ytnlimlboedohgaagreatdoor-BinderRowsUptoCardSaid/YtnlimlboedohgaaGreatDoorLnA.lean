import Derived.Test.YtnlimlboedohgaaGreatDoorLxB
import Derived.Deep.RegionHeld3
import Derived.Laws.IdiomStrings
import Derived.Lib.Replace
import Derived.Lib.ItoaNum
import Derived.Lib.Join
/-
  Facts on types; blocks of one cell.
-/
set_option maxHeartbeats 2000000
set_option maxRecDepth 100000
namespace Go.Proofs.YtnlimlboedohgaaGreatDoor
open Go.RowKit
set_option linter.unusedVariables false
set_option linter.unusedSimpArgs false
theorem cell_lit1 (w : World) (u : Value) (e : TypeId) : ∀ j x, [u][j]? = some x -> (w.alloc (.cells #[u] e)).cell? ((⟨w.heap.size, 0, none⟩ : Addr).add j) = some x := by
 intro j x hx
 have e1 : (⟨w.heap.size, 0, none⟩ : Addr).add j = ⟨w.heap.size, j, none⟩ := by unfold Addr.add; split <;> simp_all
 rw [e1, cell_of_row _ w.heap.size j _ e (0, 0) (heap_alloc_new w _)]
 simpa using hx
theorem upC_no {c : UInt8} (h : ¬ (97 <= c.toNat /\ c.toNat <= 122)) : upC c = c := by unfold upC; rw [if_neg h]

def loC (c : UInt8) : UInt8 := if 65 <= c.toNat /\ c.toNat <= 90 then UInt8.ofNat (c.toNat + 32) else c
def lowWords : List (List UInt8) := keywords.map (·.map loC)
def lowBlock : Obj := .cells (lowWords.map kwS).toArray 9
theorem low_up : lowWords.map upL = keywords := by decide +kernel
theorem low_length : lowWords.length = 87 := by decide +kernel
theorem lowWords_ref (w : World) : Calls Tryz.prog 53 #[] w fun e w' => e = .returned (.slice (some ⟨w.heap.size, 0, none⟩) 87 87) /\ w.alloc lowBlock = w' := by
 go_enter Tryz.func53, Tryz.ntmps53
 go_wp2_with fail
 go_ret
 exact ⟨rfl, congrArg (fun o => w.alloc o) (by kernel_rfl)⟩
theorem low_cell {w : World} {B : Nat} (h : w.heap[B]? = some lowBlock) {j : Nat} (hj : j < 87) : w.cell? ⟨B, j, none⟩ = some (.string ⟨(lowWords.getD j []).toArray⟩) := by
 rw [cell_of_row w B j _ _ (0, 0) h]
 simp only [List.getElem?_toArray, List.getElem?_map]
 rw [List.getElem?_eq_getElem (by rw [low_length]; exact hj)]
 simp [kwS, List.getD, List.getElem?_eq_getElem (show j < lowWords.length by rw [low_length]; exact hj)]

def lowB (n : Nat) : Bool := decide (97 <= n) && decide (n <= 122) || (decide (48 <= n) && decide (n <= 57) || decide (n = 95))
def headDigit (l : List UInt8) : Bool := match l.head? with | some c => digitB c.toNat | none => false
def nameB (l : List UInt8) : Bool := !l.isEmpty && (decide (l.length <= 24) && (!headDigit l && (l.all (fun c => lowB c.toNat) && !isWord l)))
theorem lo_up {c : UInt8} (h : lowB c.toNat = true) : loC (upC c) = c := by
 unfold lowB at h
 simp at h
 by_cases h1 : 97 <= c.toNat /\ c.toNat <= 122
 ·have e : (upC c).toNat = c.toNat - 32 := by unfold upC; rw [if_pos h1, UInt8.toNat_ofNat_of_lt' (by show _ < 256; omega)]
  apply UInt8.toNat_inj.1
  unfold loC
  rw [if_pos (by omega), UInt8.toNat_ofNat_of_lt' (by show _ < 256; omega)]
  omega
 ·rw [upC_no h1]
  unfold loC
  rw [if_neg (by omega)]
theorem word_low {l : List UInt8} (h : l.all (fun c => lowB c.toNat) = true) : isWord l = lowWords.contains l := by
 rw [Bool.eq_iff_iff]
 unfold isWord
 simp only [List.contains_iff_mem]
 constructor
 ·intro hm
  have : (upL l).map loC ∈ lowWords := List.mem_map_of_mem hm
  have e : (upL l).map loC = l := by
   unfold upL
   rw [List.map_map]
   conv => rhs; rw [<- List.map_id l]
   exact List.map_congr_left fun c hc => lo_up (List.all_eq_true.1 h c hc)
  rw [e] at this
  exact this
 ·intro hm
  rw [<- low_up]
  exact List.mem_map_of_mem hm
theorem name_long {l : List UInt8} (h : 24 < l.length) : nameB l = false := by unfold nameB; rw [decide_eq_false (by omega)]; simp
theorem name_empty {l : List UInt8} (h : l = []) : nameB l = false := by subst h; rfl
theorem name_digit {l : List UInt8} (h : headDigit l = true) : nameB l = false := by unfold nameB; rw [h]; simp
theorem name_word {l : List UInt8} (h : isWord l = true) : nameB l = false := by unfold nameB; rw [h]; simp
theorem name_bad {l : List UInt8} {c : UInt8} (hc : c ∈ l) (h : lowB c.toNat = false) : nameB l = false := by
 have : l.all (fun c => lowB c.toNat) = false := by rw [List.all_eq_false]; exact ⟨c, hc, by simp [h]⟩
 unfold nameB; rw [this]; simp
theorem name_yes {l : List UInt8} (h0 : l ≠ []) (h1 : l.length <= 24) (h2 : headDigit l = false) (h3 : isWord l = false) (h4 : l.all (fun c => lowB c.toNat) = true) : nameB l = true := by
 unfold nameB; rw [h2, h3, h4, decide_eq_true h1]; simp [h0]
theorem head_digit {s : ByteArray} (h : 0 < s.size) : headDigit s.data.toList = digitB s[0].toNat := by
 unfold headDigit
 rw [List.head?_eq_getElem?, List.getElem?_eq_getElem (by simpa using h)]
 rfl
def NmPost (w : World) (s : ByteArray) (e : Ending) (w' : World) : Prop := e = .returned (.bool (nameB s.data.toList)) /\ Below w.heap.size w w'
def NmRel (s : ByteArray) (i : Value) : Prop := ∃ k : Nat, k <= s.size /\ i = .int .i64 k /\ ∀ j (h : j < s.size), j < k -> lowB s[j].toNat = true
theorem all_low {s : ByteArray} (h : ∀ j (h : j < s.size), j < s.size -> lowB s[j].toNat = true) : s.data.toList.all (fun c => lowB c.toNat) = true := by
 rw [List.all_eq_true]
 intro c hc
 obtain ⟨j, hj, e⟩ := List.mem_iff_getElem.1 hc
 have hj' : j < s.size := by simpa using hj
 rw [<- e]
 exact h j hj' hj'
theorem mem_at {s : ByteArray} {k : Nat} (h : k < s.size) : s[k] ∈ s.data.toList := List.getElem_mem (l := s.data.toList) (n := k) (by simpa using h)

def quoteC (c : UInt8) : List UInt8 := if c = 39 then [39, 39] else [c]
def quoteBody (l : List UInt8) : List UInt8 := l.flatMap quoteC
def quoteL (l : List UInt8) : List UInt8 := 39 :: (quoteBody l ++ [39])
theorem quote_len (x : List UInt8) : (quoteBody x).length <= 2 * x.length := by
 induction x with
 | nil => simp [quoteBody]
 | cons c l ih =>
  have hq : quoteBody (c :: l) = quoteC c ++ quoteBody l := by simp [quoteBody]
  rw [hq, List.length_append]
  have : (quoteC c).length <= 2 := by unfold quoteC; split <;> simp
  simp only [List.length_cons]
  omega

theorem low_in {l : List UInt8} (h : ∀ j, j < 87 -> lowWords.getD j [] ≠ l) : lowWords.contains l = false := by
 rw [Bool.eq_false_iff]
 intro hc
 have hm : l ∈ lowWords := by simpa using hc
 obtain ⟨j, hj, e⟩ := List.mem_iff_getElem.1 hm
 refine h j (by rw [low_length] at hj; exact hj) ?_
 rw [<- e, List.getD_eq_getElem?_getD, List.getElem?_eq_getElem hj]
 rfl
theorem low_yes {l : List UInt8} {k : Nat} (hk : k < 87) (h : lowWords.getD k [] = l) : lowWords.contains l = true := by
 have : lowWords.getD k [] ∈ lowWords := by
  rw [List.getD_eq_getElem?_getD, List.getElem?_eq_getElem (show k < lowWords.length by rw [low_length]; exact hk)]
  exact List.getElem_mem _
 rw [<- h]
 simpa using this
def inB (l : List UInt8) : Bool := lowWords.contains l
def InRel (s : ByteArray) (i : Value) : Prop := ∃ k : Nat, k <= 87 /\ i = .int .i64 k /\ ∀ j, j < k -> lowWords.getD j [] ≠ s.data.toList
theorem in_ref (s : ByteArray) (w : World) (B : Nat) (h : w.heap[B]? = some lowBlock) :
  Calls Tryz.prog 52 #[.slice (some ⟨B, 0, none⟩) 87 87, .string s] w fun e w' => e = .returned (.bool (inB s.data.toList)) /\ w = w' := by
 have H := Lib.hid h
 clear h
 go_enter Tryz.func52, Tryz.ntmps52
 go_wp2_with fail
 go_loop [5] (fun i => InRel s i) (fun i => 87 - (intOf i).toNat)
 case atStart => exact ⟨0, by omega, rfl, fun j hj => absurd hj (by omega)⟩
 case round =>
  obtain ⟨k, hk, rfl, hno⟩ := hrel
  have HN := Lib.hid hno
  clear hno
  by_cases hlt : k < 87
  ·have hc := low_cell H.out hlt
   have HY := Lib.hid (fun e : lowWords.getD k [] = s.data.toList => low_yes hlt e)
   have HN2 : Hid (lowWords.getD k [] ≠ s.data.toList -> ∀ j, j < k + 1 -> lowWords.getD j [] ≠ s.data.toList) := Lib.hid (fun h j hj => by
    by_cases e : j = k
    ·subst e; exact h
    ·exact HN.out j (by omega))
   have k0 : (0 : Int) <= (k : Int) := by omega
   have k1 : (k : Int) < 87 := by omega
   generalize lowWords.getD k [] = y at hc HY HN2
   by_cases he : y = s.toList
   ·have b1 : (y == s.toList) = true := beq_iff_eq.2 he
    have HW : Hid (inB s.data.toList = true) := Lib.hid (HY.out (he.trans (Lib.toList_data s)))
    clear he HY HN2
    go_wp2_with fail
    go_ret
    exact ⟨by rw [HW.out]; rfl, rfl⟩
   ·have b1 : (y == s.toList) = false := beq_eq_false_iff_ne.2 he
    have HW := Lib.hid (HN2.out (fun e => he (e.trans (Lib.toList_data s).symm)))
    clear he HY HN2
    go_wp2_with fail
    go_round
    case rel => exact ⟨k + 1, by omega, by go_num, HW.out⟩
    case measure => simp [intOf]; omega
  ·obtain rfl : k = 87 := by omega
   have HW : Hid (inB s.data.toList = false) := Lib.hid (low_in HN.out)
   clear HN
   go_wp2_with fail
   go_ret
   exact ⟨by rw [HW.out]; rfl, rfl⟩
theorem name_ref13 (s : ByteArray) (w : World) : Calls Tryz.prog 24 #[.string s] w (NmPost w s) := by
 have hnot : ∀ (x : Bool) (w : World), (Op.unary .not (.bool x)).run Tryz.prog w = .ok (.bool (!x)) w := fun _ _ => rfl
 rcases Nat.eq_zero_or_pos s.size with h0 | h0
 ·have hl : s.toList = [] := by rw [Lib.toList_data]; exact List.eq_nil_of_length_eq_zero (by rw [size_list]; exact h0)
  have hl2 : s.toList.isEmpty = true := by rw [hl]; rfl
  have HN := Lib.hid (name_empty (l := s.data.toList) (by rw [<- Lib.toList_data]; exact hl))
  clear hl h0
  go_enter Tryz.func24, Tryz.ntmps24
  go_wp2_with fail
  go_ret
  exact ⟨by rw [HN.out]; rfl, Below.refl _ _⟩
 ·have hne : s.data.toList ≠ [] := fun e => by have := size_list s; rw [e] at this; simp at this; omega
  have hl2 : s.toList.isEmpty = false := by rw [Lib.toList_data]; simpa using hne
  have HNE := Lib.hid hne
  clear hne
  rcases Nat.lt_or_ge 24 s.size with h24 | h24
  ·have HN := Lib.hid (name_long (l := s.data.toList) (by rw [size_list]; exact h24))
   have d1 : (24 : Int) < (s.size : Int) := by omega
   go_enter Tryz.func24, Tryz.ntmps24
   go_wp2_with fail
   go_ret
   exact ⟨by rw [HN.out]; rfl, Below.refl _ _⟩
  ·have d1 : ¬ (24 : Int) < (s.size : Int) := by omega
   have z1 : (0 : Int) < (s.size : Int) := by omega
   have hHD := head_digit h0
   rcases hc : digitB s[0].toNat with _ | _
   ·have HHD := Lib.hid (hHD.trans hc)
    have hcc : (s[0].toNat : Int) < 48 \/ ((48 : Int) <= (s[0].toNat : Int) /\ (57 : Int) < (s[0].toNat : Int)) := by unfold digitB at hc; simp at hc; omega
    clear hc hHD
    rcases hcc with q1 | ⟨q1, q2⟩
    all_goals
     go_enter Tryz.func24, Tryz.ntmps24
     go_wp2_with fail
     go_loop [3] (fun i => NmRel s i) (fun i => s.size - (intOf i).toNat)
     case atStart => exact ⟨0, Nat.zero_le _, rfl, fun j _ hj => absurd hj (by omega)⟩
     case round =>
      obtain ⟨k, hk, rfl, hi⟩ := hrel
      have HI := Lib.hid hi
      clear hi
      by_cases hlt : k < s.size
      ·have hb8 : s[k].toNat < 256 := s[k].toNat_lt
       have HIN : Hid (lowB s[k].toNat = true -> ∀ j (h : j < s.size), j < k + 1 -> lowB s[j].toNat = true) := Lib.hid (fun hl j hj hjk => by
        by_cases e : j = k
        ·subst e; exact hl
        ·exact HI.out j hj (by omega))
       rcases hlo : lowB s[k].toNat with _ | _
       ·have HN := Lib.hid (name_bad (mem_at hlt) hlo)
        have b3 : ((s[k].toNat : Int) == 95) = false := beq_eq_false_iff_ne.2 (by unfold lowB at hlo; simp at hlo; omega)
        have hq : ((s[k].toNat : Int) < 48) \/ ((48 : Int) <= (s[k].toNat : Int) /\ (57 : Int) < (s[k].toNat : Int) /\ (s[k].toNat : Int) < 97) \/ ((97 : Int) <= (s[k].toNat : Int) /\ (122 : Int) < (s[k].toNat : Int)) := by unfold lowB at hlo; simp at hlo; omega
        clear hlo HIN
        rcases hq with r1 | ⟨r1, r2, r3⟩ | ⟨r1, r2⟩
        ·go_wp2_with fail
         go_ret
         exact ⟨by rw [HN.out]; rfl, Below.refl _ _⟩
        ·have e5 : decide ((s[k].toNat : Int) <= 57) = false := decide_eq_false (by omega)
         go_wp2_with fail
         go_ret
         exact ⟨by rw [HN.out]; rfl, Below.refl _ _⟩
        ·have e5 : decide ((s[k].toNat : Int) <= 57) = false := decide_eq_false (by omega)
         have e6 : decide ((s[k].toNat : Int) <= 122) = false := decide_eq_false (by omega)
         go_wp2_with fail
         go_ret
         exact ⟨by rw [HN.out]; rfl, Below.refl _ _⟩
       ·have HLO := Lib.hid (HIN.out hlo)
        have hq : ((97 : Int) <= (s[k].toNat : Int) /\ (s[k].toNat : Int) <= 122) \/ ((s[k].toNat : Int) < 97 /\ (48 : Int) <= (s[k].toNat : Int) /\ (s[k].toNat : Int) <= 57) \/ s[k].toNat = 95 := by unfold lowB at hlo; simp at hlo; omega
        clear hlo HIN
        rcases hq with ⟨r1, r2⟩ | ⟨r0, r1, r2⟩ | r1
        ·go_wp2_with fail
         go_round
         case rel => exact ⟨k + 1, by omega, by go_num, HLO.out⟩
         case measure => simp [intOf]; omega
        ·go_wp2_with fail
         go_round
         case rel => exact ⟨k + 1, by omega, by go_num, HLO.out⟩
         case measure => simp [intOf]; omega
        ·have b3 : ((s[k].toNat : Int) == 95) = true := beq_iff_eq.2 (by omega)
         have r2 : (s[k].toNat : Int) < 97 := by omega
         have r3 : (48 : Int) <= (s[k].toNat : Int) := by omega
         have r4 : (57 : Int) < (s[k].toNat : Int) := by omega
         clear r1
         go_wp2_with fail
         go_round
         case rel => exact ⟨k + 1, by omega, by go_num, HLO.out⟩
         case measure => simp [intOf]; omega
      ·obtain rfl : k = s.size := by omega
       have hal := all_low HI.out
       have HWL := Lib.hid (word_low hal)
       have hn : nameB s.data.toList = !(inB s.data.toList) := by
        rcases hw : isWord s.data.toList with _ | _
        ·rw [name_yes HNE.out (by rw [size_list]; exact h24) HHD.out hw hal]
         unfold inB; rw [<- HWL.out, hw]; rfl
        ·rw [name_word hw]
         unfold inB; rw [<- HWL.out, hw]; rfl
       have HN := Lib.hid hn
       clear hn hal HI
       go_wp2_with fail
       refine (lowWords_ref w).mono ?_
       rintro e w' ⟨rfl, rfl⟩
       go_wp2_with fail
       refine (in_ref s _ w.heap.size (heap_alloc_new w _)).mono ?_
       rintro e w' ⟨rfl, rfl⟩
       go_wp2_with fail
       go_ret
       exact ⟨by rw [HN.out]; rfl, (Below.refl _ _).alloc (Nat.le_refl _) _⟩
   ·have HN := Lib.hid (name_digit (hHD.trans hc))
    have q1 : (48 : Int) <= (s[0].toNat : Int) := by unfold digitB at hc; simp at hc; omega
    have q2 : (s[0].toNat : Int) <= 57 := by unfold digitB at hc; simp at hc; omega
    clear hc hHD
    go_enter Tryz.func24, Tryz.ntmps24
    go_wp2_with fail
    go_ret
    exact ⟨by rw [HN.out]; rfl, Below.refl _ _⟩
end Go.Proofs.YtnlimlboedohgaaGreatDoor
