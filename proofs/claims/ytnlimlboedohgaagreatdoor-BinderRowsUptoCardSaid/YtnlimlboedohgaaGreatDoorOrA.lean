import Derived.Test.YtnlimlboedohgaaGreatDoorAxStr
import Derived.Test.YtnlimlboedohgaaGreatDoorAxSeg
import Derived.Test.YtnlimlboedohgaaGreatDoorShelf
import Derived.Test.YtnlimlboedohgaaGreatDoorShelf2
import Derived.KernelRfl
import Derived.Test.YtnlimlboedohgaaGreatDoorProg
import Derived.Test.YtnlimlboedohgaaGreatDoorAxAny
/-
  What the examples of the chapter yield: awake, run by the kernel, with the shelf's laws of ToUpper, Fields and Itoa.
-/
set_option linter.unusedVariables false
namespace Go.Proofs.YtnlimlboedohgaaGreatDoor.Ax
open Go Go.RowKit
def kwN : List Nat := [65, 68, 68, 32, 65, 70, 84, 69, 82, 32, 65, 76, 76, 32, 65, 76, 84, 69, 82, 32, 65, 78, 68, 32, 65, 83, 32, 66, 69, 70, 79, 82, 69, 32, 66, 69, 71, 73, 78, 32, 66, 69, 84, 87, 69, 69, 78, 32, 66, 79, 79, 76, 32, 66, 89, 32, 67, 72, 69, 67, 75, 32, 67, 79, 65, 76, 69, 83, 67, 69, 32, 67, 79, 77, 77, 73, 84, 32, 67, 79, 78, 84, 65, 73, 78, 83, 32, 67, 79, 85, 78, 84, 32, 67, 82, 69, 65, 84, 69, 32, 68, 69, 70, 65, 85, 76, 84, 32, 68, 69, 76, 69, 84, 69, 32, 68, 69, 83, 67, 32, 68, 73, 83, 84, 73, 78, 67, 84, 32, 68, 82, 79, 80, 32, 68, 85, 82, 73, 78, 71, 32, 69, 81, 85, 65, 76, 83, 32, 69, 88, 67, 69, 80, 84, 32, 70, 65, 76, 83, 69, 32, 70, 73, 78, 73, 83, 72, 69, 68, 66, 89, 32, 70, 73, 78, 73, 83, 72, 69, 83, 32, 70, 79, 82, 69, 73, 71, 78, 32, 70, 79, 82, 69, 86, 69, 82, 32, 70, 82, 79, 77, 32, 71, 82, 79, 85, 80, 32, 72, 79, 76, 68, 32, 73, 70, 32, 73, 78, 83, 69, 82, 84, 32, 73, 78, 84, 32, 73, 78, 84, 69, 82, 83, 69, 67, 84, 32, 73, 78, 84, 79, 32, 73, 83, 32, 74, 79, 73, 78, 32, 75, 69, 89, 32, 76, 69, 70, 84, 32, 76, 69, 78, 71, 84, 72, 32, 76, 73, 77, 73, 84, 32, 77, 65, 88, 32, 77, 69, 69, 84, 83, 32, 77, 69, 84, 66, 89, 32, 77, 73, 78, 32, 78, 79, 78, 83, 69, 81, 85, 69, 78, 67, 69, 68, 32, 78, 79, 84, 32, 78, 79, 87, 32, 78, 85, 76, 76, 32, 79, 70, 32, 79, 78, 32, 79, 82, 32, 79, 82, 68, 69, 82, 32, 79, 86, 69, 82, 76, 65, 80, 80, 69, 68, 66, 89, 32, 79, 86, 69, 82, 76, 65, 80, 83, 32, 80, 82, 73, 77, 65, 82, 89, 32, 80, 82, 85, 78, 69, 32, 82, 69, 70, 69, 82, 69, 78, 67, 69, 83, 32, 82, 69, 76, 69, 65, 83, 69, 32, 82, 69, 78, 65, 77, 69, 32, 82, 69, 84, 65, 73, 78, 32, 82, 79, 76, 76, 66, 65, 67, 75, 32, 83, 69, 76, 69, 67, 84, 32, 83, 69, 81, 85, 69, 78, 67, 69, 68, 32, 83, 69, 84, 32, 83, 84, 65, 82, 84, 69, 68, 66, 89, 32, 83, 84, 65, 82, 84, 83, 32, 83, 85, 77, 32, 83, 89, 83, 84, 69, 77, 32, 83, 89, 83, 84, 69, 77, 70, 82, 79, 77, 32, 83, 89, 83, 84, 69, 77, 84, 79, 32, 84, 65, 66, 76, 69, 32, 84, 69, 88, 84, 32, 84, 79, 32, 84, 82, 85, 69, 32, 84, 88, 32, 85, 78, 68, 69, 82, 32, 85, 78, 73, 79, 78, 32, 85, 80, 68, 65, 84, 69, 32, 86, 65, 76, 73, 68, 32, 86, 65, 76, 73, 68, 70, 82, 79, 77, 32, 86, 65, 76, 73, 68, 84, 79, 32, 86, 65, 76, 85, 69, 83, 32, 87, 72, 69, 82, 69]
def kwL : List (List Nat) := [[65, 68, 68], [65, 70, 84, 69, 82], [65, 76, 76], [65, 76, 84, 69, 82], [65, 78, 68], [65, 83], [66, 69, 70, 79, 82, 69], [66, 69, 71, 73, 78], [66, 69, 84, 87, 69, 69, 78], [66, 79, 79, 76], [66, 89], [67, 72, 69, 67, 75], [67, 79, 65, 76, 69, 83, 67, 69], [67, 79, 77, 77, 73, 84], [67, 79, 78, 84, 65, 73, 78, 83], [67, 79, 85, 78, 84], [67, 82, 69, 65, 84, 69], [68, 69, 70, 65, 85, 76, 84], [68, 69, 76, 69, 84, 69], [68, 69, 83, 67], [68, 73, 83, 84, 73, 78, 67, 84], [68, 82, 79, 80], [68, 85, 82, 73, 78, 71], [69, 81, 85, 65, 76, 83], [69, 88, 67, 69, 80, 84], [70, 65, 76, 83, 69], [70, 73, 78, 73, 83, 72, 69, 68, 66, 89], [70, 73, 78, 73, 83, 72, 69, 83], [70, 79, 82, 69, 73, 71, 78], [70, 79, 82, 69, 86, 69, 82], [70, 82, 79, 77], [71, 82, 79, 85, 80], [72, 79, 76, 68], [73, 70], [73, 78, 83, 69, 82, 84], [73, 78, 84], [73, 78, 84, 69, 82, 83, 69, 67, 84], [73, 78, 84, 79], [73, 83], [74, 79, 73, 78], [75, 69, 89], [76, 69, 70, 84], [76, 69, 78, 71, 84, 72], [76, 73, 77, 73, 84], [77, 65, 88], [77, 69, 69, 84, 83], [77, 69, 84, 66, 89], [77, 73, 78], [78, 79, 78, 83, 69, 81, 85, 69, 78, 67, 69, 68], [78, 79, 84], [78, 79, 87], [78, 85, 76, 76], [79, 70], [79, 78], [79, 82], [79, 82, 68, 69, 82], [79, 86, 69, 82, 76, 65, 80, 80, 69, 68, 66, 89], [79, 86, 69, 82, 76, 65, 80, 83], [80, 82, 73, 77, 65, 82, 89], [80, 82, 85, 78, 69], [82, 69, 70, 69, 82, 69, 78, 67, 69, 83], [82, 69, 76, 69, 65, 83, 69], [82, 69, 78, 65, 77, 69], [82, 69, 84, 65, 73, 78], [82, 79, 76, 76, 66, 65, 67, 75], [83, 69, 76, 69, 67, 84], [83, 69, 81, 85, 69, 78, 67, 69, 68], [83, 69, 84], [83, 84, 65, 82, 84, 69, 68, 66, 89], [83, 84, 65, 82, 84, 83], [83, 85, 77], [83, 89, 83, 84, 69, 77], [83, 89, 83, 84, 69, 77, 70, 82, 79, 77], [83, 89, 83, 84, 69, 77, 84, 79], [84, 65, 66, 76, 69], [84, 69, 88, 84], [84, 79], [84, 82, 85, 69], [84, 88], [85, 78, 68, 69, 82], [85, 78, 73, 79, 78], [85, 80, 68, 65, 84, 69], [86, 65, 76, 73, 68], [86, 65, 76, 73, 68, 70, 82, 79, 77], [86, 65, 76, 73, 68, 84, 79], [86, 65, 76, 85, 69, 83], [87, 72, 69, 82, 69]]
theorem kw_fields : Lib.fields (kwN.map UInt8.ofNat) = kwL.map fun l => l.map UInt8.ofNat := by decide +kernel
theorem kw_ascii : (kwN.map UInt8.ofNat).all (fun b => decide (b.toNat < 128)) = true := by decide +kernel
theorem kw_len : kwN.length < 1000 := by decide +kernel
theorem kw_small : kwL.all (fun l => l.all fun x => decide (x < 256)) = true := by decide +kernel
theorem nSp : Tryz.prog.globalNamed "strings.asciiSpace" = some 1 := by kernel_rfl
theorem nPow : Tryz.prog.globalNamed "internal/strconv.uint64pow10" = some 6 := by kernel_rfl
theorem sp_is {w : World} (ht : TabW w) : Lib.TabIs Tryz.prog w "strings.asciiSpace" .u8 Lib.asciiSpaceTab := by
 obtain ⟨t, f, h⟩ := ht 1 spV rfl
 unfold Lib.TabIs World.var?
 rw [nSp]
 simp only [Option.bind_some]
 rw [h]
 show some spV.toArray = _
 rw [<- spV_eq]
theorem pwV_eq : (Lib.pow10Tab.map fun z => Value.int .u64 z) = pwV := by
 have h : Lib.pow10Tab = pwN.map fun z => Int.ofNat z := by decide +kernel
 rw [h, List.map_map]
 rfl
theorem pow_is {w : World} (ht : TabW w) : Lib.TabIs Tryz.prog w "internal/strconv.uint64pow10" .u64 Lib.pow10Tab := by
 obtain ⟨t, f, h⟩ := ht 6 pwV rfl
 unfold Lib.TabIs World.var?
 rw [nPow]
 simp only [Option.bind_some]
 rw [h]
 show some pwV.toArray = _
 rw [<- pwV_eq]
/-- out of the two tables as they are laid -/
theorem tabW_is {w : World} (h1 : Lib.TabIs Tryz.prog w "strings.asciiSpace" .u8 Lib.asciiSpaceTab) (h2 : Lib.TabIs Tryz.prog w "internal/strconv.uint64pow10" .u64 Lib.pow10Tab) : TabW w := by
 refine tabW_of ?_ ?_
 ·unfold Lib.TabIs World.var? at h1
  rw [nSp] at h1
  simp only [Option.bind_some] at h1
  split at h1
  ·rename_i cs t f hh
   injection h1 with h1
   exact ⟨t, f, by rw [<- h1]; exact hh⟩
  ·cases h1
 ·unfold Lib.TabIs World.var? at h2
  rw [nPow] at h2
  simp only [Option.bind_some] at h2
  split at h2
  ·rename_i cs t f hh
   injection h2 with h2
   rw [pwV_eq] at h2
   exact ⟨t, f, by rw [<- h2]; exact hh⟩
  ·cases h2
theorem tabW_below {w w' : World} (ht : TabW w) (hb : Below w.heap.size w w') : TabW w' := fun b l h => by
 obtain ⟨t, f, k⟩ := ht b l h
 exact ⟨t, f, (hb.block b (Array.getElem?_eq_some_iff.1 k).1).trans k⟩
def runsB (P : Program) (f : FuncId) : Bool := match P.funcs[f]? with
 | some fn => !(fn.name == "runtime.NumGoroutine") && fn.body.isSome
 | none => false
theorem runs_of {P : Program} {f : FuncId} (h : runsB P f = true) : Runs P f := by
 unfold runsB at h
 split at h
 ·rename_i fn hf
  rw [Bool.and_eq_true] at h
  obtain ⟨code, hc⟩ := Option.isSome_iff_exists.1 h.2
  exact ⟨fn, code, hf, by simpa using h.1, hc⟩
 ·cases h
theorem grow_below (w : World) (k : Nat) (os : Array Obj) : Below w.heap.size w (Go.Sort.grow (w.drewN k) os) := by
 refine ⟨rfl, rfl, rfl, ?_, fun i hi => ?_⟩
 ·simp [Go.Sort.grow, World.drewN]
 ·simp only [Go.Sort.grow]
  exact Array.getElem?_append_left hi
def upO : CallR := textO 291 up1
theorem upO_ok : CallOK Tryz.prog upO := textO_ok (mB := Lib.upperB) up1_eq (runs_of (by kernel_rfl)) fun s w hs ha => Tryz.strings_ToUpper_ascii s w hs ha
def fldO : CallR := fieldsO 342 9 kwN (kwL.map .str) 87
theorem fldO_ok : CallOK Tryz.prog fldO := fieldsO_ok (fun l hl x hx => by
  have := List.all_eq_true.1 (List.all_eq_true.1 kw_small l hl) x hx
  simpa using this) (runs_of (by kernel_rfl)) fun s w ht hs => by
 have hsz : s.size < 4294967281 := by
  have h1 : s.size = s.data.toList.length := by rw [Array.length_toList]; rfl
  have := kw_len
  rw [h1, hs, List.length_map]
  omega
 refine (Tryz.strings_Fields s w hsz ?_ (sp_is ht)).mono ?_
 ·intro j b hj
  rw [hs] at hj
  have := List.all_eq_true.1 kw_ascii b (List.mem_of_getElem? hj)
  simpa using this
 ·rintro e w' ⟨rfl, rfl⟩
  rw [hs, kw_fields]
  refine ⟨by rw [List.length_map], ?_⟩
  rw [List.map_map]
  rfl
def itL : List (Value × List Nat) := [(.int .i64 (.ofNat 5), [53]), (.int .i64 (.negSucc 4), [45, 53])]
def itO : CallR := itoaO 314 itL
theorem itO_ok : CallOK Tryz.prog itO := itoaO_ok (fun p hp => by
  unfold itL at hp
  simp only [List.mem_cons, List.not_mem_nil, or_false] at hp
  rcases hp with rfl | rfl
  ·exact ⟨5, rfl, by decide, by decide, by decide +kernel, by decide⟩
  ·exact ⟨-5, rfl, by decide, by decide, by decide +kernel, by decide⟩) (runs_of (by kernel_rfl)) fun n w h0 h1 ht =>
 (Tryz.strconv_Itoa n h0 h1 w (pow_is ht)).mono fun e w' ⟨k1, k, os, k2⟩ => ⟨k1, by rw [k2]; exact grow_below w k os⟩
def awkO : CallR := orO upO (orO fldO itO)
theorem awkO_ok : CallOK Tryz.prog awkO := orO_ok upO_ok (orO_ok fldO_ok itO_ok)
end Go.Proofs.YtnlimlboedohgaaGreatDoor.Ax

/-
  What the examples of the chapter yield: awake, run by the kernel.
-/
set_option linter.unusedVariables false
namespace Go.Proofs.YtnlimlboedohgaaGreatDoor.Ax
open Go Go.RowKit
end Go.Proofs.YtnlimlboedohgaaGreatDoor.Ax

/-
  Calls without pointers, each reckoned once.
-/
set_option maxRecDepth 100000
namespace Go.Proofs.YtnlimlboedohgaaGreatDoor.Ax
open Go Go.RowKit
def lowO : CallR := textO 292 low1
theorem lowO_ok : CallOK Tryz.prog lowO := textO_ok (mB := Lib.lowerB) low1_eq (runs_of (by kernel_rfl)) fun s w hs ha => Tryz.strings_ToLower_ascii s w hs ha
noncomputable def putO : CallR := anyO Tryz.prog noOrc 8 285
theorem putO_ok : CallOK Tryz.prog putO := anyO_ok (noOrc_ok _)
noncomputable def Awkq_o : CallR := orO putO (orO lowO awkO)
theorem Awkq_ok : CallOK Tryz.prog Awkq_o := orO_ok putO_ok (orO_ok lowO_ok awkO_ok)
abbrev i_ (n : Nat) : RV := .lit (.int .i64 (.ofNat n))
abbrev z_ : RV := .lit (.int .i64 (.ofNat 0))
abbrev e_ : RV := .lit (.slice none 0 0)
abbrev b_ : RV := .lit (.bool false)
abbrev n_ (a b : Hp) : Hp := .node none a b
end Go.Proofs.YtnlimlboedohgaaGreatDoor.Ax

