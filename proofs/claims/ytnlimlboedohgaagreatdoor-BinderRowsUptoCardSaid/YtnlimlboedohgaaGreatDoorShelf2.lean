/-
  DERIVED: THE SHELF's CONTRACTS AT THIS DUMP, IN PLAIN WORDS (tools/lay-plain.mjs out of 'TryzShelf.lean', which tools/lay-shelf.mjs wrote): THE SAME DECLARATIONS UNDER THE SAME NAMES: 'import', 'namespace', 'open', 'def', 'theorem' AND NOTHING ELSE: no command of the shelf's: FOR A HAND-IN. Each laying: the table of numbers ('.._ren') and one theorem, a field a fact of the dump's own or the kernel's comparison; each contract: ONE APPLICATION.
-/
import Derived.Shelf.Strings.Builder1
import Derived.Shelf.Strings.OnBuilder
import Derived.Shelf.LaysM
import Derived.Shelf.Strconv.Itoa3
import Derived.Shelf.Strings.Shaped
import Derived.Test.YtnlimlboedohgaaGreatDoorProg
namespace Go.Proofs
open Go.Shelf
def Tryz.laysM171_ren : Go.Shelf.Ren := ⟨fun | 171 => 314 | 243 => 339 | 246 => 360 | 283 => 380 | 284 => 381 | 285 => 382 | 286 => 383 | 129 => 404 | 317 => 403 | 318 => 405 | 319 => 406 | 320 => 407 | 337 => 415 | 338 => 416 | n => n, fun | 3 => 3 | 9 => 9 | 2 => 2 | 4 => 4 | 171 => 378 | 0 => 0 | 53 => 379 | 37 => 320 | 5 => 5 | 173 => 382 | 212 => 406 | 51 => 361 | 20 => 20 | 213 => 407 | 46 => 346 | 232 => 430 | 233 => 431 | n => n, fun | 17 => 6 | 18 => 7 | 19 => 8 | n => n⟩
theorem Tryz.laysM171 : Go.Proofs.LaysM.n171 Tryz.prog Tryz.laysM171_ren := {
  mixed := by kernel_rfl
  f129 := Tryz.func404.trans (congrArg some (by kernel_rfl))
  f171 := Tryz.func314.trans (congrArg some (by kernel_rfl))
  f243 := Tryz.func339.trans (congrArg some (by kernel_rfl))
  f246 := Tryz.func360.trans (congrArg some (by kernel_rfl))
  f283 := Tryz.func380.trans (congrArg some (by kernel_rfl))
  f284 := Tryz.func381.trans (congrArg some (by kernel_rfl))
  f285 := Tryz.func382.trans (congrArg some (by kernel_rfl))
  f286 := Tryz.func383.trans (congrArg some (by kernel_rfl))
  f317 := Tryz.func403.trans (congrArg some (by kernel_rfl))
  f318 := Tryz.func405.trans (congrArg some (by kernel_rfl))
  f319 := Tryz.func406.trans (congrArg some (by kernel_rfl))
  f320 := Tryz.func407.trans (congrArg some (by kernel_rfl))
  f337 := Tryz.func415.trans (congrArg some (by kernel_rfl))
  f338 := Tryz.func416.trans (congrArg some (by kernel_rfl))
  t0 := Tryz.underlying0
  a0 := Tryz.isAgg0
  z0 := Tryz.sizeOf0
  v0 := Tryz.zeroValue0
  t2 := Tryz.underlying2
  a2 := Tryz.isAgg2
  z2 := Tryz.sizeOf2
  v2 := Tryz.zeroValue2
  t3 := Tryz.underlying3
  a3 := Tryz.isAgg3
  z3 := Tryz.sizeOf3
  v3 := Tryz.zeroValue3
  t4 := Tryz.underlying4
  a4 := Tryz.isAgg4
  z4 := Tryz.sizeOf4
  v4 := Tryz.zeroValue4
  t5 := Tryz.underlying5
  a5 := Tryz.isAgg5
  z5 := Tryz.sizeOf5
  v5 := Tryz.zeroValue5
  t9 := Tryz.underlying9
  a9 := Tryz.isAgg9
  z9 := Tryz.sizeOf9
  v9 := Tryz.zeroValue9
  t20 := Tryz.underlying20
  a20 := Tryz.isAgg20
  z20 := Tryz.sizeOf20
  v20 := Tryz.zeroValue20
  t37 := Tryz.underlying320
  a37 := Tryz.isAgg320
  z37 := Tryz.sizeOf320
  v37 := Tryz.zeroValue320
  t46 := Tryz.underlying346
  a46 := Tryz.isAgg346
  z46 := Tryz.sizeOf346
  v46 := Tryz.zeroValue346
  t51 := Tryz.underlying361
  a51 := Tryz.isAgg361
  z51 := Tryz.sizeOf361
  v51 := Tryz.zeroValue361
  t53 := Tryz.underlying379
  a53 := Tryz.isAgg379
  z53 := Tryz.sizeOf379
  v53 := Tryz.zeroValue379
  t171 := Tryz.underlying378
  a171 := Tryz.isAgg378
  z171 := Tryz.sizeOf378
  v171 := Tryz.zeroValue378
  t173 := Tryz.underlying382
  a173 := Tryz.isAgg382
  z173 := Tryz.sizeOf382
  v173 := Tryz.zeroValue382
  t212 := Tryz.underlying406
  a212 := Tryz.isAgg406
  z212 := Tryz.sizeOf406
  v212 := Tryz.zeroValue406
  t213 := Tryz.underlying407
  a213 := Tryz.isAgg407
  z213 := Tryz.sizeOf407
  t232 := Tryz.underlying430
  a232 := Tryz.isAgg430
  z232 := Tryz.sizeOf430
  v232 := Tryz.zeroValue430
  t233 := Tryz.underlying431
  a233 := Tryz.isAgg431
  z233 := Tryz.sizeOf431
  v233 := Tryz.zeroValue431
  g17 := by kernel_rfl
  g18 := by kernel_rfl
  g19 := by kernel_rfl
  i0 := by kernel_rfl
  i2 := by kernel_rfl
  i3 := by kernel_rfl
  i4 := by kernel_rfl
  i5 := by kernel_rfl
  i9 := by kernel_rfl
  i20 := by kernel_rfl
  i37 := by kernel_rfl
  i46 := by kernel_rfl
  i51 := by kernel_rfl
  i53 := by kernel_rfl
  i171 := by kernel_rfl
  i173 := by kernel_rfl
  i212 := by kernel_rfl
  i232 := by kernel_rfl
  i233 := by kernel_rfl
  m17 := by kernel_rfl
  m18 := by kernel_rfl
  m19 := by kernel_rfl }
open Go.RowKit Go.Sort Go.Lib in
/-- strconv.Itoa: "Itoa is equivalent to FormatInt(int64(i), 10).": i's DECIMAL NUMERAL ('Lib.itoa': a '-' where i is negative, then the digits), FOR EVERY int. The world behind the call: the world before it, new blocks behind the heap (the library's 'var a [24]byte'), draws. (LAID: no walk: one application.) -/
theorem Tryz.strconv_Itoa (n : Int) (h0 : -9223372036854775808 ≤ n) (h1 : n ≤ 9223372036854775807) (w : World) (htab : Lib.TabIs Tryz.prog w "internal/strconv.uint64pow10" .u64 Lib.pow10Tab) :
    Calls Tryz.prog 314 #[.int .i64 n] w fun e w' => e = .returned (.string ⟨(Lib.itoa n).toArray⟩) ∧ ∃ k os, w' = grow (w.drewN k) os := Any.strconv_Itoa Tryz.laysM171 n h0 h1 w htab
end Go.Proofs
