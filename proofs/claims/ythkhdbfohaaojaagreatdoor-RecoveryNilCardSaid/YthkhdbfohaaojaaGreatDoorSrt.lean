/-
  DERIVED: THE SHELF's CONTRACTS AT THIS DUMP, IN PLAIN WORDS (tools/lay-plain.mjs out of 'TryzSrt.lean', which tools/lay-shelf.mjs wrote): THE SAME DECLARATIONS UNDER THE SAME NAMES: 'import', 'namespace', 'open', 'def', 'theorem' AND NOTHING ELSE: no command of the shelf's: FOR A HAND-IN. Each laying: the table of numbers ('.._ren') and one theorem, a field a fact of the dump's own or the kernel's comparison; each contract: ONE APPLICATION.
-/
import Derived.Shelf.SlIter.Nil
import Derived.Shelf.SortM.Plain
import Derived.Shelf.SortM.SortNone
import Derived.Ground.GgzProg
import Derived.Ground.SlgmProg
import Derived.Test.YthkhdbfohaaojaaGreatDoorProg
import Derived.Shelf.SlGeneric
namespace Go.Proofs
open Go.Shelf
def Tryz.keys255_ren : Go.Shelf.Ren := ⟨fun | 7 => 255 | 10 => 358 | n => n, fun | 23 => 75 | 26 => 9 | 3 => 63 | 28 => 394 | 0 => 0 | 27 => 393 | 33 => 129 | 4 => 4 | n => n, fun | n => n⟩
theorem Tryz.keys255 : Go.Proofs.SlLaysZ.n7 Tryz.prog Tryz.keys255_ren := {
  mixed := by kernel_rfl
  f7 := ⟨Tryz.f255.name, by decide, Tryz.func255.trans (congrArg some (by kernel_rfl))⟩
  f10 := ⟨Tryz.f358.name, by decide, Tryz.func358.trans (congrArg some (by kernel_rfl))⟩
  t0 := Tryz.underlying0
  a0 := Tryz.isAgg0
  z0 := Tryz.sizeOf0
  v0 := Tryz.zeroValue0
  t4 := Tryz.underlying4
  a4 := Tryz.isAgg4
  z4 := Tryz.sizeOf4
  v4 := Tryz.zeroValue4
  t23 := Tryz.underlying75
  a23 := Tryz.isAgg75
  z23 := Tryz.sizeOf75
  v23 := Tryz.zeroValue75
  t26 := Tryz.underlying9
  a26 := Tryz.isAgg9
  z26 := Tryz.sizeOf9
  v26 := Tryz.zeroValue9
  t27 := Tryz.underlying393
  a27 := Tryz.isAgg393
  z27 := Tryz.sizeOf393
  v27 := Tryz.zeroValue393
  t28 := Tryz.underlying394
  a28 := Tryz.isAgg394
  z28 := Tryz.sizeOf394
  v28 := Tryz.zeroValue394
  t33 := Tryz.underlying129
  a33 := Tryz.isAgg129
  z33 := Tryz.sizeOf129
  v33 := Tryz.zeroValue129 }
def Tryz.sorted254_ren : Go.Shelf.Ren := ⟨fun | 6 => 254 | 8 => 357 | 9 => 315 | 11 => 405 | 13 => 383 | 12 => 382 | 23 => 430 | 24 => 431 | 14 => 421 | 15 => 422 | 16 => 423 | 17 => 424 | 18 => 425 | 19 => 426 | 20 => 427 | 21 => 428 | 22 => 429 | 25 => 466 | 26 => 467 | 27 => 468 | 28 => 469 | 29 => 470 | 30 => 471 | 31 => 502 | n => n, fun | 26 => 9 | 28 => 394 | 24 => 25 | 0 => 0 | 3 => 3 | 37 => 366 | 48 => 364 | 50 => 397 | 4 => 4 | 40 => 545 | 39 => 544 | 45 => 238 | 5 => 5 | 9 => 9 | 51 => 583 | 55 => 265 | 57 => 608 | 58 => 609 | 33 => 129 | n => n, fun | n => n⟩
theorem Tryz.sorted254 : Go.Proofs.SlLaysZ.n6 Tryz.prog Tryz.sorted254_ren := {
  mixed := by kernel_rfl
  f6 := ⟨Tryz.f254.name, by decide, Tryz.func254.trans (congrArg some (by kernel_rfl))⟩
  f8 := ⟨Tryz.f357.name, by decide, Tryz.func357.trans (congrArg some (by kernel_rfl))⟩
  f11 := ⟨Tryz.f405.name, by decide, Tryz.func405.trans (congrArg some (by kernel_rfl))⟩
  t0 := Tryz.underlying0
  a0 := Tryz.isAgg0
  z0 := Tryz.sizeOf0
  v0 := Tryz.zeroValue0
  t24 := Tryz.underlying25
  a24 := Tryz.isAgg25
  z24 := Tryz.sizeOf25
  v24 := Tryz.zeroValue25
  t26 := Tryz.underlying9
  a26 := Tryz.isAgg9
  z26 := Tryz.sizeOf9
  v26 := Tryz.zeroValue9
  t28 := Tryz.underlying394
  a28 := Tryz.isAgg394
  z28 := Tryz.sizeOf394
  v28 := Tryz.zeroValue394
  i26 := by kernel_rfl }
def Tryz.sort315_ren : Go.Shelf.Ren := ⟨fun | 6 => 315 | 8 => 383 | 9 => 382 | 19 => 430 | 20 => 431 | 21 => 421 | 22 => 422 | 23 => 423 | 24 => 424 | 25 => 425 | 26 => 426 | 27 => 427 | 28 => 428 | 29 => 429 | 36 => 466 | 31 => 467 | 32 => 468 | 37 => 469 | 38 => 470 | 39 => 471 | 41 => 502 | n => n, fun | 27 => 25 | 29 => 9 | 3 => 3 | 32 => 366 | 26 => 25 | 0 => 0 | 44 => 364 | 46 => 397 | 4 => 4 | 36 => 545 | 35 => 544 | 41 => 238 | 5 => 5 | 9 => 9 | 53 => 583 | 57 => 265 | 63 => 608 | 64 => 609 | n => n, fun | n => n⟩
theorem Tryz.sort315 : Go.Proofs.SlLaysM.n6 Tryz.prog Tryz.sort315_ren := {
  mixed := by kernel_rfl
  f6 := ⟨Tryz.f315.name, by decide, Tryz.func315.trans (congrArg some (by kernel_rfl))⟩
  f8 := Tryz.func383.trans (congrArg some (by kernel_rfl))
  f9 := ⟨Tryz.f382.name, by decide, Tryz.func382.trans (congrArg some (by kernel_rfl))⟩
  f19 := Tryz.func430.trans (congrArg some (by kernel_rfl))
  f20 := Tryz.func431.trans (congrArg some (by kernel_rfl))
  f21 := ⟨Tryz.f421.name, by decide, Tryz.func421.trans (congrArg some (by kernel_rfl))⟩
  f22 := ⟨Tryz.f422.name, by decide, Tryz.func422.trans (congrArg some (by kernel_rfl))⟩
  f23 := ⟨Tryz.f423.name, by decide, Tryz.func423.trans (congrArg some (by kernel_rfl))⟩
  f24 := ⟨Tryz.f424.name, by decide, Tryz.func424.trans (congrArg some (by kernel_rfl))⟩
  f25 := ⟨Tryz.f425.name, by decide, Tryz.func425.trans (congrArg some (by kernel_rfl))⟩
  f26 := ⟨Tryz.f426.name, by decide, Tryz.func426.trans (congrArg some (by kernel_rfl))⟩
  f27 := ⟨Tryz.f427.name, by decide, Tryz.func427.trans (congrArg some (by kernel_rfl))⟩
  f28 := ⟨Tryz.f428.name, by decide, Tryz.func428.trans (congrArg some (by kernel_rfl))⟩
  f29 := ⟨Tryz.f429.name, by decide, Tryz.func429.trans (congrArg some (by kernel_rfl))⟩
  f31 := Tryz.func467.trans (congrArg some (by kernel_rfl))
  f32 := Tryz.func468.trans (congrArg some (by kernel_rfl))
  f36 := ⟨Tryz.f466.name, by decide, Tryz.func466.trans (congrArg some (by kernel_rfl))⟩
  f37 := ⟨Tryz.f469.name, by decide, Tryz.func469.trans (congrArg some (by kernel_rfl))⟩
  f38 := ⟨Tryz.f470.name, by decide, Tryz.func470.trans (congrArg some (by kernel_rfl))⟩
  f39 := ⟨Tryz.f471.name, by decide, Tryz.func471.trans (congrArg some (by kernel_rfl))⟩
  f41 := ⟨Tryz.f502.name, by decide, Tryz.func502.trans (congrArg some (by kernel_rfl))⟩
  t0 := Tryz.underlying0
  a0 := Tryz.isAgg0
  z0 := Tryz.sizeOf0
  v0 := Tryz.zeroValue0
  t3 := Tryz.underlying3
  a3 := Tryz.isAgg3
  z3 := Tryz.sizeOf3
  v3 := Tryz.zeroValue3
  t4 := Tryz.underlying4
  a4 := Tryz.isAgg4
  z4 := Tryz.sizeOf4
  v4 := Tryz.zeroValue4
  t5 := Tryz.underlying5
  a5 := Tryz.isAgg5
  z5 := Tryz.sizeOf5
  v5 := Tryz.zeroValue5
  t9 := Tryz.underlying9
  a9 := Tryz.isAgg9
  z9 := Tryz.sizeOf9
  v9 := Tryz.zeroValue9
  t26 := Tryz.underlying25
  a26 := Tryz.isAgg25
  z26 := Tryz.sizeOf25
  v26 := Tryz.zeroValue25
  t27 := Tryz.underlying25
  a27 := Tryz.isAgg25
  z27 := Tryz.sizeOf25
  v27 := Tryz.zeroValue25
  t29 := Tryz.underlying9
  a29 := Tryz.isAgg9
  z29 := Tryz.sizeOf9
  v29 := Tryz.zeroValue9
  t32 := Tryz.underlying366
  a32 := Tryz.isAgg366
  z32 := Tryz.sizeOf366
  v32 := Tryz.zeroValue366
  t35 := Tryz.underlying544
  a35 := Tryz.isAgg544
  z35 := Tryz.sizeOf544
  v35 := Tryz.zeroValue544
  t36 := Tryz.underlying545
  a36 := Tryz.isAgg545
  z36 := Tryz.sizeOf545
  v36 := Tryz.zeroValue545
  t41 := Tryz.underlying238
  a41 := Tryz.isAgg238
  z41 := Tryz.sizeOf238
  v41 := Tryz.zeroValue238
  t44 := Tryz.underlying364
  a44 := Tryz.isAgg364
  z44 := Tryz.sizeOf364
  v44 := Tryz.zeroValue364
  t46 := Tryz.underlying397
  a46 := Tryz.isAgg397
  z46 := Tryz.sizeOf397
  v46 := Tryz.zeroValue397
  t53 := Tryz.underlying583
  a53 := Tryz.isAgg583
  z53 := Tryz.sizeOf583
  v53 := Tryz.zeroValue583
  t57 := Tryz.underlying265
  a57 := Tryz.isAgg265
  z57 := Tryz.sizeOf265
  v57 := Tryz.zeroValue265
  t63 := Tryz.underlying608
  a63 := Tryz.isAgg608
  z63 := Tryz.sizeOf608
  v63 := Tryz.zeroValue608
  t64 := Tryz.underlying609
  a64 := Tryz.isAgg609
  z64 := Tryz.sizeOf609
  v64 := Tryz.zeroValue609 }
end Go.Proofs
