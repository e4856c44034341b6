/-
  Oracles: calls that are known beforehand.
-/
import Derived.Test.YtnlimlboedohgaaGreatDoorAxLaw
set_option linter.unusedVariables false
namespace Go.Proofs.YtnlimlboedohgaaGreatDoor.Ax
open Go Go.RowKit
section
variable {P : Program} {c : Cx} {g : Gm} {h : Hp} {nx : Nat} {w w' : World}
/-- what leaves the old blocks ags they are leaves the run's own ags they are -/
theorem RW.under (hw : RW c g h nx w) (hb : Below w.heap.size w w') : RW c g h nx w' := by
 obtain ⟨b1, b2, b3, b4, b5⟩ := hb
 exact ⟨b1.trans hw.os, b2.trans hw.tape, b3.trans hw.output, Nat.le_trans hw.size b4, fun q o hq => (b5 q (Array.getElem?_eq_some_iff.1 (hw.keep q o hq)).1).trans (hw.keep q o hq), hw.free, hw.dom, hw.res,
  fun G ob hG => (hw.ok G ob hG).mono (Ext.refl g) (fun _ => rfl) fun e q n hl hq => b5 q (hw.live_at ⟨ob, hG, hl⟩ hq).2, hw.sep⟩
/-- one oracle, or another -/
def orO (a b : CallR) : CallR := fun who args h nx =>
 match a who args h nx with
 | some r => some r
 | none => b who args h nx
theorem orO_ok {a b : CallR} (ha : CallOK P a) (hb : CallOK P b) : CallOK P (orO a b) := by
 refine ⟨fun f args h nx re h2 nx2 hc => ?_, fun G args h nx re h2 nx2 hc => ?_⟩
 ·unfold orO at hc
  split at hc
  ·rename_i r hr
   cases hc
   exact ha.1 _ _ _ _ _ _ _ hr
  ·exact hb.1 _ _ _ _ _ _ _ hc
 ·unfold orO at hc
  split at hc
  ·rename_i r hr
   cases hc
   exact ha.2 _ _ _ _ _ _ _ hr
  ·exact hb.2 _ _ _ _ _ _ _ hc
end
end Go.Proofs.YtnlimlboedohgaaGreatDoor.Ax
