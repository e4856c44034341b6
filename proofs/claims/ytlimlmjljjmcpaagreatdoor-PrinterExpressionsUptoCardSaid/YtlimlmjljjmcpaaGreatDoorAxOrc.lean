/-
  Oracles: calls that are known beforehand.
-/
import Derived.Test.YtlimlmjljjmcpaaGreatDoorAxLaw
set_option linter.unusedVariables false
namespace Go.Proofs.YtlimlmjljjmcpaaGreatDoor.Ax
open Go Go.RowKit
section
variable {P : Program} {c : Cx} {g : Gm} {h : Hp} {nx : Nat} {w w' : World}
/-- what leaves the old blocks ags they are leaves the run's own ags they are -/
theorem RW.under (hw : RW c g h nx w) (hb : Below w.heap.size w w') : RW c g h nx w' := by
  obtain ⟨b1, b2, b3, b4, b5⟩ := hb
  exact ⟨b1.trans hw.os, b2.trans hw.tape, b3.trans hw.output, Nat.le_trans hw.size b4, fun q o hq => (b5 q (Array.getElem?_eq_some_iff.1 (hw.keep q o hq)).1).trans (hw.keep q o hq), hw.free, hw.dom, hw.res,
    fun G ob hG => (hw.ok G ob hG).mono (Ext.refl g) (fun _ => rfl) fun e q n hl hq => b5 q (hw.live_at ⟨ob, hG, hl⟩ hq).2, hw.sep⟩
/-- a value without pointers of the run's own -/
def shutR : RV → Bool
  | .lit _ => true
  | .str _ => true
  | .opq _ => true
  | _ => false
theorem shut_R {env : Nat → Value} {g' : Gm} {r : RV} {v : Value} (hs : shutR r = true) (hr : R g env r v) : R g' env r v := by
  cases hr with
  | lit v => exact .lit v
  | str h => exact .str h
  | opq i h1 h2 => exact .opq i h1 h2
  | _ => cases hs
theorem shut_RL {env : Nat → Value} {g' : Gm} {l : List RV} {vs : List Value} (hs : l.all shutR = true) (hr : RL g env l vs) : RL g' env l vs :=
  ⟨hr.len, fun i h1 h2 => shut_R (List.all_eq_true.1 hs _ (List.getElem_mem h1)) (hr.at_ i h1 h2)⟩
/-- one call, without pointers of the run's own, known -/
def factO (f0 : FuncId) (as0 : List RV) (r0 : RV) : CallR := fun who args h nx =>
  match who with
  | .fn f => bif Nat.beq f f0 && eqRVs args as0 then some (.ret r0, h, nx) else none
  | .yld _ => none
theorem factO_ok {orc : CallR} (horc : CallOK P orc) {d : Nat} {f0 : FuncId} {as0 : List RV} {r0 : RV} {h' : Hp} {nx' : Nat} (hr : callR P orc (drawR P) d (.fn f0) as0 .leaf 0 = some (.ret r0, h', nx')) (ha : as0.all shutR = true) (h0 : shutR r0 = true) : CallOK P (factO f0 as0 r0) := by
  refine ⟨fun f args h nx re h2 nx2 hc => ?_, fun G args h nx re h2 nx2 hc => by cases hc⟩
  have hc' : (bif Nat.beq f f0 && eqRVs args as0 then some (RE.ret r0, h, nx) else none) = some (re, h2, nx2) := hc
  cases hb : Nat.beq f f0 && eqRVs args as0 with
  | false => rw [hb] at hc'; cases hc'
  | true =>
    rw [hb, cond_true] at hc'
    cases hc'
    rw [Bool.and_eq_true] at hb
    have e1 := Nat.eq_of_beq_eq_true hb.1
    have e2 := eqRVs_eq hb.2
    subst e1 e2
    refine ⟨((calls_sound horc d).1 _ _ _ _ _ _ _ hr).1, fun c g w vs hv hw K hK => ?_⟩
    have ht : TabW w := fun b l hb => by
      obtain ⟨t, f, h1⟩ := c.tab b l hb
      exact ⟨t, f, hw.keep b _ h1⟩
    exact calls_of horc hr c.env vs (shut_RL ha hv) w ht (envP_mono (fun q o h => hw.keep q o h) c.envp) K fun g' v w' k1 _ k3 => hK g v w' (shut_R h0 k1) (Ext.refl g) (hw.under k3)
/-- one oracle, or another -/
def orO (a b : CallR) : CallR := fun who args h nx =>
  match a who args h nx with
  | some r => some r
  | none => b who args h nx
theorem orO_ok {a b : CallR} (ha : CallOK P a) (hb : CallOK P b) : CallOK P (orO a b) := by
  refine ⟨fun f args h nx re h2 nx2 hc => ?_, fun G args h nx re h2 nx2 hc => ?_⟩
  · unfold orO at hc
    split at hc
    · rename_i r hr
      cases hc
      exact ha.1 _ _ _ _ _ _ _ hr
    · exact hb.1 _ _ _ _ _ _ _ hc
  · unfold orO at hc
    split at hc
    · rename_i r hr
      cases hc
      exact ha.2 _ _ _ _ _ _ _ hr
    · exact hb.2 _ _ _ _ _ _ _ hc
end
end Go.Proofs.YtlimlmjljjmcpaaGreatDoor.Ax
