/-
  Laws whose arguments are unknown: what a run of the seat's own program yields, in whatever world.
-/
import Derived.Test.YtlimlmjljjmcpaaGreatDoorAxDrawE
set_option linter.unusedVariables false
namespace Go.Proofs.YtlimlmjljjmcpaaGreatDoor.Ax
open Go Go.RowKit
/-- n unknown values, numbered from b on -/
def unk (b n : Nat) : List RV := (List.range n).map fun i => .opq (b + i)
theorem unk_agg {g : Gm} {env : Nat → Value} {b n : Nat} {cs : Array Value} (hn : cs.size = n) (he : ∀ i (h : i < cs.size), env (b + i) = cs[i]) (h1 : ∀ i (h : i < cs.size), cs[i].cells = #[cs[i]] ∧ cs[i].oneCell' = true) : R g env (.agg (unk b n)) (.agg cs) := by
  subst hn
  refine .agg (by simp [unk]) fun i h2 h3 => ?_
  have h4 : (unk b cs.size)[i] = .opq (b + i) := by simp [unk]
  rw [h4, ← he i h3]
  exact .opq _ (by rw [he i h3]; exact (h1 i h3).1) (by rw [he i h3]; exact (h1 i h3).2)
theorem unk_opq {g : Gm} {env : Nat → Value} {b : Nat} {v : Value} (he : env b = v) (h1 : v.cells = #[v]) (h2 : v.oneCell' = true) : R g env (.opq b) v := by
  subst he
  exact .opq _ h1 h2
theorem rl_nil {g : Gm} {env : Nat → Value} : RL g env [] [] := ⟨rfl, fun i h => by cases h⟩
theorem rl_cons {g : Gm} {env : Nat → Value} {r : RV} {v : Value} {l : List RV} {vs : List Value} (h : R g env r v) (hl : RL g env l vs) : RL g env (r :: l) (v :: vs) :=
  ⟨by simp [hl.len], fun i h1 h2 => by
    cases i with
    | zero => exact h
    | succ i => exact hl.at_ i (by simpa using h1) (by simpa using h2)⟩
/-- the run ended with true -/
def saysTrue : Option (RE × Hp × Nat) → Bool
  | some (.ret (.lit (.bool b)), _, _) => b
  | _ => false
theorem of_saysTrue {x : Option (RE × Hp × Nat)} (h : saysTrue x = true) : ∃ h' nx', x = some (.ret (.lit (.bool true)), h', nx') := by
  unfold saysTrue at h
  split at h
  · subst h
    exact ⟨_, _, rfl⟩
  · cases h
theorem calls_true {P : Program} {d : Nat} {f : FuncId} {args : List RV} (hr : saysTrue (callR P noOrc (drawR P) d (.fn f) args .leaf 0) = true) (env : Nat → Value) (vs : List Value) (hv : RL (fun _ _ => none) env args vs) (w : World) (ht : TabW w) (he : EnvP (fun q => w.heap[q]?) env) :
    Calls P f vs.toArray w fun e w' => e = .returned (.bool true) ∧ Below w.heap.size w w' := by
  obtain ⟨h', nx', hx⟩ := of_saysTrue hr
  refine calls_of (noOrc_ok P) hx env vs hv w ht he _ fun g v w' k1 _ k3 => ?_
  cases k1
  exact ⟨rfl, k3⟩
end Go.Proofs.YtlimlmjljjmcpaaGreatDoor.Ax
