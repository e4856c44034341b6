import Derived.Test.YtlimlmjljjmcpaaGreatDoorLxWord
import Derived.Deep.RegionHeld3
import Derived.Laws.IdiomStrings
/-
  Facts on types; blocks of one cell.
-/
namespace Go.Proofs.YtlimlmjljjmcpaaGreatDoor
open Go.RowKit
set_option linter.unusedVariables false
set_option linter.unusedSimpArgs false

theorem info_u8 : (Tryz.prog.info? 5).map (fun i => (i.zero, i.size, i.bytes)) = some (some (.int .u8 0), 1, 1) := by kernel_rfl
theorem info_str : (Tryz.prog.info? 9).map (fun i => (i.zero, i.size, i.bytes)) = some (some (.string ⟨#[]⟩), 1, 16) := by kernel_rfl
theorem cell_lit1 (w : World) (u : Value) (e : TypeId) : ∀ j x, [u][j]? = some x → (w.alloc (.cells #[u] e)).cell? ((⟨w.heap.size, 0, none⟩ : Addr).add j) = some x := by
  intro j x hx
  have e1 : (⟨w.heap.size, 0, none⟩ : Addr).add j = ⟨w.heap.size, j, none⟩ := by unfold Addr.add; split <;> simp_all
  rw [e1, cell_of_row _ w.heap.size j _ e (0, 0) (heap_alloc_new w _)]
  simpa using hx
theorem own_empty (w : World) (e : TypeId) (base : Nat) (hb : base ≤ w.heap.size) : (w.alloc (.cells #[] e)).ownsRow base e 1 (.slice (some ⟨w.heap.size, 0, none⟩) 0 0) 0 [] :=
  ⟨by simp, .inr ⟨w.heap.size, 0, #[], rfl, hb, heap_alloc_new w _, Nat.le_refl _, by unfold maxLen; omega, by simp, by simp⟩⟩
theorem upC_yes {c : UInt8} (h : 97 ≤ c.toNat ∧ c.toNat ≤ 122) : ((upC c).toNat : Int) = (c.toNat : Int) - 97 + 65 := by
  unfold upC
  rw [if_pos h, UInt8.toNat_ofNat_of_lt' (by show _ < 256; omega)]
  omega
theorem upC_no {c : UInt8} (h : ¬ (97 ≤ c.toNat ∧ c.toNat ≤ 122)) : upC c = c := by unfold upC; rw [if_neg h]
end Go.Proofs.YtlimlmjljjmcpaaGreatDoor

/-
  The reference's list of keywords, in small letters.
-/
namespace Go.Proofs.YtlimlmjljjmcpaaGreatDoor
open Go.RowKit
set_option linter.unusedVariables false
set_option linter.unusedSimpArgs false

def loC (c : UInt8) : UInt8 := if 65 ≤ c.toNat ∧ c.toNat ≤ 90 then UInt8.ofNat (c.toNat + 32) else c
def lowWords : List (List UInt8) := keywords.map (·.map loC)
def lowBlock : Obj := .cells (lowWords.map kwS).toArray 9
theorem low_up : lowWords.map upL = keywords := by decide +kernel
theorem low_length : lowWords.length = 87 := by decide +kernel
theorem kw_length : keywords.length = 87 := by decide +kernel
set_option maxRecDepth 100000 in
set_option maxHeartbeats 1000000 in
theorem lowWords_ref (w : World) : Calls Tryz.prog 208 #[] w fun e w' => e = .returned (.slice (some ⟨w.heap.size, 0, none⟩) 87 87) ∧ w.alloc lowBlock = w' := by
  go_enter Tryz.func208, Tryz.ntmps208
  go_wp2_with fail
  go_ret
  exact ⟨rfl, congrArg (fun o => w.alloc o) (by kernel_rfl)⟩
theorem low_cell {w : World} {B : Nat} (h : w.heap[B]? = some lowBlock) {j : Nat} (hj : j < 87) : w.cell? ⟨B, j, none⟩ = some (.string ⟨(lowWords.getD j []).toArray⟩) := by
  rw [cell_of_row w B j _ _ (0, 0) h]
  simp only [List.getElem?_toArray, List.getElem?_map]
  rw [List.getElem?_eq_getElem (by rw [low_length]; exact hj)]
  simp [kwS, List.getD, List.getElem?_eq_getElem (show j < lowWords.length by rw [low_length]; exact hj)]
theorem low_at {j : Nat} (hj : j < 87) : upL (lowWords.getD j []) = keywords.getD j [] := by
  have h := congrArg (fun l => l.getD j []) low_up
  simp only [List.getD_eq_getElem?_getD, List.getElem?_map] at h ⊢
  rw [List.getElem?_eq_getElem (show j < lowWords.length by rw [low_length]; exact hj)] at h ⊢
  simpa using h
theorem low_size : lowWords.all (fun l => decide (l.length ≤ 100)) = true := by decide +kernel
theorem low_small {j : Nat} (hj : j < 87) : (lowWords.getD j []).length ≤ 100 := by
  have hm : lowWords.getD j [] ∈ lowWords := by
    rw [List.getD_eq_getElem?_getD, List.getElem?_eq_getElem (show j < lowWords.length by rw [low_length]; exact hj)]
    exact List.getElem_mem _
  simpa using List.all_eq_true.1 low_size _ hm
theorem lt_of_block {w : World} {b : Nat} {o : Obj} (h : w.heap[b]? = some o) : b < w.heap.size := by
  rcases Nat.lt_or_ge b w.heap.size with hlt | hge
  · exact hlt
  · rw [Array.getElem?_eq_none hge] at h; cases h
end Go.Proofs.YtlimlmjljjmcpaaGreatDoor
