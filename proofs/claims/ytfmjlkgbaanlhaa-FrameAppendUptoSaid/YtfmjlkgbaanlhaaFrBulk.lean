/-
  What the bound on the bulk of what came in gives: the length of a slice that came in.
-/
import Derived.Test.YtfmjlkgbaanlhaaRows
namespace Go.Proofs.Ytfmjlkgbaanlhaa

theorem bulk_one {H : Type} (d : DataW H) : 1 ≤ Rows.uptoBulk d := by
  cases d with
  | lit l => cases l <;> simp [Rows.uptoBulk]
  | nil => simp [Rows.uptoBulk]
  | ptr d => simp [Rows.uptoBulk]
  | slice elems spare => simp [Rows.uptoBulk]
  | agg parts => simp [Rows.uptoBulk]
  | iface t d => simp [Rows.uptoBulk]
  | map entries => simp [Rows.uptoBulk]
  | held h => simp [Rows.uptoBulk]
theorem bulk_part {H : Type} {d : DataW H} : ∀ {l : List (DataW H)}, d ∈ l → Rows.uptoBulk d ≤ Rows.uptoBulkAll l
  | x :: r, h => by
    simp only [Rows.uptoBulkAll]
    rcases List.mem_cons.1 h with e | e
    · subst e; omega
    · have := bulk_part e; omega
theorem bulk_length {H : Type} : ∀ (l : List (DataW H)), l.length ≤ Rows.uptoBulkAll l
  | [] => Nat.zero_le _
  | x :: r => by
    have := bulk_one x
    have := bulk_length r
    simp only [Rows.uptoBulkAll, List.length_cons]
    omega
theorem bulk_slice {H : Type} {l : List (DataW H)} {N : Nat} {elems spare : List (DataW H)} (hk : Rows.uptoBulkAll l ≤ N) (h : DataW.slice elems spare ∈ l) : elems.length + spare.length ≤ N := by
  have h0 := bulk_part h
  have h1 := bulk_length elems
  have h2 := bulk_length spare
  simp only [Rows.uptoBulk] at h0
  omega
end Go.Proofs.Ytfmjlkgbaanlhaa
