/-
  What the bulk of the arguments bounds: nodes of expressions, lengths of lists. (Printed by mkBc.py.)
-/
import Derived.Test.YtnlimlboedohgaaGreatDoorRows
import Derived.Test.YtnlimlboedohgaaGreatDoorBnA
namespace Go.Proofs.YtnlimlboedohgaaGreatDoor.Bk
open Go Go.RowKit
set_option linter.unusedVariables false
set_option linter.unusedSimpArgs false
theorem bulk_mem {H : Type} {d : DataW H} : ∀ {l : List (DataW H)}, d ∈ l -> Rows.uptoBulk d <= Rows.uptoBulkAll l
 | x :: l, h => by
  rw [Rows.uptoBulkAll]
  rcases List.mem_cons.1 h with rfl | h
  ·omega
  ·have := bulk_mem h
   omega
theorem fits_a {H : Type} {xs : List Ps.C} {d : DataW H} (h : Ps.Fits (.a xs) d) : ∃ parts, d = .agg parts /\ xs.length = parts.length /\ ∀ i (h1 : i < xs.length) (h2 : i < parts.length), Ps.Fits xs[i] parts[i] := by
 cases h with
 | a hl hx => exact ⟨_, rfl, hl, hx⟩
theorem fits_s {H : Type} {xs : List Ps.C} {d : DataW H} (h : Ps.Fits (.s xs) d) : (xs = [] /\ d = .nil) \/ ∃ elems spare, d = .slice elems spare /\ xs.length = elems.length /\ ∀ i (h1 : i < xs.length) (h2 : i < elems.length), Ps.Fits xs[i] elems[i] := by
 cases h with
 | nil => exact .inl ⟨rfl, rfl⟩
 | s hl hx => exact .inr ⟨_, _, rfl, hl, hx⟩
theorem fits_str {H : Type} {s : Px.S} {d : DataW H} (h : Ps.Fits (.l (Px.strV s)) d) : Rows.uptoBulk d = s.length + 1 := by
 unfold Px.strV at h
 cases h
 simp [Rows.uptoBulk]
theorem bulk_of {H : Type} : ∀ (N : Nat) (x : Px.X) (d : DataW H), Px.nodes x <= N -> Ps.Fits (Px.toC x) d -> 2 * Px.nodes x <= Rows.uptoBulk d /\ (Rows.uptoBulk d <= 1048576 -> Px.shortX x)
 | 0, x, d, h, _ => absurd (Px.nodes_pos x) (by omega)
 | N + 1, .mk op int vk vi vs nm l, d, h, hf => by
  rw [Px.nodes] at h
  rw [Px.toC] at hf
  obtain ⟨parts, rfl, hl, hx⟩ := fits_a hf
  have h2 : 2 < parts.length := by simp at hl; omega
  have h3 : 3 < parts.length := by simp at hl; omega
  have h4 : 4 < parts.length := by simp at hl; omega
  have f2 := hx 2 (by simp) h2
  have f3 := hx 3 (by simp) h3
  have f4 := hx 4 (by simp) h4
  simp only [List.getElem_cons_succ, List.getElem_cons_zero] at f2 f3 f4
  have b2 : vs.length + 1 <= Rows.uptoBulk parts[2] := by
   obtain ⟨ps, e, hl2, hx2⟩ := fits_a f2
   rw [e, Rows.uptoBulk]
   have k2 : 2 < ps.length := by simp at hl2; omega
   have g2 := hx2 2 (by simp) k2
   simp only [List.getElem_cons_succ, List.getElem_cons_zero] at g2
   have := fits_str g2
   have := bulk_mem (List.getElem_mem k2)
   omega
  have b3 := fits_str f3
  have each : ∀ (l : List Px.X) (es : List (DataW H)), Px.nodesL l <= N -> (Px.toCs l).length = es.length -> (∀ i (h1 : i < (Px.toCs l).length) (h2 : i < es.length), Ps.Fits (Px.toCs l)[i] es[i]) -> 2 * Px.nodesL l <= Rows.uptoBulkAll es /\ (Rows.uptoBulkAll es <= 1048576 -> Px.shortL l) := by
   intro l
   induction l with
   | nil => intro es _ _ _; exact ⟨by simp [Px.nodesL], fun _ => by simp [Px.shortL]⟩
   | cons x l ih =>
    intro es hn hl hx
    rw [Px.toCs] at hl
    match es, hl, hx with
    | e :: es, hl, hx =>
     rw [Px.nodesL] at hn
     have h0 := hx 0 (by simp [Px.toCs]) (by simp)
     simp only [Px.toCs, List.getElem_cons_zero] at h0
     have i1 := bulk_of N x e (by omega) h0
     have i2 := ih es (by omega) (by simpa using hl) (fun i h1 h2 => by
      have := hx (i + 1) (by simp [Px.toCs]; omega) (by simp; omega)
      simpa [Px.toCs] using this)
     rw [Px.nodesL, Rows.uptoBulkAll, Px.shortL]
     exact ⟨by omega, fun hb => ⟨i1.2 (by omega), i2.2 (by omega)⟩⟩
  have b4 : 2 * Px.nodesL l <= Rows.uptoBulk parts[4] /\ (Rows.uptoBulk parts[4] <= 1048576 -> Px.shortL l) := by
   rcases fits_s f4 with ⟨hc, _⟩ | ⟨es, sp, e, hl4, hx4⟩
   ·have hl0 : l = [] := by
     cases l with
     | nil => rfl
     | cons x l => rw [Px.toCs] at hc; cases hc
    subst hl0
    exact ⟨by simp [Px.nodesL], fun _ => by simp [Px.shortL]⟩
   ·have := each l es (by omega) hl4 hx4
    rw [e, Rows.uptoBulk]
    exact ⟨by omega, fun hb => this.2 (by omega)⟩
  have sum : Rows.uptoBulk parts[2] + (Rows.uptoBulk parts[3] + Rows.uptoBulk parts[4]) <= Rows.uptoBulkAll parts := by
   match parts, hl with
   | [d0, d1, d2, d3, d4], _ =>
    simp only [Rows.uptoBulkAll, List.getElem_cons_succ, List.getElem_cons_zero]
    omega
  rw [Rows.uptoBulk, Px.nodes, Px.shortX]
  exact ⟨by omega, fun hb => ⟨⟨by omega, by omega⟩, b4.2 (by omega)⟩⟩
theorem bulk_pos {H : Type} (d : DataW H) : 1 <= Rows.uptoBulk d \/ d matches .iface _ _ := by
 cases d with
 | lit l => cases l <;> simp [Rows.uptoBulk]
 | _ => simp [Rows.uptoBulk]
theorem bulk_elem {H : Type} {xs : List Ps.C} {d : DataW H} (h : Ps.Fits (.s xs) d) (i : Nat) (hi : i < xs.length) : ∃ e : DataW H, Ps.Fits xs[i] e /\ Rows.uptoBulk e <= Rows.uptoBulk d := by
 rcases fits_s h with ⟨rfl, _⟩ | ⟨es, sp, rfl, hl, hx⟩
 ·simp at hi
 ·have hi2 : i < es.length := by omega
  have := bulk_mem (List.getElem_mem hi2)
  rw [Rows.uptoBulk]
  exact ⟨_, hx i hi hi2, by omega⟩
theorem bulk_len {H : Type} {q : Nat} {xs : List Ps.C} {d : DataW H} (h : Ps.Fits (.s xs) d) (h1 : ∀ i (hi : i < xs.length) (e : DataW H), Ps.Fits xs[i] e -> q <= Rows.uptoBulk e) : q * xs.length <= Rows.uptoBulk d := by
 rcases fits_s h with ⟨rfl, rfl⟩ | ⟨es, sp, rfl, hl, hx⟩
 ·simp
 ·have gen : ∀ (xs : List Ps.C) (es : List (DataW H)), xs.length = es.length -> (∀ i (h1 : i < xs.length) (h2 : i < es.length), Ps.Fits xs[i] es[i]) -> (∀ i (hi : i < xs.length) (e : DataW H), Ps.Fits xs[i] e -> q <= Rows.uptoBulk e) -> q * xs.length <= Rows.uptoBulkAll es := by
   intro xs
   induction xs with
   | nil => intro es _ _ _; simp
   | cons x xs ih =>
    intro es hl hx hq
    match es, hl with
    | e :: es, hl =>
     have h0 := hq 0 (by simp) e (hx 0 (by simp) (by simp))
     have h1 := ih es (by simpa using hl) (fun i h1 h2 => by
      have := hx (i + 1) (by simp; omega) (by simp; omega)
      simpa using this) (fun i hi e he => hq (i + 1) (by simp; omega) e (by simpa using he))
     rw [Rows.uptoBulkAll, List.length_cons, Nat.mul_add]
     omega
  have := gen xs es hl hx h1
  rw [Rows.uptoBulk]
  omega
theorem bulk_part {H : Type} {xs : List Ps.C} {d : DataW H} (h : Ps.Fits (.a xs) d) (i : Nat) (hi : i < xs.length) : ∃ e : DataW H, Ps.Fits xs[i] e /\ Rows.uptoBulk e <= Rows.uptoBulk d := by
 obtain ⟨ps, rfl, hl, hx⟩ := fits_a h
 have hi2 : i < ps.length := by omega
 have := bulk_mem (List.getElem_mem hi2)
 rw [Rows.uptoBulk]
 exact ⟨_, hx i hi hi2, by omega⟩
theorem bulk_int {H : Type} {n : Int} {d : DataW H} (h : Ps.Fits (Px.intC n) d) : 1 <= Rows.uptoBulk d := by
 unfold Px.intC at h
 cases h
 simp [Rows.uptoBulk]
theorem bulk_agg {H : Type} {xs : List Ps.C} {d : DataW H} (h : Ps.Fits (.a xs) d) (s : Px.S) (hi : 0 < xs.length) (h0 : xs[0] = .l (Px.strV s)) : 2 <= Rows.uptoBulk d := by
 obtain ⟨ps, rfl, hl, hx⟩ := fits_a h
 have hi2 : 0 < ps.length := by omega
 have h2 := hx 0 hi hi2
 rw [h0] at h2
 have := fits_str h2
 have := bulk_mem (List.getElem_mem hi2)
 rw [Rows.uptoBulk]
 omega
/-- the columns' number -/
theorem bulk_cols {H : Type} {L : List Px.Col} {d : DataW H} (h : Ps.Fits (.s (L.map Px.toCol)) d) : 2 * L.length <= Rows.uptoBulk d := by
 have := bulk_len (q := 2) h (fun i hi e he => by
  rw [List.getElem_map] at he
  unfold Px.toCol at he
  exact bulk_agg he _ (by simp) rfl)
 simpa using this
theorem bulk_ints {H : Type} {L : List Int} {d : DataW H} (h : Ps.Fits (.s (L.map Px.intC)) d) : L.length <= Rows.uptoBulk d := by
 have := bulk_len (q := 1) h (fun i hi e he => by
  rw [List.getElem_map] at he
  exact bulk_int he)
 simpa using this
theorem bulk_fors {H : Type} {L : List Px.Fkey} {d : DataW H} (h : Ps.Fits (.s (L.map Px.toFk)) d) : ∀ f ∈ L, f.cols.length <= Rows.uptoBulk d := fun f hf => by
 obtain ⟨i, hi, rfl⟩ := List.getElem_of_mem hf
 obtain ⟨e, he, hb⟩ := bulk_elem h i (by simpa using hi)
 rw [List.getElem_map] at he
 unfold Px.toFk at he
 obtain ⟨e2, he2, hb2⟩ := bulk_part he 0 (by simp)
 have := bulk_ints he2
 omega
theorem bulk_exprs {H : Type} {L : List Px.X} {d : DataW H} (h : Ps.Fits (.s (Px.toCs L)) d) (hd : Rows.uptoBulk d <= 1048576) : ∀ x ∈ L, Px.nodes x <= 1000000 /\ Px.shortX x := fun x hx => by
 obtain ⟨i, hi, rfl⟩ := List.getElem_of_mem hx
 rw [Px.toCs_map] at h
 obtain ⟨e, he, hb⟩ := bulk_elem h i (by simpa using hi)
 rw [List.getElem_map] at he
 have := bulk_of _ L[i] e (Nat.le_refl _) he
 exact ⟨by omega, this.2 (by omega)⟩
/-- a table's lists -/
theorem bulk_table {H : Type} {t : Px.Tbl} {d : DataW H} (h : Ps.Fits (Px.toTb t) d) (hd : Rows.uptoBulk d <= 1048576) : t.cols.length <= 1000000 /\ t.key.length <= 1099511627776 /\ (∀ f ∈ t.fors, f.cols.length <= 1099511627776) /\ ∀ x ∈ t.checks, Px.nodes x <= 1000000 /\ Px.shortX x := by
 unfold Px.toTb at h
 obtain ⟨e1, f1, b1⟩ := bulk_part h 1 (by simp)
 obtain ⟨e2, f2, b2⟩ := bulk_part h 2 (by simp)
 obtain ⟨e3, f3, b3⟩ := bulk_part h 3 (by simp)
 obtain ⟨e4, f4, b4⟩ := bulk_part h 4 (by simp)
 have := bulk_cols f1
 have := bulk_ints f2
 have h3 := bulk_fors f3
 exact ⟨by omega, by omega, fun f hf => by have := h3 f hf; omega, bulk_exprs f4 (by omega)⟩
end Go.Proofs.YtnlimlboedohgaaGreatDoor.Bk
