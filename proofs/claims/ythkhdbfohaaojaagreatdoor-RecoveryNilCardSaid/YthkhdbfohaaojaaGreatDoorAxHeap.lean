/-
  The run's own memory: groups of blocks that may be one real block, and maps.
-/
import Derived.Test.YthkhdbfohaaojaaGreatDoorAxBase
import Derived.ArgAppend
namespace Go.Proofs.YthkhdbfohaaojaaGreatDoor.Ax
open Go.RowKit
set_option linter.unusedVariables false
set_option linter.unusedSimpArgs false

/-- the record of a range over a function; the block of its deferred calls (none of them), open or shut -/
inductive LB where
  | lp (st : LoopState) (pend : Option Code) (tm : Tr RV) (n : Nat) (ps : Array Tmp) (assign body : Code)
  | df (op : Bool)
  /-- an iterator over a map: which, its clock at the start, who was met, the clock at the last step -/
  | mi (m since : Nat) (seen : List Nat) (last : Nat)
def LBR (g : Gm) (env : Nat → Value) : LB → Obj → Prop
  | .lp st pend tm n ps assign body, o => ∃ r : Loop, o = .loop r ∧ r.state = st ∧ r.pending = pend ∧ r.params = ps ∧ r.assign = assign ∧ r.body = body ∧ RF g env tm n { tmps := r.tmps, defers := [] }
  | .df true, o => o = .deferred (some [])
  | .df false, o => o = .deferred none
  | .mi m since seen last, o => ∃ q n, g m 0 = some (q, n) ∧ o = .mapIter (some q) since seen.toArray last
theorem LBR.mono {g g' : Gm} {env : Nat → Value} {b : LB} {o : Obj} (h : LBR g env b o) (hg : Ext g g') : LBR g' env b o := by
  cases b with
  | lp st pend tm n ps assign body =>
    obtain ⟨r, h1, h2, h3, h4, h5, h6, h7⟩ := h
    exact ⟨r, h1, h2, h3, h4, h5, h6, h7.mono hg⟩
  | df op => cases op <;> exact h
  | mi m since seen last =>
    obtain ⟨q, n, h1, h2⟩ := h
    exact ⟨q, n, hg _ _ _ h1, h2⟩
/-- a group's members (which, and the cells that are known; z: nobody appends in place), or a map -/
inductive OB where
  | cells (elem : TypeId) (z : Bool) (nx : Nat) (mem : List (Nat × List RV))
  | mp (es : List (RV × RV × Nat)) (clock : Nat)
  /-- an iterator over a string: what is left of it, and where it stands -/
  | si (s rest : List Nat) (pos : Nat)
  | ot (b : LB)
  deriving Inhabited
abbrev Hp := Tr OB
/-- what does not change: the world at the start, blocks that stay as they are, groups that nobody may touch, what the unknown values are -/
structure Cx where
  w0 : World
  K : Nat → Option Obj
  F : Nat → Option (Nat → Option (Nat × Nat))
  env : Nat → Value
def Lies (g : Gm) (env : Nat → Value) (w : World) (q n : Nat) (elem : TypeId) (z : Bool) (cs : List RV) : Prop :=
  ∃ arr fz, w.heap[q]? = some (.cells arr elem fz) ∧ ((z = false → fz = (0, 0)) ∧ ∀ j, j < n → (decide (fz.1 ≤ j) && decide (j < fz.2)) = false) ∧ arr.size = n ∧ cs.length ≤ n ∧ ∀ j (h1 : j < cs.length) (h2 : j < arr.size), R g env cs[j] arr[j]
def OK (c : Cx) (g : Gm) (w : World) (G : Nat) : OB → Prop
  | .cells elem z nxe mem => (∀ e, nxe ≤ e → g G e = none) ∧ ∀ e cs, (e, cs) ∈ mem → ∃ q n, g G e = some (q, n) ∧ c.K q = none ∧ Lies g c.env w q n elem z cs
  | .mp es ck => (∀ e, 1 ≤ e → g G e = none) ∧ ∃ q arr, g G 0 = some (q, 0) ∧ c.K q = none ∧ w.heap[q]? = some (.map arr ck) ∧ arr.size = es.length ∧ ∀ j (h1 : j < es.length) (h2 : j < arr.size), R g c.env es[j].1 arr[j].key ∧ R g c.env es[j].2.1 arr[j].val ∧ arr[j].born = es[j].2.2
  | .si s rest pos => (∀ e, 1 ≤ e → g G e = none) ∧ (∀ x ∈ s, x < 256) ∧ rest = s.drop pos ∧ ∃ q, g G 0 = some (q, 0) ∧ c.K q = none ∧ w.heap[q]? = some (.stringIter (ofCodes s) pos)
  | .ot b => (∀ e, 1 ≤ e → g G e = none) ∧ ∃ q o, g G 0 = some (q, 0) ∧ c.K q = none ∧ w.heap[q]? = some o ∧ LBR g c.env b o
def LiveOb : OB → Nat → Prop
  | .cells _ _ _ mem, e => ∃ cs, (e, cs) ∈ mem
  | .mp _ _, e => e = 0
  | .si _ _ _, e => e = 0
  | .ot _, e => e = 0
def Live (h : Hp) (G e : Nat) : Prop := ∃ ob, h.get G = some ob ∧ LiveOb ob e
structure RW (c : Cx) (g : Gm) (h : Hp) (nx : Nat) (w : World) : Prop where
  os : w.os = c.w0.os
  tape : w.tape = c.w0.tape
  output : w.output = c.w0.output
  size : c.w0.heap.size ≤ w.heap.size
  keep : ∀ q o, c.K q = some o → w.heap[q]? = some o
  free : ∀ G e, nx ≤ G → g G e = none
  dom : ∀ G, nx ≤ G → h.get G = none
  res : ∀ G f, c.F G = some f → G < nx ∧ h.get G = none ∧ ∀ e, g G e = f e
  ok : ∀ G ob, h.get G = some ob → OK c g w G ob
  sep : ∀ G G' e e' q n n', Live h G e → Live h G' e' → g G e = some (q, n) → g G' e' = some (q, n') → G = G'
section
variable {c : Cx} {g g' : Gm} {h : Hp} {nx nx' : Nat} {w w' : World}
theorem Lies.mono {env : Nat → Value} {q n : Nat} {elem : TypeId} {z : Bool} {cs : List RV} (hl : Lies g env w q n elem z cs) (hg : Ext g g') (hw : w'.heap[q]? = w.heap[q]?) : Lies g' env w' q n elem z cs := by
  obtain ⟨arr, fz, h1, hf, h0, h2, h3⟩ := hl
  exact ⟨arr, fz, hw.trans h1, hf, h0, h2, fun j a b => (h3 j a b).mono hg⟩
theorem Lies.cell {env : Nat → Value} {q n : Nat} {elem : TypeId} {z : Bool} {cs : List RV} (hl : Lies g env w q n elem z cs) {j : Nat} (hj : j < cs.length) : ∃ v, w.cell? ⟨q, j, none⟩ = some v ∧ R g env cs[j] v ∧ w.frozen? ⟨q, j, none⟩ = false := by
  obtain ⟨arr, fz, h1, hf, h0, h2, h3⟩ := hl
  have hja : j < arr.size := by omega
  refine ⟨arr[j], ?_, h3 j hj hja, ?_⟩
  · simp [World.cell?, h1, hja]
  · have := hf.2 j (by omega)
    simp only [World.frozen?, h1]
    exact this
/-- the cells of a block from a place on -/
theorem Lies.range {env : Nat → Value} {q m : Nat} {elem : TypeId} {z : Bool} {cs : List RV} (hl : Lies g env w q m elem z cs) {off n : Nat} (hn : off + n ≤ cs.length) : ∃ vs : List Value, w.rangeAt q off vs ∧ vs.length = n ∧ RL g env ((cs.drop off).take n) vs := by
  obtain ⟨arr, fz, h1, hf, h0, h2, h3⟩ := hl
  have hlen : ((arr.toList.drop off).take n).length = n := by
    rw [List.length_take, List.length_drop, Array.length_toList]
    omega
  refine ⟨(arr.toList.drop off).take n, fun j v hj => ?_, hlen, ⟨?_, fun j k1 k2 => ?_⟩⟩
  · have hjn : j < n := by rw [← hlen]; exact (List.getElem?_eq_some_iff.1 hj).1
    rw [List.getElem?_take, if_pos hjn, List.getElem?_drop] at hj
    have : arr[off + j]? = some v := by rw [← Array.getElem?_toList]; exact hj
    simp [World.cell?, h1, this]
  · rw [hlen, List.length_take, List.length_drop]
    omega
  · rw [List.getElem_take, List.getElem_drop, List.getElem_take, List.getElem_drop]
    have hjn : j < n := by rw [← hlen]; exact k2
    exact h3 (off + j) (by omega) (by omega)
theorem OK.mono {G : Nat} {ob : OB} (ho : OK c g w G ob) (hext : Ext g g') (hg : ∀ e, g' G e = g G e) (hb : ∀ e q n, LiveOb ob e → g G e = some (q, n) → w'.heap[q]? = w.heap[q]?) : OK c g' w' G ob := by
  cases ob with
  | cells elem z nxe mem =>
    refine ⟨fun e he => by rw [hg]; exact ho.1 e he, fun e cs hm => ?_⟩
    obtain ⟨q, n, h1, h2, h3⟩ := ho.2 e cs hm
    exact ⟨q, n, by rw [hg]; exact h1, h2, h3.mono hext (hb e q n ⟨cs, hm⟩ h1)⟩
  | mp es ck =>
    obtain ⟨h0, q, arr, h1, h2, h3, h4, h5⟩ := ho
    refine ⟨fun e he => by rw [hg]; exact h0 e he, q, arr, by rw [hg]; exact h1, h2, (hb 0 q 0 rfl h1).trans h3, h4, fun j k1 k2 => ?_⟩
    obtain ⟨a, b, d⟩ := h5 j k1 k2
    exact ⟨a.mono hext, b.mono hext, d⟩
  | si s rest pos =>
    obtain ⟨h0, hs, hr, q, h1, h2, h3⟩ := ho
    exact ⟨fun e he => by rw [hg]; exact h0 e he, hs, hr, q, by rw [hg]; exact h1, h2, (hb 0 q 0 rfl h1).trans h3⟩
  | ot b =>
    obtain ⟨h0, q, o, h1, h2, h3, h4⟩ := ho
    exact ⟨fun e he => by rw [hg]; exact h0 e he, q, o, by rw [hg]; exact h1, h2, (hb 0 q 0 rfl h1).trans h3, h4.mono hext⟩
/-- one group is set anew -/
theorem RW.upd (hw : RW c g h nx w) {G : Nat} {ob : OB} {F' : Nat → Option (Nat → Option (Nat × Nat))} (hst : w'.os = w.os ∧ w'.tape = w.tape ∧ w'.output = w.output ∧ w.heap.size ≤ w'.heap.size)
    (hK : ∀ q o, c.K q = some o → w'.heap[q]? = w.heap[q]?)
    (hoth : ∀ G' e' q n, G' ≠ G → Live h G' e' → g G' e' = some (q, n) → w'.heap[q]? = w.heap[q]?)
    (hext : Ext g g') (hg : ∀ G' e', G' ≠ G → g' G' e' = g G' e') (hres : ∀ x f, F' x = some f → c.F x = some f ∧ x ≠ G) (hnx : nx ≤ nx') (hG : G < nx')
    (hok : OK c g' w' G ob)
    (hsep : ∀ e q n, LiveOb ob e → g' G e = some (q, n) → ∀ G' e' n', G' ≠ G → Live h G' e' → g G' e' ≠ some (q, n')) :
    RW { c with F := F' } g' (h.set G ob) nx' w' := by
  have hlive : ∀ G' e', G' ≠ G → Live (h.set G ob) G' e' → Live h G' e' := fun G' e' hne ⟨o, h1, h2⟩ => by
    rw [Tr.get_set, if_neg hne] at h1
    exact ⟨o, h1, h2⟩
  have hliveG : ∀ e', Live (h.set G ob) G e' → LiveOb ob e' := fun e' ⟨o, h1, h2⟩ => by
    rw [Tr.get_set, if_pos rfl] at h1
    cases h1
    exact h2
  refine ⟨hst.1.trans hw.os, hst.2.1.trans hw.tape, hst.2.2.1.trans hw.output, Nat.le_trans hw.size hst.2.2.2, fun q o hq => (hK q o hq).trans (hw.keep q o hq), ?_, fun G' hG' => by rw [Tr.get_set, if_neg (by omega)]; exact hw.dom G' (by omega), ?_, ?_, ?_⟩
  · intro G' e hG'
    have hne : G' ≠ G := by omega
    rw [hg G' e hne]
    exact hw.free G' e (by omega)
  · intro x f hx
    obtain ⟨h1, h2⟩ := hres x f hx
    obtain ⟨h3, h5, h4⟩ := hw.res x f h1
    exact ⟨by omega, by rw [Tr.get_set, if_neg h2]; exact h5, fun e => by rw [hg x e h2]; exact h4 e⟩
  · intro G' o hget
    rw [Tr.get_set] at hget
    split at hget
    · rename_i e
      subst e
      cases hget
      exact hok
    · rename_i hne
      have := (hw.ok G' o hget).mono (w' := w') hext (fun e => hg G' e hne) fun e q n hl hq => hoth G' e q n hne ⟨o, hget, hl⟩ hq
      exact this
  · intro A B e e' q n n' ha hb ka kb
    by_cases hA : A = G <;> by_cases hB : B = G
    · rw [hA, hB]
    · subst hA
      rw [hg B e' hB] at kb
      exact absurd kb (hsep e q n (hliveG e ha) ka B e' n' hB (hlive B e' hB hb))
    · subst hB
      rw [hg A e hA] at ka
      exact absurd ka (hsep e' q n' (hliveG e' hb) kb A e n hA (hlive A e hA ha))
    · rw [hg A e hA] at ka
      rw [hg B e' hB] at kb
      exact hw.sep A B e e' q n n' (hlive A e hA ha) (hlive B e' hB hb) ka kb
theorem RW.drew (hw : RW c g h nx w) : RW c g h nx w.drew := ⟨hw.os, hw.tape, hw.output, hw.size, hw.keep, hw.free, hw.dom, hw.res, fun G ob hG => (hw.ok G ob hG).mono (Ext.refl g) (fun _ => rfl) fun _ _ _ _ _ => rfl, hw.sep⟩
/-- a live own block is none of those that stay, and is there -/
theorem RW.live_at (hw : RW c g h nx w) {G e q n : Nat} (hl : Live h G e) (hq : g G e = some (q, n)) : c.K q = none ∧ q < w.heap.size := by
  obtain ⟨ob, h1, h2⟩ := hl
  have := hw.ok G ob h1
  cases ob with
  | cells elem z nxe mem =>
    obtain ⟨cs, hm⟩ := h2
    obtain ⟨q', n', h3, h4, arr, fz, h5, _⟩ := this.2 e cs hm
    rw [hq] at h3
    cases h3
    exact ⟨h4, (Array.getElem?_eq_some_iff.1 h5).1⟩
  | mp es ck =>
    cases h2
    obtain ⟨_, q', arr, h3, h4, h5, _⟩ := this
    rw [hq] at h3
    cases h3
    exact ⟨h4, (Array.getElem?_eq_some_iff.1 h5).1⟩
  | si s rest pos =>
    cases h2
    obtain ⟨_, _, _, q', h3, h4, h5⟩ := this
    rw [hq] at h3
    cases h3
    exact ⟨h4, (Array.getElem?_eq_some_iff.1 h5).1⟩
  | ot b =>
    cases h2
    obtain ⟨_, q', o, h3, h4, h5, _⟩ := this
    rw [hq] at h3
    cases h3
    exact ⟨h4, (Array.getElem?_eq_some_iff.1 h5).1⟩
theorem RW.not_fix (hw : RW c g h nx w) {G e : Nat} (hl : Live h G e) : ∀ y f, c.F y = some f → c.F y = some f ∧ y ≠ G := fun y f hy => ⟨hy, fun ee => by
  subst ee
  obtain ⟨ob, h1, _⟩ := hl
  rw [(hw.res y f hy).2.1] at h1
  cases h1⟩
def gSet (g : Gm) (G e : Nat) (x : Nat × Nat) : Gm := fun G' e' => if G' = G ∧ e' = e then some x else g G' e'
theorem gSet_self {G e : Nat} {x : Nat × Nat} : gSet g G e x G e = some x := by simp [gSet]
theorem gSet_ext {G e : Nat} {x : Nat × Nat} (h0 : g G e = none) : Ext g (gSet g G e x) := fun G' e' y hy => by
  unfold gSet
  split
  · rename_i hh
    rw [hh.1, hh.2, h0] at hy
    cases hy
  · exact hy
theorem gSet_ne {G e G' e' : Nat} {x : Nat × Nat} (h0 : G' ≠ G) : gSet g G e x G' e' = g G' e' := by simp [gSet, h0]
theorem gSet_ne' {G e e' : Nat} {x : Nat × Nat} (h0 : e' ≠ e) : gSet g G e x G e' = g G e' := by simp [gSet, h0]
/-- a new block -/
theorem RW.alloc (hw : RW c g h nx w) {G : Nat} {F' : Nat → Option (Nat → Option (Nat × Nat))} (hG : ∀ e, g G e = none) (hres : ∀ x f, F' x = some f → c.F x = some f ∧ x ≠ G) (hnx : nx ≤ nx') (hGn : G < nx') {vs : Array Value} {elem : TypeId} {cs : List RV} (hle : cs.length ≤ vs.size)
    (hr : ∀ j (h1 : j < cs.length) (h2 : j < vs.size), R g c.env cs[j] vs[j]) :
    RW { c with F := F' } (gSet g G 0 (w.heap.size, vs.size)) (h.set G (.cells elem false 1 [(0, cs)])) nx' (w.alloc (.cells vs elem)) := by
  have hold : ∀ q, q < w.heap.size → (w.alloc (.cells vs elem)).heap[q]? = w.heap[q]? := fun q hq => Below.heap_alloc w _ q hq
  have hext := gSet_ext (g := g) (e := 0) (x := (w.heap.size, vs.size)) (hG 0)
  refine hw.upd ⟨rfl, rfl, rfl, by simp⟩ (fun q o hq => hold q ?_) (fun G' e' q n hne hl hq => hold q (hw.live_at hl hq).2) hext (fun G' e' hne => gSet_ne hne) hres hnx hGn ?_ ?_
  · exact (Array.getElem?_eq_some_iff.1 (hw.keep q o hq)).1
  · refine ⟨fun e he => by rw [gSet_ne' (by omega)]; exact hG e, fun e cs' hm => ?_⟩
    rw [List.mem_singleton] at hm
    cases hm
    refine ⟨w.heap.size, vs.size, gSet_self, ?_, vs, (0, 0), heap_alloc_new w _, ⟨fun _ => rfl, fun j _ => by simp⟩, rfl, hle, fun j h1 h2 => (hr j h1 h2).mono hext⟩
    cases hk : c.K w.heap.size with
    | none => rfl
    | some o => exact absurd (Array.getElem?_eq_some_iff.1 (hw.keep _ o hk)).1 (by omega)
  · rintro e q n ⟨cs', hm⟩ hq G' e' n' hne hl hq'
    rw [List.mem_singleton] at hm
    cases hm
    rw [gSet_self] at hq
    cases hq
    have := (hw.live_at hl hq').2
    omega
/-- a new map -/
theorem RW.allocMapOf (hw : RW c g h nx w) {es : List (RV × RV × Nat)} {ck : Nat} {arr : Array MapEntry} (hn : arr.size = es.length) (hr : ∀ j (h1 : j < es.length) (h2 : j < arr.size), R g c.env es[j].1 arr[j].key ∧ R g c.env es[j].2.1 arr[j].val ∧ arr[j].born = es[j].2.2) :
    RW c (gSet g nx 0 (w.heap.size, 0)) (h.set nx (.mp es ck)) (nx + 1) (w.alloc (.map arr ck)) := by
  have hG : ∀ e, g nx e = none := fun e => hw.free nx e (Nat.le_refl _)
  have hold : ∀ q, q < w.heap.size → (w.alloc (.map arr ck)).heap[q]? = w.heap[q]? := fun q hq => Below.heap_alloc w _ q hq
  have hext := gSet_ext (g := g) (e := 0) (x := (w.heap.size, 0)) (hG 0)
  refine hw.upd (F' := c.F) (G := nx) ⟨rfl, rfl, rfl, by simp⟩ (fun q o hq => hold q ?_) (fun G' e' q n hne hl hq => hold q (hw.live_at hl hq).2) hext (fun G' e' hne => gSet_ne hne) (fun x f hx => ⟨hx, ?_⟩) (Nat.le_succ _) (Nat.lt_succ_self _) ?_ ?_
  · exact (Array.getElem?_eq_some_iff.1 (hw.keep q o hq)).1
  · have := (hw.res x f hx).1
    omega
  · refine ⟨fun e he => by rw [gSet_ne' (by omega)]; exact hG e, w.heap.size, arr, gSet_self, ?_, heap_alloc_new w _, hn, fun j h1 h2 => ?_⟩
    · cases hk : c.K w.heap.size with
      | none => rfl
      | some o => exact absurd (Array.getElem?_eq_some_iff.1 (hw.keep _ o hk)).1 (by omega)
    obtain ⟨k1, k2, k3⟩ := hr j h1 h2
    exact ⟨k1.mono hext, k2.mono hext, k3⟩
  · rintro e q n he hq G' e' n' hne hl hq'
    cases he
    rw [gSet_self] at hq
    cases hq
    have := (hw.live_at hl hq').2
    omega
theorem RW.allocMap (hw : RW c g h nx w) : RW c (gSet g nx 0 (w.heap.size, 0)) (h.set nx (.mp [] 0)) (nx + 1) (w.alloc (.map #[] 0)) := hw.allocMapOf rfl fun j h1 => absurd h1 (by simp)
/-- a new record or block of a range over a function -/
theorem RW.allocOt (hw : RW c g h nx w) {b : LB} {o : Obj} (hb : LBR g c.env b o) :
    RW c (gSet g nx 0 (w.heap.size, 0)) (h.set nx (.ot b)) (nx + 1) (w.alloc o) := by
  have hG : ∀ e, g nx e = none := fun e => hw.free nx e (Nat.le_refl _)
  have hold : ∀ q, q < w.heap.size → (w.alloc o).heap[q]? = w.heap[q]? := fun q hq => Below.heap_alloc w _ q hq
  have hext := gSet_ext (g := g) (e := 0) (x := (w.heap.size, 0)) (hG 0)
  refine hw.upd (F' := c.F) (G := nx) ⟨rfl, rfl, rfl, by simp⟩ (fun q o hq => hold q ?_) (fun G' e' q n hne hl hq => hold q (hw.live_at hl hq).2) hext (fun G' e' hne => gSet_ne hne) (fun x f hx => ⟨hx, ?_⟩) (Nat.le_succ _) (Nat.lt_succ_self _) ?_ ?_
  · exact (Array.getElem?_eq_some_iff.1 (hw.keep q o hq)).1
  · have := (hw.res x f hx).1
    omega
  · refine ⟨fun e he => by rw [gSet_ne' (by omega)]; exact hG e, w.heap.size, o, gSet_self, ?_, heap_alloc_new w _, hb.mono hext⟩
    cases hk : c.K w.heap.size with
    | none => rfl
    | some o => exact absurd (Array.getElem?_eq_some_iff.1 (hw.keep _ o hk)).1 (by omega)
  · rintro e q n he hq G' e' n' hne hl hq'
    cases he
    rw [gSet_self] at hq
    cases hq
    have := (hw.live_at hl hq').2
    omega
def findM : List (Nat × List RV) → Nat → Option (List RV)
  | [], _ => none
  | (e, cs) :: r, x => bif Nat.beq e x then some cs else findM r x
theorem findM_mem : ∀ {l : List (Nat × List RV)} {x : Nat} {cs : List RV}, findM l x = some cs → (x, cs) ∈ l
  | (e, cs) :: r, x, cs', hh => by
    unfold findM at hh
    cases hb : Nat.beq e x with
    | true =>
      rw [hb, cond_true] at hh
      cases hh
      rw [Nat.eq_of_beq_eq_true hb]
      exact List.mem_cons_self
    | false =>
      rw [hb, cond_false] at hh
      exact List.mem_cons_of_mem _ (findM_mem hh)
/-- an own block's cells -/
def cellsAt (h : Hp) (G e : Nat) : Option (TypeId × Bool × Nat × List RV) :=
  match h.get G with
  | some (.cells elem z nxe mem) => match findM mem e with
    | some cs => some (elem, z, nxe, cs)
    | none => none
  | _ => none
theorem RW.at_ (hw : RW c g h nx w) {G e q n nxe : Nat} {elem : TypeId} {z : Bool} {cs : List RV} (hc : cellsAt h G e = some (elem, z, nxe, cs)) (hq : g G e = some (q, n)) : c.K q = none ∧ Lies g c.env w q n elem z cs ∧ Live h G e ∧ (∀ e, nxe ≤ e → g G e = none) ∧ e < nxe := by
  unfold cellsAt at hc
  split at hc
  · rename_i elem' z' nxe' mem hg
    split at hc
    · rename_i cs' hf
      cases hc
      have hok := hw.ok G _ hg
      obtain ⟨q', n', h1, h2, h3⟩ := hok.2 e cs (findM_mem hf)
      rw [hq] at h1
      cases h1
      refine ⟨h2, h3, ⟨_, hg, cs, findM_mem hf⟩, hok.1, ?_⟩
      rcases Nat.lt_or_ge e nxe with hlt | hge
      · exact hlt
      · rw [hok.1 e hge] at hq
        cases hq
    · cases hc
  · cases hc
/-- a block's row is set anew: the group's other members are forgotten -/
theorem RW.setRow (hw : RW c g h nx w) {G e q n nxe : Nat} {elem : TypeId} {z : Bool} {cs cs' : List RV} (hc : cellsAt h G e = some (elem, z, nxe, cs)) (hq : g G e = some (q, n)) {arr arr' : Array Value} {fz : Nat × Nat} (hold : w.heap[q]? = some (.cells arr elem fz)) (hst : w'.os = w.os ∧ w'.tape = w.tape ∧ w'.output = w.output ∧ w'.heap.size = w.heap.size)
    (hoth : ∀ k, k ≠ q → w'.heap[k]? = w.heap[k]?) (hnew : w'.heap[q]? = some (.cells arr' elem fz)) (hn : arr'.size = n) (hle : cs'.length ≤ n) (hr : ∀ j (h1 : j < cs'.length) (h2 : j < arr'.size), R g c.env cs'[j] arr'[j]) :
    RW c g (h.set G (.cells elem z nxe [(e, cs')])) nx w' := by
  obtain ⟨hK, hl, hlive, hnx, helt⟩ := hw.at_ hc hq
  have hG : G < nx := by
    rcases Nat.lt_or_ge G nx with hlt | hge
    · exact hlt
    · rw [hw.free G e hge] at hq
      cases hq
  refine hw.upd (F' := c.F) ⟨hst.1, hst.2.1, hst.2.2.1, Nat.le_of_eq hst.2.2.2.symm⟩ (fun k o hk => hoth k fun e => by rw [e, hK] at hk; cases hk) (fun G' e' k m hne hl' hk => hoth k fun ee => ?_) (Ext.refl g) (fun _ _ _ => rfl) (hw.not_fix hlive) (Nat.le_refl _) hG ?_ ?_
  · subst ee
    exact hne (hw.sep _ _ _ _ _ _ _ hl' hlive hk hq)
  · refine ⟨hnx, fun e' cs'' hm => ?_⟩
    rw [List.mem_singleton] at hm
    cases hm
    obtain ⟨arr0, fz0, a1, a2, _⟩ := hl
    rw [hold] at a1
    cases a1
    exact ⟨q, n, hq, hK, arr', fz, hnew, a2, hn, hle, hr⟩
  · rintro e' q' n' ⟨cs'', hm⟩ hq' G' e'' n'' hne hl' hq''
    rw [List.mem_singleton] at hm
    cases hm
    rw [hq] at hq'
    cases hq'
    exact hne (hw.sep _ _ _ _ _ _ _ hl' hlive hq'' hq)
end
end Go.Proofs.YthkhdbfohaaojaaGreatDoor.Ax
