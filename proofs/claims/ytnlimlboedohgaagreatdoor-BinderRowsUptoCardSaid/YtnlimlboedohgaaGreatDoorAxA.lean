import Derived.Test.YtnlimlboedohgaaGreatDoorAxBase
import Derived.ArgAppend
/-
  The run's own memory: groups of blocks that may be one real block, and maps.
-/
namespace Go.Proofs.YtnlimlboedohgaaGreatDoor.Ax
open Go.RowKit
set_option linter.unusedVariables false
set_option linter.unusedSimpArgs false

/-- the record of a range over a function; the block of its deferred calls (none of them), open or shut -/
inductive LB where
 | lp (st : LoopState) (pend : Option Code) (tm : Tr RV) (n : Nat) (ps : Array Tmp) (assign body : Code)
 | df (op : Bool)
 /-- an iterator over a map: which, its clock at the start, who was met, the clock at the last step -/
 | mi (m since : Nat) (seen : List Nat) (last : Nat)
def LBR (g : Gm) (env : Nat -> Value) : LB -> Obj -> Prop
 | .lp st pend tm n ps assign body, o => ∃ r : Loop, o = .loop r /\ r.state = st /\ r.pending = pend /\ r.params = ps /\ r.assign = assign /\ r.body = body /\ RF g env tm n { tmps := r.tmps, defers := [] }
 | .df true, o => o = .deferred (some [])
 | .df false, o => o = .deferred none
 | .mi m since seen last, o => ∃ q n, g m 0 = some (q, n) /\ o = .mapIter (some q) since seen.toArray last
theorem LBR.mono {g g' : Gm} {env : Nat -> Value} {b : LB} {o : Obj} (h : LBR g env b o) (hg : Ext g g') : LBR g' env b o := by
 cases b with
 | lp st pend tm n ps assign body =>
  obtain ⟨r, h1, h2, h3, h4, h5, h6, h7⟩ := h
  exact ⟨r, h1, h2, h3, h4, h5, h6, h7.mono hg⟩
 | df op => cases op <;> exact h
 | mi m since seen last =>
  obtain ⟨q, n, h1, h2⟩ := h
  exact ⟨q, n, hg _ _ _ h1, h2⟩
/-- a group's members (which, and the cells that are known; z: nobody appends in place), or a map -/
inductive OB where
 | cells (elem : TypeId) (z : Bool) (nx : Nat) (mem : List (Nat × List RV))
 | mp (es : List (RV × RV × Nat)) (clock : Nat)
 /-- an iterator over a string: what is left of it, and where it stands -/
 | si (s rest : List Nat) (pos : Nat)
 | ot (b : LB)
 deriving Inhabited
abbrev Hp := Tr OB
/-- what does not change: the world at the start, blocks that stay ags they are, groups that nobody may touch, what the unknown values are -/
structure Cx where
 w0 : World
 K : Nat -> Option Obj
 F : Nat -> Option (Nat -> Option (Nat × Nat))
 env : Nat -> Value
 /-- tables stay ags they are -/
 tab : ∀ b l, tabC b = some l -> ∃ t f, K b = some (.cells l.toArray t f)
 envp : EnvP K env
def Lies (g : Gm) (env : Nat -> Value) (w : World) (q n : Nat) (elem : TypeId) (z : Bool) (cs : List RV) : Prop :=
 ∃ arr fz, w.heap[q]? = some (.cells arr elem fz) /\ ((z = false -> fz = (0, 0)) /\ ∀ j, j < n -> (decide (fz.1 <= j) && decide (j < fz.2)) = false) /\ arr.size = n /\ cs.length <= n /\ ∀ j (h1 : j < cs.length) (h2 : j < arr.size), R g env cs[j] arr[j]
def OK (c : Cx) (g : Gm) (w : World) (G : Nat) : OB -> Prop
 | .cells elem z nxe mem => (∀ e, nxe <= e -> g G e = none) /\ ∀ e cs, (e, cs) ∈ mem -> ∃ q n, g G e = some (q, n) /\ c.K q = none /\ Lies g c.env w q n elem z cs
 | .mp es ck => (∀ e, 1 <= e -> g G e = none) /\ ∃ q arr, g G 0 = some (q, 0) /\ c.K q = none /\ w.heap[q]? = some (.map arr ck) /\ arr.size = es.length /\ ∀ j (h1 : j < es.length) (h2 : j < arr.size), R g c.env es[j].1 arr[j].key /\ R g c.env es[j].2.1 arr[j].val /\ arr[j].born = es[j].2.2
 | .si s rest pos => (∀ e, 1 <= e -> g G e = none) /\ (∀ x ∈ s, x < 256) /\ rest = s.drop pos /\ ∃ q, g G 0 = some (q, 0) /\ c.K q = none /\ w.heap[q]? = some (.stringIter (ofCodes s) pos)
 | .ot b => (∀ e, 1 <= e -> g G e = none) /\ ∃ q o, g G 0 = some (q, 0) /\ c.K q = none /\ w.heap[q]? = some o /\ LBR g c.env b o
def LiveOb : OB -> Nat -> Prop
 | .cells _ _ _ mem, e => ∃ cs, (e, cs) ∈ mem
 | .mp _ _, e => e = 0
 | .si _ _ _, e => e = 0
 | .ot _, e => e = 0
def Live (h : Hp) (G e : Nat) : Prop := ∃ ob, h.get G = some ob /\ LiveOb ob e
structure RW (c : Cx) (g : Gm) (h : Hp) (nx : Nat) (w : World) : Prop where
 os : w.os = c.w0.os
 tape : w.tape = c.w0.tape
 output : w.output = c.w0.output
 size : c.w0.heap.size <= w.heap.size
 keep : ∀ q o, c.K q = some o -> w.heap[q]? = some o
 free : ∀ G e, nx <= G -> g G e = none
 dom : ∀ G, nx <= G -> h.get G = none
 res : ∀ G f, c.F G = some f -> G < nx /\ h.get G = none /\ ∀ e, g G e = f e
 ok : ∀ G ob, h.get G = some ob -> OK c g w G ob
 sep : ∀ G G' e e' q n n', Live h G e -> Live h G' e' -> g G e = some (q, n) -> g G' e' = some (q, n') -> G = G'
section
variable {c : Cx} {g g' : Gm} {h : Hp} {nx nx' : Nat} {w w' : World}
theorem Lies.mono {env : Nat -> Value} {q n : Nat} {elem : TypeId} {z : Bool} {cs : List RV} (hl : Lies g env w q n elem z cs) (hg : Ext g g') (hw : w'.heap[q]? = w.heap[q]?) : Lies g' env w' q n elem z cs := by
 obtain ⟨arr, fz, h1, hf, h0, h2, h3⟩ := hl
 exact ⟨arr, fz, hw.trans h1, hf, h0, h2, fun j a b => (h3 j a b).mono hg⟩
theorem Lies.cell {env : Nat -> Value} {q n : Nat} {elem : TypeId} {z : Bool} {cs : List RV} (hl : Lies g env w q n elem z cs) {j : Nat} (hj : j < cs.length) : ∃ v, w.cell? ⟨q, j, none⟩ = some v /\ R g env cs[j] v /\ w.frozen? ⟨q, j, none⟩ = false := by
 obtain ⟨arr, fz, h1, hf, h0, h2, h3⟩ := hl
 have hja : j < arr.size := by omega
 refine ⟨arr[j], ?_, h3 j hj hja, ?_⟩
 ·simp [World.cell?, h1, hja]
 ·have := hf.2 j (by omega)
  simp only [World.frozen?, h1]
  exact this
/-- the cells of a block from a place on -/
theorem Lies.range {env : Nat -> Value} {q m : Nat} {elem : TypeId} {z : Bool} {cs : List RV} (hl : Lies g env w q m elem z cs) {off n : Nat} (hn : off + n <= cs.length) : ∃ vs : List Value, w.rangeAt q off vs /\ vs.length = n /\ RL g env ((cs.drop off).take n) vs := by
 obtain ⟨arr, fz, h1, hf, h0, h2, h3⟩ := hl
 have hlen : ((arr.toList.drop off).take n).length = n := by
  rw [List.length_take, List.length_drop, Array.length_toList]
  omega
 refine ⟨(arr.toList.drop off).take n, fun j v hj => ?_, hlen, ⟨?_, fun j k1 k2 => ?_⟩⟩
 ·have hjn : j < n := by rw [<- hlen]; exact (List.getElem?_eq_some_iff.1 hj).1
  rw [List.getElem?_take, if_pos hjn, List.getElem?_drop] at hj
  have : arr[off + j]? = some v := by rw [<- Array.getElem?_toList]; exact hj
  simp [World.cell?, h1, this]
 ·rw [hlen, List.length_take, List.length_drop]
  omega
 ·rw [List.getElem_take, List.getElem_drop, List.getElem_take, List.getElem_drop]
  have hjn : j < n := by rw [<- hlen]; exact k2
  exact h3 (off + j) (by omega) (by omega)
theorem OK.mono {G : Nat} {ob : OB} (ho : OK c g w G ob) (hext : Ext g g') (hg : ∀ e, g' G e = g G e) (hb : ∀ e q n, LiveOb ob e -> g G e = some (q, n) -> w'.heap[q]? = w.heap[q]?) : OK c g' w' G ob := by
 cases ob with
 | cells elem z nxe mem =>
  refine ⟨fun e he => by rw [hg]; exact ho.1 e he, fun e cs hm => ?_⟩
  obtain ⟨q, n, h1, h2, h3⟩ := ho.2 e cs hm
  exact ⟨q, n, by rw [hg]; exact h1, h2, h3.mono hext (hb e q n ⟨cs, hm⟩ h1)⟩
 | mp es ck =>
  obtain ⟨h0, q, arr, h1, h2, h3, h4, h5⟩ := ho
  refine ⟨fun e he => by rw [hg]; exact h0 e he, q, arr, by rw [hg]; exact h1, h2, (hb 0 q 0 rfl h1).trans h3, h4, fun j k1 k2 => ?_⟩
  obtain ⟨a, b, d⟩ := h5 j k1 k2
  exact ⟨a.mono hext, b.mono hext, d⟩
 | si s rest pos =>
  obtain ⟨h0, hs, hr, q, h1, h2, h3⟩ := ho
  exact ⟨fun e he => by rw [hg]; exact h0 e he, hs, hr, q, by rw [hg]; exact h1, h2, (hb 0 q 0 rfl h1).trans h3⟩
 | ot b =>
  obtain ⟨h0, q, o, h1, h2, h3, h4⟩ := ho
  exact ⟨fun e he => by rw [hg]; exact h0 e he, q, o, by rw [hg]; exact h1, h2, (hb 0 q 0 rfl h1).trans h3, h4.mono hext⟩
/-- one group is set anew -/
theorem RW.upd (hw : RW c g h nx w) {G : Nat} {ob : OB} {F' : Nat -> Option (Nat -> Option (Nat × Nat))} (hst : w'.os = w.os /\ w'.tape = w.tape /\ w'.output = w.output /\ w.heap.size <= w'.heap.size)
  (hK : ∀ q o, c.K q = some o -> w'.heap[q]? = w.heap[q]?)
  (hoth : ∀ G' e' q n, G' ≠ G -> Live h G' e' -> g G' e' = some (q, n) -> w'.heap[q]? = w.heap[q]?)
  (hext : Ext g g') (hg : ∀ G' e', G' ≠ G -> g' G' e' = g G' e') (hres : ∀ x f, F' x = some f -> c.F x = some f /\ x ≠ G) (hnx : nx <= nx') (hG : G < nx')
  (hok : OK c g' w' G ob)
  (hsep : ∀ e q n, LiveOb ob e -> g' G e = some (q, n) -> ∀ G' e' n', G' ≠ G -> Live h G' e' -> g G' e' ≠ some (q, n')) :
  RW { c with F := F' } g' (h.set G ob) nx' w' := by
 have hlive : ∀ G' e', G' ≠ G -> Live (h.set G ob) G' e' -> Live h G' e' := fun G' e' hne ⟨o, h1, h2⟩ => by
  rw [Tr.get_set, if_neg hne] at h1
  exact ⟨o, h1, h2⟩
 have hliveG : ∀ e', Live (h.set G ob) G e' -> LiveOb ob e' := fun e' ⟨o, h1, h2⟩ => by
  rw [Tr.get_set, if_pos rfl] at h1
  cases h1
  exact h2
 refine ⟨hst.1.trans hw.os, hst.2.1.trans hw.tape, hst.2.2.1.trans hw.output, Nat.le_trans hw.size hst.2.2.2, fun q o hq => (hK q o hq).trans (hw.keep q o hq), ?_, fun G' hG' => by rw [Tr.get_set, if_neg (by omega)]; exact hw.dom G' (by omega), ?_, ?_, ?_⟩
 ·intro G' e hG'
  have hne : G' ≠ G := by omega
  rw [hg G' e hne]
  exact hw.free G' e (by omega)
 ·intro x f hx
  obtain ⟨h1, h2⟩ := hres x f hx
  obtain ⟨h3, h5, h4⟩ := hw.res x f h1
  exact ⟨by omega, by rw [Tr.get_set, if_neg h2]; exact h5, fun e => by rw [hg x e h2]; exact h4 e⟩
 ·intro G' o hget
  rw [Tr.get_set] at hget
  split at hget
  ·rename_i e
   subst e
   cases hget
   exact hok
  ·rename_i hne
   have := (hw.ok G' o hget).mono (w' := w') hext (fun e => hg G' e hne) fun e q n hl hq => hoth G' e q n hne ⟨o, hget, hl⟩ hq
   exact this
 ·intro A B e e' q n n' ha hb ka kb
  by_cases hA : A = G <;> by_cases hB : B = G
  ·rw [hA, hB]
  ·subst hA
   rw [hg B e' hB] at kb
   exact absurd kb (hsep e q n (hliveG e ha) ka B e' n' hB (hlive B e' hB hb))
  ·subst hB
   rw [hg A e hA] at ka
   exact absurd ka (hsep e' q n' (hliveG e' hb) kb A e n hA (hlive A e hA ha))
  ·rw [hg A e hA] at ka
   rw [hg B e' hB] at kb
   exact hw.sep A B e e' q n n' (hlive A e hA ha) (hlive B e' hB hb) ka kb
theorem RW.drew (hw : RW c g h nx w) : RW c g h nx w.drew := ⟨hw.os, hw.tape, hw.output, hw.size, hw.keep, hw.free, hw.dom, hw.res, fun G ob hG => (hw.ok G ob hG).mono (Ext.refl g) (fun _ => rfl) fun _ _ _ _ _ => rfl, hw.sep⟩
/-- a live own block is none of those that stay, and is there -/
theorem RW.live_at (hw : RW c g h nx w) {G e q n : Nat} (hl : Live h G e) (hq : g G e = some (q, n)) : c.K q = none /\ q < w.heap.size := by
 obtain ⟨ob, h1, h2⟩ := hl
 have := hw.ok G ob h1
 cases ob with
 | cells elem z nxe mem =>
  obtain ⟨cs, hm⟩ := h2
  obtain ⟨q', n', h3, h4, arr, fz, h5, _⟩ := this.2 e cs hm
  rw [hq] at h3
  cases h3
  exact ⟨h4, (Array.getElem?_eq_some_iff.1 h5).1⟩
 | mp es ck =>
  cases h2
  obtain ⟨_, q', arr, h3, h4, h5, _⟩ := this
  rw [hq] at h3
  cases h3
  exact ⟨h4, (Array.getElem?_eq_some_iff.1 h5).1⟩
 | si s rest pos =>
  cases h2
  obtain ⟨_, _, _, q', h3, h4, h5⟩ := this
  rw [hq] at h3
  cases h3
  exact ⟨h4, (Array.getElem?_eq_some_iff.1 h5).1⟩
 | ot b =>
  cases h2
  obtain ⟨_, q', o, h3, h4, h5, _⟩ := this
  rw [hq] at h3
  cases h3
  exact ⟨h4, (Array.getElem?_eq_some_iff.1 h5).1⟩
theorem RW.not_fix (hw : RW c g h nx w) {G e : Nat} (hl : Live h G e) : ∀ y f, c.F y = some f -> c.F y = some f /\ y ≠ G := fun y f hy => ⟨hy, fun ee => by
 subst ee
 obtain ⟨ob, h1, _⟩ := hl
 rw [(hw.res y f hy).2.1] at h1
 cases h1⟩
def gSet (g : Gm) (G e : Nat) (x : Nat × Nat) : Gm := fun G' e' => if G' = G /\ e' = e then some x else g G' e'
theorem gSet_self {G e : Nat} {x : Nat × Nat} : gSet g G e x G e = some x := by simp [gSet]
theorem gSet_ext {G e : Nat} {x : Nat × Nat} (h0 : g G e = none) : Ext g (gSet g G e x) := fun G' e' y hy => by
 unfold gSet
 split
 ·rename_i hh
  rw [hh.1, hh.2, h0] at hy
  cases hy
 ·exact hy
theorem gSet_ne {G e G' e' : Nat} {x : Nat × Nat} (h0 : G' ≠ G) : gSet g G e x G' e' = g G' e' := by simp [gSet, h0]
theorem gSet_ne' {G e e' : Nat} {x : Nat × Nat} (h0 : e' ≠ e) : gSet g G e x G e' = g G e' := by simp [gSet, h0]
/-- a new block -/
theorem RW.alloc (hw : RW c g h nx w) {G : Nat} {F' : Nat -> Option (Nat -> Option (Nat × Nat))} (hG : ∀ e, g G e = none) (hres : ∀ x f, F' x = some f -> c.F x = some f /\ x ≠ G) (hnx : nx <= nx') (hGn : G < nx') {vs : Array Value} {elem : TypeId} {cs : List RV} (hle : cs.length <= vs.size)
  (hr : ∀ j (h1 : j < cs.length) (h2 : j < vs.size), R g c.env cs[j] vs[j]) :
  RW { c with F := F' } (gSet g G 0 (w.heap.size, vs.size)) (h.set G (.cells elem false 1 [(0, cs)])) nx' (w.alloc (.cells vs elem)) := by
 have hold : ∀ q, q < w.heap.size -> (w.alloc (.cells vs elem)).heap[q]? = w.heap[q]? := fun q hq => Below.heap_alloc w _ q hq
 have hext := gSet_ext (g := g) (e := 0) (x := (w.heap.size, vs.size)) (hG 0)
 refine hw.upd ⟨rfl, rfl, rfl, by simp⟩ (fun q o hq => hold q ?_) (fun G' e' q n hne hl hq => hold q (hw.live_at hl hq).2) hext (fun G' e' hne => gSet_ne hne) hres hnx hGn ?_ ?_
 ·exact (Array.getElem?_eq_some_iff.1 (hw.keep q o hq)).1
 ·refine ⟨fun e he => by rw [gSet_ne' (by omega)]; exact hG e, fun e cs' hm => ?_⟩
  rw [List.mem_singleton] at hm
  cases hm
  refine ⟨w.heap.size, vs.size, gSet_self, ?_, vs, (0, 0), heap_alloc_new w _, ⟨fun _ => rfl, fun j _ => by simp⟩, rfl, hle, fun j h1 h2 => (hr j h1 h2).mono hext⟩
  cases hk : c.K w.heap.size with
  | none => rfl
  | some o => exact absurd (Array.getElem?_eq_some_iff.1 (hw.keep _ o hk)).1 (by omega)
 ·rintro e q n ⟨cs', hm⟩ hq G' e' n' hne hl hq'
  rw [List.mem_singleton] at hm
  cases hm
  rw [gSet_self] at hq
  cases hq
  have := (hw.live_at hl hq').2
  omega
/-- a new map -/
theorem RW.allocMapOf (hw : RW c g h nx w) {es : List (RV × RV × Nat)} {ck : Nat} {arr : Array MapEntry} (hn : arr.size = es.length) (hr : ∀ j (h1 : j < es.length) (h2 : j < arr.size), R g c.env es[j].1 arr[j].key /\ R g c.env es[j].2.1 arr[j].val /\ arr[j].born = es[j].2.2) :
  RW c (gSet g nx 0 (w.heap.size, 0)) (h.set nx (.mp es ck)) (nx + 1) (w.alloc (.map arr ck)) := by
 have hG : ∀ e, g nx e = none := fun e => hw.free nx e (Nat.le_refl _)
 have hold : ∀ q, q < w.heap.size -> (w.alloc (.map arr ck)).heap[q]? = w.heap[q]? := fun q hq => Below.heap_alloc w _ q hq
 have hext := gSet_ext (g := g) (e := 0) (x := (w.heap.size, 0)) (hG 0)
 refine hw.upd (F' := c.F) (G := nx) ⟨rfl, rfl, rfl, by simp⟩ (fun q o hq => hold q ?_) (fun G' e' q n hne hl hq => hold q (hw.live_at hl hq).2) hext (fun G' e' hne => gSet_ne hne) (fun x f hx => ⟨hx, ?_⟩) (Nat.le_succ _) (Nat.lt_succ_self _) ?_ ?_
 ·exact (Array.getElem?_eq_some_iff.1 (hw.keep q o hq)).1
 ·have := (hw.res x f hx).1
  omega
 ·refine ⟨fun e he => by rw [gSet_ne' (by omega)]; exact hG e, w.heap.size, arr, gSet_self, ?_, heap_alloc_new w _, hn, fun j h1 h2 => ?_⟩
  ·cases hk : c.K w.heap.size with
   | none => rfl
   | some o => exact absurd (Array.getElem?_eq_some_iff.1 (hw.keep _ o hk)).1 (by omega)
  obtain ⟨k1, k2, k3⟩ := hr j h1 h2
  exact ⟨k1.mono hext, k2.mono hext, k3⟩
 ·rintro e q n he hq G' e' n' hne hl hq'
  cases he
  rw [gSet_self] at hq
  cases hq
  have := (hw.live_at hl hq').2
  omega
/-- a new record or block of a range over a function -/
theorem RW.allocOt (hw : RW c g h nx w) {b : LB} {o : Obj} (hb : LBR g c.env b o) :
  RW c (gSet g nx 0 (w.heap.size, 0)) (h.set nx (.ot b)) (nx + 1) (w.alloc o) := by
 have hG : ∀ e, g nx e = none := fun e => hw.free nx e (Nat.le_refl _)
 have hold : ∀ q, q < w.heap.size -> (w.alloc o).heap[q]? = w.heap[q]? := fun q hq => Below.heap_alloc w _ q hq
 have hext := gSet_ext (g := g) (e := 0) (x := (w.heap.size, 0)) (hG 0)
 refine hw.upd (F' := c.F) (G := nx) ⟨rfl, rfl, rfl, by simp⟩ (fun q o hq => hold q ?_) (fun G' e' q n hne hl hq => hold q (hw.live_at hl hq).2) hext (fun G' e' hne => gSet_ne hne) (fun x f hx => ⟨hx, ?_⟩) (Nat.le_succ _) (Nat.lt_succ_self _) ?_ ?_
 ·exact (Array.getElem?_eq_some_iff.1 (hw.keep q o hq)).1
 ·have := (hw.res x f hx).1
  omega
 ·refine ⟨fun e he => by rw [gSet_ne' (by omega)]; exact hG e, w.heap.size, o, gSet_self, ?_, heap_alloc_new w _, hb.mono hext⟩
  cases hk : c.K w.heap.size with
  | none => rfl
  | some o => exact absurd (Array.getElem?_eq_some_iff.1 (hw.keep _ o hk)).1 (by omega)
 ·rintro e q n he hq G' e' n' hne hl hq'
  cases he
  rw [gSet_self] at hq
  cases hq
  have := (hw.live_at hl hq').2
  omega
def findM : List (Nat × List RV) -> Nat -> Option (List RV)
 | [], _ => none
 | (e, cs) :: r, x => bif Nat.beq e x then some cs else findM r x
theorem findM_mem : ∀ {l : List (Nat × List RV)} {x : Nat} {cs : List RV}, findM l x = some cs -> (x, cs) ∈ l
 | (e, cs) :: r, x, cs', hh => by
  unfold findM at hh
  cases hb : Nat.beq e x with
  | true =>
   rw [hb, cond_true] at hh
   cases hh
   rw [Nat.eq_of_beq_eq_true hb]
   exact List.mem_cons_self
  | false =>
   rw [hb, cond_false] at hh
   exact List.mem_cons_of_mem _ (findM_mem hh)
/-- an own block's cells -/
def cellsAt (h : Hp) (G e : Nat) : Option (TypeId × Bool × Nat × List RV) :=
 match h.get G with
 | some (.cells elem z nxe mem) => match findM mem e with
  | some cs => some (elem, z, nxe, cs)
  | none => none
 | _ => none
theorem RW.at_ (hw : RW c g h nx w) {G e q n nxe : Nat} {elem : TypeId} {z : Bool} {cs : List RV} (hc : cellsAt h G e = some (elem, z, nxe, cs)) (hq : g G e = some (q, n)) : c.K q = none /\ Lies g c.env w q n elem z cs /\ Live h G e /\ (∀ e, nxe <= e -> g G e = none) /\ e < nxe := by
 unfold cellsAt at hc
 split at hc
 ·rename_i elem' z' nxe' mem hg
  split at hc
  ·rename_i cs' hf
   cases hc
   have hok := hw.ok G _ hg
   obtain ⟨q', n', h1, h2, h3⟩ := hok.2 e cs (findM_mem hf)
   rw [hq] at h1
   cases h1
   refine ⟨h2, h3, ⟨_, hg, cs, findM_mem hf⟩, hok.1, ?_⟩
   rcases Nat.lt_or_ge e nxe with hlt | hge
   ·exact hlt
   ·rw [hok.1 e hge] at hq
    cases hq
  ·cases hc
 ·cases hc
/-- a block's row is set anew: the group's other members are forgotten -/
theorem RW.setRow (hw : RW c g h nx w) {G e q n nxe : Nat} {elem : TypeId} {z : Bool} {cs cs' : List RV} (hc : cellsAt h G e = some (elem, z, nxe, cs)) (hq : g G e = some (q, n)) {arr arr' : Array Value} {fz : Nat × Nat} (hold : w.heap[q]? = some (.cells arr elem fz)) (hst : w'.os = w.os /\ w'.tape = w.tape /\ w'.output = w.output /\ w'.heap.size = w.heap.size)
  (hoth : ∀ k, k ≠ q -> w'.heap[k]? = w.heap[k]?) (hnew : w'.heap[q]? = some (.cells arr' elem fz)) (hn : arr'.size = n) (hle : cs'.length <= n) (hr : ∀ j (h1 : j < cs'.length) (h2 : j < arr'.size), R g c.env cs'[j] arr'[j]) :
  RW c g (h.set G (.cells elem z nxe [(e, cs')])) nx w' := by
 obtain ⟨hK, hl, hlive, hnx, helt⟩ := hw.at_ hc hq
 have hG : G < nx := by
  rcases Nat.lt_or_ge G nx with hlt | hge
  ·exact hlt
  ·rw [hw.free G e hge] at hq
   cases hq
 refine hw.upd (F' := c.F) ⟨hst.1, hst.2.1, hst.2.2.1, Nat.le_of_eq hst.2.2.2.symm⟩ (fun k o hk => hoth k fun e => by rw [e, hK] at hk; cases hk) (fun G' e' k m hne hl' hk => hoth k fun ee => ?_) (Ext.refl g) (fun _ _ _ => rfl) (hw.not_fix hlive) (Nat.le_refl _) hG ?_ ?_
 ·subst ee
  exact hne (hw.sep _ _ _ _ _ _ _ hl' hlive hk hq)
 ·refine ⟨hnx, fun e' cs'' hm => ?_⟩
  rw [List.mem_singleton] at hm
  cases hm
  obtain ⟨arr0, fz0, a1, a2, _⟩ := hl
  rw [hold] at a1
  cases a1
  exact ⟨q, n, hq, hK, arr', fz, hnew, a2, hn, hle, hr⟩
 ·rintro e' q' n' ⟨cs'', hm⟩ hq' G' e'' n'' hne hl' hq''
  rw [List.mem_singleton] at hm
  cases hm
  rw [hq] at hq'
  cases hq'
  exact hne (hw.sep _ _ _ _ _ _ _ hl' hlive hq'' hq)
end
end Go.Proofs.YtnlimlboedohgaaGreatDoor.Ax

/-
  What single operations do to relative values: addresses, loads, new blocks, stores.
-/
namespace Go.Proofs.YtnlimlboedohgaaGreatDoor.Ax
open Go.RowKit
set_option linter.unusedVariables false
set_option linter.unusedSimpArgs false

/-! ### Strict lists and numbers -/
def forceN {β : Type} : Nat -> (Nat -> β) -> β
 | 0, k => k 0
 | n + 1, k => k (Nat.succ n)
theorem forceN_eq {β : Type} (n : Nat) (k : Nat -> β) : forceN n k = k n := by cases n <;> rfl
def forceI {β : Type} : Int -> (Int -> β) -> β
 | .ofNat n, k => forceN n fun n => k (.ofNat n)
 | .negSucc n, k => forceN n fun n => k (.negSucc n)
theorem forceI_eq {β : Type} (n : Int) (k : Int -> β) : forceI n k = k n := by cases n <;> simp [forceI, forceN_eq]
def forceK {β : Type} : IntKind -> (IntKind -> β) -> β
 | .i8, k => k .i8 | .i16, k => k .i16 | .i32, k => k .i32 | .i64, k => k .i64
 | .u8, k => k .u8 | .u16, k => k .u16 | .u32, k => k .u32 | .u64, k => k .u64
theorem forceK_eq {β : Type} (n : IntKind) (k : IntKind -> β) : forceK n k = k n := by cases n <;> rfl
def forceL {β : Type} : List Nat -> (List Nat -> β) -> β
 | [], k => k []
 | x :: l, k => forceN x fun x => forceL l fun l => k (x :: l)
theorem forceL_eq {β : Type} : ∀ (l : List Nat) (k : List Nat -> β), forceL l k = k l
 | [], k => rfl
 | x :: l, k => by rw [forceL, forceN_eq, forceL_eq l]
def forceV {β : Type} : Value -> (RV -> β) -> β
 | .bool true, k => k (.lit (.bool true))
 | .bool false, k => k (.lit (.bool false))
 | .int d n, k => forceK d fun d => forceI n fun n => k (.lit (.int d n))
 | .string s, k => forceL (codes s) fun l => k (.str l)
 | v, k => k (.lit v)
theorem forceV_eq {β : Type} (v : Value) (k : RV -> β) : forceV v k = k (ofV v) := by
 cases v with
 | bool b => cases b <;> rfl
 | int d n => simp [forceV, ofV, forceK_eq, forceI_eq]
 | string s => simp [forceV, ofV, forceL_eq]
 | _ => rfl
/-- the first n of a list, if there are so many -/
def takeO {β : Type} : Nat -> List RV -> (List RV -> Option β) -> Option β
 | 0, _, k => k []
 | n + 1, x :: l, k => takeO n l fun r => k (x :: r)
 | _ + 1, [], _ => none
theorem takeO_some {β : Type} : ∀ {n : Nat} {l : List RV} {k : List RV -> Option β} {y : β}, takeO n l k = some y -> n <= l.length /\ k (l.take n) = some y
 | 0, l, k, y, h => ⟨Nat.zero_le _, h⟩
 | n + 1, [], k, y, h => by cases h
 | n + 1, x :: l, k, y, h => by
  obtain ⟨h1, h2⟩ := takeO_some (n := n) (l := l) h
  exact ⟨Nat.succ_le_succ h1, h2⟩
def dropR : List RV -> Nat -> List RV
 | l, 0 => l
 | [], _ + 1 => []
 | _ :: l, n + 1 => dropR l n
theorem dropR_eq : ∀ (l : List RV) (n : Nat), dropR l n = l.drop n
 | l, 0 => by simp [dropR]
 | [], n + 1 => rfl
 | x :: l, n + 1 => by rw [dropR, dropR_eq l n]; rfl
/-- cells are written over, if there are so many -/
def over0 {β : Type} : List RV -> List RV -> (List RV -> Option β) -> Option β
 | cs, [], k => k cs
 | _ :: cs, x :: l, k => over0 cs l fun r => k (x :: r)
 | [], _ :: _, _ => none
def overO {β : Type} : List RV -> Nat -> List RV -> (List RV -> Option β) -> Option β
 | cs, 0, l, k => over0 cs l k
 | c :: cs, n + 1, l, k => overO cs n l fun r => k (c :: r)
 | [], _ + 1, _, _ => none
theorem over0_some {β : Type} : ∀ {cs l : List RV} {k : List RV -> Option β} {y : β}, over0 cs l k = some y -> l.length <= cs.length /\ k (l ++ cs.drop l.length) = some y
 | cs, [], k, y, h => ⟨Nat.zero_le _, by cases cs <;> simpa [over0] using h⟩
 | [], x :: l, k, y, h => by cases h
 | c :: cs, x :: l, k, y, h => by
  obtain ⟨h1, h2⟩ := over0_some (cs := cs) (l := l) h
  exact ⟨Nat.succ_le_succ h1, h2⟩
theorem overO_some {β : Type} : ∀ {cs : List RV} {n : Nat} {l : List RV} {k : List RV -> Option β} {y : β}, overO cs n l k = some y -> n + l.length <= cs.length /\ k (cs.take n ++ l ++ cs.drop (n + l.length)) = some y
 | cs, 0, l, k, y, h => by
  obtain ⟨h1, h2⟩ := over0_some (cs := cs) (l := l) (by cases cs <;> exact h)
  exact ⟨by omega, by simpa using h2⟩
 | [], n + 1, l, k, y, h => by cases h
 | c :: cs, n + 1, l, k, y, h => by
  obtain ⟨h1, h2⟩ := overO_some (cs := cs) (n := n) (l := l) h
  refine ⟨by simp; omega, ?_⟩
  have e : n + 1 + l.length = (n + l.length) + 1 := by omega
  rw [e]
  exact h2
def appO {β : Type} : List RV -> List RV -> (List RV -> β) -> β
 | [], m, k => k m
 | x :: l, m, k => appO l m fun r => k (x :: r)
theorem appO_eq {β : Type} : ∀ (l m : List RV) (k : List RV -> β), appO l m k = k (l ++ m)
 | [], m, k => rfl
 | x :: l, m, k => by rw [appO, appO_eq l]; rfl
def nthR : List RV -> Nat -> Option RV
 | [], _ => none
 | x :: _, 0 => some x
 | _ :: l, n + 1 => nthR l n
theorem nthR_eq : ∀ (l : List RV) (n : Nat), nthR l n = l[n]?
 | [], n => by simp [nthR]
 | x :: l, 0 => rfl
 | x :: l, n + 1 => by rw [nthR, nthR_eq l n]; rfl
def putT {α β : Type} (t : Tr α) (n : Nat) (x : α) (k : Tr α -> β) : β := Tr.setK x (n + 1) t n k
theorem putT_eq {α β : Type} (t : Tr α) (n : Nat) (x : α) (k : Tr α -> β) : putT t n x k = k (t.set n x) := Tr.setK_id x (n + 1) t n k

/-- a computation yields a value that reads ags r, in a world that reads ags h' -/
def Does (P : Program) (c c' : Cx) (g : Gm) (m : Sem Value) (w : World) (r : RV) (h' : Hp) (nx' : Nat) : Prop :=
 ∃ g' v w', m.run P w = .ok v w' /\ R g' c.env r v /\ Ext g g' /\ RW c' g' h' nx' w'
section
variable {P : Program} {c : Cx} {g : Gm} {h : Hp} {nx : Nat} {w : World}
theorem add_off (q off k : Nat) : (⟨q, off, none⟩ : Addr).add k = ⟨q, off + k, none⟩ := by unfold Addr.add; split <;> simp_all
/-- a pure computation -/
def Pures (P : Program) (g : Gm) (env : Nat -> Value) (m : Sem Value) (r : RV) : Prop := ∃ v, (∀ w, m.run P w = .ok v w) /\ R g env r v
/-- the address of a field -/
def fieldR (P : Program) (s : TypeId) (r : RV) (f : Nat) : Option RV :=
 match P.underlying s with
 | some (.struct fields) => match fields[f]? with
  | some fl => match P.info? fl.type with
   | some i => if i.size = 0 then none else match r with
    | .ptr G e off => forceN (off + fl.offset) fun o => some (.ptr G e o)
    | _ => none
   | none => none
  | none => none
 | _ => none
theorem does_field {s : TypeId} {r r' : RV} {f : Nat} {v : Value} {env : Nat -> Value} (hf : fieldR P s r f = some r') (hr : R g env r v) : Pures P g env (Instr.fieldAt s v f) r' := by
 unfold fieldR at hf
 split at hf <;> try cases hf
 rename_i fields hu
 split at hf <;> try cases hf
 rename_i fl hfl
 split at hf <;> try cases hf
 rename_i i hi
 split at hf <;> try cases hf
 rename_i hz
 split at hf <;> try cases hf
 rename_i G e off
 rw [forceN_eq] at hf
 cases hf
 cases hr with
 | ptr hb =>
  rename_i q _
  refine ⟨.pointer (some ⟨q, off + fl.offset, none⟩), fun w => ?_, .ptr hb⟩
  simp [Instr.fieldAt, run_underlying hu, hfl, Instr.sureAddr, fieldPlace, sizeOf, typeInfo, hi, hz, add_off]
/-- the address of an element of a slice or an array -/
def indexR (P : Program) (t : TypeId) (r : RV) (ix : RV) : Option RV :=
 match P.underlying t with
 | some (.slice e) => match P.info? e with
  | some i => match r, ix with
   | .sl G m off len sz, .lit (.int k (.ofNat n)) => if n < len then forceN (off + n * i.size) fun o => some (.ptr G m o) else none
   | _, _ => none
  | none => none
 | some (.array len e) => match P.info? e with
  | some i => match r, ix with
   | .ptr G m off, .lit (.int k (.ofNat n)) => if n < len then forceN (off + n * i.size) fun o => some (.ptr G m o) else none
   | .lit (.pointer (some ⟨b, off, none⟩)), .lit (.int k (.ofNat n)) => if n < len then forceN b fun b => forceN (off + n * i.size) fun o => some (.lit (.pointer (some ⟨b, o, none⟩))) else none
   | _, _ => none
  | none => none
 | _ => none
theorem does_index {t : TypeId} {r ix r' : RV} {v u : Value} {env : Nat -> Value} (hf : indexR P t r ix = some r') (hr : R g env r v) (hx : R g env ix u) : Pures P g env (Instr.indexAt t v u) r' := by
 unfold indexR at hf
 split at hf <;> try cases hf
 ·rename_i e hu
  split at hf <;> try cases hf
  rename_i i hi
  split at hf <;> try cases hf
  rename_i G m off len sz k n
  split at hf <;> try cases hf
  rename_i hn
  rw [forceN_eq] at hf
  cases hf
  cases hx
  cases hr with
  | sl hb hc hs =>
   rename_i q _ cap
   refine ⟨.pointer (some ⟨q, off + n * i.size, none⟩), fun w => ?_, .ptr hb⟩
   simp [Instr.indexAt, asIntOf, run_underlying hu, sizeOf, typeInfo, hi, hn, add_off]
 ·rename_i len e hu
  split at hf <;> try cases hf
  rename_i i hi
  split at hf <;> try cases hf
  ·rename_i G m off k n
   split at hf <;> try cases hf
   rename_i hn
   rw [forceN_eq] at hf
   cases hf
   cases hx
   cases hr with
   | ptr hb =>
    rename_i q _
    refine ⟨.pointer (some ⟨q, off + n * i.size, none⟩), fun w => ?_, .ptr hb⟩
    simp [Instr.indexAt, asIntOf, run_underlying hu, sizeOf, typeInfo, hi, hn, add_off, Instr.sureAddr]
  ·rename_i b off k n
   split at hf <;> try cases hf
   rename_i hn
   rw [forceN_eq, forceN_eq] at hf
   cases hf
   cases hx
   cases hr
   refine ⟨.pointer (some ⟨b, off + n * i.size, none⟩), fun w => ?_, .lit _⟩
   simp [Instr.indexAt, asIntOf, run_underlying hu, sizeOf, typeInfo, hi, hn, add_off, Instr.sureAddr]
def loadR (P : Program) (h : Hp) (t : TypeId) (r : RV) : Option RV :=
 match r with
 | .ptr G e off => match cellsAt h G e with
  | some (_, _, _, cs) => match P.underlying t, P.info? t with
   | some d, some i => if d.isRow then takeO i.size (dropR cs off) fun l => some (.agg l) else nthR cs off
   | _, _ => none
  | _ => none
 | .lit (.pointer (some ⟨b, off, none⟩)) => match tabC b with
  | some l => match P.underlying t with
   | some d => if d.isRow then none else match l[off]? with
    | some v => forceV v fun r => some r
    | none => none
   | none => none
  | none => none
 | _ => none
theorem load_keeps {t : TypeId} {r r' : RV} {v : Value} (hf : loadR P h t r = some r') (hr : R g c.env r v) (hw : RW c g h nx w) : ∃ u ad, v = .pointer (some ad) /\ (Instr.loadAt t v).run P w = .ok u w /\ R g c.env r' u := by
 unfold loadR at hf
 split at hf <;> try cases hf
 rotate_left
 ·rename_i b off
  split at hf <;> try cases hf
  rename_i l hl
  split at hf <;> try cases hf
  rename_i d hu
  split at hf <;> try cases hf
  rename_i hd
  split at hf <;> try cases hf
  rename_i u hlu
  rw [forceV_eq] at hf
  cases hf
  cases hr
  obtain ⟨t', f, htab⟩ := c.tab b l hl
  have hk := hw.keep b _ htab
  refine ⟨u, _, rfl, ?_, ofV_R _ _ _⟩
  have hagg : (isAgg t).run P w = .ok false w := by
   unfold isAgg
   rw [Sem.run_bind, run_underlying hu w]
   cases d <;> simp_all
  have hc : w.cell? ⟨b, off, none⟩ = some u := by
   unfold World.cell?
   simp only [hk]
   simpa using hlu
  simp [Instr.loadAt, Instr.sureAddr, loadVar, Sem.run_bind, hagg, load, Sem.run, hc]
 rename_i G e off
 split at hf <;> try cases hf
 rename_i elem z nxe cs hb
 split at hf <;> try cases hf
 rename_i d i hu hi
 cases hr with
 | ptr hq =>
  rename_i q n
  have hl := (hw.at_ hb hq).2.1
  split at hf
  ·rename_i hd
   rw [dropR_eq] at hf
   obtain ⟨hn, hk⟩ := takeO_some hf
   cases hk
   rw [List.length_drop] at hn
   by_cases hz : i.size = 0
   ·refine ⟨.agg #[], _, rfl, ?_, by rw [hz]; exact .agg rfl (fun j h1 => absurd h1 (by simp))⟩
    exact run_loadAt_mid w q off t [] d (fun j v hj => by simp at hj) hu hd (by rw [hi]; simp [hz])
   obtain ⟨vs, hc, hlen, hrl⟩ := hl.range (off := off) (n := i.size) (by omega)
   refine ⟨.agg vs.toArray, _, rfl, run_loadAt_mid w q off t vs d hc hu hd (by rw [hi, Option.map_some, hlen]), .agg (by simpa using hrl.len) (fun j k1 k2 => ?_)⟩
   exact hrl.at_ j k1 (by simpa using k2)
  ·rename_i hd
   rw [nthR_eq] at hf
   have hoff := (List.getElem?_eq_some_iff.1 hf).1
   obtain ⟨u, hc, hru, _⟩ := hl.cell hoff
   have hr' : cs[off] = r' := (List.getElem?_eq_some_iff.1 hf).2
   rw [hr'] at hru
   refine ⟨u, _, rfl, ?_, hru⟩
   have hagg : (isAgg t).run P w = .ok false w := by
    unfold isAgg
    rw [Sem.run_bind, run_underlying hu w]
    cases d <;> simp_all
   simp [Instr.loadAt, Instr.sureAddr, loadVar, Sem.run_bind, hagg, load, Sem.run, hc]
theorem does_load {t : TypeId} {r r' : RV} {v : Value} (hf : loadR P h t r = some r') (hr : R g c.env r v) (hw : RW c g h nx w) : Does P c c g (Instr.loadAt t v) w r' h nx := by
 obtain ⟨u, ad, _, h1, h2⟩ := load_keeps hf hr hw
 exact ⟨g, u, w, h1, h2, Ext.refl g, hw⟩
/-- a value's cells -/
def cellsR : RV -> Option (List RV)
 | .agg l => some l
 | .tup _ => none
 | .lit v => some (v.cells.toList.map ofV)
 | r => some [r]
theorem cellsR_R {env : Nat -> Value} {r : RV} {l : List RV} {v : Value} (hc : cellsR r = some l) (hr : R g env r v) : RL g env l v.cells.toList := by
 cases hr with
 | lit v => cases hc; exact .lits _
 | opq i h1 h2 => cases hc; rw [h1]; exact .cons (.opq i h1 h2) .nil
 | agg hn hh => cases hc; exact ⟨hn, fun i k1 k2 => hh i k1 (by simpa [Value.cells] using k2)⟩
 | tup hn hh => cases hc
 | str hh => cases hc; exact .cons (.str hh) .nil
 | ptr hb => cases hc; exact .cons (.ptr hb) .nil
 | sl hb hcap hn => cases hc; exact .cons (.sl hb hcap hn) .nil
 | s0 hb => cases hc; exact .cons (.s0 hb) .nil
 | se a cap => cases hc; exact .cons (.se a cap) .nil
 | ifc hh => cases hc; exact .cons (.ifc hh) .nil
 | clo hm hk hn hh => cases hc; exact .cons (.clo hm hk hn hh) .nil
 | mp hb => cases hc; exact .cons (.mp hb) .nil
 | yld hb => cases hc; exact .cons (.yld hb) .nil
def oneR : RV -> Bool
 | .agg _ | .tup _ => false
 | .lit v => v.oneCell'
 | _ => true
theorem oneR_R {env : Nat -> Value} {r : RV} {v : Value} (ho : oneR r = true) (hr : R g env r v) : v.oneCell' = true := by
 cases hr <;> first | exact ho | rfl | assumption | cases ho
/-- a copy in a new block -/
theorem does_box {t : TypeId} {r : RV} {l : List RV} {v : Value} {G nx' : Nat} {F' : Nat -> Option (Nat -> Option (Nat × Nat))} (hc : cellsR r = some l) (hr : R g c.env r v) (hw : RW c g h nx w) (hG : ∀ e, g G e = none) (hres : ∀ x f, F' x = some f -> c.F x = some f /\ x ≠ G) (hnx : nx <= nx') (hGn : G < nx') :
  Does P c { c with F := F' } g (Instr.box t v) w (.ptr G 0 0) (h.set G (.cells t false 1 [(0, l)])) nx' := by
 have hl := cellsR_R hc hr
 have hlen : l.length = v.cells.size := by have := hl.len; simpa using this
 refine ⟨_, .pointer (some ⟨w.heap.size, 0, none⟩), w.alloc (.cells v.cells t), ?_, .ptr (n := v.cells.size) gSet_self, gSet_ext (hG 0), hw.alloc hG hres hnx hGn (by omega) fun j h1 h2 => hl.at_ j h1 (by simpa using h2)⟩
 simp [Instr.box, newVar, newRow]
/-- a new variable of zeros -/
def zerosR (P : Program) (t : TypeId) : Option (List RV) :=
 match P.info? t with
 | some i => match i.zero with
  | some z => some (z.cells.toList.map ofV)
  | none => none
 | none => none
theorem does_alloc {t : TypeId} {l : List RV} {G nx' : Nat} {F' : Nat -> Option (Nat -> Option (Nat × Nat))} (hf : zerosR P t = some l) (hw : RW c g h nx w) (hG : ∀ e, g G e = none) (hres : ∀ x f, F' x = some f -> c.F x = some f /\ x ≠ G) (hnx : nx <= nx') (hGn : G < nx') :
  Does P c { c with F := F' } g (Instr.alloc t true (.tuple #[])) w (.ptr G 0 0) (h.set G (.cells t false 1 [(0, l)])) nx' := by
 unfold zerosR at hf
 split at hf <;> try cases hf
 rename_i i hi
 split at hf <;> try cases hf
 rename_i z hz
 have hb := does_box (P := P) (t := t) (r := .lit z) (l := z.cells.toList.map ofV) (v := z) rfl (.lit z) hw hG hres hnx hGn
 obtain ⟨g', v, w', h1, h2, h3, h4⟩ := hb
 refine ⟨g', v, w', ?_, h2, h3, h4⟩
 rw [<- h1]
 simp [Instr.alloc, Instr.box, zeroValue, typeInfo, hi, hz]
theorem setCells_heap (w : World) (q : Nat) : ∀ (vs : List Value) (o : Nat) (arr : Array Value) (elem : TypeId) (fz : Nat × Nat), w.heap[q]? = some (.cells arr elem fz) -> o + vs.length <= arr.size ->
  (w.setCells q o vs).heap[q]? = some (.cells ((arr.toList.take o ++ vs ++ arr.toList.drop (o + vs.length)).toArray) elem fz) /\ (∀ k, k ≠ q -> (w.setCells q o vs).heap[k]? = w.heap[k]?) /\ (w.setCells q o vs).os = w.os /\ (w.setCells q o vs).tape = w.tape /\ (w.setCells q o vs).output = w.output /\ (w.setCells q o vs).heap.size = w.heap.size
 | [], o, arr, elem, fz, hq, hl => by
  refine ⟨?_, fun _ _ => rfl, rfl, rfl, rfl, rfl⟩
  show w.heap[q]? = _
  rw [hq]
  simp
 | v :: vs, o, arr, elem, fz, hq, hl => by
  have hl' : o + vs.length + 1 <= arr.size := by simpa [Nat.add_assoc] using hl
  have h1 : (w.setCell ⟨q, o, none⟩ v).heap[q]? = some (.cells (arr.setIfInBounds o v) elem fz) := by
   simp [World.setCell, Array.getElem?_modify, hq]
  have ih := setCells_heap (w.setCell ⟨q, o, none⟩ v) q vs (o + 1) (arr.setIfInBounds o v) elem fz h1 (by simp; omega)
  have hs : (w.setCell ⟨q, o, none⟩ v).heap.size = w.heap.size := by simp [World.setCell]
  refine ⟨?_, fun k hk => ?_, ih.2.2.1, ih.2.2.2.1, ih.2.2.2.2.1, ih.2.2.2.2.2.trans hs⟩
  ·refine ih.1.trans ?_
   congr 2
   apply Array.ext'
   simp only [Array.toList_setIfInBounds]
   apply List.ext_getElem?
   intro j
   have hlen : arr.toList.length = arr.size := by simp
   have eo : o + 1 + vs.length = o + (v :: vs).length := by simp; omega
   rw [eo]
   have hto : (arr.toList.take o).length = o := by rw [List.length_take]; omega
   have ht1 : ((arr.toList.set o v).take (o + 1)).length = o + 1 := by rw [List.length_take, List.length_set]; omega
   rcases Nat.lt_or_ge j o with hj | hj
   ·rw [List.append_assoc, List.append_assoc, List.getElem?_append_left (by omega), List.getElem?_append_left (by omega), List.getElem?_take, List.getElem?_take, if_pos (by omega), if_pos hj, List.getElem?_set_ne (by omega)]
   ·rcases Nat.eq_or_lt_of_le hj with rfl | hj'
    ·rw [List.append_assoc, List.append_assoc, List.getElem?_append_left (by omega), List.getElem?_append_right (by omega), hto, Nat.sub_self, List.getElem?_take, if_pos (by omega), List.getElem?_set_self (by omega)]
     rfl
    ·rw [List.append_assoc, List.append_assoc, List.getElem?_append_right (l₁ := (arr.toList.set o v).take (o + 1)) (by rw [ht1]; omega), List.getElem?_append_right (l₁ := arr.toList.take o) (by rw [hto]; omega), ht1, hto]
     have e2 : j - o = (j - (o + 1)) + 1 := by omega
     rw [e2, List.cons_append, List.getElem?_cons_succ]
     rcases Nat.lt_or_ge (j - (o + 1)) vs.length with hk | hk
     ·rw [List.getElem?_append_left hk, List.getElem?_append_left hk]
     ·rw [List.getElem?_append_right hk, List.getElem?_append_right hk, List.getElem?_drop, List.getElem?_drop, List.getElem?_set_ne (by omega)]
  ·exact (ih.2.1 k hk).trans (Below.heap_setCell w _ v k hk)
def storeR {β : Type} (P : Program) (h : Hp) (t : TypeId) (r x : RV) (k : Hp -> Option β) : Option β :=
 match r with
 | .ptr G e off => match cellsAt h G e, cellsR x, P.info? t with
  | some (elem, z, nxe, cs), some l, some i => if l.length = i.size /\ l.all oneR = true then overO cs off l fun cs' => putT h G (.cells elem z nxe [(e, cs')]) k else none
  | _, _, _ => none
 | _ => none
/-- a store -/
theorem does_store {β : Type} {t : TypeId} {r x : RV} {v u : Value} {k : Hp -> Option β} {y : β} (hf : storeR P h t r x k = some y) (hr : R g c.env r v) (hx : R g c.env x u) (hw : RW c g h nx w) : ∃ h', k h' = some y /\ ∃ w', (Instr.storeAt t v u).run P w = .ok () w' /\ RW c g h' nx w' := by
 unfold storeR at hf
 split at hf <;> try cases hf
 rename_i G e off
 split at hf <;> try cases hf
 rename_i elem z nxe cs l i hb hc hi
 split at hf <;> try cases hf
 rename_i hh
 obtain ⟨h1, h3⟩ := hh
 obtain ⟨h2, hk⟩ := overO_some hf
 rw [putT_eq] at hk
 refine ⟨_, hk, ?_⟩
 cases hr with
 | ptr hq =>
  rename_i q n
  have hl := cellsR_R hc hx
  obtain ⟨hK, hlies, hlive, hnx, helt⟩ := hw.at_ hb hq
  have hlen : u.cells.toList.length = l.length := hl.len.symm
  have hst := run_storeCells_cells (P := P) q off u.cells.toList 0 w (fun j hj => by
    obtain ⟨y, hy, _, _⟩ := hlies.cell (j := off + j) (by omega)
    rw [Nat.add_zero, hy]; rfl) (fun j hj => by
    obtain ⟨y, _, _, hy⟩ := hlies.cell (j := off + j) (by omega)
    rw [Nat.add_zero]; exact hy) (fun y hy => by
    obtain ⟨k, hk, rfl⟩ := List.getElem_of_mem hy
    exact oneR_R (List.all_eq_true.1 h3 _ (List.getElem_mem (by omega))) (hl.at_ k (by omega) hk))
  obtain ⟨arr, fz, a1, af, a0, a2, a3⟩ := hlies
  have hset := setCells_heap w q u.cells.toList off arr elem fz a1 (by omega)
  refine ⟨w.setCells q off u.cells.toList, ?_, hw.setRow hb hq a1 ⟨hset.2.2.1, hset.2.2.2.1, hset.2.2.2.2.1, hset.2.2.2.2.2⟩ hset.2.1 hset.1 (by simp; simp at hlen; omega) (by simp; omega) ?_⟩
  ·have hs : u.cells.size = i.size := by have := hlen; simp at this; omega
   simp [Instr.storeAt, Instr.sureAddr, storeVar, sizeOf, typeInfo, hi, hs, hst]
  ·have hcs : RL g c.env cs (arr.toList.take cs.length) := ⟨by simp; omega, fun j k1 k2 => by
    rw [List.getElem_take]
    have hja : j < arr.size := by omega
    simpa using a3 j k1 hja⟩
   have hall := ((hcs.take off).append hl).append (hcs.drop (off + l.length))
   intro j k1 k2
   have hj2 : j < (List.take off (List.take cs.length arr.toList) ++ u.cells.toList ++ List.drop (off + l.length) (List.take cs.length arr.toList)).length := by rw [<- hall.len]; exact k1
   have := hall.at_ j k1 hj2
   have e : (List.take off arr.toList ++ u.cells.toList ++ List.drop (off + u.cells.toList.length) arr.toList).toArray[j] = (List.take off (List.take cs.length arr.toList) ++ u.cells.toList ++ List.drop (off + l.length) (List.take cs.length arr.toList))[j] := by
    have e1 : List.take off (List.take cs.length arr.toList) = List.take off arr.toList := by
     rw [List.take_take, Nat.min_eq_left (by omega)]
    have e2 : List.drop (off + l.length) (List.take cs.length arr.toList) = List.take (cs.length - (off + l.length)) (List.drop (off + l.length) arr.toList) := List.drop_take ..
    rw [List.getElem_toArray]
    apply Option.some.inj
    rw [<- List.getElem?_eq_getElem, <- List.getElem?_eq_getElem, e1, e2, hlen]
    rcases Nat.lt_or_ge j (List.take off arr.toList ++ u.cells.toList).length with hlt | hge
    ·rw [List.getElem?_append_left hlt, List.getElem?_append_left hlt]
    ·rw [List.getElem?_append_right hge, List.getElem?_append_right hge, List.getElem?_take, if_pos]
     have e3 : (List.take off arr.toList ++ u.cells.toList).length = off + l.length := by
      rw [List.length_append, List.length_take, Array.length_toList, hlen]; omega
     rw [e3] at hge |-
     rw [e1, e2] at hj2
     simp only [List.length_append, List.length_take, List.length_drop, Array.length_toList, hlen] at hj2
     have : j < cs.length := by
      have := k1
      simp only [List.length_append, List.length_take, List.length_drop] at this
      omega
     omega
   rw [e]
   exact this
end
end Go.Proofs.YtnlimlboedohgaaGreatDoor.Ax

/-
  append, in relative terms.
-/
namespace Go.Proofs.YtnlimlboedohgaaGreatDoor.Ax
open Go.RowKit
set_option linter.unusedVariables false
set_option linter.unusedSimpArgs false

def lenLe : List RV -> Nat -> Bool
 | [], _ => true
 | _ :: _, 0 => false
 | _ :: l, n + 1 => lenLe l n
theorem lenLe_le : ∀ {l : List RV} {n : Nat}, lenLe l n = true -> l.length <= n
 | [], n, _ => Nat.zero_le _
 | x :: l, 0, h => by cases h
 | x :: l, n + 1, h => Nat.succ_le_succ (lenLe_le (l := l) h)
/-- the elder members that are short enough, a few of them -/
def keepM {β : Type} (k : Nat) : List (Nat × List RV) -> Nat -> (List (Nat × List RV) -> β) -> β
 | [], _, f => f []
 | _, 0, f => f []
 | (e, cs) :: r, lim + 1, f => bif lenLe cs k then keepM k r lim fun r' => f ((e, cs) :: r') else keepM k r (lim + 1) f
theorem keepM_some {β : Type} (k : Nat) : ∀ (mem : List (Nat × List RV)) (lim : Nat) (f : List (Nat × List RV) -> β), ∃ r', keepM k mem lim f = f r' /\ ∀ p ∈ r', p ∈ mem /\ p.2.length <= k
 | [], lim, f => ⟨[], by cases lim <;> rfl, fun p hp => by cases hp⟩
 | p :: r, 0, f => ⟨[], rfl, fun p hp => by cases hp⟩
 | (e, cs) :: r, lim + 1, f => by
  unfold keepM
  cases hb : lenLe cs k with
  | true =>
   obtain ⟨r', h1, h2⟩ := keepM_some k r lim fun r' => f ((e, cs) :: r')
   refine ⟨(e, cs) :: r', h1, fun p hp => ?_⟩
   rcases List.mem_cons.1 hp with rfl | hp
   ·exact ⟨List.mem_cons_self, lenLe_le hb⟩
   ·exact ⟨List.mem_cons_of_mem _ (h2 p hp).1, (h2 p hp).2⟩
  | false =>
   obtain ⟨r', h1, h2⟩ := keepM_some k r (lim + 1) f
   exact ⟨r', h1, fun p hp => ⟨List.mem_cons_of_mem _ (h2 p hp).1, (h2 p hp).2⟩⟩
section
variable {P : Program} {c : Cx} {g : Gm} {h : Hp} {nx : Nat} {w : World}
theorem RW.lt_nx (hw : RW c g h nx w) {G e : Nat} {x : Nat × Nat} (hq : g G e = some x) : G < nx := by
 rcases Nat.lt_or_ge G nx with hlt | hge
 ·exact hlt
 ·rw [hw.free G e hge] at hq
  cases hq
/-- in place: the new member is the same real block -/
theorem RW.room (hw : RW c g h nx w) {G e q n nxe k : Nat} {elem : TypeId} {mem r' : List (Nat × List RV)} {cs news : List RV} {vs : List Value} {arr : Array Value} (hget : h.get G = some (.cells elem false nxe mem)) (hm : (e, cs) ∈ mem) (hq : g G e = some (q, n))
  (ha : w.heap[q]? = some (.cells arr elem (0, 0))) (hk : k <= cs.length) (hr : RL g c.env news vs) (hfit : k + vs.length <= arr.size) (hkeep : ∀ p ∈ r', p ∈ mem /\ p.2.length <= k)
  {w' : World} (hst : w'.os = w.os /\ w'.tape = w.tape /\ w'.output = w.output /\ w'.heap.size = w.heap.size) (hoth : ∀ k', k' ≠ q -> w'.heap[k']? = w.heap[k']?) (hrow : w'.heap[q]? = some (.cells (arr.toList.take k ++ vs ++ arr.toList.drop (k + vs.length)).toArray elem (0, 0))) :
  RW c (gSet g G nxe (q, n)) (h.set G (.cells elem false (nxe + 1) ((nxe, cs.take k ++ news) :: r'))) nx w' := by
 have hok := hw.ok G _ hget
 have hlive : Live h G e := ⟨_, hget, cs, hm⟩
 obtain ⟨hK, hqlt⟩ := hw.live_at hlive hq
 obtain ⟨q', n', h1, h2, arr', fz', a1, af, a0, a2, a3⟩ := hok.2 e cs hm
 rw [hq] at h1
 cases h1
 rw [ha] at a1
 cases a1
 have hnone : g G nxe = none := hok.1 nxe (Nat.le_refl _)
 have hext := gSet_ext (x := (q, n)) hnone
 have hsize : (arr.toList.take k ++ vs ++ arr.toList.drop (k + vs.length)).toArray.size = n := by
  simp only [List.size_toArray, List.length_append, List.length_take, List.length_drop, Array.length_toList]
  omega
 have hcell : ∀ j (h1 : j < k) (h2 : j < (arr.toList.take k ++ vs ++ arr.toList.drop (k + vs.length)).toArray.size) (h3 : j < arr.size), (arr.toList.take k ++ vs ++ arr.toList.drop (k + vs.length)).toArray[j] = arr[j] := by
  intro j h1 h2 h3
  simp only [List.getElem_toArray]
  rw [List.getElem_append_left (by simp; omega), List.getElem_append_left (by simp; omega), List.getElem_take]
  rfl
 refine hw.upd (F' := c.F) ⟨hst.1, hst.2.1, hst.2.2.1, Nat.le_of_eq hst.2.2.2.symm⟩ (fun k' o hk' => hoth k' fun ee => by rw [ee, hK] at hk'; cases hk') (fun G' e' k' m hne hl' hk' => hoth k' fun ee => ?_) hext (fun G' e' hne => gSet_ne hne) (hw.not_fix hlive) (Nat.le_refl _) (hw.lt_nx hq) ?_ ?_
 ·subst ee
  exact hne (hw.sep _ _ _ _ _ _ _ hl' hlive hk' hq)
 ·refine ⟨fun e' he' => by rw [gSet_ne' (by omega)]; exact hok.1 e' (by omega), fun e' cs' hm' => ?_⟩
  rcases List.mem_cons.1 hm' with hm' | hm'
  ·cases hm'
   refine ⟨q, n, gSet_self, hK, _, _, hrow, af, hsize, ?_, fun j k1 k2 => ?_⟩
   ·simp only [List.length_append, List.length_take]
    have := hr.len
    omega
   ·by_cases hj : j < k
    ·rw [hcell j hj k2 (by omega)]
     simp only [List.getElem_append_left (show j < (cs.take k).length by simp; omega), List.getElem_take]
     exact (a3 j (by omega) (by omega)).mono hext
    ·have hl1 : (cs.take k).length = k := by simp; omega
     have hl2 : (arr.toList.take k).length = k := by simp; omega
     have hjn : j - k < news.length := by
      simp only [List.length_append, hl1] at k1
      omega
     have hjv : j - k < vs.length := by rw [<- hr.len]; exact hjn
     have e2 : (arr.toList.take k ++ vs ++ arr.toList.drop (k + vs.length)).toArray[j] = vs[j - k] := by
      simp only [List.getElem_toArray]
      rw [List.getElem_append_left (by simp only [List.length_append, hl2]; omega), List.getElem_append_right (by rw [hl2]; omega)]
      simp only [hl2]
     have e3 : (cs.take k ++ news)[j] = news[j - k] := by
      rw [List.getElem_append_right (by rw [hl1]; omega)]
      simp only [hl1]
     rw [e2, e3]
     exact (hr.at_ (j - k) hjn hjv).mono hext
  ·obtain ⟨hmm, hlen⟩ := hkeep _ hm'
   obtain ⟨q1, n1, b1, b2, b3⟩ := hok.2 e' cs' hmm
   refine ⟨q1, n1, hext _ _ _ b1, b2, ?_⟩
   by_cases e : q1 = q
   ·subst e
    obtain ⟨arr1, fz1, d1, df, d0, d2, d3⟩ := b3
    rw [ha] at d1
    cases d1
    refine ⟨_, _, hrow, df, by omega, d2, fun j k1 k2 => ?_⟩
    have hlen' : cs'.length <= k := hlen
    rw [hcell j (by omega) k2 (by omega)]
    exact (d3 j k1 (by omega)).mono hext
   ·exact b3.mono hext (hoth q1 e)
 ·rintro e' q1 n1 ⟨cs', hm'⟩ hq1 G' e'' n'' hne hl' hq''
  rcases List.mem_cons.1 hm' with hm' | hm'
  ·cases hm'
   rw [gSet_self] at hq1
   cases hq1
   exact hne (hw.sep _ _ _ _ _ _ _ hl' hlive hq'' hq)
  ·have hmm := (hkeep _ hm').1
   obtain ⟨q2, n2, b1, b2, b3⟩ := hok.2 e' cs' hmm
   have b1' := hext _ _ _ b1
   rw [hq1] at b1'
   cases b1'
   exact hne (hw.sep _ _ _ _ _ _ _ hl' ⟨_, hget, cs', hmm⟩ hq'' b1)
/-- moved: a new real block holds what the elder one held, the new cells, and zeros -/
theorem RW.moved (hw : RW c g h nx w) {G e q n nxe k : Nat} {elem : TypeId} {mem r' : List (Nat × List RV)} {cells : List RV} {vs : List Value} (hget : h.get G = some (.cells elem false nxe mem)) (hq : g G e = some (q, n))
  (hr : RL g c.env cells vs) (zs : Array Value) {full : Array Value} (hf : full.toList = vs ++ zs.toList) (hlive : Live h G e) (hkeep : ∀ p ∈ r', p ∈ mem /\ p.2.length <= k) :
  RW c (gSet g G nxe (w.heap.size, full.size)) (h.set G (.cells elem false (nxe + 1) ((nxe, cells) :: r'))) nx (w.drew.alloc (.cells full elem)) := by
 have hok := hw.ok G _ hget
 have hnone : g G nxe = none := hok.1 nxe (Nat.le_refl _)
 have hext := gSet_ext (x := (w.heap.size, full.size)) hnone
 have hold : ∀ q, q < w.heap.size -> (w.drew.alloc (.cells full elem)).heap[q]? = w.heap[q]? := fun q hq => Below.heap_alloc w.drew _ q hq
 have hnew : (w.drew.alloc (.cells full elem)).heap[w.heap.size]? = some (.cells full elem) := heap_alloc_new w.drew _
 have hfs : full.size = vs.length + zs.size := by rw [<- Array.length_toList, hf]; simp
 have hKn : c.K w.heap.size = none := by
  cases hk : c.K w.heap.size with
  | none => rfl
  | some o => exact absurd (Array.getElem?_eq_some_iff.1 (hw.keep _ o hk)).1 (by omega)
 refine hw.upd (F' := c.F) ⟨rfl, rfl, rfl, by simp⟩ (fun k' o hk' => hold k' (Array.getElem?_eq_some_iff.1 (hw.keep k' o hk')).1) (fun G' e' k' m hne hl' hk' => hold k' (hw.live_at hl' hk').2) hext (fun G' e' hne => gSet_ne hne) (hw.not_fix hlive) (Nat.le_refl _) (hw.lt_nx hq) ?_ ?_
 ·refine ⟨fun e' he' => by rw [gSet_ne' (by omega)]; exact hok.1 e' (by omega), fun e' cs' hm' => ?_⟩
  rcases List.mem_cons.1 hm' with hm' | hm'
  ·cases hm'
   refine ⟨w.heap.size, full.size, gSet_self, hKn, full, (0, 0), hnew, ⟨fun _ => rfl, fun j _ => by simp⟩, rfl, by have := hr.len; omega, fun j h1 h2 => ?_⟩
   have hjv : j < vs.length := by rw [<- hr.len]; exact h1
   have e1 : full[j] = vs[j] := by
    have h3 : full.toList[j]? = vs[j]? := by rw [hf, List.getElem?_append_left hjv]
    rw [Array.getElem?_toList, Array.getElem?_eq_getElem h2, List.getElem?_eq_getElem hjv] at h3
    exact Option.some.inj h3
   rw [e1]
   exact (hr.at_ j h1 hjv).mono hext
  ·obtain ⟨hmm, hlen⟩ := hkeep _ hm'
   obtain ⟨q1, n1, b1, b2, b3⟩ := hok.2 e' cs' hmm
   exact ⟨q1, n1, hext _ _ _ b1, b2, b3.mono hext (hold q1 (hw.live_at ⟨_, hget, cs', hmm⟩ b1).2)⟩
 ·rintro e' q1 n1 ⟨cs', hm'⟩ hq1 G' e'' n'' hne hl' hq''
  rcases List.mem_cons.1 hm' with hm' | hm'
  ·cases hm'
   rw [gSet_self] at hq1
   cases hq1
   have := (hw.live_at hl' hq'').2
   omega
  ·have hmm := (hkeep _ hm').1
   obtain ⟨q2, n2, b1, b2, b3⟩ := hok.2 e' cs' hmm
   have b1' := hext _ _ _ b1
   rw [hq1] at b1'
   cases b1'
   exact hne (hw.sep _ _ _ _ _ _ _ hl' ⟨_, hget, cs', hmm⟩ hq'' b1)
/-- a new block of its own, drawn -/
theorem RW.made (hw : RW c g h nx w) {elem : TypeId} {cells : List RV} {vs : List Value} (hr : RL g c.env cells vs) (zs : Array Value) {full : Array Value} (hf : full.toList = vs ++ zs.toList) :
  RW c (gSet g nx 0 (w.heap.size, full.size)) (h.set nx (.cells elem false 1 [(0, cells)])) (nx + 1) (w.drew.alloc (.cells full elem)) := by
 have hfs : full.size = vs.length + zs.size := by rw [<- Array.length_toList, hf]; simp
 refine hw.drew.alloc (F' := c.F) (fun e => hw.free nx e (Nat.le_refl _)) (fun x f hx => ⟨hx, by have := (hw.res x f hx).1; omega⟩) (Nat.le_succ _) (Nat.lt_succ_self _) (by have := hr.len; omega) fun j h1 h2 => ?_
 have hjv : j < vs.length := by rw [<- hr.len]; exact h1
 have e1 : full[j] = vs[j] := by
  have h3 : full.toList[j]? = vs[j]? := by rw [hf, List.getElem?_append_left hjv]
  rw [Array.getElem?_toList, Array.getElem?_eq_getElem h2, List.getElem?_eq_getElem hjv] at h3
  exact Option.some.inj h3
 rw [e1]
 exact hr.at_ j h1 hjv
end
end Go.Proofs.YtnlimlboedohgaaGreatDoor.Ax

/-
  The operations on relative values, to be reckoned.
-/
namespace Go.Proofs.YtnlimlboedohgaaGreatDoor.Ax
open Go.RowKit
set_option linter.unusedVariables false
set_option linter.unusedSimpArgs false

/-! ### Operations that read no memory -/
/-- a computation that neither reads nor writes memory, run -/
def evalP {α : Type} (P : Program) : Sem α -> Option α
 | .pure a => some a
 | .program k => evalP P (k P)
 | .mark _ k => evalP P k
 | _ => none
def flatO (P : Program) (m : Sem Value) : Option RV :=
 match evalP P m with
 | some v => forceV v some
 | none => none
mutual
/-- a value known whole -/
def litV : RV -> Option Value
 | .lit v => some v
 | .str l => some (.string (ofCodes l))
 | .agg l => match litL l with
  | some vs => some (.agg vs.toArray)
  | none => none
 | .ifc t r => match litV r with
  | some v => some (.iface t v)
  | none => none
 | _ => none
def litL : List RV -> Option (List Value)
 | [] => some []
 | r :: l => match litV r with
  | some v => match litL l with
   | some vs => some (v :: vs)
   | none => none
  | none => none
end
def eqLN : List Nat -> List Nat -> Bool
 | [], [] => true
 | x :: l, y :: m => bif Nat.beq x y then eqLN l m else false
 | _, _ => false
def ltLN : List Nat -> List Nat -> Bool
 | _, [] => false
 | [], _ :: _ => true
 | x :: l, y :: m => bif Nat.ble (x + 1) y then true else bif Nat.beq x y then ltLN l m else false
def appN {β : Type} : List Nat -> List Nat -> (List Nat -> β) -> β
 | [], m, k => k m
 | x :: l, m, k => appN l m fun r => k (x :: r)
def takeN {β : Type} : Nat -> List Nat -> (List Nat -> Option β) -> Option β
 | 0, _, k => k []
 | n + 1, x :: l, k => takeN n l fun r => k (x :: r)
 | _ + 1, [], _ => none
def dropN : List Nat -> Nat -> Option (List Nat)
 | l, 0 => some l
 | [], _ + 1 => none
 | _ :: l, n + 1 => dropN l n
def nthN : List Nat -> Nat -> Option Nat
 | [], _ => none
 | x :: _, 0 => some x
 | _ :: l, n + 1 => nthN l n
def boolR (b : Bool) : Option RV := match b with
 | true => some (.lit (.bool true))
 | false => some (.lit (.bool false))
/-- operators on strings -/
def strR (op : BinOp) (l m : List Nat) : Option RV :=
 match op with
 | .add => bif Nat.ble (l.length + m.length) 1000000 then appN l m fun r => some (.str r) else none
 | .eql => boolR (eqLN l m)
 | .neq => boolR (!eqLN l m)
 | .lss => boolR (ltLN l m)
 | .leq => boolR (!ltLN m l)
 | .gtr => boolR (ltLN m l)
 | .geq => boolR (!ltLN l m)
 | _ => none
/-- is it nil -/
def nilR (P : Program) (t : TypeId) (r n : RV) : Bool :=
 match r, n with
 | .ptr _ _ _, .lit (.pointer none) => match P.underlying t with | some (.pointer _) => true | _ => false
 | .sl _ _ _ _ _, .lit (.slice none 0 0) | .s0 _ _ _, .lit (.slice none 0 0) | .se, .lit (.slice none 0 0) => match P.underlying t with | some (.slice _) => true | _ => false
 | .clo _ _ _, .lit .nilFunc => match P.underlying t with | some (.func _ _ _) => true | _ => false
 | .ifc _ _, .lit .nilIface => match P.underlying t with | some (.interface _) => true | _ => false
 | .mp _, .lit (.map none) => match P.underlying t with | some (.map _ _) => true | _ => false
 | _, _ => false
/-- two own addresses in one block -/
def sameR (P : Program) (t : TypeId) (a b : RV) : Option Bool :=
 match a, b with
 | .ptr G e off, .ptr G' e' off' => bif Nat.beq G G' && Nat.beq e e' then (match P.underlying t with
  | some (.pointer el) => match P.info? el with
   | some i => bif Nat.ble 1 i.size then some (Nat.beq off off') else none
   | none => none
  | _ => none) else none
 | _, _ => none
def binR (P : Program) (op : BinOp) (t : TypeId) (x y : Operand) (a b : RV) : Option RV :=
 match a, b with
 | .lit u, .lit v => flatO P (do eqGuard op t x y u v; binOp op t u v)
 | .str l, .str m => strR op l m
 | a, b => match op with
  | .eql => bif nilR P t a b || nilR P t b a then some (.lit (.bool false)) else match sameR P t a b with
   | some q => boolR q
   | none => match litV a, litV b with
    | some u, some v => flatO P (do eqGuard op t x y u v; binOp op t u v)
    | _, _ => none
  | .neq => bif nilR P t a b || nilR P t b a then some (.lit (.bool true)) else match sameR P t a b with
   | some q => boolR (!q)
   | none => match litV a, litV b with
    | some u, some v => flatO P (do eqGuard op t x y u v; binOp op t u v)
    | _, _ => none
  | _ => none
def fillR {β : Type} (place : Nat -> Option (Nat × Nat)) : List (Nat × RV) -> List RV -> (List RV -> Option β) -> Option β
 | [], cs, k => k cs
 | (i, r) :: rest, cs, k => match place i with
  | none => none
  | some (off, size) => match cellsR r with
   | none => none
   | some l => bif Nat.beq l.length size then overO cs off l fun cs' => fillR place rest cs' k else none
def placesR (P : Program) (fields : Array Field) : Option (Array (Nat × Nat)) := evalP P (fields.mapM fun f => do pure (f.offset, <- sizeOf f.type))
def buildR (P : Program) (t : TypeId) (parts : List (Nat × RV)) : Option RV :=
 match P.info? t, P.underlying t with
 | some i, some (.struct fields) => match i.zero with
  | some z => match placesR P fields with
   | some places => fillR (places[·]?) parts (z.cells.toList.map ofV) fun l => some (.agg l)
   | none => none
  | none => none
 | some i, some (.array _ elem) => match i.zero, P.info? elem with
  | some z, some j => fillR (fun k => some (k * j.size, j.size)) parts (z.cells.toList.map ofV) fun l => some (.agg l)
  | _, _ => none
 | _, _ => none
def boundR (d : Nat) : Option RV -> Option Nat
 | none => some d
 | some (.lit (.int _ (.ofNat n))) => some n
 | some _ => none
/-- x[lo:hi], x[lo:hi:max] -/
def sliceR (P : Program) (t : TypeId) (r : RV) (lo hi mx : Option RV) : Option RV :=
 match P.underlying t with
 | some (.slice e) => match P.info? e with
  | some i => match r with
   | .sl G m off len sz => match boundR 0 lo, boundR len hi with
    | some l, some k => bif Nat.beq sz i.size && Nat.ble l k && Nat.ble k len then (match mx with
     | none => bif Nat.ble (l + 1) len || Nat.beq l 0 then forceN (off + l * sz) fun o => forceN (k - l) fun n => some (.sl G m o n sz) else some .se
     | some (.lit (.int _ (.ofNat x))) => (match hi with
      | some _ => bif Nat.ble k x && Nat.ble x len then (bif Nat.beq x l then some (.s0 G m off) else forceN (off + l * sz) fun o => forceN (k - l) fun n => some (.sl G m o n sz)) else none
      | none => none)
     | some _ => none) else none
    | _, _ => none
   | .s0 G m off => match boundR 0 lo, boundR 0 hi, mx with
    | some 0, some 0, none => some (.s0 G m off)
    | _, _, _ => none
   | .se => match boundR 0 lo, boundR 0 hi, mx with
    | some 0, some 0, none => some .se
    | _, _, _ => none
   | .lit (.slice none 0 0) => match boundR 0 lo, boundR 0 hi with
    | some l, some k => bif Nat.beq l 0 && Nat.beq k 0 then (match mx with
     | none => some (.lit (.slice none 0 0))
     | some (.lit (.int _ (.ofNat x))) => bif Nat.beq x 0 then (match hi with
      | some _ => some (.lit (.slice none 0 0))
      | none => none) else none
     | _ => none) else none
    | _, _ => none
   | _ => none
  | none => none
 | some .string => match r, mx with
  | .str s, none => match boundR 0 lo, boundR s.length hi with
   | some l, some k => bif Nat.ble l k then (match dropN s l with
    | some s' => takeN (k - l) s' fun r => some (.str r)
    | none => none) else none
   | _, _ => none
  | _, _ => none
 | _ => none
def lenR (P : Program) (t : TypeId) (r : RV) : Option RV :=
 match P.underlying t, r with
 | some .string, .str l => forceN l.length fun n => some (.lit (.int .i64 (.ofNat n)))
 | some (.slice _), .sl _ _ _ n _ => some (.lit (.int .i64 (.ofNat n)))
 | some (.slice _), .s0 _ _ _ => some (.lit (.int .i64 (.ofNat 0)))
 | some (.slice _), .se => some (.lit (.int .i64 (.ofNat 0)))
 | some (.slice _), .lit (.slice none 0 0) => some (.lit (.int .i64 (.ofNat 0)))
 | some (.array n _), _ => some (.lit (.int .i64 (.ofNat n)))
 | some (.map _ _), .lit (.map none) => some (.lit (.int .i64 (.ofNat 0)))
 | _, _ => none
def capR (P : Program) (t : TypeId) (r : RV) : Option RV :=
 match P.underlying t, r with
 | some (.slice _), .s0 _ _ _ => some (.lit (.int .i64 (.ofNat 0)))
 | some (.slice _), .lit (.slice none 0 0) => some (.lit (.int .i64 (.ofNat 0)))
 | _, _ => none
def ifaceR (P : Program) (t : TypeId) (r : RV) : Option RV :=
 match P.underlying t with
 | some (.interface _) => none
 | some _ => some (.ifc t r)
 | none => none
def isAggR : RV -> Bool
 | .agg _ => true
 | .lit (.agg _) => true
 | _ => false
def aggFieldR (P : Program) (t : TypeId) (r : RV) (f : Nat) : Option RV :=
 match P.underlying t, cellsR r with
 | some (.struct fields), some cs => match fields[f]? with
  | some fl => match P.underlying fl.type, P.info? fl.type with
   | some d, some i => if d.isRow then takeO i.size (dropR cs fl.offset) fun l => some (.agg l) else nthR cs fl.offset
   | _, _ => none
  | none => none
 | _, _ => none
def idxR (P : Program) (t : TypeId) (r ix : RV) : Option RV :=
 match P.underlying t, r, ix with
 | some .string, .str l, .lit (.int _ (.ofNat n)) => match nthN l n with
  | some b => some (.lit (.int .u8 (.ofNat b)))
  | none => none
 | some (.array len e), .agg cs, .lit (.int _ (.ofNat n)) => match P.underlying e, P.info? e with
  | some d, some i => bif Nat.ble (n + 1) len then (if d.isRow then takeO i.size (dropR cs (n * i.size)) fun l => some (.agg l) else nthR cs (n * i.size)) else none
  | _, _ => none
 | _, _, _ => none
def convR (P : Program) (src dst : TypeId) (r : RV) : Option RV :=
 match r with
 | .lit (.int k n) => flatO P (convert src dst (.int k n))
 | .str l => match P.underlying src, P.underlying dst with
  | some .string, some .string => some (.str l)
  | _, _ => none
 | _ => none
def assertR (P : Program) (r : RV) (asserted : TypeId) (ok : Bool) : Option RV :=
 match P.underlying asserted, r with
 | some (.interface _), _ => none
 | some _, .ifc t v => bif Nat.beq t asserted then (match ok with
  | true => some (.tup [v, .lit (.bool true)])
  | false => some v) else none
 | _, _ => none
def extractR : RV -> Nat -> Option RV
 | .tup l, i => nthR l i
 | .lit (.tuple vs), i => match vs[i]? with
  | some v => some (ofV v)
  | none => none
 | _, _ => none
def nilCheckR : RV -> Option RV
 | .ptr G e off => some (.ptr G e off)
 | .clo f a l => some (.clo f a l)
 | .lit (.pointer (some a)) => some (.lit (.pointer (some a)))
 | .lit (.func (.func f) a b) => some (.lit (.func (.func f) a b))
 | _ => none
def flat2 (P : Program) (m : Value -> Value -> Sem Value) (a b : RV) : Option RV :=
 match litV a, litV b with
 | some u, some v => flatO P (m u v)
 | _, _ => none
def pureR (P : Program) (t : Tr RV) (o : Oper) : Option RV :=
 match o.op with
 | .move x | .assign x => some (evalR t x)
 | .pick c a b => match evalR t c with
  | .lit (.bool true) => some (evalR t a)
  | .lit (.bool false) => some (evalR t b)
  | _ => none
 | .build ty parts => buildR P ty (parts.toList.map fun p => (p.1, evalR t p.2))
 | .nilCheck x => nilCheckR (evalR t x)
 | .binOp op ty x y _ => binR P op ty x y (evalR t x) (evalR t y)
 | .unOp op _ x => match litV (evalR t x) with
  | some v => flatO P (Op.unary op v)
  | none => none
 | .convert src dst x => convR P src dst (evalR t x)
 | .makeInterface ty x => ifaceR P ty (evalR t x)
 | .makeFunc (.func f) first captured => some (.clo f (first.toList.map (evalR t)) (captured.toList.map (evalR t)))
 | .slice ty x lo hi mx => sliceR P ty (evalR t x) (lo.map (evalR t)) (hi.map (evalR t)) (mx.map (evalR t))
 | .fieldAddr s x f => fieldR P s (evalR t x) f
 | .field ty x f => bif isAggR (evalR t x) then aggFieldR P ty (evalR t x) f else none
 | .indexAddr ty x ix => indexR P ty (evalR t x) (evalR t ix)
 | .index ty x ix => idxR P ty (evalR t x) (evalR t ix)
 | .typeAssert x xt ags ok => assertR P (evalR t x) ags ok
 | .extract x i => extractR (evalR t x) i
 | .call ⟨.builtin b, args, argTypes⟩ => match b, args.toList, argTypes.toList with
  | .len, [x], [ty] => lenR P ty (evalR t x)
  | .cap, [x], [ty] => capR P ty (evalR t x)
  | .unsafeSliceData, [x], _ => match evalR t x with
   | .sl G e off n s => bif Nat.ble 1 n then some (.ptr G e off) else none
   | .lit (.slice none 0 0) => some (.lit (.pointer none))
   | _ => none
  | .min, [x, y], _ => flat2 P (fun u v => Builtin.min_ argTypes o.type #[u, v]) (evalR t x) (evalR t y)
  | .max, [x, y], _ => flat2 P (fun u v => Builtin.max_ argTypes o.type #[u, v]) (evalR t x) (evalR t y)
  | _, _, _ => none
 | _ => none

/-! ### Operations that make one block: what is in it, and what is handed back -/
def rowZeros (z : Array Value) (n : Nat) : Array Value := (Array.range n).map (z[· % z.size]!)
def zeroCs (P : Program) (e : TypeId) (n : Nat) : Option (List RV) :=
 match P.info? e with
 | some i => match i.zero with
  | some z => bif Nat.ble (n * i.size) 10000 then some ((rowZeros z.cells (n * i.size)).toList.map ofV) else none
  | none => none
 | none => none
def forceRs {β : Type} : List RV -> (List RV -> β) -> β
 | [], k => k []
 | .lit v :: l, k => forceV v fun r => forceRs l fun l => k (r :: l)
 | r :: l, k => forceRs l fun l => k (r :: l)
/-- the cells, their type, and the value in terms of the new group -/
def allocR (P : Program) (t : Tr RV) (G : Nat) (o : Oper) : Option (RV × OB) :=
 match o.op with
 | .alloc ty => match zerosR P ty with
  | some l => some (.ptr G 0 0, .cells ty false 1 [(0, l)])
  | none => none
 | .box ty x => match cellsR (evalR t x) with
  | some l => some (.ptr G 0 0, .cells ty false 1 [(0, l)])
  | none => none
 | .buildSlice ty len parts => match P.underlying ty with
  | some (.slice e) => match P.info? e, zeroCs P e len with
   | some i, some z => fillR (fun k => some (k * i.size, i.size)) (parts.toList.map fun p => (p.1, evalR t p.2)) z fun cs => bif Nat.beq (len * i.size) 0 then (bif Nat.beq len 0 then some (.s0 G 0 0, .cells e false 1 [(0, cs)]) else none) else some (.sl G 0 0 len i.size, .cells e false 1 [(0, cs)])
   | _, _ => none
  | _ => none
 | .makeSlice ty l c => match P.underlying ty, evalR t l, evalR t c with
  | some (.slice e), .lit (.int _ (.ofNat n)), .lit (.int _ (.ofNat m)) => match P.info? e, zeroCs P e m with
   | some i, some z => bif Nat.ble n m && Nat.ble 1 i.size && Nat.ble (m * i.bytes) 1000000 && Nat.ble m 1000000 then (bif Nat.beq m 0 then some (.s0 G 0 0, .cells e false 1 [(0, z)]) else some (.sl G 0 0 n i.size, .cells e false 1 [(0, z)])) else none
   | _, _ => none
  | _, _, _ => none
 | .convert src dst x => match P.underlying src, P.underlying dst, evalR t x with
  | some .string, some (.slice e), .str l => match P.underlying e with
   | some (.int .u8) => forceRs (l.map fun n => .lit (.int .u8 (.ofNat n))) fun cs => forceN l.length fun n => some (.sl G 0 0 n 1, .cells e true 1 [(0, cs)])
   | _ => none
  | _, _, _ => none
 | _ => none

/-- the cells of what is appended or copied: how many elements, and their cells -/
def srcR {β : Type} (h : Hp) (sz : Nat) (x : RV) (k : Nat -> List RV -> Option β) : Option β :=
 match x with
 | .sl G e off m s => bif Nat.beq s sz then (match cellsAt h G e with
  | some (_, _, _, cs) => takeO (m * s) (dropR cs off) fun l => bif l.all oneR then k m l else none
  | none => none) else none
 | .str l => bif Nat.beq sz 1 then forceRs (l.map fun n => .lit (.int .u8 (.ofNat n))) fun cs => k l.length cs else none
 | .s0 _ _ _ => k 0 []
 | .se => k 0 []
 | .lit (.slice none 0 0) => k 0 []
 | _ => none
def isSlice : RV -> Bool
 | .sl _ _ _ _ _ | .s0 _ _ _ | .se | .lit (.slice none 0 0) => true
 | _ => false
def srcKind (P : Program) (tx : TypeId) : Bool :=
 match P.underlying tx with
 | some (.slice _) => true
 | some .string => true
 | _ => false
def isEmptyS : RV -> Bool
 | .s0 _ _ _ => true
 | .se => true
 | .lit (.slice none 0 0) => true
 | _ => false
def isStr : RV -> Bool
 | .str _ => true
 | _ => false
def appendR (P : Program) (h : Hp) (nx : Nat) (ty tx : TypeId) (r x : RV) : Option (RV × Hp × Nat) :=
 match P.underlying ty with
 | some (.slice e) => match P.info? e with
  | some i => match i.zero with
   | some z => bif Nat.beq z.cells.size i.size && Nat.ble 1 i.size && isSlice r && srcKind P tx then srcR h i.size x fun m news =>
     bif Nat.beq m 0 then some (r, h, nx) else match r with
     | .sl G mb 0 n s => bif Nat.beq s i.size && Nat.ble ((n + m) * i.bytes) 1000000000 && Nat.ble (n + m) 1000000000 then (match h.get G with
      | some (.cells el false nxe mem) => bif Nat.beq el e then (match findM mem mb with
       | some cs => takeO (n * s) cs fun pre => appO pre news fun all => keepM (n * s) mem 3 fun r' => forceN (nxe + 1) fun nxe' => forceN (n + m) fun len =>
         putT h G (.cells e false nxe' ((nxe, all) :: r')) fun h' => some (.sl G nxe 0 len s, h', nx)
       | none => none) else none
      | _ => none) else none
     | .lit _ | .s0 _ _ _ => bif Nat.ble (m * i.bytes) 1000000000 && Nat.ble m 1000000000 then forceN m fun len => forceN (nx + 1) fun nx' => putT h nx (.cells e false 1 [(0, news)]) fun h' => some (.sl nx 0 0 len i.size, h', nx') else none
     | _ => none
    else none
   | none => none
  | none => none
 | _ => none
def copyR (P : Program) (h : Hp) (ty : TypeId) (r x : RV) : Option (RV × Hp) :=
 match P.underlying ty with
 | some (.slice e) => match P.info? e with
  | some i => match r with
   | .sl G mb off n s => bif Nat.beq s i.size && Nat.ble 1 s then srcR h s x fun m news =>
     forceN (min m n) fun k => bif Nat.beq k 0 then some (.lit (.int .i64 (.ofNat 0)), h) else takeO (k * s) news fun l => (match cellsAt h G mb with
     | some (el, z, nxe, cs) => overO cs off l fun cs' => putT h G (.cells el z nxe [(mb, cs')]) fun h' => some (.lit (.int .i64 (.ofNat k)), h')
     | none => none) else none
   | r => bif isEmptyS r && (isSlice x || isStr x) then some (.lit (.int .i64 (.ofNat 0)), h) else none
  | none => none
 | _ => none
def zeroOk (i : TypeInfo) : Bool := match i.zero with
 | some z => Nat.beq z.cells.size i.size
 | none => false
def clearR (P : Program) (h : Hp) (ty : TypeId) (r : RV) : Option Hp :=
 match P.underlying ty, r with
 | some (.slice e), .sl G mb off n s => match P.info? e, zeroCs P e n, cellsAt h G mb with
  | some i, some z, some (el, fz, nxe, cs) => bif Nat.beq s i.size && Nat.ble 1 n && zeroOk i && z.all oneR then overO cs off z fun cs' => putT h G (.cells el fz nxe [(mb, cs')]) some else none
  | _, _, _ => none
 | some (.slice e), .s0 _ _ _ => some h
 | some (.slice e), .se => some h
 | some (.slice e), .lit (.slice none 0 0) => some h
 | _, _ => none
/-! ### maps -/
def keyEq : RV -> RV -> Option Bool
 | .str l, .str m => some (eqLN l m)
 | .lit (.int j (.ofNat a)), .lit (.int k (.ofNat b)) => if j = k then some (Nat.beq a b) else none
 | .lit (.bool a), .lit (.bool b) => some (a == b)
 | _, _ => none
def flatKey (d : TypeDesc) (r : RV) : Bool := match d, r with
 | .string, .str _ => true
 | .int _, .lit (.int _ _) => true
 | .bool, .lit (.bool _) => true
 | _, _ => false
def findE : List (RV × RV × Nat) -> RV -> Option (Option RV)
 | [], _ => some none
 | (k, v, _) :: r, x => match keyEq x k with
  | some true => some (some v)
  | some false => findE r x
  | none => none
def setE {β : Type} : List (RV × RV × Nat) -> RV -> RV -> Nat -> (List (RV × RV × Nat) -> Bool -> Option β) -> Option β
 | [], x, v, ck, f => f [(x, v, ck)] true
 | (k, u, b) :: r, x, v, ck, f => match keyEq x k with
  | some true => f ((x, v, b) :: r) false
  | some false => setE r x v ck fun r' nw => f ((k, u, b) :: r') nw
  | none => none
def mapSetR (P : Program) (h : Hp) (ty : TypeId) (m k v : RV) : Option Hp :=
 match P.underlying ty, m with
 | some (.map kt et), .mp G => match P.underlying kt, h.get G with
  | some d, some (.mp es ck) => bif flatKey d k && oneR v then setE es k v ck fun es' nw => (match nw with
   | true => forceN (ck + 1) fun ck' => putT h G (.mp es' ck') some
   | false => putT h G (.mp es' ck) some) else none
  | _, _ => none
 | _, _ => none
def delE {β : Type} : List (RV × RV × Nat) -> RV -> (List (RV × RV × Nat) -> Option β) -> Option β
 | [], _, f => f []
 | (k, u, b) :: r, x, f => match keyEq x k with
  | some true => f r
  | some false => delE r x fun r' => f ((k, u, b) :: r')
  | none => none
def delR (P : Program) (h : Hp) (ty : TypeId) (m k : RV) : Option Hp :=
 match P.underlying ty, m with
 | some (.map kt et), .mp G => match P.underlying kt, h.get G with
  | some d, some (.mp es ck) => bif flatKey d k then delE es k fun es' => putT h G (.mp es' ck) some else none
  | _, _ => none
 | _, _ => none
def zero1 (P : Program) (t : TypeId) : Option RV :=
 match P.info? t with
 | some i => match i.zero with
  | some z => forceV z some
  | none => none
 | none => none
def entriesR (h : Hp) (m : RV) : Option (List (RV × RV × Nat)) :=
 match m with
 | .mp G => match h.get G with
  | some (.mp es _) => some es
  | _ => none
 | .lit (.map none) => some []
 | _ => none
def foundR (z : RV) (ok : Bool) : Option RV -> RV
 | some v => match ok with
  | true => .tup [v, .lit (.bool true)]
  | false => v
 | none => match ok with
  | true => .tup [z, .lit (.bool false)]
  | false => z
def lookupR (P : Program) (h : Hp) (ty : TypeId) (m k : RV) (ok : Bool) : Option RV :=
 match P.underlying ty with
 | some (.map kt et) => match P.underlying kt, zero1 P et with
  | some d, some z => bif flatKey d k then (match entriesR h m with
   | some es => match findE es k with
    | some r => some (foundR z ok r)
    | none => none
   | none => none) else none
  | _, _ => none
 | _ => none
inductive Cls where
 | pure | read | alloc | eff
 deriving DecidableEq
def clsR (P : Program) (o : Oper) : Cls :=
 match o.op with
 | .load _ _ | .lookup _ _ _ _ => .read
 | .alloc _ | .box _ _ | .buildSlice _ _ _ | .makeSlice _ _ _ => .alloc
 | .convert src dst _ => match P.underlying src, P.underlying dst with
  | some .string, some (.slice _) => .alloc
  | some (.slice _), _ => .read
  | some .unsafePointer, _ => .read
  | _, some .unsafePointer => .read
  | _, _ => .pure
 | .store _ _ _ | .mapUpdate _ _ _ _ | .makeMap _ _ | .mapEntry _ _ _ | .entryStore _ _ _ _ | .insert _ _ _ _ | .range _ _ | .next _ _ | .entry _ => .eff
 | .call ⟨.builtin b, _, argTypes⟩ => match b with
  | .min | .max | .unsafeSliceData | .cap => .pure
  | .len => match argTypes.toList with
   | [ty] => match P.underlying ty with
    | some (.map _ _) => .read
    | _ => .pure
   | _ => .pure
  | _ => .eff
 | .call _ => .eff
 | _ => .pure
/-- an address ags an unsafe pointer, and back -/
def unsafeR (P : Program) (h : Hp) (src dst : TypeId) (r : RV) : Option RV :=
 match P.underlying src, P.underlying dst, r with
 | some (.pointer el), some .unsafePointer, .ptr G e off => match P.info? el, cellsAt h G e with
  | some i, some (_, _, _, cs) => match nthR cs off with
   | some _ => bif Nat.ble 1 i.size then some (.ptr G e off) else none
   | none => none
  | _, _ => none
 | some .unsafePointer, some (.pointer u), .ptr G e off => match P.info? u, cellsAt h G e with
  | some i, some (el, _, _, cs) => bif liesAt P P.depth el (cs.length / P.cellsOf el) off u 1 then some (.ptr G e off) else none
  | _, _ => none
 | some (.pointer _), some .unsafePointer, .lit (.pointer none) => some (.lit (.pointer none))
 | some .unsafePointer, some (.pointer _), .lit (.pointer none) => some (.lit (.pointer none))
 | _, _, _ => none
def byteL {β : Type} : List RV -> (List Nat -> Option β) -> Option β
 | [], k => k []
 | .lit (.int .u8 (.ofNat n)) :: l, k => bif Nat.ble (n + 1) 256 then byteL l fun r => k (n :: r) else none
 | _ :: _, _ => none
/-- bytes ags a string that shares them: the block is forgotten -/
def unsafeStrR (P : Program) (h : Hp) (ty : TypeId) (r : RV) (n : Nat) : Option (RV × Hp) :=
 match n, r with
 | 0, .ptr _ _ _ => some (.str [], h)
 | 0, .lit (.pointer none) => some (.str [], h)
 | n + 1, .ptr G e 0 => match P.underlying ty with
  | some (.pointer u) => match h.get G with
   | some (.cells el false nxe mem) => match findM mem e with
    | some cs => bif Nat.beq el u && Nat.beq (P.cellsOf el) 1 && Nat.ble (n + 1) 1000000 then takeO (n + 1) cs fun l => byteL l fun b => putT h G (.cells el false nxe []) fun h' => some (.str b, h') else none
    | none => none
   | _ => none
  | _ => none
 | _, _ => none
/-- bytes ags a string -/
def bytesR (h : Hp) (r : RV) : Option RV :=
 match r with
 | .sl G e off n 1 => match cellsAt h G e with
  | some (_, _, _, cs) => takeO n (dropR cs off) fun l => byteL l fun b => some (.str b)
  | none => none
 | .s0 _ _ _ => some (.str [])
 | .se => some (.str [])
 | .lit (.slice none 0 0) => some (.str [])
 | _ => none
def readR (P : Program) (t : Tr RV) (h : Hp) (o : Oper) : Option RV :=
 match o.op with
 | .load ty x => loadR P h ty (evalR t x)
 | .convert src dst x => match P.underlying src, P.underlying dst with
  | some (.slice e), some .string => match P.underlying e with
   | some (.int .u8) => bytesR h (evalR t x)
   | _ => none
  | _, _ => unsafeR P h src dst (evalR t x)
 | .lookup ty m k ok => lookupR P h ty (evalR t m) (evalR t k) ok
 | .call ⟨.builtin .len, args, argTypes⟩ => match args.toList with
  | [x] => match argTypes.toList with
   | [ty] => match P.underlying ty with
    | some (.map _ _) => match evalR t x with
     | .mp G => match h.get G with
      | some (.mp es _) => forceN es.length fun n => some (.lit (.int .i64 (.ofNat n)))
      | _ => none
     | .lit (.map none) => some (.lit (.int .i64 (.ofNat 0)))
     | _ => none
    | _ => none
   | _ => none
  | _ => none
 | _ => none
/-- how a call ends -/
inductive RE where
 | ret (r : RV)
 | pan (r : RV)
/-- a function, or what a range over a function hands out -/
inductive Who where
 | fn (f : FuncId)
 | yld (G : Nat)
abbrev CallR := Who -> List RV -> Hp -> Nat -> Option (RE × Hp × Nat)
def targetR (r : RV) (args : List RV) : Option (FuncId × List RV) :=
 match r with
 | .lit (.func (.func f) first captured) => match first.toList, captured.toList with
  | [], [] => some (f, args)
  | _, _ => none
 | .clo f a l => appO args l fun r => appO a r fun all => some (f, all)
 | _ => none
/-- functions without a body: of values known whole by the model's own row; or they hand back what they are handed -/
def externR (P : Program) (f : FuncId) (args : List RV) : Option RV :=
 match P.funcs[f]? with
 | some fn => match fn.body with
  | some _ => none
  | none => match litL args with
   | some vs => match evalP P (callFunc f vs.toArray) with
    | some (.value v) => forceV v some
    | _ => none
   | none => match args with
    | [r] => if fn.name == "internal/abi.NoEscape" && (Extern.findNext fn).isNone then some r else none
    | _ => none
 | none => none
/-- a map's copy, by the model's own row -/
def cloneR (P : Program) (f : FuncId) (args : List RV) (h : Hp) (nx : Nat) : Option (RE × Hp × Nat) :=
 match P.funcs[f]? with
 | some fn => match fn.body with
  | some _ => none
  | none => match args with
   | [.ifc t (.mp G)] => match h.get G with
    | some (.mp es ck) => if fn.name == "maps.clone" && (Extern.findNext fn).isNone then forceN (nx + 1) fun nx' => putT h nx (.mp es ck) fun h' => some (.ret (.ifc t (.mp nx)), h', nx') else none
    | _ => none
   | [.lit (.int .i64 (.ofNat n))] => match fn.resultTypes.toList with
    | [t] => match P.underlying t with
     | some (.slice e) => if fn.name == "internal/bytealg.MakeNoZero" && Nat.ble n 1000000 && (Extern.findNext fn).isNone then forceN (nx + 1) fun nx' => putT h nx (.cells e false 1 [(0, [])]) fun h' => some (.ret (.sl nx 0 0 n 1), h', nx') else none
     | _ => none
    | _ => none
   | _ => none
 | none => none
def yldR : RV -> Option Nat
 | .yld G => some G
 | _ => none
def unitR (x : Option Hp) (nx : Nat) : Option (RE × Hp × Nat) :=
 match x with
 | some h => some (.ret (.lit undef), h, nx)
 | none => none
def leftE (seen : List Nat) (es : List (RV × RV × Nat)) : List (RV × RV × Nat) := es.filter fun e => !(seen.contains e.2.2)
/-- the entry that an iterator met last -/
def entryR (seen : List Nat) (stepped : Nat) (es : List (RV × RV × Nat)) (ck : Nat) : Option RV :=
 bif Nat.beq ck stepped then match seen.getLast? with
  | some b => match es.find? fun e => e.2.2 == b with
   | some (k, v, _) => some (.tup [k, v])
   | none => none
  | none => none else none
/-- a step of an iterator over a map of which at most one entry is left -/
def nextMR (h : Hp) (nx G m since : Nat) (seen : List Nat) (last : Nat) (es : List (RV × RV × Nat)) (ck : Nat) : Option (RE × Hp × Nat) :=
 bif !seen.isEmpty && !es.isEmpty && es.all (fun e => decide (last <= e.2.2)) then none else match leftE seen es with
  | [] => some (.ret (.tup [.lit (.bool false)]), h, nx)
  | [(k, v, b)] => bif Nat.ble (b + 1) since then putT h G (.ot (.mi m since (seen ++ [b]) ck)) fun h' => some (.ret (.tup [.lit (.bool true), k, v]), h', nx) else none
  | _ => none
def effR (P : Program) (call : CallR) (t : Tr RV) (h : Hp) (nx : Nat) (o : Oper) : Option (RE × Hp × Nat) :=
 match o.op with
 | .store ty a x => unitR (storeR P h ty (evalR t a) (evalR t x) some) nx
 | .mapUpdate ty m k x => unitR (mapSetR P h ty (evalR t m) (evalR t k) (evalR t x)) nx
 | .insert ty m k x => unitR (mapSetR P h ty (evalR t m) (evalR t k) (evalR t x)) nx
 | .makeMap ty r => match r with
  | none => forceN (nx + 1) fun nx' => putT h nx (.mp [] 0) fun h' => some (.ret (.mp nx), h', nx')
  | some _ => none
 | .range ty x => match P.underlying ty, evalR t x with
  | some .string, .str l => forceN (nx + 1) fun nx' => putT h nx (.si l l 0) fun h' => some (.ret (.ptr nx 0 0), h', nx')
  | some (.map _ _), .mp G => match h.get G with
   | some (.mp _ ck) => forceN (nx + 1) fun nx' => putT h nx (.ot (.mi G ck [] ck)) fun h' => some (.ret (.ptr nx 0 0), h', nx')
   | _ => none
  | _, _ => none
 | .entry it => match evalR t it with
  | .ptr G 0 0 => match h.get G with
   | some (.ot (.mi m _ seen stepped)) => match h.get m with
    | some (.mp es ck) => match entryR seen stepped es ck with
     | some r => some (.ret r, h, nx)
     | none => none
    | _ => none
   | _ => none
  | _ => none
 | .next it false => match evalR t it with
  | .ptr G 0 0 => match h.get G with
   | some (.ot (.mi m since seen last)) => match h.get m with
    | some (.mp es ck) => nextMR h nx G m since seen last es ck
    | _ => none
   | _ => none
  | _ => none
 | .next it true => match evalR t it with
  | .ptr G 0 0 => match h.get G with
   | some (.si s [] pos) => some (.ret (.tup [.lit (.bool false)]), h, nx)
   | some (.si s (b :: rest) pos) => bif Nat.ble (b + 1) 128 then forceN (pos + 1) fun pos' => putT h G (.si s rest pos') fun h' => some (.ret (.tup [.lit (.bool true), .lit (.int .i64 (.ofNat pos)), .lit (.int .i32 (.ofNat b))]), h', nx) else none
   | _ => none
  | _ => none
 | .call ⟨.builtin b, args, argTypes⟩ => match b, args.toList, argTypes.toList with
  | .append, [r, x], [ty, tx] => match appendR P h nx ty tx (evalR t r) (evalR t x) with
   | some (r, h', nx') => some (.ret r, h', nx')
   | none => none
  | .unsafeString, [x, n], [ty, _] => match evalR t n with
   | .lit (.int .i64 (.ofNat n)) => match unsafeStrR P h ty (evalR t x) n with
    | some (r, h') => some (.ret r, h', nx)
    | none => none
   | _ => none
  | .copy, [r, x], ty :: _ => match copyR P h ty (evalR t r) (evalR t x) with
   | some (r, h') => some (.ret r, h', nx)
   | none => none
  | .delete, [m, k], ty :: _ => match delR P h ty (evalR t m) (evalR t k) with
   | some h' => some (.ret (.lit (.tuple #[])), h', nx)
   | none => none
  | .clear, [r], ty :: _ => match clearR P h ty (evalR t r) with
   | some h' => some (.ret (.lit (.tuple #[])), h', nx)
   | none => none
  | _, _, _ => none
 | .call ⟨.value f, args, _⟩ => match yldR (evalR t f) with
  | some G => call (.yld G) (args.toList.map (evalR t)) h nx
  | none => match targetR (evalR t f) (args.toList.map (evalR t)) with
   | some (f, ags) => match externR P f ags with
    | some r => some (.ret r, h, nx)
    | none => match cloneR P f ags h nx with
     | some r => some r
     | none => call (.fn f) ags h nx
   | none => none
 | _ => none
/-- what is to be done at a function's end: a deferred call; a block of deferred calls to be shut -/
inductive DC where
 | call (f : FuncId) (ags : List RV)
 | mark (G : Nat)
structure St where
 tm : Tr RV
 n : Nat
 h : Hp
 nx : Nat
 /-- the deferred calls, the last first; none: in a round of a range over a function -/
 ds : Option (List DC)
inductive RX where
 | normal
 | exit (id : Nat)
 | ret
 | panic (v : RV)
def wantedR (t : Tr RV) (ops : Array Oper) (o : Oper) : Option Bool :=
 match o.guard with
 | none => some true
 | some (j, want) => match (ops[j]?).bind (·.dst) with
  | none => some false
  | some d => match t.get d with
   | none => some false
   | some (.lit (.bool b)) => match b, want with
    | true, true => some true
    | false, false => some true
    | _, _ => some false
   | some (.lit (.tuple _)) => some false
   | _ => none
def putR {β : Type} (t : Tr RV) (n : Nat) (d : Option Tmp) (r : RV) (k : Tr RV -> Option β) : Option β :=
 match d with
 | none => k t
 | some d => bif Nat.ble (d + 1) n then putT t d r k else none
/-- one operation -/
def opR (P : Program) (call : CallR) (t : Tr RV) (h : Hp) (nx : Nat) (o : Oper) : Option (RE × Hp × Nat) :=
 match clsR P o with
 | .pure => match pureR P t o with
  | some r => some (.ret r, h, nx)
  | none => none
 | .read => match readR P t h o with
  | some r => some (.ret r, h, nx)
  | none => none
 | .alloc => match allocR P t nx o with
  | some (r, ob) => forceN (nx + 1) fun nx' => putT h nx ob fun h' => some (.ret r, h', nx')
  | none => none
 | .eff => effR P call t h nx o
def panicR (t : Tr RV) (o : Oper) : Option RV :=
 match o.op with
 | .panic x => match evalR t x with
  | .ifc ty v => some (.ifc ty v)
  | .lit (.iface ty v) => some (.lit (.iface ty v))
  | _ => none
 | _ => none
/-- a deferred call: whose, with what -/
def deferR (t : Tr RV) (o : Oper) : Option (FuncId × List RV) :=
 match o.op with
 | .defer ⟨.value f, args, _⟩ => targetR (evalR t f) (args.toList.map (evalR t))
 | _ => none
def runOps (P : Program) (call : CallR) (ops : Array Oper) : List Oper -> St -> Option (RX × St)
 | [], s => some (.normal, s)
 | o :: rest, s => match wantedR s.tm ops o with
  | some true => match panicR s.tm o with
   | some v => some (.panic v, s)
   | none => match opR P call s.tm s.h s.nx o with
    | some (.ret r, h', nx') => putR s.tm s.n o.dst r fun t' => runOps P call ops rest ⟨t', s.n, h', nx', s.ds⟩
    | some (.pan v, h', nx') => some (.panic v, ⟨s.tm, s.n, h', nx', s.ds⟩)
    | none => match deferR s.tm o with
     | some (f, ags) => match s.ds with
      | some l => putR s.tm s.n o.dst (.lit undef) fun t' => runOps P call ops rest ⟨t', s.n, s.h, s.nx, some (.call f ags :: l)⟩
      | none => none
     | none => none
  | some false => putR s.tm s.n o.dst (.lit undef) fun t' => runOps P call ops rest ⟨t', s.n, s.h, s.nx, s.ds⟩
  | none => none
def loopR (body : St -> Option (RX × St)) : Nat -> St -> Option (RX × St)
 | 0, _ => none
 | f + 1, s => match body s with
  | some (.normal, s') => loopR body f s'
  | r => r
/-- a range over a function ends -/
def endLoopR (G : Nat) (s : St) (ds : List DC) (h : Hp) (nx : Nat) : Option (RX × St) :=
 match h.get G with
 | some (.ot (.lp st pend tm n ps assign body)) => match st with
  | .busy => none
  | _ => putT h G (.ot (.lp .exhausted pend tm n ps assign body)) fun h' => match pend with
   | none => some (.normal, ⟨s.tm, s.n, h', nx, some ds⟩)
   | some .ret => some (.ret, ⟨s.tm, s.n, h', nx, some ds⟩)
   | some (.exit id) => some (.exit id, ⟨s.tm, s.n, h', nx, some ds⟩)
   | _ => none
 | _ => none
/-- a range over a function, in no round -/
def loopFR (call : CallR) (g : Operand) (ps : Array Tmp) (assign body : Code) (s : St) : Option (RX × St) :=
 match s.ds with
 | none => none
 | some l => forceN (s.nx + 1) fun n1 => forceN (n1 + 1) fun n2 => match targetR (evalR s.tm g) [.yld n1] with
  | none => none
  | some (f, ags) => putT s.h s.nx (.ot (.df true)) fun h1 => putT h1 n1 (.ot (.lp .ready none s.tm s.n ps assign body)) fun h2 => match call (.fn f) ags h2 n2 with
   | some (.ret _, h3, n3) => endLoopR n1 s (.mark s.nx :: l) h3 n3
   | _ => none
/-- drawn regions: by another reckoning -/
abbrev DrawR := Array Oper -> St -> Option (RX × St)
def execC (P : Program) (call : CallR) (draw : DrawR) : Code -> St -> Option (RX × St)
 | .skip, s => some (.normal, s)
 | .seq a b, s => match execC P call draw a s with
  | some (.normal, s') => execC P call draw b s'
  | r => r
 | .cond c a b, s => match evalR s.tm c with
  | .lit (.bool true) => execC P call draw a s
  | .lit (.bool false) => execC P call draw b s
  | _ => none
 | .block id c, s => match execC P call draw c s with
  | some (.exit id', s') => bif Nat.beq id' id then some (.normal, s') else some (.exit id', s')
  | r => r
 | .loop c, s => loopR (execC P call draw c) 1000000 s
 | .exit id, s => some (.exit id, s)
 | .label _, s => some (.normal, s)
 | .ret, s => some (.ret, s)
 | .region _ ops false, s => runOps P call ops ops.toList s
 | .region _ ops true, s => draw ops s
 | .rangeFunc g ps assign body, s => loopFR call g ps assign body s
 | _, _ => none
def resultR (P : Program) (s : St) : ResultVar -> Option RV
 | .tmp t => some (evalR s.tm (.tmp t))
 | .cell a ty => loadR P s.h ty (evalR s.tm (.tmp a))
def resultsR (P : Program) (s : St) : List ResultVar -> Option (List RV)
 | [] => some []
 | x :: l => match resultR P s x with
  | some r => match resultsR P s l with
   | some rs => some (r :: rs)
   | none => none
  | none => none
def oneOf : List RV -> RV
 | [r] => r
 | l => .tup l
def argT {β : Type} : List RV -> Nat -> Tr RV -> (Tr RV -> β) -> β
 | [], _, t, k => k t
 | r :: l, i, t, k => putT t i r fun t' => argT l (i + 1) t' k
def funcR (P : Program) (f : FuncId) : Option (Func × Code) :=
 match P.funcs[f]? with
 | some fn => if fn.name == "runtime.NumGoroutine" then none else match fn.body with
  | some c => some (fn, c)
  | none => none
 | none => none
def setPs {β : Type} : List Tmp -> List RV -> Nat -> Tr RV -> (Tr RV -> Option β) -> Option β
 | [], [], _, t, k => k t
 | p :: ps, a :: ags, n, t, k => bif Nat.ble (p + 1) n then putT t p a fun t' => setPs ps ags n t' k else none
 | _, _, _, _, _ => none
def beginR {β : Type} (G : Nat) (h : Hp) (k : Hp -> Option β) : Option β :=
 match h.get G with
 | some (.ot (.lp .ready pend tm n ps assign body)) => putT h G (.ot (.lp .busy pend tm n ps assign body)) k
 | _ => none
def endRoundR (G : Nat) (jump : Option Code) (h : Hp) (nx : Nat) : Option (RE × Hp × Nat) :=
 match h.get G with
 | some (.ot (.lp _ _ tm n ps assign body)) => match jump with
  | none => putT h G (.ot (.lp .ready none tm n ps assign body)) fun h' => some (.ret (.lit (.bool true)), h', nx)
  | some c => putT h G (.ot (.lp .done (some c) tm n ps assign body)) fun h' => some (.ret (.lit (.bool false)), h', nx)
 | _ => none
def bodyEndR (G : Nat) : Option (RX × St) -> Option (RE × Hp × Nat)
 | some (.normal, s) => endRoundR G none s.h s.nx
 | some (.ret, s) => endRoundR G (some .ret) s.h s.nx
 | some (.exit id, s) => endRoundR G (some (.exit id)) s.h s.nx
 | _ => none
def assignedR (G : Nat) (exec : St -> Option (RX × St)) : Option (RX × St) -> Option (RE × Hp × Nat)
 | some (.normal, s) => beginR G s.h fun h1 => bodyEndR G (exec ⟨s.tm, s.n, h1, s.nx, none⟩)
 | _ => none
/-- a round of a range over a function -/
def roundR (P : Program) (call : CallR) (draw : DrawR) (G : Nat) (args : List RV) (h : Hp) (nx : Nat) : Option (RE × Hp × Nat) :=
 match h.get G with
 | some (.ot (.lp .ready _ tm n ps assign body)) => setPs ps.toList args n tm fun tm' => assignedR G (execC P call draw body) (execC P call draw assign ⟨tm', n, h, nx, none⟩)
 | _ => none
def isRecover (op : Op) : Bool := match op with
 | .call ⟨.builtin .recover, _, _⟩ => true
 | _ => false
def clsPure (P : Program) (o : Oper) : Bool := match clsR P o with
 | .pure => true
 | _ => false
/-- a deferred function that finds nothing to recover from: pure operations alone -/
def runOpsI (P : Program) (ops : Array Oper) : List Oper -> Tr RV -> Nat -> Option (Tr RV)
 | [], t, n => some t
 | o :: l, t, n => match wantedR t ops o with
  | some false => putR t n o.dst (.lit undef) fun t' => runOpsI P ops l t' n
  | some true => match isRecover o.op with
   | true => putR t n o.dst (.lit .nilIface) fun t' => runOpsI P ops l t' n
   | false => match panicR t o with
    | some _ => none
    | none => match clsPure P o with
     | true => match pureR P t o with
      | some r => putR t n o.dst r fun t' => runOpsI P ops l t' n
      | none => none
     | false => none
  | none => none
def execI (P : Program) : Code -> Tr RV -> Nat -> Option (Bool × Tr RV)
 | .seq a b, t, n => match execI P a t n with
  | some (false, t') => execI P b t' n
  | r => r
 | .cond c a b, t, n => match evalR t c with
  | .lit (.bool true) => execI P a t n
  | .lit (.bool false) => execI P b t n
  | _ => none
 | .region _ ops false, t, n => match runOpsI P ops ops.toList t n with
  | some t' => some (false, t')
  | none => none
 | .skip, t, n => some (false, t)
 | .ret, t, n => some (true, t)
 | _, _, _ => none
def codeRecovers : Code -> Bool
 | .seq a b => codeRecovers a || codeRecovers b
 | .cond _ a b => codeRecovers a || codeRecovers b
 | .region _ ops _ => ops.toList.any fun o => isRecover o.op
 | _ => false
def idleR (P : Program) (f : FuncId) (ags : List RV) : Bool := match funcR P f with
 | some (fn, code) => bif codeRecovers code then (match fn.results.toList with
  | [] => argT ags 0 .leaf fun t => (execI P code t (max fn.ntmps ags.length)).isSome
  | _ => false) else false
 | none => false
/-- the deferred calls, at a function's end -/
def leaveR (P : Program) (orc call : CallR) : List DC -> Hp -> Nat -> Option (Hp × Nat)
 | [], h, nx => some (h, nx)
 | .call f ags :: ds, h, nx => match orc (.fn f) ags h nx with
  | some _ => none
  | none => match idleR P f ags with
   | true => leaveR P orc call ds h nx
   | false => match call (.fn f) ags h nx with
    | some (.ret _, h', nx') => leaveR P orc call ds h' nx'
    | _ => none
 | .mark G :: ds, h, nx => match h.get G with
  | some (.ot (.df true)) => putT h G (.ot (.df false)) fun h' => leaveR P orc call ds h' nx
  | _ => none
def wentR (P : Program) (fn : Func) (s : St) : Option (Hp × Nat) -> Option (RE × Hp × Nat)
 | some (h, nx) => match resultsR P ⟨s.tm, s.n, h, nx, s.ds⟩ fn.results.toList with
  | some rs => some (.ret (oneOf rs), h, nx)
  | none => none
 | none => none
def byeR (P : Program) (orc call : CallR) (fn : Func) (s : St) : Option (List DC) -> Option (RE × Hp × Nat)
 | some l => wentR P fn s (leaveR P orc call l s.h s.nx)
 | none => none
/-- a function's end -/
def endR (P : Program) (orc call : CallR) (fn : Func) : Option (RX × St) -> Option (RE × Hp × Nat)
 | some (.normal, s) => byeR P orc call fn s s.ds
 | some (.ret, s) => byeR P orc call fn s s.ds
 | some (.panic v, s) => match s.ds with
  | some [] => some (.pan v, s.h, s.nx)
  | _ => none
 | _ => none
/-- a function's run, or a round's; the calls in it are known -/
def bodyR (P : Program) (orc call : CallR) (draw : DrawR) : CallR
 | .fn f, args, h, nx => match funcR P f with
  | some (fn, c) => match orc (.fn f) args h nx with
   | some r => some r
   | none => argT args 0 .leaf fun t => endR P orc call fn (execC P call draw c ⟨t, max fn.ntmps args.length, h, nx, some []⟩)
  | none => none
 | .yld G, args, h, nx => roundR P call draw G args h nx
def callR (P : Program) (orc : CallR) (draw : CallR -> DrawR) : Nat -> CallR
 | 0, _, _, _, _ => none
 | d + 1, who, args, h, nx => bodyR P orc (callR P orc draw d) (draw (callR P orc draw d)) who args h nx

theorem evalP_run {α : Type} {P : Program} : ∀ {t : Sem α} {a : α}, evalP P t = some a -> ∀ w, t.run P w = .ok a w
 | .pure b, a, h, w => by cases h; rfl
 | .program k, a, h, w => by
  show (k P).run P w = _
  exact evalP_run (t := k P) h w
 | .mark _ k, a, h, w => by
  show k.run P w = _
  exact evalP_run (t := k) h w
 | .load .., _, h, _ | .store .., _, h, _ | .new .., _, h, _ | .shape .., _, h, _ | .freeze .., _, h, _ | .frozen .., _, h, _ | .getObj .., _, h, _ | .setObj .., _, h, _ | .choose .., _, h, _ | .sys .., _, h, _ | .halt .., _, h, _ => by cases h
section
variable {P : Program} {g : Gm} {env : Nat -> Value}
theorem flat_pures {m : Sem Value} {r : RV} (h : flatO P m = some r) : Pures P g env m r := by
 unfold flatO at h
 split at h <;> try cases h
 rename_i v hv
 rw [forceV_eq] at h
 cases h
 exact ⟨v, evalP_run hv, ofV_R _ _ _⟩
mutual
theorem litV_eq : ∀ {r : RV} {v u : Value}, litV r = some v -> R g env r u -> u = v
 | .lit v', v, u, h, hr => by cases h; cases hr; rfl
 | .str l, v, u, h, hr => by cases h; cases hr; rfl
 | .agg l, v, u, h, hr => by
  unfold litV at h
  split at h <;> try cases h
  rename_i vs hvs
  cases hr with
  | agg hn hh =>
   rename_i us
   have := litL_eq (us := us.toList) hvs ⟨by simpa using hn, fun i h1 h2 => by simpa using hh i h1 (by simpa using h2)⟩
   rw [<- this]
 | .ifc t r, v, u, h, hr => by
  unfold litV at h
  split at h <;> try cases h
  rename_i v' hv'
  cases hr with
  | ifc hh => rw [litV_eq hv' hh]
 | .opq i, v, u, h, hr => by cases h
 | .ptr _ _ _, v, u, h, hr => by cases h
 | .sl _ _ _ _ _, v, u, h, hr => by cases h
 | .s0 _ _ _, v, u, h, hr => by cases h
 | .se, v, u, h, hr => by cases h
 | .tup _, v, u, h, hr => by cases h
 | .clo _ _ _, v, u, h, hr => by cases h
 | .mp _, v, u, h, hr => by cases h
theorem litL_eq : ∀ {l : List RV} {vs us : List Value}, litL l = some vs -> RL g env l us -> us = vs
 | [], vs, us, h, hr => by
  cases h
  exact List.eq_nil_of_length_eq_zero (by rw [<- hr.len]; rfl)
 | r :: l, vs, [], h, hr => by have := hr.len; simp at this
 | r :: l, vs, u :: us, h, hr => by
  unfold litL at h
  split at h <;> try cases h
  rename_i v hv
  split at h <;> try cases h
  rename_i vs' hvs
  obtain ⟨h1, h2⟩ := hr.tail
  rw [litV_eq hv h1, litL_eq hvs h2]
end
theorem eqLN_iff : ∀ {l m : List Nat}, eqLN l m = true ↔ l = m
 | [], [] => by simp [eqLN]
 | [], _ :: _ => by simp [eqLN]
 | _ :: _, [] => by simp [eqLN]
 | x :: l, y :: m => by
  unfold eqLN
  cases hb : Nat.beq x y with
  | true =>
   have := Nat.eq_of_beq_eq_true hb
   subst this
   rw [cond_true, eqLN_iff]
   simp
  | false =>
   rw [cond_false]
   have : x ≠ y := fun e => by rw [e, Nat.beq_refl] at hb; cases hb
   simp [this]
theorem ofNat_inj {a b : Nat} (ha : a < 256) (hb : b < 256) (h : UInt8.ofNat a = UInt8.ofNat b) : a = b := by
 have := congrArg UInt8.toNat h
 simp only [UInt8.toNat_ofNat'] at this
 omega
theorem map_ofNat_inj : ∀ {l m : List Nat}, (∀ x ∈ l, x < 256) -> (∀ x ∈ m, x < 256) -> l.map UInt8.ofNat = m.map UInt8.ofNat -> l = m
 | [], [], _, _, _ => rfl
 | [], _ :: _, _, _, h => by cases h
 | _ :: _, [], _, _, h => by cases h
 | x :: l, y :: m, h1, h2, h => by
  rw [List.map_cons, List.map_cons] at h
  injection h with e1 e2
  rw [ofNat_inj (h1 x List.mem_cons_self) (h2 y List.mem_cons_self) e1, map_ofNat_inj (fun z hz => h1 z (List.mem_cons_of_mem _ hz)) (fun z hz => h2 z (List.mem_cons_of_mem _ hz)) e2]
theorem toList_ofCodes (l : List Nat) : (ofCodes l).toList = l.map UInt8.ofNat := ByteArray.toList_mk _
theorem eqLN_bytes {l m : List Nat} (h1 : ∀ x ∈ l, x < 256) (h2 : ∀ x ∈ m, x < 256) : ((ofCodes l).toList == (ofCodes m).toList) = eqLN l m := by
 rw [toList_ofCodes, toList_ofCodes]
 by_cases h : l = m
 ·subst h
  rw [eqLN_iff.2 rfl]
  simp
 ·have e : eqLN l m = false := by
   cases hb : eqLN l m with
   | false => rfl
   | true => exact absurd (eqLN_iff.1 hb) h
  rw [e]
  exact beq_eq_false_iff_ne.2 fun hh => h (map_ofNat_inj h1 h2 hh)
theorem ltLN_bytes : ∀ {l m : List Nat}, (∀ x ∈ l, x < 256) -> (∀ x ∈ m, x < 256) -> Op.bytesLess (l.map UInt8.ofNat) (m.map UInt8.ofNat) = ltLN l m
 | _, [], _, _ => by simp [Op.bytesLess, ltLN]
 | [], _ :: _, _, _ => by simp [Op.bytesLess, ltLN]
 | x :: l, y :: m, h1, h2 => by
  have hx := h1 x List.mem_cons_self
  have hy := h2 y List.mem_cons_self
  have e1 : decide (UInt8.ofNat x < UInt8.ofNat y) = decide (x < y) := by
   apply decide_eq_decide.2
   rw [UInt8.lt_iff_toNat_lt]
   simp only [UInt8.toNat_ofNat']
   rw [Nat.mod_eq_of_lt (by omega), Nat.mod_eq_of_lt (by omega)]
  have e2 : (UInt8.ofNat x == UInt8.ofNat y) = decide (x = y) := by
   by_cases h : x = y
   ·simp [h]
   ·rw [decide_eq_false h]
    exact beq_eq_false_iff_ne.2 fun hh => h (ofNat_inj hx hy hh)
  have e3 : Nat.ble (x + 1) y = decide (x < y) := by
   rw [Bool.eq_iff_iff, Nat.ble_eq, decide_eq_true_iff]
   omega
  have e4 : Nat.beq x y = decide (x = y) := by
   rw [Bool.eq_iff_iff, Nat.beq_eq, decide_eq_true_iff]
  rw [List.map_cons, List.map_cons, Op.bytesLess, ltLN, e2, e3, e4, ltLN_bytes (fun z hz => h1 z (List.mem_cons_of_mem _ hz)) (fun z hz => h2 z (List.mem_cons_of_mem _ hz)), e1]
  cases decide (x < y) <;> cases decide (x = y) <;> simp
theorem appN_eq {β : Type} : ∀ (l m : List Nat) (k : List Nat -> β), appN l m k = k (l ++ m)
 | [], m, k => rfl
 | x :: l, m, k => by rw [appN, appN_eq l]; rfl
theorem takeN_some {β : Type} : ∀ {n : Nat} {l : List Nat} {k : List Nat -> Option β} {y : β}, takeN n l k = some y -> n <= l.length /\ k (l.take n) = some y
 | 0, l, k, y, h => ⟨Nat.zero_le _, h⟩
 | n + 1, [], k, y, h => by cases h
 | n + 1, x :: l, k, y, h => by
  obtain ⟨h1, h2⟩ := takeN_some (n := n) (l := l) h
  exact ⟨Nat.succ_le_succ h1, h2⟩
theorem dropN_some : ∀ {l : List Nat} {n : Nat} {r : List Nat}, dropN l n = some r -> n <= l.length /\ r = l.drop n
 | l, 0, r, h => by simp [dropN] at h; exact ⟨Nat.zero_le _, by simp [h]⟩
 | [], n + 1, r, h => by cases h
 | x :: l, n + 1, r, h => by
  obtain ⟨h1, h2⟩ := dropN_some (l := l) (n := n) h
  exact ⟨Nat.succ_le_succ h1, h2⟩
theorem nthN_eq : ∀ (l : List Nat) (n : Nat), nthN l n = l[n]?
 | [], n => by simp [nthN]
 | x :: l, 0 => rfl
 | x :: l, n + 1 => by rw [nthN, nthN_eq l n]; rfl
theorem boolR_eq {b : Bool} {r : RV} (h : boolR b = some r) : r = .lit (.bool b) := by
 cases b <;> cases h <;> rfl
theorem ofCodes_append (l m : List Nat) : ofCodes l ++ ofCodes m = ofCodes (l ++ m) := by
 unfold ofCodes
 rw [ByteArray.mk_append_mk, List.map_append]
theorem size_ofCodes (l : List Nat) : (ofCodes l).size = l.length := by
 simp [ofCodes, ByteArray.size]
theorem str_pures {op : BinOp} {l m : List Nat} {r : RV} (h : strR op l m = some r) (h1 : ∀ x ∈ l, x < 256) (h2 : ∀ x ∈ m, x < 256) : Pures P g env (Op.stringOp op (ofCodes l) (ofCodes m)) r := by
 have hlt : ∀ {l m : List Nat}, (∀ x ∈ l, x < 256) -> (∀ x ∈ m, x < 256) -> Op.bytesLess (ofCodes l).toList (ofCodes m).toList = ltLN l m := fun k1 k2 => by
  rw [toList_ofCodes, toList_ofCodes]
  exact ltLN_bytes k1 k2
 have tri : ∀ {l m : List Nat}, (ltLN l m || eqLN l m) = !ltLN m l := fun {l m} => by
  induction l generalizing m with
  | nil => cases m <;> simp [ltLN, eqLN]
  | cons x l ih =>
   rcases m with _ | ⟨y, m⟩
   ·simp [ltLN, eqLN]
   ·unfold ltLN eqLN
    have e3 : ∀ x y, Nat.ble (x + 1) y = decide (x < y) := fun x y => by
     rw [Bool.eq_iff_iff, Nat.ble_eq, decide_eq_true_iff]
     omega
    have e4 : ∀ x y, Nat.beq x y = decide (x = y) := fun x y => by
     rw [Bool.eq_iff_iff, Nat.beq_eq, decide_eq_true_iff]
    simp only [e3, e4]
    rcases Nat.lt_trichotomy x y with h | h | h
    ·have a1 : ¬ (x = y) := by omega
     have a2 : ¬ (y < x) := by omega
     have a3 : ¬ (y = x) := by omega
     simp [h, a1, a2, a3]
    ·subst h
     simp [ih]
    ·have a1 : ¬ (x = y) := by omega
     have a2 : ¬ (x < y) := by omega
     have a3 : ¬ (y = x) := by omega
     simp [h, a1, a2, a3]
 unfold strR at h
 cases op <;> dsimp only at h <;> try cases h
 case add =>
  cases hb : Nat.ble (l.length + m.length) 1000000 with
  | false => rw [hb] at h; cases h
  | true =>
   rw [hb, cond_true, appN_eq] at h
   cases h
   have hle := Nat.le_of_ble_eq_true hb
   refine ⟨.string (ofCodes (l ++ m)), fun w => ?_, .str fun x hx => ?_⟩
   ·rw [run_string_add_sum w _ _ (by rw [size_ofCodes, size_ofCodes]; omega), ofCodes_append]
   ·rcases List.mem_append.1 hx with hx | hx
    ·exact h1 x hx
    ·exact h2 x hx
 all_goals
  have := boolR_eq h
  subst this
  refine ⟨_, fun w => ?_, .lit _⟩
  simp only [Op.stringOp, hlt h1 h2, hlt h2 h1, eqLN_bytes h1 h2, tri, Bool.not_not]
  rfl
end
end Go.Proofs.YtnlimlboedohgaaGreatDoor.Ax
/-
  Comparisons, structs, slices, and the rest of what reads no memory.
-/
namespace Go.Proofs.YtnlimlboedohgaaGreatDoor.Ax
open Go.RowKit
set_option linter.unusedVariables false
set_option linter.unusedSimpArgs false

section
variable {P : Program} {g : Gm} {env : Nat -> Value}
theorem guard_other (op : BinOp) (t : TypeId) (x y : Operand) (u v : Value) (h1 : u ≠ .nilIface \/ v ≠ .nilIface) (h2 : (∀ cs, u ≠ .agg cs) \/ ∀ cs, v ≠ .agg cs) (w : World) : (eqGuard op t x y u v).run P w = .ok () w := by
 have hop : op = .eql \/ op = .neq \/ (eqGuard op t x y u v = pure ()) := by
  cases op <;> first | exact .inl rfl | exact .inr (.inl rfl) | exact .inr (.inr rfl)
 rcases hop with rfl | rfl | hop
 ·simp only [eqGuard, Bool.not_true, Bool.false_eq_true, if_false]
  split
  ·rcases h1 with h1 | h1 <;> exact absurd rfl h1
  ·rcases h2 with h2 | h2
   ·exact absurd rfl (h2 _)
   ·exact absurd rfl (h2 _)
  ·rfl
 ·simp only [eqGuard, Bool.not_true, Bool.false_eq_true, if_false]
  split
  ·rcases h1 with h1 | h1 <;> exact absurd rfl h1
  ·rcases h2 with h2 | h2
   ·exact absurd rfl (h2 _)
   ·exact absurd rfl (h2 _)
  ·rfl
 ·rw [hop]
  rfl
theorem guarded {op : BinOp} {t : TypeId} {x y : Operand} {u v : Value} {r : RV} (h1 : u ≠ .nilIface \/ v ≠ .nilIface) (h2 : (∀ cs, u ≠ .agg cs) \/ ∀ cs, v ≠ .agg cs) (h : Pures P g env (binOp op t u v) r) : Pures P g env (do eqGuard op t x y u v; binOp op t u v) r := by
 obtain ⟨b, k1, k2⟩ := h
 refine ⟨b, fun w => ?_, k2⟩
 rw [Sem.run_bind, guard_other op t x y u v h1 h2 w]
 exact k1 w
theorem equal_of {t : TypeId} {u v : Value} {b : Bool} {w : World} (h : ∀ d, (Op.equalIn (d + 1) t u v).run P w = .ok b w) : (Op.equal t u v).run P w = .ok b w := h 9999
/-- one of the two is nil, the other is not -/
theorem nil_eq {t : TypeId} {a b : RV} {u v : Value} (h : nilR P t a b = true) (ha : R g env a u) (hb : R g env b v) :
  (∀ w, (Op.equal t u v).run P w = .ok false w) /\ (∀ w, (Op.equal t v u).run P w = .ok false w) /\ (u ≠ .nilIface) /\ (∀ cs, u ≠ .agg cs) /\ (∀ k n, u ≠ .int k n) /\ (∀ k n, u ≠ .float k n) /\ (∀ k m n, u ≠ .complex k m n) /\ (∀ s, u ≠ .string s) := by
 unfold nilR at h
 split at h <;> try cases h
 all_goals
  split at h <;> try cases h
  rename_i hu
  cases hb
  cases ha
  refine ⟨fun w => equal_of fun d => ?_, fun w => equal_of fun d => ?_, by simp, by simp, by simp, by simp, by simp, by simp⟩ <;> simp [Op.equalIn, run_underlying hu]
theorem binOp_eql {t : TypeId} {u v : Value} {b : Bool} (h : ∀ w, (Op.equal t u v).run P w = .ok b w) (h1 : (∀ k n, u ≠ .int k n) \/ ∀ k n, v ≠ .int k n) (h2 : (∀ k n, u ≠ .float k n) \/ ∀ k n, v ≠ .float k n) (h3 : (∀ k m n, u ≠ .complex k m n) \/ ∀ k m n, v ≠ .complex k m n) (h4 : (∀ s, u ≠ .string s) \/ ∀ s, v ≠ .string s) (w : World) :
  (binOp .eql t u v).run P w = .ok (.bool b) w /\ (binOp .neq t u v).run P w = .ok (.bool (!b)) w := by
 constructor
 ·unfold binOp
  split <;> first
   | (rename_i e1 e2 e3; cases e1)
   | skip
  all_goals first
   | (rcases h1 with h1 | h1 <;> exact absurd rfl (h1 _ _))
   | (rcases h2 with h2 | h2 <;> exact absurd rfl (h2 _ _))
   | (rcases h3 with h3 | h3 <;> exact absurd rfl (h3 _ _ _))
   | (rcases h4 with h4 | h4 <;> exact absurd rfl (h4 _))
   | (simp [h w]; done)
   | simp_all
 ·unfold binOp
  split <;> first
   | (rename_i e1 e2 e3; cases e1)
   | skip
  all_goals first
   | (rcases h1 with h1 | h1 <;> exact absurd rfl (h1 _ _))
   | (rcases h2 with h2 | h2 <;> exact absurd rfl (h2 _ _))
   | (rcases h3 with h3 | h3 <;> exact absurd rfl (h3 _ _ _))
   | (rcases h4 with h4 | h4 <;> exact absurd rfl (h4 _))
   | (simp [h w]; done)
   | simp_all
theorem same_eq {t : TypeId} {a b : RV} {u v : Value} {q : Bool} (h : sameR P t a b = some q) (ha : R g env a u) (hb : R g env b v) :
  (∀ w, (Op.equal t u v).run P w = .ok q w) /\ (u ≠ .nilIface) /\ (∀ cs, u ≠ .agg cs) /\ (∀ k n, u ≠ .int k n) /\ (∀ k n, u ≠ .float k n) /\ (∀ k m n, u ≠ .complex k m n) /\ (∀ s, u ≠ .string s) := by
 unfold sameR at h
 split at h <;> try cases h
 rename_i G e off G' e' off'
 cases hg : Nat.beq G G' && Nat.beq e e' with
 | false => rw [hg] at h; cases h
 | true =>
  rw [hg, cond_true] at h
  rw [Bool.and_eq_true] at hg
  have e1 := Nat.eq_of_beq_eq_true hg.1
  have e2 := Nat.eq_of_beq_eq_true hg.2
  subst e1 e2
  split at h <;> try cases h
  rename_i el hu
  split at h <;> try cases h
  rename_i i hi
  cases hz : Nat.ble 1 i.size with
  | false => rw [hz] at h; cases h
  | true =>
   rw [hz, cond_true] at h
   cases h
   have hz' := Nat.le_of_ble_eq_true hz
   have hne : ¬ (i.size = 0) := by omega
   cases ha with
   | ptr h1 =>
    cases hb with
    | ptr h2 =>
     rename_i q1 n1 q2 n2
     rw [h1] at h2
     cases h2
     refine ⟨fun w => ?_, by simp, by simp, by simp, by simp, by simp, by simp⟩
     have e4 : Nat.beq off off' = decide (off = off') := by
      rw [Bool.eq_iff_iff, Nat.beq_eq, decide_eq_true_iff]
     rw [e4]
     have e5 : ((⟨q1, off, none⟩ : Addr) == ⟨q1, off', none⟩) = decide (off = off') := by
      by_cases ho : off = off'
      ·subst ho; simp
      ·rw [decide_eq_false ho]
       exact beq_eq_false_iff_ne.2 fun hh => ho (by injection hh)
     refine equal_of fun d => ?_
     simp [Op.equalIn, run_underlying hu, sizeOf, typeInfo, hi, hne, sameAddr, e5]
theorem bin_pures {op : BinOp} {t : TypeId} {x y : Operand} {a b r : RV} {u v : Value} (h : binR P op t x y a b = some r) (ha : R g env a u) (hb : R g env b v) : Pures P g env (do eqGuard op t x y u v; binOp op t u v) r := by
 have flat : ∀ {u' v' : Value}, litV a = some u' -> litV b = some v' -> flatO P (do eqGuard op t x y u' v'; binOp op t u' v') = some r -> Pures P g env (do eqGuard op t x y u v; binOp op t u v) r := fun k1 k2 k3 => by
  rw [litV_eq k1 ha, litV_eq k2 hb]
  exact flat_pures k3
 unfold binR at h
 split at h
 ·exact flat rfl rfl h
 ·rename_i l m
  cases ha with
  | str h1 =>
   cases hb with
   | str h2 =>
    refine guarded (.inl (by simp)) (.inl (by simp)) ?_
    have := str_pures (P := P) (g := g) (env := env) h h1 h2
    cases op <;> exact this
 ·rename_i hx1 hx2
  split at h <;> try cases h
  ·cases hn : nilR P t a b || nilR P t b a with
   | true =>
    rw [hn, cond_true] at h
    cases h
    rcases Bool.or_eq_true_iff.1 hn with hn | hn
    ·obtain ⟨k1, k2, k3, k4, k5, k6, k7, k8⟩ := nil_eq hn ha hb
     exact guarded (.inl k3) (.inl k4) ⟨_, fun w => (binOp_eql k1 (.inl k5) (.inl k6) (.inl k7) (.inl k8) w).1, .lit _⟩
    ·obtain ⟨k1, k2, k3, k4, k5, k6, k7, k8⟩ := nil_eq hn hb ha
     exact guarded (.inr k3) (.inr k4) ⟨_, fun w => (binOp_eql k2 (.inr k5) (.inr k6) (.inr k7) (.inr k8) w).1, .lit _⟩
   | false =>
    rw [hn, cond_false] at h
    split at h
    ·rename_i q hq
     have := boolR_eq h
     subst this
     obtain ⟨k1, k3, k4, k5, k6, k7, k8⟩ := same_eq hq ha hb
     exact guarded (.inl k3) (.inl k4) ⟨_, fun w => (binOp_eql k1 (.inl k5) (.inl k6) (.inl k7) (.inl k8) w).1, .lit _⟩
    ·split at h <;> try cases h
     rename_i u' v' k1 k2
     exact flat k1 k2 h
  ·cases hn : nilR P t a b || nilR P t b a with
   | true =>
    rw [hn, cond_true] at h
    cases h
    rcases Bool.or_eq_true_iff.1 hn with hn | hn
    ·obtain ⟨k1, k2, k3, k4, k5, k6, k7, k8⟩ := nil_eq hn ha hb
     exact guarded (.inl k3) (.inl k4) ⟨_, fun w => (binOp_eql k1 (.inl k5) (.inl k6) (.inl k7) (.inl k8) w).2, .lit _⟩
    ·obtain ⟨k1, k2, k3, k4, k5, k6, k7, k8⟩ := nil_eq hn hb ha
     exact guarded (.inr k3) (.inr k4) ⟨_, fun w => (binOp_eql k2 (.inr k5) (.inr k6) (.inr k7) (.inr k8) w).2, .lit _⟩
   | false =>
    rw [hn, cond_false] at h
    split at h
    ·rename_i q hq
     have := boolR_eq h
     subst this
     obtain ⟨k1, k3, k4, k5, k6, k7, k8⟩ := same_eq hq ha hb
     exact guarded (.inl k3) (.inl k4) ⟨_, fun w => (binOp_eql k1 (.inl k5) (.inl k6) (.inl k7) (.inl k8) w).2, .lit _⟩
    ·split at h <;> try cases h
     rename_i u' v' k1 k2
     exact flat k1 k2 h
end
end Go.Proofs.YtnlimlboedohgaaGreatDoor.Ax

/-
  Structs put together, slices, lengths, and the one law over all operations that read no memory.
-/
namespace Go.Proofs.YtnlimlboedohgaaGreatDoor.Ax
open Go.RowKit
set_option linter.unusedVariables false
set_option linter.unusedSimpArgs false

theorem set_over {α : Type} (l vs : List α) (o : Nat) (v : α) (n : Nat) (h : o < l.length) : (l.set o v).take (o + 1) ++ vs ++ (l.set o v).drop (o + 1 + n) = l.take o ++ (v :: vs) ++ l.drop (o + (n + 1)) := by
 apply List.ext_getElem?
 intro j
 have hto : (l.take o).length = o := by rw [List.length_take]; omega
 have ht1 : ((l.set o v).take (o + 1)).length = o + 1 := by rw [List.length_take, List.length_set]; omega
 rcases Nat.lt_or_ge j o with hj | hj
 ·rw [List.append_assoc, List.append_assoc, List.getElem?_append_left (by omega), List.getElem?_append_left (by omega), List.getElem?_take, List.getElem?_take, if_pos (by omega), if_pos hj, List.getElem?_set_ne (by omega)]
 ·rcases Nat.eq_or_lt_of_le hj with rfl | hj'
  ·rw [List.append_assoc, List.append_assoc, List.getElem?_append_left (by omega), List.getElem?_append_right (by omega), hto, Nat.sub_self, List.getElem?_take, if_pos (by omega), List.getElem?_set_self (by omega)]
   rfl
  ·rw [List.append_assoc, List.append_assoc, List.getElem?_append_right (l₁ := (l.set o v).take (o + 1)) (by rw [ht1]; omega), List.getElem?_append_right (l₁ := l.take o) (by rw [hto]; omega), ht1, hto]
   have e2 : j - o = (j - (o + 1)) + 1 := by omega
   rw [e2, List.cons_append, List.getElem?_cons_succ]
   rcases Nat.lt_or_ge (j - (o + 1)) vs.length with hk | hk
   ·rw [List.getElem?_append_left hk, List.getElem?_append_left hk]
   ·rw [List.getElem?_append_right hk, List.getElem?_append_right hk, List.getElem?_drop, List.getElem?_drop, List.getElem?_set_ne (by omega)]
    congr 1
    omega
theorem fold_over (off : Nat) : ∀ (vs : List Value) (k : Nat) (arr : Array Value), off + k + vs.length <= arr.size -> ((vs.zipIdx k).foldl (fun cs (c, j) => cs.setIfInBounds (off + j) c) arr).toList = arr.toList.take (off + k) ++ vs ++ arr.toList.drop (off + k + vs.length)
 | [], k, arr, h => by simp
 | v :: vs, k, arr, h => by
  simp only [List.length_cons] at h
  rw [List.zipIdx_cons, List.foldl_cons, fold_over off vs (k + 1) _ (by simp; omega), Array.toList_setIfInBounds]
  have := set_over arr.toList vs (off + k) v vs.length (by simp; omega)
  rw [List.length_cons]
  exact this
section
variable {P : Program} {g : Gm} {env : Nat -> Value} {t : Tr RV} {ρ : Operand -> Value}
theorem fill_R {β : Type} (place : Nat -> Option (Nat × Nat)) : ∀ (parts : List (Nat × Operand)) (cs : List RV) (arr : Array Value) (k : List RV -> Option β) (y : β), RL g env cs arr.toList -> (∀ p ∈ parts, R g env (evalR t p.2) (ρ p.2)) -> fillR place (parts.map fun p => (p.1, evalR t p.2)) cs k = some y ->
  ∃ cs' arr', k cs' = some y /\ Instr.fill place arr (parts.map fun p => (p.1, ρ p.2)) = some arr' /\ RL g env cs' arr'.toList
 | [], cs, arr, k, y, hc, _, hs => ⟨cs, arr, hs, rfl, hc⟩
 | (i, x) :: rest, cs, arr, k, y, hc, hp, hs => by
  simp only [List.map_cons, fillR] at hs
  split at hs <;> try cases hs
  rename_i off size hpl
  split at hs <;> try cases hs
  rename_i l' hl
  cases hb : Nat.beq l'.length size with
  | false => rw [hb] at hs; cases hs
  | true =>
   rw [hb, cond_true] at hs
   have h1 := Nat.eq_of_beq_eq_true hb
   obtain ⟨h2, h3⟩ := overO_some hs
   have hx := cellsR_R hl (hp (i, x) List.mem_cons_self)
   have hsz : (ρ x).cells.size = size := by have := hx.len; simp at this; omega
   have hal : arr.size = cs.length := by have := hc.len; simp at this; omega
   have hfold := fold_over off (ρ x).cells.toList 0 arr (by simp; omega)
   simp only [Nat.add_zero] at hfold
   have hlen : (ρ x).cells.toList.length = l'.length := hx.len.symm
   have hnew : RL g env (cs.take off ++ l' ++ cs.drop (off + l'.length)) (((ρ x).cells.toList.zipIdx 0).foldl (fun cs (c, j) => cs.setIfInBounds (off + j) c) arr).toList := by
    rw [hfold, hlen]
    exact ((hc.take off).append hx).append (hc.drop (off + l'.length))
   obtain ⟨cs', arr', e0, e1, e2⟩ := fill_R place rest _ _ k y hnew (fun p hp' => hp p (List.mem_cons_of_mem _ hp')) h3
   refine ⟨cs', arr', e0, ?_, e2⟩
   rw [<- e1]
   simp only [List.map_cons, Instr.fill, hpl]
   rw [if_neg (by simp [hsz]; omega)]
   congr 1
   rw [<- Array.foldl_toList, Array.toList_zipIdx]
theorem build_pures {ty : TypeId} {parts : Array (Nat × Operand)} {r : RV} (hp : ∀ p ∈ parts.toList, R g env (evalR t p.2) (ρ p.2)) (hs : buildR P ty (parts.toList.map fun p => (p.1, evalR t p.2)) = some r) : Pures P g env (Instr.build ty (parts.map fun (i, x) => (i, ρ x))) r := by
 have hparts : (parts.map fun (i, x) => (i, ρ x)).toList = parts.toList.map fun p => (p.1, ρ p.2) := by simp
 unfold buildR at hs
 split at hs <;> try cases hs
 ·rename_i i fields hi hu
  split at hs <;> try cases hs
  rename_i z hz
  split at hs <;> try cases hs
  rename_i places hpl
  obtain ⟨cs', arr', h1, e1, e2⟩ := fill_R _ parts.toList _ z.cells _ _ (RL.lits _) hp hs
  cases h1
  refine ⟨.agg arr', fun w => ?_, .agg (by simpa using e2.len) (fun j k1 k2 => e2.at_ j k1 (by simpa using k2))⟩
  unfold Instr.build
  rw [hparts]
  have hpl := evalP_run hpl w
  simp only [bind_pure_comp] at hpl
  simp [zeroValue, typeInfo, hi, hz, run_underlying hu, hpl, e1]
 ·rename_i i m elem hi hu
  split at hs <;> try cases hs
  rename_i z j hz hj
  obtain ⟨cs', arr', h1, e1, e2⟩ := fill_R _ parts.toList _ z.cells _ _ (RL.lits _) hp hs
  cases h1
  refine ⟨.agg arr', fun w => ?_, .agg (by simpa using e2.len) (fun j k1 k2 => e2.at_ j k1 (by simpa using k2))⟩
  unfold Instr.build
  rw [hparts]
  simp [zeroValue, sizeOf, typeInfo, hi, hz, hj, run_underlying hu, e1]
/-- a part that may be left out -/
inductive OR (g : Gm) (env : Nat -> Value) : Option RV -> Option Value -> Prop
 | none : OR g env none none
 | some {r : RV} {v : Value} (h : R g env r v) : OR g env (some r) (some v)
theorem OR.map {x : Option Operand} (h : ∀ y ∈ x.toArray, R g env (evalR t y) (ρ y)) : OR g env (x.map (evalR t)) (x.map ρ) := by
 cases x with
 | none => exact .none
 | some y => exact .some (h y (by simp))
theorem bound_of {r : Option RV} {v : Option Value} {d n : Nat} (hb : boundR d r = some n) (hr : OR g env r v) : (r = none /\ v = none /\ n = d) \/ (∃ r', r = some r') /\ ∃ k, v = some (.int k (Int.ofNat n)) := by
 cases hr with
 | none => cases hb; exact .inl ⟨rfl, rfl, rfl⟩
 | some h =>
  unfold boundR at hb
  split at hb
  ·rename_i e
   cases e
  ·rename_i k m e
   cases e
   cases hb
   cases h
   exact .inr ⟨⟨_, rfl⟩, k, rfl⟩
  ·cases hb
theorem run_bound {k : IntKind} {n y : Nat} {code : BoundsCode} (h : n <= y) (w : World) : (Instr.sliceBound (.int k (Int.ofNat n)) y code).run P w = .ok n w := by
 simp [Instr.sliceBound, asIntOf, h]
theorem bounds2 {len cap l k : Nat} {b : Bool} {lo hi : Option Value} (hl : (lo = none /\ l = 0) \/ ∃ q, lo = some (.int q (Int.ofNat l))) (hk : (hi = none /\ k = len) \/ ∃ q, hi = some (.int q (Int.ofNat k))) (h1 : l <= k) (h2 : k <= cap) (w : World) : (Instr.sliceBounds b len cap lo hi none).run P w = .ok (l, k, cap) w := by
 rcases hl with ⟨rfl, rfl⟩ | ⟨q, rfl⟩ <;> rcases hk with ⟨rfl, rfl⟩ | ⟨q', rfl⟩
 ·simp [Instr.sliceBounds]
 ·simp only [Instr.sliceBounds, Sem.run_bind, Sem.run_pure, Result.andThen_ok, run_bound h2]
 ·simp only [Instr.sliceBounds, Sem.run_bind, Sem.run_pure, Result.andThen_ok, run_bound h1]
 ·simp only [Instr.sliceBounds, Sem.run_bind, Sem.run_pure, Result.andThen_ok, run_bound h1, run_bound h2]
theorem bounds3 {len cap l k x : Nat} {b : Bool} {lo : Option Value} {q' q'' : IntKind} (hl : (lo = none /\ l = 0) \/ ∃ q, lo = some (.int q (Int.ofNat l))) (h1 : l <= k) (h2 : k <= x) (h3 : x <= cap) (w : World) : (Instr.sliceBounds b len cap lo (some (.int q' (Int.ofNat k))) (some (.int q'' (Int.ofNat x)))).run P w = .ok (l, k, x) w := by
 rcases hl with ⟨rfl, rfl⟩ | ⟨q, rfl⟩
 ·simp only [Instr.sliceBounds, Sem.run_bind, Sem.run_pure, Result.andThen_ok, run_bound h2, run_bound h3]
 ·simp only [Instr.sliceBounds, Sem.run_bind, Sem.run_pure, Result.andThen_ok, run_bound h1, run_bound h2, run_bound h3]
theorem slice_pures {ty : TypeId} {r r' : RV} {lo hi mx : Option RV} {v : Value} {vl vh vm : Option Value} (hf : sliceR P ty r lo hi mx = some r') (hr : R g env r v) (hl : OR g env lo vl) (hh : OR g env hi vh) (hm : OR g env mx vm) : Pures P g env (Instr.sliceAt ty v vl vh vm) r' := by
 have two : ∀ {len l k : Nat}, boundR 0 lo = some l -> boundR len hi = some k -> ((vl = none /\ l = 0) \/ ∃ q, vl = some (.int q (Int.ofNat l))) /\ ((vh = none /\ k = len) \/ ∃ q, vh = some (.int q (Int.ofNat k))) := fun k1 k2 => by
  constructor
  ·rcases bound_of k1 hl with ⟨_, a, b⟩ | ⟨_, q, a⟩
   ·exact .inl ⟨a, b⟩
   ·exact .inr ⟨q, a⟩
  ·rcases bound_of k2 hh with ⟨_, a, b⟩ | ⟨_, q, a⟩
   ·exact .inl ⟨a, b⟩
   ·exact .inr ⟨q, a⟩
 unfold sliceR at hf
 split at hf <;> try cases hf
 ·rename_i e ht
  split at hf <;> try cases hf
  rename_i i hi'
  split at hf <;> try cases hf
  ·rename_i G m off len sz
   split at hf <;> try cases hf
   rename_i l k hlo hhi
   obtain ⟨hl2, hk2⟩ := two hlo hhi
   cases hb : Nat.beq sz i.size && Nat.ble l k && Nat.ble k len with
   | false => rw [hb] at hf; cases hf
   | true =>
    rw [hb, cond_true] at hf
    rw [Bool.and_eq_true, Bool.and_eq_true] at hb
    obtain ⟨⟨b1, b2⟩, b3⟩ := hb
    have hsz := Nat.eq_of_beq_eq_true b1
    have h1 := Nat.le_of_ble_eq_true b2
    have h2 := Nat.le_of_ble_eq_true b3
    cases hr with
    | sl hq hc hn =>
    rename_i q n cap
    have hmul : ∀ y, l <= y -> y <= cap -> off + l * sz + (y - l) * sz <= n := fun y hy1 hy2 => by
     have e : (y - l) * sz = y * sz - l * sz := Nat.sub_mul _ _ _
     have e2 := Nat.mul_le_mul_right sz hy1
     have e3 := Nat.mul_le_mul_right sz hy2
     omega
    split at hf
    ·cases hm
     have hrun : ∀ w, (Instr.sliceAt ty (.slice (some ⟨q, off, none⟩) len cap) vl vh none).run P w = .ok (.slice (if cap = l then some ⟨q, off, none⟩ else some (Addr.add ⟨q, off, none⟩ (l * i.size))) (k - l) (cap - l)) w := fun w => by
      have hm := bounds2 (P := P) (b := true) hl2 hk2 h1 (Nat.le_trans h2 hc) w
      simp [Instr.sliceAt, run_underlying ht, Instr.slice, hm, sizeOf, typeInfo, hi']
     cases hz : Nat.ble (l + 1) len || Nat.beq l 0 with
     | true =>
      rw [hz, cond_true, forceN_eq, forceN_eq] at hf
      cases hf
      have hif : (if cap = l then (some ⟨q, off, none⟩ : Option Addr) else some (Addr.add ⟨q, off, none⟩ (l * i.size))) = some ⟨q, off + l * sz, none⟩ := by
       rw [hsz]
       split
       ·rcases Bool.or_eq_true_iff.1 hz with h3 | h3
        ·have := Nat.le_of_ble_eq_true h3
         omega
        ·have := Nat.eq_of_beq_eq_true h3
         subst this
         simp
       ·rw [add_off]
      refine ⟨_, hrun, ?_⟩
      rw [hif]
      exact .sl hq (by omega) (hmul cap (by omega) (Nat.le_refl _))
     | false =>
      rw [hz, cond_false] at hf
      cases hf
      refine ⟨_, hrun, ?_⟩
      have hk0 : k - l = 0 := by
       rw [Bool.or_eq_false_iff] at hz
       have : ¬ (l + 1 <= len) := fun hh => by
        rw [Nat.ble_eq_true_of_le hh] at hz
        cases hz.1
       omega
      rw [hk0]
      split <;> exact .se _ _
    ·rename_i kk x
     split at hf <;> try cases hf
     rename_i r0
     cases hz : Nat.ble k x && Nat.ble x len with
     | false => rw [hz] at hf; cases hf
     | true =>
      rw [hz, cond_true] at hf
      rw [Bool.and_eq_true] at hz
      have h3 := Nat.le_of_ble_eq_true hz.1
      have h4 := Nat.le_of_ble_eq_true hz.2
      cases hm with
      | some hm' =>
      cases hm'
      rcases bound_of hhi hh with ⟨e0, _, _⟩ | ⟨_, q', rfl⟩
      ·cases e0
      have hrun : ∀ w, (Instr.sliceAt ty (.slice (some ⟨q, off, none⟩) len cap) vl (some (.int q' (Int.ofNat k))) (some (.int kk (Int.ofNat x)))).run P w = .ok (.slice (if x = l then some ⟨q, off, none⟩ else some (Addr.add ⟨q, off, none⟩ (l * i.size))) (k - l) (x - l)) w := fun w => by
       have hm := bounds3 (P := P) (b := true) (len := len) (q' := q') (q'' := kk) hl2 h1 h3 (Nat.le_trans h4 hc) w
       simp only [Int.ofNat_eq_natCast] at hm |-
       simp [Instr.sliceAt, run_underlying ht, Instr.slice, hm, sizeOf, typeInfo, hi']
      refine ⟨_, hrun, ?_⟩
      cases hxl : Nat.beq x l with
      | true =>
       rw [hxl, cond_true] at hf
       cases hf
       have := Nat.eq_of_beq_eq_true hxl
       subst this
       have hk0 : k - x = 0 := by omega
       rw [if_pos rfl, hk0, Nat.sub_self]
       exact .s0 hq
      | false =>
       rw [hxl, cond_false, forceN_eq, forceN_eq] at hf
       cases hf
       have hne : ¬ (x = l) := fun e => by
        rw [e, Nat.beq_refl] at hxl
        cases hxl
       rw [if_neg hne, add_off, <- hsz]
       exact .sl hq (by omega) (hmul x (by omega) (by omega))
    ·cases hf
  ·rename_i G m off
   split at hf <;> try cases hf
   rename_i hlo hhi
   cases hm
   obtain ⟨hl2, hk2⟩ := two hlo hhi
   cases hr with
   | s0 hq =>
    refine ⟨_, fun w => ?_, .s0 hq⟩
    have hm := bounds2 (P := P) (b := true) (len := 0) (cap := 0) hl2 hk2 (Nat.le_refl _) (Nat.le_refl _) w
    simp [Instr.sliceAt, run_underlying ht, Instr.slice, hm, sizeOf, typeInfo, hi']
  ·split at hf <;> try cases hf
   rename_i hlo hhi
   cases hm
   obtain ⟨hl2, hk2⟩ := two hlo hhi
   cases hr with
   | se a cap =>
    refine ⟨_, fun w => ?_, .se a cap⟩
    have hm := bounds2 (P := P) (b := true) (len := 0) (cap := cap) hl2 hk2 (Nat.le_refl _) (Nat.zero_le _) w
    simp [Instr.sliceAt, run_underlying ht, Instr.slice, hm, sizeOf, typeInfo, hi', Addr.add]
  ·split at hf <;> try cases hf
   rename_i l k hlo hhi
   obtain ⟨hl2, hk2⟩ := two hlo hhi
   cases hr
   cases hb : Nat.beq l 0 && Nat.beq k 0 with
   | false => rw [hb] at hf; cases hf
   | true =>
   rw [hb, cond_true] at hf
   rw [Bool.and_eq_true] at hb
   have hl0 := Nat.eq_of_beq_eq_true hb.1
   have hk0 := Nat.eq_of_beq_eq_true hb.2
   split at hf
   ·cases hf
    cases hm
    refine ⟨_, fun w => ?_, .lit _⟩
    have hm := bounds2 (P := P) (b := true) (len := 0) (cap := 0) hl2 hk2 (by omega) (by omega) w
    simp [Instr.sliceAt, run_underlying ht, Instr.slice, hm, sizeOf, typeInfo, hi', hl0, hk0]
   ·rename_i kk x
    cases hx : Nat.beq x 0 with
    | false => rw [hx] at hf; cases hf
    | true =>
    rw [hx, cond_true] at hf
    have hx0 := Nat.eq_of_beq_eq_true hx
    split at hf <;> try cases hf
    cases hm with
    | some hm' =>
    cases hm'
    rcases bound_of hhi hh with ⟨e0, _, _⟩ | ⟨_, q', rfl⟩
    ·cases e0
    refine ⟨_, fun w => ?_, .lit _⟩
    have hm := bounds3 (P := P) (b := true) (len := 0) (cap := 0) (x := x) (q' := q') (q'' := kk) hl2 (show l <= k by omega) (by omega) (by omega) w
    simp only [Int.ofNat_eq_natCast] at hm |-
    simp [Instr.sliceAt, run_underlying ht, Instr.slice, hm, sizeOf, typeInfo, hi']
    omega
   ·cases hf
 ·rename_i ht
  split at hf <;> try cases hf
  rename_i s
  cases hm
  split at hf <;> try cases hf
  rename_i l k hlo hhi
  obtain ⟨hl2, hk2⟩ := two hlo hhi
  cases hb : Nat.ble l k with
  | false => rw [hb] at hf; cases hf
  | true =>
   rw [hb, cond_true] at hf
   have h1 := Nat.le_of_ble_eq_true hb
   split at hf <;> try cases hf
   rename_i s' hs'
   obtain ⟨hd1, hd2⟩ := dropN_some hs'
   obtain ⟨ht1, ht2⟩ := takeN_some hf
   cases ht2
   subst hd2
   rw [List.length_drop] at ht1
   cases hr with
   | str hlt =>
    refine ⟨.string (ofCodes ((s.drop l).take (k - l))), fun w => ?_, .str fun x hx => hlt x (List.mem_of_mem_drop (List.mem_of_mem_take hx))⟩
    have hm := bounds2 (P := P) (b := false) (len := s.length) (cap := s.length) hl2 hk2 h1 (by omega) w
    have hex : (ofCodes s).extract l k = ofCodes ((s.drop l).take (k - l)) := by
     unfold ofCodes
     rw [ByteArray.extract_mk, List.map_take, List.map_drop]
    simp [Instr.sliceAt, run_underlying ht, Instr.slice, size_ofCodes, hm, hex]
end
end Go.Proofs.YtnlimlboedohgaaGreatDoor.Ax

/-
  The one law over all operations that read no memory.
-/
namespace Go.Proofs.YtnlimlboedohgaaGreatDoor.Ax
open Go.RowKit
set_option linter.unusedVariables false
set_option linter.unusedSimpArgs false

section
variable {P : Program} {g : Gm} {env : Nat -> Value} {t : Tr RV} {ρ : Operand -> Value}
theorem cap_pures {ty tt : TypeId} {r r' : RV} {v : Value} (h : capR P ty r = some r') (hr : R g env r v) : Pures P g env (Builtin.cap_ #[ty] tt #[v]) r' := by
 unfold capR at h
 split at h <;> try cases h
 ·rename_i hu
  cases hr with
  | s0 hq =>
   refine ⟨_, fun w => ?_, .lit _⟩
   simp [Builtin.cap_, run_underlying hu, goInt]
 ·rename_i hu
  cases hr
  refine ⟨_, fun w => ?_, .lit _⟩
  simp [Builtin.cap_, run_underlying hu, goInt]
theorem len_pures {ty tt : TypeId} {r r' : RV} {v : Value} (h : lenR P ty r = some r') (hr : R g env r v) : Pures P g env (Builtin.len_ #[ty] tt #[v]) r' := by
 unfold lenR at h
 split at h <;> try cases h
 ·rename_i l hu
  rw [forceN_eq] at h
  cases h
  cases hr with
  | str hl =>
   refine ⟨_, fun w => ?_, .lit _⟩
   simp [Builtin.len_, run_underlying hu, size_ofCodes, goInt]
 ·rename_i hu
  cases hr with
  | sl hq hc hn =>
   refine ⟨_, fun w => ?_, .lit _⟩
   simp [Builtin.len_, run_underlying hu, goInt]
 ·rename_i hu
  cases hr with
  | s0 hq =>
   refine ⟨_, fun w => ?_, .lit _⟩
   simp [Builtin.len_, run_underlying hu, goInt]
 ·rename_i hu
  cases hr with
  | se a cap =>
   refine ⟨_, fun w => ?_, .lit _⟩
   simp [Builtin.len_, run_underlying hu, goInt]
 ·rename_i hu
  cases hr
  refine ⟨_, fun w => ?_, .lit _⟩
  simp [Builtin.len_, run_underlying hu, goInt]
 ·rename_i hu
  refine ⟨_, fun w => ?_, .lit _⟩
  simp [Builtin.len_, run_underlying hu, goInt]
 ·rename_i hu
  cases hr
  refine ⟨_, fun w => ?_, .lit _⟩
  simp [Builtin.len_, run_underlying hu, goInt]
theorem iface_pures {ty : TypeId} {r r' : RV} {v : Value} (h : ifaceR P ty r = some r') (hr : R g env r v) : Pures P g env (Instr.makeInterface ty v) r' := by
 unfold ifaceR at h
 split at h <;> try cases h
 rename_i d hd hu
 refine ⟨.iface ty v, fun w => ?_, .ifc hr⟩
 unfold Instr.makeInterface
 rw [Sem.run_bind, run_underlying hu w]
 cases d <;> first | exact absurd rfl (hd _) | rfl
theorem run_isAgg {e : TypeId} {d : TypeDesc} (hu : P.underlying e = some d) (w : World) : (isAgg e).run P w = .ok d.isRow w := by
 unfold isAgg
 rw [Sem.run_bind, run_underlying hu w]
 cases d <;> rfl
/-- a part of an aggregate -/
theorem part_pures {e : TypeId} {d : TypeDesc} {i : TypeInfo} {cs : List RV} {off : Nat} {r' : RV} {arr : Array Value} (hu : P.underlying e = some d) (hi : P.info? e = some i) (h : (if d.isRow then takeO i.size (dropR cs off) fun l => some (RV.agg l) else nthR cs off) = some r') (hr : RL g env cs arr.toList) : Pures P g env (part e arr off) r' := by
 have hlen : cs.length = arr.size := by have := hr.len; simpa using this
 split at h
 ·rename_i hd
  rw [dropR_eq] at h
  obtain ⟨h1, h2⟩ := takeO_some h
  cases h2
  rw [List.length_drop] at h1
  have hrl := (hr.drop off).take i.size
  have hex : (arr.extract off (off + i.size)).toList = (arr.toList.drop off).take i.size := by
   rw [Array.toList_extract]
   simp [List.extract]
  refine ⟨.agg (arr.extract off (off + i.size)), fun w => ?_, .agg ?_ fun j k1 k2 => ?_⟩
  ·unfold part
   rw [Sem.run_bind, run_isAgg hu w]
   simp [hd, sizeOf, typeInfo, hi]
  ·have := hrl.len
   simp at this |-
   omega
  ·have k2' : j < ((arr.toList.drop off).take i.size).length := by
    simp at k2 |-
    omega
   have := hrl.at_ j k1 k2'
   have e : (arr.extract off (off + i.size))[j] = ((arr.toList.drop off).take i.size)[j] := by
    rw [<- Array.getElem_toList k2]
    apply Option.some.inj
    rw [<- List.getElem?_eq_getElem, <- List.getElem?_eq_getElem, hex]
   rw [e]
   exact this
 ·rename_i hd
  rw [nthR_eq] at h
  have h1 := (List.getElem?_eq_some_iff.1 h).1
  have h2 := (List.getElem?_eq_some_iff.1 h).2
  have h3 : off < arr.size := by omega
  refine ⟨arr[off], fun w => ?_, by rw [<- h2]; exact hr.at_ off h1 (by simpa using h3)⟩
  unfold part
  rw [Sem.run_bind, run_isAgg hu w]
  simp [hd, h3]
theorem agg_cells {r : RV} {l : List RV} {v : Value} (hc : cellsR r = some l) (hr : R g env r v) (ha : ∃ cs, v = .agg cs) : ∃ cs, v = .agg cs /\ RL g env l cs.toList := by
 obtain ⟨cs, rfl⟩ := ha
 exact ⟨cs, rfl, cellsR_R hc hr⟩
theorem aggField_pures {ty : TypeId} {r r' : RV} {f : Nat} {v : Value} (h : aggFieldR P ty r f = some r') (hr : R g env r v) (hag : isAggR r = true) : Pures P g env (Instr.field ty v f) r' := by
 unfold aggFieldR at h
 split at h <;> try cases h
 rename_i fields cs hu hc
 split at h <;> try cases h
 rename_i fl hfl
 split at h <;> try cases h
 rename_i d i hd hi
 have hagg : ∃ arr, v = .agg arr := by
  cases hr with
  | agg hn hh => exact ⟨_, rfl⟩
  | lit v => cases v <;> first | exact ⟨_, rfl⟩ | exact absurd hag (by simp [isAggR])
  | _ => exact absurd hag (by simp [isAggR])
 obtain ⟨arr, rfl, hrl⟩ := agg_cells hc hr hagg
 obtain ⟨u, h1, h2⟩ := part_pures hd hi h hrl
 refine ⟨u, fun w => ?_, h2⟩
 simp [Instr.field, run_underlying hu, hfl, asAgg, h1 w]
theorem idx_pures {ty : TypeId} {r ix r' : RV} {v u : Value} (h : idxR P ty r ix = some r') (hr : R g env r v) (hx : R g env ix u) : Pures P g env (Instr.index ty v u) r' := by
 unfold idxR at h
 split at h <;> try cases h
 ·rename_i l k n hu
  split at h <;> try cases h
  rename_i b hb
  rw [nthN_eq] at hb
  cases hx
  cases hr with
  | str hl =>
   have hlt := (List.getElem?_eq_some_iff.1 hb).1
   have hbe := (List.getElem?_eq_some_iff.1 hb).2
   have hb256 := hl b (by rw [<- hbe]; exact List.getElem_mem hlt)
   refine ⟨_, fun w => ?_, .lit _⟩
   have hget : (ofCodes l)[n]? = some (UInt8.ofNat b) := by
    have hs : n < (ofCodes l).size := by rw [size_ofCodes]; exact hlt
    rw [ByteArray.getElem?_lt' _ _ hs]
    congr 1
    show (ofCodes l).data[n] = _
    simp [ofCodes, hbe]
   simp [Instr.index, asIntOf, run_underlying hu, hget, hb256]
   omega
 ·rename_i len e cs k n hu
  split at h <;> try cases h
  rename_i d i hd hi
  cases hb : Nat.ble (n + 1) len with
  | false => rw [hb] at h; cases h
  | true =>
   rw [hb, cond_true] at h
   have hlt := Nat.le_of_ble_eq_true hb
   cases hx
   cases hr with
   | agg hn hh =>
    rename_i arr
    obtain ⟨u, h1, h2⟩ := part_pures (arr := arr) hd hi h ⟨by simpa using hn, fun i k1 k2 => by simpa using hh i k1 (by simpa using k2)⟩
    refine ⟨u, fun w => ?_, h2⟩
    have hlt' : n < len := hlt
    simp [Instr.index, asIntOf, run_underlying hu, hlt', sizeOf, typeInfo, hi, h1 w]
theorem conv_pures {src dst : TypeId} {r r' : RV} {v : Value} (h : convR P src dst r = some r') (hr : R g env r v) : Pures P g env (convert src dst v) r' := by
 unfold convR at h
 split at h <;> try cases h
 ·cases hr
  exact flat_pures h
 ·split at h <;> try cases h
  rename_i h1 h2
  cases hr with
  | str hl =>
   refine ⟨_, fun w => ?_, .str hl⟩
   simp [convert, run_underlying h1, run_underlying h2]
theorem assert_pures {r r' : RV} {xt ags : TypeId} {ok : Bool} {v : Value} (h : assertR P r ags ok = some r') (hr : R g env r v) : Pures P g env (Instr.typeAssert v xt ags ok) r' := by
 unfold assertR at h
 split at h <;> try cases h
 rename_i d ty r0 hni hu
 cases hb : Nat.beq ty ags with
 | false => rw [hb] at h; cases h
 | true =>
  rw [hb, cond_true] at h
  have := Nat.eq_of_beq_eq_true hb
  subst this
  cases hr with
  | ifc hv =>
   rename_i u
   split at h <;> cases h
   ·refine ⟨.tuple #[u, .bool true], fun w => ?_, .tup rfl fun i h1 h2 => ?_⟩
    ·unfold Instr.typeAssert
     rw [Sem.run_bind, run_underlying hu w]
     cases d <;> first | exact absurd rfl (hni _) | simp
    ·rcases i with _ | _ | i
     ·exact hv
     ·exact .lit _
     ·simp at h1
      omega
   ·refine ⟨u, fun w => ?_, hv⟩
    unfold Instr.typeAssert
    rw [Sem.run_bind, run_underlying hu w]
    cases d <;> first | exact absurd rfl (hni _) | simp
theorem extract_pures {r r' : RV} {v : Value} {i : Nat} (hf : extractR r i = some r') (hr : R g env r v) : Pures P g env (Instr.extract v i) r' := by
 unfold extractR at hf
 split at hf <;> try cases hf
 ·rename_i l
  rw [nthR_eq] at hf
  cases hr with
  | tup hn hh =>
   rename_i vs
   have h1 := (List.getElem?_eq_some_iff.1 hf).1
   have e := (List.getElem?_eq_some_iff.1 hf).2
   have hv : vs[i]? = some (vs[i]'(by omega)) := Array.getElem?_eq_getElem (by omega)
   refine ⟨vs[i]'(by omega), fun w => ?_, by rw [<- e]; exact hh i h1 (by omega)⟩
   simp [Instr.extract, hv]
 ·rename_i vs
  cases hr
  split at hf <;> try cases hf
  rename_i u hv
  refine ⟨u, fun w => ?_, ofV_R _ _ _⟩
  simp [Instr.extract, hv]
theorem nilCheck_next {r r' : RV} {v : Value} (hf : nilCheckR r = some r') (hr : R g env r v) : R g env r' v /\ ((∃ a, v = .pointer (some a)) \/ ∃ f a b, v = .func (.func f) a b) := by
 unfold nilCheckR at hf
 split at hf <;> cases hf
 ·cases hr with
  | ptr h => exact ⟨.ptr h, .inl ⟨_, rfl⟩⟩
 ·cases hr with
  | clo h1 h2 h3 h4 => exact ⟨.clo h1 h2 h3 h4, .inr ⟨_, _, _, rfl⟩⟩
 ·cases hr
  exact ⟨.lit _, .inl ⟨_, rfl⟩⟩
 ·cases hr
  exact ⟨.lit _, .inr ⟨_, _, _, rfl⟩⟩
theorem flat2_pures {m : Value -> Value -> Sem Value} {a b r : RV} {u v : Value} (h : flat2 P m a b = some r) (ha : R g env a u) (hb : R g env b v) : Pures P g env (m u v) r := by
 unfold flat2 at h
 split at h <;> try cases h
 rename_i u' v' h1 h2
 rw [litV_eq h1 ha, litV_eq h2 hb]
 exact flat_pures h
theorem run_sliceData {ts : Array TypeId} {ty : TypeId} {a : Addr} {n c : Nat} (h : c ≠ 0) (w : World) : (Builtin.unsafeSliceData_ ts ty #[.slice (some a) n c]).run P w = .ok (.pointer (some a)) w := by
 show Sem.run P (if c ≠ 0 then pure (Value.pointer (some a)) else _) w = _
 rw [if_pos h]
 rfl
theorem run_sliceData_nil {ts : Array TypeId} {ty : TypeId} (w : World) : (Builtin.unsafeSliceData_ ts ty #[.slice none 0 0]).run P w = .ok (.pointer none) w := rfl
/-- the value of an operation -/
def Vals (P : Program) (g : Gm) (env : Nat -> Value) (m : Sem Next) (r : RV) : Prop := ∃ v, (∀ w, m.run P w = .ok (.value v) w) /\ R g env r v
theorem Pures.vals {m : Sem Value} {r : RV} (h : Pures P g env m r) : Vals P g env (do pure (Next.value (<- m))) r := by
 obtain ⟨v, h1, h2⟩ := h
 refine ⟨v, fun w => ?_, h2⟩
 rw [Sem.run_bind, h1 w]
 rfl
theorem RL.map {l : List Operand} (h : ∀ x ∈ l, R g env (evalR t x) (ρ x)) : RL g env (l.map (evalR t)) (l.map ρ) :=
 ⟨by simp, fun i h1 h2 => by
  rw [List.getElem_map, List.getElem_map]
  exact h _ (List.getElem_mem _)⟩
theorem pure_sound {o : Oper} {r : RV} (h : pureR P t o = some r) (hρ : ∀ x ∈ o.op.operands, R g env (evalR t x) (ρ x)) : Vals P g env (execOp ρ o) r := by
 obtain ⟨dst, op, type, pos, after, guard⟩ := o
 unfold pureR at h
 simp only at h hρ
 split at h <;> try cases h
 ·exact ⟨_, fun w => rfl, hρ _ (by simp [Op.operands])⟩
 ·exact ⟨_, fun w => rfl, hρ _ (by simp [Op.operands])⟩
 ·rename_i c a b
  have hc := hρ c (by simp [Op.operands])
  split at h <;> try cases h
  ·rename_i e
   rw [e] at hc
   generalize hcv : ρ c = cv at hc
   cases hc
   refine ⟨ρ a, fun w => ?_, hρ a (by simp [Op.operands])⟩
   simp [execOp, hcv, asBool]
  ·rename_i e
   rw [e] at hc
   generalize hcv : ρ c = cv at hc
   cases hc
   refine ⟨ρ b, fun w => ?_, hρ b (by simp [Op.operands])⟩
   simp [execOp, hcv, asBool]
 ·rename_i ty parts
  exact (build_pures (ρ := ρ) (fun p hp => hρ p.2 (by simp only [Op.operands, List.mem_toArray, List.mem_map]; exact ⟨p, hp, rfl⟩)) h).vals
 ·rename_i x
  obtain ⟨h1, h2⟩ := nilCheck_next h (hρ x (by simp [Op.operands]))
  refine ⟨ρ x, fun w => ?_, h1⟩
  rcases h2 with ⟨a, h2⟩ | ⟨f, a, b, h2⟩ <;> simp [execOp, h2]
 ·rename_i op ty x y yt
  exact (bin_pures h (hρ x (by simp [Op.operands])) (hρ y (by simp [Op.operands]))).vals
 ·rename_i op ty x
  split at h <;> try cases h
  rename_i v hv
  have := litV_eq hv (hρ x (by simp [Op.operands]))
  have h2 := (flat_pures (g := g) (env := env) h).vals
  rw [<- this] at h2
  exact h2
 ·exact (conv_pures h (hρ _ (by simp [Op.operands]))).vals
 ·exact (iface_pures h (hρ _ (by simp [Op.operands]))).vals
 ·rename_i f first captured
  have h1 : RL g env (first.toList.map (evalR t)) (first.toList.map ρ) := RL.map fun x hx => hρ x (by simp only [Op.operands, Array.mem_append]; exact .inl (by simpa using hx))
  have h2 : RL g env (captured.toList.map (evalR t)) (captured.toList.map ρ) := RL.map fun x hx => hρ x (by simp only [Op.operands, Array.mem_append]; exact .inr (by simpa using hx))
  refine ⟨.func (.func f) (first.map ρ) (captured.map ρ), fun w => ?_, .clo (by simp) (fun i k1 k2 => ?_) (by simp) fun i k1 k2 => ?_⟩
  ·simp [execOp, Instr.makeFunc]
  ·have := h1.at_ i k1 (by simpa using k2)
   simpa using this
  ·have := h2.at_ i k1 (by simpa using k2)
   simpa using this
 ·rename_i ty x lo hi mx
  exact (slice_pures (v := ρ x) h (hρ x (by simp [Op.operands])) (OR.map fun y hy => hρ y (by simp [Op.operands] at hy |-; simp [hy])) (OR.map fun y hy => hρ y (by simp [Op.operands] at hy |-; simp [hy])) (OR.map fun y hy => hρ y (by simp [Op.operands] at hy |-; simp [hy]))).vals
 ·exact (does_field h (hρ _ (by simp [Op.operands]))).vals
 ·rename_i ty x f
  cases hb : isAggR (evalR t x) with
  | false => rw [hb] at h; cases h
  | true =>
   rw [hb, cond_true] at h
   exact (aggField_pures h (hρ x (by simp [Op.operands])) hb).vals
 ·exact (does_index h (hρ _ (by simp [Op.operands])) (hρ _ (by simp [Op.operands]))).vals
 ·exact (idx_pures h (hρ _ (by simp [Op.operands])) (hρ _ (by simp [Op.operands]))).vals
 ·exact (assert_pures h (hρ _ (by simp [Op.operands]))).vals
 ·exact (extract_pures h (hρ _ (by simp [Op.operands]))).vals
 ·rename_i b args argTypes
  have hargs : ∀ x ∈ args, R g env (evalR t x) (ρ x) := fun x hx => hρ x (by simp [Op.operands, Call.operands, hx])
  split at h <;> try cases h
  ·rename_i x ty e1 e2
   have ea : args = #[x] := by rw [<- Array.toArray_toList (xs := args), e1]
   have et : argTypes = #[ty] := by rw [<- Array.toArray_toList (xs := argTypes), e2]
   subst ea et
   have h2 := (len_pures (tt := type) h (hargs x (by simp))).vals
   obtain ⟨v, k1, k2⟩ := h2
   exact ⟨v, fun w => by simpa [execOp, resolve, invoke, builtin] using k1 w, k2⟩
  ·rename_i x ty e1 e2
   have ea : args = #[x] := by rw [<- Array.toArray_toList (xs := args), e1]
   have et : argTypes = #[ty] := by rw [<- Array.toArray_toList (xs := argTypes), e2]
   subst ea et
   have h2 := (cap_pures (tt := type) h (hargs x (by simp))).vals
   obtain ⟨v, k1, k2⟩ := h2
   exact ⟨v, fun w => by simpa [execOp, resolve, invoke, builtin] using k1 w, k2⟩
  ·rename_i tys x e1
   have ea : args = #[x] := by rw [<- Array.toArray_toList (xs := args), e1]
   subst ea
   have hx := hargs x (by simp)
   split at h <;> try cases h
   ·rename_i G e off n s ex
    rw [ex] at hx
    cases hb : Nat.ble 1 n with
    | false => rw [hb] at h; cases h
    | true =>
     rw [hb, cond_true] at h
     cases h
     have hn := Nat.le_of_ble_eq_true hb
     generalize hxv : ρ x = xv at hx
     cases hx with
     | sl hq hc hs =>
      rename_i q n0 cap
      have hne : ¬ (cap = 0) := by omega
      refine ⟨.pointer (some ⟨q, off, none⟩), fun w => ?_, .ptr hq⟩
      simp [execOp, resolve, invoke, builtin, hxv, run_sliceData hne]
   ·rename_i ex
    rw [ex] at hx
    generalize hxv : ρ x = xv at hx
    cases hx
    refine ⟨.pointer none, fun w => ?_, .lit _⟩
    simp [execOp, resolve, invoke, builtin, hxv, run_sliceData_nil]
  ·rename_i tys x y e1
   have ea : args = #[x, y] := by rw [<- Array.toArray_toList (xs := args), e1]
   subst ea
   obtain ⟨v, k1, k2⟩ := (flat2_pures h (hargs x (by simp)) (hargs y (by simp))).vals
   exact ⟨v, fun w => by simpa [execOp, resolve, invoke, builtin] using k1 w, k2⟩
  ·rename_i tys x y e1
   have ea : args = #[x, y] := by rw [<- Array.toArray_toList (xs := args), e1]
   subst ea
   obtain ⟨v, k1, k2⟩ := (flat2_pures h (hargs x (by simp)) (hargs y (by simp))).vals
   exact ⟨v, fun w => by simpa [execOp, resolve, invoke, builtin] using k1 w, k2⟩
end
end Go.Proofs.YtnlimlboedohgaaGreatDoor.Ax

/-
  Operations that make a block, and operations that read memory.
-/
namespace Go.Proofs.YtnlimlboedohgaaGreatDoor.Ax
open Go.RowKit
set_option linter.unusedVariables false
set_option linter.unusedSimpArgs false

theorem forceRs_eq {β : Type} : ∀ (l : List RV) (k : List RV -> β), (∀ r ∈ l, ∀ s, r ≠ .lit (.string s)) -> forceRs l k = k l
 | [], k, _ => rfl
 | r :: l, k, h => by
  have ih := fun k' => forceRs_eq (β := β) l k' fun r hr => h r (List.mem_cons_of_mem _ hr)
  cases r with
  | lit v =>
   rw [forceRs, forceV_eq, ih]
   have : ofV v = .lit v := by
    cases v with
    | string s => exact absurd rfl (h _ List.mem_cons_self s)
    | _ => rfl
   rw [this]
  | _ => rw [forceRs, ih]; intro v hv; cases hv
def byteVals (l : List Nat) : List Value := l.map fun n => .int .u8 (Int.ofNat n)
theorem byteVals_RL (g : Gm) (env : Nat -> Value) (l : List Nat) : RL g env (l.map fun n => .lit (.int .u8 (.ofNat n))) (byteVals l) :=
 ⟨by simp [byteVals], fun i h1 h2 => by
  simp only [byteVals, List.getElem_map]
  exact .lit _⟩
theorem ofCodes_cells {l : List Nat} (h : ∀ x ∈ l, x < 256) : ((ofCodes l).data.map fun b => Value.int .u8 b.toNat) = (byteVals l).toArray := by
 unfold ofCodes byteVals
 apply Array.ext'
 simp only [Array.toList_map, List.map_map, Function.comp_def]
 apply List.map_congr_left
 intro x hx
 have := h x hx
 simp only [UInt8.toNat_ofNat', Value.int.injEq, true_and]
 rw [Nat.mod_eq_of_lt (by omega)]
 rfl
theorem map_range0 (f : Nat -> Value) : (Array.range 0).map f = #[] := Array.eq_empty_of_size_eq_zero (by simp)
theorem foldl_size (off : Nat) : ∀ (ys : List (Value × Nat)) (a : Array Value), (ys.foldl (fun cs (c, j) => cs.setIfInBounds (off + j) c) a).size = a.size
 | [], a => rfl
 | y :: ys, a => by rw [List.foldl_cons, foldl_size off ys]; simp
theorem fill_size (place : Nat -> Option (Nat × Nat)) : ∀ (l : List (Nat × Value)) (a b : Array Value), Instr.fill place a l = some b -> b.size = a.size
 | [], a, b, hab => by cases hab; rfl
 | (i, v) :: l, a, b, hab => by
  unfold Instr.fill at hab
  split at hab <;> try cases hab
  split at hab <;> try cases hab
  rw [fill_size place l _ _ hab, <- Array.foldl_toList, foldl_size]
section
variable {P : Program} {c : Cx} {g : Gm} {h : Hp} {nx nx' : Nat} {w w' : World} {t : Tr RV} {ρ : Operand -> Value}
theorem RW.allocG (hw : RW c g h nx w) {G : Nat} {F' : Nat -> Option (Nat -> Option (Nat × Nat))} (hG : ∀ e, g G e = none) (hres : ∀ x f, F' x = some f -> c.F x = some f /\ x ≠ G) (hnx : nx <= nx') (hGn : G < nx') {vs : Array Value} {elem : TypeId} {fz : Nat × Nat} {z : Bool} {cs : List RV}
  (hst : w'.os = w.os /\ w'.tape = w.tape /\ w'.output = w.output /\ w'.heap.size = w.heap.size + 1) (hold : ∀ q, q < w.heap.size -> w'.heap[q]? = w.heap[q]?) (hnew : w'.heap[w.heap.size]? = some (.cells vs elem fz)) (hz : (z = false -> fz = (0, 0)) /\ ∀ j, j < vs.size -> (decide (fz.1 <= j) && decide (j < fz.2)) = false) (hle : cs.length <= vs.size)
  (hr : ∀ j (h1 : j < cs.length) (h2 : j < vs.size), R g c.env cs[j] vs[j]) :
  RW { c with F := F' } (gSet g G 0 (w.heap.size, vs.size)) (h.set G (.cells elem z 1 [(0, cs)])) nx' w' := by
 have hext := gSet_ext (g := g) (e := 0) (x := (w.heap.size, vs.size)) (hG 0)
 refine hw.upd ⟨hst.1, hst.2.1, hst.2.2.1, by omega⟩ (fun q o hq => hold q ?_) (fun G' e' q n hne hl hq => hold q (hw.live_at hl hq).2) hext (fun G' e' hne => gSet_ne hne) hres hnx hGn ?_ ?_
 ·exact (Array.getElem?_eq_some_iff.1 (hw.keep q o hq)).1
 ·refine ⟨fun e he => by rw [gSet_ne' (by omega)]; exact hG e, fun e cs' hm => ?_⟩
  rw [List.mem_singleton] at hm
  cases hm
  refine ⟨w.heap.size, vs.size, gSet_self, ?_, vs, fz, hnew, hz, rfl, hle, fun j h1 h2 => (hr j h1 h2).mono hext⟩
  cases hk : c.K w.heap.size with
  | none => rfl
  | some o => exact absurd (Array.getElem?_eq_some_iff.1 (hw.keep _ o hk)).1 (by omega)
 ·rintro e q n ⟨cs', hm⟩ hq G' e' n' hne hl hq'
  rw [List.mem_singleton] at hm
  cases hm
  rw [gSet_self] at hq
  cases hq
  have := (hw.live_at hl hq').2
  omega
/-- an operation yields a value -/
def DoesN (P : Program) (c c' : Cx) (g : Gm) (m : Sem Next) (w : World) (r : RV) (h' : Hp) (nx' : Nat) : Prop :=
 ∃ g' v w', m.run P w = .ok (.value v) w' /\ R g' c.env r v /\ Ext g g' /\ RW c' g' h' nx' w'
theorem Does.next {c' : Cx} {m : Sem Value} {r : RV} {h' : Hp} (hd : Does P c c' g m w r h' nx') : DoesN P c c' g (do pure (Next.value (<- m))) w r h' nx' := by
 obtain ⟨g', v, w', h1, h2⟩ := hd
 exact ⟨g', v, w', by rw [Sem.run_bind, h1]; rfl, h2⟩
theorem Vals.doesN {m : Sem Next} {r : RV} (h1 : Vals P g c.env m r) (hw : RW c g h nx w) : DoesN P c c g m w r h nx := by
 obtain ⟨v, h1, h2⟩ := h1
 exact ⟨g, v, w, h1 w, h2, Ext.refl g, hw⟩
theorem zeroCs_some {e : TypeId} {n : Nat} {cs : List RV} (hz : zeroCs P e n = some cs) : ∃ i z, P.info? e = some i /\ i.zero = some z /\ n * i.size <= 10000 /\ cs = (rowZeros z.cells (n * i.size)).toList.map ofV := by
 unfold zeroCs at hz
 split at hz <;> try cases hz
 rename_i i hi
 split at hz <;> try cases hz
 rename_i z hzz
 cases hb : Nat.ble (n * i.size) 10000 with
 | false => rw [hb] at hz; cases hz
 | true =>
  rw [hb, cond_true] at hz
  cases hz
  exact ⟨i, z, hi, hzz, Nat.le_of_ble_eq_true hb, rfl⟩
theorem alloc_sound {o : Oper} {r : RV} {ob : OB} {G : Nat} {F' : Nat -> Option (Nat -> Option (Nat × Nat))} (ha : allocR P t G o = some (r, ob)) (hρ : ∀ x ∈ o.op.operands, R g c.env (evalR t x) (ρ x)) (hw : RW c g h nx w) (hG : ∀ e, g G e = none) (hres : ∀ x f, F' x = some f -> c.F x = some f /\ x ≠ G) (hnx : nx <= nx') (hGn : G < nx') :
  DoesN P c { c with F := F' } g (execOp ρ o) w r (h.set G ob) nx' := by
 obtain ⟨dst, op, type, pos, after, guard⟩ := o
 unfold allocR at ha
 simp only at ha hρ
 split at ha <;> try cases ha
 ·split at ha <;> try cases ha
  rename_i l hl
  exact (does_alloc hl hw hG hres hnx hGn).next
 ·split at ha <;> try cases ha
  rename_i l hl
  exact (does_box hl (hρ _ (by simp [Op.operands])) hw hG hres hnx hGn).next
 ·rename_i ty len parts
  split at ha <;> try cases ha
  rename_i e ht
  split at ha <;> try cases ha
  rename_i i cs0 hi hz0
  obtain ⟨i', z, hi', hz, hmax, rfl⟩ := zeroCs_some hz0
  rw [hi] at hi'
  cases hi'
  obtain ⟨cs', arr', h1, e1, e2⟩ := fill_R (ρ := ρ) _ parts.toList _ (rowZeros z.cells (len * i.size)) _ _ (RL.lits _) (fun p hp => hρ p.2 (by simp only [Op.operands, List.mem_toArray, List.mem_map]; exact ⟨p, hp, rfl⟩)) ha
  have hlen : cs'.length = arr'.size := by have := e2.len; simpa using this
  have hrun : ((execOp ρ ⟨dst, .buildSlice ty len parts, type, pos, after, guard⟩).run P w) = .ok (.value (.slice (some ⟨w.heap.size, 0, none⟩) len len)) (w.alloc (.cells arr' e)) := by
   have hparts : (parts.map fun (i, x) => (i, ρ x)).toList = parts.toList.map fun p => (p.1, ρ p.2) := by simp
   unfold rowZeros at e1
   simp only [execOp, Instr.buildSlice, hparts]
   have hm' : ¬ (16777216 < len * i.size) := by omega
   by_cases h0 : len * i.size = 0
   ·have e1' : Instr.fill (fun k => some (k * i.size, i.size)) #[] (parts.toList.map fun p => (p.1, ρ p.2)) = some arr' := by
     rw [h0, map_range0] at e1
     exact e1
    simp only [Nat.mul_eq_zero] at h0
    simp [run_underlying ht, sizeOf, typeInfo, hi, newRow]
    rcases h0 with h0 | h0
    ·simp [h0, e1', map_range0]
    ·simp only [h0, Nat.mul_zero] at e1' |-
     simp [e1', map_range0]
   ·have h0' : ¬ (len = 0 \/ i.size = 0) := fun hh => h0 (Nat.mul_eq_zero.2 hh)
    simp [run_underlying ht, zeroValue, sizeOf, typeInfo, hi, hz, hm', h0', e1, newRow]
    exact fun hh => absurd hh h0
  have hal := hw.alloc (elem := e) hG hres hnx hGn (Nat.le_of_eq hlen) fun j k1 k2 => by
   have := e2.at_ j k1 (by simpa using k2)
   rw [Array.getElem_toList] at this
   exact this
  cases hb : Nat.beq (len * i.size) 0 with
  | true =>
   rw [hb, cond_true] at h1
   cases hb2 : Nat.beq len 0 with
   | false => rw [hb2] at h1; cases h1
   | true =>
    rw [hb2, cond_true] at h1
    cases h1
    have := Nat.eq_of_beq_eq_true hb2
    subst this
    exact ⟨_, _, _, hrun, .s0 gSet_self, gSet_ext (hG 0), hal⟩
  | false =>
   rw [hb, cond_false] at h1
   cases h1
   have harr : arr'.size = len * i.size := by
    rw [fill_size _ _ _ _ e1]
    simp [rowZeros]
   refine ⟨_, _, _, hrun, .sl (n := arr'.size) gSet_self (Nat.le_refl _) (by omega), gSet_ext (hG 0), hal⟩
 ·rename_i ty l cx
  split at ha <;> try cases ha
  rename_i e kl n kc m ht el ec
  split at ha <;> try cases ha
  rename_i i cs0 hi hz0
  obtain ⟨i', z, hi', hz, hmax, rfl⟩ := zeroCs_some hz0
  rw [hi] at hi'
  cases hi'
  have hl := hρ l (by simp [Op.operands])
  have hc := hρ cx (by simp [Op.operands])
  rw [el] at hl
  rw [ec] at hc
  cases hb : Nat.ble n m && Nat.ble 1 i.size && Nat.ble (m * i.bytes) 1000000 && Nat.ble m 1000000 with
  | false => rw [hb] at ha; cases ha
  | true =>
   rw [hb, cond_true] at ha
   rw [Bool.and_eq_true, Bool.and_eq_true, Bool.and_eq_true] at hb
   have b1 := Nat.le_of_ble_eq_true hb.1.1.1
   have b2 := Nat.le_of_ble_eq_true hb.1.1.2
   have b3 := Nat.le_of_ble_eq_true hb.1.2
   have b4 := Nat.le_of_ble_eq_true hb.2
   generalize hlv : ρ l = lv at hl
   generalize hcv : ρ cx = cv at hc
   cases hl
   cases hc
   have hrun : ((execOp ρ ⟨dst, .makeSlice ty l cx, type, pos, after, guard⟩).run P w) = .ok (.value (.slice (some ⟨w.heap.size, 0, none⟩) n m)) (w.alloc (.cells (rowZeros z.cells (m * i.size)) e)) := by
    have w1 : IntKind.i64.wrap (Int.ofNat n) = n := by rw [IntKind.wrap_i64]; simp; omega
    have w2 : IntKind.i64.wrap (Int.ofNat m) = m := by rw [IntKind.wrap_i64]; simp; omega
    have c1 : ¬ ((m : Int) < 0) := by omega
    have c2 : ¬ ((2 : Int) ^ 48 < (i.bytes : Int) * (m : Int)) := by
     have : (i.bytes : Int) * (m : Int) = ((m * i.bytes : Nat) : Int) := by rw [Nat.mul_comm]; simp
     rw [this]
     omega
    have c3 : ¬ ((n : Int) < 0) := by omega
    have c4 : ¬ ((m : Int) < (n : Int)) := by omega
    have c5 : ¬ (m * i.bytes > roomBytes) := by
     have : roomBytes = 140737488355328 := rfl
     omega
    simp only [execOp, Instr.makeSlice, hlv, hcv]
    by_cases h0 : m * i.size = 0
    ·have hm0 : m = 0 := by
      rcases Nat.mul_eq_zero.1 h0 with h0 | h0
      ·exact h0
      ·omega
     subst hm0
     have hn0 : n = 0 := by omega
     subst hn0
     simp [run_underlying ht, typeInfo, sizeOf, hi, asInt, asIntOf, w1, w2, newRow, askRoom, rowZeros, IntKind.wrap_i64, map_range0]
    ·have h0' : ¬ (m = 0 \/ i.size = 0) := fun hh => h0 (Nat.mul_eq_zero.2 hh)
     simp only [Int.ofNat_eq_natCast] at w1 w2 |-
     have c2' : ¬ ((281474976710656 : Int) < (i.bytes : Int) * (m : Int)) := c2
     simp [run_underlying ht, typeInfo, sizeOf, hi, hz, zeroValue, asInt, asIntOf, w1, w2, c1, c2', c3, c4, h0', newRow, askRoom, c5, rowZeros]
     exact fun hh => absurd hh h0
   have hsz : (rowZeros z.cells (m * i.size)).size = m * i.size := by simp [rowZeros]
   have hal := hw.alloc (elem := e) (vs := rowZeros z.cells (m * i.size)) (cs := (rowZeros z.cells (m * i.size)).toList.map ofV) hG hres hnx hGn (by simp) fun j k1 k2 => by simpa using ofV_R g c.env _
   cases hb0 : Nat.beq m 0 with
   | true =>
    rw [hb0, cond_true] at ha
    cases ha
    have := Nat.eq_of_beq_eq_true hb0
    subst this
    have hn0 : n = 0 := by omega
    subst hn0
    exact ⟨_, _, _, hrun, .s0 gSet_self, gSet_ext (hG 0), hal⟩
   | false =>
    rw [hb0, cond_false] at ha
    cases ha
    exact ⟨_, _, _, hrun, .sl gSet_self b1 (by omega), gSet_ext (hG 0), hal⟩
 ·rename_i src dst' x
  split at ha <;> try cases ha
  rename_i e l hs hd ex
  split at ha <;> try cases ha
  rename_i hu8
  rw [forceRs_eq _ _ (fun r hr s => by
   obtain ⟨n, _, rfl⟩ := List.mem_map.1 hr
   simp), forceN_eq] at ha
  cases ha
  have hx := hρ x (by simp [Op.operands])
  rw [ex] at hx
  generalize hxv : ρ x = xv at hx
  cases hx with
  | str hl =>
   let cap := grownCap w l.length 0 e
   have hcap : l.length <= cap := grownCap_ge w l.length 0 e
   let arr := (byteVals l).toArray ++ Array.replicate (cap - l.length) (Value.int .u8 0)
   have hasz : arr.size = cap := by
    simp [arr, byteVals]
    omega
   have hrun : ((execOp ρ ⟨dst, .convert src dst' x, type, pos, after, guard⟩).run P w) = .ok (.value (.slice (some ⟨w.heap.size, 0, none⟩) l.length cap)) ((w.drew.alloc (.cells arr e)).freeze ⟨w.heap.size, arr.size, none⟩ 1) := by
    have hc := ofCodes_cells hl
    simp only [execOp, hxv]
    simp [convert, run_underlying hs, run_underlying hd, run_underlying hu8, Conv.stringToBytes, Question.forced, newRow, markStringish, hc, size_ofCodes]
    have hsh : (w.drew.alloc (.cells arr e)).shape? w.heap.size = some (e, arr.size) := by
     have h1 : (w.drew.alloc (.cells arr e)).heap[w.heap.size]? = some (.cells arr e (0, 0)) := heap_alloc_new w.drew _
     unfold World.shape?
     rw [h1]
    change (((Sem.run P (match (w.drew.alloc (.cells arr e)).shape? w.heap.size with
     | some (fst, n) => freeze { block := w.heap.size, off := n } 1
     | x => pure ()) (w.drew.alloc (.cells arr e))).andThen _).andThen _) = _
    rw [hsh]
    rfl
   have hnewo : ((w.drew.alloc (.cells arr e)).freeze ⟨w.heap.size, arr.size, none⟩ 1).heap[w.heap.size]? = some (.cells arr e (arr.size, arr.size + 1)) := by
    have h1 : (w.drew.alloc (.cells arr e)).heap[w.heap.size]? = some (.cells arr e (0, 0)) := heap_alloc_new w.drew _
    unfold World.freeze
    rw [if_neg (by simp)]
    show ((w.drew.alloc (.cells arr e)).heap.modify w.heap.size _)[w.heap.size]? = _
    rw [Array.getElem?_modify, if_pos rfl, h1]
    rfl
   have hold : ∀ q, q < w.heap.size -> ((w.drew.alloc (.cells arr e)).freeze ⟨w.heap.size, arr.size, none⟩ 1).heap[q]? = w.heap[q]? := fun q hq => by
    have h1 : (w.drew.alloc (.cells arr e)).heap[q]? = w.heap[q]? := Below.heap_alloc w.drew _ q hq
    have hne : ¬ (w.heap.size = q) := by omega
    simp [World.freeze, Array.getElem?_modify, hne, h1]
   have hal := hw.allocG (w' := (w.drew.alloc (.cells arr e)).freeze ⟨w.heap.size, arr.size, none⟩ 1) (z := true) (cs := l.map fun n => .lit (.int .u8 (.ofNat n))) hG hres hnx hGn ⟨rfl, rfl, rfl, by simp [World.freeze]⟩ hold hnewo ⟨fun hh => by (cases hh), fun j hj => by simp; omega⟩ (by simp; omega) fun j k1 k2 => by
    have hjl : j < l.length := by simpa using k1
    have e1 : arr[j] = (byteVals l)[j]'(by simpa [byteVals] using hjl) := by
     simp [arr, Array.getElem_append, byteVals, hjl]
    rw [e1]
    exact (byteVals_RL g c.env l).at_ j k1 _
   refine ⟨_, _, _, hrun, .sl (n := arr.size) gSet_self hcap (by omega), gSet_ext (hG 0), hal⟩
end
end Go.Proofs.YtnlimlboedohgaaGreatDoor.Ax

