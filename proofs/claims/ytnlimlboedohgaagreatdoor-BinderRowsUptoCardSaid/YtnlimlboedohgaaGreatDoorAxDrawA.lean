/-
  Regions whose order is drawn: who waits for whom; parts of the memory set aside.
-/
import Derived.Test.YtnlimlboedohgaaGreatDoorAxDraw
namespace Go.Proofs.YtnlimlboedohgaaGreatDoor.Ax
open Go.RowKit
set_option linter.unusedVariables false
set_option linter.unusedSimpArgs false

theorem maskOf_spec {mk : Tr Nat} {i : Nat} : ∀ {es : List Edge} {m m' : Nat}, maskOf mk i es m = some m' -> (∀ a, m'.testBit a = true ↔ m.testBit a = true \/ ∃ e ∈ es, Region.binds .any e = true /\ (e.on = a \/ ((mk.get e.on).getD 0).testBit a = true)) /\ ∀ e ∈ es, Region.binds .any e = true -> e.on < i
 | [], m, m', h => by
  cases h
  exact ⟨fun a => by simp, fun e he => by cases he⟩
 | e :: es, m, m', h => by
  unfold maskOf at h
  cases hb : Region.binds .any e with
  | false =>
   rw [hb, cond_false] at h
   obtain ⟨h1, h2⟩ := maskOf_spec h
   refine ⟨fun a => ?_, fun e' he' hb' => ?_⟩
   ·rw [h1 a]
    constructor
    ·rintro (h | ⟨e', h3, h4⟩)
     ·exact .inl h
     ·exact .inr ⟨e', List.mem_cons_of_mem _ h3, h4⟩
    ·rintro (h | ⟨e', h3, h4⟩)
     ·exact .inl h
     ·rcases List.mem_cons.1 h3 with rfl | h3
      ·rw [hb] at h4
       cases h4.1
      ·exact .inr ⟨e', h3, h4⟩
   ·rcases List.mem_cons.1 he' with rfl | he'
    ·rw [hb] at hb'
     cases hb'
    ·exact h2 e' he' hb'
  | true =>
   rw [hb, cond_true] at h
   cases hl : Nat.ble (e.on + 1) i with
   | false => rw [hl] at h; cases h
   | true =>
    rw [hl, cond_true] at h
    obtain ⟨h1, h2⟩ := maskOf_spec h
    have hlt := Nat.le_of_ble_eq_true hl
    refine ⟨fun a => ?_, fun e' he' hb' => ?_⟩
    ·rw [h1 a, Nat.testBit_or, Nat.testBit_or, Nat.testBit_two_pow]
     simp only [Bool.or_eq_true, decide_eq_true_eq]
     constructor
     ·rintro (((h | h) | h) | ⟨e', h3, h4⟩)
      ·exact .inl h
      ·exact .inr ⟨e, List.mem_cons_self, hb, .inl h⟩
      ·exact .inr ⟨e, List.mem_cons_self, hb, .inr h⟩
      ·exact .inr ⟨e', List.mem_cons_of_mem _ h3, h4⟩
     ·rintro (h | ⟨e', h3, h4⟩)
      ·exact .inl (.inl (.inl h))
      ·rcases List.mem_cons.1 h3 with rfl | h3
       ·rcases h4.2 with h5 | h5
        ·exact .inl (.inl (.inr h5))
        ·exact .inl (.inr h5)
       ·exact .inr ⟨e', h3, h4⟩
    ·rcases List.mem_cons.1 he' with rfl | he'
     ·exact hlt
     ·exact h2 e' he' hb'
theorem masksGo_spec : ∀ {l : List Oper} {i : Nat} {mk mk' : Tr Nat}, masksGo l i mk = some mk' -> (∀ j, j < i -> mk'.get j = mk.get j) /\ ∀ k o, l[k]? = some o -> ∃ m, mk'.get (i + k) = some m /\ (∀ a, m.testBit a = true ↔ ∃ e ∈ o.after.toList, Region.binds .any e = true /\ (e.on = a \/ ((mk'.get e.on).getD 0).testBit a = true)) /\ ∀ e ∈ o.after.toList, Region.binds .any e = true -> e.on < i + k
 | [], i, mk, mk', h => by
  cases h
  exact ⟨fun j _ => rfl, fun k o hk => by cases hk⟩
 | o :: l, i, mk, mk', h => by
  unfold masksGo at h
  split at h <;> try cases h
  rename_i m hm
  obtain ⟨h1, h2⟩ := masksGo_spec h
  obtain ⟨h3, h4⟩ := maskOf_spec hm
  have hlow : ∀ j, j < i -> mk'.get j = mk.get j := fun j hj => by
   rw [h1 j (by omega), Tr.get_set, if_neg (by omega)]
  refine ⟨hlow, fun k o' hk => ?_⟩
  rcases k with _ | k
  ·cases hk
   refine ⟨m, ?_, fun a => ?_, h4⟩
   ·rw [Nat.add_zero, h1 i (by omega), Tr.get_set, if_pos rfl]
   ·rw [h3 a]
    simp only [Nat.zero_testBit, Bool.false_eq_true, false_or]
    constructor
    ·rintro ⟨e, e1, e2, e3⟩
     exact ⟨e, e1, e2, by rw [hlow e.on (h4 e e1 e2)]; exact e3⟩
    ·rintro ⟨e, e1, e2, e3⟩
     exact ⟨e, e1, e2, by rw [<- hlow e.on (h4 e e1 e2)]; exact e3⟩
  ·have := h2 k o' (by simpa using hk)
   rw [show i + (k + 1) = i + 1 + k by omega]
   exact this
/-- what is known of the masks -/
structure Masks (ops : Array Oper) (M : Nat -> Nat) : Prop where
 lt : ∀ j o, ops[j]? = some o -> ∀ e ∈ o.after, Region.binds .any e = true -> e.on < j
 iff : ∀ j o, ops[j]? = some o -> ∀ a, (M j).testBit a = true ↔ ∃ e ∈ o.after, Region.binds .any e = true /\ (e.on = a \/ (M e.on).testBit a = true)
 apart : ∀ i j p o, i < j -> ops[i]? = some p -> ops[j]? = some o -> (M j).testBit i = true \/ p.apart ops o = true
theorem apartRow_spec {ops : Array Oper} {m : Nat} {o : Oper} : ∀ {l : List Oper} {i : Nat}, apartRow ops m o l i = true -> ∀ k p, l[k]? = some p -> m.testBit (i + k) = true \/ p.apart ops o = true
 | [], i, h, k, p, hk => by cases hk
 | q :: l, i, h, k, p, hk => by
  unfold apartRow at h
  rw [Bool.and_eq_true, Bool.or_eq_true] at h
  rcases k with _ | k
  ·cases hk
   exact h.1
  ·have := apartRow_spec h.2 k p (by simpa using hk)
   rw [show i + (k + 1) = i + 1 + k by omega]
   exact this
theorem apartAll_spec {ops : Array Oper} {mk : Tr Nat} : ∀ {l : List Oper} {j : Nat}, apartAll ops mk l j = true -> ∀ k o, l[k]? = some o -> ∀ i p, i < j + k -> ops[i]? = some p -> ((mk.get (j + k)).getD 0).testBit i = true \/ p.apart ops o = true
 | [], j, h, k, o, hk => by cases hk
 | q :: l, j, h, k, o, hk => by
  unfold apartAll at h
  rw [Bool.and_eq_true] at h
  rcases k with _ | k
  ·cases hk
   intro i p hi hp
   have := apartRow_spec h.1 i p (by
    rw [List.getElem?_take, if_pos (by omega)]
    rw [Array.getElem?_toList]
    exact hp)
   rw [Nat.zero_add] at this
   exact this
  ·intro i p hi hp
   have := apartAll_spec h.2 k o (by simpa using hk) i p (by omega) hp
   rw [show j + (k + 1) = j + 1 + k by omega]
   exact this
theorem stat_spec {P : Program} {ops : Array Oper} {mk : Tr Nat} (h : statOf P ops = some mk) : Masks ops (fun j => (mk.get j).getD 0) /\ P.follows .mixedOrders = true := by
 unfold statOf at h
 split at h <;> try cases h
 rename_i mk' hm
 split at h <;> cases h
 rename_i hc
 rw [Bool.and_eq_true] at hc
 obtain ⟨_, h2⟩ := masksGo_spec hm
 refine ⟨⟨fun j o hj e he hb => ?_, fun j o hj a => ?_, fun i j p o hij hp ho => ?_⟩, hc.2⟩
 ·obtain ⟨m, _, _, h5⟩ := h2 j o (by rw [Array.getElem?_toList]; exact hj)
  have := h5 e (by simpa using he) hb
  omega
 ·obtain ⟨m, h3, h4, _⟩ := h2 j o (by rw [Array.getElem?_toList]; exact hj)
  rw [Nat.zero_add] at h3
  show ((mk.get j).getD 0).testBit a = true ↔ _
  rw [h3]
  simp only [Option.getD_some]
  rw [h4 a]
  constructor
  ·rintro ⟨e, e1, e2⟩
   exact ⟨e, by simpa using e1, e2⟩
  ·rintro ⟨e, e1, e2⟩
   exact ⟨e, by simpa using e1, e2⟩
 ·have := apartAll_spec hc.1 j o (by rw [Array.getElem?_toList]; exact ho) i p (by omega) hp
  rw [Nat.zero_add] at this
  exact this
section
variable {ops : Array Oper} {M : Nat -> Nat}
/-- nothing is there for which anything waits that is not there -/
def Down (ops : Array Oper) (L : Nat -> Bool) : Prop := ∀ j o, ops[j]? = some o -> L j = true -> ∀ e ∈ o.after, Region.binds .any e = true -> L e.on = true
theorem Masks.lt' (hM : Masks ops M) : ∀ (j : Nat) (o : Oper), ops[j]? = some o -> ∀ a, (M j).testBit a = true -> a < j := by
 intro j
 induction j using Nat.strongRecOn with
 | _ j ih =>
  intro o ho a ha
  obtain ⟨e, e1, e2, e3⟩ := (hM.iff j o ho a).1 ha
  have hlt := hM.lt j o ho e e1 e2
  rcases e3 with rfl | e3
  ·exact hlt
  ·have hjn := (Array.getElem?_eq_some_iff.1 ho).1
   have := ih e.on hlt _ (Array.getElem?_eq_getElem (by omega)) a e3
   omega
theorem Masks.down (hM : Masks ops M) {L : Nat -> Bool} (hL : Down ops L) : ∀ (j : Nat) (o : Oper), ops[j]? = some o -> L j = true -> ∀ a, (M j).testBit a = true -> L a = true := by
 intro j
 induction j using Nat.strongRecOn with
 | _ j ih =>
  intro o ho hj a ha
  obtain ⟨e, e1, e2, e3⟩ := (hM.iff j o ho a).1 ha
  have hlt := hM.lt j o ho e e1 e2
  have he := hL j o ho hj e e1 e2
  rcases e3 with rfl | e3
  ·exact he
  ·have hjn := (Array.getElem?_eq_some_iff.1 ho).1
   exact ih e.on hlt _ (Array.getElem?_eq_getElem (by omega)) he a e3
theorem Masks.down' (hM : Masks ops M) {L : Nat -> Bool} (hL : Down ops L) {j : Nat} {o : Oper} (ho : ops[j]? = some o) (he : ∀ e ∈ o.after, Region.binds .any e = true -> L e.on = true) {a : Nat} (ha : (M j).testBit a = true) : L a = true := by
 obtain ⟨e, e1, e2, e3⟩ := (hM.iff j o ho a).1 ha
 have hlt := hM.lt j o ho e e1 e2
 rcases e3 with rfl | e3
 ·exact he e e1 e2
 ·have hjn := (Array.getElem?_eq_some_iff.1 ho).1
  exact hM.down hL e.on _ (Array.getElem?_eq_getElem (by omega)) (he e e1 e2) a e3
theorem Masks.trans (hM : Masks ops M) : ∀ (j : Nat) (o : Oper), ops[j]? = some o -> ∀ b a, (M j).testBit b = true -> (M b).testBit a = true -> (M j).testBit a = true := by
 intro j
 induction j using Nat.strongRecOn with
 | _ j ih =>
  intro o ho b a hb ha
  obtain ⟨e, e1, e2, e3⟩ := (hM.iff j o ho b).1 hb
  have hlt := hM.lt j o ho e e1 e2
  refine (hM.iff j o ho a).2 ⟨e, e1, e2, .inr ?_⟩
  rcases e3 with rfl | e3
  ·exact ha
  ·have hjn := (Array.getElem?_eq_some_iff.1 ho).1
   exact ih e.on hlt _ (Array.getElem?_eq_getElem (by omega)) b a e3 ha
end
/-! ### parts of the memory set aside -/
section
variable {c : Cx} {g g' : Gm} {h h' : Hp} {nx nx' : Nat} {w w' : World}
theorem RW.congr (hw : RW c g h nx w) (hh : ∀ G, h'.get G = h.get G) : RW c g h' nx w := by
 have hl : ∀ G e, Live h' G e -> Live h G e := fun G e ⟨ob, h1, h2⟩ => ⟨ob, by rw [<- hh]; exact h1, h2⟩
 exact ⟨hw.os, hw.tape, hw.output, hw.size, hw.keep, hw.free, fun G hG => by rw [hh]; exact hw.dom G hG, fun G f hf => by
  obtain ⟨h1, h2, h3⟩ := hw.res G f hf
  exact ⟨h1, by rw [hh]; exact h2, h3⟩, fun G ob hg => hw.ok G ob (by rw [<- hh]; exact hg), fun G G' e e' q n n' h1 h2 => hw.sep G G' e e' q n n' (hl _ _ h1) (hl _ _ h2)⟩
theorem OK.ctx {c c' : Cx} (he : c'.env = c.env) {G : Nat} {ob : OB} (ho : OK c g w G ob) (hk : ∀ e q n, LiveOb ob e -> g G e = some (q, n) -> c.K q = none -> c'.K q = none) : OK c' g w G ob := by
 cases ob with
 | cells elem z nxe mem =>
  refine ⟨ho.1, fun e cs hm => ?_⟩
  obtain ⟨q, n, h1, h2, h3⟩ := ho.2 e cs hm
  exact ⟨q, n, h1, hk e q n ⟨cs, hm⟩ h1 h2, by rw [he]; exact h3⟩
 | mp es ck =>
  obtain ⟨h0, q, arr, h1, h2, h3, h4, h5⟩ := ho
  exact ⟨h0, q, arr, h1, hk 0 q 0 rfl h1 h2, h3, h4, by rw [he]; exact h5⟩
 | si s rest pos =>
  obtain ⟨h0, hs, hr, q, h1, h2, h3⟩ := ho
  exact ⟨h0, hs, hr, q, h1, hk 0 q 0 rfl h1 h2, h3⟩
 | ot b =>
  obtain ⟨h0, q, o, h1, h2, h3, h4⟩ := ho
  exact ⟨h0, q, o, h1, hk 0 q 0 rfl h1 h2, h3, by rw [he]; exact h4⟩
theorem RW.lessF (hw : RW c g h nx w) {F' : Nat -> Option (Nat -> Option (Nat × Nat))} (hF : ∀ x f, F' x = some f -> c.F x = some f) : RW { c with F := F' } g h nx w :=
 ⟨hw.os, hw.tape, hw.output, hw.size, hw.keep, hw.free, hw.dom, fun G f hf => hw.res G f (hF G f hf), fun G ob hg => (hw.ok G ob hg).ctx rfl fun _ _ _ _ _ hk => hk, hw.sep⟩
open Classical in
/-- groups are set aside, and what runs without them leaves them ags they are -/
theorem RW.aside (hw : RW c g h nx w) (z : Nat -> Bool) {h2 : Hp} (hh2 : ∀ G, h2.get G = if z G = true then none else h.get G) (hz : ∀ G, z G = true -> h.get G ≠ none) (hznx : ∀ G, z G = true -> G < nx) :
  ∃ c2 : Cx, c2.env = c.env /\ RW c2 g h2 nx w /\ (∀ G, z G = true -> c2.F G = some (g G)) /\ (∀ G, z G = false -> c2.F G = c.F G) /\ ∀ g' h' nx' w', Ext g g' -> RW c2 g' h' nx' w' -> ∀ h3 : Hp, (∀ G, h3.get G = if z G = true then h.get G else h'.get G) -> RW c g' h3 nx' w' := by
 let B : Nat -> Prop := fun q => ∃ G e n, z G = true /\ Live h G e /\ g G e = some (q, n)
 have htab : ∀ b l, tabC b = some l -> ∃ t f, (if B b then w.heap[b]? else c.K b) = some (Obj.cells l.toArray t f) := fun b l hb => by
  obtain ⟨t, f, h1⟩ := c.tab b l hb
  refine ⟨t, f, ?_⟩
  by_cases hBb : B b
  ·rw [if_pos hBb]
   exact hw.keep b _ h1
  ·rw [if_neg hBb]
   exact h1
 have hkk : ∀ q o, c.K q = some o -> (if B q then w.heap[q]? else c.K q) = some o := fun q o hq => by
  by_cases hBq : B q
  ·rw [if_pos hBq]
   exact hw.keep q o hq
  ·rw [if_neg hBq]
   exact hq
 let c2 : Cx := { w0 := c.w0, K := fun q => if B q then w.heap[q]? else c.K q, F := fun G => if z G = true then some (g G) else c.F G, env := c.env, tab := htab, envp := envP_mono hkk c.envp }
 have hB : ∀ q, B q -> c.K q = none /\ q < w.heap.size := fun q ⟨G, e, n, _, h1, h2⟩ => hw.live_at h1 h2
 have hlive2 : ∀ G e, Live h2 G e -> z G = false /\ Live h G e := fun G e ⟨ob, h1, h3⟩ => by
  rw [hh2] at h1
  cases hzG : z G with
  | true => rw [hzG] at h1; cases h1
  | false => rw [hzG] at h1; exact ⟨rfl, ob, h1, h3⟩
 have hnB : ∀ G e q n, z G = false -> Live h G e -> g G e = some (q, n) -> ¬ B q := fun G e q n hzG hl hq ⟨G', e', n', h1, h2, h3⟩ => by
  have := hw.sep _ _ _ _ _ _ _ hl h2 hq h3
  subst this
  rw [hzG] at h1
  cases h1
 refine ⟨c2, rfl, ⟨hw.os, hw.tape, hw.output, hw.size, fun q o hq => ?_, hw.free, fun G hG => by rw [hh2]; split; rfl; exact hw.dom G hG, fun x f hf => ?_, fun G ob hg => ?_, fun A A' e e' q n n' h1 h3 => hw.sep A A' e e' q n n' (hlive2 _ _ h1).2 (hlive2 _ _ h3).2⟩, fun G hG => if_pos hG, fun G hG => if_neg (by rw [hG]; simp), ?_⟩
 ·by_cases hq' : B q
  ·have : (if B q then w.heap[q]? else c.K q) = some o := hq
   rw [if_pos hq'] at this
   exact this
  ·have : (if B q then w.heap[q]? else c.K q) = some o := hq
   rw [if_neg hq'] at this
   exact hw.keep q o this
 ·have hf' : (if z x = true then some (g x) else c.F x) = some f := hf
  cases hzx : z x with
  | true =>
   rw [if_pos hzx] at hf'
   cases hf'
   exact ⟨hznx x hzx, by rw [hh2, if_pos hzx], fun e => rfl⟩
  | false =>
   rw [if_neg (by rw [hzx]; simp)] at hf'
   obtain ⟨h1, h3, h4⟩ := hw.res x f hf'
   exact ⟨h1, by rw [hh2, if_neg (by rw [hzx]; simp)]; exact h3, h4⟩
 ·have hl : z G = false /\ h.get G = some ob := by
   rw [hh2] at hg
   cases hzG : z G with
   | true => rw [hzG] at hg; cases hg
   | false => rw [hzG] at hg; exact ⟨rfl, hg⟩
  exact (hw.ok G ob hl.2).ctx (c := c) (c' := c2) rfl fun e q n he hq hk => by
   show (if B q then w.heap[q]? else c.K q) = none
   rw [if_neg (hnB G e q n hl.1 ⟨ob, hl.2, he⟩ hq)]
   exact hk
 ·intro g' h' nx' w' hext hw' h3 hh3
  have hres : ∀ G, z G = true -> h'.get G = none /\ ∀ e, g' G e = g G e := fun G hG => (hw'.res G (g G) (if_pos hG)).2
  have hblk : ∀ q, B q -> w'.heap[q]? = w.heap[q]? := fun q hq => by
   have hlt := (hB q hq).2
   have : c2.K q = some w.heap[q] := by
    show (if B q then w.heap[q]? else c.K q) = _
    rw [if_pos hq, Array.getElem?_eq_getElem hlt]
   rw [hw'.keep q _ this, Array.getElem?_eq_getElem hlt]
  have hlive3 : ∀ G e, Live h3 G e -> (z G = true /\ Live h G e) \/ (z G = false /\ Live h' G e) := fun G e ⟨ob, h1, h4⟩ => by
   rw [hh3] at h1
   cases hzG : z G with
   | true => rw [if_pos hzG] at h1; exact .inl ⟨rfl, ob, h1, h4⟩
   | false => rw [if_neg (by rw [hzG]; simp)] at h1; exact .inr ⟨rfl, ob, h1, h4⟩
  have hnK : ∀ G e q n, Live h' G e -> g' G e = some (q, n) -> ¬ B q := fun G e q n hl hq hb => by
   have hlt := (hB q hb).2
   have h1 := (hw'.live_at hl hq).1
   have h4 : c2.K q = some w.heap[q] := by
    show (if B q then w.heap[q]? else c.K q) = _
    rw [if_pos hb, Array.getElem?_eq_getElem hlt]
   rw [h4] at h1
   cases h1
  refine ⟨hw'.os, hw'.tape, hw'.output, hw'.size, fun q o hq => ?_, hw'.free, fun G hG => ?_, fun x f hf => ?_, fun G ob hg => ?_, ?_⟩
  ·refine hw'.keep q o ?_
   show (if B q then w.heap[q]? else c.K q) = some o
   rw [if_neg (fun hb => by rw [(hB q hb).1] at hq; cases hq)]
   exact hq
  ·rw [hh3]
   cases hzG : z G with
   | true =>
    have := (hw'.res G (g G) (if_pos hzG)).1
    omega
   | false =>
    rw [if_neg (by simp)]
    exact hw'.dom G hG
  ·have hzx : z x = false := by
    cases hzx : z x with
    | false => rfl
    | true => exact absurd (hw.res x f hf).2.1 (hz x hzx)
   have hf2 : c2.F x = some f := by
    show (if z x = true then some (g x) else c.F x) = some f
    rw [if_neg (by rw [hzx]; simp)]
    exact hf
   obtain ⟨h1, h4, h5⟩ := hw'.res x f hf2
   exact ⟨h1, by rw [hh3, if_neg (by rw [hzx]; simp)]; exact h4, h5⟩
  ·rw [hh3] at hg
   cases hzG : z G with
   | true =>
    rw [if_pos hzG] at hg
    exact (hw.ok G ob hg).mono hext (fun e => (hres G hzG).2 e) fun e q n he hq => hblk q ⟨G, e, n, hzG, ⟨ob, hg, he⟩, hq⟩
   | false =>
    rw [if_neg (by rw [hzG]; simp)] at hg
    refine (hw'.ok G ob hg).ctx (c := c2) (c' := c) rfl fun e q n he hq hk => ?_
    have : (if B q then w.heap[q]? else c.K q) = none := hk
    rw [if_neg (hnK G e q n ⟨ob, hg, he⟩ hq)] at this
    exact this
  ·intro A A' e e' q n n' h1 h4 k1 k2
   rcases hlive3 A e h1 with ⟨z1, l1⟩ | ⟨z1, l1⟩ <;> rcases hlive3 A' e' h4 with ⟨z2, l2⟩ | ⟨z2, l2⟩
   ·rw [(hres A z1).2] at k1
    rw [(hres A' z2).2] at k2
    exact hw.sep A A' e e' q n n' l1 l2 k1 k2
   ·rw [(hres A z1).2] at k1
    exact absurd ⟨A, e, n, z1, l1, k1⟩ (hnK A' e' q n' l2 k2)
   ·rw [(hres A' z2).2] at k2
    exact absurd ⟨A', e', n', z2, l2, k2⟩ (hnK A e q n l1 k1)
   ·exact hw'.sep A A' e e' q n n' l1 l2 k1 k2
end
end Go.Proofs.YtnlimlboedohgaaGreatDoor.Ax
