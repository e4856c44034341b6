/-
  What single operations do to relative values: addresses, loads, new blocks, stores.
-/
import Derived.Test.YthkhdbfohaaojaaGreatDoorAxHeap
namespace Go.Proofs.YthkhdbfohaaojaaGreatDoor.Ax
open Go.RowKit
set_option linter.unusedVariables false
set_option linter.unusedSimpArgs false

/-! ### Strict lists and numbers -/
def forceN {β : Type} : Nat → (Nat → β) → β
  | 0, k => k 0
  | n + 1, k => k (Nat.succ n)
theorem forceN_eq {β : Type} (n : Nat) (k : Nat → β) : forceN n k = k n := by cases n <;> rfl
def forceI {β : Type} : Int → (Int → β) → β
  | .ofNat n, k => forceN n fun n => k (.ofNat n)
  | .negSucc n, k => forceN n fun n => k (.negSucc n)
theorem forceI_eq {β : Type} (n : Int) (k : Int → β) : forceI n k = k n := by cases n <;> simp [forceI, forceN_eq]
def forceK {β : Type} : IntKind → (IntKind → β) → β
  | .i8, k => k .i8 | .i16, k => k .i16 | .i32, k => k .i32 | .i64, k => k .i64
  | .u8, k => k .u8 | .u16, k => k .u16 | .u32, k => k .u32 | .u64, k => k .u64
theorem forceK_eq {β : Type} (n : IntKind) (k : IntKind → β) : forceK n k = k n := by cases n <;> rfl
def forceL {β : Type} : List Nat → (List Nat → β) → β
  | [], k => k []
  | x :: l, k => forceN x fun x => forceL l fun l => k (x :: l)
theorem forceL_eq {β : Type} : ∀ (l : List Nat) (k : List Nat → β), forceL l k = k l
  | [], k => rfl
  | x :: l, k => by rw [forceL, forceN_eq, forceL_eq l]
def forceV {β : Type} : Value → (RV → β) → β
  | .bool true, k => k (.lit (.bool true))
  | .bool false, k => k (.lit (.bool false))
  | .int d n, k => forceK d fun d => forceI n fun n => k (.lit (.int d n))
  | .string s, k => forceL (codes s) fun l => k (.str l)
  | v, k => k (.lit v)
theorem forceV_eq {β : Type} (v : Value) (k : RV → β) : forceV v k = k (ofV v) := by
  cases v with
  | bool b => cases b <;> rfl
  | int d n => simp [forceV, ofV, forceK_eq, forceI_eq]
  | string s => simp [forceV, ofV, forceL_eq]
  | _ => rfl
/-- the first n of a list, if there are so many -/
def takeO {β : Type} : Nat → List RV → (List RV → Option β) → Option β
  | 0, _, k => k []
  | n + 1, x :: l, k => takeO n l fun r => k (x :: r)
  | _ + 1, [], _ => none
theorem takeO_some {β : Type} : ∀ {n : Nat} {l : List RV} {k : List RV → Option β} {y : β}, takeO n l k = some y → n ≤ l.length ∧ k (l.take n) = some y
  | 0, l, k, y, h => ⟨Nat.zero_le _, h⟩
  | n + 1, [], k, y, h => by cases h
  | n + 1, x :: l, k, y, h => by
    obtain ⟨h1, h2⟩ := takeO_some (n := n) (l := l) h
    exact ⟨Nat.succ_le_succ h1, h2⟩
def dropR : List RV → Nat → List RV
  | l, 0 => l
  | [], _ + 1 => []
  | _ :: l, n + 1 => dropR l n
theorem dropR_eq : ∀ (l : List RV) (n : Nat), dropR l n = l.drop n
  | l, 0 => by simp [dropR]
  | [], n + 1 => rfl
  | x :: l, n + 1 => by rw [dropR, dropR_eq l n]; rfl
/-- cells are written over, if there are so many -/
def over0 {β : Type} : List RV → List RV → (List RV → Option β) → Option β
  | cs, [], k => k cs
  | _ :: cs, x :: l, k => over0 cs l fun r => k (x :: r)
  | [], _ :: _, _ => none
def overO {β : Type} : List RV → Nat → List RV → (List RV → Option β) → Option β
  | cs, 0, l, k => over0 cs l k
  | c :: cs, n + 1, l, k => overO cs n l fun r => k (c :: r)
  | [], _ + 1, _, _ => none
theorem over0_some {β : Type} : ∀ {cs l : List RV} {k : List RV → Option β} {y : β}, over0 cs l k = some y → l.length ≤ cs.length ∧ k (l ++ cs.drop l.length) = some y
  | cs, [], k, y, h => ⟨Nat.zero_le _, by cases cs <;> simpa [over0] using h⟩
  | [], x :: l, k, y, h => by cases h
  | c :: cs, x :: l, k, y, h => by
    obtain ⟨h1, h2⟩ := over0_some (cs := cs) (l := l) h
    exact ⟨Nat.succ_le_succ h1, h2⟩
theorem overO_some {β : Type} : ∀ {cs : List RV} {n : Nat} {l : List RV} {k : List RV → Option β} {y : β}, overO cs n l k = some y → n + l.length ≤ cs.length ∧ k (cs.take n ++ l ++ cs.drop (n + l.length)) = some y
  | cs, 0, l, k, y, h => by
    obtain ⟨h1, h2⟩ := over0_some (cs := cs) (l := l) (by cases cs <;> exact h)
    exact ⟨by omega, by simpa using h2⟩
  | [], n + 1, l, k, y, h => by cases h
  | c :: cs, n + 1, l, k, y, h => by
    obtain ⟨h1, h2⟩ := overO_some (cs := cs) (n := n) (l := l) h
    refine ⟨by simp; omega, ?_⟩
    have e : n + 1 + l.length = (n + l.length) + 1 := by omega
    rw [e]
    exact h2
def appO {β : Type} : List RV → List RV → (List RV → β) → β
  | [], m, k => k m
  | x :: l, m, k => appO l m fun r => k (x :: r)
theorem appO_eq {β : Type} : ∀ (l m : List RV) (k : List RV → β), appO l m k = k (l ++ m)
  | [], m, k => rfl
  | x :: l, m, k => by rw [appO, appO_eq l]; rfl
def nthR : List RV → Nat → Option RV
  | [], _ => none
  | x :: _, 0 => some x
  | _ :: l, n + 1 => nthR l n
theorem nthR_eq : ∀ (l : List RV) (n : Nat), nthR l n = l[n]?
  | [], n => by simp [nthR]
  | x :: l, 0 => rfl
  | x :: l, n + 1 => by rw [nthR, nthR_eq l n]; rfl
def putT {α β : Type} (t : Tr α) (n : Nat) (x : α) (k : Tr α → β) : β := Tr.setK x (n + 1) t n k
theorem putT_eq {α β : Type} (t : Tr α) (n : Nat) (x : α) (k : Tr α → β) : putT t n x k = k (t.set n x) := Tr.setK_id x (n + 1) t n k

/-- a computation yields a value that reads as r, in a world that reads as h' -/
def Does (P : Program) (c c' : Cx) (g : Gm) (m : Sem Value) (w : World) (r : RV) (h' : Hp) (nx' : Nat) : Prop :=
  ∃ g' v w', m.run P w = .ok v w' ∧ R g' c.env r v ∧ Ext g g' ∧ RW c' g' h' nx' w'
section
variable {P : Program} {c : Cx} {g : Gm} {h : Hp} {nx : Nat} {w : World}
theorem add_off (q off k : Nat) : (⟨q, off, none⟩ : Addr).add k = ⟨q, off + k, none⟩ := by unfold Addr.add; split <;> simp_all
/-- a pure computation -/
def Pures (P : Program) (g : Gm) (env : Nat → Value) (m : Sem Value) (r : RV) : Prop := ∃ v, (∀ w, m.run P w = .ok v w) ∧ R g env r v
theorem Pures.does {m : Sem Value} {r : RV} (hp : Pures P g c.env m r) (hw : RW c g h nx w) : Does P c c g m w r h nx := by
  obtain ⟨v, h1, h2⟩ := hp
  exact ⟨g, v, w, h1 w, h2, Ext.refl g, hw⟩
/-- the address of a field -/
def fieldR (P : Program) (s : TypeId) (r : RV) (f : Nat) : Option RV :=
  match P.underlying s with
  | some (.struct fields) => match fields[f]? with
    | some fl => match P.info? fl.type with
      | some i => if i.size = 0 then none else match r with
        | .ptr G e off => forceN (off + fl.offset) fun o => some (.ptr G e o)
        | _ => none
      | none => none
    | none => none
  | _ => none
theorem does_field {s : TypeId} {r r' : RV} {f : Nat} {v : Value} {env : Nat → Value} (hf : fieldR P s r f = some r') (hr : R g env r v) : Pures P g env (Instr.fieldAt s v f) r' := by
  unfold fieldR at hf
  split at hf <;> try cases hf
  rename_i fields hu
  split at hf <;> try cases hf
  rename_i fl hfl
  split at hf <;> try cases hf
  rename_i i hi
  split at hf <;> try cases hf
  rename_i hz
  split at hf <;> try cases hf
  rename_i G e off
  rw [forceN_eq] at hf
  cases hf
  cases hr with
  | ptr hb =>
    rename_i q _
    refine ⟨.pointer (some ⟨q, off + fl.offset, none⟩), fun w => ?_, .ptr hb⟩
    simp [Instr.fieldAt, run_underlying hu, hfl, Instr.sureAddr, fieldPlace, sizeOf, typeInfo, hi, hz, add_off]
/-- the address of an element of a slice or an array -/
def indexR (P : Program) (t : TypeId) (r : RV) (ix : RV) : Option RV :=
  match P.underlying t with
  | some (.slice e) => match P.info? e with
    | some i => match r, ix with
      | .sl G m off len sz, .lit (.int k (.ofNat n)) => if n < len then forceN (off + n * i.size) fun o => some (.ptr G m o) else none
      | _, _ => none
    | none => none
  | some (.array len e) => match P.info? e with
    | some i => match r, ix with
      | .ptr G m off, .lit (.int k (.ofNat n)) => if n < len then forceN (off + n * i.size) fun o => some (.ptr G m o) else none
      | _, _ => none
    | none => none
  | _ => none
theorem does_index {t : TypeId} {r ix r' : RV} {v u : Value} {env : Nat → Value} (hf : indexR P t r ix = some r') (hr : R g env r v) (hx : R g env ix u) : Pures P g env (Instr.indexAt t v u) r' := by
  unfold indexR at hf
  split at hf <;> try cases hf
  · rename_i e hu
    split at hf <;> try cases hf
    rename_i i hi
    split at hf <;> try cases hf
    rename_i G m off len sz k n
    split at hf <;> try cases hf
    rename_i hn
    rw [forceN_eq] at hf
    cases hf
    cases hx
    cases hr with
    | sl hb hc hs =>
      rename_i q _ cap
      refine ⟨.pointer (some ⟨q, off + n * i.size, none⟩), fun w => ?_, .ptr hb⟩
      simp [Instr.indexAt, asIntOf, run_underlying hu, sizeOf, typeInfo, hi, hn, add_off]
  · rename_i len e hu
    split at hf <;> try cases hf
    rename_i i hi
    split at hf <;> try cases hf
    rename_i G m off k n
    split at hf <;> try cases hf
    rename_i hn
    rw [forceN_eq] at hf
    cases hf
    cases hx
    cases hr with
    | ptr hb =>
      rename_i q _
      refine ⟨.pointer (some ⟨q, off + n * i.size, none⟩), fun w => ?_, .ptr hb⟩
      simp [Instr.indexAt, asIntOf, run_underlying hu, sizeOf, typeInfo, hi, hn, add_off, Instr.sureAddr]
def loadR (P : Program) (h : Hp) (t : TypeId) (r : RV) : Option RV :=
  match r with
  | .ptr G e off => match cellsAt h G e with
    | some (_, _, _, cs) => match P.underlying t, P.info? t with
      | some d, some i => if d.isRow then takeO i.size (dropR cs off) fun l => some (.agg l) else nthR cs off
      | _, _ => none
    | _ => none
  | _ => none
theorem load_keeps {t : TypeId} {r r' : RV} {v : Value} (hf : loadR P h t r = some r') (hr : R g c.env r v) (hw : RW c g h nx w) : ∃ u ad, v = .pointer (some ad) ∧ (Instr.loadAt t v).run P w = .ok u w ∧ R g c.env r' u := by
  unfold loadR at hf
  split at hf <;> try cases hf
  rename_i G e off
  split at hf <;> try cases hf
  rename_i elem z nxe cs hb
  split at hf <;> try cases hf
  rename_i d i hu hi
  cases hr with
  | ptr hq =>
    rename_i q n
    have hl := (hw.at_ hb hq).2.1
    split at hf
    · rename_i hd
      rw [dropR_eq] at hf
      obtain ⟨hn, hk⟩ := takeO_some hf
      cases hk
      rw [List.length_drop] at hn
      by_cases hz : i.size = 0
      · refine ⟨.agg #[], _, rfl, ?_, by rw [hz]; exact .agg rfl (fun j h1 => absurd h1 (by simp))⟩
        exact run_loadAt_mid w q off t [] d (fun j v hj => by simp at hj) hu hd (by rw [hi]; simp [hz])
      obtain ⟨vs, hc, hlen, hrl⟩ := hl.range (off := off) (n := i.size) (by omega)
      refine ⟨.agg vs.toArray, _, rfl, run_loadAt_mid w q off t vs d hc hu hd (by rw [hi, Option.map_some, hlen]), .agg (by simpa using hrl.len) (fun j k1 k2 => ?_)⟩
      exact hrl.at_ j k1 (by simpa using k2)
    · rename_i hd
      rw [nthR_eq] at hf
      have hoff := (List.getElem?_eq_some_iff.1 hf).1
      obtain ⟨u, hc, hru, _⟩ := hl.cell hoff
      have hr' : cs[off] = r' := (List.getElem?_eq_some_iff.1 hf).2
      rw [hr'] at hru
      refine ⟨u, _, rfl, ?_, hru⟩
      have hagg : (isAgg t).run P w = .ok false w := by
        unfold isAgg
        rw [Sem.run_bind, run_underlying hu w]
        cases d <;> simp_all
      simp [Instr.loadAt, Instr.sureAddr, loadVar, Sem.run_bind, hagg, load, Sem.run, hc]
theorem does_load {t : TypeId} {r r' : RV} {v : Value} (hf : loadR P h t r = some r') (hr : R g c.env r v) (hw : RW c g h nx w) : Does P c c g (Instr.loadAt t v) w r' h nx := by
  obtain ⟨u, ad, _, h1, h2⟩ := load_keeps hf hr hw
  exact ⟨g, u, w, h1, h2, Ext.refl g, hw⟩
/-- a value's cells -/
def cellsR : RV → Option (List RV)
  | .agg l => some l
  | .tup _ => none
  | .opq _ => none
  | .lit v => some (v.cells.toList.map ofV)
  | r => some [r]
theorem cellsR_R {env : Nat → Value} {r : RV} {l : List RV} {v : Value} (hc : cellsR r = some l) (hr : R g env r v) : RL g env l v.cells.toList := by
  cases hr with
  | lit v => cases hc; exact .lits _
  | opq i => cases hc
  | agg hn hh => cases hc; exact ⟨hn, fun i k1 k2 => hh i k1 (by simpa [Value.cells] using k2)⟩
  | tup hn hh => cases hc
  | str hh => cases hc; exact .cons (.str hh) .nil
  | ptr hb => cases hc; exact .cons (.ptr hb) .nil
  | sl hb hcap hn => cases hc; exact .cons (.sl hb hcap hn) .nil
  | s0 hb => cases hc; exact .cons (.s0 hb) .nil
  | se a cap => cases hc; exact .cons (.se a cap) .nil
  | ifc hh => cases hc; exact .cons (.ifc hh) .nil
  | clo hm hk hn hh => cases hc; exact .cons (.clo hm hk hn hh) .nil
  | mp hb => cases hc; exact .cons (.mp hb) .nil
  | yld hb => cases hc; exact .cons (.yld hb) .nil
def oneR : RV → Bool
  | .agg _ | .tup _ | .opq _ => false
  | .lit v => v.oneCell'
  | _ => true
theorem oneR_R {env : Nat → Value} {r : RV} {v : Value} (ho : oneR r = true) (hr : R g env r v) : v.oneCell' = true := by
  cases hr <;> first | exact ho | rfl | cases ho
/-- a copy in a new block -/
theorem does_box {t : TypeId} {r : RV} {l : List RV} {v : Value} {G nx' : Nat} {F' : Nat → Option (Nat → Option (Nat × Nat))} (hc : cellsR r = some l) (hr : R g c.env r v) (hw : RW c g h nx w) (hG : ∀ e, g G e = none) (hres : ∀ x f, F' x = some f → c.F x = some f ∧ x ≠ G) (hnx : nx ≤ nx') (hGn : G < nx') :
    Does P c { c with F := F' } g (Instr.box t v) w (.ptr G 0 0) (h.set G (.cells t false 1 [(0, l)])) nx' := by
  have hl := cellsR_R hc hr
  have hlen : l.length = v.cells.size := by have := hl.len; simpa using this
  refine ⟨_, .pointer (some ⟨w.heap.size, 0, none⟩), w.alloc (.cells v.cells t), ?_, .ptr (n := v.cells.size) gSet_self, gSet_ext (hG 0), hw.alloc hG hres hnx hGn (by omega) fun j h1 h2 => hl.at_ j h1 (by simpa using h2)⟩
  simp [Instr.box, newVar, newRow]
/-- a new variable of zeros -/
def zerosR (P : Program) (t : TypeId) : Option (List RV) :=
  match P.info? t with
  | some i => match i.zero with
    | some z => some (z.cells.toList.map ofV)
    | none => none
  | none => none
theorem does_alloc {t : TypeId} {l : List RV} {G nx' : Nat} {F' : Nat → Option (Nat → Option (Nat × Nat))} (hf : zerosR P t = some l) (hw : RW c g h nx w) (hG : ∀ e, g G e = none) (hres : ∀ x f, F' x = some f → c.F x = some f ∧ x ≠ G) (hnx : nx ≤ nx') (hGn : G < nx') :
    Does P c { c with F := F' } g (Instr.alloc t true (.tuple #[])) w (.ptr G 0 0) (h.set G (.cells t false 1 [(0, l)])) nx' := by
  unfold zerosR at hf
  split at hf <;> try cases hf
  rename_i i hi
  split at hf <;> try cases hf
  rename_i z hz
  have hb := does_box (P := P) (t := t) (r := .lit z) (l := z.cells.toList.map ofV) (v := z) rfl (.lit z) hw hG hres hnx hGn
  obtain ⟨g', v, w', h1, h2, h3, h4⟩ := hb
  refine ⟨g', v, w', ?_, h2, h3, h4⟩
  rw [← h1]
  simp [Instr.alloc, Instr.box, zeroValue, typeInfo, hi, hz]
theorem setCells_heap (w : World) (q : Nat) : ∀ (vs : List Value) (o : Nat) (arr : Array Value) (elem : TypeId) (fz : Nat × Nat), w.heap[q]? = some (.cells arr elem fz) → o + vs.length ≤ arr.size →
    (w.setCells q o vs).heap[q]? = some (.cells ((arr.toList.take o ++ vs ++ arr.toList.drop (o + vs.length)).toArray) elem fz) ∧ (∀ k, k ≠ q → (w.setCells q o vs).heap[k]? = w.heap[k]?) ∧ (w.setCells q o vs).os = w.os ∧ (w.setCells q o vs).tape = w.tape ∧ (w.setCells q o vs).output = w.output ∧ (w.setCells q o vs).heap.size = w.heap.size
  | [], o, arr, elem, fz, hq, hl => by
    refine ⟨?_, fun _ _ => rfl, rfl, rfl, rfl, rfl⟩
    show w.heap[q]? = _
    rw [hq]
    simp
  | v :: vs, o, arr, elem, fz, hq, hl => by
    have hl' : o + vs.length + 1 ≤ arr.size := by simpa [Nat.add_assoc] using hl
    have h1 : (w.setCell ⟨q, o, none⟩ v).heap[q]? = some (.cells (arr.setIfInBounds o v) elem fz) := by
      simp [World.setCell, Array.getElem?_modify, hq]
    have ih := setCells_heap (w.setCell ⟨q, o, none⟩ v) q vs (o + 1) (arr.setIfInBounds o v) elem fz h1 (by simp; omega)
    have hs : (w.setCell ⟨q, o, none⟩ v).heap.size = w.heap.size := by simp [World.setCell]
    refine ⟨?_, fun k hk => ?_, ih.2.2.1, ih.2.2.2.1, ih.2.2.2.2.1, ih.2.2.2.2.2.trans hs⟩
    · refine ih.1.trans ?_
      congr 2
      apply Array.ext'
      simp only [Array.toList_setIfInBounds]
      apply List.ext_getElem?
      intro j
      have hlen : arr.toList.length = arr.size := by simp
      have eo : o + 1 + vs.length = o + (v :: vs).length := by simp; omega
      rw [eo]
      have hto : (arr.toList.take o).length = o := by rw [List.length_take]; omega
      have ht1 : ((arr.toList.set o v).take (o + 1)).length = o + 1 := by rw [List.length_take, List.length_set]; omega
      rcases Nat.lt_or_ge j o with hj | hj
      · rw [List.append_assoc, List.append_assoc, List.getElem?_append_left (by omega), List.getElem?_append_left (by omega), List.getElem?_take, List.getElem?_take, if_pos (by omega), if_pos hj, List.getElem?_set_ne (by omega)]
      · rcases Nat.eq_or_lt_of_le hj with rfl | hj'
        · rw [List.append_assoc, List.append_assoc, List.getElem?_append_left (by omega), List.getElem?_append_right (by omega), hto, Nat.sub_self, List.getElem?_take, if_pos (by omega), List.getElem?_set_self (by omega)]
          rfl
        · rw [List.append_assoc, List.append_assoc, List.getElem?_append_right (l₁ := (arr.toList.set o v).take (o + 1)) (by rw [ht1]; omega), List.getElem?_append_right (l₁ := arr.toList.take o) (by rw [hto]; omega), ht1, hto]
          have e2 : j - o = (j - (o + 1)) + 1 := by omega
          rw [e2, List.cons_append, List.getElem?_cons_succ]
          rcases Nat.lt_or_ge (j - (o + 1)) vs.length with hk | hk
          · rw [List.getElem?_append_left hk, List.getElem?_append_left hk]
          · rw [List.getElem?_append_right hk, List.getElem?_append_right hk, List.getElem?_drop, List.getElem?_drop, List.getElem?_set_ne (by omega)]
    · exact (ih.2.1 k hk).trans (Below.heap_setCell w _ v k hk)
def storeR {β : Type} (P : Program) (h : Hp) (t : TypeId) (r x : RV) (k : Hp → Option β) : Option β :=
  match r with
  | .ptr G e off => match cellsAt h G e, cellsR x, P.info? t with
    | some (elem, z, nxe, cs), some l, some i => if l.length = i.size ∧ l.all oneR = true then overO cs off l fun cs' => putT h G (.cells elem z nxe [(e, cs')]) k else none
    | _, _, _ => none
  | _ => none
/-- a store -/
theorem does_store {β : Type} {t : TypeId} {r x : RV} {v u : Value} {k : Hp → Option β} {y : β} (hf : storeR P h t r x k = some y) (hr : R g c.env r v) (hx : R g c.env x u) (hw : RW c g h nx w) : ∃ h', k h' = some y ∧ ∃ w', (Instr.storeAt t v u).run P w = .ok () w' ∧ RW c g h' nx w' := by
  unfold storeR at hf
  split at hf <;> try cases hf
  rename_i G e off
  split at hf <;> try cases hf
  rename_i elem z nxe cs l i hb hc hi
  split at hf <;> try cases hf
  rename_i hh
  obtain ⟨h1, h3⟩ := hh
  obtain ⟨h2, hk⟩ := overO_some hf
  rw [putT_eq] at hk
  refine ⟨_, hk, ?_⟩
  cases hr with
  | ptr hq =>
    rename_i q n
    have hl := cellsR_R hc hx
    obtain ⟨hK, hlies, hlive, hnx, helt⟩ := hw.at_ hb hq
    have hlen : u.cells.toList.length = l.length := hl.len.symm
    have hst := run_storeCells_cells (P := P) q off u.cells.toList 0 w (fun j hj => by
        obtain ⟨y, hy, _, _⟩ := hlies.cell (j := off + j) (by omega)
        rw [Nat.add_zero, hy]; rfl) (fun j hj => by
        obtain ⟨y, _, _, hy⟩ := hlies.cell (j := off + j) (by omega)
        rw [Nat.add_zero]; exact hy) (fun y hy => by
        obtain ⟨k, hk, rfl⟩ := List.getElem_of_mem hy
        exact oneR_R (List.all_eq_true.1 h3 _ (List.getElem_mem (by omega))) (hl.at_ k (by omega) hk))
    obtain ⟨arr, fz, a1, af, a0, a2, a3⟩ := hlies
    have hset := setCells_heap w q u.cells.toList off arr elem fz a1 (by omega)
    refine ⟨w.setCells q off u.cells.toList, ?_, hw.setRow hb hq a1 ⟨hset.2.2.1, hset.2.2.2.1, hset.2.2.2.2.1, hset.2.2.2.2.2⟩ hset.2.1 hset.1 (by simp; simp at hlen; omega) (by simp; omega) ?_⟩
    · have hs : u.cells.size = i.size := by have := hlen; simp at this; omega
      simp [Instr.storeAt, Instr.sureAddr, storeVar, sizeOf, typeInfo, hi, hs, hst]
    · have hcs : RL g c.env cs (arr.toList.take cs.length) := ⟨by simp; omega, fun j k1 k2 => by
        rw [List.getElem_take]
        have hja : j < arr.size := by omega
        simpa using a3 j k1 hja⟩
      have hall := ((hcs.take off).append hl).append (hcs.drop (off + l.length))
      intro j k1 k2
      have hj2 : j < (List.take off (List.take cs.length arr.toList) ++ u.cells.toList ++ List.drop (off + l.length) (List.take cs.length arr.toList)).length := by rw [← hall.len]; exact k1
      have := hall.at_ j k1 hj2
      have e : (List.take off arr.toList ++ u.cells.toList ++ List.drop (off + u.cells.toList.length) arr.toList).toArray[j] = (List.take off (List.take cs.length arr.toList) ++ u.cells.toList ++ List.drop (off + l.length) (List.take cs.length arr.toList))[j] := by
        have e1 : List.take off (List.take cs.length arr.toList) = List.take off arr.toList := by
          rw [List.take_take, Nat.min_eq_left (by omega)]
        have e2 : List.drop (off + l.length) (List.take cs.length arr.toList) = List.take (cs.length - (off + l.length)) (List.drop (off + l.length) arr.toList) := List.drop_take ..
        rw [List.getElem_toArray]
        apply Option.some.inj
        rw [← List.getElem?_eq_getElem, ← List.getElem?_eq_getElem, e1, e2, hlen]
        rcases Nat.lt_or_ge j (List.take off arr.toList ++ u.cells.toList).length with hlt | hge
        · rw [List.getElem?_append_left hlt, List.getElem?_append_left hlt]
        · rw [List.getElem?_append_right hge, List.getElem?_append_right hge, List.getElem?_take, if_pos]
          have e3 : (List.take off arr.toList ++ u.cells.toList).length = off + l.length := by
            rw [List.length_append, List.length_take, Array.length_toList, hlen]; omega
          rw [e3] at hge ⊢
          rw [e1, e2] at hj2
          simp only [List.length_append, List.length_take, List.length_drop, Array.length_toList, hlen] at hj2
          have : j < cs.length := by
            have := k1
            simp only [List.length_append, List.length_take, List.length_drop] at this
            omega
          omega
      rw [e]
      exact this
end
end Go.Proofs.YthkhdbfohaaojaaGreatDoor.Ax
