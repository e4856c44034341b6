import Derived.WalkKit
import Derived.Below
import Derived.ChangeOld
import Derived.DataReads
import Derived.DataShut
import Derived.Test.YtlimlmjljjmcpaaGreatDoorProg
import Derived.KernelRfl
/-
  What a value reads as, whole, whatever its type: a tree; the values that two places hold are the same if their trees are.
-/
namespace Go.Proofs.YtlimlmjljjmcpaaGreatDoor.Ps
open Go Go.RowKit
set_option linter.unusedVariables false
/-- a value's tree: a scalar; a struct; a slice's elements -/
inductive C where
  | l (v : Value)
  | a (xs : List C)
  | s (xs : List C)
open Classical in
/-- are two trees the same -/
noncomputable def eqC (x y : C) : Bool := if x = y then true else false
theorem eqC_true {x y : C} : eqC x y = true ↔ x = y := by
  unfold eqC
  split <;> simp_all
theorem eqC_false {x y : C} : eqC x y = false ↔ x ≠ y := by
  unfold eqC
  split <;> simp_all
theorem eqC_self (x : C) : eqC x x = true := eqC_true.2 rfl
/-- how the cells of a type read -/
inductive Rp (P : Program) (w : World) : TypeId → List Value → C → Prop
  | int {t : TypeId} {k : IntKind} {n : Int} (h : P.underlying t = some (.int k)) : Rp P w t [.int k n] (.l (.int k n))
  | bool {t : TypeId} {b : Bool} (h : P.underlying t = some .bool) : Rp P w t [.bool b] (.l (.bool b))
  | string {t : TypeId} {s : ByteArray} (h : P.underlying t = some .string) (hs : s.size ≤ maxLen) : Rp P w t [.string s] (.l (.string s))
  | nil {t e : TypeId} (h : P.underlying t = some (.slice e)) : Rp P w t [.slice none 0 0] (.s [])
  | slice {t e : TypeId} {q : Addr} {len cap : Nat} {xs : List C} (f : Nat → List Value) (h : P.underlying t = some (.slice e)) (hc : len ≤ cap) (hm : cap ≤ maxLen) (hl : xs.length = len) (hb : len * P.bytesOf e ≤ reachBytes)
      (hr : ∀ i, i < len → w.cells? 0 (q.add (i * P.cellsOf e)) (P.cellsOf e) = some (f i)) (hx : ∀ i (hi : i < xs.length), Rp P w e (f i) xs[i]) : Rp P w t [.slice (some q) len cap] (.s xs)
  | struct {t : TypeId} {fs : Array Field} {cs : List Value} {xs : List C} (h : P.underlying t = some (.struct fs)) (hn : cs.length = P.cellsOf t) (hl : xs.length = fs.size) (hcov : ∀ j, j < P.cellsOf t → ∃ i, ∃ h : i < fs.size, fs[i].offset ≤ j ∧ j < fs[i].offset + P.cellsOf fs[i].type)
      (hx : ∀ i (h1 : i < fs.size) (h2 : i < xs.length), Rp P w fs[i].type ((cs.drop fs[i].offset).take (P.cellsOf fs[i].type)) xs[i]) : Rp P w t cs (.a xs)
/-- a tree has the form of a reading -/
inductive Fits {H : Type} : C → DataW H → Prop
  | int (k : IntKind) (n : Int) : Fits (.l (.int k n)) (.lit (.int k n))
  | bool (b : Bool) : Fits (.l (.bool b)) (.lit (.bool b))
  | str (s : ByteArray) : Fits (.l (.string s)) (.lit (.string s.data.toList))
  | nil : Fits (.s []) .nil
  | s {xs : List C} {elems spare : List (DataW H)} (hl : xs.length = elems.length) (hx : ∀ i (h1 : i < xs.length) (h2 : i < elems.length), Fits xs[i] elems[i]) : Fits (.s xs) (.slice elems spare)
  | a {xs : List C} {parts : List (DataW H)} (hl : xs.length = parts.length) (hx : ∀ i (h1 : i < xs.length) (h2 : i < parts.length), Fits xs[i] parts[i]) : Fits (.a xs) (.agg parts)
section
variable {P : Program} {w w' : World} {H : Type} {enc : TypeId × Value → H}
theorem mapM_some {α β : Type} {f : α → Option β} : ∀ {l : List α} {r : List β}, l.mapM f = some r → r.length = l.length ∧ ∀ i (h1 : i < l.length) (h2 : i < r.length), f l[i] = some r[i]
  | [], r, h => by
    simp at h
    subst h
    exact ⟨rfl, fun i h1 => absurd h1 (by simp)⟩
  | x :: l, r, h => by
    rw [List.mapM_cons] at h
    cases hx : f x with
    | none => rw [hx] at h; cases h
    | some y =>
      rw [hx] at h
      cases hl : l.mapM f with
      | none => rw [hl] at h; cases h
      | some r' =>
        rw [hl] at h
        cases h
        obtain ⟨h1, h2⟩ := mapM_some hl
        refine ⟨by simp [h1], fun i k1 k2 => ?_⟩
        cases i with
        | zero => exact hx
        | succ i => exact h2 i (by simpa using k1) (by simpa using k2)
/-- types made of bools, integers, strings, slices and structs alone -/
def plainT (P : Program) (S : List TypeId) (t : TypeId) : Bool := match P.underlying t with
  | some .bool => true
  | some (.int _) => true
  | some .string => true
  | some (.slice e) => S.contains e
  | some (.struct fs) => (fs.toList.all fun f => S.contains f.type) && (List.range (P.cellsOf t)).all fun j => fs.toList.any fun f => decide (f.offset ≤ j) && decide (j < f.offset + P.cellsOf f.type)
  | _ => false
def plainS (P : Program) (S : List TypeId) : Bool := S.all (plainT P S)
theorem weights_mem {e : TypeId} : ∀ {l : List (DataW H)} {d : DataW H}, d ∈ l → ∀ x ∈ DataW.weights P e d, x ∈ DataW.weightsAll P e l
  | [], d, h, x, hx => by cases h
  | y :: l, d, h, x, hx => by
    unfold DataW.weightsAll
    rcases List.mem_cons.1 h with rfl | h
    · exact List.mem_append_left _ hx
    · exact List.mem_append_right _ (weights_mem h x hx)
theorem weights_at : ∀ {ts : List TypeId} {l : List (DataW H)} (i : Nat) (h1 : i < ts.length) (h2 : i < l.length), ∀ x ∈ DataW.weights P ts[i] l[i], x ∈ DataW.weightsEach P ts l
  | [], _, i, h1, _, x, hx => absurd h1 (by simp)
  | _ :: _, [], i, _, h2, x, hx => absurd h2 (by simp)
  | t :: ts, d :: l, 0, _, _, x, hx => by
    unfold DataW.weightsEach
    exact List.mem_append_left _ hx
  | t :: ts, d :: l, i + 1, h1, h2, x, hx => by
    unfold DataW.weightsEach
    exact List.mem_append_right _ (weights_at i (by simpa using h1) (by simpa using h2) x hx)
theorem rp_of_trod {spare : Nat → Bool} {held : Bool} {S : List TypeId} (hS : plainS P S = true) : ∀ (n : Nat) (t : TypeId) (cs : List Value) (y : DataW H × List MemPlace), t ∈ S → DataW.trod enc P w 0 spare held n t cs = some y → (∀ x ∈ DataW.weights P t y.1, x ≤ reachBytes) → ∃ c, Rp P w t cs c ∧ Fits c y.1
  | 0, t, cs, y, ht, h, hwt => by cases h
  | n + 1, t, cs, y, ht, h, hwt => by
    have hp := List.all_eq_true.1 hS t ht
    unfold plainT at hp
    unfold DataW.trod at h
    cases hu : P.underlying t with
    | none => rw [hu] at hp; cases hp
    | some d =>
      rw [hu] at hp h
      cases d with
      | bool =>
        simp only at h
        split at h <;> (try cases h) <;> (try (cases ‹some TypeDesc.bool = some _›))
        all_goals exact ⟨_, .bool hu, .bool _⟩
      | int k =>
        simp only at h
        split at h <;> (try cases h) <;> (try (cases ‹some (TypeDesc.int k) = some _›))
        split at h <;> cases h
        rename_i hk
        obtain ⟨rfl, _⟩ := hk
        exact ⟨_, .int hu, .int _ _⟩
      | string =>
        simp only at h
        split at h <;> (try cases h) <;> (try (cases ‹some TypeDesc.string = some _›))
        split at h <;> cases h
        rename_i hs
        exact ⟨_, .string hu hs, .str _⟩
      | slice e =>
        have he : e ∈ S := by simpa using hp
        simp only at h
        split at h <;> (try cases h) <;> (try (cases ‹some (TypeDesc.slice e) = some _›))
        · exact ⟨_, .nil hu, .nil⟩
        · rename_i q len cap
          split at h <;> try cases h
          rename_i hb
          cases hm : ((List.range len).mapM fun i => (w.cells? 0 (q.add (i * P.cellsOf e)) (P.cellsOf e)).bind (DataW.trod enc P w 0 spare held n e)) with
          | none => rw [hm] at h; cases h
          | some elems =>
            obtain ⟨h1, h2⟩ := mapM_some hm
            rw [hm] at h
            simp only [Option.bind_some, Option.map_eq_some_iff] at h
            obtain ⟨rest, _, rfl⟩ := h
            have hwt2 : ∀ x ∈ (((elems.map (·.1)).length + (rest.map (·.1)).length) * P.bytesOf e :: (DataW.weightsAll P e (elems.map (·.1)) ++ DataW.weightsAll P e (rest.map (·.1)))), x ≤ reachBytes := by
              intro x hx
              refine hwt x ?_
              unfold DataW.weights
              rw [hu]
              exact hx
            have hbound : len * P.bytesOf e ≤ reachBytes := by
              refine Nat.le_trans (Nat.mul_le_mul_right _ ?_) (hwt2 _ (List.mem_cons_self ..))
              simp [h1]
            have each : ∀ i, ∀ hi : i < len, ∃ cs c, w.cells? 0 (q.add (i * P.cellsOf e)) (P.cellsOf e) = some cs ∧ Rp P w e cs c ∧ Fits c (elems[i]'(by rw [h1]; simpa using hi)).1 := fun i hi => by
              have := h2 i (by simpa using hi) (by rw [h1]; simpa using hi)
              rw [List.getElem_range] at this
              cases hc : w.cells? 0 (q.add (i * P.cellsOf e)) (P.cellsOf e) with
              | none => rw [hc] at this; cases this
              | some cs =>
                rw [hc] at this
                obtain ⟨c, hcr, hft⟩ := rp_of_trod hS n e cs _ he this (fun x hx => hwt2 x (List.mem_cons_of_mem _ (List.mem_append_left _ (weights_mem (List.mem_map.2 ⟨_, List.getElem_mem (l := elems) _, rfl⟩) x hx))))
                exact ⟨cs, c, rfl, hcr, hft⟩
            have each2 : ∀ i, ∃ p : List Value × C, ∀ hi : i < len, w.cells? 0 (q.add (i * P.cellsOf e)) (P.cellsOf e) = some p.1 ∧ Rp P w e p.1 p.2 ∧ Fits p.2 (elems[i]'(by rw [h1]; simpa using hi)).1 := fun i => by
              by_cases hi : i < len
              · obtain ⟨cs, c, k1, k2⟩ := each i hi
                exact ⟨(cs, c), fun _ => ⟨k1, k2⟩⟩
              · exact ⟨([], .a []), fun hh => absurd hh hi⟩
            let f := fun i => Classical.choose (each2 i)
            have hf : ∀ i, ∀ hi : i < len, w.cells? 0 (q.add (i * P.cellsOf e)) (P.cellsOf e) = some (f i).1 ∧ Rp P w e (f i).1 (f i).2 ∧ Fits (f i).2 (elems[i]'(by rw [h1]; simpa using hi)).1 := fun i => Classical.choose_spec (each2 i)
            refine ⟨.s ((List.range len).map fun i => (f i).2), .slice (fun i => (f i).1) hu hb.2.1 hb.2.2 (by simp) hbound (fun i hi => (hf i hi).1) fun i hi => ?_, ?_⟩
            · simp only [List.getElem_map, List.getElem_range]
              exact (hf i (by simpa using hi)).2.1
            · refine .s (by simp [h1]) fun i k1 k2 => ?_
              simp only [List.getElem_map, List.getElem_range]
              exact (hf i (by simpa using k1)).2.2
      | struct fs =>
        have hp2 : ((fs.toList.all fun f => S.contains f.type) && (List.range (P.cellsOf t)).all fun j => fs.toList.any fun f => decide (f.offset ≤ j) && decide (j < f.offset + P.cellsOf f.type)) = true := hp
        rw [Bool.and_eq_true] at hp2
        have hfs : ∀ f ∈ fs.toList, f.type ∈ S := fun f hf => by
          have := List.all_eq_true.1 hp2.1 f hf
          simpa using this
        have hcov : ∀ j, j < P.cellsOf t → ∃ i, ∃ h : i < fs.size, fs[i].offset ≤ j ∧ j < fs[i].offset + P.cellsOf fs[i].type := fun j hj => by
          have := List.all_eq_true.1 hp2.2 j (by simpa using hj)
          obtain ⟨f, hf, h1⟩ := List.any_eq_true.1 this
          obtain ⟨i, hi, rfl⟩ := List.getElem_of_mem hf
          simp only [Bool.and_eq_true, decide_eq_true_eq] at h1
          exact ⟨i, by simpa using hi, by simpa using h1⟩
        simp only at h
        split at h <;> (try cases h) <;> (try (cases ‹some (TypeDesc.struct fs) = some _›))
        rename_i hn
        cases hm : (fs.toList.mapM fun f => DataW.trod enc P w 0 spare held n f.type ((cs.drop f.offset).take (P.cellsOf f.type))) with
        | none => rw [hm] at h; cases h
        | some elems =>
          obtain ⟨h1, h2⟩ := mapM_some hm
          rw [hm] at h
          simp only [Option.map_some, Option.some.injEq] at h
          subst h
          have hwt2 : ∀ x ∈ DataW.weightsEach P (fs.toList.map (·.type)) (elems.map (·.1)), x ≤ reachBytes := by
            intro x hx
            refine hwt x ?_
            unfold DataW.weights
            rw [hu]
            exact hx
          have each : ∀ i, ∃ c : C, ∀ hi : i < fs.size, Rp P w fs[i].type ((cs.drop fs[i].offset).take (P.cellsOf fs[i].type)) c ∧ Fits c (elems[i]'(by rw [h1]; simpa using hi)).1 := fun i => by
            by_cases hi : i < fs.size
            · have := h2 i (by simpa using hi) (by rw [h1]; simpa using hi)
              rw [Array.getElem_toList] at this
              obtain ⟨c, hc, hft⟩ := rp_of_trod hS n _ _ _ (hfs fs[i] (by simp)) this (fun x hx => hwt2 x (weights_at i (by simpa using hi) (by simpa [h1] using hi) x (by simpa using hx)))
              exact ⟨c, fun _ => ⟨hc, hft⟩⟩
            · exact ⟨.a [], fun hh => absurd hh hi⟩
          let f := fun i => Classical.choose (each i)
          refine ⟨.a ((List.range fs.size).map f), .struct hu hn (by simp) hcov fun i k1 k2 => ?_, ?_⟩
          · simp only [List.getElem_map, List.getElem_range]
            exact (Classical.choose_spec (each i) k1).1
          · refine .a (by simp [h1]) fun i k1 k2 => ?_
            simp only [List.getElem_map, List.getElem_range]
            exact (Classical.choose_spec (each i) (by simpa using k1)).2
      | _ => cases hp
/-- memory below a bound is all that is read -/
theorem Rp.kept {n : Nat} (hb : Below n w w') (hn : w.heap.size ≤ n) {t : TypeId} {cs : List Value} {c : C} (h : Rp P w t cs c) : Rp P w' t cs c := by
  induction h with
  | int h => exact .int h
  | bool h => exact .bool h
  | string h hs => exact .string h hs
  | nil h => exact .nil h
  | slice f h hc hm hl hb' hr hx ih =>
    refine .slice f h hc hm hl hb' (fun i hi => ?_) ih
    have h1 := hr i hi
    obtain ⟨k1, k2, k3⟩ := World.cells?_some h1
    refine World.cells?_of_each k1 k2 fun j hj => ?_
    rw [← k3 j hj]
    have hlt := World.cells?_block h1 (by omega)
    refine hb.cell ?_
    have e1 : ∀ (a : Addr) (k : Nat), (a.add k).block = a.block := fun a k => by
      unfold Addr.add
      first | rfl | (split <;> rfl)
    rw [e1]
    omega
  | struct h hn hl hcov hx ih => exact .struct h hn hl hcov ih
theorem cells_same {a : Addr} {n : Nat} (h : w'.heap[a.block]? = w.heap[a.block]?) : w'.cells? 0 a n = w.cells? 0 a n := by
  have hc : ∀ j, w'.cell? (a.add j) = w.cell? (a.add j) := fun j => by
    have e1 : (a.add j).block = a.block := by
      unfold Addr.add
      first | rfl | (split <;> rfl)
    unfold World.cell?
    rw [e1, h]
  unfold World.cells?
  simp only [hc]
/-- only the blocks that are there are read -/
theorem Rp.keptH (hb : ∀ (q : Nat) (o : Obj), w.heap[q]? = some o → w'.heap[q]? = some o) {t : TypeId} {cs : List Value} {c : C} (h : Rp P w t cs c) : Rp P w' t cs c := by
  induction h with
  | int h => exact .int h
  | bool h => exact .bool h
  | string h hs => exact .string h hs
  | nil h => exact .nil h
  | @slice t e q len cap xs f h hc hm hl hb' hr hx ih =>
    refine .slice f h hc hm hl hb' (fun i hi => ?_) ih
    have h1 := hr i hi
    rw [← h1]
    rcases Nat.eq_zero_or_pos (P.cellsOf e) with hz | hz
    · rw [hz]
      simp [World.cells?]
    have hlt := World.cells?_block h1 hz
    exact cells_same ((hb _ _ (Array.getElem?_eq_getElem hlt)).trans (Array.getElem?_eq_getElem hlt).symm)
  | struct h hn hl hcov hx ih => exact .struct h hn hl hcov ih
/-- each cell is its own -/
theorem Rp.single {t : TypeId} {cs : List Value} {c : C} (h : Rp P w t cs c) : ∀ u ∈ cs, u.cells = #[u] := by
  induction h with
  | int h => intro u hu; cases List.mem_singleton.1 hu; rfl
  | bool h => intro u hu; cases List.mem_singleton.1 hu; rfl
  | string h hs => intro u hu; cases List.mem_singleton.1 hu; rfl
  | nil h => intro u hu; cases List.mem_singleton.1 hu; rfl
  | slice f h hc hm hl hb' hr hx ih => intro u hu; cases List.mem_singleton.1 hu; rfl
  | @struct t fs cs xs h hn hl hcov hx ih =>
    intro u hu
    obtain ⟨j, hj, rfl⟩ := List.getElem_of_mem hu
    obtain ⟨i, hi, h1, h2⟩ := hcov j (by omega)
    refine ih i hi (by omega) _ ?_
    rw [List.mem_iff_getElem?]
    refine ⟨j - fs[i].offset, ?_⟩
    rw [List.getElem?_take, if_pos (by omega), List.getElem?_drop]
    have : fs[i].offset + (j - fs[i].offset) = j := by omega
    rw [this]
    exact List.getElem?_eq_getElem hj
/-- each cell is one -/
theorem Rp.one {t : TypeId} {cs : List Value} {c : C} (h : Rp P w t cs c) : ∀ u ∈ cs, u.oneCell' = true := by
  induction h with
  | int h => intro u hu; cases List.mem_singleton.1 hu; rfl
  | bool h => intro u hu; cases List.mem_singleton.1 hu; rfl
  | string h hs => intro u hu; cases List.mem_singleton.1 hu; rfl
  | nil h => intro u hu; cases List.mem_singleton.1 hu; rfl
  | slice f h hc hm hl hb' hr hx ih => intro u hu; cases List.mem_singleton.1 hu; rfl
  | @struct t fs cs xs h hn hl hcov hx ih =>
    intro u hu
    obtain ⟨j, hj, rfl⟩ := List.getElem_of_mem hu
    obtain ⟨i, hi, h1, h2⟩ := hcov j (by omega)
    refine ih i hi (by omega) _ ?_
    rw [List.mem_iff_getElem?]
    refine ⟨j - fs[i].offset, ?_⟩
    rw [List.getElem?_take, if_pos (by omega), List.getElem?_drop]
    have : fs[i].offset + (j - fs[i].offset) = j := by omega
    rw [this]
    exact List.getElem?_eq_getElem hj
theorem add_block (a : Addr) (k : Nat) : (a.add k).block = a.block := by
  unfold Addr.add
  first | rfl | (split <;> rfl)
theorem add_add (a : Addr) (j k : Nat) : (a.add j).add k = a.add (j + k) := by
  unfold Addr.add
  cases a with
  | mk b o s => by_cases hj : j = 0 <;> by_cases hk : k = 0 <;> simp [hj, hk, Nat.add_assoc]
/-- a slice's cells, in a row -/
theorem row_cells {q : Addr} {len m : Nat} {f : Nat → List Value} (hr : ∀ i, i < len → w.cells? 0 (q.add (i * m)) m = some (f i)) : ∃ news : List Value, news.length = len * m ∧ (∀ j u, news[j]? = some u → w.cell? (q.add j) = some u) ∧ ∀ u ∈ news, ∃ i, i < len ∧ u ∈ f i := by
  induction len with
  | zero => exact ⟨[], by simp, fun j u h => by simp at h, fun u h => by cases h⟩
  | succ n ih =>
    obtain ⟨l, h1, h2, h3⟩ := ih fun i hi => hr i (by omega)
    obtain ⟨_, k2, k3⟩ := World.cells?_some (hr n (by omega))
    refine ⟨l ++ f n, by rw [List.length_append, h1, k2, Nat.succ_mul], fun j u hj => ?_, fun u hu => ?_⟩
    · rcases Nat.lt_or_ge j l.length with hlt | hge
      · rw [List.getElem?_append_left hlt] at hj
        exact h2 j u hj
      · rw [List.getElem?_append_right hge] at hj
        have hlt : j - l.length < m := by
          have := (List.getElem?_eq_some_iff.1 hj).1
          omega
        have := k3 (j - l.length) hlt
        rw [hj, add_add] at this
        rw [← this]
        congr 2
        omega
    · rcases List.mem_append.1 hu with hu | hu
      · obtain ⟨i, hi, h⟩ := h3 u hu
        exact ⟨i, by omega, h⟩
      · exact ⟨n, by omega, hu⟩
/-- a slice's value -/
theorem Rp.isSl {t e : TypeId} {v : Value} {c : C} (hu : P.underlying t = some (.slice e)) (h : Rp P w t [v] c) : ∃ a n m, v = .slice a n m := by
  cases h with
  | int h => rw [hu] at h; cases h
  | bool h => rw [hu] at h; cases h
  | string h _ => rw [hu] at h; cases h
  | nil h => exact ⟨_, _, _, rfl⟩
  | slice f h => exact ⟨_, _, _, rfl⟩
  | struct h => rw [hu] at h; cases h
/-- a slice's cells -/
theorem Rp.news {t e : TypeId} {q : Addr} {n m : Nat} {c : C} (hu : P.underlying t = some (.slice e)) (h : Rp P w t [.slice (some q) n m] c) : ∃ news : List Value, news.length = n * P.cellsOf e ∧ (∀ j u, news[j]? = some u → w.cell? (q.add j) = some u) ∧ (∀ u ∈ news, u.oneCell' = true) ∧ (0 < news.length → q.block < w.heap.size) := by
  cases h with
  | struct h => rw [hu] at h; cases h
  | @slice t e2 q2 len cap xs f h hc hm hl hb' hr hx =>
    rw [hu] at h
    cases h
    obtain ⟨news, k1, k2, k3⟩ := row_cells hr
    refine ⟨news, k1, k2, fun u hu => ?_, fun hpos => ?_⟩
    · obtain ⟨i, hi, h1⟩ := k3 u hu
      exact (hx i (by omega)).one u h1
    · rw [k1] at hpos
      have hn : 0 < n := Nat.pos_of_ne_zero fun h0 => by subst h0; omega
      have hz : 0 < P.cellsOf e := Nat.pos_of_ne_zero fun h0 => by rw [h0] at hpos; omega
      have := World.cells?_block (hr 0 hn) hz
      rwa [add_block] at this
/-! ### by types -/
theorem Rp.int_inv {t : TypeId} {k : IntKind} {cs : List Value} {c : C} (hu : P.underlying t = some (.int k)) (h : Rp P w t cs c) : ∃ n, cs = [.int k n] ∧ c = .l (.int k n) := by
  cases h with
  | int h => rw [hu] at h; cases h; exact ⟨_, rfl, rfl⟩
  | bool h => rw [hu] at h; cases h
  | string h _ => rw [hu] at h; cases h
  | nil h => rw [hu] at h; cases h
  | slice f h => rw [hu] at h; cases h
  | struct h => rw [hu] at h; cases h
theorem Rp.bool_inv {t : TypeId} {cs : List Value} {c : C} (hu : P.underlying t = some .bool) (h : Rp P w t cs c) : ∃ b, cs = [.bool b] ∧ c = .l (.bool b) := by
  cases h with
  | int h => rw [hu] at h; cases h
  | bool h => exact ⟨_, rfl, rfl⟩
  | string h _ => rw [hu] at h; cases h
  | nil h => rw [hu] at h; cases h
  | slice f h => rw [hu] at h; cases h
  | struct h => rw [hu] at h; cases h
theorem Rp.string_inv {t : TypeId} {cs : List Value} {c : C} (hu : P.underlying t = some .string) (h : Rp P w t cs c) : ∃ s, cs = [.string s] ∧ c = .l (.string s) ∧ s.size ≤ maxLen := by
  cases h with
  | int h => rw [hu] at h; cases h
  | bool h => rw [hu] at h; cases h
  | string h hs => exact ⟨_, rfl, rfl, hs⟩
  | nil h => rw [hu] at h; cases h
  | slice f h => rw [hu] at h; cases h
  | struct h => rw [hu] at h; cases h
theorem Rp.slice_inv {t e : TypeId} {cs : List Value} {c : C} (hu : P.underlying t = some (.slice e)) (h : Rp P w t cs c) : ∃ a n m xs, cs = [.slice a n m] ∧ c = .s xs ∧ xs.length = n ∧ n ≤ m ∧ m ≤ maxLen ∧ ∀ i (hi : i < xs.length), ∃ q us, a = some q ∧ w.cells? 0 (q.add (i * P.cellsOf e)) (P.cellsOf e) = some us ∧ Rp P w e us xs[i] := by
  cases h with
  | int h => rw [hu] at h; cases h
  | bool h => rw [hu] at h; cases h
  | string h _ => rw [hu] at h; cases h
  | nil h => exact ⟨_, _, _, _, rfl, rfl, rfl, Nat.le_refl _, Nat.zero_le _, fun i hi => absurd hi (by simp)⟩
  | slice f h hc hm hl hb' hr hx =>
    rw [hu] at h
    cases h
    exact ⟨_, _, _, _, rfl, rfl, hl, hc, hm, fun i hi => ⟨_, _, rfl, hr i (by omega), hx i hi⟩⟩
  | struct h => rw [hu] at h; cases h
/-- a slice's size -/
theorem Rp.bound {t e : TypeId} {a : Option Addr} {n m : Nat} {c : C} (hu : P.underlying t = some (.slice e)) (h : Rp P w t [.slice a n m] c) : n * P.bytesOf e ≤ reachBytes := by
  cases h with
  | nil h => simp
  | slice f h hc hm hl hb' hr hx =>
    rw [hu] at h
    cases h
    exact hb'
  | struct h => rw [hu] at h; cases h
theorem Rp.struct_inv {t : TypeId} {fs : Array Field} {cs : List Value} {c : C} (hu : P.underlying t = some (.struct fs)) (h : Rp P w t cs c) : ∃ xs, c = .a xs ∧ cs.length = P.cellsOf t ∧ xs.length = fs.size ∧ ∀ i (h1 : i < fs.size) (h2 : i < xs.length), Rp P w fs[i].type ((cs.drop fs[i].offset).take (P.cellsOf fs[i].type)) xs[i] := by
  cases h with
  | int h => rw [hu] at h; cases h
  | bool h => rw [hu] at h; cases h
  | string h _ => rw [hu] at h; cases h
  | nil h => rw [hu] at h; cases h
  | slice f h => rw [hu] at h; cases h
  | struct h hn hl _ hx =>
    rw [hu] at h
    cases h
    exact ⟨_, rfl, hn, hl, hx⟩
end
end Go.Proofs.YtlimlmjljjmcpaaGreatDoor.Ps

/-
  What the cells of the parts of a statement are: each struct's reading, taken apart. (Printed by gen_shape.py.)
-/
namespace Go.Proofs.YtlimlmjljjmcpaaGreatDoor.Ps
open Go Go.RowKit
set_option linter.unusedVariables false
set_option linter.unusedSimpArgs false
theorem zc_Value : Tryz.prog.cellsOf 23 = 3 := by kernel_rfl
theorem zc_int : Tryz.prog.cellsOf 3 = 1 := by kernel_rfl
theorem zc_string : Tryz.prog.cellsOf 9 = 1 := by kernel_rfl
theorem zc_Expr : Tryz.prog.cellsOf 26 = 7 := by kernel_rfl
theorem zc_LExpr : Tryz.prog.cellsOf 24 = 1 := by kernel_rfl
theorem zc_Column : Tryz.prog.cellsOf 55 = 3 := by kernel_rfl
theorem zc_bool : Tryz.prog.cellsOf 4 = 1 := by kernel_rfl
theorem zc_Foreign : Tryz.prog.cellsOf 122 = 2 := by kernel_rfl
theorem zc_Lint : Tryz.prog.cellsOf 50 = 1 := by kernel_rfl
theorem zc_Table : Tryz.prog.cellsOf 53 = 5 := by kernel_rfl
theorem zc_LColumn : Tryz.prog.cellsOf 49 = 1 := by kernel_rfl
theorem zc_LForeign : Tryz.prog.cellsOf 51 = 1 := by kernel_rfl
theorem zc_Clause : Tryz.prog.cellsOf 37 = 3 := by kernel_rfl
theorem zc_Source : Tryz.prog.cellsOf 39 = 6 := by kernel_rfl
theorem zc_Item : Tryz.prog.cellsOf 171 = 10 := by kernel_rfl
theorem zc_Join : Tryz.prog.cellsOf 175 = 14 := by kernel_rfl
theorem zc_Select : Tryz.prog.cellsOf 42 = 18 := by kernel_rfl
theorem zc_LItem : Tryz.prog.cellsOf 35 = 1 := by kernel_rfl
theorem zc_LJoin : Tryz.prog.cellsOf 40 = 1 := by kernel_rfl
theorem zc_Order : Tryz.prog.cellsOf 115 = 2 := by kernel_rfl
theorem zc_Query : Tryz.prog.cellsOf 46 = 23 := by kernel_rfl
theorem zc_LQuery : Tryz.prog.cellsOf 43 = 1 := by kernel_rfl
theorem zc_LOrder : Tryz.prog.cellsOf 44 = 1 := by kernel_rfl
theorem zc_Set : Tryz.prog.cellsOf 87 = 8 := by kernel_rfl
theorem zc_Period : Tryz.prog.cellsOf 34 = 2 := by kernel_rfl
theorem zc_Rect : Tryz.prog.cellsOf 59 = 4 := by kernel_rfl
theorem zc_Hold : Tryz.prog.cellsOf 61 = 6 := by kernel_rfl
theorem zc_Change : Tryz.prog.cellsOf 57 = 9 := by kernel_rfl
theorem zc_Statement : Tryz.prog.cellsOf 63 = 60 := by kernel_rfl
theorem zc_LLExpr : Tryz.prog.cellsOf 47 = 1 := by kernel_rfl
theorem zc_LSet : Tryz.prog.cellsOf 48 = 1 := by kernel_rfl
theorem ln2 {α : Type} : ∀ {l : List α}, l.length = 2 → ∃ a0 a1, l = [a0, a1]
  | [a0, a1], _ => ⟨a0, a1, rfl⟩
theorem ln3 {α : Type} : ∀ {l : List α}, l.length = 3 → ∃ a0 a1 a2, l = [a0, a1, a2]
  | [a0, a1, a2], _ => ⟨a0, a1, a2, rfl⟩
theorem ln4 {α : Type} : ∀ {l : List α}, l.length = 4 → ∃ a0 a1 a2 a3, l = [a0, a1, a2, a3]
  | [a0, a1, a2, a3], _ => ⟨a0, a1, a2, a3, rfl⟩
theorem ln5 {α : Type} : ∀ {l : List α}, l.length = 5 → ∃ a0 a1 a2 a3 a4, l = [a0, a1, a2, a3, a4]
  | [a0, a1, a2, a3, a4], _ => ⟨a0, a1, a2, a3, a4, rfl⟩
theorem ln6 {α : Type} : ∀ {l : List α}, l.length = 6 → ∃ a0 a1 a2 a3 a4 a5, l = [a0, a1, a2, a3, a4, a5]
  | [a0, a1, a2, a3, a4, a5], _ => ⟨a0, a1, a2, a3, a4, a5, rfl⟩
theorem ln7 {α : Type} : ∀ {l : List α}, l.length = 7 → ∃ a0 a1 a2 a3 a4 a5 a6, l = [a0, a1, a2, a3, a4, a5, a6]
  | [a0, a1, a2, a3, a4, a5, a6], _ => ⟨a0, a1, a2, a3, a4, a5, a6, rfl⟩
theorem ln8 {α : Type} : ∀ {l : List α}, l.length = 8 → ∃ a0 a1 a2 a3 a4 a5 a6 a7, l = [a0, a1, a2, a3, a4, a5, a6, a7]
  | [a0, a1, a2, a3, a4, a5, a6, a7], _ => ⟨a0, a1, a2, a3, a4, a5, a6, a7, rfl⟩
theorem ln9 {α : Type} : ∀ {l : List α}, l.length = 9 → ∃ a0 a1 a2 a3 a4 a5 a6 a7 a8, l = [a0, a1, a2, a3, a4, a5, a6, a7, a8]
  | [a0, a1, a2, a3, a4, a5, a6, a7, a8], _ => ⟨a0, a1, a2, a3, a4, a5, a6, a7, a8, rfl⟩
theorem ln10 {α : Type} : ∀ {l : List α}, l.length = 10 → ∃ a0 a1 a2 a3 a4 a5 a6 a7 a8 a9, l = [a0, a1, a2, a3, a4, a5, a6, a7, a8, a9]
  | [a0, a1, a2, a3, a4, a5, a6, a7, a8, a9], _ => ⟨a0, a1, a2, a3, a4, a5, a6, a7, a8, a9, rfl⟩
theorem ln14 {α : Type} : ∀ {l : List α}, l.length = 14 → ∃ a0 a1 a2 a3 a4 a5 a6 a7 a8 a9 a10 a11 a12 a13, l = [a0, a1, a2, a3, a4, a5, a6, a7, a8, a9, a10, a11, a12, a13]
  | [a0, a1, a2, a3, a4, a5, a6, a7, a8, a9, a10, a11, a12, a13], _ => ⟨a0, a1, a2, a3, a4, a5, a6, a7, a8, a9, a10, a11, a12, a13, rfl⟩
theorem of_take {l m : List Value} {k n j : Nat} {v : Value} (h : (l.drop k).take n = m) (hj : m[j]? = some v) (hn : j < n) : l[k + j]? = some v := by
  subst h
  rw [List.getElem?_take, if_pos hn, List.getElem?_drop] at hj
  exact hj
theorem len_take {l m : List Value} {k n : Nat} (h : (l.drop k).take n = m) (hm : m.length = n) : k + n ≤ l.length ∨ n = 0 := by
  subst h
  simp at hm
  omega
theorem shp_Value {w : World} {cs : List Value} {c : C} (h : Rp Tryz.prog w 23 cs c) : ∃ (i0 : Int) (i1 : Int) (s2 : ByteArray), cs = [.int .i64 i0, .int .i64 i1, .string s2] ∧ c = .a [.l (.int .i64 i0), .l (.int .i64 i1), .l (.string s2)] ∧ s2.size ≤ maxLen := by
  obtain ⟨ys, rfl, hn, hl, hx⟩ := h.struct_inv Tryz.underlying23
  obtain ⟨y0, y1, y2, rfl⟩ := ln3 (hl.trans rfl)
  obtain ⟨u0, u1, u2, rfl⟩ := ln3 (hn.trans zc_Value)
  have h0 := hx 0 (by decide) (by simp)
  have h1 := hx 1 (by decide) (by simp)
  have h2 := hx 2 (by decide) (by simp)
  clear hx h hl
  simp only [zc_int, zc_string, zc_bool, zc_Value, zc_Expr, zc_LExpr, zc_Column, zc_Foreign, zc_Lint, zc_Table, zc_LColumn, zc_LForeign, zc_Clause, zc_Source, zc_Item, zc_Join, zc_Select, zc_LItem, zc_LJoin, zc_Order, zc_Query, zc_LQuery, zc_LOrder, zc_Set, zc_Period, zc_Rect, zc_Hold, zc_Change, zc_Statement, zc_LLExpr, zc_LSet, List.getElem_toArray, List.getElem_cons_zero, List.getElem_cons_succ, List.drop_zero, List.drop_succ_cons, List.take_succ_cons, List.take_zero] at h0 h1 h2
  obtain ⟨i0, e0, f0⟩ := h0.int_inv Tryz.underlying3
  obtain ⟨i1, e1, f1⟩ := h1.int_inv Tryz.underlying3
  obtain ⟨s2, e2, f2, g2⟩ := h2.string_inv Tryz.underlying9
  subst f0
  cases e0
  subst f1
  cases e1
  subst f2
  cases e2
  exact ⟨_, _, _, rfl, rfl, g2⟩
theorem shp_Column {w : World} {cs : List Value} {c : C} (h : Rp Tryz.prog w 55 cs c) : ∃ (s0 : ByteArray) (i1 : Int) (b2 : Bool), cs = [.string s0, .int .i64 i1, .bool b2] ∧ c = .a [.l (.string s0), .l (.int .i64 i1), .l (.bool b2)] ∧ s0.size ≤ maxLen := by
  obtain ⟨ys, rfl, hn, hl, hx⟩ := h.struct_inv Tryz.underlying55
  obtain ⟨y0, y1, y2, rfl⟩ := ln3 (hl.trans rfl)
  obtain ⟨u0, u1, u2, rfl⟩ := ln3 (hn.trans zc_Column)
  have h0 := hx 0 (by decide) (by simp)
  have h1 := hx 1 (by decide) (by simp)
  have h2 := hx 2 (by decide) (by simp)
  clear hx h hl
  simp only [zc_int, zc_string, zc_bool, zc_Value, zc_Expr, zc_LExpr, zc_Column, zc_Foreign, zc_Lint, zc_Table, zc_LColumn, zc_LForeign, zc_Clause, zc_Source, zc_Item, zc_Join, zc_Select, zc_LItem, zc_LJoin, zc_Order, zc_Query, zc_LQuery, zc_LOrder, zc_Set, zc_Period, zc_Rect, zc_Hold, zc_Change, zc_Statement, zc_LLExpr, zc_LSet, List.getElem_toArray, List.getElem_cons_zero, List.getElem_cons_succ, List.drop_zero, List.drop_succ_cons, List.take_succ_cons, List.take_zero] at h0 h1 h2
  obtain ⟨s0, e0, f0, g0⟩ := h0.string_inv Tryz.underlying9
  obtain ⟨i1, e1, f1⟩ := h1.int_inv Tryz.underlying3
  obtain ⟨b2, e2, f2⟩ := h2.bool_inv Tryz.underlying4
  subst f0
  cases e0
  subst f1
  cases e1
  subst f2
  cases e2
  exact ⟨_, _, _, rfl, rfl, g0⟩
theorem shp_Clause {w : World} {cs : List Value} {c : C} (h : Rp Tryz.prog w 37 cs c) : ∃ (i0 : Int) (i1 : Int) (i2 : Int), cs = [.int .i64 i0, .int .i64 i1, .int .i64 i2] ∧ c = .a [.l (.int .i64 i0), .l (.int .i64 i1), .l (.int .i64 i2)] := by
  obtain ⟨ys, rfl, hn, hl, hx⟩ := h.struct_inv Tryz.underlying37
  obtain ⟨y0, y1, y2, rfl⟩ := ln3 (hl.trans rfl)
  obtain ⟨u0, u1, u2, rfl⟩ := ln3 (hn.trans zc_Clause)
  have h0 := hx 0 (by decide) (by simp)
  have h1 := hx 1 (by decide) (by simp)
  have h2 := hx 2 (by decide) (by simp)
  clear hx h hl
  simp only [zc_int, zc_string, zc_bool, zc_Value, zc_Expr, zc_LExpr, zc_Column, zc_Foreign, zc_Lint, zc_Table, zc_LColumn, zc_LForeign, zc_Clause, zc_Source, zc_Item, zc_Join, zc_Select, zc_LItem, zc_LJoin, zc_Order, zc_Query, zc_LQuery, zc_LOrder, zc_Set, zc_Period, zc_Rect, zc_Hold, zc_Change, zc_Statement, zc_LLExpr, zc_LSet, List.getElem_toArray, List.getElem_cons_zero, List.getElem_cons_succ, List.drop_zero, List.drop_succ_cons, List.take_succ_cons, List.take_zero] at h0 h1 h2
  obtain ⟨i0, e0, f0⟩ := h0.int_inv Tryz.underlying3
  obtain ⟨i1, e1, f1⟩ := h1.int_inv Tryz.underlying3
  obtain ⟨i2, e2, f2⟩ := h2.int_inv Tryz.underlying3
  subst f0
  cases e0
  subst f1
  cases e1
  subst f2
  cases e2
  exact ⟨_, _, _, rfl, rfl⟩
theorem shp_Source {w : World} {cs : List Value} {c : C} (h : Rp Tryz.prog w 39 cs c) : ∃ (s0 : ByteArray) (s1 : ByteArray) (i2_0 : Int) (i2_1 : Int) (i2_2 : Int) (i3 : Int), cs = [.string s0, .string s1, .int .i64 i2_0, .int .i64 i2_1, .int .i64 i2_2, .int .i64 i3] ∧ c = .a [.l (.string s0), .l (.string s1), .a [.l (.int .i64 i2_0), .l (.int .i64 i2_1), .l (.int .i64 i2_2)], .l (.int .i64 i3)] ∧ s0.size ≤ maxLen ∧ s1.size ≤ maxLen := by
  obtain ⟨ys, rfl, hn, hl, hx⟩ := h.struct_inv Tryz.underlying39
  obtain ⟨y0, y1, y2, y3, rfl⟩ := ln4 (hl.trans rfl)
  obtain ⟨u0, u1, u2, u3, u4, u5, rfl⟩ := ln6 (hn.trans zc_Source)
  have h0 := hx 0 (by decide) (by simp)
  have h1 := hx 1 (by decide) (by simp)
  have h2 := hx 2 (by decide) (by simp)
  have h3 := hx 3 (by decide) (by simp)
  clear hx h hl
  simp only [zc_int, zc_string, zc_bool, zc_Value, zc_Expr, zc_LExpr, zc_Column, zc_Foreign, zc_Lint, zc_Table, zc_LColumn, zc_LForeign, zc_Clause, zc_Source, zc_Item, zc_Join, zc_Select, zc_LItem, zc_LJoin, zc_Order, zc_Query, zc_LQuery, zc_LOrder, zc_Set, zc_Period, zc_Rect, zc_Hold, zc_Change, zc_Statement, zc_LLExpr, zc_LSet, List.getElem_toArray, List.getElem_cons_zero, List.getElem_cons_succ, List.drop_zero, List.drop_succ_cons, List.take_succ_cons, List.take_zero] at h0 h1 h2 h3
  obtain ⟨s0, e0, f0, g0⟩ := h0.string_inv Tryz.underlying9
  obtain ⟨s1, e1, f1, g1⟩ := h1.string_inv Tryz.underlying9
  obtain ⟨i2_0, i2_1, i2_2, e2, f2⟩ := shp_Clause h2
  obtain ⟨i3, e3, f3⟩ := h3.int_inv Tryz.underlying3
  subst f0
  cases e0
  subst f1
  cases e1
  subst f2
  cases e2
  subst f3
  cases e3
  exact ⟨_, _, _, _, _, _, rfl, rfl, g0, g1⟩
theorem shp_Period {w : World} {cs : List Value} {c : C} (h : Rp Tryz.prog w 34 cs c) : ∃ (i0 : Int) (i1 : Int), cs = [.int .i64 i0, .int .i64 i1] ∧ c = .a [.l (.int .i64 i0), .l (.int .i64 i1)] := by
  obtain ⟨ys, rfl, hn, hl, hx⟩ := h.struct_inv Tryz.underlying34
  obtain ⟨y0, y1, rfl⟩ := ln2 (hl.trans rfl)
  obtain ⟨u0, u1, rfl⟩ := ln2 (hn.trans zc_Period)
  have h0 := hx 0 (by decide) (by simp)
  have h1 := hx 1 (by decide) (by simp)
  clear hx h hl
  simp only [zc_int, zc_string, zc_bool, zc_Value, zc_Expr, zc_LExpr, zc_Column, zc_Foreign, zc_Lint, zc_Table, zc_LColumn, zc_LForeign, zc_Clause, zc_Source, zc_Item, zc_Join, zc_Select, zc_LItem, zc_LJoin, zc_Order, zc_Query, zc_LQuery, zc_LOrder, zc_Set, zc_Period, zc_Rect, zc_Hold, zc_Change, zc_Statement, zc_LLExpr, zc_LSet, List.getElem_toArray, List.getElem_cons_zero, List.getElem_cons_succ, List.drop_zero, List.drop_succ_cons, List.take_succ_cons, List.take_zero] at h0 h1
  obtain ⟨i0, e0, f0⟩ := h0.int_inv Tryz.underlying3
  obtain ⟨i1, e1, f1⟩ := h1.int_inv Tryz.underlying3
  subst f0
  cases e0
  subst f1
  cases e1
  exact ⟨_, _, rfl, rfl⟩
theorem shp_Rect {w : World} {cs : List Value} {c : C} (h : Rp Tryz.prog w 59 cs c) : ∃ (i0_0 : Int) (i0_1 : Int) (i1_0 : Int) (i1_1 : Int), cs = [.int .i64 i0_0, .int .i64 i0_1, .int .i64 i1_0, .int .i64 i1_1] ∧ c = .a [.a [.l (.int .i64 i0_0), .l (.int .i64 i0_1)], .a [.l (.int .i64 i1_0), .l (.int .i64 i1_1)]] := by
  obtain ⟨ys, rfl, hn, hl, hx⟩ := h.struct_inv Tryz.underlying59
  obtain ⟨y0, y1, rfl⟩ := ln2 (hl.trans rfl)
  obtain ⟨u0, u1, u2, u3, rfl⟩ := ln4 (hn.trans zc_Rect)
  have h0 := hx 0 (by decide) (by simp)
  have h1 := hx 1 (by decide) (by simp)
  clear hx h hl
  simp only [zc_int, zc_string, zc_bool, zc_Value, zc_Expr, zc_LExpr, zc_Column, zc_Foreign, zc_Lint, zc_Table, zc_LColumn, zc_LForeign, zc_Clause, zc_Source, zc_Item, zc_Join, zc_Select, zc_LItem, zc_LJoin, zc_Order, zc_Query, zc_LQuery, zc_LOrder, zc_Set, zc_Period, zc_Rect, zc_Hold, zc_Change, zc_Statement, zc_LLExpr, zc_LSet, List.getElem_toArray, List.getElem_cons_zero, List.getElem_cons_succ, List.drop_zero, List.drop_succ_cons, List.take_succ_cons, List.take_zero] at h0 h1
  obtain ⟨i0_0, i0_1, e0, f0⟩ := shp_Period h0
  obtain ⟨i1_0, i1_1, e1, f1⟩ := shp_Period h1
  subst f0
  cases e0
  subst f1
  cases e1
  exact ⟨_, _, _, _, rfl, rfl⟩
theorem shp_Hold {w : World} {cs : List Value} {c : C} (h : Rp Tryz.prog w 61 cs c) : ∃ (s0 : ByteArray) (s1 : ByteArray) (i2_0_0 : Int) (i2_0_1 : Int) (i2_1_0 : Int) (i2_1_1 : Int), cs = [.string s0, .string s1, .int .i64 i2_0_0, .int .i64 i2_0_1, .int .i64 i2_1_0, .int .i64 i2_1_1] ∧ c = .a [.l (.string s0), .l (.string s1), .a [.a [.l (.int .i64 i2_0_0), .l (.int .i64 i2_0_1)], .a [.l (.int .i64 i2_1_0), .l (.int .i64 i2_1_1)]]] ∧ s0.size ≤ maxLen ∧ s1.size ≤ maxLen := by
  obtain ⟨ys, rfl, hn, hl, hx⟩ := h.struct_inv Tryz.underlying61
  obtain ⟨y0, y1, y2, rfl⟩ := ln3 (hl.trans rfl)
  obtain ⟨u0, u1, u2, u3, u4, u5, rfl⟩ := ln6 (hn.trans zc_Hold)
  have h0 := hx 0 (by decide) (by simp)
  have h1 := hx 1 (by decide) (by simp)
  have h2 := hx 2 (by decide) (by simp)
  clear hx h hl
  simp only [zc_int, zc_string, zc_bool, zc_Value, zc_Expr, zc_LExpr, zc_Column, zc_Foreign, zc_Lint, zc_Table, zc_LColumn, zc_LForeign, zc_Clause, zc_Source, zc_Item, zc_Join, zc_Select, zc_LItem, zc_LJoin, zc_Order, zc_Query, zc_LQuery, zc_LOrder, zc_Set, zc_Period, zc_Rect, zc_Hold, zc_Change, zc_Statement, zc_LLExpr, zc_LSet, List.getElem_toArray, List.getElem_cons_zero, List.getElem_cons_succ, List.drop_zero, List.drop_succ_cons, List.take_succ_cons, List.take_zero] at h0 h1 h2
  obtain ⟨s0, e0, f0, g0⟩ := h0.string_inv Tryz.underlying9
  obtain ⟨s1, e1, f1, g1⟩ := h1.string_inv Tryz.underlying9
  obtain ⟨i2_0_0, i2_0_1, i2_1_0, i2_1_1, e2, f2⟩ := shp_Rect h2
  subst f0
  cases e0
  subst f1
  cases e1
  subst f2
  cases e2
  exact ⟨_, _, _, _, _, _, rfl, rfl, g0, g1⟩
theorem shp_Change {w : World} {cs : List Value} {c : C} (h : Rp Tryz.prog w 57 cs c) : ∃ (i0 : Int) (s1 : ByteArray) (s2 : ByteArray) (s3_0 : ByteArray) (i3_1 : Int) (b3_2 : Bool) (i4_0 : Int) (i4_1 : Int) (s4_2 : ByteArray), cs = [.int .i64 i0, .string s1, .string s2, .string s3_0, .int .i64 i3_1, .bool b3_2, .int .i64 i4_0, .int .i64 i4_1, .string s4_2] ∧ c = .a [.l (.int .i64 i0), .l (.string s1), .l (.string s2), .a [.l (.string s3_0), .l (.int .i64 i3_1), .l (.bool b3_2)], .a [.l (.int .i64 i4_0), .l (.int .i64 i4_1), .l (.string s4_2)]] ∧ s1.size ≤ maxLen ∧ s2.size ≤ maxLen ∧ s3_0.size ≤ maxLen ∧ s4_2.size ≤ maxLen := by
  obtain ⟨ys, rfl, hn, hl, hx⟩ := h.struct_inv Tryz.underlying57
  obtain ⟨y0, y1, y2, y3, y4, rfl⟩ := ln5 (hl.trans rfl)
  obtain ⟨u0, u1, u2, u3, u4, u5, u6, u7, u8, rfl⟩ := ln9 (hn.trans zc_Change)
  have h0 := hx 0 (by decide) (by simp)
  have h1 := hx 1 (by decide) (by simp)
  have h2 := hx 2 (by decide) (by simp)
  have h3 := hx 3 (by decide) (by simp)
  have h4 := hx 4 (by decide) (by simp)
  clear hx h hl
  simp only [zc_int, zc_string, zc_bool, zc_Value, zc_Expr, zc_LExpr, zc_Column, zc_Foreign, zc_Lint, zc_Table, zc_LColumn, zc_LForeign, zc_Clause, zc_Source, zc_Item, zc_Join, zc_Select, zc_LItem, zc_LJoin, zc_Order, zc_Query, zc_LQuery, zc_LOrder, zc_Set, zc_Period, zc_Rect, zc_Hold, zc_Change, zc_Statement, zc_LLExpr, zc_LSet, List.getElem_toArray, List.getElem_cons_zero, List.getElem_cons_succ, List.drop_zero, List.drop_succ_cons, List.take_succ_cons, List.take_zero] at h0 h1 h2 h3 h4
  obtain ⟨i0, e0, f0⟩ := h0.int_inv Tryz.underlying3
  obtain ⟨s1, e1, f1, g1⟩ := h1.string_inv Tryz.underlying9
  obtain ⟨s2, e2, f2, g2⟩ := h2.string_inv Tryz.underlying9
  obtain ⟨s3_0, i3_1, b3_2, e3, f3, g3_0⟩ := shp_Column h3
  obtain ⟨i4_0, i4_1, s4_2, e4, f4, g4_0⟩ := shp_Value h4
  subst f0
  cases e0
  subst f1
  cases e1
  subst f2
  cases e2
  subst f3
  cases e3
  subst f4
  cases e4
  exact ⟨_, _, _, _, _, _, _, _, _, rfl, rfl, g1, g2, g3_0, g4_0⟩
theorem shp_Order {w : World} {cs : List Value} {c : C} (h : Rp Tryz.prog w 115 cs c) : ∃ (i0 : Int) (b1 : Bool), cs = [.int .i64 i0, .bool b1] ∧ c = .a [.l (.int .i64 i0), .l (.bool b1)] := by
  obtain ⟨ys, rfl, hn, hl, hx⟩ := h.struct_inv Tryz.underlying115
  obtain ⟨y0, y1, rfl⟩ := ln2 (hl.trans rfl)
  obtain ⟨u0, u1, rfl⟩ := ln2 (hn.trans zc_Order)
  have h0 := hx 0 (by decide) (by simp)
  have h1 := hx 1 (by decide) (by simp)
  clear hx h hl
  simp only [zc_int, zc_string, zc_bool, zc_Value, zc_Expr, zc_LExpr, zc_Column, zc_Foreign, zc_Lint, zc_Table, zc_LColumn, zc_LForeign, zc_Clause, zc_Source, zc_Item, zc_Join, zc_Select, zc_LItem, zc_LJoin, zc_Order, zc_Query, zc_LQuery, zc_LOrder, zc_Set, zc_Period, zc_Rect, zc_Hold, zc_Change, zc_Statement, zc_LLExpr, zc_LSet, List.getElem_toArray, List.getElem_cons_zero, List.getElem_cons_succ, List.drop_zero, List.drop_succ_cons, List.take_succ_cons, List.take_zero] at h0 h1
  obtain ⟨i0, e0, f0⟩ := h0.int_inv Tryz.underlying3
  obtain ⟨b1, e1, f1⟩ := h1.bool_inv Tryz.underlying4
  subst f0
  cases e0
  subst f1
  cases e1
  exact ⟨_, _, rfl, rfl⟩
theorem shp_Expr {w : World} {cs : List Value} {c : C} (h : Rp Tryz.prog w 26 cs c) : ∃ (i0 : Int) (i1 : Int) (i2_0 : Int) (i2_1 : Int) (s2_2 : ByteArray) (s3 : ByteArray) (q4 : Option Addr) (n4 : Nat) (m4 : Nat) (x4 : List C), cs = [.int .i64 i0, .int .i64 i1, .int .i64 i2_0, .int .i64 i2_1, .string s2_2, .string s3, .slice q4 n4 m4] ∧ c = .a [.l (.int .i64 i0), .l (.int .i64 i1), .a [.l (.int .i64 i2_0), .l (.int .i64 i2_1), .l (.string s2_2)], .l (.string s3), .s x4] ∧ s2_2.size ≤ maxLen ∧ s3.size ≤ maxLen ∧ x4.length = n4 ∧ Rp Tryz.prog w 24 [.slice q4 n4 m4] (.s x4) := by
  obtain ⟨ys, rfl, hn, hl, hx⟩ := h.struct_inv Tryz.underlying26
  obtain ⟨y0, y1, y2, y3, y4, rfl⟩ := ln5 (hl.trans rfl)
  obtain ⟨u0, u1, u2, u3, u4, u5, u6, rfl⟩ := ln7 (hn.trans zc_Expr)
  have h0 := hx 0 (by decide) (by simp)
  have h1 := hx 1 (by decide) (by simp)
  have h2 := hx 2 (by decide) (by simp)
  have h3 := hx 3 (by decide) (by simp)
  have h4 := hx 4 (by decide) (by simp)
  clear hx h hl
  simp only [zc_int, zc_string, zc_bool, zc_Value, zc_Expr, zc_LExpr, zc_Column, zc_Foreign, zc_Lint, zc_Table, zc_LColumn, zc_LForeign, zc_Clause, zc_Source, zc_Item, zc_Join, zc_Select, zc_LItem, zc_LJoin, zc_Order, zc_Query, zc_LQuery, zc_LOrder, zc_Set, zc_Period, zc_Rect, zc_Hold, zc_Change, zc_Statement, zc_LLExpr, zc_LSet, List.getElem_toArray, List.getElem_cons_zero, List.getElem_cons_succ, List.drop_zero, List.drop_succ_cons, List.take_succ_cons, List.take_zero] at h0 h1 h2 h3 h4
  obtain ⟨i0, e0, f0⟩ := h0.int_inv Tryz.underlying3
  obtain ⟨i1, e1, f1⟩ := h1.int_inv Tryz.underlying3
  obtain ⟨i2_0, i2_1, s2_2, e2, f2, g2_0⟩ := shp_Value h2
  obtain ⟨s3, e3, f3, g3⟩ := h3.string_inv Tryz.underlying9
  obtain ⟨q4, n4, m4, x4, e4, f4, l4, lm4, _⟩ := h4.slice_inv Tryz.underlying24
  subst f0
  cases e0
  subst f1
  cases e1
  subst f2
  cases e2
  subst f3
  cases e3
  subst f4
  cases e4
  exact ⟨_, _, _, _, _, _, _, _, _, _, rfl, rfl, g2_0, g3, l4, h4⟩
theorem shp_Foreign {w : World} {cs : List Value} {c : C} (h : Rp Tryz.prog w 122 cs c) : ∃ (q0 : Option Addr) (n0 : Nat) (m0 : Nat) (x0 : List C) (s1 : ByteArray), cs = [.slice q0 n0 m0, .string s1] ∧ c = .a [.s x0, .l (.string s1)] ∧ x0.length = n0 ∧ Rp Tryz.prog w 50 [.slice q0 n0 m0] (.s x0) ∧ s1.size ≤ maxLen := by
  obtain ⟨ys, rfl, hn, hl, hx⟩ := h.struct_inv Tryz.underlying122
  obtain ⟨y0, y1, rfl⟩ := ln2 (hl.trans rfl)
  obtain ⟨u0, u1, rfl⟩ := ln2 (hn.trans zc_Foreign)
  have h0 := hx 0 (by decide) (by simp)
  have h1 := hx 1 (by decide) (by simp)
  clear hx h hl
  simp only [zc_int, zc_string, zc_bool, zc_Value, zc_Expr, zc_LExpr, zc_Column, zc_Foreign, zc_Lint, zc_Table, zc_LColumn, zc_LForeign, zc_Clause, zc_Source, zc_Item, zc_Join, zc_Select, zc_LItem, zc_LJoin, zc_Order, zc_Query, zc_LQuery, zc_LOrder, zc_Set, zc_Period, zc_Rect, zc_Hold, zc_Change, zc_Statement, zc_LLExpr, zc_LSet, List.getElem_toArray, List.getElem_cons_zero, List.getElem_cons_succ, List.drop_zero, List.drop_succ_cons, List.take_succ_cons, List.take_zero] at h0 h1
  obtain ⟨q0, n0, m0, x0, e0, f0, l0, lm0, _⟩ := h0.slice_inv Tryz.underlying50
  obtain ⟨s1, e1, f1, g1⟩ := h1.string_inv Tryz.underlying9
  subst f0
  cases e0
  subst f1
  cases e1
  exact ⟨_, _, _, _, _, rfl, rfl, l0, h0, g1⟩
theorem shp_Table {w : World} {cs : List Value} {c : C} (h : Rp Tryz.prog w 53 cs c) : ∃ (s0 : ByteArray) (q1 : Option Addr) (n1 : Nat) (m1 : Nat) (x1 : List C) (q2 : Option Addr) (n2 : Nat) (m2 : Nat) (x2 : List C) (q3 : Option Addr) (n3 : Nat) (m3 : Nat) (x3 : List C) (q4 : Option Addr) (n4 : Nat) (m4 : Nat) (x4 : List C), cs = [.string s0, .slice q1 n1 m1, .slice q2 n2 m2, .slice q3 n3 m3, .slice q4 n4 m4] ∧ c = .a [.l (.string s0), .s x1, .s x2, .s x3, .s x4] ∧ s0.size ≤ maxLen ∧ x1.length = n1 ∧ Rp Tryz.prog w 49 [.slice q1 n1 m1] (.s x1) ∧ x2.length = n2 ∧ Rp Tryz.prog w 50 [.slice q2 n2 m2] (.s x2) ∧ x3.length = n3 ∧ Rp Tryz.prog w 51 [.slice q3 n3 m3] (.s x3) ∧ x4.length = n4 ∧ Rp Tryz.prog w 24 [.slice q4 n4 m4] (.s x4) := by
  obtain ⟨ys, rfl, hn, hl, hx⟩ := h.struct_inv Tryz.underlying53
  obtain ⟨y0, y1, y2, y3, y4, rfl⟩ := ln5 (hl.trans rfl)
  obtain ⟨u0, u1, u2, u3, u4, rfl⟩ := ln5 (hn.trans zc_Table)
  have h0 := hx 0 (by decide) (by simp)
  have h1 := hx 1 (by decide) (by simp)
  have h2 := hx 2 (by decide) (by simp)
  have h3 := hx 3 (by decide) (by simp)
  have h4 := hx 4 (by decide) (by simp)
  clear hx h hl
  simp only [zc_int, zc_string, zc_bool, zc_Value, zc_Expr, zc_LExpr, zc_Column, zc_Foreign, zc_Lint, zc_Table, zc_LColumn, zc_LForeign, zc_Clause, zc_Source, zc_Item, zc_Join, zc_Select, zc_LItem, zc_LJoin, zc_Order, zc_Query, zc_LQuery, zc_LOrder, zc_Set, zc_Period, zc_Rect, zc_Hold, zc_Change, zc_Statement, zc_LLExpr, zc_LSet, List.getElem_toArray, List.getElem_cons_zero, List.getElem_cons_succ, List.drop_zero, List.drop_succ_cons, List.take_succ_cons, List.take_zero] at h0 h1 h2 h3 h4
  obtain ⟨s0, e0, f0, g0⟩ := h0.string_inv Tryz.underlying9
  obtain ⟨q1, n1, m1, x1, e1, f1, l1, lm1, _⟩ := h1.slice_inv Tryz.underlying49
  obtain ⟨q2, n2, m2, x2, e2, f2, l2, lm2, _⟩ := h2.slice_inv Tryz.underlying50
  obtain ⟨q3, n3, m3, x3, e3, f3, l3, lm3, _⟩ := h3.slice_inv Tryz.underlying51
  obtain ⟨q4, n4, m4, x4, e4, f4, l4, lm4, _⟩ := h4.slice_inv Tryz.underlying24
  subst f0
  cases e0
  subst f1
  cases e1
  subst f2
  cases e2
  subst f3
  cases e3
  subst f4
  cases e4
  exact ⟨_, _, _, _, _, _, _, _, _, _, _, _, _, _, _, _, _, rfl, rfl, g0, l1, h1, l2, h2, l3, h3, l4, h4⟩
theorem shp_Item {w : World} {cs : List Value} {c : C} (h : Rp Tryz.prog w 171 cs c) : ∃ (y0 : C) (u0 : Value) (u1 : Value) (u2 : Value) (u3 : Value) (u4 : Value) (u5 : Value) (u6 : Value) (i1 : Int) (b2 : Bool) (s3 : ByteArray), cs = [u0, u1, u2, u3, u4, u5, u6, .int .i64 i1, .bool b2, .string s3] ∧ c = .a [y0, .l (.int .i64 i1), .l (.bool b2), .l (.string s3)] ∧ Rp Tryz.prog w 26 [u0, u1, u2, u3, u4, u5, u6] y0 ∧ s3.size ≤ maxLen := by
  obtain ⟨ys, rfl, hn, hl, hx⟩ := h.struct_inv Tryz.underlying171
  obtain ⟨y0, y1, y2, y3, rfl⟩ := ln4 (hl.trans rfl)
  obtain ⟨u0, u1, u2, u3, u4, u5, u6, u7, u8, u9, rfl⟩ := ln10 (hn.trans zc_Item)
  have h0 := hx 0 (by decide) (by simp)
  have h1 := hx 1 (by decide) (by simp)
  have h2 := hx 2 (by decide) (by simp)
  have h3 := hx 3 (by decide) (by simp)
  clear hx h hl
  simp only [zc_int, zc_string, zc_bool, zc_Value, zc_Expr, zc_LExpr, zc_Column, zc_Foreign, zc_Lint, zc_Table, zc_LColumn, zc_LForeign, zc_Clause, zc_Source, zc_Item, zc_Join, zc_Select, zc_LItem, zc_LJoin, zc_Order, zc_Query, zc_LQuery, zc_LOrder, zc_Set, zc_Period, zc_Rect, zc_Hold, zc_Change, zc_Statement, zc_LLExpr, zc_LSet, List.getElem_toArray, List.getElem_cons_zero, List.getElem_cons_succ, List.drop_zero, List.drop_succ_cons, List.take_succ_cons, List.take_zero] at h0 h1 h2 h3
  obtain ⟨i1, e1, f1⟩ := h1.int_inv Tryz.underlying3
  obtain ⟨b2, e2, f2⟩ := h2.bool_inv Tryz.underlying4
  obtain ⟨s3, e3, f3, g3⟩ := h3.string_inv Tryz.underlying9
  subst f1
  cases e1
  subst f2
  cases e2
  subst f3
  cases e3
  exact ⟨_, _, _, _, _, _, _, _, _, _, _, rfl, rfl, h0, g3⟩
theorem shp_Join {w : World} {cs : List Value} {c : C} (h : Rp Tryz.prog w 175 cs c) : ∃ (s0_0 : ByteArray) (s0_1 : ByteArray) (i0_2_0 : Int) (i0_2_1 : Int) (i0_2_2 : Int) (i0_3 : Int) (b1 : Bool) (y2 : C) (u7 : Value) (u8 : Value) (u9 : Value) (u10 : Value) (u11 : Value) (u12 : Value) (u13 : Value), cs = [.string s0_0, .string s0_1, .int .i64 i0_2_0, .int .i64 i0_2_1, .int .i64 i0_2_2, .int .i64 i0_3, .bool b1, u7, u8, u9, u10, u11, u12, u13] ∧ c = .a [.a [.l (.string s0_0), .l (.string s0_1), .a [.l (.int .i64 i0_2_0), .l (.int .i64 i0_2_1), .l (.int .i64 i0_2_2)], .l (.int .i64 i0_3)], .l (.bool b1), y2] ∧ s0_0.size ≤ maxLen ∧ s0_1.size ≤ maxLen ∧ Rp Tryz.prog w 26 [u7, u8, u9, u10, u11, u12, u13] y2 := by
  obtain ⟨ys, rfl, hn, hl, hx⟩ := h.struct_inv Tryz.underlying175
  obtain ⟨y0, y1, y2, rfl⟩ := ln3 (hl.trans rfl)
  obtain ⟨u0, u1, u2, u3, u4, u5, u6, u7, u8, u9, u10, u11, u12, u13, rfl⟩ := ln14 (hn.trans zc_Join)
  have h0 := hx 0 (by decide) (by simp)
  have h1 := hx 1 (by decide) (by simp)
  have h2 := hx 2 (by decide) (by simp)
  clear hx h hl
  simp only [zc_int, zc_string, zc_bool, zc_Value, zc_Expr, zc_LExpr, zc_Column, zc_Foreign, zc_Lint, zc_Table, zc_LColumn, zc_LForeign, zc_Clause, zc_Source, zc_Item, zc_Join, zc_Select, zc_LItem, zc_LJoin, zc_Order, zc_Query, zc_LQuery, zc_LOrder, zc_Set, zc_Period, zc_Rect, zc_Hold, zc_Change, zc_Statement, zc_LLExpr, zc_LSet, List.getElem_toArray, List.getElem_cons_zero, List.getElem_cons_succ, List.drop_zero, List.drop_succ_cons, List.take_succ_cons, List.take_zero] at h0 h1 h2
  obtain ⟨s0_0, s0_1, i0_2_0, i0_2_1, i0_2_2, i0_3, e0, f0, g0_0, g0_1⟩ := shp_Source h0
  obtain ⟨b1, e1, f1⟩ := h1.bool_inv Tryz.underlying4
  subst f0
  cases e0
  subst f1
  cases e1
  exact ⟨_, _, _, _, _, _, _, _, _, _, _, _, _, _, _, rfl, rfl, g0_0, g0_1, h2⟩
theorem shp_Set {w : World} {cs : List Value} {c : C} (h : Rp Tryz.prog w 87 cs c) : ∃ (s0 : ByteArray) (y1 : C) (u1 : Value) (u2 : Value) (u3 : Value) (u4 : Value) (u5 : Value) (u6 : Value) (u7 : Value), cs = [.string s0, u1, u2, u3, u4, u5, u6, u7] ∧ c = .a [.l (.string s0), y1] ∧ s0.size ≤ maxLen ∧ Rp Tryz.prog w 26 [u1, u2, u3, u4, u5, u6, u7] y1 := by
  obtain ⟨ys, rfl, hn, hl, hx⟩ := h.struct_inv Tryz.underlying87
  obtain ⟨y0, y1, rfl⟩ := ln2 (hl.trans rfl)
  obtain ⟨u0, u1, u2, u3, u4, u5, u6, u7, rfl⟩ := ln8 (hn.trans zc_Set)
  have h0 := hx 0 (by decide) (by simp)
  have h1 := hx 1 (by decide) (by simp)
  clear hx h hl
  simp only [zc_int, zc_string, zc_bool, zc_Value, zc_Expr, zc_LExpr, zc_Column, zc_Foreign, zc_Lint, zc_Table, zc_LColumn, zc_LForeign, zc_Clause, zc_Source, zc_Item, zc_Join, zc_Select, zc_LItem, zc_LJoin, zc_Order, zc_Query, zc_LQuery, zc_LOrder, zc_Set, zc_Period, zc_Rect, zc_Hold, zc_Change, zc_Statement, zc_LLExpr, zc_LSet, List.getElem_toArray, List.getElem_cons_zero, List.getElem_cons_succ, List.drop_zero, List.drop_succ_cons, List.take_succ_cons, List.take_zero] at h0 h1
  obtain ⟨s0, e0, f0, g0⟩ := h0.string_inv Tryz.underlying9
  subst f0
  cases e0
  exact ⟨_, _, _, _, _, _, _, _, _, rfl, rfl, g0, h1⟩
theorem shp_Select {w : World} {cs : List Value} {c : C} (h : Rp Tryz.prog w 42 cs c) : ∃ (b0 : Bool) (q1 : Option Addr) (n1 : Nat) (m1 : Nat) (x1 : List C) (s2_0 : ByteArray) (s2_1 : ByteArray) (i2_2_0 : Int) (i2_2_1 : Int) (i2_2_2 : Int) (i2_3 : Int) (q3 : Option Addr) (n3 : Nat) (m3 : Nat) (x3 : List C) (b4 : Bool) (y5 : C) (q6 : Option Addr) (n6 : Nat) (m6 : Nat) (x6 : List C), cs.length = 18 ∧ c = .a [.l (.bool b0), .s x1, .a [.l (.string s2_0), .l (.string s2_1), .a [.l (.int .i64 i2_2_0), .l (.int .i64 i2_2_1), .l (.int .i64 i2_2_2)], .l (.int .i64 i2_3)], .s x3, .l (.bool b4), y5, .s x6] ∧ cs[0]? = some (.bool b0) ∧ x1.length = n1 ∧ cs[1]? = some (.slice q1 n1 m1) ∧ Rp Tryz.prog w 35 [.slice q1 n1 m1] (.s x1) ∧ s2_0.size ≤ maxLen ∧ s2_1.size ≤ maxLen ∧ cs[2]? = some (.string s2_0) ∧ cs[3]? = some (.string s2_1) ∧ cs[4]? = some (.int .i64 i2_2_0) ∧ cs[5]? = some (.int .i64 i2_2_1) ∧ cs[6]? = some (.int .i64 i2_2_2) ∧ cs[7]? = some (.int .i64 i2_3) ∧ x3.length = n3 ∧ cs[8]? = some (.slice q3 n3 m3) ∧ Rp Tryz.prog w 40 [.slice q3 n3 m3] (.s x3) ∧ cs[9]? = some (.bool b4) ∧ Rp Tryz.prog w 26 ((cs.drop 10).take 7) y5 ∧ x6.length = n6 ∧ cs[17]? = some (.slice q6 n6 m6) ∧ Rp Tryz.prog w 24 [.slice q6 n6 m6] (.s x6) := by
  obtain ⟨ys, rfl, hn, hl, hx⟩ := h.struct_inv Tryz.underlying42
  obtain ⟨y0, y1, y2, y3, y4, y5, y6, rfl⟩ := ln7 (hl.trans rfl)
  rw [zc_Select] at hn
  have h0 := hx 0 (by decide) (by simp)
  have h1 := hx 1 (by decide) (by simp)
  have h2 := hx 2 (by decide) (by simp)
  have h3 := hx 3 (by decide) (by simp)
  have h4 := hx 4 (by decide) (by simp)
  have h5 := hx 5 (by decide) (by simp)
  have h6 := hx 6 (by decide) (by simp)
  clear hx h hl
  simp only [zc_int, zc_string, zc_bool, zc_Value, zc_Expr, zc_LExpr, zc_Column, zc_Foreign, zc_Lint, zc_Table, zc_LColumn, zc_LForeign, zc_Clause, zc_Source, zc_Item, zc_Join, zc_Select, zc_LItem, zc_LJoin, zc_Order, zc_Query, zc_LQuery, zc_LOrder, zc_Set, zc_Period, zc_Rect, zc_Hold, zc_Change, zc_Statement, zc_LLExpr, zc_LSet, List.getElem_toArray, List.getElem_cons_zero, List.getElem_cons_succ, List.drop_zero, List.drop_succ_cons, List.take_succ_cons, List.take_zero] at h0 h1 h2 h3 h4 h5 h6
  obtain ⟨b0, e0, f0⟩ := h0.bool_inv Tryz.underlying4
  obtain ⟨q1, n1, m1, x1, e1, f1, l1, lm1, _⟩ := h1.slice_inv Tryz.underlying35
  obtain ⟨s2_0, s2_1, i2_2_0, i2_2_1, i2_2_2, i2_3, e2, f2, g2_0, g2_1⟩ := shp_Source h2
  obtain ⟨q3, n3, m3, x3, e3, f3, l3, lm3, _⟩ := h3.slice_inv Tryz.underlying40
  obtain ⟨b4, e4, f4⟩ := h4.bool_inv Tryz.underlying4
  obtain ⟨q6, n6, m6, x6, e6, f6, l6, lm6, _⟩ := h6.slice_inv Tryz.underlying24
  subst f0
  subst f1
  subst f2
  subst f3
  subst f4
  subst f6
  exact ⟨_, _, _, _, _, _, _, _, _, _, _, _, _, _, _, _, _, _, _, _, _, hn, rfl, of_take e0 (j := 0) rfl (by omega), l1, of_take e1 (j := 0) rfl (by omega), by first | (rw [e1] at h1; exact h1) | exact h1, g2_0, g2_1, of_take e2 (j := 0) rfl (by omega), of_take e2 (j := 1) rfl (by omega), of_take e2 (j := 2) rfl (by omega), of_take e2 (j := 3) rfl (by omega), of_take e2 (j := 4) rfl (by omega), of_take e2 (j := 5) rfl (by omega), l3, of_take e3 (j := 0) rfl (by omega), by first | (rw [e3] at h3; exact h3) | exact h3, of_take e4 (j := 0) rfl (by omega), h5, l6, of_take e6 (j := 0) rfl (by omega), by first | (rw [e6] at h6; exact h6) | exact h6⟩
theorem shp_Query {w : World} {cs : List Value} {c : C} (h : Rp Tryz.prog w 46 cs c) : ∃ (i0 : Int) (b1 : Bool) (y2 : C) (q3 : Option Addr) (n3 : Nat) (m3 : Nat) (x3 : List C) (q4 : Option Addr) (n4 : Nat) (m4 : Nat) (x4 : List C) (i5 : Int), cs.length = 23 ∧ c = .a [.l (.int .i64 i0), .l (.bool b1), y2, .s x3, .s x4, .l (.int .i64 i5)] ∧ cs[0]? = some (.int .i64 i0) ∧ cs[1]? = some (.bool b1) ∧ Rp Tryz.prog w 42 ((cs.drop 2).take 18) y2 ∧ x3.length = n3 ∧ cs[20]? = some (.slice q3 n3 m3) ∧ Rp Tryz.prog w 43 [.slice q3 n3 m3] (.s x3) ∧ x4.length = n4 ∧ cs[21]? = some (.slice q4 n4 m4) ∧ Rp Tryz.prog w 44 [.slice q4 n4 m4] (.s x4) ∧ cs[22]? = some (.int .i64 i5) := by
  obtain ⟨ys, rfl, hn, hl, hx⟩ := h.struct_inv Tryz.underlying46
  obtain ⟨y0, y1, y2, y3, y4, y5, rfl⟩ := ln6 (hl.trans rfl)
  rw [zc_Query] at hn
  have h0 := hx 0 (by decide) (by simp)
  have h1 := hx 1 (by decide) (by simp)
  have h2 := hx 2 (by decide) (by simp)
  have h3 := hx 3 (by decide) (by simp)
  have h4 := hx 4 (by decide) (by simp)
  have h5 := hx 5 (by decide) (by simp)
  clear hx h hl
  simp only [zc_int, zc_string, zc_bool, zc_Value, zc_Expr, zc_LExpr, zc_Column, zc_Foreign, zc_Lint, zc_Table, zc_LColumn, zc_LForeign, zc_Clause, zc_Source, zc_Item, zc_Join, zc_Select, zc_LItem, zc_LJoin, zc_Order, zc_Query, zc_LQuery, zc_LOrder, zc_Set, zc_Period, zc_Rect, zc_Hold, zc_Change, zc_Statement, zc_LLExpr, zc_LSet, List.getElem_toArray, List.getElem_cons_zero, List.getElem_cons_succ, List.drop_zero, List.drop_succ_cons, List.take_succ_cons, List.take_zero] at h0 h1 h2 h3 h4 h5
  obtain ⟨i0, e0, f0⟩ := h0.int_inv Tryz.underlying3
  obtain ⟨b1, e1, f1⟩ := h1.bool_inv Tryz.underlying4
  obtain ⟨q3, n3, m3, x3, e3, f3, l3, lm3, _⟩ := h3.slice_inv Tryz.underlying43
  obtain ⟨q4, n4, m4, x4, e4, f4, l4, lm4, _⟩ := h4.slice_inv Tryz.underlying44
  obtain ⟨i5, e5, f5⟩ := h5.int_inv Tryz.underlying3
  subst f0
  subst f1
  subst f3
  subst f4
  subst f5
  exact ⟨_, _, _, _, _, _, _, _, _, _, _, _, hn, rfl, of_take e0 (j := 0) rfl (by omega), of_take e1 (j := 0) rfl (by omega), h2, l3, of_take e3 (j := 0) rfl (by omega), by first | (rw [e3] at h3; exact h3) | exact h3, l4, of_take e4 (j := 0) rfl (by omega), by first | (rw [e4] at h4; exact h4) | exact h4, of_take e5 (j := 0) rfl (by omega)⟩
theorem shp_Statement {w : World} {cs : List Value} {c : C} (h : Rp Tryz.prog w 63 cs c) : ∃ (i0 : Int) (i1 : Int) (i2_0 : Int) (i2_1 : Int) (y3 : C) (s4 : ByteArray) (q5 : Option Addr) (n5 : Nat) (m5 : Nat) (x5 : List C) (q6 : Option Addr) (n6 : Nat) (m6 : Nat) (x6 : List C) (b7 : Bool) (y8 : C) (y9 : C) (q10 : Option Addr) (n10 : Nat) (m10 : Nat) (x10 : List C) (i11_0 : Int) (s11_1 : ByteArray) (s11_2 : ByteArray) (s11_3_0 : ByteArray) (i11_3_1 : Int) (b11_3_2 : Bool) (i11_4_0 : Int) (i11_4_1 : Int) (s11_4_2 : ByteArray) (s12_0 : ByteArray) (s12_1 : ByteArray) (i12_2_0_0 : Int) (i12_2_0_1 : Int) (i12_2_1_0 : Int) (i12_2_1_1 : Int) (i13 : Int), cs.length = 60 ∧ c = .a [.l (.int .i64 i0), .l (.int .i64 i1), .a [.l (.int .i64 i2_0), .l (.int .i64 i2_1)], y3, .l (.string s4), .s x5, .s x6, .l (.bool b7), y8, y9, .s x10, .a [.l (.int .i64 i11_0), .l (.string s11_1), .l (.string s11_2), .a [.l (.string s11_3_0), .l (.int .i64 i11_3_1), .l (.bool b11_3_2)], .a [.l (.int .i64 i11_4_0), .l (.int .i64 i11_4_1), .l (.string s11_4_2)]], .a [.l (.string s12_0), .l (.string s12_1), .a [.a [.l (.int .i64 i12_2_0_0), .l (.int .i64 i12_2_0_1)], .a [.l (.int .i64 i12_2_1_0), .l (.int .i64 i12_2_1_1)]]], .l (.int .i64 i13)] ∧ cs[0]? = some (.int .i64 i0) ∧ cs[1]? = some (.int .i64 i1) ∧ cs[2]? = some (.int .i64 i2_0) ∧ cs[3]? = some (.int .i64 i2_1) ∧ Rp Tryz.prog w 46 ((cs.drop 4).take 23) y3 ∧ s4.size ≤ maxLen ∧ cs[27]? = some (.string s4) ∧ x5.length = n5 ∧ cs[28]? = some (.slice q5 n5 m5) ∧ Rp Tryz.prog w 47 [.slice q5 n5 m5] (.s x5) ∧ x6.length = n6 ∧ cs[29]? = some (.slice q6 n6 m6) ∧ Rp Tryz.prog w 48 [.slice q6 n6 m6] (.s x6) ∧ cs[30]? = some (.bool b7) ∧ Rp Tryz.prog w 26 ((cs.drop 31).take 7) y8 ∧ Rp Tryz.prog w 53 ((cs.drop 38).take 5) y9 ∧ x10.length = n10 ∧ cs[43]? = some (.slice q10 n10 m10) ∧ Rp Tryz.prog w 24 [.slice q10 n10 m10] (.s x10) ∧ s11_1.size ≤ maxLen ∧ s11_2.size ≤ maxLen ∧ s11_3_0.size ≤ maxLen ∧ s11_4_2.size ≤ maxLen ∧ cs[44]? = some (.int .i64 i11_0) ∧ cs[45]? = some (.string s11_1) ∧ cs[46]? = some (.string s11_2) ∧ cs[47]? = some (.string s11_3_0) ∧ cs[48]? = some (.int .i64 i11_3_1) ∧ cs[49]? = some (.bool b11_3_2) ∧ cs[50]? = some (.int .i64 i11_4_0) ∧ cs[51]? = some (.int .i64 i11_4_1) ∧ cs[52]? = some (.string s11_4_2) ∧ s12_0.size ≤ maxLen ∧ s12_1.size ≤ maxLen ∧ cs[53]? = some (.string s12_0) ∧ cs[54]? = some (.string s12_1) ∧ cs[55]? = some (.int .i64 i12_2_0_0) ∧ cs[56]? = some (.int .i64 i12_2_0_1) ∧ cs[57]? = some (.int .i64 i12_2_1_0) ∧ cs[58]? = some (.int .i64 i12_2_1_1) ∧ cs[59]? = some (.int .i64 i13) := by
  obtain ⟨ys, rfl, hn, hl, hx⟩ := h.struct_inv Tryz.underlying63
  obtain ⟨y0, y1, y2, y3, y4, y5, y6, y7, y8, y9, y10, y11, y12, y13, rfl⟩ := ln14 (hl.trans rfl)
  rw [zc_Statement] at hn
  have h0 := hx 0 (by decide) (by simp)
  have h1 := hx 1 (by decide) (by simp)
  have h2 := hx 2 (by decide) (by simp)
  have h3 := hx 3 (by decide) (by simp)
  have h4 := hx 4 (by decide) (by simp)
  have h5 := hx 5 (by decide) (by simp)
  have h6 := hx 6 (by decide) (by simp)
  have h7 := hx 7 (by decide) (by simp)
  have h8 := hx 8 (by decide) (by simp)
  have h9 := hx 9 (by decide) (by simp)
  have h10 := hx 10 (by decide) (by simp)
  have h11 := hx 11 (by decide) (by simp)
  have h12 := hx 12 (by decide) (by simp)
  have h13 := hx 13 (by decide) (by simp)
  clear hx h hl
  simp only [zc_int, zc_string, zc_bool, zc_Value, zc_Expr, zc_LExpr, zc_Column, zc_Foreign, zc_Lint, zc_Table, zc_LColumn, zc_LForeign, zc_Clause, zc_Source, zc_Item, zc_Join, zc_Select, zc_LItem, zc_LJoin, zc_Order, zc_Query, zc_LQuery, zc_LOrder, zc_Set, zc_Period, zc_Rect, zc_Hold, zc_Change, zc_Statement, zc_LLExpr, zc_LSet, List.getElem_toArray, List.getElem_cons_zero, List.getElem_cons_succ, List.drop_zero, List.drop_succ_cons, List.take_succ_cons, List.take_zero] at h0 h1 h2 h3 h4 h5 h6 h7 h8 h9 h10 h11 h12 h13
  obtain ⟨i0, e0, f0⟩ := h0.int_inv Tryz.underlying3
  obtain ⟨i1, e1, f1⟩ := h1.int_inv Tryz.underlying3
  obtain ⟨i2_0, i2_1, e2, f2⟩ := shp_Period h2
  obtain ⟨s4, e4, f4, g4⟩ := h4.string_inv Tryz.underlying9
  obtain ⟨q5, n5, m5, x5, e5, f5, l5, lm5, _⟩ := h5.slice_inv Tryz.underlying47
  obtain ⟨q6, n6, m6, x6, e6, f6, l6, lm6, _⟩ := h6.slice_inv Tryz.underlying48
  obtain ⟨b7, e7, f7⟩ := h7.bool_inv Tryz.underlying4
  obtain ⟨q10, n10, m10, x10, e10, f10, l10, lm10, _⟩ := h10.slice_inv Tryz.underlying24
  obtain ⟨i11_0, s11_1, s11_2, s11_3_0, i11_3_1, b11_3_2, i11_4_0, i11_4_1, s11_4_2, e11, f11, g11_0, g11_1, g11_2, g11_3⟩ := shp_Change h11
  obtain ⟨s12_0, s12_1, i12_2_0_0, i12_2_0_1, i12_2_1_0, i12_2_1_1, e12, f12, g12_0, g12_1⟩ := shp_Hold h12
  obtain ⟨i13, e13, f13⟩ := h13.int_inv Tryz.underlying3
  subst f0
  subst f1
  subst f2
  subst f4
  subst f5
  subst f6
  subst f7
  subst f10
  subst f11
  subst f12
  subst f13
  exact ⟨_, _, _, _, _, _, _, _, _, _, _, _, _, _, _, _, _, _, _, _, _, _, _, _, _, _, _, _, _, _, _, _, _, _, _, _, _, hn, rfl, of_take e0 (j := 0) rfl (by omega), of_take e1 (j := 0) rfl (by omega), of_take e2 (j := 0) rfl (by omega), of_take e2 (j := 1) rfl (by omega), h3, g4, of_take e4 (j := 0) rfl (by omega), l5, of_take e5 (j := 0) rfl (by omega), by first | (rw [e5] at h5; exact h5) | exact h5, l6, of_take e6 (j := 0) rfl (by omega), by first | (rw [e6] at h6; exact h6) | exact h6, of_take e7 (j := 0) rfl (by omega), h8, h9, l10, of_take e10 (j := 0) rfl (by omega), by first | (rw [e10] at h10; exact h10) | exact h10, g11_0, g11_1, g11_2, g11_3, of_take e11 (j := 0) rfl (by omega), of_take e11 (j := 1) rfl (by omega), of_take e11 (j := 2) rfl (by omega), of_take e11 (j := 3) rfl (by omega), of_take e11 (j := 4) rfl (by omega), of_take e11 (j := 5) rfl (by omega), of_take e11 (j := 6) rfl (by omega), of_take e11 (j := 7) rfl (by omega), of_take e11 (j := 8) rfl (by omega), g12_0, g12_1, of_take e12 (j := 0) rfl (by omega), of_take e12 (j := 1) rfl (by omega), of_take e12 (j := 2) rfl (by omega), of_take e12 (j := 3) rfl (by omega), of_take e12 (j := 4) rfl (by omega), of_take e12 (j := 5) rfl (by omega), of_take e13 (j := 0) rfl (by omega)⟩
end Go.Proofs.YtlimlmjljjmcpaaGreatDoor.Ps
