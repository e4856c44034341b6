/-
  What a value reads as, whole, whatever its type: a tree; the values that two places hold are the same if their trees are.
-/
import Derived.WalkKit
import Derived.Below
import Derived.ChangeOld
import Derived.DataReads
import Derived.DataShut
namespace Go.Proofs.YtlimlmjljjmcpaaGreatDoor.Ps
open Go Go.RowKit
set_option linter.unusedVariables false
/-- a value's tree: a scalar; a struct; a slice's elements -/
inductive C where
  | l (v : Value)
  | a (xs : List C)
  | s (xs : List C)
open Classical in
/-- are two trees the same -/
noncomputable def eqC (x y : C) : Bool := if x = y then true else false
theorem eqC_true {x y : C} : eqC x y = true ↔ x = y := by
  unfold eqC
  split <;> simp_all
theorem eqC_false {x y : C} : eqC x y = false ↔ x ≠ y := by
  unfold eqC
  split <;> simp_all
theorem eqC_self (x : C) : eqC x x = true := eqC_true.2 rfl
/-- how the cells of a type read -/
inductive Rp (P : Program) (w : World) : TypeId → List Value → C → Prop
  | int {t : TypeId} {k : IntKind} {n : Int} (h : P.underlying t = some (.int k)) : Rp P w t [.int k n] (.l (.int k n))
  | bool {t : TypeId} {b : Bool} (h : P.underlying t = some .bool) : Rp P w t [.bool b] (.l (.bool b))
  | string {t : TypeId} {s : ByteArray} (h : P.underlying t = some .string) (hs : s.size ≤ maxLen) : Rp P w t [.string s] (.l (.string s))
  | nil {t e : TypeId} (h : P.underlying t = some (.slice e)) : Rp P w t [.slice none 0 0] (.s [])
  | slice {t e : TypeId} {q : Addr} {len cap : Nat} {xs : List C} (f : Nat → List Value) (h : P.underlying t = some (.slice e)) (hc : len ≤ cap) (hm : cap ≤ maxLen) (hl : xs.length = len) (hb : len * P.bytesOf e ≤ reachBytes)
      (hr : ∀ i, i < len → w.cells? 0 (q.add (i * P.cellsOf e)) (P.cellsOf e) = some (f i)) (hx : ∀ i (hi : i < xs.length), Rp P w e (f i) xs[i]) : Rp P w t [.slice (some q) len cap] (.s xs)
  | struct {t : TypeId} {fs : Array Field} {cs : List Value} {xs : List C} (h : P.underlying t = some (.struct fs)) (hn : cs.length = P.cellsOf t) (hl : xs.length = fs.size) (hcov : ∀ j, j < P.cellsOf t → ∃ i, ∃ h : i < fs.size, fs[i].offset ≤ j ∧ j < fs[i].offset + P.cellsOf fs[i].type)
      (hx : ∀ i (h1 : i < fs.size) (h2 : i < xs.length), Rp P w fs[i].type ((cs.drop fs[i].offset).take (P.cellsOf fs[i].type)) xs[i]) : Rp P w t cs (.a xs)
/-- a tree has the form of a reading -/
inductive Fits {H : Type} : C → DataW H → Prop
  | int (k : IntKind) (n : Int) : Fits (.l (.int k n)) (.lit (.int k n))
  | bool (b : Bool) : Fits (.l (.bool b)) (.lit (.bool b))
  | str (s : ByteArray) : Fits (.l (.string s)) (.lit (.string s.data.toList))
  | nil : Fits (.s []) .nil
  | s {xs : List C} {elems spare : List (DataW H)} (hl : xs.length = elems.length) (hx : ∀ i (h1 : i < xs.length) (h2 : i < elems.length), Fits xs[i] elems[i]) : Fits (.s xs) (.slice elems spare)
  | a {xs : List C} {parts : List (DataW H)} (hl : xs.length = parts.length) (hx : ∀ i (h1 : i < xs.length) (h2 : i < parts.length), Fits xs[i] parts[i]) : Fits (.a xs) (.agg parts)
section
variable {P : Program} {w w' : World} {H : Type} {enc : TypeId × Value → H}
theorem mapM_some {α β : Type} {f : α → Option β} : ∀ {l : List α} {r : List β}, l.mapM f = some r → r.length = l.length ∧ ∀ i (h1 : i < l.length) (h2 : i < r.length), f l[i] = some r[i]
  | [], r, h => by
    simp at h
    subst h
    exact ⟨rfl, fun i h1 => absurd h1 (by simp)⟩
  | x :: l, r, h => by
    rw [List.mapM_cons] at h
    cases hx : f x with
    | none => rw [hx] at h; cases h
    | some y =>
      rw [hx] at h
      cases hl : l.mapM f with
      | none => rw [hl] at h; cases h
      | some r' =>
        rw [hl] at h
        cases h
        obtain ⟨h1, h2⟩ := mapM_some hl
        refine ⟨by simp [h1], fun i k1 k2 => ?_⟩
        cases i with
        | zero => exact hx
        | succ i => exact h2 i (by simpa using k1) (by simpa using k2)
/-- types made of bools, integers, strings, slices and structs alone -/
def plainT (P : Program) (S : List TypeId) (t : TypeId) : Bool := match P.underlying t with
  | some .bool => true
  | some (.int _) => true
  | some .string => true
  | some (.slice e) => S.contains e
  | some (.struct fs) => (fs.toList.all fun f => S.contains f.type) && (List.range (P.cellsOf t)).all fun j => fs.toList.any fun f => decide (f.offset ≤ j) && decide (j < f.offset + P.cellsOf f.type)
  | _ => false
def plainS (P : Program) (S : List TypeId) : Bool := S.all (plainT P S)
theorem weights_mem {e : TypeId} : ∀ {l : List (DataW H)} {d : DataW H}, d ∈ l → ∀ x ∈ DataW.weights P e d, x ∈ DataW.weightsAll P e l
  | [], d, h, x, hx => by cases h
  | y :: l, d, h, x, hx => by
    unfold DataW.weightsAll
    rcases List.mem_cons.1 h with rfl | h
    · exact List.mem_append_left _ hx
    · exact List.mem_append_right _ (weights_mem h x hx)
theorem weights_at : ∀ {ts : List TypeId} {l : List (DataW H)} (i : Nat) (h1 : i < ts.length) (h2 : i < l.length), ∀ x ∈ DataW.weights P ts[i] l[i], x ∈ DataW.weightsEach P ts l
  | [], _, i, h1, _, x, hx => absurd h1 (by simp)
  | _ :: _, [], i, _, h2, x, hx => absurd h2 (by simp)
  | t :: ts, d :: l, 0, _, _, x, hx => by
    unfold DataW.weightsEach
    exact List.mem_append_left _ hx
  | t :: ts, d :: l, i + 1, h1, h2, x, hx => by
    unfold DataW.weightsEach
    exact List.mem_append_right _ (weights_at i (by simpa using h1) (by simpa using h2) x hx)
theorem rp_of_trod {spare : Nat → Bool} {held : Bool} {S : List TypeId} (hS : plainS P S = true) : ∀ (n : Nat) (t : TypeId) (cs : List Value) (y : DataW H × List MemPlace), t ∈ S → DataW.trod enc P w 0 spare held n t cs = some y → (∀ x ∈ DataW.weights P t y.1, x ≤ reachBytes) → ∃ c, Rp P w t cs c ∧ Fits c y.1
  | 0, t, cs, y, ht, h, hwt => by cases h
  | n + 1, t, cs, y, ht, h, hwt => by
    have hp := List.all_eq_true.1 hS t ht
    unfold plainT at hp
    unfold DataW.trod at h
    cases hu : P.underlying t with
    | none => rw [hu] at hp; cases hp
    | some d =>
      rw [hu] at hp h
      cases d with
      | bool =>
        simp only at h
        split at h <;> (try cases h) <;> (try (cases ‹some TypeDesc.bool = some _›))
        all_goals exact ⟨_, .bool hu, .bool _⟩
      | int k =>
        simp only at h
        split at h <;> (try cases h) <;> (try (cases ‹some (TypeDesc.int k) = some _›))
        split at h <;> cases h
        rename_i hk
        obtain ⟨rfl, _⟩ := hk
        exact ⟨_, .int hu, .int _ _⟩
      | string =>
        simp only at h
        split at h <;> (try cases h) <;> (try (cases ‹some TypeDesc.string = some _›))
        split at h <;> cases h
        rename_i hs
        exact ⟨_, .string hu hs, .str _⟩
      | slice e =>
        have he : e ∈ S := by simpa using hp
        simp only at h
        split at h <;> (try cases h) <;> (try (cases ‹some (TypeDesc.slice e) = some _›))
        · exact ⟨_, .nil hu, .nil⟩
        · rename_i q len cap
          split at h <;> try cases h
          rename_i hb
          cases hm : ((List.range len).mapM fun i => (w.cells? 0 (q.add (i * P.cellsOf e)) (P.cellsOf e)).bind (DataW.trod enc P w 0 spare held n e)) with
          | none => rw [hm] at h; cases h
          | some elems =>
            obtain ⟨h1, h2⟩ := mapM_some hm
            rw [hm] at h
            simp only [Option.bind_some, Option.map_eq_some_iff] at h
            obtain ⟨rest, _, rfl⟩ := h
            have hwt2 : ∀ x ∈ (((elems.map (·.1)).length + (rest.map (·.1)).length) * P.bytesOf e :: (DataW.weightsAll P e (elems.map (·.1)) ++ DataW.weightsAll P e (rest.map (·.1)))), x ≤ reachBytes := by
              intro x hx
              refine hwt x ?_
              unfold DataW.weights
              rw [hu]
              exact hx
            have hbound : len * P.bytesOf e ≤ reachBytes := by
              refine Nat.le_trans (Nat.mul_le_mul_right _ ?_) (hwt2 _ (List.mem_cons_self ..))
              simp [h1]
            have each : ∀ i, ∀ hi : i < len, ∃ cs c, w.cells? 0 (q.add (i * P.cellsOf e)) (P.cellsOf e) = some cs ∧ Rp P w e cs c ∧ Fits c (elems[i]'(by rw [h1]; simpa using hi)).1 := fun i hi => by
              have := h2 i (by simpa using hi) (by rw [h1]; simpa using hi)
              rw [List.getElem_range] at this
              cases hc : w.cells? 0 (q.add (i * P.cellsOf e)) (P.cellsOf e) with
              | none => rw [hc] at this; cases this
              | some cs =>
                rw [hc] at this
                obtain ⟨c, hcr, hft⟩ := rp_of_trod hS n e cs _ he this (fun x hx => hwt2 x (List.mem_cons_of_mem _ (List.mem_append_left _ (weights_mem (List.mem_map.2 ⟨_, List.getElem_mem (l := elems) _, rfl⟩) x hx))))
                exact ⟨cs, c, rfl, hcr, hft⟩
            have each2 : ∀ i, ∃ p : List Value × C, ∀ hi : i < len, w.cells? 0 (q.add (i * P.cellsOf e)) (P.cellsOf e) = some p.1 ∧ Rp P w e p.1 p.2 ∧ Fits p.2 (elems[i]'(by rw [h1]; simpa using hi)).1 := fun i => by
              by_cases hi : i < len
              · obtain ⟨cs, c, k1, k2⟩ := each i hi
                exact ⟨(cs, c), fun _ => ⟨k1, k2⟩⟩
              · exact ⟨([], .a []), fun hh => absurd hh hi⟩
            let f := fun i => Classical.choose (each2 i)
            have hf : ∀ i, ∀ hi : i < len, w.cells? 0 (q.add (i * P.cellsOf e)) (P.cellsOf e) = some (f i).1 ∧ Rp P w e (f i).1 (f i).2 ∧ Fits (f i).2 (elems[i]'(by rw [h1]; simpa using hi)).1 := fun i => Classical.choose_spec (each2 i)
            refine ⟨.s ((List.range len).map fun i => (f i).2), .slice (fun i => (f i).1) hu hb.2.1 hb.2.2 (by simp) hbound (fun i hi => (hf i hi).1) fun i hi => ?_, ?_⟩
            · simp only [List.getElem_map, List.getElem_range]
              exact (hf i (by simpa using hi)).2.1
            · refine .s (by simp [h1]) fun i k1 k2 => ?_
              simp only [List.getElem_map, List.getElem_range]
              exact (hf i (by simpa using k1)).2.2
      | struct fs =>
        have hp2 : ((fs.toList.all fun f => S.contains f.type) && (List.range (P.cellsOf t)).all fun j => fs.toList.any fun f => decide (f.offset ≤ j) && decide (j < f.offset + P.cellsOf f.type)) = true := hp
        rw [Bool.and_eq_true] at hp2
        have hfs : ∀ f ∈ fs.toList, f.type ∈ S := fun f hf => by
          have := List.all_eq_true.1 hp2.1 f hf
          simpa using this
        have hcov : ∀ j, j < P.cellsOf t → ∃ i, ∃ h : i < fs.size, fs[i].offset ≤ j ∧ j < fs[i].offset + P.cellsOf fs[i].type := fun j hj => by
          have := List.all_eq_true.1 hp2.2 j (by simpa using hj)
          obtain ⟨f, hf, h1⟩ := List.any_eq_true.1 this
          obtain ⟨i, hi, rfl⟩ := List.getElem_of_mem hf
          simp only [Bool.and_eq_true, decide_eq_true_eq] at h1
          exact ⟨i, by simpa using hi, by simpa using h1⟩
        simp only at h
        split at h <;> (try cases h) <;> (try (cases ‹some (TypeDesc.struct fs) = some _›))
        rename_i hn
        cases hm : (fs.toList.mapM fun f => DataW.trod enc P w 0 spare held n f.type ((cs.drop f.offset).take (P.cellsOf f.type))) with
        | none => rw [hm] at h; cases h
        | some elems =>
          obtain ⟨h1, h2⟩ := mapM_some hm
          rw [hm] at h
          simp only [Option.map_some, Option.some.injEq] at h
          subst h
          have hwt2 : ∀ x ∈ DataW.weightsEach P (fs.toList.map (·.type)) (elems.map (·.1)), x ≤ reachBytes := by
            intro x hx
            refine hwt x ?_
            unfold DataW.weights
            rw [hu]
            exact hx
          have each : ∀ i, ∃ c : C, ∀ hi : i < fs.size, Rp P w fs[i].type ((cs.drop fs[i].offset).take (P.cellsOf fs[i].type)) c ∧ Fits c (elems[i]'(by rw [h1]; simpa using hi)).1 := fun i => by
            by_cases hi : i < fs.size
            · have := h2 i (by simpa using hi) (by rw [h1]; simpa using hi)
              rw [Array.getElem_toList] at this
              obtain ⟨c, hc, hft⟩ := rp_of_trod hS n _ _ _ (hfs fs[i] (by simp)) this (fun x hx => hwt2 x (weights_at i (by simpa using hi) (by simpa [h1] using hi) x (by simpa using hx)))
              exact ⟨c, fun _ => ⟨hc, hft⟩⟩
            · exact ⟨.a [], fun hh => absurd hh hi⟩
          let f := fun i => Classical.choose (each i)
          refine ⟨.a ((List.range fs.size).map f), .struct hu hn (by simp) hcov fun i k1 k2 => ?_, ?_⟩
          · simp only [List.getElem_map, List.getElem_range]
            exact (Classical.choose_spec (each i) k1).1
          · refine .a (by simp [h1]) fun i k1 k2 => ?_
            simp only [List.getElem_map, List.getElem_range]
            exact (Classical.choose_spec (each i) (by simpa using k1)).2
      | _ => cases hp
/-- memory below a bound is all that is read -/
theorem Rp.kept {n : Nat} (hb : Below n w w') (hn : w.heap.size ≤ n) {t : TypeId} {cs : List Value} {c : C} (h : Rp P w t cs c) : Rp P w' t cs c := by
  induction h with
  | int h => exact .int h
  | bool h => exact .bool h
  | string h hs => exact .string h hs
  | nil h => exact .nil h
  | slice f h hc hm hl hb' hr hx ih =>
    refine .slice f h hc hm hl hb' (fun i hi => ?_) ih
    have h1 := hr i hi
    obtain ⟨k1, k2, k3⟩ := World.cells?_some h1
    refine World.cells?_of_each k1 k2 fun j hj => ?_
    rw [← k3 j hj]
    have hlt := World.cells?_block h1 (by omega)
    refine hb.cell ?_
    have e1 : ∀ (a : Addr) (k : Nat), (a.add k).block = a.block := fun a k => by
      unfold Addr.add
      first | rfl | (split <;> rfl)
    rw [e1]
    omega
  | struct h hn hl hcov hx ih => exact .struct h hn hl hcov ih
theorem cells_same {a : Addr} {n : Nat} (h : w'.heap[a.block]? = w.heap[a.block]?) : w'.cells? 0 a n = w.cells? 0 a n := by
  have hc : ∀ j, w'.cell? (a.add j) = w.cell? (a.add j) := fun j => by
    have e1 : (a.add j).block = a.block := by
      unfold Addr.add
      first | rfl | (split <;> rfl)
    unfold World.cell?
    rw [e1, h]
  unfold World.cells?
  simp only [hc]
/-- only the blocks that are there are read -/
theorem Rp.keptH (hb : ∀ (q : Nat) (o : Obj), w.heap[q]? = some o → w'.heap[q]? = some o) {t : TypeId} {cs : List Value} {c : C} (h : Rp P w t cs c) : Rp P w' t cs c := by
  induction h with
  | int h => exact .int h
  | bool h => exact .bool h
  | string h hs => exact .string h hs
  | nil h => exact .nil h
  | @slice t e q len cap xs f h hc hm hl hb' hr hx ih =>
    refine .slice f h hc hm hl hb' (fun i hi => ?_) ih
    have h1 := hr i hi
    rw [← h1]
    rcases Nat.eq_zero_or_pos (P.cellsOf e) with hz | hz
    · rw [hz]
      simp [World.cells?]
    have hlt := World.cells?_block h1 hz
    exact cells_same ((hb _ _ (Array.getElem?_eq_getElem hlt)).trans (Array.getElem?_eq_getElem hlt).symm)
  | struct h hn hl hcov hx ih => exact .struct h hn hl hcov ih
/-- each cell is its own -/
theorem Rp.single {t : TypeId} {cs : List Value} {c : C} (h : Rp P w t cs c) : ∀ u ∈ cs, u.cells = #[u] := by
  induction h with
  | int h => intro u hu; cases List.mem_singleton.1 hu; rfl
  | bool h => intro u hu; cases List.mem_singleton.1 hu; rfl
  | string h hs => intro u hu; cases List.mem_singleton.1 hu; rfl
  | nil h => intro u hu; cases List.mem_singleton.1 hu; rfl
  | slice f h hc hm hl hb' hr hx ih => intro u hu; cases List.mem_singleton.1 hu; rfl
  | @struct t fs cs xs h hn hl hcov hx ih =>
    intro u hu
    obtain ⟨j, hj, rfl⟩ := List.getElem_of_mem hu
    obtain ⟨i, hi, h1, h2⟩ := hcov j (by omega)
    refine ih i hi (by omega) _ ?_
    rw [List.mem_iff_getElem?]
    refine ⟨j - fs[i].offset, ?_⟩
    rw [List.getElem?_take, if_pos (by omega), List.getElem?_drop]
    have : fs[i].offset + (j - fs[i].offset) = j := by omega
    rw [this]
    exact List.getElem?_eq_getElem hj
/-- each cell is one -/
theorem Rp.one {t : TypeId} {cs : List Value} {c : C} (h : Rp P w t cs c) : ∀ u ∈ cs, u.oneCell' = true := by
  induction h with
  | int h => intro u hu; cases List.mem_singleton.1 hu; rfl
  | bool h => intro u hu; cases List.mem_singleton.1 hu; rfl
  | string h hs => intro u hu; cases List.mem_singleton.1 hu; rfl
  | nil h => intro u hu; cases List.mem_singleton.1 hu; rfl
  | slice f h hc hm hl hb' hr hx ih => intro u hu; cases List.mem_singleton.1 hu; rfl
  | @struct t fs cs xs h hn hl hcov hx ih =>
    intro u hu
    obtain ⟨j, hj, rfl⟩ := List.getElem_of_mem hu
    obtain ⟨i, hi, h1, h2⟩ := hcov j (by omega)
    refine ih i hi (by omega) _ ?_
    rw [List.mem_iff_getElem?]
    refine ⟨j - fs[i].offset, ?_⟩
    rw [List.getElem?_take, if_pos (by omega), List.getElem?_drop]
    have : fs[i].offset + (j - fs[i].offset) = j := by omega
    rw [this]
    exact List.getElem?_eq_getElem hj
theorem add_block (a : Addr) (k : Nat) : (a.add k).block = a.block := by
  unfold Addr.add
  first | rfl | (split <;> rfl)
theorem add_add (a : Addr) (j k : Nat) : (a.add j).add k = a.add (j + k) := by
  unfold Addr.add
  cases a with
  | mk b o s => by_cases hj : j = 0 <;> by_cases hk : k = 0 <;> simp [hj, hk, Nat.add_assoc]
/-- a slice's cells, in a row -/
theorem row_cells {q : Addr} {len m : Nat} {f : Nat → List Value} (hr : ∀ i, i < len → w.cells? 0 (q.add (i * m)) m = some (f i)) : ∃ news : List Value, news.length = len * m ∧ (∀ j u, news[j]? = some u → w.cell? (q.add j) = some u) ∧ ∀ u ∈ news, ∃ i, i < len ∧ u ∈ f i := by
  induction len with
  | zero => exact ⟨[], by simp, fun j u h => by simp at h, fun u h => by cases h⟩
  | succ n ih =>
    obtain ⟨l, h1, h2, h3⟩ := ih fun i hi => hr i (by omega)
    obtain ⟨_, k2, k3⟩ := World.cells?_some (hr n (by omega))
    refine ⟨l ++ f n, by rw [List.length_append, h1, k2, Nat.succ_mul], fun j u hj => ?_, fun u hu => ?_⟩
    · rcases Nat.lt_or_ge j l.length with hlt | hge
      · rw [List.getElem?_append_left hlt] at hj
        exact h2 j u hj
      · rw [List.getElem?_append_right hge] at hj
        have hlt : j - l.length < m := by
          have := (List.getElem?_eq_some_iff.1 hj).1
          omega
        have := k3 (j - l.length) hlt
        rw [hj, add_add] at this
        rw [← this]
        congr 2
        omega
    · rcases List.mem_append.1 hu with hu | hu
      · obtain ⟨i, hi, h⟩ := h3 u hu
        exact ⟨i, by omega, h⟩
      · exact ⟨n, by omega, hu⟩
/-- a slice's value -/
theorem Rp.isSl {t e : TypeId} {v : Value} {c : C} (hu : P.underlying t = some (.slice e)) (h : Rp P w t [v] c) : ∃ a n m, v = .slice a n m := by
  cases h with
  | int h => rw [hu] at h; cases h
  | bool h => rw [hu] at h; cases h
  | string h _ => rw [hu] at h; cases h
  | nil h => exact ⟨_, _, _, rfl⟩
  | slice f h => exact ⟨_, _, _, rfl⟩
  | struct h => rw [hu] at h; cases h
/-- a slice's cells -/
theorem Rp.news {t e : TypeId} {q : Addr} {n m : Nat} {c : C} (hu : P.underlying t = some (.slice e)) (h : Rp P w t [.slice (some q) n m] c) : ∃ news : List Value, news.length = n * P.cellsOf e ∧ (∀ j u, news[j]? = some u → w.cell? (q.add j) = some u) ∧ (∀ u ∈ news, u.oneCell' = true) ∧ (0 < news.length → q.block < w.heap.size) := by
  cases h with
  | struct h => rw [hu] at h; cases h
  | @slice t e2 q2 len cap xs f h hc hm hl hb' hr hx =>
    rw [hu] at h
    cases h
    obtain ⟨news, k1, k2, k3⟩ := row_cells hr
    refine ⟨news, k1, k2, fun u hu => ?_, fun hpos => ?_⟩
    · obtain ⟨i, hi, h1⟩ := k3 u hu
      exact (hx i (by omega)).one u h1
    · rw [k1] at hpos
      have hn : 0 < n := Nat.pos_of_ne_zero fun h0 => by subst h0; omega
      have hz : 0 < P.cellsOf e := Nat.pos_of_ne_zero fun h0 => by rw [h0] at hpos; omega
      have := World.cells?_block (hr 0 hn) hz
      rwa [add_block] at this
/-! ### by types -/
theorem Rp.int_inv {t : TypeId} {k : IntKind} {cs : List Value} {c : C} (hu : P.underlying t = some (.int k)) (h : Rp P w t cs c) : ∃ n, cs = [.int k n] ∧ c = .l (.int k n) := by
  cases h with
  | int h => rw [hu] at h; cases h; exact ⟨_, rfl, rfl⟩
  | bool h => rw [hu] at h; cases h
  | string h _ => rw [hu] at h; cases h
  | nil h => rw [hu] at h; cases h
  | slice f h => rw [hu] at h; cases h
  | struct h => rw [hu] at h; cases h
theorem Rp.bool_inv {t : TypeId} {cs : List Value} {c : C} (hu : P.underlying t = some .bool) (h : Rp P w t cs c) : ∃ b, cs = [.bool b] ∧ c = .l (.bool b) := by
  cases h with
  | int h => rw [hu] at h; cases h
  | bool h => exact ⟨_, rfl, rfl⟩
  | string h _ => rw [hu] at h; cases h
  | nil h => rw [hu] at h; cases h
  | slice f h => rw [hu] at h; cases h
  | struct h => rw [hu] at h; cases h
theorem Rp.string_inv {t : TypeId} {cs : List Value} {c : C} (hu : P.underlying t = some .string) (h : Rp P w t cs c) : ∃ s, cs = [.string s] ∧ c = .l (.string s) ∧ s.size ≤ maxLen := by
  cases h with
  | int h => rw [hu] at h; cases h
  | bool h => rw [hu] at h; cases h
  | string h hs => exact ⟨_, rfl, rfl, hs⟩
  | nil h => rw [hu] at h; cases h
  | slice f h => rw [hu] at h; cases h
  | struct h => rw [hu] at h; cases h
theorem Rp.slice_inv {t e : TypeId} {cs : List Value} {c : C} (hu : P.underlying t = some (.slice e)) (h : Rp P w t cs c) : ∃ a n m xs, cs = [.slice a n m] ∧ c = .s xs ∧ xs.length = n ∧ n ≤ m ∧ m ≤ maxLen ∧ ∀ i (hi : i < xs.length), ∃ q us, a = some q ∧ w.cells? 0 (q.add (i * P.cellsOf e)) (P.cellsOf e) = some us ∧ Rp P w e us xs[i] := by
  cases h with
  | int h => rw [hu] at h; cases h
  | bool h => rw [hu] at h; cases h
  | string h _ => rw [hu] at h; cases h
  | nil h => exact ⟨_, _, _, _, rfl, rfl, rfl, Nat.le_refl _, Nat.zero_le _, fun i hi => absurd hi (by simp)⟩
  | slice f h hc hm hl hb' hr hx =>
    rw [hu] at h
    cases h
    exact ⟨_, _, _, _, rfl, rfl, hl, hc, hm, fun i hi => ⟨_, _, rfl, hr i (by omega), hx i hi⟩⟩
  | struct h => rw [hu] at h; cases h
/-- a slice's size -/
theorem Rp.bound {t e : TypeId} {a : Option Addr} {n m : Nat} {c : C} (hu : P.underlying t = some (.slice e)) (h : Rp P w t [.slice a n m] c) : n * P.bytesOf e ≤ reachBytes := by
  cases h with
  | nil h => simp
  | slice f h hc hm hl hb' hr hx =>
    rw [hu] at h
    cases h
    exact hb'
  | struct h => rw [hu] at h; cases h
theorem Rp.struct_inv {t : TypeId} {fs : Array Field} {cs : List Value} {c : C} (hu : P.underlying t = some (.struct fs)) (h : Rp P w t cs c) : ∃ xs, c = .a xs ∧ cs.length = P.cellsOf t ∧ xs.length = fs.size ∧ ∀ i (h1 : i < fs.size) (h2 : i < xs.length), Rp P w fs[i].type ((cs.drop fs[i].offset).take (P.cellsOf fs[i].type)) xs[i] := by
  cases h with
  | int h => rw [hu] at h; cases h
  | bool h => rw [hu] at h; cases h
  | string h _ => rw [hu] at h; cases h
  | nil h => rw [hu] at h; cases h
  | slice f h => rw [hu] at h; cases h
  | struct h hn hl _ hx =>
    rw [hu] at h
    cases h
    exact ⟨_, rfl, hn, hl, hx⟩
end
end Go.Proofs.YtlimlmjljjmcpaaGreatDoor.Ps
