import Derived.Test.YtpmncgbpbcgfaaaGreatDoorProg
import Derived.Test.YtpmncgbpbcgfaaaGreatDoorPlA
import Derived.WalkKit
import Derived.Deep.AppendLies
import Derived.Laws.OwnMore
import Derived.Lib.Hide
import Derived.Test.YtpmncgbpbcgfaaaGreatDoorLxW
/-
  How values read in memory: cells, and the blocks that they use (a footprint F).
-/
namespace Go.Proofs.YtpmncgbpbcgfaaaGreatDoor
open Go.RowKit
set_option linter.unusedVariables false
set_option linter.unusedSimpArgs false

abbrev Rep (α : Type) := World → (Nat → Prop) → α → List Value → Prop
structure Good {α : Type} (rep : Rep α) (size : Nat) : Prop where
  len : ∀ {w F a cs}, rep w F a cs → cs.length = size
  one : ∀ {w F a cs}, rep w F a cs → ∀ u ∈ cs, u.oneCell' = true
  kept : ∀ {w w' F a cs}, rep w F a cs → (∀ b, F b → b < w.heap.size → w'.heap[b]? = w.heap[b]?) → rep w' F a cs
  mono : ∀ {w F F' a cs}, rep w F a cs → (∀ b, F b → b < w.heap.size → F' b) → rep w F' a cs
/-- a slice of values -/
def LRep {α : Type} (size : Nat) (rep : Rep α) (w : World) (F : Nat → Prop) (l : List α) (v : Value) : Prop :=
  (l = [] ∧ v = .slice none 0 0) ∨
  ∃ (g cap : Nat) (css : Nat → List Value), v = .slice (some ⟨g, 0, none⟩) l.length cap ∧ l.length ≤ maxLen ∧ F g ∧ g < w.heap.size ∧
    (∀ k, k < l.length → ∀ j, j < size → w.cell? ⟨g, k * size + j, none⟩ = (css k)[j]?) ∧ ∀ k (h : k < l.length), rep w F l[k] (css k)
theorem cell_block {w w' : World} {g : Nat} (h : w'.heap[g]? = w.heap[g]?) (j : Nat) : w'.cell? ⟨g, j, none⟩ = w.cell? ⟨g, j, none⟩ := World.cell?_of_block h
theorem lt_block {w w' : World} {g : Nat} (hg : g < w.heap.size) (h : w'.heap[g]? = w.heap[g]?) : g < w'.heap.size := by
  rcases Nat.lt_or_ge g w'.heap.size with hlt | hge
  · exact hlt
  · rw [Array.getElem?_eq_none hge, Array.getElem?_eq_getElem hg] at h; cases h
section
variable {α : Type} {size : Nat} {rep : Rep α} {w w' : World} {F F' : Nat → Prop} {l : List α} {v : Value}
theorem LRep.kept (G : Good rep size) (h : LRep size rep w F l v) (hk : ∀ b, F b → b < w.heap.size → w'.heap[b]? = w.heap[b]?) : LRep size rep w' F l v := by
  rcases h with h | ⟨g, cap, css, hv, hm, hF, hg, hc, hr⟩
  · exact .inl h
  · refine .inr ⟨g, cap, css, hv, hm, hF, lt_block hg (hk g hF hg), fun k h j hj => ?_, fun k h => G.kept (hr k h) hk⟩
    rw [cell_block (hk g hF hg)]
    exact hc k h j hj
theorem LRep.mono (G : Good rep size) (h : LRep size rep w F l v) (hk : ∀ b, F b → b < w.heap.size → F' b) : LRep size rep w F' l v := by
  rcases h with h | ⟨g, cap, css, hv, hm, hF, hg, hc, hr⟩
  · exact .inl h
  · exact .inr ⟨g, cap, css, hv, hm, hk g hF hg, hg, hc, fun k h => G.mono (hr k h) hk⟩
theorem LRep.one (h : LRep size rep w F l v) : v.oneCell' = true := by
  rcases h with ⟨_, rfl⟩ | ⟨g, cap, css, rfl, _⟩ <;> rfl
theorem LRep.form (h : LRep size rep w F l v) : ∃ A c, v = .slice A l.length c := by
  rcases h with ⟨rfl, rfl⟩ | ⟨g, cap, css, rfl, _⟩
  · exact ⟨_, _, rfl⟩
  · exact ⟨_, _, rfl⟩
end
def chunk (size : Nat) (xs : List Value) (k : Nat) : List Value := (xs.drop (k * size)).take size
theorem chunk_at (size : Nat) (xs : List Value) (k j : Nat) (hj : j < size) : (chunk size xs k)[j]? = xs[k * size + j]? := by
  unfold chunk
  rw [List.getElem?_take, if_pos hj, List.getElem?_drop]
theorem chunk_left {size : Nat} {xs cs : List Value} {n k : Nat} (hx : xs.length = n * size) (hk : k < n) : chunk size (xs ++ cs) k = chunk size xs k := by
  unfold chunk
  have h1 : (k + 1) * size ≤ n * size := Nat.mul_le_mul_right _ hk
  rw [Nat.add_mul] at h1
  rw [List.drop_append_of_le_length (by omega), List.take_append_of_le_length (by rw [List.length_drop]; omega)]
theorem chunk_last {size : Nat} {xs cs : List Value} {n : Nat} (hx : xs.length = n * size) (hc : cs.length = size) : chunk size (xs ++ cs) n = cs := by
  unfold chunk
  rw [← hx, List.drop_left, ← hc, List.take_length]
/-- a list that is being built: it owns its row, and its elements use other blocks -/
def OwnL {α : Type} (size : Nat) (e : TypeId) (rep : Rep α) (w : World) (base : Nat) (l : List α) (v : Value) : Prop :=
  ∃ xs, w.ownsRow base e size v l.length xs ∧ ∀ k (h : k < l.length), rep w (fun b => base ≤ b ∧ v.ownBlock ≠ some b) l[k] (chunk size xs k)
section
variable {α : Type} {size : Nat} {e : TypeId} {rep : Rep α} {w w' : World} {base : Nat} {l : List α} {v : Value}
theorem OwnL.nil (w : World) (base : Nat) : OwnL size e rep w base [] (.slice none 0 0) := ⟨[], World.ownsRow_nil _ _ _ _, fun k h => absurd h (by simp)⟩
theorem OwnL.kept (G : Good rep size) (h : OwnL size e rep w base l v) (hk : ∀ b, base ≤ b → b < w.heap.size → w'.heap[b]? = w.heap[b]?) : OwnL size e rep w' base l v := by
  obtain ⟨xs, ho, hr⟩ := h
  refine ⟨xs, ⟨ho.1, ?_⟩, fun k h => G.kept (hr k h) fun b hb hl => hk b hb.1 hl⟩
  rcases ho.2 with h0 | ⟨g, cap, cur, hv, hg, hh, r⟩
  · exact .inl h0
  · exact .inr ⟨g, cap, cur, hv, hg, (hk g hg (Array.getElem?_eq_some_iff.1 hh).1).trans hh, r⟩
theorem OwnL.grown (G : Good rep size) {p : Nat} (h : OwnL size e rep w base l v) (hg : w.grownBy w' (some p)) (hp : p < base) : OwnL size e rep w' base l v :=
  h.kept G fun b hb hl => hg.block b hl (by simp; omega)
/-- as a finished slice -/
theorem OwnL.done (G : Good rep size) (h : OwnL size e rep w base l v) : LRep size rep w (fun b => base ≤ b) l v := by
  obtain ⟨xs, ho, hr⟩ := h
  rcases ho.2 with ⟨h0, h1⟩ | ⟨g, cap, cur, hv, hg, hh, hn, hm, _⟩
  · exact .inl ⟨List.length_eq_zero_iff.1 h1, h0⟩
  · refine .inr ⟨g, cap, chunk size xs, hv, Nat.le_trans hn hm, hg, (Array.getElem?_eq_some_iff.1 hh).1, fun k hk j hj => ?_, fun k hk => G.mono (hr k hk) fun b hb _ => hb.1⟩
    have h1 : (k + 1) * size ≤ l.length * size := Nat.mul_le_mul_right _ hk
    rw [Nat.add_mul] at h1
    rw [chunk_at _ _ _ _ hj]
    rw [hv] at ho
    exact ho.cellAt (k * size + j) (by omega)
/-- one more element: what the append leaves -/
theorem OwnL.push (G : Good rep size) {xs cs : List Value} {a : α} {v' : Value} (ho : w.ownsRow base e size v l.length xs) (hr : ∀ k (h : k < l.length), rep w (fun b => base ≤ b ∧ v.ownBlock ≠ some b) l[k] (chunk size xs k))
    (ha : rep w (fun b => base ≤ b ∧ v.ownBlock ≠ some b) a cs) (ho' : w'.ownsRow base e size v' (l.length + 1) (xs ++ cs)) (hg : w.grownBy w' v.ownBlock) (hat : v'.ownBlock = v.ownBlock ∨ v'.ownBlock = some w.heap.size) : OwnL size e rep w' base (l ++ [a]) v' := by
  have hmv : ∀ (x : α) (zs : List Value), rep w (fun b => base ≤ b ∧ v.ownBlock ≠ some b) x zs → rep w' (fun b => base ≤ b ∧ v'.ownBlock ≠ some b) x zs := by
    intro x zs hx
    have h1 : rep w (fun b => (base ≤ b ∧ v'.ownBlock ≠ some b) ∧ v.ownBlock ≠ some b) x zs := by
      refine G.mono hx fun b hb hl => ⟨⟨hb.1, ?_⟩, hb.2⟩
      rcases hat with h | h
      · rw [h]; exact hb.2
      · rw [h]; simp; omega
    have h2 := G.kept (w' := w') h1 fun b hb hl => hg.block b hl (fun e => hb.2 e.symm)
    exact G.mono h2 fun b hb _ => hb.1
  refine ⟨xs ++ cs, by simpa using ho', fun k hk => ?_⟩
  by_cases h : k < l.length
  · rw [List.getElem_append_left h, chunk_left ho.1 h]
    exact hmv _ _ (hr k h)
  · have hk' : k = l.length := by simp at hk; omega
    subst hk'
    rw [chunk_last ho.1 (G.len ha)]
    simpa using hmv _ _ ha
end
end Go.Proofs.YtpmncgbpbcgfaaaGreatDoor

/-
  How expressions read in memory.
-/
namespace Go.Proofs.YtpmncgbpbcgfaaaGreatDoor
open Go.RowKit
set_option linter.unusedVariables false
set_option linter.unusedSimpArgs false

def vCells (v : V) : List Value := [.int .i64 (v.kind : Int), .int .i64 v.int, strV v.text]
def eCells (op int : Nat) (v : V) (name : List UInt8) (a : Value) : List Value := [.int .i64 (op : Int), .int .i64 (int : Int), .int .i64 (v.kind : Int), .int .i64 v.int, strV v.text, strV name, a]
inductive ERep (w : World) (F : Nat → Prop) : E → List Value → Prop
  | leaf (op int : Nat) (v : V) (name : List UInt8) : ERep w F (.mk op int v name []) (eCells op int v name (.slice none 0 0))
  | row (op int : Nat) (v : V) (name : List UInt8) (args : List E) (g cap : Nat) (css : Nat → List Value) (hm : args.length ≤ maxLen) (hF : F g) (hg : g < w.heap.size)
      (hc : ∀ k, k < args.length → ∀ j, j < 7 → w.cell? ⟨g, k * 7 + j, none⟩ = (css k)[j]?) (hr : ∀ k (h : k < args.length), ERep w F args[k] (css k)) :
      ERep w F (.mk op int v name args) (eCells op int v name (.slice (some ⟨g, 0, none⟩) args.length cap))
theorem erep_iff {w : World} {F : Nat → Prop} {op int : Nat} {v : V} {name : List UInt8} {args : List E} {cs : List Value} :
    ERep w F (.mk op int v name args) cs ↔ ∃ a, cs = eCells op int v name a ∧ LRep 7 ERep w F args a := by
  constructor
  · intro h
    cases h with
    | leaf => exact ⟨_, rfl, .inl ⟨rfl, rfl⟩⟩
    | row _ _ _ _ _ g cap css hm hF hg hc hr => exact ⟨_, rfl, .inr ⟨g, cap, css, rfl, hm, hF, hg, hc, hr⟩⟩
  · rintro ⟨a, rfl, ⟨rfl, rfl⟩ | ⟨g, cap, css, rfl, hm, hF, hg, hc, hr⟩⟩
    · exact .leaf ..
    · exact .row _ _ _ _ _ _ _ css hm hF hg hc hr
theorem ERep.len {w : World} {F : Nat → Prop} {e : E} {cs : List Value} (h : ERep w F e cs) : cs.length = 7 := by
  cases h <;> rfl
theorem goodE : Good ERep 7 where
  len := ERep.len
  one := by
    intro w F a cs h u hu
    cases h <;> simp [eCells, strV] at hu <;> rcases hu with rfl | rfl | rfl | rfl | rfl | rfl | rfl <;> rfl
  kept := by
    intro w w' F a cs h hk
    induction h with
    | leaf => exact .leaf ..
    | row op int v name args g cap css hm hF hg hc hr ih =>
      refine .row op int v name args g cap css hm hF (lt_block hg (hk g hF hg)) (fun k h j hj => ?_) ih
      rw [cell_block (hk g hF hg)]
      exact hc k h j hj
  mono := by
    intro w F F' a cs h hk
    induction h with
    | leaf => exact .leaf ..
    | row op int v name args g cap css hm hF hg hc hr ih => exact .row op int v name args g cap css hm (hk g hF hg) hg hc ih
/-- an expression as a value: an aggregate of its cells -/
def exprR0 (base : Nat) (w : World) (v : Value) (e : E) : Prop := ∃ cs, v = .agg cs.toArray ∧ ERep w (fun b => base ≤ b) e cs
end Go.Proofs.YtpmncgbpbcgfaaaGreatDoor

/-
  How queries and statements read in memory.
-/
namespace Go.Proofs.YtpmncgbpbcgfaaaGreatDoor
open Go.RowKit
set_option linter.unusedVariables false
set_option linter.unusedSimpArgs false

def natV (n : Nat) : Value := .int .i64 (n : Int)
def srcCells (s : Src) : List Value := [strV s.table, strV s.alias_, natV s.clause.kind, natV s.clause.lo, natV s.clause.hi, .int .i64 s.under]
/-- a value that needs no memory -/
def FlatR {α : Type} (f : α → List Value) : Rep α := fun _ _ a cs => cs = f a
theorem goodFlat {α : Type} {f : α → List Value} {size : Nat} (hl : ∀ a, (f a).length = size) (h1 : ∀ a, ∀ u ∈ f a, u.oneCell' = true) : Good (FlatR f) size where
  len := by rintro w F a cs rfl; exact hl a
  one := by rintro w F a cs rfl; exact h1 a
  kept := fun h _ => h
  mono := fun h _ => h
def ItemRep : Rep Item := fun w F a cs => ∃ es, ERep w F a.expr es ∧ cs = es ++ [natV a.agg, .bool a.star, strV a.name]
theorem goodItem : Good ItemRep 10 where
  len := by rintro w F a cs ⟨es, h, rfl⟩; simp [h.len]
  one := by
    rintro w F a cs ⟨es, h, rfl⟩ u hu
    rcases List.mem_append.1 hu with hu | hu
    · exact goodE.one h u hu
    · simp [natV, strV] at hu; rcases hu with rfl | rfl | rfl <;> rfl
  kept := by rintro w w' F a cs ⟨es, h, rfl⟩ hk; exact ⟨es, goodE.kept h hk, rfl⟩
  mono := by rintro w F F' a cs ⟨es, h, rfl⟩ hk; exact ⟨es, goodE.mono h hk, rfl⟩
def JnRep : Rep Jn := fun w F a cs => ∃ es, ERep w F a.on es ∧ cs = srcCells a.source ++ ([.bool a.left] ++ es)
theorem goodJn : Good JnRep 14 where
  len := by rintro w F a cs ⟨es, h, rfl⟩; simp [h.len, srcCells]
  one := by
    rintro w F a cs ⟨es, h, rfl⟩ u hu
    rcases List.mem_append.1 hu with hu | hu
    · simp [srcCells, natV, strV] at hu; rcases hu with rfl | rfl | rfl | rfl | rfl | rfl <;> rfl
    · rcases List.mem_append.1 hu with hu | hu
      · simp at hu; rw [hu]; rfl
      · exact goodE.one h u hu
  kept := by rintro w w' F a cs ⟨es, h, rfl⟩ hk; exact ⟨es, goodE.kept h hk, rfl⟩
  mono := by rintro w F F' a cs ⟨es, h, rfl⟩ hk; exact ⟨es, goodE.mono h hk, rfl⟩
structure SelIs (w : World) (F : Nat → Prop) (a : Sel) (vi vj vg : Value) (es : List Value) : Prop where
  items : LRep 10 ItemRep w F a.items vi
  joins : LRep 14 JnRep w F a.joins vj
  cond : ERep w F a.cond es
  group : LRep 7 ERep w F a.groupBy vg
def selCells (a : Sel) (vi vj vg : Value) (es : List Value) : List Value := [.bool a.distinct, vi] ++ (srcCells a.src ++ ([vj, .bool a.hasWhere] ++ (es ++ [vg])))
def SelRep : Rep Sel := fun w F a cs => ∃ vi vj vg es, SelIs w F a vi vj vg es ∧ cs = selCells a vi vj vg es
theorem goodSel : Good SelRep 18 where
  len := by rintro w F a cs ⟨vi, vj, vg, es, h, rfl⟩; simp [selCells, srcCells, h.cond.len]
  one := by
    rintro w F a cs ⟨vi, vj, vg, es, h, rfl⟩ u hu
    simp [selCells, srcCells, natV, strV] at hu
    rcases hu with rfl | rfl | rfl | rfl | rfl | rfl | rfl | rfl | rfl | rfl | hu | rfl
    all_goals first | rfl | exact h.items.one | exact h.joins.one | exact h.group.one | exact goodE.one h.cond _ hu
  kept := by rintro w w' F a cs ⟨vi, vj, vg, es, h, rfl⟩ hk; exact ⟨vi, vj, vg, es, ⟨h.items.kept goodItem hk, h.joins.kept goodJn hk, goodE.kept h.cond hk, h.group.kept goodE hk⟩, rfl⟩
  mono := by rintro w F F' a cs ⟨vi, vj, vg, es, h, rfl⟩ hk; exact ⟨vi, vj, vg, es, ⟨h.items.mono goodItem hk, h.joins.mono goodJn hk, goodE.mono h.cond hk, h.group.mono goodE hk⟩, rfl⟩
def ordCells (a : Nat × Bool) : List Value := [natV a.1, .bool a.2]
theorem goodOrd : Good (FlatR ordCells) 2 := goodFlat (fun _ => rfl) fun a u hu => by simp [ordCells, natV] at hu; rcases hu with rfl | rfl <;> rfl
def qCells (op : Nat) (all : Bool) (ss : List Value) (va vo : Value) (l : Int) : List Value := [natV op, .bool all] ++ (ss ++ [va, vo, .int .i64 l])
inductive QRep (w : World) (F : Nat → Prop) : Qry → List Value → Prop
  | leaf (op : Nat) (all : Bool) (s : Sel) (ss : List Value) (o : List (Nat × Bool)) (vo : Value) (l : Int) (hs : SelRep w F s ss) (ho : LRep 2 (FlatR ordCells) w F o vo) : QRep w F (.mk op all s [] o l) (qCells op all ss (.slice none 0 0) vo l)
  | row (op : Nat) (all : Bool) (s : Sel) (ss : List Value) (o : List (Nat × Bool)) (vo : Value) (l : Int) (hs : SelRep w F s ss) (ho : LRep 2 (FlatR ordCells) w F o vo)
      (args : List Qry) (g cap : Nat) (css : Nat → List Value) (hm : args.length ≤ maxLen) (hF : F g) (hg : g < w.heap.size)
      (hc : ∀ k, k < args.length → ∀ j, j < 23 → w.cell? ⟨g, k * 23 + j, none⟩ = (css k)[j]?) (hr : ∀ k (h : k < args.length), QRep w F args[k] (css k)) :
      QRep w F (.mk op all s args o l) (qCells op all ss (.slice (some ⟨g, 0, none⟩) args.length cap) vo l)
theorem qrep_iff {w : World} {F : Nat → Prop} {op : Nat} {all : Bool} {s : Sel} {args : List Qry} {o : List (Nat × Bool)} {l : Int} {cs : List Value} :
    QRep w F (.mk op all s args o l) cs ↔ ∃ ss va vo, cs = qCells op all ss va vo l ∧ SelRep w F s ss ∧ LRep 23 QRep w F args va ∧ LRep 2 (FlatR ordCells) w F o vo := by
  constructor
  · intro h
    cases h with
    | leaf _ _ _ ss _ vo _ hs ho => exact ⟨ss, _, vo, rfl, hs, .inl ⟨rfl, rfl⟩, ho⟩
    | row _ _ _ ss _ vo _ hs ho _ g cap css hm hF hg hc hr => exact ⟨ss, _, vo, rfl, hs, .inr ⟨g, cap, css, rfl, hm, hF, hg, hc, hr⟩, ho⟩
  · rintro ⟨ss, va, vo, rfl, hs, ⟨rfl, rfl⟩ | ⟨g, cap, css, rfl, hm, hF, hg, hc, hr⟩, ho⟩
    · exact .leaf _ _ _ _ _ _ _ hs ho
    · exact .row _ _ _ _ _ _ _ hs ho _ _ _ css hm hF hg hc hr
theorem goodQ : Good QRep 23 where
  len := by
    intro w F a cs h
    cases h with
    | leaf _ _ _ ss _ vo _ hs ho => simp [qCells, goodSel.len hs]
    | row _ _ _ ss _ vo _ hs ho => simp [qCells, goodSel.len hs]
  one := by
    intro w F a cs h u hu
    cases h with
    | leaf _ _ _ ss _ vo _ hs ho =>
      simp [qCells, natV] at hu
      rcases hu with rfl | rfl | hu | rfl | rfl | rfl
      all_goals first | rfl | exact goodSel.one hs _ hu | exact ho.one
    | row _ _ _ ss _ vo _ hs ho =>
      simp [qCells, natV] at hu
      rcases hu with rfl | rfl | hu | rfl | rfl | rfl
      all_goals first | rfl | exact goodSel.one hs _ hu | exact ho.one
  kept := by
    intro w w' F a cs h hk
    induction h with
    | leaf op all s ss o vo l hs ho => exact .leaf _ _ _ _ _ _ _ (goodSel.kept hs hk) (ho.kept goodOrd hk)
    | row op all s ss o vo l hs ho args g cap css hm hF hg hc hr ih =>
      refine .row _ _ _ _ _ _ _ (goodSel.kept hs hk) (ho.kept goodOrd hk) args g cap css hm hF (lt_block hg (hk g hF hg)) (fun k h j hj => ?_) ih
      rw [cell_block (hk g hF hg)]
      exact hc k h j hj
  mono := by
    intro w F F' a cs h hk
    induction h with
    | leaf op all s ss o vo l hs ho => exact .leaf _ _ _ _ _ _ _ (goodSel.mono hs hk) (ho.mono goodOrd hk)
    | row op all s ss o vo l hs ho args g cap css hm hF hg hc hr ih => exact .row _ _ _ _ _ _ _ (goodSel.mono hs hk) (ho.mono goodOrd hk) args g cap css hm (hk g hF hg) hg hc ih
def colCells (a : Col) : List Value := [strV a.name, natV a.kind, .bool a.nullable]
theorem goodCol : Good (FlatR colCells) 3 := goodFlat (fun _ => rfl) fun a u hu => by simp [colCells, natV, strV] at hu; rcases hu with rfl | rfl | rfl <;> rfl
def intCells (a : Nat) : List Value := [natV a]
theorem goodInt : Good (FlatR intCells) 1 := goodFlat (fun _ => rfl) fun a u hu => by simp [intCells, natV] at hu; rw [hu]; rfl
def FrnRep : Rep Frn := fun w F a cs => ∃ vc, LRep 1 (FlatR intCells) w F a.cols vc ∧ cs = [vc, strV a.table]
theorem goodFrn : Good FrnRep 2 where
  len := by rintro w F a cs ⟨vc, h, rfl⟩; rfl
  one := by
    rintro w F a cs ⟨vc, h, rfl⟩ u hu
    simp [strV] at hu
    rcases hu with rfl | rfl
    · exact h.one
    · rfl
  kept := by rintro w w' F a cs ⟨vc, h, rfl⟩ hk; exact ⟨vc, h.kept goodInt hk, rfl⟩
  mono := by rintro w F F' a cs ⟨vc, h, rfl⟩ hk; exact ⟨vc, h.mono goodInt hk, rfl⟩
def tblCells (a : Tbl) (vc vk vf : Value) : List Value := [strV a.name, vc, vk, vf, .slice none 0 0]
structure TblIs (w : World) (F : Nat → Prop) (a : Tbl) (vc vk vf : Value) : Prop where
  cols : LRep 3 (FlatR colCells) w F a.cols vc
  key : LRep 1 (FlatR intCells) w F a.key vk
  frns : LRep 2 FrnRep w F a.frns vf
def RowRep : Rep (List E) := fun w F a cs => ∃ v, LRep 7 ERep w F a v ∧ cs = [v]
theorem goodRow : Good RowRep 1 where
  len := by rintro w F a cs ⟨v, h, rfl⟩; rfl
  one := by
    rintro w F a cs ⟨v, h, rfl⟩ u hu
    simp at hu
    rw [hu]
    exact h.one
  kept := by rintro w w' F a cs ⟨v, h, rfl⟩ hk; exact ⟨v, h.kept goodE hk, rfl⟩
  mono := by rintro w F F' a cs ⟨v, h, rfl⟩ hk; exact ⟨v, h.mono goodE hk, rfl⟩
def SetRep : Rep (List UInt8 × E) := fun w F a cs => ∃ es, ERep w F a.2 es ∧ cs = strV a.1 :: es
theorem goodSet : Good SetRep 8 where
  len := by rintro w F a cs ⟨es, h, rfl⟩; simp [h.len]
  one := by
    rintro w F a cs ⟨es, h, rfl⟩ u hu
    rcases List.mem_cons.1 hu with rfl | hu
    · rfl
    · exact goodE.one h u hu
  kept := by rintro w w' F a cs ⟨es, h, rfl⟩ hk; exact ⟨es, goodE.kept h hk, rfl⟩
  mono := by rintro w F F' a cs ⟨es, h, rfl⟩ hk; exact ⟨es, goodE.mono h hk, rfl⟩
def chgCells (a : Chg) : List Value := [natV a.kind, strV a.name, strV a.to] ++ (colCells a.col ++ vCells a.dflt)
def hldCells (a : Hld) : List Value := [strV a.name, strV a.table, natV a.valid.1, natV a.valid.2, natV a.system.1, natV a.system.2]
/-- what a statement's cells refer to -/
structure StmIs (w : World) (F : Nat → Prop) (a : Stm) (qs : List Value) (vr vs : Value) (es : List Value) (vc vk vf vh : Value) : Prop where
  query : QRep w F a.query qs
  rows : LRep 1 RowRep w F a.rows vr
  sets : LRep 8 SetRep w F a.sets vs
  cond : ERep w F a.cond es
  table : TblIs w F a.table vc vk vf
  checks : LRep 7 ERep w F a.checks vh
def stmCells (a : Stm) (qs : List Value) (vr vs : Value) (es : List Value) (vc vk vf vh : Value) : List Value :=
  [natV a.kind, natV a.mode, natV a.valid.1, natV a.valid.2] ++ (qs ++ ([strV a.name, vr, vs, .bool a.hasWhere] ++ (es ++ (tblCells a.table vc vk vf ++ ([vh] ++ (chgCells a.change ++ (hldCells a.hold ++ [natV a.number])))))))
def StmRep : Rep Stm := fun w F a cs => ∃ qs vr vs es vc vk vf vh, StmIs w F a qs vr vs es vc vk vf vh ∧ cs = stmCells a qs vr vs es vc vk vf vh
section
variable {w w' : World} {F F' : Nat → Prop} {a : Stm} {qs : List Value} {vr vs : Value} {es : List Value} {vc vk vf vh : Value}
theorem StmIs.kept (h : StmIs w F a qs vr vs es vc vk vf vh) (hk : ∀ b, F b → b < w.heap.size → w'.heap[b]? = w.heap[b]?) : StmIs w' F a qs vr vs es vc vk vf vh :=
  ⟨goodQ.kept h.query hk, h.rows.kept goodRow hk, h.sets.kept goodSet hk, goodE.kept h.cond hk, ⟨h.table.cols.kept goodCol hk, h.table.key.kept goodInt hk, h.table.frns.kept goodFrn hk⟩, h.checks.kept goodE hk⟩
theorem StmIs.mono (h : StmIs w F a qs vr vs es vc vk vf vh) (hk : ∀ b, F b → b < w.heap.size → F' b) : StmIs w F' a qs vr vs es vc vk vf vh :=
  ⟨goodQ.mono h.query hk, h.rows.mono goodRow hk, h.sets.mono goodSet hk, goodE.mono h.cond hk, ⟨h.table.cols.mono goodCol hk, h.table.key.mono goodInt hk, h.table.frns.mono goodFrn hk⟩, h.checks.mono goodE hk⟩
end
theorem goodStm : Good StmRep 60 where
  len := by rintro w F a cs ⟨qs, vr, vs, es, vc, vk, vf, vh, h, rfl⟩; simp [stmCells, goodQ.len h.query, h.cond.len, tblCells, chgCells, colCells, vCells, hldCells]
  one := by
    rintro w F a cs ⟨qs, vr, vs, es, vc, vk, vf, vh, h, rfl⟩ u hu
    simp only [stmCells, tblCells, chgCells, colCells, vCells, hldCells, List.mem_append, List.mem_cons, List.not_mem_nil, or_false, natV, strV] at hu
    rcases hu with (rfl | rfl | rfl | rfl) | hu | (rfl | rfl | rfl | rfl) | hu | (rfl | rfl | rfl | rfl | rfl) | rfl | ((rfl | rfl | rfl) | (rfl | rfl | rfl) | (rfl | rfl | rfl)) | (rfl | rfl | rfl | rfl | rfl | rfl) | rfl
    all_goals first | rfl | exact goodQ.one h.query _ hu | exact goodE.one h.cond _ hu | exact h.rows.one | exact h.sets.one | exact h.table.cols.one | exact h.table.key.one | exact h.table.frns.one | exact h.checks.one
  kept := by rintro w w' F a cs ⟨qs, vr, vs, es, vc, vk, vf, vh, h, rfl⟩ hk; exact ⟨qs, vr, vs, es, vc, vk, vf, vh, h.kept hk, rfl⟩
  mono := by rintro w F F' a cs ⟨qs, vr, vs, es, vc, vk, vf, vh, h, rfl⟩ hk; exact ⟨qs, vr, vs, es, vc, vk, vf, vh, h.mono hk, rfl⟩
end Go.Proofs.YtpmncgbpbcgfaaaGreatDoor
