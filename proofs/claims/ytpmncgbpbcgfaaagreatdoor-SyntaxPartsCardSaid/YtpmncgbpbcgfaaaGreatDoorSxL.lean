import Derived.Test.YtpmncgbpbcgfaaaGreatDoorSxI
/-
  The closure of a query's groups.
-/
namespace Go.Proofs.YtpmncgbpbcgfaaaGreatDoor
open Go.RowKit
set_option linter.unusedVariables false
set_option linter.unusedSimpArgs false

theorem set7_last {xs : List Value} {a : Nat} (h : xs.length = a + 7) (c0 c1 c2 c3 c4 c5 c6 : Value) : ((((((xs.set a c0).set (a + 1) c1).set (a + 2) c2).set (a + 3) c3).set (a + 4) c4).set (a + 5) c5).set (a + 6) c6 = xs.take a ++ [c0, c1, c2, c3, c4, c5, c6] := by
  apply List.ext_getElem?
  intro k
  simp only [List.getElem?_set, List.length_set, h]
  by_cases hk : k < a
  · rw [List.getElem?_append_left (by simp; omega), List.getElem?_take]
    simp [show ¬ a + 6 = k by omega, show ¬ a + 5 = k by omega, show ¬ a + 4 = k by omega, show ¬ a + 3 = k by omega, show ¬ a + 2 = k by omega, show ¬ a + 1 = k by omega, show ¬ a = k by omega, hk]
  · rw [List.getElem?_append_right (by simp; omega)]
    have hl : (xs.take a).length = a := by simp; omega
    rw [hl]
    rcases Nat.lt_or_ge k (a + 7) with hlt | hge
    · have : k = a ∨ k = a + 1 ∨ k = a + 2 ∨ k = a + 3 ∨ k = a + 4 ∨ k = a + 5 ∨ k = a + 6 := by omega
      rcases this with rfl | rfl | rfl | rfl | rfl | rfl | rfl <;> simp
    · rw [List.getElem?_eq_none (l := [c0, c1, c2, c3, c4, c5, c6]) (by simp; omega)]
      simp [show ¬ a + 6 = k by omega, show ¬ a + 5 = k by omega, show ¬ a + 4 = k by omega, show ¬ a + 3 = k by omega, show ¬ a + 2 = k by omega, show ¬ a + 1 = k by omega, show ¬ a = k by omega, h, hge]
section
variable {α : Type} {e : TypeId} {rep : Rep α} {w : World} {base : Nat} {l : List α} {z : α} {gg cap : Nat}
theorem OwnL.lastCell (h : OwnL 7 e rep w base (l ++ [z]) (.slice (some ⟨gg, 0, none⟩) (l.length + 1) cap)) (k : Nat) (hk : k < 7) : (∃ u, w.cell? ⟨gg, l.length * 7 + k, none⟩ = some u) ∧ w.frozen? ⟨gg, l.length * 7 + k, none⟩ = false := by
  obtain ⟨xs, ho, _⟩ := h
  simp only [List.length_append, List.length_singleton] at ho
  have hx := ho.1
  have hlt : l.length * 7 + k < (l.length + 1) * 7 := by omega
  exact ⟨⟨_, (ho.cellAt _ hlt).trans (List.getElem?_eq_getElem (by omega))⟩, ho.frozenAt _⟩
theorem OwnL.last0 (h : OwnL 7 e rep w base (l ++ [z]) (.slice (some ⟨gg, 0, none⟩) (l.length + 1) cap)) : (∃ u, w.cell? ⟨gg, l.length * 7, none⟩ = some u) ∧ w.frozen? ⟨gg, l.length * 7, none⟩ = false := h.lastCell 0 (by omega)
/-- the last element is written anew -/
theorem OwnL.put7 (G : Good rep 7) (h : OwnL 7 e rep w base (l ++ [z]) (.slice (some ⟨gg, 0, none⟩) (l.length + 1) cap)) {b : α} {c0 c1 c2 c3 c4 c5 c6 : Value} (hr : rep w (fun q => base ≤ q ∧ gg ≠ q) b [c0, c1, c2, c3, c4, c5, c6]) :
    OwnL 7 e rep (((((((w.setCell ⟨gg, l.length * 7, none⟩ c0).setCell ⟨gg, l.length * 7 + 1, none⟩ c1).setCell ⟨gg, l.length * 7 + 2, none⟩ c2).setCell ⟨gg, l.length * 7 + 3, none⟩ c3).setCell ⟨gg, l.length * 7 + 4, none⟩ c4).setCell ⟨gg, l.length * 7 + 5, none⟩ c5).setCell ⟨gg, l.length * 7 + 6, none⟩ c6) base (l ++ [b]) (.slice (some ⟨gg, 0, none⟩) (l.length + 1) cap) := by
  obtain ⟨xs, ho, hreps⟩ := h
  have hlen : (l ++ [z]).length = l.length + 1 := by simp
  rw [hlen] at ho
  have hx : xs.length = l.length * 7 + 7 := by have := ho.1; omega
  have h0 := (ho.stored (l.length * 7) c0).1
  have h1 := (h0.stored (l.length * 7 + 1) c1).1
  have h2 := (h1.stored (l.length * 7 + 2) c2).1
  have h3 := (h2.stored (l.length * 7 + 3) c3).1
  have h4 := (h3.stored (l.length * 7 + 4) c4).1
  have h5 := (h4.stored (l.length * 7 + 5) c5).1
  have h6 := (h5.stored (l.length * 7 + 6) c6).1
  rw [set7_last hx] at h6
  have hg : w.grownBy (((((((w.setCell ⟨gg, l.length * 7, none⟩ c0).setCell ⟨gg, l.length * 7 + 1, none⟩ c1).setCell ⟨gg, l.length * 7 + 2, none⟩ c2).setCell ⟨gg, l.length * 7 + 3, none⟩ c3).setCell ⟨gg, l.length * 7 + 4, none⟩ c4).setCell ⟨gg, l.length * 7 + 5, none⟩ c5).setCell ⟨gg, l.length * 7 + 6, none⟩ c6) (some gg) :=
    only_setCell (only_setCell (only_setCell (only_setCell (only_setCell (only_setCell (only_setCell (World.grownBy.refl _ _) _ c0) _ c1) _ c2) _ c3) _ c4) _ c5) _ c6
  generalize (((((((w.setCell ⟨gg, l.length * 7, none⟩ c0).setCell ⟨gg, l.length * 7 + 1, none⟩ c1).setCell ⟨gg, l.length * 7 + 2, none⟩ c2).setCell ⟨gg, l.length * 7 + 3, none⟩ c3).setCell ⟨gg, l.length * 7 + 4, none⟩ c4).setCell ⟨gg, l.length * 7 + 5, none⟩ c5).setCell ⟨gg, l.length * 7 + 6, none⟩ c6) = W at h6 hg ⊢
  have keep : ∀ (x : α) (zs : List Value), rep w (fun q => base ≤ q ∧ (Value.slice (some ⟨gg, 0, none⟩) (l.length + 1) cap).ownBlock ≠ some q) x zs → rep W (fun q => base ≤ q ∧ (Value.slice (some ⟨gg, 0, none⟩) (l.length + 1) cap).ownBlock ≠ some q) x zs := fun x zs hx => G.kept hx fun q hq hl => hg.block q hl (fun e => hq.2 e.symm)
  have hta : (xs.take (l.length * 7)).length = l.length * 7 := by simp; omega
  refine ⟨_, by rw [show (l ++ [b]).length = l.length + 1 by simp]; exact h6, fun k hk => ?_⟩
  by_cases h : k < l.length
  · rw [List.getElem_append_left h, chunk_left hta h]
    have hc : chunk 7 (xs.take (l.length * 7)) k = chunk 7 xs k := by
      conv => rhs; rw [← List.take_append_drop (l.length * 7) xs]
      rw [chunk_left hta h]
    rw [hc]
    have := hreps k (by simp; omega)
    rw [List.getElem_append_left h] at this
    exact keep _ _ this
  · obtain rfl : k = l.length := by simp at hk; omega
    rw [chunk_last hta rfl]
    simp only [List.getElem_append_right (Nat.le_refl _), Nat.sub_self, List.getElem_cons_zero]
    exact keep _ _ (G.mono hr fun q hq _ => ⟨hq.1, by simp [Value.ownBlock]; exact hq.2⟩)
end
section
variable {α : Type} {size : Nat} {rep : Rep α} {P : Program} {ops : Array Oper} {o : Oper} {a : Act} {w : World} {K : Act → World → Prop} {Q : Exit → Act → World → Prop} {E' : Prop}
/-- append of one element, at a step of a region that draws its order -/
theorem step_push3 (G : Good rep size) (hgd : o.guard = none) (s x : Operand) (t : TypeId) (ho : o.op = .call { callee := .builtin .append, args := #[s, x], argTypes := #[t, t] })
    (base : Nat) (e : TypeId) (i : TypeInfo) (z : Value) (bytes : Nat) (ht : P.underlying t = some (.slice e)) (hi : P.info? e = some i) (hz : i.zero = some z)
    (hsize : i.size = size) (hby : i.bytes = bytes) (hzs : z.cells.size = size) (hsz : 0 < size) (hbs : bytes ≤ 10000)
    (v : Value) (l : List α) (hs : a.eval s = v) (hown : OwnL size e rep w base l v) (g c : Nat) (cs : List Value) (b : α) (hx : a.eval x = .slice (some ⟨g, 0, none⟩) 1 c) (hb : Blk w g cs e)
    (hr : rep w (fun q => base ≤ q ∧ v.ownBlock ≠ some q) b cs) (hlen : l.length ≤ 100000) (hbase : base ≤ w.heap.size)
    (h : ∀ gg cap w', OwnL size e rep w' base (l ++ [b]) (.slice (some ⟨gg, 0, none⟩) (l.length + 1) cap) → w.grownBy w' v.ownBlock → (v.ownBlock = some gg ∨ gg = w.heap.size) → K (a.put o.dst (.slice (some ⟨gg, 0, none⟩) (l.length + 1) cap)) w') : if Region.wanted o (yielded ops a.tmps) = true then Oper.wp P o a w K Q else E' := by
  obtain ⟨xs, hown, hreps⟩ := hown
  have hcl := G.len hr
  refine step_append_lies w hgd s x t ho base e i z size bytes ht hi hz hsize hby hzs hsz v l.length xs hs hown ⟨g, 0, none⟩ 1 c cs hx (by simp [hcl]) (fun j u hj => ?_) (G.one hr) (by omega) (by unfold maxLen; omega) ?_ hbase _ rfl ?_
  · rw [Addr.add_mid]
    exact hb.cell _ (by simpa using hj)
  · have : (l.length + 1) * bytes ≤ 100001 * 10000 := Nat.mul_le_mul (by omega) hbs
    omega
  · intro gg cap w' h1 h2 h3 h4
    refine h gg cap w' (OwnL.push G hown hreps hr h1 h2 ?_) h2 h3
    rcases h3 with h3 | h3
    · left; rw [h3]; rfl
    · right; rw [h3]; rfl
end
theorem grp_far {α : Type} {e : TypeId} {rep : Rep α} {w wb : World} {base gs gg : Nat} {l : List α} {v : Value} (h : OwnL 7 e rep w base l v) (h1 : gs < base) (h2 : gs < wb.heap.size) (hgg : v.ownBlock = some gg ∨ gg = wb.heap.size) : gs < gg := by
  rcases hgg with e | e
  · have := (h.blk _ e).1; omega
  · omega
theorem grp_rep {α : Type} {e : TypeId} {rep : Rep α} {w wb w9 : World} {base gg m : Nat} {l : List α} {v : Value} {L : List Nat} {b : α} {cs : List Value} (G : Good rep 7) (h : OwnL 7 e rep w base l v) (hbase : base ≤ w.heap.size) (hm : w.heap.size ≤ m) (hr : rep wb (Fp m L) b cs) (hg : wb.grownBy w9 v.ownBlock) (hgg : v.ownBlock = some gg ∨ gg = wb.heap.size) : rep w9 (fun q => base ≤ q ∧ gg ≠ q) b cs := by
  have h1 : rep wb (fun q => w.heap.size ≤ q ∧ q < wb.heap.size) b cs := G.mono hr fun q hq hl => ⟨Nat.le_trans hm hq.1, hl⟩
  have h2 : rep w9 (fun q => w.heap.size ≤ q ∧ q < wb.heap.size) b cs := G.kept h1 fun q hq hl => hg.block q hl (fun e => by have := (h.blk q e.symm).2; have := hq.1; omega)
  refine G.mono h2 fun q hq hl => ⟨by have := hq.1; omega, fun e => ?_⟩
  subst e
  rcases hgg with e | e
  · have := (h.blk _ e).2; have := hq.1; omega
  · have := hq.2; omega
/-- a query's groups under construction -/
structure GroupsI (wb : World) (p gs gp base : Nat) (pre : List Value) (l : List E) (w : World) : Prop where
  box : Blk w gp [.pointer (some ⟨p, 0, none⟩)] 77
  sel : ∃ vg, Blk w gs (pre ++ [vg]) 36 ∧ OwnL 7 34 ERep w base l vg
  le : base ≤ w.heap.size
  fr : Fr base gs p wb w
theorem grp_world {wb w0 w : World} {p gs gp gg base cap i n : Nat} {pre : List Value} (hpre : pre.length = 17) {v vg : Value} {T : List Tok} {d : Bool} {l : List E} {b : E} {c0 c1 c2 c3 c4 c5 c6 : Value} (hw : w0.heap.size ≤ gs) (hbs : gs < base) (hgp : gp ≠ gs)
    (ha : At w0 w p v T i n d) (hP : Blk w gp [.pointer (some ⟨p, 0, none⟩)] 77) (hS : Blk w gs (pre ++ [vg]) 36) (hO : OwnL 7 34 ERep w base (l ++ [E.zero]) (.slice (some ⟨gg, 0, none⟩) (l.length + 1) cap))
    (hr : ERep w (fun q => base ≤ q ∧ gg ≠ q) b [c0, c1, c2, c3, c4, c5, c6]) (h1 : gs < gg) (h2 : gp < gg) (hb : base ≤ w.heap.size) (hbg : base ≤ gg) (hfr : Fr base gs p wb w) :
    (At w0 ((((((((w.setCell ⟨gg, l.length * 7, none⟩ c0).setCell ⟨gg, l.length * 7 + 1, none⟩ c1).setCell ⟨gg, l.length * 7 + 2, none⟩ c2).setCell ⟨gg, l.length * 7 + 3, none⟩ c3).setCell ⟨gg, l.length * 7 + 4, none⟩ c4).setCell ⟨gg, l.length * 7 + 5, none⟩ c5).setCell ⟨gg, l.length * 7 + 6, none⟩ c6).setCell ⟨gs, 17, none⟩ (.slice (some ⟨gg, 0, none⟩) (l.length + 1) cap)) p v T i n d ∧ GroupsI wb p gs gp base pre (l ++ [b]) ((((((((w.setCell ⟨gg, l.length * 7, none⟩ c0).setCell ⟨gg, l.length * 7 + 1, none⟩ c1).setCell ⟨gg, l.length * 7 + 2, none⟩ c2).setCell ⟨gg, l.length * 7 + 3, none⟩ c3).setCell ⟨gg, l.length * 7 + 4, none⟩ c4).setCell ⟨gg, l.length * 7 + 5, none⟩ c5).setCell ⟨gg, l.length * 7 + 6, none⟩ c6).setCell ⟨gs, 17, none⟩ (.slice (some ⟨gg, 0, none⟩) (l.length + 1) cap))) ∧ At w0 ((((((((w.setCell ⟨gs, 17, none⟩ (.slice (some ⟨gg, 0, none⟩) (l.length + 1) cap)).setCell ⟨gg, l.length * 7, none⟩ c0).setCell ⟨gg, l.length * 7 + 1, none⟩ c1).setCell ⟨gg, l.length * 7 + 2, none⟩ c2).setCell ⟨gg, l.length * 7 + 3, none⟩ c3).setCell ⟨gg, l.length * 7 + 4, none⟩ c4).setCell ⟨gg, l.length * 7 + 5, none⟩ c5).setCell ⟨gg, l.length * 7 + 6, none⟩ c6) p v T i n d ∧ GroupsI wb p gs gp base pre (l ++ [b]) ((((((((w.setCell ⟨gs, 17, none⟩ (.slice (some ⟨gg, 0, none⟩) (l.length + 1) cap)).setCell ⟨gg, l.length * 7, none⟩ c0).setCell ⟨gg, l.length * 7 + 1, none⟩ c1).setCell ⟨gg, l.length * 7 + 2, none⟩ c2).setCell ⟨gg, l.length * 7 + 3, none⟩ c3).setCell ⟨gg, l.length * 7 + 4, none⟩ c4).setCell ⟨gg, l.length * 7 + 5, none⟩ c5).setCell ⟨gg, l.length * 7 + 6, none⟩ c6) := by
  have key : ∀ w : World, w.grownBy (((((((w.setCell ⟨gg, l.length * 7, none⟩ c0).setCell ⟨gg, l.length * 7 + 1, none⟩ c1).setCell ⟨gg, l.length * 7 + 2, none⟩ c2).setCell ⟨gg, l.length * 7 + 3, none⟩ c3).setCell ⟨gg, l.length * 7 + 4, none⟩ c4).setCell ⟨gg, l.length * 7 + 5, none⟩ c5).setCell ⟨gg, l.length * 7 + 6, none⟩ c6) (some gg) := fun w =>
    only_setCell (only_setCell (only_setCell (only_setCell (only_setCell (only_setCell (only_setCell (World.grownBy.refl _ _) _ c0) _ c1) _ c2) _ c3) _ c4) _ c5) _ c6
  have kz : ∀ w : World, (((((((w.setCell ⟨gg, l.length * 7, none⟩ c0).setCell ⟨gg, l.length * 7 + 1, none⟩ c1).setCell ⟨gg, l.length * 7 + 2, none⟩ c2).setCell ⟨gg, l.length * 7 + 3, none⟩ c3).setCell ⟨gg, l.length * 7 + 4, none⟩ c4).setCell ⟨gg, l.length * 7 + 5, none⟩ c5).setCell ⟨gg, l.length * 7 + 6, none⟩ c6).heap.size = w.heap.size := fun w => by simp [World.setCell]
  have kS : ∀ w : World, w.grownBy (w.setCell ⟨gs, 17, none⟩ (.slice (some ⟨gg, 0, none⟩) (l.length + 1) cap)) (some gs) := fun w => only_setCell (World.grownBy.refl w _) 17 _
  have kp : ∀ u : Value, (pre ++ [vg]).set 17 u = pre ++ [u] := fun u => by simp [List.set_append, hpre]
  refine ⟨?_, ?_⟩
  · have hO1 := hO.put7 goodE hr
    have hg1 := key w
    have hz1 := kz w
    generalize (((((((w.setCell ⟨gg, l.length * 7, none⟩ c0).setCell ⟨gg, l.length * 7 + 1, none⟩ c1).setCell ⟨gg, l.length * 7 + 2, none⟩ c2).setCell ⟨gg, l.length * 7 + 3, none⟩ c3).setCell ⟨gg, l.length * 7 + 4, none⟩ c4).setCell ⟨gg, l.length * 7 + 5, none⟩ c5).setCell ⟨gg, l.length * 7 + 6, none⟩ c6) = W at hO1 hg1 hz1 ⊢
    refine ⟨(ha.own hg1 (by omega)).set hw _ _, (hP.grown hg1 (by omega)).grown (kS W) hgp, ⟨_, by rw [← kp]; exact (hS.grown hg1 (by omega)).set 17 _, by simpa using hO1.far goodE (kS W) hbs⟩, by rw [show (W.setCell ⟨gs, 17, none⟩ (.slice (some ⟨gg, 0, none⟩) (l.length + 1) cap)).heap.size = W.heap.size by simp [World.setCell]]; omega, (hfr.push hg1 hb (fun g e => by cases e; exact .inl hbg)).push (kS W) (by omega) (fun g e => by cases e; exact .inr (.inl rfl))⟩
  · have hS1 := hS.set 17 (.slice (some ⟨gg, 0, none⟩) (l.length + 1) cap)
    have hP1 := hP.grown (kS w) hgp
    have hO1 := hO.far goodE (kS w) hbs
    have ha1 := ha.set hw 17 (.slice (some ⟨gg, 0, none⟩) (l.length + 1) cap)
    have hr1 : ERep (w.setCell ⟨gs, 17, none⟩ (.slice (some ⟨gg, 0, none⟩) (l.length + 1) cap)) (fun q => base ≤ q ∧ gg ≠ q) b [c0, c1, c2, c3, c4, c5, c6] := goodE.kept hr fun q hq hl => (kS w).block q hl (fun e => by have := hq.1; cases e; omega)
    have hfr1 := hfr.push (kS w) hb (fun g e => by cases e; exact .inr (.inl rfl))
    have hz0 : (w.setCell ⟨gs, 17, none⟩ (.slice (some ⟨gg, 0, none⟩) (l.length + 1) cap)).heap.size = w.heap.size := by simp [World.setCell]
    rw [kp] at hS1
    generalize w.setCell ⟨gs, 17, none⟩ (.slice (some ⟨gg, 0, none⟩) (l.length + 1) cap) = w at hS1 hP1 hO1 ha1 hr1 hz0 hfr1 ⊢
    have hO2 := hO1.put7 goodE hr1
    have hg1 := key w
    have hz1 := kz w
    generalize (((((((w.setCell ⟨gg, l.length * 7, none⟩ c0).setCell ⟨gg, l.length * 7 + 1, none⟩ c1).setCell ⟨gg, l.length * 7 + 2, none⟩ c2).setCell ⟨gg, l.length * 7 + 3, none⟩ c3).setCell ⟨gg, l.length * 7 + 4, none⟩ c4).setCell ⟨gg, l.length * 7 + 5, none⟩ c5).setCell ⟨gg, l.length * 7 + 6, none⟩ c6) = W at hO2 hg1 hz1 ⊢
    exact ⟨ha1.own hg1 (by omega), hP1.grown hg1 (by omega), ⟨_, hS1.grown hg1 (by omega), by simpa using hO2⟩, by omega, hfr1.push hg1 (by omega) (fun g e => by cases e; exact .inl hbg)⟩
theorem enters_sel2 : ∀ args w, (callFunc 129 args).run Tryz.prog w = .ok (.enter 129 args) w := enters_of Tryz.func129 (by kernel_rfl) rfl
set_option maxHeartbeats 8000000 in
set_option maxRecDepth 100000 in
theorem sel2_step (wb : World) (p gs gp base : Nat) (pre : List Value) (hpre : pre.length = 17) (v : Value) (T : List Tok) (n i0 : Nat) (w0 : World) (hgs : w0.heap.size ≤ gs) (hgp : w0.heap.size ≤ gp) (hne : gs ≠ gp) (hbs : gs < base) (hbp : gp < base)
    (w : World) (i : Nat) (d : Bool) (l : List E) (hi : i0 ≤ i) (hlen : l.length ≤ i) (ha : At w0 w p v T i n d) (hI : GroupsI wb p gs gp base pre l w) :
    Calls Tryz.prog 129 #[.pointer (some ⟨gs, 0, none⟩), .pointer (some ⟨gp, 0, none⟩)] w (LPost w0 p v T i n (GroupsI wb p gs gp base pre l) (pRef (cores T) i d) fun a w' => GroupsI wb p gs gp base pre (l ++ [a]) w') := by
  obtain ⟨hP, ⟨vi, hS, hO⟩, hbase, hfr⟩ := hI
  have HF0 := Lib.hid hfr
  clear hfr
  obtain ⟨r, hr⟩ : ∃ r, pRef (cores T) i d = r := ⟨_, rfl⟩
  rw [hr]
  have HR := Lib.hid hr
  have HO := Lib.hid hO
  obtain ⟨A8, c8', rfl⟩ := hO.form
  have hlT := ha.st.tk.len
  have hleT := ha.st.le
  clear hr hO
  obtain ⟨i0', hi0', hz0, hz1, hz2⟩ := info_parts info_expr
  have hgsp : gs ≠ p := by have := ha.hp; omega
  have hgpp : gp ≠ p := by have := ha.hp; omega
  have r1 := hS.cell (u := .slice A8 l.length c8') 17 (by rw [List.getElem?_append_right (by omega)]; simp [hpre])
  have q0 := hP.cell 0 rfl
  have lgp : gp < w.heap.size := hP.lt
  have lgs : gs < w.heap.size := hS.lt
  have hZ := Blk.new w [.int .i64 0, .int .i64 0, .int .i64 0, .int .i64 0, .string ⟨#[]⟩, .string ⟨#[]⟩, .slice none 0 0] 34
  have haZ := ha.alloc (.cells #[.int .i64 0, .int .i64 0, .int .i64 0, .int .i64 0, .string ⟨#[]⟩, .string ⟨#[]⟩, .slice none 0 0] 34)
  have hSZ := hS.alloc (.cells #[.int .i64 0, .int .i64 0, .int .i64 0, .int .i64 0, .string ⟨#[]⟩, .string ⟨#[]⟩, .slice none 0 0] 34)
  have hPZ := hP.alloc (.cells #[.int .i64 0, .int .i64 0, .int .i64 0, .int .i64 0, .string ⟨#[]⟩, .string ⟨#[]⟩, .slice none 0 0] 34)
  have HOZ := Lib.hid (HO.out.below goodE (below1 w (.cells #[.int .i64 0, .int .i64 0, .int .i64 0, .int .i64 0, .string ⟨#[]⟩, .string ⟨#[]⟩, .slice none 0 0] 34)))
  have hZp : w.heap.size ≠ p := by have := ha.st.ps.lt; omega
  go_enter Tryz.func129, Tryz.ntmps129
  go_region_law (first | (refine step_push3 goodE (by rfl) (.tmp 3) (.tmp 7) 32 (by rfl) base 34 i0' _ 88 Tryz.underlying32 hi0' hz0 hz1 hz2 (by rfl) (by omega) (by omega) (.slice A8 l.length c8') l (by rfl) (HO8.out.below goodE (below1 w8 _)) w8.heap.size 1 [.int .i64 0, .int .i64 0, .int .i64 0, .int .i64 0, .string ⟨#[]⟩, .string ⟨#[]⟩, .slice none 0 0] E.zero (by rfl) (Blk.new w8 _ _) (leafR _ _ _ _) (by omega) (by (try simp); omega) ?_; intro gg cap w9 hO9 hg9 hgg; have hS9 := (hS8.alloc _).push hg9 (fun e => by have := (HO.out.blk _ e).1; omega); have hP9 := (hP8.alloc _).push hg9 (fun e => by have := (HO.out.blk _ e).1; omega); have ha9 := (ha8.alloc _).push hg9 (fun g e => by have := (HO.out.blk _ e).1; omega); have y91 := hS9.cell (u := .slice A8 l.length c8') 17 (by rw [List.getElem?_append_right (by omega)]; simp [hpre]); have z91 := hS9.free 17; have hgl : (l.length : Int) < (l.length : Int) + 1 := (by omega); have hgs1 := grp_far HO.out hbs (by (try simp); omega) hgg; have hgp1 := grp_far HO.out hbp (by (try simp); omega) hgg; have hbgg : base ≤ gg := (by (rcases hgg with e | e; exact (HO.out.blk _ e).1; (simp at e; omega))); have HF9 := Lib.hid ((HF8.out.below (below1 w8 _) (by omega)).push hg9 (by simp; omega) (fun g e => .inl (HO.out.blk _ e).1)); have hggs := Nat.ne_of_lt hgs1; have hrf9 := grp_rep goodE HO.out hbase (Nat.le_refl _) (goodE.below hrf (below1 w8 _)) hg9 hgg; have hsgg := Ne.symm hggs; have h98 : w.heap.size ≤ w9.heap.size := Nat.le_trans (by (try simp); omega) hg9.size; obtain ⟨⟨u0, k0⟩, e0⟩ := hO9.last0; obtain ⟨⟨u1, k1⟩, e1⟩ := hO9.lastCell 1 (by omega); obtain ⟨⟨u2, k2⟩, e2⟩ := hO9.lastCell 2 (by omega); obtain ⟨⟨u3, k3⟩, e3⟩ := hO9.lastCell 3 (by omega); obtain ⟨⟨u4, k4⟩, e4⟩ := hO9.lastCell 4 (by omega); obtain ⟨⟨u5, k5⟩, e5⟩ := hO9.lastCell 5 (by omega); obtain ⟨⟨u6, k6⟩, e6⟩ := hO9.lastCell 6 (by omega)) | (refine step_push3 goodE (by rfl) (.tmp 3) (.tmp 7) 32 (by rfl) base 34 i0' _ 88 Tryz.underlying32 hi0' hz0 hz1 hz2 (by rfl) (by omega) (by omega) (.slice A8 l.length c8') l (by rfl) HO8.out w.heap.size 1 [.int .i64 0, .int .i64 0, .int .i64 0, .int .i64 0, .string ⟨#[]⟩, .string ⟨#[]⟩, .slice none 0 0] E.zero (by rfl) hZ8 (leafR _ _ _ _) (by omega) (by (try simp); omega) ?_; intro gg cap w9 hO9 hg9 hgg; have hS9 := hS8.push hg9 (fun e => by have := (HO.out.blk _ e).1; omega); have hP9 := hP8.push hg9 (fun e => by have := (HO.out.blk _ e).1; omega); have ha9 := ha8.push hg9 (fun g e => by have := (HO.out.blk _ e).1; omega); have y91 := hS9.cell (u := .slice A8 l.length c8') 17 (by rw [List.getElem?_append_right (by omega)]; simp [hpre]); have z91 := hS9.free 17; have hgl : (l.length : Int) < (l.length : Int) + 1 := (by omega); have hgs1 := grp_far HO.out hbs (by (try simp); omega) hgg; have hgp1 := grp_far HO.out hbp (by (try simp); omega) hgg; have hbgg : base ≤ gg := (by (rcases hgg with e | e; exact (HO.out.blk _ e).1; omega)); have HF9 := Lib.hid (HF8.out.push hg9 (by omega) (fun g e => .inl (HO.out.blk _ e).1)); have hggs := Nat.ne_of_lt hgs1; have hrf9 := grp_rep goodE HO.out hbase (by simp) hrf hg9 hgg; have hsgg := Ne.symm hggs; have h98 : w.heap.size ≤ w9.heap.size := Nat.le_trans (by (try simp); omega) hg9.size; obtain ⟨⟨u0, k0⟩, e0⟩ := hO9.last0; obtain ⟨⟨u1, k1⟩, e1⟩ := hO9.lastCell 1 (by omega); obtain ⟨⟨u2, k2⟩, e2⟩ := hO9.lastCell 2 (by omega); obtain ⟨⟨u3, k3⟩, e3⟩ := hO9.lastCell 3 (by omega); obtain ⟨⟨u4, k4⟩, e4⟩ := hO9.lastCell 4 (by omega); obtain ⟨⟨u5, k5⟩, e5⟩ := hO9.lastCell 5 (by omega); obtain ⟨⟨u6, k6⟩, e6⟩ := hO9.lastCell 6 (by omega)) | (go_simp; go_at_call 130; refine at_last (ref_call p v T i n d _ (ha.drewN 1).st) (ha.drewN 1) HR (fun f2 q d8 val w8 HR8 hv ha8 hij8 hg8 => ?_) (fun j c w' hr hg => ⟨rfl, (show LPost _ _ _ _ _ _ _ _ _ _ _ by rw [hr.out]; exact ⟨rfl, hg⟩)⟩); obtain ⟨fs, rfl, hrf⟩ := hv; obtain ⟨c0, c1, c2, c3, c4, c5, C, c6, c7, rfl⟩ := erep_lit hrf; have hS8 := (hS.drewN 1).grown hg8 hgsp; have hP8 := (hP.drewN 1).grown hg8 hgpp; have HO8 := Lib.hid ((HO.out.below goodE (belowD _ 1)).grown goodE hg8 (by have := ha.hp; omega)); have y1 := hS8.cell (u := .slice A8 l.length c8') 17 (by rw [List.getElem?_append_right (by omega)]; simp [hpre]); have z1' := hS8.free 17; have l9 : gs < w8.heap.size := hS8.lt; have h78 : w.heap.size ≤ w8.heap.size := hg8.size; have HF8 := Lib.hid ((HF0.out.below (belowD w 1) hbase).push hg8 hbase (fun g e => by cases e; exact .inr (.inr rfl)))) | (go_simp; go_at_call 130; refine at_last (ref_call p v T i n d _ (haZ.drewN 1).st) (haZ.drewN 1) HR (fun f2 q d8 val w8 HR8 hv ha8 hij8 hg8 => ?_) (fun j c w' hr hg => ⟨rfl, (show LPost _ _ _ _ _ _ _ _ _ _ _ by rw [hr.out]; exact ⟨rfl, hg⟩)⟩); obtain ⟨fs, rfl, hrf⟩ := hv; obtain ⟨c0, c1, c2, c3, c4, c5, C, c6, c7, rfl⟩ := erep_lit hrf; have hS8 := (hSZ.drewN 1).grown hg8 hgsp; have hP8 := (hPZ.drewN 1).grown hg8 hgpp; have HO8 := Lib.hid ((HOZ.out.below goodE (belowD _ 1)).grown goodE hg8 (by have := ha.hp; omega)); have y1 := hS8.cell (u := .slice A8 l.length c8') 17 (by rw [List.getElem?_append_right (by omega)]; simp [hpre]); have z1' := hS8.free 17; have l9 : gs < w8.heap.size := hS8.lt; have h78 : w.heap.size ≤ w8.heap.size := Nat.le_trans (by simp) hg8.size; have hZ8 := (hZ.drewN 1).grown hg8 hZp; have HF8 := Lib.hid (((HF0.out.below (below1 w _) hbase).below (belowD _ 1) (by simp; omega)).push hg8 (by simp; omega) (fun g e => by cases e; exact .inr (.inr rfl)))))
  all_goals
    have hfin := grp_world hpre hgs hbs (Ne.symm hne) ha9 hP9 hS9 hO9 hrf9 hgs1 hgp1 (by omega) hbgg HF9.out
    have HF := Lib.hid hfin
    clear hfin
    go_end0
    rw [HR8.out]
    refine ⟨rfl, ?_, hij8, ?_⟩
    · first | with_reducible exact HF.out.1.1 | with_reducible exact HF.out.2.1
    · first | with_reducible exact HF.out.1.2 | with_reducible exact HF.out.2.2
theorem GroupsI.grown {wb : World} {p gs gp base : Nat} {pre : List Value} {l : List E} {w w' : World} (h : GroupsI wb p gs gp base pre l w) (hg : w.grownBy w' (some p)) (h1 : gs ≠ p) (h2 : gp ≠ p) (h3 : p < base) : GroupsI wb p gs gp base pre l w' :=
  ⟨h.box.grown hg h2, let ⟨vi, ha, hb⟩ := h.sel; ⟨vi, ha.grown hg h1, hb.grown goodE hg h3⟩, Nat.le_trans h.le hg.size, h.fr.push hg h.le (fun g e => by cases e; exact .inr (.inr rfl))⟩
end Go.Proofs.YtpmncgbpbcgfaaaGreatDoor

/-
  The operator of a combination.
-/
namespace Go.Proofs.YtpmncgbpbcgfaaaGreatDoor
open Go.RowKit
set_option linter.unusedVariables false
set_option linter.unusedSimpArgs false

set_option maxHeartbeats 4000000 in
set_option maxRecDepth 100000 in
theorem combination_call (p : Nat) (v : Value) (T : List Tok) (i n : Nat) (d : Bool) (w : World) (h : St w p v T i n d) :
    Calls Tryz.prog 89 #[.pointer (some ⟨p, 0, none⟩)] w (PPost w p v T i n opR (pCombination (cores T) i d)) := by
  obtain ⟨r, hr⟩ : ∃ r, pCombination (cores T) i d = r := ⟨_, rfl⟩
  rw [hr]
  unfold pCombination at hr
  have HR := Lib.hid hr
  have ha := At.start h
  clear hr h
  go_enter Tryz.func89, Tryz.ntmps89
  go_wp2_with fail
  refine at_word ha _ [85, 78, 73, 79, 78] rfl HR (fun w1 HR ha hg1 => ?_) (fun w1 HR ha hg1 => ?_)
  · have tt : True := trivial
    have hs1 := hg1.size
    clear hg1
    go_wp2_with fail
    go_ret2
    exact at_ok ha HR.out.symm rfl (by omega)
  · have tt : True := trivial
    have hs1 := hg1.size
    clear hg1
    go_wp2_with fail
    refine at_word ha _ [69, 88, 67, 69, 80, 84] rfl HR (fun w2 HR ha hg2 => ?_) (fun w2 HR ha hg2 => ?_)
    · have tt : True := trivial
      have hs2 := hg2.size
      clear hg2
      go_wp2_with fail
      go_ret2
      exact at_ok ha HR.out.symm rfl (by omega)
    · have tt : True := trivial
      have hs2 := hg2.size
      clear hg2
      go_wp2_with fail
      refine at_word ha _ [73, 78, 84, 69, 82, 83, 69, 67, 84] rfl HR (fun w3 HR ha hg3 => ?_) (fun w3 HR ha hg3 => ?_)
      · have tt : True := trivial
        have hs3 := hg3.size
        clear hg3
        go_wp2_with fail
        go_ret2
        exact at_ok ha HR.out.symm rfl (by omega)
      · have tt : True := trivial
        have hs3 := hg3.size
        clear hg3
        go_wp2_with fail
        go_ret2
        exact at_ok ha HR.out.symm rfl (by omega)
end Go.Proofs.YtpmncgbpbcgfaaaGreatDoor

/-
  A simple query: what its walk carries.
-/
namespace Go.Proofs.YtpmncgbpbcgfaaaGreatDoor
open Go.RowKit
set_option linter.unusedVariables false
set_option linter.unusedSimpArgs false

section
variable {β : Type} {w0 w : World} {p : Nat} {v : Value} {T : List Tok} {i n : Nat} {d : Bool} {r : R β} {Q : Ending → World → Prop}
/-- a symbol's Bool, whatever is done with it -/
theorem at_symbolB {f : Bool → P β} (ha : At w0 w p v T i n d) (s : ByteArray) (l : List UInt8) (hs : s.data.toList = l) (HR : Hid ((pSymbol l >>= f) (cores T) i d = r))
    (hok : ∀ b j w', Hid (f b (cores T) j d = r) → (b = true → i < j) → i ≤ j → At w0 w' p v T j n d → w.grownBy w' (some p) → Q (.returned (.bool b)) w') :
    Calls Tryz.prog 28 #[.pointer (some ⟨p, 0, none⟩), .string s] w Q :=
  symbol_use ha.st s l hs (fun w' hx hs' hg => hok true (i + 1) w' (Lib.hid (bind_ok (pSymbol_yes hx) HR.out)) (fun _ => Nat.lt_succ_self _) (Nat.le_succ _) (ha.call hg hs') hg) fun w' hx hs' hg => hok false i w' (Lib.hid (bind_ok (pSymbol_no hx) HR.out)) (fun e => by cases e) (Nat.le_refl _) (ha.call hg hs') hg
end
/-- a store into a block that came to be behind -/
theorem grown_new {wa w1 w2 : World} {p g : Nat} (h1 : wa.grownBy w1 (some p)) (h2 : w1.grownBy w2 (some g)) (hg : wa.heap.size ≤ g) : wa.grownBy w2 (some p) :=
  ⟨h2.os.trans h1.os, h2.tape.trans h1.tape, h2.output.trans h1.output, Nat.le_trans h1.size h2.size, fun b hb hne => (h2.block b (Nat.lt_of_lt_of_le hb h1.size) (fun e => by injection e with e; omega)).trans (h1.block b hb hne)⟩
theorem Blk.all {w : World} {g : Nat} {cs : List Value} {t : TypeId} (h : Blk w g cs t) : w.rangeAt g 0 cs := fun k u hk => by rw [Nat.zero_add]; exact h.cell k hk
/-- a list in a chain -/
theorem at_list {α β : Type} {w0 w : World} {p : Nat} {v : Value} {T : List Tok} {i n : Nat} {d : Bool} {r : R β} {Q : Ending → World → Prop} {x : P α} {f : List α → P β} {m g : Nat} {lb : Array Value} {I : List α → World → Prop}
    (hc : Calls Tryz.prog 59 #[.pointer (some ⟨p, 0, none⟩), .func (.func g) #[] lb] w (LPost w0 p v T i n (I []) (pList m x (cores T) i d) I)) (HR : Hid ((pList m x >>= f) (cores T) i d = r))
    (hok : ∀ l j d' w', Hid (f l (cores T) j d' = r) → I l w' → At w0 w' p v T j n d' → i ≤ j → Q (.returned (.tuple #[])) w')
    (hfail : ∀ j c w', Hid (r = .fail j c) → w0.grownBy w' (some p) → Q (failE T n j c) w') : Calls Tryz.prog 59 #[.pointer (some ⟨p, 0, none⟩), .func (.func g) #[] lb] w Q := by
  refine hc.mono ?_
  intro e w' hp
  rcases hx : pList m x (cores T) i d with ⟨l, j, d1⟩ | ⟨j, c⟩
  · rw [hx] at hp
    obtain ⟨rfl, ha1, hij, hI1⟩ := hp
    exact hok l j d1 w' (Lib.hid (bind_ok hx HR.out)) hI1 ha1 hij
  · rw [hx] at hp
    obtain ⟨rfl, hg1⟩ := hp
    exact hfail j c w' (Lib.hid (bind_fail hx HR.out)) hg1
theorem P_wrong {α β : Type} (f : α → P β) : ((pWrong : P α) >>= f) = (pWrong : P β) := by
  funext C i d
  show P.bind pWrong f C i d = _
  unfold P.bind pWrong
  by_cases h : C.length ≤ i
  · simp only [if_pos h]
  · simp only [if_neg h]
def zeroE7 : List Value := [.int .i64 0, .int .i64 0, .int .i64 0, .int .i64 0, .string ⟨#[]⟩, .string ⟨#[]⟩, .slice none 0 0]
theorem zeroE_rep (w : World) (F : Nat → Prop) : ERep w F E.zero zeroE7 := leafR _ _ _ _
def pSelG (m : Nat) (a : Sel) : P Sel := do
  if ← pWord [71, 82, 79, 85, 80] then
    pWords [[66, 89]]
    let g ← pList m pRef
    pure { a with groupBy := g }
  else pure a
def pSelW (m : Nat) (a : Sel) : P Sel := do
  if ← pWord [87, 72, 69, 82, 69] then
    let e ← pExpr m
    pSelG m { a with hasWhere := true, cond := e }
  else pSelG m a
def pSelJ (m : Nat) (a : Sel) : P Sel := do
  let js ← pJoins m m []
  pSelW m { a with joins := js }
def pSelF (m : Nat) (a : Sel) : P Sel := do
  pWords [[70, 82, 79, 77]]
  let f ← pSource
  pSelJ m { a with src := f }
theorem pSel_eq (m : Nat) : pSel m = (pWord [68, 73, 83, 84, 73, 78, 67, 84] >>= fun d => pSymbol [42] >>= fun b => if b = true then pSelF m ⟨d, [⟨E.zero, 0, true, []⟩], Src.zero, [], false, E.zero, []⟩ else pList m (pItem m) >>= fun l => pSelF m ⟨d, l, Src.zero, [], false, E.zero, []⟩) := by
  unfold pSel pSelF pSelJ pSelW pSelG pWhere
  simp only [P_assoc, P_ite, P_pure]
theorem joins_step {β : Type} {m k : Nat} {l : List Jn} {f : List Jn → P β} {C : List Core} {j : Nat} {d : Bool} {r : R β} (hr : (pJoins m (k + 1) l >>= f) C j d = r) :
    (pWord [76, 69, 70, 84] >>= fun left => pAhead 0 2 [74, 79, 73, 78] >>= fun jn => if (left && !jn) = true then pWrong else pWord [74, 79, 73, 78] >>= fun b => if b = true then pSource >>= fun s => pWords [[79, 78]] >>= fun _ => pExpr m >>= fun e => pJoins m k (l ++ [⟨s, left, e⟩]) >>= f else f l) C j d = r := by
  rw [pJoins] at hr
  simp only [P_assoc, P_ite, P_pure, P_wrong] at hr
  exact hr
theorem joins_no {β : Type} {A B : P β} {C : List Core} {j : Nat} {d : Bool} {r : R β} {l : List UInt8} (hr : (pAhead 0 2 l >>= fun jn => if (false && !jn) = true then A else B) C j d = r) : B C j d = r := by
  rw [← hr]
  show _ = P.bind (pAhead 0 2 l) _ C j d
  unfold P.bind pAhead
  simp
theorem joins_yes {β : Type} {A B : P β} {C : List Core} {j : Nat} {d : Bool} {r : R β} {jn : Bool} (hr : (if (true && !jn) = true then A else B) C j d = r) : (if jn = true then B else A) C j d = r := by
  cases jn <;> simpa using hr
/-- a select's cells behind the items -/
def selTail (a : Sel) (vj vg : Value) (es : List Value) : List Value := srcCells a.src ++ ([vj, .bool a.hasWhere] ++ (es ++ [vg]))
/-- a select's cells before the groups -/
def selPre (a : Sel) (vi vj : Value) (es : List Value) : List Value := [.bool a.distinct, vi] ++ (srcCells a.src ++ ([vj, .bool a.hasWhere] ++ es))
theorem selCells_pre (a : Sel) (vi vj vg : Value) (es : List Value) : selCells a vi vj vg es = selPre a vi vj es ++ [vg] := by simp [selCells, selPre]
theorem selPre_len (a : Sel) (vi vj : Value) {es : List Value} (h : es.length = 7) : (selPre a vi vj es).length = 17 := by simp [selPre, srcCells, h]
theorem SelIs.kept {w w' : World} {F : Nat → Prop} {a : Sel} {vi vj vg : Value} {es : List Value} (h : SelIs w F a vi vj vg es) (hk : ∀ b, F b → b < w.heap.size → w'.heap[b]? = w.heap[b]?) : SelIs w' F a vi vj vg es :=
  ⟨h.items.kept goodItem hk, h.joins.kept goodJn hk, goodE.kept h.cond hk, h.group.kept goodE hk⟩
theorem SelIs.mono {w : World} {F F' : Nat → Prop} {a : Sel} {vi vj vg : Value} {es : List Value} (h : SelIs w F a vi vj vg es) (hk : ∀ b, F b → b < w.heap.size → F' b) : SelIs w F' a vi vj vg es :=
  ⟨h.items.mono goodItem hk, h.joins.mono goodJn hk, goodE.mono h.cond hk, h.group.mono goodE hk⟩
def selZero : List Value := [.bool false, .slice none 0 0, .string ⟨#[]⟩, .string ⟨#[]⟩, .int .i64 0, .int .i64 0, .int .i64 0, .int .i64 0, .slice none 0 0, .bool false, .int .i64 0, .int .i64 0, .int .i64 0, .int .i64 0, .string ⟨#[]⟩, .string ⟨#[]⟩, .slice none 0 0, .slice none 0 0]
abbrev selFp (w0 : World) (gs : Nat) : Nat → Prop := Fp w0.heap.size [gs, w0.heap.size + 1, w0.heap.size]
/-- a select under construction: gs its block, a what it holds so far -/
structure SelI (w0 : World) (p : Nat) (v : Value) (T : List Tok) (i n gs : Nat) (a : Sel) (vi vj vg : Value) (es : List Value) (j : Nat) (d : Bool) (w : World) : Prop where
  at_ : At w0 w p v T j n d
  ij : i ≤ j
  box : Blk w w0.heap.size [.pointer (some ⟨p, 0, none⟩)] 77
  res : Blk w (w0.heap.size + 1) selZero 36
  sel : Blk w gs (selCells a vi vj vg es) 36
  is : SelIs w (selFp w0 gs) a vi vj vg es
  lo : w0.heap.size + 1 < gs
section
variable {w0 w w' : World} {p : Nat} {v : Value} {T : List Tok} {i n gs : Nat} {a : Sel} {vi vj vg : Value} {es : List Value} {j j' : Nat} {d d' : Bool}
theorem SelI.call (h : SelI w0 p v T i n gs a vi vj vg es j d w) (ha : At w0 w' p v T j' n d') (hij : j ≤ j') (hg : w.grownBy w' (some p)) : SelI w0 p v T i n gs a vi vj vg es j' d' w' := by
  have hp := h.at_.hp
  have hlo := h.lo
  exact ⟨ha, Nat.le_trans h.ij hij, h.box.grown hg (by omega), h.res.grown hg (by omega), h.sel.grown hg (by omega), h.is.kept fun b hb hl => hg.block b hl (fun e => by injection e with e; have := hb.1; omega), hlo⟩
theorem SelI.below (h : SelI w0 p v T i n gs a vi vj vg es j d w) (hb : Below w.heap.size w w') : SelI w0 p v T i n gs a vi vj vg es j d w' :=
  ⟨h.at_.below hb, h.ij, h.box.below hb, h.res.below hb, h.sel.below hb, h.is.kept fun b _ hl => hb.block b hl, h.lo⟩
theorem SelI.alloc (h : SelI w0 p v T i n gs a vi vj vg es j d w) (o : Obj) : SelI w0 p v T i n gs a vi vj vg es j d (w.alloc o) := h.below (below1 w o)
theorem SelI.drewN (h : SelI w0 p v T i n gs a vi vj vg es j d w) (k : Nat) : SelI w0 p v T i n gs a vi vj vg es j d (w.drewN k) := h.below (belowD w k)
/-- a store into the select's block -/
theorem SelI.put (h : SelI w0 p v T i n gs a vi vj vg es j d w) {a' : Sel} {vi' vj' vg' : Value} {es' : List Value} (hg : w.grownBy w' (some gs)) (hb : Blk w' gs (selCells a' vi' vj' vg' es') 36) (hi : SelIs w (selFp w0 gs) a' vi' vj' vg' es') : SelI w0 p v T i n gs a' vi' vj' vg' es' j d w' := by
  have hlo := h.lo
  exact ⟨h.at_.own hg (by omega), h.ij, h.box.grown hg (by omega), h.res.grown hg (by omega), hb, hi.kept fun b hb hl => hg.block b hl (fun e => by injection e with e; subst e; exact hb.2 (by simp)), hlo⟩
theorem SelI.setItems (h : SelI w0 p v T i n gs a vi vj vg es j d w) {l : List Item} {u : Value} (hu : LRep 10 ItemRep w (selFp w0 gs) l u) : SelI w0 p v T i n gs { a with items := l } u vj vg es j d (w.setCell ⟨gs, 1, none⟩ u) :=
  h.put (only_setCell (World.grownBy.refl _ _) 1 u) (h.sel.set 1 u) ⟨hu, h.is.joins, h.is.cond, h.is.group⟩
theorem SelI.star (h : SelI w0 p v T i n gs a vi vj vg es j d w) : SelI w0 p v T i n gs { a with items := [⟨E.zero, 0, true, []⟩] } (.slice (some ⟨w.heap.size, 0, none⟩) 1 1) vj vg es j d ((w.setCell ⟨gs, 1, none⟩ (.slice (some ⟨w.heap.size, 0, none⟩) 1 1)).alloc (.cells #[.int .i64 0, .int .i64 0, .int .i64 0, .int .i64 0, .string ⟨#[]⟩, .string ⟨#[]⟩, .slice none 0 0, .int .i64 0, .bool true, .string ⟨#[]⟩] 113)) := by
  have hlt := h.sel.lt
  have hlo := h.lo
  rw [← World.setCell_alloc_past _ gs 1 _ hlt]
  refine (h.alloc _).setItems (LRep.single goodItem (Blk.new w [.int .i64 0, .int .i64 0, .int .i64 0, .int .i64 0, .string ⟨#[]⟩, .string ⟨#[]⟩, .slice none 0 0, .int .i64 0, .bool true, .string ⟨#[]⟩] _) ⟨zeroE7, zeroE_rep _ _, rfl⟩ ⟨by omega, by simp; omega⟩)
/-- the items are read -/
theorem SelI.ofItems (h : SelI w0 p v T i n gs a vi vj vg es j d w) {l : List Item} (hI : ItemsI w p gs w0.heap.size w.heap.size (.bool a.distinct) (selTail a vj vg es) l w') (ha : At w0 w' p v T j' n d') (hij : j ≤ j') : ∃ u, SelI w0 p v T i n gs { a with items := l } u vj vg es j' d' w' := by
  obtain ⟨hbox, ⟨u, hS, hO⟩, hle, hfr⟩ := hI
  have hlo := h.lo
  have hp := h.at_.hp
  have hlt := h.sel.lt
  have hk : ∀ b, selFp w0 gs b → b < w.heap.size → w'.heap[b]? = w.heap[b]? := fun b hb hl => hfr b hl (fun e => hb.2 (by simp [e])) (fun e => by have := hb.1; omega)
  refine ⟨u, ⟨ha, Nat.le_trans h.ij hij, hbox, (hfr _ (by omega) (by omega) (by omega)).trans h.res, hS, ⟨?_, h.is.joins.kept goodJn hk, goodE.kept h.is.cond hk, h.is.group.kept goodE hk⟩, hlo⟩⟩
  exact (hO.done goodItem).mono goodItem fun b hb _ => ⟨by omega, by simp; omega⟩
theorem SelI.toItems (h : SelI w0 p v T i n gs a (.slice none 0 0) vj vg es j d w) : ItemsI w p gs w0.heap.size w.heap.size (.bool a.distinct) (selTail a vj vg es) [] w :=
  ⟨h.box, ⟨_, h.sel, OwnL.nil _ _⟩, Nat.le_refl _, Fr.refl _ _ _ _⟩
/-- the groups are read -/
theorem SelI.ofGroups (h : SelI w0 p v T i n gs a vi vj vg es j d w) {l : List E} (hI : GroupsI w p gs w0.heap.size w.heap.size (selPre a vi vj es) l w') (ha : At w0 w' p v T j' n d') (hij : j ≤ j') : ∃ u, SelI w0 p v T i n gs { a with groupBy := l } vi vj u es j' d' w' := by
  obtain ⟨hbox, ⟨u, hS, hO⟩, hle, hfr⟩ := hI
  have hlo := h.lo
  have hp := h.at_.hp
  have hlt := h.sel.lt
  have hk : ∀ b, selFp w0 gs b → b < w.heap.size → w'.heap[b]? = w.heap[b]? := fun b hb hl => hfr b hl (fun e => hb.2 (by simp [e])) (fun e => by have := hb.1; omega)
  refine ⟨u, ⟨ha, Nat.le_trans h.ij hij, hbox, (hfr _ (by omega) (by omega) (by omega)).trans h.res, by rw [selCells_pre]; exact hS, ⟨h.is.items.kept goodItem hk, h.is.joins.kept goodJn hk, goodE.kept h.is.cond hk, ?_⟩, hlo⟩⟩
  exact (hO.done goodE).mono goodE fun b hb _ => ⟨by omega, by simp; omega⟩
theorem SelI.toGroups (h : SelI w0 p v T i n gs a vi vj (.slice none 0 0) es j d w) : GroupsI w p gs w0.heap.size w.heap.size (selPre a vi vj es) [] w :=
  ⟨h.box, ⟨.slice none 0 0, by rw [← selCells_pre]; exact h.sel, OwnL.nil _ _⟩, Nat.le_refl _, Fr.refl _ _ _ _⟩
end
/-- a select's joins under construction -/
structure JoinsI (w0 : World) (p : Nat) (v : Value) (T : List Tok) (i n gs base : Nat) (a : Sel) (vi vj : Value) (l : List Jn) (j : Nat) (d : Bool) (w : World) : Prop where
  at_ : At w0 w p v T j n d
  ij : i ≤ j
  box : Blk w w0.heap.size [.pointer (some ⟨p, 0, none⟩)] 77
  res : Blk w (w0.heap.size + 1) selZero 36
  sel : Blk w gs (selCells a vi vj (.slice none 0 0) zeroE7) 36
  items : LRep 10 ItemRep w (fun b => selFp w0 gs b ∧ b < base) a.items vi
  own : OwnL 14 115 JnRep w base l vj
  lo : w0.heap.size + 1 < gs
  gsb : gs < base
  le : base ≤ w.heap.size
section
variable {w0 w w' : World} {p : Nat} {v : Value} {T : List Tok} {i n gs base : Nat} {a : Sel} {vi vj : Value} {l : List Jn} {j j' : Nat} {d d' : Bool}
theorem JoinsI.start (h : SelI w0 p v T i n gs a vi (.slice none 0 0) (.slice none 0 0) zeroE7 j d w) : JoinsI w0 p v T i n gs w.heap.size a vi (.slice none 0 0) [] j d w :=
  ⟨h.at_, h.ij, h.box, h.res, h.sel, h.is.items.mono goodItem fun b hb hl => ⟨hb, hl⟩, OwnL.nil _ _, h.lo, h.sel.lt, Nat.le_refl _⟩
theorem JoinsI.done (h : JoinsI w0 p v T i n gs base a vi vj l j d w) : SelI w0 p v T i n gs ⟨a.distinct, a.items, a.src, l, a.hasWhere, E.zero, []⟩ vi vj (.slice none 0 0) zeroE7 j d w := by
  have hlo := h.lo
  have hgs := h.gsb
  exact ⟨h.at_, h.ij, h.box, h.res, h.sel, ⟨h.items.mono goodItem fun b hb _ => hb.1, (h.own.done goodJn).mono goodJn fun b hb _ => ⟨by omega, by simp; omega⟩, zeroE_rep _ _, .inl ⟨rfl, rfl⟩⟩, hlo⟩
theorem JoinsI.call (h : JoinsI w0 p v T i n gs base a vi vj l j d w) (ha : At w0 w' p v T j' n d') (hij : j ≤ j') (hg : w.grownBy w' (some p)) : JoinsI w0 p v T i n gs base a vi vj l j' d' w' := by
  have hp := h.at_.hp
  have hlo := h.lo
  have hgs := h.gsb
  exact ⟨ha, Nat.le_trans h.ij hij, h.box.grown hg (by omega), h.res.grown hg (by omega), h.sel.grown hg (by omega), h.items.kept goodItem fun b hb hl => hg.block b hl (fun e => by injection e with e; have := hb.1.1; omega), h.own.grown goodJn hg (by omega), hlo, hgs, Nat.le_trans h.le hg.size⟩
theorem JoinsI.below (h : JoinsI w0 p v T i n gs base a vi vj l j d w) (hb : Below w.heap.size w w') : JoinsI w0 p v T i n gs base a vi vj l j d w' :=
  ⟨h.at_.below hb, h.ij, h.box.below hb, h.res.below hb, h.sel.below hb, h.items.kept goodItem fun b _ hl => hb.block b hl, h.own.below goodJn hb, h.lo, h.gsb, Nat.le_trans h.le hb.size⟩
/-- a store into a block of its own that is no part of it -/
theorem JoinsI.far {g : Nat} (h : JoinsI w0 p v T i n gs base a vi vj l j d w) (hg : w.grownBy w' (some g)) (h1 : base ≤ g) (h2 : OwnL 14 115 JnRep w' base l vj) : JoinsI w0 p v T i n gs base a vi vj l j d w' := by
  have hlo := h.lo
  have hgs := h.gsb
  exact ⟨h.at_.own hg (by omega), h.ij, h.box.grown hg (by omega), h.res.grown hg (by omega), h.sel.grown hg (by omega), h.items.kept goodItem fun b hb hl => hg.block b hl (fun e => by injection e with e; have := hb.2; omega), h2, hlo, hgs, Nat.le_trans h.le hg.size⟩
/-- one more join: the append, and the store of its slice -/
theorem JoinsI.push {b : Jn} {gg cap : Nat} {row : Option Nat} (h : JoinsI w0 p v T i n gs base a vi vj l j d w) (hg : w.grownBy w' row) (hrow : ∀ g, row = some g → base ≤ g) (ho : OwnL 14 115 JnRep w' base (l ++ [b]) (.slice (some ⟨gg, 0, none⟩) (l.length + 1) cap)) :
    JoinsI w0 p v T i n gs base a vi (.slice (some ⟨gg, 0, none⟩) (l.length + 1) cap) (l ++ [b]) j d (w'.setCell ⟨gs, 8, none⟩ (.slice (some ⟨gg, 0, none⟩) (l.length + 1) cap)) := by
  have hlo := h.lo
  have hgs := h.gsb
  have hk := only_setCell (World.grownBy.refl w' (some gs)) 8 (.slice (some ⟨gg, 0, none⟩) (l.length + 1) cap)
  have hz : (w'.setCell ⟨gs, 8, none⟩ (.slice (some ⟨gg, 0, none⟩) (l.length + 1) cap)).heap.size = w'.heap.size := by simp [World.setCell]
  refine ⟨(h.at_.push hg (fun g e => by have := hrow g e; omega)).set (by omega) _ _, h.ij, (h.box.push hg (fun e => by have := hrow _ e; omega)).grown hk (by omega), (h.res.push hg (fun e => by have := hrow _ e; omega)).grown hk (by omega), (h.sel.push hg (fun e => by have := hrow _ e; omega)).set 8 _, ?_, ho.far goodJn hk hgs, hlo, hgs, by rw [hz]; exact Nat.le_trans h.le hg.size⟩
  have h1 := h.items.kept goodItem (w' := w') fun b hb hl => hg.block b hl (fun e => by have := hrow b e.symm; have := hb.2; omega)
  exact h1.kept goodItem fun b hb hl => hk.block b hl (fun e => by injection e with e; subst e; exact hb.1.2 (by simp))
end
/-- the loop over the joins -/
structure JoinsRel (w0 : World) (p : Nat) (v : Value) (T : List Tok) (i n gs base m : Nat) (ds : Bool) (items : List Item) (s : Src) (vi : Value) (r : R Sel) (gk j : Nat) (d : Bool) (l : List Jn) (vj : Value) (k : Nat) (w : World) : Prop where
  gk : gk + j = T.length
  inv : JoinsI w0 p v T i n gs base ⟨ds, items, s, [], false, E.zero, []⟩ vi vj l j d w
  fuel : T.length + 1 ≤ k + j
  len : l.length ≤ j
  pr : (pJoins m k l >>= fun js => pSelW m ⟨ds, items, s, js, false, E.zero, []⟩) (cores T) j d = r
end Go.Proofs.YtpmncgbpbcgfaaaGreatDoor
