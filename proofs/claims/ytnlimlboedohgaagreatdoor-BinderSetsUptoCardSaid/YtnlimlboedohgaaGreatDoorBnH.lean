import Derived.Test.YtnlimlboedohgaaGreatDoorBnC
import Derived.Test.YtnlimlboedohgaaGreatDoorBnE
import Derived.Maps.OwnOps
import Derived.Maps.Views
import Derived.Deep.DeepCutAuto
/-
  Assignments to a table in memory, what they become, and lists of expressions whose elements are exchanged.
-/
set_option maxHeartbeats 16000000
set_option maxRecDepth 100000
namespace Go.Proofs.YtnlimlboedohgaaGreatDoor.Px
open Go Go.RowKit Go.Proofs.YtnlimlboedohgaaGreatDoor.Ps
set_option linter.unusedVariables false
set_option linter.unusedSimpArgs false
abbrev Asg := S × X
def setC (s : Asg) : C := .a [.l (strV s.1), toC s.2]
def SL (w : World) (l : List Asg) (v : Value) : Prop := Rp Tryz.prog w 40 [v] (.s (l.map setC))
theorem SL.kept {n : Nat} {w w' : World} {l : List Asg} {v : Value} (h : SL w l v) (hb : Below n w w') (hn : w.heap.size ≤ n) : SL w' l v := Rp.kept hb hn h
theorem sets_of {w : World} {v : List Value} {xs : List C} (h : Rp Tryz.prog w 40 v (.s xs)) : ∃ l : List Asg, xs = l.map setC := by
 obtain ⟨_, _, _, ys, e1, e2, _, _, _, hx⟩ := h.slice_inv Tryz.underlying40
 injection e2 with e2
 subst e2
 exact all_of fun i hi => by
  obtain ⟨_, us, _, _, hu⟩ := hx i hi
  obtain ⟨s0, y1, _, _, _, _, _, _, _, _, e, _, hr⟩ := shp_Set hu
  obtain ⟨x, rfl⟩ := x_of _ w _ _ (Nat.le_refl _) hr
  exact ⟨(s0.data.toList, x), by rw [e]; unfold setC; rw [← str_list]⟩
theorem SL.at_ {w : World} {l : List Asg} {a : Option Addr} {n m k : Nat} (h : SL w l (.slice a n m)) (hk : k < n) : ∃ g o us, a = some ⟨g, o, none⟩ ∧ ∃ hx : k < l.length, EC w g (o + k * 8) (.string ⟨l[k].1.toArray⟩ :: us) ∧ XR w l[k].2 us ∧ us.length = 7 ∧ l[k].1.length ≤ maxLen := by
 obtain ⟨g, o, us, e, hc, hx, hr⟩ := el_at Tryz.underlying40 zc_Set (by omega) h hk
 have hx' : k < l.length := by simpa using hx
 rw [List.getElem_map] at hr
 obtain ⟨s0, y1, u1, u2, u3, u4, u5, u6, u7, rfl, e2, hs, hrx⟩ := shp_Set hr
 unfold setC at e2
 injection e2 with e2
 injection e2 with e0 e2
 injection e2 with e1 _
 injection e0 with e0
 unfold strV at e0
 injection e0 with e0
 subst e1
 subst e0
 exact ⟨g, o, _, e, hx', hc, hrx, rfl, by simpa [ByteArray.size] using hs⟩
theorem SL.len {w : World} {l : List Asg} {a : Option Addr} {n m : Nat} (h : SL w l (.slice a n m)) : l.length = n := by
 obtain ⟨_, _, _, ys, e1, e2, e3, _, _, _⟩ := h.slice_inv Tryz.underlying40
 cases e1
 injection e2 with e2
 subst e2
 simpa using e3
/-- the kind of a column -/
def kindAt (L : List Col) (i : Int) : Int := (kindsC L).getD i.toNat 0
theorem kindAt_eq {L : List Col} {i : Nat} (h : i < L.length) : kindAt L (i : Int) = L[i].kind := by
 unfold kindAt kindsC
 simp [List.getD_eq_getElem?_getD, h]
/-- what the assignments r become, behind those to the columns met -/
def setsG (L : List Col) (tn : S) : List Asg → List S → List X → List X ⊕ Int
 | [], _, out => .inl out
 | (s, x) :: r, met, out =>
  if findV L s < 0 then .inr 11 else if s ∈ met then .inr 10 else
  match bindR (kindsC L) (resR (some tn) (L.map (·.nm)) x) with
  | .inr e => .inr e
  | .inl (y, k) => if k ≠ 0 ∧ k ≠ kindAt L (findV L s) then .inr 7 else setsG L tn r (met ++ [s]) (out.set (findV L s).toNat y)
def colXs (n : Nat) : List X := (List.range n).map fun (i : Nat) => colX (i : Int)
def setsR (L : List Col) (tn : S) (l : List Asg) : List X ⊕ Int := setsG L tn l [] (colXs L.length)
theorem colXs_succ (n : Nat) : colXs (n + 1) = colXs n ++ [colX (n : Int)] := by
 unfold colXs
 rw [List.range_succ, List.map_append]
 rfl
theorem colXs_len (n : Nat) : (colXs n).length = n := by simp [colXs]
theorem setsG_at {L : List Col} {tn : S} {l : List Asg} {k : Nat} (hk : k < l.length) (met : List S) (out : List X) : setsG L tn (l.drop k) met out = if findV L l[k].1 < 0 then .inr 11 else if l[k].1 ∈ met then .inr 10 else
  match bindR (kindsC L) (resR (some tn) (L.map (·.nm)) l[k].2) with
  | .inr e => .inr e
  | .inl (y, q) => if q ≠ 0 ∧ q ≠ kindAt L (findV L l[k].1) then .inr 7 else setsG L tn (l.drop (k + 1)) (met ++ [l[k].1]) (out.set (findV L l[k].1).toNat y) := by
 have e : l.drop k = (l[k].1, l[k].2) :: l.drop (k + 1) := List.drop_eq_getElem_cons hk
 rw [e, setsG]
theorem findV_range (L : List Col) (s : S) : findV L s < 0 ∨ ∃ i : Nat, ∃ h : i < L.length, findV L s = (i : Int) := by
 rcases findV_cases L s with ⟨h, _⟩ | ⟨i, hi, h, _⟩
 ·exact .inl (by omega)
 ·exact .inr ⟨i, hi, h⟩
/-- what a call that makes a list of expressions, or fails, returns -/
def ListPost (w : World) (r : List X ⊕ Int) (e : Ending) (w' : World) : Prop :=
 (match r with
  | .inl l => ∃ v, e = .returned (.tuple #[v, .int .i64 0]) ∧ (∃ a c, v = .slice a l.length c) ∧ ∀ w2 : World, (∀ b, w.heap.size ≤ b → b < w'.heap.size → w2.heap[b]? = w'.heap[b]?) → XL w2 l v
  | .inr q => e = .returned (.tuple #[.slice none 0 0, .int .i64 q])) ∧ Below w.heap.size w w'
end Go.Proofs.YtnlimlboedohgaaGreatDoor.Px

/-
  A list of expressions of the call's own: an element exchanged.
-/
namespace Go.Proofs.YtnlimlboedohgaaGreatDoor.Px
open Go Go.RowKit Go.Proofs.YtnlimlboedohgaaGreatDoor.Ps
set_option linter.unusedVariables false
set_option linter.unusedSimpArgs false
/-- seven cells from o on -/
def set7 (cs : List Value) (o : Nat) (u0 u1 u2 u3 u4 u5 u6 : Value) : List Value := ((((((cs.set o u0).set (o + 1) u1).set (o + 2) u2).set (o + 3) u3).set (o + 4) u4).set (o + 5) u5).set (o + 6) u6
theorem set7_take (cs : List Value) (o n : Nat) (u0 u1 u2 u3 u4 u5 u6 : Value) : (set7 cs o u0 u1 u2 u3 u4 u5 u6).take n = set7 (cs.take n) o u0 u1 u2 u3 u4 u5 u6 := by
 unfold set7
 simp only [List.take_set]
theorem set7_len (cs : List Value) (o : Nat) (u0 u1 u2 u3 u4 u5 u6 : Value) : (set7 cs o u0 u1 u2 u3 u4 u5 u6).length = cs.length := by
 unfold set7
 simp only [List.length_set]
theorem set7_flat (u0 u1 u2 u3 u4 u5 u6 : Value) : ∀ (css : List (List Value)) (i : Nat), i < css.length → (∀ c ∈ css, c.length = 7) → set7 css.flatten (i * 7) u0 u1 u2 u3 u4 u5 u6 = (css.set i [u0, u1, u2, u3, u4, u5, u6]).flatten
 | [], i, h, _ => absurd h (by simp)
 | c :: css, 0, _, hc => by
  have h7 := hc c (by simp)
  match c, h7 with
  | [c0, c1, c2, c3, c4, c5, c6], _ => simp [set7]
 | c :: css, i + 1, h, hc => by
  have h7 := hc c (by simp)
  have ih := set7_flat u0 u1 u2 u3 u4 u5 u6 css i (by simpa using h) (fun x hx => hc x (List.mem_cons_of_mem _ hx))
  have e : (i + 1) * 7 = c.length + i * 7 := by omega
  rw [List.flatten_cons, List.set_cons_succ, List.flatten_cons, ← ih, e]
  unfold set7
  have aux : ∀ (r : List Value) (j : Nat) (u : Value), (c ++ r).set (c.length + j) u = c ++ r.set j u := fun r j u => by rw [List.set_append_right _ _ (by omega)]; simp
  simp only [Nat.add_assoc, aux]
theorem name_setO {w : World} {g o : Nat} {cs : List Value} {u0 u1 u2 u3 u4 u5 u6 : Value} {t : TypeId} {K : World → Prop} (hb : Blk w g cs t) (h : ∀ w', Wr w g (set7 cs o u0 u1 u2 u3 u4 u5 u6) t w' → K w') :
  K (((((((w.setCell ⟨g, o, none⟩ u0).setCell ⟨g, o + 1, none⟩ u1).setCell ⟨g, o + 2, none⟩ u2).setCell ⟨g, o + 3, none⟩ u3).setCell ⟨g, o + 4, none⟩ u4).setCell ⟨g, o + 5, none⟩ u5).setCell ⟨g, o + 6, none⟩ u6) :=
 h _ (((((((Wr.start hb).set o u0).set (o + 1) u1).set (o + 2) u2).set (o + 3) u3).set (o + 4) u4).set (o + 5) u5 |>.set (o + 6) u6)
/-- an element exchanged -/
theorem OwnX.exch {B : Nat} {v : Value} {l : List X} {w : World} {i : Nat} (h : OwnX B v l w) (hi : i < l.length) : ∃ g cap cur, v = .slice (some ⟨g, 0, none⟩) l.length cap ∧ Blk w g cur 31 ∧ B ≤ g ∧ i * 7 + 6 < cur.length ∧
  ∀ (lo hi' : Nat) (x : X) (u0 u1 u2 u3 u4 u5 u6 : Value) (w' : World), Wr w g (set7 cur (i * 7) u0 u1 u2 u3 u4 u5 u6) 31 w' → XF lo hi' w x [u0, u1, u2, u3, u4, u5, u6] → B ≤ lo → hi' ≤ w.heap.size → (g < lo ∨ hi' ≤ g) → OwnX B v (l.set i x) w' := by
 obtain ⟨css, h1, h2, h3, h4⟩ := h.row
 rcases h3.2 with ⟨rfl, h0⟩ | ⟨g, cap, cur, rfl, hg, hc, hcap, hm, hs, ht⟩
 ·omega
 refine ⟨g, cap, cur.toList, rfl, by unfold Blk; simpa using hc, hg, by simp [hs]; omega, fun lo hi' x u0 u1 u2 u3 u4 u5 u6 w' hw hx hlo hhi hgl => ?_⟩
 refine ⟨css.set i [u0, u1, u2, u3, u4, u5, u6], by simp [h1], fun c hc' => ?_, ?_, fun k k1 k2 w2 hw2 => ?_⟩
 ·rcases List.mem_or_eq_of_mem_set hc' with e | rfl
  ·exact h2 c e
  ·rfl
 ·have hlen : (set7 cur.toList (i * 7) u0 u1 u2 u3 u4 u5 u6).take (l.length * 7) = (css.set i [u0, u1, u2, u3, u4, u5, u6]).flatten := by
   rw [set7_take, ht, set7_flat _ _ _ _ _ _ _ css i (by omega) h2]
  have hb := hw.blk
  unfold Blk at hb
  refine ⟨?_, .inr ⟨g, cap, _, by simp, hg, hb, by simpa using hcap, hm, by simp [set7_len, hs], by simpa using hlen⟩⟩
  rw [← hlen, List.length_take, set7_len, Array.length_toList (xs := cur), hs, List.length_set]
  have : l.length * 7 ≤ cap * 7 := Nat.mul_le_mul_right _ hcap
  omega
 ·have hsz : w'.heap.size = w.heap.size := hw.size
  have old : ∀ b, B ≤ b → b < w.heap.size → g ≠ b → w2.heap[b]? = w.heap[b]? := fun b b1 b2 b3 => (hw2 b b1 (by omega) (by simp [Value.ownBlock]; exact b3)).trans (hw.far b (fun e => b3 e.symm))
  by_cases hki : i = k
  ·subst hki
   simp only [List.getElem_set_self]
   exact hx w2 fun b b1 b2 => old b (by omega) (by omega) (by omega)
  ·rw [List.getElem_set_ne hki, List.getElem_set_ne hki]
   refine h4 k (by simpa using k1) (by simpa using k2) w2 fun b b1 b2 b3 => old b b1 b2 (fun e => b3 (by simp [Value.ownBlock, e]))
end Go.Proofs.YtnlimlboedohgaaGreatDoor.Px

/-
  Assignments: lemmas for both sides.
-/
namespace Go.Proofs.YtnlimlboedohgaaGreatDoor.Px
open Go Go.RowKit Go.Proofs.YtnlimlboedohgaaGreatDoor.Ps
set_option linter.unusedVariables false
set_option linter.unusedSimpArgs false
theorem EC.tail {w : World} {g o : Nat} {u : Value} {us : List Value} (h : EC w g o (u :: us)) : EC w g (o + 1) us := ⟨h.1, fun j v hj => by have := h.2 (j + 1) v (by simpa using hj); rwa [show o + 1 + j = o + (j + 1) by omega]⟩
theorem OwnX.made {B g : Nat} {w : World} (h : Blk w g [] 31) (hg : B ≤ g) : OwnX B (.slice (some ⟨g, 0, none⟩) 0 0) [] w :=
 ⟨[], rfl, (fun c hc => absurd hc (by simp)), ⟨rfl, .inr ⟨g, 0, #[], rfl, hg, h, Nat.le_refl _, Nat.zero_le _, rfl, rfl⟩⟩, fun k h => absurd h (by simp)⟩
theorem XF.col (lo hi : Nat) (w : World) (i : Int) : XF lo hi w (colX i) [.int .i64 2, .int .i64 i, .int .i64 0, .int .i64 0, .string ⟨#[]⟩, .string ⟨#[]⟩, .slice none 0 0] := fun w2 _ => xr_leaf w2 2 i 0 0 [] [] (by decide) (by decide)
theorem met_iff {l : List Asg} {k : Nat} (s : S) : s ∈ (l.take k).map Prod.fst ↔ ∃ j, ∃ h : j < l.length, j < k ∧ l[j].1 = s := by
 rw [List.mem_map]
 constructor
 ·rintro ⟨y, hy, rfl⟩
  obtain ⟨j, hj, rfl⟩ := List.getElem_of_mem hy
  rw [List.length_take] at hj
  exact ⟨j, by omega, by omega, by rw [List.getElem_take]⟩
 ·rintro ⟨j, hj, hjk, rfl⟩
  exact ⟨l[j], List.mem_iff_getElem.2 ⟨j, by rw [List.length_take]; omega, by rw [List.getElem_take]⟩, rfl⟩
theorem met_succ {l : List Asg} {k : Nat} (h : k < l.length) : (l.take (k + 1)).map Prod.fst = (l.take k).map Prod.fst ++ [l[k].1] := by
 rw [List.take_succ_eq_append_getElem h, List.map_append]
 rfl
theorem bind20_sc {L : List Col} {tn : S} {a a2 a3 a4 : Option Addr} {m n2 m2 n3 m3 n4 m4 base : Nat} {x : X} {cs : List Value} {w w1 : World} {g c : Nat} {v : Value} (hn : nodes x ≤ 1000000) (hs : shortX x) (hL : L.length ≤ 1000000) (hl : CL w L (.slice a L.length m)) (hx : XR w x cs) (hw1 : Below w.heap.size w w1)
  (hec : EC w1 g 0 (placeC tn tn a a2 a3 a4 L.length m n2 m2 n3 m3 n4 m4)) (ho : OwnI base v (kindsC L) w1) : ∀ w', Below w1.heap.size w1 w' → Calls Tryz.prog 40 #[.agg #[.int .i64 0, .slice (some ⟨g, 0, none⟩) 1 c, v], .agg cs.toArray] w' (BindPost w' (bindR (kindsC L) (resR (some tn) (L.map (·.nm)) x))) := fun w' hw' => by
 obtain ⟨ak, ck, rfl, hsi⟩ := ho.form
 obtain ⟨h1, h2⟩ := resR_facts (tn := some tn) (cols := L.map (·.nm)) hn hs
 have hb : ∀ w2, Below w'.heap.size w' w2 → Below w.heap.size w w2 := fun w2 h => (hw1.trans (hw'.mono hw1.size)).trans (h.mono (Nat.le_trans hw1.size hw'.size))
 refine bind20_call _ _ ak ck (kindsC L) (resR (some tn) (L.map (·.nm)) x) cs x w' (hsi.below hw') (by rw [kindsC_len]; exact hL) (hx.kept (hb w' (Below.refl _ _)) (Nat.le_refl _)) h1 h2 fun w3 hw3 => ?_
 have hb4 : Below w1.heap.size w1 w3 := hw'.trans (hw3.mono hw'.size)
 exact replace20_call L tn g c _ _ _ a a2 a3 a4 m n2 m2 n3 m3 n4 m4 1000000 x cs w3 hn (Nat.le_refl _) hs hL (hl.kept (hb w3 hw3) (Nat.le_refl _)) ⟨Nat.lt_of_lt_of_le hec.1 hb4.size, fun j u hj => hec.at_ hb4 hj⟩ (hx.kept (hb w3 hw3) (Nat.le_refl _))
end Go.Proofs.YtnlimlboedohgaaGreatDoor.Px

/-
  A list of expressions of the call's own whose elements' operands lie behind a block: an element exchanged.
-/
namespace Go.Proofs.YtnlimlboedohgaaGreatDoor.Px
open Go Go.RowKit Go.Proofs.YtnlimlboedohgaaGreatDoor.Ps
set_option linter.unusedVariables false
set_option linter.unusedSimpArgs false
structure OwnY (B E : Nat) (v : Value) (l : List X) (w : World) : Prop where
 row : ∃ css : List (List Value), css.length = l.length ∧ (∀ c ∈ css, c.length = 7) ∧ w.ownsRow B 31 7 v l.length css.flatten ∧
  ∀ k (h1 : k < l.length) (h2 : k < css.length), ∀ w' : World, (∀ b, E ≤ b → b < w.heap.size → v.ownBlock ≠ some b → w'.heap[b]? = w.heap[b]?) → XR w' l[k] css[k]
theorem OwnY.toX {B E : Nat} {v : Value} {l : List X} {w : World} (h : OwnY B E v l w) (hBE : B ≤ E) : OwnX B v l w := by
 obtain ⟨css, h1, h2, h3, h4⟩ := h.row
 exact ⟨css, h1, h2, h3, fun k k1 k2 w' hw' => h4 k k1 k2 w' fun b b1 b2 b3 => hw' b (Nat.le_trans hBE b1) b2 b3⟩
theorem xl_nil {w w' : World} {v : Value} (h : XL w [] v) : XL w' [] v := by
 unfold XL at h ⊢
 rw [toCs] at h ⊢
 cases h with
 | nil hu => exact Rp.nil hu
 | slice f hu hc hm hl hb hr hx =>
  simp at hl
  subst hl
  exact Rp.slice f hu hc hm rfl hb (fun i hi => absurd hi (by omega)) (fun i hi => absurd hi (by simp))
theorem xr_leaf_any {w w' : World} {op int vk vi : Int} {vs nm : S} {cs : List Value} (h : XR w (.mk op int vk vi vs nm []) cs) : XR w' (.mk op int vk vi vs nm []) cs := by
 obtain ⟨a, m, rfl, hl, h1, h2⟩ := h.cells
 exact xr_node w' op int vk vi vs nm [] _ h1 h2 (xl_nil hl)
theorem OwnX.toY {B : Nat} (E : Nat) {v : Value} {n : Nat} {w : World} (h : OwnX B v (colXs n) w) : OwnY B E v (colXs n) w := by
 obtain ⟨css, h1, h2, h3, h4⟩ := h.row
 refine ⟨css, h1, h2, h3, fun k k1 k2 w' _ => ?_⟩
 have h5 := h4 k k1 k2 w fun _ _ _ _ => rfl
 have e : (colXs n)[k] = .mk 2 (k : Int) 0 0 [] [] [] := by simp [colXs, colX]
 rw [e] at h5 ⊢
 exact xr_leaf_any h5
theorem OwnY.lt {B E : Nat} {v : Value} {l : List X} {w : World} (h : OwnY B E v l w) (g : Nat) (e : v.ownBlock = some g) : B ≤ g ∧ g < w.heap.size := by
 obtain ⟨css, h1, h2, h3, h4⟩ := h.row
 rcases h3.2 with ⟨rfl, _⟩ | ⟨g', cap, cur, rfl, hg, hc, _⟩
 ·cases e
 ·have e2 : g' = g := by simpa [Value.ownBlock] using e
  subst e2
  exact ⟨hg, (Array.getElem?_eq_some_iff.1 hc).1⟩
theorem OwnY.below {B E : Nat} {v : Value} {l : List X} {w w' : World} (h : OwnY B E v l w) (hb : Below w.heap.size w w') : OwnY B E v l w' := by
 obtain ⟨css, h1, h2, h3, h4⟩ := h.row
 exact ⟨css, h1, h2, kept_below h3 hb, fun k k1 k2 w2 hw2 => h4 k k1 k2 w2 fun b b1 b2 b3 => (hw2 b b1 (Nat.lt_of_lt_of_le b2 hb.size) b3).trans (hb.block b b2)⟩
/-- another block before E is written -/
theorem OwnY.keep {B E q : Nat} {v : Value} {l : List X} {w w' : World} (h : OwnY B E v l w) (hg : w.grownBy w' (some q)) (hq : q < E) (hv : v.ownBlock ≠ some q) : OwnY B E v l w' := by
 obtain ⟨css, h1, h2, h3, h4⟩ := h.row
 refine ⟨css, h1, h2, ⟨h3.1, ?_⟩, fun k k1 k2 w2 hw2 => h4 k k1 k2 w2 fun b b1 b2 b3 => (hw2 b b1 (Nat.lt_of_lt_of_le b2 hg.size) b3).trans (hg.block b b2 (by intro e; injection e with e; omega))⟩
 rcases h3.2 with ⟨rfl, h0⟩ | ⟨g, cap, cur, rfl, hgB, hc, hcap, hm, hs, ht⟩
 ·exact .inl ⟨rfl, h0⟩
 ·refine .inr ⟨g, cap, cur, rfl, hgB, ?_, hcap, hm, hs, ht⟩
  rw [hg.block g (Array.getElem?_eq_some_iff.1 hc).1 (fun e => hv (by simp [Value.ownBlock, e]))]
  exact hc
/-- an element exchanged -/
theorem OwnY.exch {B E : Nat} {v : Value} {l : List X} {w : World} {i : Nat} (h : OwnY B E v l w) (hi : i < l.length) : ∃ g cap cur, v = .slice (some ⟨g, 0, none⟩) l.length cap ∧ Blk w g cur 31 ∧ B ≤ g ∧ i * 7 + 6 < cur.length ∧
  ∀ (lo hi' : Nat) (x : X) (u0 u1 u2 u3 u4 u5 u6 : Value) (w' : World), Wr w g (set7 cur (i * 7) u0 u1 u2 u3 u4 u5 u6) 31 w' → XF lo hi' w x [u0, u1, u2, u3, u4, u5, u6] → E ≤ lo → hi' ≤ w.heap.size → (g < lo ∨ hi' ≤ g) → OwnY B E v (l.set i x) w' := by
 obtain ⟨css, h1, h2, h3, h4⟩ := h.row
 rcases h3.2 with ⟨rfl, h0⟩ | ⟨g, cap, cur, rfl, hg, hc, hcap, hm, hs, ht⟩
 ·omega
 refine ⟨g, cap, cur.toList, rfl, by unfold Blk; simpa using hc, hg, by simp [hs]; omega, fun lo hi' x u0 u1 u2 u3 u4 u5 u6 w' hw hx hlo hhi hgl => ?_⟩
 refine ⟨css.set i [u0, u1, u2, u3, u4, u5, u6], by simp [h1], fun c hc' => ?_, ?_, fun k k1 k2 w2 hw2 => ?_⟩
 ·rcases List.mem_or_eq_of_mem_set hc' with e | rfl
  ·exact h2 c e
  ·rfl
 ·have hlen : (set7 cur.toList (i * 7) u0 u1 u2 u3 u4 u5 u6).take (l.length * 7) = (css.set i [u0, u1, u2, u3, u4, u5, u6]).flatten := by
   rw [set7_take, ht, set7_flat _ _ _ _ _ _ _ css i (by omega) h2]
  have hb := hw.blk
  unfold Blk at hb
  refine ⟨?_, .inr ⟨g, cap, _, by simp, hg, hb, by simpa using hcap, hm, by simp [set7_len, hs], by simpa using hlen⟩⟩
  rw [← hlen, List.length_take, set7_len, Array.length_toList (xs := cur), hs, List.length_set]
  have : l.length * 7 ≤ cap * 7 := Nat.mul_le_mul_right _ hcap
  omega
 ·have hsz : w'.heap.size = w.heap.size := hw.size
  have old : ∀ b, E ≤ b → b < w.heap.size → g ≠ b → w2.heap[b]? = w.heap[b]? := fun b b1 b2 b3 => (hw2 b b1 (by omega) (by simp [Value.ownBlock]; exact b3)).trans (hw.far b (fun e => b3 e.symm))
  by_cases hki : i = k
  ·subst hki
   simp only [List.getElem_set_self]
   exact hx w2 fun b b1 b2 => old b (by omega) (by omega) (by omega)
  ·rw [List.getElem_set_ne hki, List.getElem_set_ne hki]
   refine h4 k (by simpa using k1) (by simpa using k2) w2 fun b b1 b2 b3 => old b b1 b2 (fun e => b3 (by simp [Value.ownBlock, e]))
end Go.Proofs.YtnlimlboedohgaaGreatDoor.Px

/-
  Where a column lies: the program's (schema.Find).
-/
namespace Go.Proofs.YtnlimlboedohgaaGreatDoor.Px
open Go Go.RowKit Go.Proofs.YtnlimlboedohgaaGreatDoor.Ps
set_option linter.unusedVariables false
set_option linter.unusedSimpArgs false
theorem find_same (nm s : S) (kd : Int) (nl : Bool) (b : Nat) (w : World) (hb : Blk w b [.string ⟨s.toArray⟩] 9) : Calls Tryz.prog 68 #[.agg #[.string ⟨nm.toArray⟩, .int .i64 kd, .bool nl], .pointer (some ⟨b, 0, none⟩)] w (Ret w (.bool (decide (nm = s)))) := by
 have HBB := Lib.hid hb
 clear hb
 go_enter Tryz.func68, Tryz.ntmps68
 go_upto_region 1 with (fail)
 refine name_alloc (K := Code.wp _ _ _ _) fun w1 hB hw1 hz1 => ?_
 have HW := Lib.hid hw1
 have HC := Lib.hid (HBB.out.below hw1)
 have p0 := hB.cell 0 rfl
 have q0 := HC.out.cell 0 rfl
 clear hB hw1 hz1
 by_cases he : nm = s
 ·have HE : Hid (decide (nm = s) = true) := Lib.hid (decide_eq_true he)
  have d0 : (nm == s) = true := by simpa using he
  clear he
  go_wp2_with fail
  go_ret
  exact ⟨by rw [HE.out]; simp_all, HW.out⟩
 ·have HE : Hid (decide (nm = s) = false) := Lib.hid (decide_eq_false he)
  have d0 : (nm == s) = false := by simpa using he
  clear he
  go_wp2_with fail
  go_ret
  exact ⟨by rw [HE.out]; simp_all, HW.out⟩
theorem indexCol_call (L : List Col) (s : S) (a : Option Addr) (m b : Nat) (w : World) (hn : L.length ≤ 1099511627776) (hl : CL w L (.slice a L.length m)) (hb : Blk w b [.string ⟨s.toArray⟩] 9) : Calls Tryz.prog 67 #[.slice a L.length m, .func (.func 68) #[] #[.pointer (some ⟨b, 0, none⟩)]] w (Ret w (.int .i64 (findV L s))) := by
 have HL := Lib.hid hl
 have HB := Lib.hid hb
 clear hl hb
 go_enter Tryz.func67, Tryz.ntmps67
 go_upto_region 2 with (fail)
 go_loopw [5, 8] (fun _ i wr => ∃ k : Nat, k ≤ L.length ∧ i = .int .i64 (k : Int) ∧ Hid (∀ j (hj : j < L.length), j < k → L[j].nm ≠ s) ∧ Below w.heap.size w wr) (fun _ i _ => L.length - (intOf i).toNat)
 case atStart => exact ⟨0, Nat.zero_le _, rfl, Lib.hid (fun j hj h => absurd h (by omega)), Below.refl _ _⟩
 case round =>
  obtain ⟨k, hk, rfl, HR, hbw⟩ := hrel
  have HWr := Lib.hid hbw
  clear hbw
  by_cases hlt : k < L.length
  ·obtain ⟨g, o, rfl, hx, hc⟩ := HL.out.at_ hlt
   have k0 : (0 : Int) ≤ (k : Int) := by omega
   have k1 : (k : Int) < (L.length : Int) := by omega
   have c0 := hc.at0 HWr.out rfl
   have c1 := hc.at_ HWr.out (j := 1) rfl
   have c2 := hc.at_ HWr.out (j := 2) rfl
   have HYES := Lib.hid (fun h1 => findV_yes (s := s) hlt HR.out h1)
   have HNO : Hid (L[k].nm ≠ s → ∀ q (h : q < L.length), q < k + 1 → L[q].nm ≠ s) := Lib.hid (fun hne q h hq => by
    by_cases hqk : q < k
    ·exact HR.out q h hqk
    ·obtain rfl : q = k := by omega
     exact hne)
   have HFS := Lib.hid (find_same L[k].nm s L[k].kind L[k].nul b wr (HB.out.below HWr.out))
   clear hc
   generalize L[k].nm = nm at c0 HYES HNO HFS
   generalize L[k].kind = kd at c1 HFS
   generalize L[k].nul = nl at c2 HFS
   go_wp2_with fail
   refine HFS.out.mono ?_
   rintro e w2 ⟨rfl, hw2⟩
   have HW2 := Lib.hid (HWr.out.trans (hw2.mono HWr.out.size))
   clear hw2 HFS c0 c1 c2
   by_cases he : nm = s
   ·have HC := Lib.hid (HYES.out he)
    have d0 : decide (nm = s) = true := decide_eq_true he
    clear HYES HNO
    rw [d0]
    clear he d0
    go_wp2_with fail
    go_ret
    exact ⟨by rw [HC.out]; rfl, HW2.out⟩
   ·have HN := Lib.hid (HNO.out he)
    have d0 : decide (nm = s) = false := decide_eq_false he
    clear HYES HNO
    rw [d0]
    clear he d0
    go_wp2_with fail
    go_roundw
    case rel => exact ⟨k + 1, by omega, by go_num, HN, HW2.out⟩
    case measure => simp [intOf]; omega
  ·obtain rfl : k = L.length := by omega
   have HF := Lib.hid (findV_not HR.out)
   have d1 : decide ((L.length : Int) < (L.length : Int)) = false := decide_eq_false (by omega)
   go_wp2_with fail
   go_ret
   exact ⟨by rw [HF.out]; rfl, HWr.out⟩
theorem findp_call (L : List Col) (s tn : S) (a : Option Addr) (m : Nat) (v2 v3 v4 : Value) (w : World) (hn : L.length ≤ 1099511627776) (hl : CL w L (.slice a L.length m)) : Calls Tryz.prog 36 #[.agg #[.string ⟨tn.toArray⟩, .slice a L.length m, v2, v3, v4], .string ⟨s.toArray⟩] w (Ret w (.int .i64 (findV L s))) := by
 have HL := Lib.hid hl
 clear hl
 go_enter Tryz.func36, Tryz.ntmps36
 go_upto_region 1 with (fail)
 refine name_alloc2 (K := Code.wp _ _ _ _) fun w1 hA hB hw1 hz1 => ?_
 have HB := Lib.hid hB
 have HW := Lib.hid hw1
 have p1 := hA.cell 1 rfl
 clear hA hB hw1 hz1
 go_wp2_with fail
 refine (indexCol_call L s a m (w.heap.size + 1) w1 hn (HL.out.kept HW.out (Nat.le_refl _)) HB.out).mono ?_
 rintro e w2 ⟨rfl, hw2⟩
 have HW2 := Lib.hid (HW.out.trans (hw2.mono HW.out.size))
 clear hw2 p1
 go_wp2_with fail
 go_ret
 exact ⟨rfl, HW2.out⟩
end Go.Proofs.YtnlimlboedohgaaGreatDoor.Px

/-
  Assignments bound: the program's. (Printed by gen_bsprg.py.)
-/
namespace Go.Proofs.YtnlimlboedohgaaGreatDoor.Px
open Go Go.RowKit Go.Proofs.YtnlimlboedohgaaGreatDoor.Ps
set_option linter.unusedVariables false
set_option linter.unusedSimpArgs false
theorem zeroInt (w : World) : (zeroValue 3).run Tryz.prog w = .ok (.int .i64 0) w := by kernel_rfl
/-- what the map of the names met reads as -/
def metR : List S → DataW Unit
 | [] => .map []
 | s :: r => (metR r).put (.string s) (.lit (.int .i64 1))
def metD (m : List S) : DataW Unit := metR m.reverse
theorem metR_map : ∀ m, Go.Maps.IsMap (metR m)
 | [] => Go.Maps.isMap_empty
 | s :: r => (metR_map r).put _ _
theorem metD_map (m : List S) : Go.Maps.IsMap (metD m) := metR_map _
theorem metD_snoc (m : List S) (s : S) : metD (m ++ [s]) = (metD m).put (.string s) (.lit (.int .i64 1)) := by
 unfold metD
 rw [List.reverse_append]
 rfl
theorem metR_yes {s : S} : ∀ {m : List S}, s ∈ m → ∀ z, (metR m).atKey (.string s) z = .lit (.int .i64 1)
 | [], h, _ => absurd h (by simp)
 | a :: r, h, z => by
  rw [metR]
  by_cases e : s = a
  ·subst e
   exact Go.Maps.atKey_put_same (metR_map r) (by simp [Go.WideAt.IsKeyLit]) _ _
  ·rw [Go.Maps.atKey_put_other (by intro he; injection he with he; exact e he)]
   exact metR_yes (by rcases List.mem_cons.1 h with h | h; exact absurd h e; exact h) z
theorem metR_no {s : S} : ∀ {m : List S}, s ∉ m → ∀ z, (metR m).atKey (.string s) z = z
 | [], _, _ => rfl
 | a :: r, h, z => by
  rw [metR, Go.Maps.atKey_put_other (by intro he; injection he with he; exact h (by rw [he]; simp))]
  exact metR_no (fun hr => h (List.mem_cons_of_mem _ hr)) z
theorem metD_yes {s : S} {m : List S} (h : s ∈ m) (z : DataW Unit) : (metD m).atKey (.string s) z = .lit (.int .i64 1) := metR_yes (by simpa using h) z
theorem metD_no {s : S} {m : List S} (h : s ∉ m) (z : DataW Unit) : (metD m).atKey (.string s) z = z := metR_no (by simpa using h) z
theorem lit_inj {a c : Int} (h : (DataW.lit (.int .i64 c) : DataW Unit) = .lit (.int .i64 a)) : c = a := by
 injection h with h
 injection h
theorem name_map1 {K : World → Prop} {w : World} (h : ∀ w', w'.ownsMap Tryz.prog 9 (plainElem (H := Unit) Tryz.prog 3) w.heap.size 0 (metD []) → Below w.heap.size w w' → w'.heap.size = w.heap.size + 1 → K w') : K (w.alloc (.map #[] 0)) :=
 h _ (World.ownsMap_made _ _ _ _) (below1 _ _) (by simp)
theorem bind_sc {L : List Col} (hd : Distinct L) {tn : S} {a a2 a3 a4 : Option Addr} {m n2 m2 n3 m3 n4 m4 gs : Nat} {x : X} {cs : List Value} {w w1 : World} (hn : nodes x ≤ 1000000) (hs : shortX x) (hL : L.length ≤ 1000000) (hl : CL w L (.slice a L.length m)) (hx : XR w x cs) (hE : ∃ m, w.cell? ⟨0, 0, none⟩ = some (.int .i64 m)) (hw1 : Below w.heap.size w w1)
  (hsc : ScP w1 L tn a a2 a3 a4 m n2 m2 n3 m3 n4 m4 gs) : Calls Tryz.prog 37 #[.pointer (some ⟨gs, 0, none⟩), .agg cs.toArray] w1 (BindPost w1 (bindR (kindsC L) (resR (some tn) (L.map (·.nm)) x))) := by
 obtain ⟨mx, hmx⟩ := hE
 have hMX : ∀ w', Below w.heap.size w w' → ∃ m, w'.cell? ⟨0, 0, none⟩ = some (.int .i64 m) := fun w' hw => ⟨mx, (hw.cell (lt_of_cell hmx)).trans hmx⟩
 have hsc0 := hsc
 obtain ⟨gp, c, v, B, b, he, hsrc, ho, hg⟩ := hsc
 obtain ⟨ak, ck, rfl, hsi⟩ := ho.form
 obtain ⟨h1, h2⟩ := resR_facts (tn := some tn) (cols := L.map (·.nm)) hn hs
 have hb : ∀ w2, Below w1.heap.size w1 w2 → Below w.heap.size w w2 := fun w2 h => hw1.trans (h.mono hw1.size)
 refine bind_call gs _ _ ak ck (kindsC L) (resR (some tn) (L.map (·.nm)) x) cs x w1 he hsi (by rw [kindsC_len]; exact hL) (hx.kept hw1 (Nat.le_refl _)) h1 h2 fun w3 hw3 => ?_
 exact resolve_call (some tn) (L.map (·.nm)) gs _ _ _ (resI tn L) w1 (resI_name tn L) (fun s w' hss hw' => name_call L hd s tn a a2 a3 a4 m n2 m2 n3 m3 n4 m4 gs w w' hss hL hl (hb w' hw') (hMX w' (hb w' hw')) (hsc0.below hw')) 1000000 x cs w3 hn (Nat.le_refl _) hs hw3 ⟨Nat.lt_of_lt_of_le he.1 hw3.size, fun j u hj => he.at_ hw3 hj⟩ (hx.kept (hb w3 hw3) (Nat.le_refl _))
theorem sets_call (L : List Col) (hd : Distinct L) (tn : S) (a a2 a3 a4 : Option Addr) (m n2 m2 n3 m3 n4 m4 : Nat) (l : List Asg) (sa : Option Addr) (sm : Nat) (w : World) (hL : L.length ≤ 1000000) (hk : l.length ≤ 1000000) (hcs : ∀ s ∈ l, nodes s.2 ≤ 1000000 ∧ shortX s.2) (hl : CL w L (.slice a L.length m)) (hs : SL w l (.slice sa l.length sm)) (hE : ∃ m, w.cell? ⟨0, 0, none⟩ = some (.int .i64 m)) (hnm : ∀ c ∈ L, c.nm.length ≤ maxLen) : Calls Tryz.prog 13 #[.agg #[.string ⟨tn.toArray⟩, .slice a L.length m, .slice a2 n2 m2, .slice a3 n3 m3, .slice a4 n4 m4], .slice sa l.length sm] w (ListPost w (setsR L tn l)) := by
 obtain ⟨ix, hix, hx0, hx1, hx2⟩ := info_parts infoExpr
 have HMM := Lib.hid (@run_makeMap Tryz.prog)
 have HL := Lib.hid hl
 have HS := Lib.hid hs
 have HCS := Lib.hid hcs
 have HE := Lib.hid hE
 have HNM := Lib.hid hnm
 clear hl hs hcs hE hnm
 go_enter Tryz.func13, Tryz.ntmps13
 go_upto_region 1 with (fail)
 refine name_alloc (K := Code.wp _ _ _ _) fun w1 hB0 hw1 hz1 => ?_
 have HB1 := Lib.hid hB0
 have HW1 := Lib.hid hw1
 clear hB0 hw1 hz1
 have t0 := HB1.out.cell 0 rfl
 have t1 := HB1.out.cell 1 rfl
 have t2 := HB1.out.cell 2 rfl
 have t3 := HB1.out.cell 3 rfl
 have t4 := HB1.out.cell 4 rfl
 go_wp2_with fail
 refine (newScope_call L hd tn a a2 a3 a4 m n2 m2 n3 m3 n4 m4 w1.heap.size 1 w (w1.alloc (.cells ([.string ⟨tn.toArray⟩, .slice a L.length m, .slice a2 n2 m2, .slice a3 n3 m3, .slice a4 n4 m4] : List Value).toArray 27)) hL HL.out (HW1.out.alloc HW1.out.size _) HNM.out (EC.of_blk (Blk.new w1 _ _))).mono ?_
 rintro e w2 ⟨gs, rfl, hsc, hw2⟩
 have hb12 : Below w1.heap.size w1 w2 := (below1 w1 _).trans (hw2.mono (by simp))
 have HSC := Lib.hid hsc
 have HB2 := Lib.hid (HB1.out.below hb12)
 have HW2 := Lib.hid (HW1.out.trans (hb12.mono HW1.out.size))
 clear hw2 hb12 hsc HB1 HW1 t0 t1 t2 t3 t4
 have t1 := HB2.out.cell 1 rfl
 go_upto_region 4 with (fail)
 clear t1
 go_loopw [7, 8, 22] (fun v _ i wr => ∃ k : Nat, k ≤ L.length ∧ i = .int .i64 (k : Int) ∧ OwnX w2.heap.size v (colXs k) wr ∧ Below w2.heap.size w2 wr) (fun _ _ i _ => L.length - (intOf i).toNat)
 case atStart => exact ⟨0, Nat.zero_le _, rfl, OwnX.nil _ _, Below.refl _ _⟩
 case round =>
  obtain ⟨k, hkk, rfl, hox, hb⟩ := hrel
  have HBB := Lib.hid hb
  have HO := Lib.hid hox
  clear hb hox
  by_cases hlt : k < L.length
  ·have k1 : (k : Int) < (L.length : Int) := by omega
   have k0 : (0 : Int) ≤ (k : Int) := by omega
   go_upto_region 6 with (fail)
   go_wp2_with fail
   refine (column_call (k : Int) wr).mono ?_
   rintro e w3 ⟨rfl, hw3⟩
   have HO3 := Lib.hid (HO.out.below hw3)
   have HB3 := Lib.hid (HBB.out.trans (hw3.mono HBB.out.size))
   clear hw3
   obtain ⟨css, hc1, hc2, hc3, hc4⟩ := (HO3.out.below ((Below.refl _ w3).alloc (Nat.le_refl _) (.cells ([.int .i64 2, .int .i64 (k : Int), .int .i64 0, .int .i64 0, .string ⟨#[]⟩, .string ⟨#[]⟩, .slice none 0 0] : List Value).toArray 31))).row
   have HCS2 := Lib.hid hc4
   have HLL : Hid ((colXs k).length ≤ 1000000) := Lib.hid (by rw [colXs_len]; omega)
   clear hc4
   go_upto_region 7 with (at_builtin; refine wpList_append_own_at _ rfl (.tmp 25) (.tmp 28) 25 rfl w2.heap.size 31 ix _ 7 88 Tryz.underlying25 hix hx0 hx1 hx2 rfl (by omega) u7 (colXs k).length _ rfl hc3 ⟨w3.heap.size, 0, none⟩ 1 1 [.int .i64 2, .int .i64 (k : Int), .int .i64 0, .int .i64 0, .string ⟨#[]⟩, .string ⟨#[]⟩, .slice none 0 0] rfl rfl (fun j u hj => by rw [Addr.add_lit]; exact (Blk.new w3 [.int .i64 2, .int .i64 (k : Int), .int .i64 0, .int .i64 0, .string ⟨#[]⟩, .string ⟨#[]⟩, .slice none 0 0] 31).cell _ (by simpa using hj)) (fun u hu => by simp at hu; rcases hu with rfl | rfl | rfl | rfl | rfl | rfl | rfl <;> rfl) (by have := HLL.out; unfold maxLen; omega) (by have := HLL.out; omega) (Nat.le_trans HB3.out.size (by simp)) ?_)
   intro v5 w5 hrow hg5 _ hat5
   have hb59 : Below w2.heap.size w3 w5 := ((Below.refl _ w3).alloc HB3.out.size _).grown hg5 (Nat.le_trans HB3.out.size (by simp)) (fun g e => (HO3.out.lt g e).1)
   have hn := OwnX.snoc hc1 hc2 rfl HCS2.out (XF.col w3.heap.size w3.heap.size _ (k : Int)) HB3.out.size (by simp) (fun g e => .inl (HO3.out.lt g e).2) hrow hg5 (by simpa using hat5)
   rw [← colXs_succ] at hn
   have HN := Lib.hid hn
   have HB5 := Lib.hid (HB3.out.trans hb59)
   clear hrow hg5 hat5 hb59 hc1 hc2 hc3 hn
   go_wp2_with fail
   go_roundw
   case rel => exact ⟨k + 1, by omega, by go_num, HN.out, HB5.out⟩
   case measure => simp [intOf]; omega
  ·obtain rfl : k = L.length := by omega
   have d1 : decide ((L.length : Int) < (L.length : Int)) = false := decide_eq_false (by omega)
   have hmm := HMM.out
   go_upto_region 9 with (fail)
   clear d1 hmm
   refine name_map1 (K := Code.wp _ _ _ _) fun w3 hM3 hw3 hz3 => ?_
   have HM3 := Lib.hid hM3
   have HB3 := Lib.hid (HBB.out.trans (hw3.mono HBB.out.size))
   have HO3 := Lib.hid (((HO.out.below hw3).toY w3.heap.size))
   have HBMO3 : Hid (u7.ownBlock ≠ some wr.heap.size) := Lib.hid fun e => by have := (HO.out.lt _ e).2; omega
   have HBM : Hid (w2.heap.size ≤ wr.heap.size) := Lib.hid HBB.out.size
   have HBE : Hid (wr.heap.size < w3.heap.size) := Lib.hid (by omega)
   have HBE2 : Hid (w2.heap.size ≤ w3.heap.size) := Lib.hid HB3.out.size
   clear hM3 hw3 hz3 HO HBB
   generalize wr.heap.size = bM at HM3 HBMO3 HBM HBE ⊢
   go_upto_region 10 with (fail)
   go_loopw [34] (fun i ws => ∃ (k : Nat) (out : List X), k ≤ l.length ∧ i = .int .i64 (k : Int) ∧ Hid (setsR L tn l = setsG L tn (l.drop k) ((l.take k).map Prod.fst) out) ∧ out.length = L.length ∧ OwnY w2.heap.size w3.heap.size u7 out ws ∧ ws.ownsMap Tryz.prog 9 (plainElem Tryz.prog 3) bM k (metD ((l.take k).map Prod.fst)) ∧ Below w2.heap.size w2 ws ∧ w3.heap.size ≤ ws.heap.size) (fun i _ => l.length - (intOf i).toNat)
   case atStart => exact ⟨0, colXs L.length, Nat.zero_le _, rfl, Lib.hid rfl, colXs_len _, HO3.out, HM3.out, HB3.out, Nat.le_refl _⟩
   case round =>
    obtain ⟨k, out, hkk, rfl, HR, hol, hox, hmp, hb, hsz3⟩ := hrel
    clear HO3 HM3 HB3
    have HOL := Lib.hid hol
    have HBB := Lib.hid hb
    have HWr := Lib.hid (HW2.out.trans (hb.mono HW2.out.size))
    have HO := Lib.hid hox
    have HMP := Lib.hid hmp
    have HKL : Hid (k ≤ 1000000) := Lib.hid (by omega)
    have HS3 := Lib.hid hsz3
    clear hb hox hol hmp hsz3
    by_cases hlt : k < l.length
    ·have k1 : (k : Int) < (l.length : Int) := by omega
     have k0 : (0 : Int) ≤ (k : Int) := by omega
     obtain ⟨g, o, us, eq, hxx, hec, hxr, h7, hnm7⟩ := HS.out.at_ hlt
     subst eq
     have HG := Lib.hid (HR.out.trans (setsG_at hlt _ _))
     have HMT := Lib.hid (met_succ hlt)
     have hnx := HCS.out _ (List.getElem_mem hxx)
     have HKC := Lib.hid hec
     have HXR := Lib.hid hxr
     have HNX := Lib.hid hnx
     have HSL := Lib.hid hnm7
     clear hec hnx hxr hnm7 h7 HR
     generalize l[k] = sx at HG HMT HKC HXR HNX HSL
     obtain ⟨s, x⟩ := sx
     simp only at HG HMT HKC HXR HNX HSL
     have HNX2 := HNX.out
     have HBN : Hid (∀ w8, Below w.heap.size w w8 → ScP w8 L tn a a2 a3 a4 m n2 m2 n3 m3 n4 m4 gs → Calls Tryz.prog 37 #[.pointer (some ⟨gs, 0, none⟩), .agg us.toArray] w8 (BindPost w8 (bindR (kindsC L) (resR (some tn) (L.map (·.nm)) x)))) := Lib.hid fun w8 h1 h2 => bind_sc hd HNX2.1 HNX2.2 hL HL.out HXR.out HE.out h1 h2
     have HNE0 : Hid (∀ q, bindR (kindsC L) (resR (some tn) (L.map (·.nm)) x) = .inr q → q ≠ 0) := Lib.hid (bindR_ne (resR_facts HNX2.1 HNX2.2).2)
     generalize bindR (kindsC L) (resR (some tn) (L.map (·.nm)) x) = R at HBN HG HNE0
     obtain ⟨op, int, vk, vi, vs, nm, xl⟩ := x
     obtain ⟨ax, mx, rfl, _⟩ := HXR.out.lits
     have HKY : Hid (keyOf Tryz.prog 9 (.string ⟨s.toArray⟩) = some (.string s)) := Lib.hid (by have := Go.WideMaps.keyOf_string_mk Tryz.underlying9 (s := ⟨s.toArray⟩) (by simpa [ByteArray.size] using HSL.out); simpa using this)
     have HO5L : Hid (∀ gv, u7.ownBlock = some gv → gv < wr.heap.size) := Lib.hid fun gv e => (HO.out.lt gv e).2
     clear HNX2 HNX HXR HSL
     have c0 := HKC.out.at0 HWr.out rfl
     have e0 := HKC.out.at_ HWr.out (j := 1) rfl
     have e1 := HKC.out.at_ HWr.out (j := 2) rfl
     have e2 := HKC.out.at_ HWr.out (j := 3) rfl
     have e3 := HKC.out.at_ HWr.out (j := 4) rfl
     have e4 := HKC.out.at_ HWr.out (j := 5) rfl
     have e5 := HKC.out.at_ HWr.out (j := 6) rfl
     have e6 := HKC.out.at_ HWr.out (j := 7) rfl
     go_upto_region 12 with (fail)
     refine name_alloc (K := Code.wp _ _ _ _) fun w4 hX hw4 hz4 => ?_
     have HX4 := Lib.hid hX
     have HB24 := Lib.hid (HBB.out.trans (hw4.mono HBB.out.size))
     have HW4 := Lib.hid (HWr.out.trans (hw4.mono HWr.out.size))
     have HT4 := Lib.hid (HB2.out.below HB24.out)
     have HO4 := Lib.hid (HO.out.below hw4)
     have HM4 := Lib.hid (HMP.out.kept (grown_below hw4 none) (by simp))
     have HXM : Hid (bM < wr.heap.size) := Lib.hid (by have := HBE.out; have := HS3.out; omega)
     have HS4 := Lib.hid (Nat.le_trans HS3.out hw4.size)
     have HR4 := Lib.hid hw4.size
     clear hX hw4 hz4 HO HMP HBB HWr HS3 e0 e1 e2 e3 e4 e5 e6 c0
     have t0 := HT4.out.cell 0 rfl
     have t1 := HT4.out.cell 1 rfl
     have t2 := HT4.out.cell 2 rfl
     have t3 := HT4.out.cell 3 rfl
     have t4 := HT4.out.cell 4 rfl
     have x0 := HX4.out.cell 0 rfl
     go_wp2_with fail
     refine (findp_call L s tn a m _ _ _ w4 (by omega) (HL.out.kept HW4.out (Nat.le_refl _))).mono ?_
     rintro e w5 ⟨rfl, hw5⟩
     have HX5 := Lib.hid (HX4.out.below hw5)
     have HB25 := Lib.hid (HB24.out.trans (hw5.mono HB24.out.size))
     have HT5 := Lib.hid (HT4.out.below hw5)
     have HO5 := Lib.hid (HO4.out.below hw5)
     have HM5 := Lib.hid (HM4.out.kept (grown_below hw5 none) (by simp))
     have HS5 := Lib.hid (Nat.le_trans HS4.out hw5.size)
     have HR5 := Lib.hid (Nat.le_trans HR4.out hw5.size)
     have HBT : Hid (w.heap.size < bM) := Lib.hid (by have := HB2.out.lt; have := HBM.out; omega)
     have HVR := Lib.hid (findV_range L s)
     clear hw5 HX4 HB24 HT4 HO4 HM4 HW4 HS4 x0 t0 t1 t2 t3 t4
     generalize findV L s = V at HG HVR ⊢
     have HBMO := HBMO3
     by_cases hin : s ∈ (l.take k).map Prod.fst
     ·have HIN := Lib.hid hin
      clear hin
      have x0 := HX5.out.cell 0 rfl
      go_upto_region 14 with (first
       | (at_lookup; refine wpList_lookup_own_int _ rfl _ _ 113 rfl 9 3 .i64 keyS Tryz.underlying113 Tryz.underlying3 (zeroInt _) bM k _ rfl HM5.out _ _ rfl HKY.out ?_; intro c hat hwc; obtain rfl : c = 1 := lit_inj (hat.symm.trans (metD_yes HIN.out _)))
       | (at_mapUpdate; refine wpList_mapUpdate_own _ rfl _ _ _ 113 rfl 9 3 keyS Tryz.underlying113 _ bM k _ rfl HM5.out (by have := HKL.out; unfold maxLen; omega) _ _ _ rfl rfl HKY.out _ [] (plainElem_int Tryz.underlying3 (by first | rfl | decide)) ?_; intro w6 hown6 hgrow6)
       | go_in)
      have HM6 := Lib.hid hown6
      have HG6 := Lib.hid hgrow6
      have HB26 := Lib.hid (HB25.out.grown hgrow6 HB25.out.size (fun g e => by cases e; exact HBM.out))
      have HT6 := Lib.hid (HT5.out.grown hgrow6 (by have := HBT.out; omega))
      have HX6 := Lib.hid (HX5.out.grown hgrow6 (by have := HXM.out; omega))
      clear hown6 hgrow6 x0 HT5 HX5
      by_cases hv : V < 0
      ·have HF : Hid (setsR L tn l = .inr 11) := Lib.hid (HG.out.trans (if_pos hv))
       have HW6 := Lib.hid (HW2.out.trans (HB26.out.mono HW2.out.size))
       clear HG
       go_wp2_with fail
       go_ret2
       exact ⟨by rw [HF.out]; rfl, HW6.out⟩
      ·have HG2 := Lib.hid (HG.out.trans (if_neg hv))
       obtain ⟨i, hi, rfl⟩ : ∃ i : Nat, ∃ h : i < L.length, V = (i : Int) := HVR.out.resolve_left hv
       have HI := Lib.hid hi
       have hv' : ¬ ((i : Nat) : Int) < 0 := hv
       clear HG HVR hi hv
       have x0 := HX6.out.cell 0 rfl
       have HF : Hid (setsR L tn l = .inr 10) := Lib.hid (HG2.out.trans (if_pos HIN.out))
       have HW6 := Lib.hid (HW2.out.trans (HB26.out.mono HW2.out.size))
       clear HG2
       go_wp2_with (first | (at_lookup; refine wpList_lookup_own_int _ rfl _ _ 113 rfl 9 3 .i64 keyS Tryz.underlying113 Tryz.underlying3 (zeroInt _) bM (k + 1) _ rfl HM6.out _ _ rfl HKY.out ?_; intro c hat hwc; obtain rfl : c = 2 := lit_inj (hat.symm.trans (Go.Maps.atKey_put_same (metD_map _) (by simp [Go.WideAt.IsKeyLit]) _ _))) | go_in)
       go_ret2
       exact ⟨by rw [HF.out]; rfl, HW6.out⟩
     ·have HIN := Lib.hid hin
      clear hin
      have x0 := HX5.out.cell 0 rfl
      go_upto_region 14 with (first
       | (at_lookup; refine wpList_lookup_own_int _ rfl _ _ 113 rfl 9 3 .i64 keyS Tryz.underlying113 Tryz.underlying3 (zeroInt _) bM k _ rfl HM5.out _ _ rfl HKY.out ?_; intro c hat hwc; obtain rfl : c = 0 := lit_inj (hat.symm.trans (metD_no HIN.out _)))
       | (at_mapUpdate; refine wpList_mapUpdate_own _ rfl _ _ _ 113 rfl 9 3 keyS Tryz.underlying113 _ bM k _ rfl HM5.out (by have := HKL.out; unfold maxLen; omega) _ _ _ rfl rfl HKY.out _ [] (plainElem_int Tryz.underlying3 (by first | rfl | decide)) ?_; intro w6 hown6 hgrow6)
       | go_in)
      have HM6 := Lib.hid hown6
      have HG6 := Lib.hid hgrow6
      have HB26 := Lib.hid (HB25.out.grown hgrow6 HB25.out.size (fun g e => by cases e; exact HBM.out))
      have HT6 := Lib.hid (HT5.out.grown hgrow6 (by have := HBT.out; omega))
      have HX6 := Lib.hid (HX5.out.grown hgrow6 (by have := HXM.out; omega))
      clear hown6 hgrow6 x0 HT5 HX5
      by_cases hv : V < 0
      ·have HF : Hid (setsR L tn l = .inr 11) := Lib.hid (HG.out.trans (if_pos hv))
       have HW6 := Lib.hid (HW2.out.trans (HB26.out.mono HW2.out.size))
       clear HG
       go_wp2_with fail
       go_ret2
       exact ⟨by rw [HF.out]; rfl, HW6.out⟩
      ·have HG2 := Lib.hid (HG.out.trans (if_neg hv))
       obtain ⟨i, hi, rfl⟩ : ∃ i : Nat, ∃ h : i < L.length, V = (i : Int) := HVR.out.resolve_left hv
       have HI := Lib.hid hi
       have hv' : ¬ ((i : Nat) : Int) < 0 := hv
       clear HG HVR hi hv
       have x0 := HX6.out.cell 0 rfl
       have HG3 := Lib.hid (HG2.out.trans (if_neg HIN.out))
       have HO6 := Lib.hid (HO5.out.keep HG6.out HBE.out HBMO.out)
       clear HG2 HO5
       have z0 := HX6.out.cell 1 rfl
       have z1 := HX6.out.cell 2 rfl
       have z2 := HX6.out.cell 3 rfl
       have z3 := HX6.out.cell 4 rfl
       have z4 := HX6.out.cell 5 rfl
       have z5 := HX6.out.cell 6 rfl
       have z6 := HX6.out.cell 7 rfl
       go_upto_region 18 with (first | (at_lookup; refine wpList_lookup_own_int _ rfl _ _ 113 rfl 9 3 .i64 keyS Tryz.underlying113 Tryz.underlying3 (zeroInt _) bM (k + 1) _ rfl HM6.out _ _ rfl HKY.out ?_; intro c hat hwc; obtain rfl : c = 1 := lit_inj (hat.symm.trans (Go.Maps.atKey_put_same (metD_map _) (by simp [Go.WideAt.IsKeyLit]) _ _))) | go_in)
       have HBD := Lib.hid (HBN.out w6 (HW2.out.trans (HB26.out.mono HW2.out.size)) (HSC.out.below HB26.out))
       clear x0 HBN
       go_wp2_with fail
       refine HBD.out.mono ?_
       intro e w7 hp
       obtain ⟨hp, hw7⟩ := hp
       have HB27 := Lib.hid (HB26.out.trans (hw7.mono HB26.out.size))
       have HT7 := Lib.hid (HT6.out.below hw7)
       have HO7 := Lib.hid (HO6.out.below hw7)
       have HM7 := Lib.hid (HM6.out.kept (grown_below hw7 none) (by simp))
       have HHW := Lib.hid hw7
       have HP := Lib.hid hp
       clear z0 z1 z2 z3 z4 z5 z6 hp hw7 HT6 HX6 HO6 HM6 HBD
       cases R with
       | inr qe =>
        have hp := HP.out
        obtain rfl := (hp : e = .returned (.tuple #[zeroV, .int .i64 0, .int .i64 qe]))
        unfold zeroV
        clear HP
        go_upto_region 19 with (fail)
        refine name_alloc (K := Code.wp _ _ _ _) fun w8 hB8 hw8 hs8 => ?_
        have HW8 := Lib.hid ((HW2.out.trans (HB27.out.mono HW2.out.size)).trans (hw8.mono (Nat.le_trans HW2.out.size HB27.out.size)))
        clear hB8 hw8 hs8
        by_cases hq : qe = 0
        ·have HF : Hid False := Lib.hid (HNE0.out qe rfl hq)
         exact HF.out.elim
        ·have dq : (qe != 0) = true := by simp [hq]
         have HF : Hid (setsR L tn l = .inr qe) := Lib.hid HG3.out
         clear hq
         go_wp2_with fail
         go_ret2
         exact ⟨by rw [HF.out]; rfl, HW8.out⟩
       | inl yk =>
        obtain ⟨y, kd⟩ := yk
        obtain ⟨yop, yint, yvk, yvi, yvs, ynm, yl⟩ := y
        have hp := HP.out
        obtain ⟨ya, ym, rfl, hxf⟩ := (hp : ∃ a m, e = .returned (.tuple #[.agg (xc (.mk yop yint yvk yvi yvs ynm yl) a m).toArray, .int .i64 kd, .int .i64 0]) ∧ XF w6.heap.size w7.heap.size w7 (.mk yop yint yvk yvi yvs ynm yl) (xc (.mk yop yint yvk yvi yvs ynm yl) a m))
        simp only [xc] at hxf ⊢
        have HXF7 := Lib.hid hxf
        clear HP hxf
        go_upto_region 19 with (fail)
        refine name_alloc (K := Code.wp _ _ _ _) fun w8 hB8 hw8 hs8 => ?_
        have HB8 := Lib.hid hB8
        have HB28 := Lib.hid (HB27.out.trans (hw8.mono HB27.out.size))
        have HW8 := Lib.hid (HW2.out.trans (HB28.out.mono HW2.out.size))
        have HT8 := Lib.hid (HT7.out.below hw8)
        have HO8 := Lib.hid (HO7.out.below hw8)
        have HM8 := Lib.hid (HM7.out.kept (grown_below hw8 none) (by simp))
        have HXF8 := Lib.hid (HXF7.out.below hw8 (Nat.le_refl _))
        have HHI := Lib.hid hw8.size
        have HLO := Lib.hid HG6.out.size
        clear hB8 hw8 hs8 HXF7 HO7 HM7 HT7
        have HCC : Hid (∃ gc oc, a = some ⟨gc, oc, none⟩ ∧ ∃ nul nmc, EC w gc (oc + i * 3) [.string nmc, .int .i64 (kindAt L (i : Int)), .bool nul]) := Lib.hid (by
         obtain ⟨gc, oc, e, hx2, hcc⟩ := HL.out.at_ (k := i) HI.out
         rw [kindAt_eq HI.out]
         exact ⟨gc, oc, e, _, _, hcc⟩)
        obtain ⟨gc, oc, ea, nul, nmc, hcc⟩ := HCC.out
        have HCD := Lib.hid hcc
        clear hcc HCC
        subst ea
        generalize kindAt L (i : Int) = ka at HG3 HCD
        have t1 := HT8.out.cell 1 rfl
        have cc1 := HCD.out.at_ HW8.out (j := 1) rfl
        have i0 : (0 : Int) ≤ (i : Int) := by omega
        have i1 : (i : Int) < (L.length : Int) := by have := HI.out; omega
        by_cases hbad : kd ≠ 0 ∧ kd ≠ ka
        ·have dq : (kd != 0) = true := by simp [hbad.1]
         have dk : (kd != ka) = true := by simp [hbad.2]
         have HF : Hid (setsR L tn l = .inr 7) := Lib.hid (HG3.out.trans (if_pos hbad))
         clear hbad
         go_wp2_with fail
         go_ret2
         exact ⟨by rw [HF.out]; rfl, HW8.out⟩
        ·have HF : Hid (setsR L tn l = setsG L tn (l.drop (k + 1)) ((l.take (k + 1)).map Prod.fst) (out.set i (.mk yop yint yvk yvi yvs ynm yl))) := Lib.hid (by rw [HMT.out]; exact HG3.out.trans (if_neg hbad))
         have HMF : Hid (w8.ownsMap Tryz.prog 9 (plainElem Tryz.prog 3) bM (k + 1) (metD ((l.take (k + 1)).map Prod.fst))) := Lib.hid (by rw [HMT.out, metD_snoc]; exact HM8.out)
         obtain ⟨gO, cap, cur, ev, hblk, hgB, hcur, hex⟩ := HO8.out.exch (i := i) (by rw [HOL.out]; exact HI.out)
         have HEX := Lib.hid (fun w' hM => hex w6.heap.size w7.heap.size (.mk yop yint yvk yvi yvs ynm yl) _ _ _ _ _ _ _ w' hM HXF8.out (Nat.le_trans HS5.out HLO.out) HHI.out (.inl (by exact Nat.lt_of_lt_of_le (HO5L.out gO (by rw [ev]; rfl)) (Nat.le_trans HR5.out HLO.out))))
         have HBK := Lib.hid hblk
         have HGB := Lib.hid hgB
         have HGM : Hid (bM ≠ gO) := Lib.hid (by have := HBMO.out; rw [ev] at this; intro e; exact this (by rw [e]; rfl))
         have i2 : (i : Int) < (out.length : Int) := by have := HOL.out; omega
         subst ev
         by_cases hk0 : kd = 0
         ·subst hk0
          clear hbad
          by_cases hka0 : ka = 0
          ·subst hka0
           have f0 := HBK.out.free (i * 7)
           have y0 := HBK.out.cell (i * 7) (List.getElem?_eq_getElem (by omega))
           have f1 := HBK.out.free (i * 7 + 1)
           have y1 := HBK.out.cell (i * 7 + 1) (List.getElem?_eq_getElem (by omega))
           have f2 := HBK.out.free (i * 7 + 2)
           have y2 := HBK.out.cell (i * 7 + 2) (List.getElem?_eq_getElem (by omega))
           have f3 := HBK.out.free (i * 7 + 3)
           have y3 := HBK.out.cell (i * 7 + 3) (List.getElem?_eq_getElem (by omega))
           have f4 := HBK.out.free (i * 7 + 4)
           have y4 := HBK.out.cell (i * 7 + 4) (List.getElem?_eq_getElem (by omega))
           have f5 := HBK.out.free (i * 7 + 5)
           have y5 := HBK.out.cell (i * 7 + 5) (List.getElem?_eq_getElem (by omega))
           have f6 := HBK.out.free (i * 7 + 6)
           have y6 := HBK.out.cell (i * 7 + 6) (List.getElem?_eq_getElem (by omega))
           have z0 := HB8.out.cell 0 rfl
           have z1 := HB8.out.cell 1 rfl
           have z2 := HB8.out.cell 2 rfl
           have z3 := HB8.out.cell 3 rfl
           have z4 := HB8.out.cell 4 rfl
           have z5 := HB8.out.cell 5 rfl
           have z6 := HB8.out.cell 6 rfl
           go_upto_region 24 with (fail)
           refine name_setO (o := i * 7) (K := Code.wp _ _ _ _) HBK.out fun w9 hM => ?_
           have HN := Lib.hid (HEX.out w9 hM)
           have HB9 := Lib.hid (HB28.out.trans (hM.low.mono HGB.out))
           have HM9 := Lib.hid (HMF.out.kept (row := some gO) ⟨hM.low.os, hM.low.tape, hM.low.output, by rw [hM.size]; exact Nat.le_refl _, fun j _ hj => hM.far j (fun e => hj (by rw [e]))⟩ (fun e => by injection e with e; exact HGM.out e))
           have HS9 := Lib.hid (Nat.le_trans (Nat.le_trans (Nat.le_trans HS5.out HLO.out) (Nat.le_trans HHW.out.size HHI.out)) (Nat.le_of_eq hM.size.symm))
           clear hM f0 f1 f2 f3 f4 f5 f6 y0 y1 y2 y3 y4 y5 y6 z0 z1 z2 z3 z4 z5 z6
           go_wp2_with fail
           go_roundw
           case rel => exact ⟨k + 1, out.set i (.mk yop yint yvk yvi yvs ynm yl), by omega, by go_num, HF, by simpa using HOL.out, HN.out, HM9.out, HB9.out, HS9.out⟩
           case measure => simp [intOf]; omega
          ·have dk : ((0 : Int) != ka) = true := by simp; omega
           clear hka0
           have f0 := HBK.out.free (i * 7)
           have y0 := HBK.out.cell (i * 7) (List.getElem?_eq_getElem (by omega))
           have f1 := HBK.out.free (i * 7 + 1)
           have y1 := HBK.out.cell (i * 7 + 1) (List.getElem?_eq_getElem (by omega))
           have f2 := HBK.out.free (i * 7 + 2)
           have y2 := HBK.out.cell (i * 7 + 2) (List.getElem?_eq_getElem (by omega))
           have f3 := HBK.out.free (i * 7 + 3)
           have y3 := HBK.out.cell (i * 7 + 3) (List.getElem?_eq_getElem (by omega))
           have f4 := HBK.out.free (i * 7 + 4)
           have y4 := HBK.out.cell (i * 7 + 4) (List.getElem?_eq_getElem (by omega))
           have f5 := HBK.out.free (i * 7 + 5)
           have y5 := HBK.out.cell (i * 7 + 5) (List.getElem?_eq_getElem (by omega))
           have f6 := HBK.out.free (i * 7 + 6)
           have y6 := HBK.out.cell (i * 7 + 6) (List.getElem?_eq_getElem (by omega))
           have z0 := HB8.out.cell 0 rfl
           have z1 := HB8.out.cell 1 rfl
           have z2 := HB8.out.cell 2 rfl
           have z3 := HB8.out.cell 3 rfl
           have z4 := HB8.out.cell 4 rfl
           have z5 := HB8.out.cell 5 rfl
           have z6 := HB8.out.cell 6 rfl
           go_upto_region 24 with (fail)
           refine name_setO (o := i * 7) (K := Code.wp _ _ _ _) HBK.out fun w9 hM => ?_
           have HN := Lib.hid (HEX.out w9 hM)
           have HB9 := Lib.hid (HB28.out.trans (hM.low.mono HGB.out))
           have HM9 := Lib.hid (HMF.out.kept (row := some gO) ⟨hM.low.os, hM.low.tape, hM.low.output, by rw [hM.size]; exact Nat.le_refl _, fun j _ hj => hM.far j (fun e => hj (by rw [e]))⟩ (fun e => by injection e with e; exact HGM.out e))
           have HS9 := Lib.hid (Nat.le_trans (Nat.le_trans (Nat.le_trans HS5.out HLO.out) (Nat.le_trans HHW.out.size HHI.out)) (Nat.le_of_eq hM.size.symm))
           clear hM f0 f1 f2 f3 f4 f5 f6 y0 y1 y2 y3 y4 y5 y6 z0 z1 z2 z3 z4 z5 z6
           go_wp2_with fail
           go_roundw
           case rel => exact ⟨k + 1, out.set i (.mk yop yint yvk yvi yvs ynm yl), by omega, by go_num, HF, by simpa using HOL.out, HN.out, HM9.out, HB9.out, HS9.out⟩
           case measure => simp [intOf]; omega
         ·have hka : kd = ka := Classical.byContradiction fun h => hbad ⟨hk0, h⟩
          have dq : (kd != 0) = true := by simp [hk0]
          subst hka
          clear hbad hk0
          have f0 := HBK.out.free (i * 7)
          have y0 := HBK.out.cell (i * 7) (List.getElem?_eq_getElem (by omega))
          have f1 := HBK.out.free (i * 7 + 1)
          have y1 := HBK.out.cell (i * 7 + 1) (List.getElem?_eq_getElem (by omega))
          have f2 := HBK.out.free (i * 7 + 2)
          have y2 := HBK.out.cell (i * 7 + 2) (List.getElem?_eq_getElem (by omega))
          have f3 := HBK.out.free (i * 7 + 3)
          have y3 := HBK.out.cell (i * 7 + 3) (List.getElem?_eq_getElem (by omega))
          have f4 := HBK.out.free (i * 7 + 4)
          have y4 := HBK.out.cell (i * 7 + 4) (List.getElem?_eq_getElem (by omega))
          have f5 := HBK.out.free (i * 7 + 5)
          have y5 := HBK.out.cell (i * 7 + 5) (List.getElem?_eq_getElem (by omega))
          have f6 := HBK.out.free (i * 7 + 6)
          have y6 := HBK.out.cell (i * 7 + 6) (List.getElem?_eq_getElem (by omega))
          have z0 := HB8.out.cell 0 rfl
          have z1 := HB8.out.cell 1 rfl
          have z2 := HB8.out.cell 2 rfl
          have z3 := HB8.out.cell 3 rfl
          have z4 := HB8.out.cell 4 rfl
          have z5 := HB8.out.cell 5 rfl
          have z6 := HB8.out.cell 6 rfl
          go_upto_region 24 with (fail)
          refine name_setO (o := i * 7) (K := Code.wp _ _ _ _) HBK.out fun w9 hM => ?_
          have HN := Lib.hid (HEX.out w9 hM)
          have HB9 := Lib.hid (HB28.out.trans (hM.low.mono HGB.out))
          have HM9 := Lib.hid (HMF.out.kept (row := some gO) ⟨hM.low.os, hM.low.tape, hM.low.output, by rw [hM.size]; exact Nat.le_refl _, fun j _ hj => hM.far j (fun e => hj (by rw [e]))⟩ (fun e => by injection e with e; exact HGM.out e))
          have HS9 := Lib.hid (Nat.le_trans (Nat.le_trans (Nat.le_trans HS5.out HLO.out) (Nat.le_trans HHW.out.size HHI.out)) (Nat.le_of_eq hM.size.symm))
          clear hM f0 f1 f2 f3 f4 f5 f6 y0 y1 y2 y3 y4 y5 y6 z0 z1 z2 z3 z4 z5 z6
          go_wp2_with fail
          go_roundw
          case rel => exact ⟨k + 1, out.set i (.mk yop yint yvk yvi yvs ynm yl), by omega, by go_num, HF, by simpa using HOL.out, HN.out, HM9.out, HB9.out, HS9.out⟩
          case measure => simp [intOf]; omega
    ·obtain rfl : k = l.length := by omega
     have d1 : decide ((l.length : Int) < (l.length : Int)) = false := decide_eq_false (by omega)
     have HF : Hid (setsR L tn l = .inl out) := Lib.hid (by rw [HR.out, List.drop_length, setsG])
     obtain ⟨⟨av, cv, ev⟩, hdone⟩ := (HO.out.toX HBE2.out).done (by rw [HOL.out]; omega)
     have HDN := Lib.hid hdone
     clear hdone HR HO
     subst ev
     go_wp2_with fail
     go_ret2
     exact ⟨by rw [HF.out]; exact ⟨_, rfl, ⟨_, _, rfl⟩, fun w2 hw2 => HDN.out w2 fun b b1 b2 => hw2 b (Nat.le_trans HW2.out.size b1) b2⟩, HWr.out⟩
end Go.Proofs.YtnlimlboedohgaaGreatDoor.Px

/-
  Assignments bound: the reference's. (Printed by gen_bsref.py.)
-/
namespace Go.Proofs.YtnlimlboedohgaaGreatDoor.Px
open Go Go.RowKit Go.Proofs.YtnlimlboedohgaaGreatDoor.Ps
set_option linter.unusedVariables false
set_option linter.unusedSimpArgs false
theorem sets20_call (L : List Col) (tn : S) (a a2 a3 a4 : Option Addr) (m n2 m2 n3 m3 n4 m4 : Nat) (l : List Asg) (sa : Option Addr) (sm : Nat) (w : World) (hL : L.length ≤ 1000000) (hk : l.length ≤ 1000000) (hcs : ∀ s ∈ l, nodes s.2 ≤ 1000000 ∧ shortX s.2) (hl : CL w L (.slice a L.length m)) (hs : SL w l (.slice sa l.length sm)) : Calls Tryz.prog 14 #[.agg #[.string ⟨tn.toArray⟩, .slice a L.length m, .slice a2 n2 m2, .slice a3 n3 m3, .slice a4 n4 m4], .slice sa l.length sm] w (ListPost w (setsR L tn l)) := by
 obtain ⟨ix, hix, hx0, hx1, hx2⟩ := info_parts infoExpr
 have HL := Lib.hid hl
 have HS := Lib.hid hs
 have HCS := Lib.hid hcs
 clear hl hs hcs
 go_enter Tryz.func14, Tryz.ntmps14
 go_upto_region 1 with (fail)
 refine name_alloc (K := Code.wp _ _ _ _) fun w1 hB0 hw1 hz1 => ?_
 have HB1 := Lib.hid hB0
 have HW1 := Lib.hid hw1
 clear hB0 hw1 hz1
 go_upto_region 3 with (fail)
 refine name_alloc (cs := []) (K := Code.wp _ _ _ _) fun w2 hE hw2 hz2 => ?_
 have HE2 := Lib.hid hE
 have HW2 := Lib.hid hw2
 clear hE hw2 hz2
 go_loopw [6, 7] (fun v i wr => ∃ k : Nat, k ≤ L.length ∧ i = .int .i64 (k : Int) ∧ OwnX w1.heap.size v (colXs k) wr ∧ Below w1.heap.size w1 wr) (fun _ i _ => L.length - (intOf i).toNat)
 case atStart => exact ⟨0, Nat.zero_le _, rfl, OwnX.made HE2.out (Nat.le_refl _), HW2.out⟩
 case round =>
  obtain ⟨k, hkk, rfl, hox, hb⟩ := hrel
  have HBr := Lib.hid (HB1.out.below hb)
  have HBB := Lib.hid hb
  have HO := Lib.hid hox
  clear hb hox
  have p1 := HBr.out.cell 1 rfl
  by_cases hlt : k < L.length
  ·have k1 : (k : Int) < (L.length : Int) := by omega
   have k0 : (0 : Int) ≤ (k : Int) := by omega
   go_upto_region 5 with (fail)
   go_wp2_with fail
   refine (column20_call (k : Int) wr).mono ?_
   rintro e w3 ⟨rfl, hw3⟩
   have HO3 := Lib.hid (HO.out.below hw3)
   have HB3 := Lib.hid (HBB.out.trans (hw3.mono HBB.out.size))
   clear hw3 p1 HBr
   obtain ⟨css, hc1, hc2, hc3, hc4⟩ := (HO3.out.below ((Below.refl _ w3).alloc (Nat.le_refl _) (.cells ([.int .i64 2, .int .i64 (k : Int), .int .i64 0, .int .i64 0, .string ⟨#[]⟩, .string ⟨#[]⟩, .slice none 0 0] : List Value).toArray 31))).row
   have HCS2 := Lib.hid hc4
   have HLL : Hid ((colXs k).length ≤ 1000000) := Lib.hid (by rw [colXs_len]; omega)
   clear hc4
   go_upto_region 4 with (at_builtin; refine wpList_append_own_at _ rfl (.tmp 22) (.tmp 25) 25 rfl w1.heap.size 31 ix _ 7 88 Tryz.underlying25 hix hx0 hx1 hx2 rfl (by omega) u6 (colXs k).length _ rfl hc3 ⟨w3.heap.size, 0, none⟩ 1 1 [.int .i64 2, .int .i64 (k : Int), .int .i64 0, .int .i64 0, .string ⟨#[]⟩, .string ⟨#[]⟩, .slice none 0 0] rfl rfl (fun j u hj => by rw [Addr.add_lit]; exact (Blk.new w3 [.int .i64 2, .int .i64 (k : Int), .int .i64 0, .int .i64 0, .string ⟨#[]⟩, .string ⟨#[]⟩, .slice none 0 0] 31).cell _ (by simpa using hj)) (fun u hu => by simp at hu; rcases hu with rfl | rfl | rfl | rfl | rfl | rfl | rfl <;> rfl) (by have := HLL.out; unfold maxLen; omega) (by have := HLL.out; omega) (Nat.le_trans HB3.out.size (by simp)) ?_)
   intro v5 w5 hrow hg5 _ hat5
   have hb59 : Below w1.heap.size w3 w5 := ((Below.refl _ w3).alloc HB3.out.size _).grown hg5 (Nat.le_trans HB3.out.size (by simp)) (fun g e => (HO3.out.lt g e).1)
   have hn := OwnX.snoc hc1 hc2 rfl HCS2.out (XF.col w3.heap.size w3.heap.size _ (k : Int)) HB3.out.size (by simp) (fun g e => .inl (HO3.out.lt g e).2) hrow hg5 (by simpa using hat5)
   rw [← colXs_succ] at hn
   have HN := Lib.hid hn
   have HB5 := Lib.hid (HB3.out.trans hb59)
   clear hrow hg5 hat5 hb59 hc1 hc2 hc3 hn
   go_wp2_with fail
   go_roundw
   case rel => exact ⟨k + 1, by omega, by go_num, HN.out, HB5.out⟩
   case measure => simp [intOf]; omega
  ·obtain rfl : k = L.length := by omega
   have d1 : decide ((L.length : Int) < (L.length : Int)) = false := decide_eq_false (by omega)
   have HKI : Hid (∀ i : Int, kindAt L i = kindAt L i) := Lib.hid fun _ => rfl
   go_upto_region 7 with (fail)
   clear d1 p1 HBr
   go_loopw [8, 9, 10, 11, 12, 13] (fun i _ _ _ _ _ ws => ∃ (k : Nat) (out : List X), k ≤ l.length ∧ i = .int .i64 (k : Int) ∧ Hid (setsR L tn l = setsG L tn (l.drop k) ((l.take k).map Prod.fst) out) ∧ out.length = L.length ∧ OwnX w1.heap.size u6 out ws ∧ Below w1.heap.size w1 ws) (fun i _ _ _ _ _ _ => l.length - (intOf i).toNat)
   case atStart => exact ⟨0, colXs L.length, Nat.zero_le _, rfl, Lib.hid rfl, colXs_len _, HO.out, HBB.out⟩
   case round =>
    obtain ⟨k, out, hkk, rfl, HR, hol, hox, hb⟩ := hrel
    clear HO HBB
    have HOL := Lib.hid hol
    have HBr := Lib.hid (HB1.out.below hb)
    have HBB := Lib.hid hb
    have HWr := Lib.hid (HW1.out.trans (hb.mono HW1.out.size))
    have HO := Lib.hid hox
    clear hb hox hol
    by_cases hlt : k < l.length
    ·have k1 : (k : Int) < (l.length : Int) := by omega
     have k0 : (0 : Int) ≤ (k : Int) := by omega
     obtain ⟨g, o, us, eq, hxx, hec, hxr, h7, hnm⟩ := HS.out.at_ hlt
     subst eq
     have HG := Lib.hid (HR.out.trans (setsG_at hlt _ _))
     have HMT := Lib.hid (met_succ hlt)
     have HMI : Hid (∀ s, s ∈ (l.take k).map Prod.fst ↔ ∃ j, ∃ h : j < l.length, j < k ∧ l[j].1 = s) := Lib.hid fun s => met_iff s
     have hnx := HCS.out _ (List.getElem_mem hxx)
     have HKC := Lib.hid hec
     have HXR := Lib.hid hxr
     have HNX := Lib.hid hnx
     clear hec hnx hxr hnm h7 HR
     generalize l[k] = sx at HG HMT HKC HXR HNX
     obtain ⟨s, x⟩ := sx
     simp only at HG HMT HKC HXR HNX
     have c0 := HKC.out.at0 HWr.out rfl
     have t0 := HBr.out.cell 0 rfl
     have t1 := HBr.out.cell 1 rfl
     have t2 := HBr.out.cell 2 rfl
     have t3 := HBr.out.cell 3 rfl
     have t4 := HBr.out.cell 4 rfl
     go_upto_region 9 with (fail)
     go_still_tail 6, (by kernel_rfl)
     change wpList _ _ _ _ _ (wr.drewN 1)
     have HB3 := Lib.hid (belowD wr 1)
     have HW3 := Lib.hid (HWr.out.trans ((belowD wr 1).mono HWr.out.size))
     clear t0 t1 t2 t3 t4 c0
     generalize wr.drewN 1 = w3 at HB3 HW3 ⊢
     go_wp2_with fail
     refine (find13_call L s tn a m _ _ _ w3 (by omega) (HL.out.kept HW3.out (Nat.le_refl _))).mono ?_
     rintro e w8 ⟨rfl, hw8⟩
     have hb8 : Below wr.heap.size wr w8 := HB3.out.trans (hw8.mono HB3.out.size)
     all_goals
      have HT8 := Lib.hid (HBr.out.below hb8)
      have HW8 := Lib.hid (HWr.out.trans (hb8.mono HWr.out.size))
      have HBB8 := Lib.hid (HBB.out.trans (hb8.mono HBB.out.size))
      have HO8 := Lib.hid (HO.out.below hb8)
      have HVR := Lib.hid (findV_range L s)
      clear hb8 hw8 HB3 HW3 HBr HWr HBB HO
      generalize findV L s = V at HG HVR ⊢
      by_cases hv : V < 0
      ·have HF : Hid (setsR L tn l = .inr 11) := Lib.hid (by rw [HG.out, if_pos hv])
       go_wp2_with fail
       go_ret2
       exact ⟨by rw [HF.out]; rfl, HW8.out⟩
      ·have HG2 := Lib.hid (HG.out.trans (if_neg hv))
       obtain ⟨i, hi, rfl⟩ : ∃ i : Nat, ∃ h : i < L.length, V = (i : Int) := HVR.out.resolve_left hv
       have HI := Lib.hid hi
       have hv' : ¬ ((i : Nat) : Int) < 0 := hv
       clear HG HVR hi hv
       go_upto_region 13 with (fail)
       clear hv'
       go_loopw [10] (fun j wi => ∃ q : Nat, q ≤ k ∧ j = .int .i64 (q : Int) ∧ Hid (∀ j (h : j < l.length), j < q → l[j].1 ≠ s) ∧ Below w8.heap.size w8 wi) (fun j _ => k - (intOf j).toNat)
       case atStart => exact ⟨0, Nat.zero_le _, rfl, Lib.hid (fun j h hj => absurd hj (by omega)), Below.refl _ _⟩
       case round =>
        obtain ⟨q, hq, rfl, HNE, hb⟩ := hrel
        have HT5 := Lib.hid (HT8.out.below hb)
        have HB85 := Lib.hid hb
        have HW5 := Lib.hid (HW8.out.trans (hb.mono HW8.out.size))
        have HBB5 := Lib.hid (HBB8.out.trans (hb.mono HBB8.out.size))
        have HO5 := Lib.hid (HO8.out.below hb)
        clear hb
        by_cases hlq : q < k
        ·have q1 : (q : Int) < (k : Int) := by omega
         have q2 : (q : Int) < (l.length : Int) := by omega
         have q0 : (0 : Int) ≤ (q : Int) := by omega
         have HKD : Hid (∃ us2, EC w g (o + q * 8) (.string ⟨(l[q]'(by omega)).1.toArray⟩ :: us2)) := Lib.hid (by
          obtain ⟨g2, o2, us2, e2, hx2, hec2, _⟩ := HS.out.at_ (k := q) (by omega)
          cases e2
          exact ⟨_, hec2⟩)
         obtain ⟨us2, hkd⟩ := HKD.out
         have HKD := Lib.hid hkd
         have HNN : Hid (l[q].1 ≠ s → ∀ j (h : j < l.length), j < q + 1 → l[j].1 ≠ s) := Lib.hid fun hne j h hj => by
          by_cases hjq : j = q
          ·subst hjq; exact hne
          ·exact HNE.out j h (by omega)
         have HYY : Hid (l[q].1 = s → setsR L tn l = .inr 10) := Lib.hid fun he => by rw [HG2.out, if_pos ((HMI.out s).2 ⟨q, by omega, hlq, he⟩)]
         clear hkd
         generalize (l[q]'(by omega)).1 = s2 at HKD HNN HYY
         go_upto_region 15 with (fail)
         refine Gr.region_grow 10 (by kernel_rfl) (by kernel_rfl) (fun w' => Below wr.heap.size wr w') ⟨rfl, rfl, rfl, Nat.le_refl _, fun _ _ => rfl⟩ ?_
         simp only [List.take_succ_cons, List.take_zero, List.drop_succ_cons, List.drop_zero]
         iterate 4
          refine Gr.line_step _ (by go_simp; intro w' hw'; go_simp; rw [Gr.grown_value]) ?_
          refine Gr.line_norm fun K hK => ?_; go_simp; refine hK _ ?_; clear hK K
         refine Gr.line_step _ (by go_simp; intro w' hw'; have e1 := HKD.out.at0 (HW5.out.trans (hw'.mono HW5.out.size)) rfl; go_simp; rw [Gr.grown_value]) ?_
         iterate 4
          refine Gr.line_norm fun K hK => ?_; go_simp; refine hK _ ?_; clear hK K
          refine Gr.line_step _ (by go_simp; intro w' hw'; go_simp; rw [Gr.grown_value]) ?_
         refine Gr.line_norm fun K hK => ?_; go_simp; refine hK _ ?_; clear hK K
         refine Gr.line_step _ (by go_simp; intro w' hw'; have e0 := HKC.out.at0 (HW5.out.trans (hw'.mono HW5.out.size)) rfl; go_simp; rw [Gr.grown_value]) ?_
         refine Gr.line_norm fun K hK => ?_; go_simp; refine hK _ ?_; clear hK K
         refine Gr.line_nil fun w6 hw6 => ?_
         have HW6 := Lib.hid (HW5.out.trans (hw6.mono HW5.out.size))
         have HB86 := Lib.hid (HB85.out.trans (hw6.mono HB85.out.size))
         clear hw6
         by_cases he : s2 = s
         ·have HF := Lib.hid (HYY.out he)
          subst he
          clear HYY HNN HG2 HMT HMI
          go_wp2_with fail
          go_ret2
          exact ⟨by rw [HF.out]; rfl, HW6.out⟩
         ·have HN2 := Lib.hid (HNN.out he)
          have d3 : (s2 == s) = false := by simpa using he
          clear HYY HNN he
          go_wp2_with fail
          go_roundw
          case rel => exact ⟨q + 1, by omega, by go_num, HN2, HB86.out⟩
          case measure => simp [intOf]; omega
        ·obtain rfl : q = k := by omega
         have d1 : decide ((q : Int) < (q : Int)) = false := decide_eq_false (by omega)
         have HNI : Hid (s ∉ (l.take q).map Prod.fst) := Lib.hid fun h => by obtain ⟨j, hj, hjq, e⟩ := (HMI.out s).1 h; exact HNE.out j hj hjq e
         have HG3 := Lib.hid (HG2.out.trans (if_neg HNI.out))
         clear HG2 HNI HMI HNE HW8 HT8 HBB8 HO8 HB85
         go_upto_region 17 with (fail)
         have HNX2 := HNX.out
         have HBN : Hid (∀ (w8 : World) (g8 c8 base : Nat) (v8 : Value), Below w.heap.size w w8 → EC w8 g8 0 (placeC tn tn a a2 a3 a4 L.length m n2 m2 n3 m3 n4 m4) → OwnI base v8 (kindsC L) w8 → ∀ w', Below w8.heap.size w8 w' → Calls Tryz.prog 40 #[.agg #[.int .i64 0, .slice (some ⟨g8, 0, none⟩) 1 c8, v8], .agg us.toArray] w' (BindPost w' (bindR (kindsC L) (resR (some tn) (L.map (·.nm)) x)))) := Lib.hid fun w8 g8 c8 base v8 h1 h2 h3 => bind20_sc HNX2.1 HNX2.2 hL HL.out HXR.out h1 h2 h3
         have HNE0 : Hid (∀ q, bindR (kindsC L) (resR (some tn) (L.map (·.nm)) x) = .inr q → q ≠ 0) := Lib.hid (bindR_ne (resR_facts HNX2.1 HNX2.2).2)
         have HO5L : Hid (∀ gv, u6.ownBlock = some gv → gv < wr.heap.size) := Lib.hid fun gv e => (HO5.out.lt gv e).2
         generalize bindR (kindsC L) (resR (some tn) (L.map (·.nm)) x) = R at HBN HG3 HNE0
         obtain ⟨op, int, vk, vi, vs, nm, xl⟩ := x
         obtain ⟨ax, mx, rfl, _⟩ := HXR.out.lits
         clear HNX2 HNX HXR
         have HKE := Lib.hid HKC.out.tail
         have e0 := HKE.out.at0 HW5.out rfl
         have e1 := HKE.out.at_ HW5.out (j := 1) rfl
         have e2 := HKE.out.at_ HW5.out (j := 2) rfl
         have e3 := HKE.out.at_ HW5.out (j := 3) rfl
         have e4 := HKE.out.at_ HW5.out (j := 4) rfl
         have e5 := HKE.out.at_ HW5.out (j := 5) rfl
         have e6 := HKE.out.at_ HW5.out (j := 6) rfl
         have t0 := HT5.out.cell 0 rfl
         have t1 := HT5.out.cell 1 rfl
         have t2 := HT5.out.cell 2 rfl
         have t3 := HT5.out.cell 3 rfl
         have t4 := HT5.out.cell 4 rfl
         have hgd : Below w.heap.size w wr.drew := below_drew HW5.out
         have hgd2 : Below w.heap.size w (wr.drew.alloc (.cells ([.int .i64 0, .int .i64 0, .int .i64 0, .int .i64 0, .string ⟨#[]⟩, .string ⟨#[]⟩, .slice none 0 0] : List Value).toArray 31)) := hgd.alloc hgd.size _
         have l0 : w.heap.size < wr.heap.size := HT5.out.lt
         have lg : g < wr.heap.size := Nat.lt_of_lt_of_le HKC.out.1 HW5.out.size
         cases R with
         | inr qe =>
          go_cut [11, 12, 13] (fun v11 v12 v13 wx => v13 = .int .i64 qe ∧ Below wr.heap.size wr wx)
          case first =>
           go_region_law (first | (go_simp; go_at_call 34; refine (only20_call L tn a a2 a3 a4 m n2 m2 n3 m3 n4 m4 _ hL (HL.out.kept (by first | exact hgd | exact hgd2) (Nat.le_refl _))).mono ?_; rintro e w8 ⟨s8, rfl, ⟨g8, c8, v8, rfl, hec8, ho8⟩, hw8⟩; have hb8 : Below wr.heap.size wr w8 := (by first | exact below_undrew hw8 | exact below_undrew (((Below.refl _ wr.drew).alloc (Nat.le_refl _) _).trans (hw8.mono (by simp)))); (try (have hnb : Blk w8 wr.heap.size [.int .i64 0, .int .i64 0, .int .i64 0, .int .i64 0, .string ⟨#[]⟩, .string ⟨#[]⟩, .slice none 0 0] 31 := (Blk.new wr.drew [.int .i64 0, .int .i64 0, .int .i64 0, .int .i64 0, .string ⟨#[]⟩, .string ⟨#[]⟩, .slice none 0 0] 31).below hw8)); have hy8 := HW5.out.trans (hb8.mono HW5.out.size); have HB8 := HBN.out w8 g8 c8 _ v8 hy8 hec8 ho8; have e0 := HKE.out.at0 hy8 rfl; have e1 := HKE.out.at_ hy8 (j := 1) rfl; have e2 := HKE.out.at_ hy8 (j := 2) rfl; have e3 := HKE.out.at_ hy8 (j := 3) rfl; have e4 := HKE.out.at_ hy8 (j := 4) rfl; have e5 := HKE.out.at_ hy8 (j := 5) rfl; have e6 := HKE.out.at_ hy8 (j := 6) rfl; have lg8 : g < w8.heap.size := Nat.lt_of_lt_of_le lg hb8.size; clear hec8 ho8 hw8 hgd hgd2) | (go_simp; go_at_call 40; refine (HB8 _ (by first | exact Below.refl _ _ | exact (Below.refl _ _).alloc (Nat.le_refl _) _)).mono ?_; intro e w9 hp; obtain ⟨hp, hw9⟩ := hp; obtain rfl := (hp : e = .returned (.tuple #[zeroV, .int .i64 0, .int .i64 qe])); unfold zeroV; have hc9 : Below w8.heap.size w8 w9 := (by first | exact hw9 | exact ((Below.refl _ w8).alloc (Nat.le_refl _) _).trans (hw9.mono (by simp))); first | (have hn9 : Blk w9 wr.heap.size [.int .i64 0, .int .i64 0, .int .i64 0, .int .i64 0, .string ⟨#[]⟩, .string ⟨#[]⟩, .slice none 0 0] 31 := hnb.below hc9; have bn0 := hn9.cell 0 rfl; have bn1 := hn9.cell 1 rfl; have bn2 := hn9.cell 2 rfl; have bn3 := hn9.cell 3 rfl; have bn4 := hn9.cell 4 rfl; have bn5 := hn9.cell 5 rfl; have bn6 := hn9.cell 6 rfl; have bm0 := hn9.free 0; have bm1 := hn9.free 1; have bm2 := hn9.free 2; have bm3 := hn9.free 3; have bm4 := hn9.free 4; have bm5 := hn9.free 5; have bm6 := hn9.free 6) | (have hn9 : Blk w9 w8.heap.size [.int .i64 0, .int .i64 0, .int .i64 0, .int .i64 0, .string ⟨#[]⟩, .string ⟨#[]⟩, .slice none 0 0] 31 := (Blk.new w8 [.int .i64 0, .int .i64 0, .int .i64 0, .int .i64 0, .string ⟨#[]⟩, .string ⟨#[]⟩, .slice none 0 0] 31).below hw9; have bn0 := hn9.cell 0 rfl; have bn1 := hn9.cell 1 rfl; have bn2 := hn9.cell 2 rfl; have bn3 := hn9.cell 3 rfl; have bn4 := hn9.cell 4 rfl; have bn5 := hn9.cell 5 rfl; have bn6 := hn9.cell 6 rfl; have bm0 := hn9.free 0; have bm1 := hn9.free 1; have bm2 := hn9.free 2; have bm3 := hn9.free 3; have bm4 := hn9.free 4; have bm5 := hn9.free 5; have bm6 := hn9.free 6) | skip))
           all_goals
            have l8 : wr.heap.size ≤ w8.heap.size := hb8.size
            have hwr9 : Below wr.heap.size wr w9 := hb8.trans (hc9.mono hb8.size)
           all_goals first
            | (have _t := hn9; clear _t; refine name_set7 (K := Exit.then _ _ _ _) hn9 fun w10 hM => ?_; have HWR : Below wr.heap.size wr w10 := hwr9.trans (hM.low.mono (by omega)); have HHW := Lib.hid HWR; clear HWR; clear hM; clear hn9 bn0 bn1 bn2 bn3 bn4 bn5 bn6 bm0 bm1 bm2 bm3 bm4 bm5 bm6)
            | (refine name_alloc (K := Exit.then _ _ _ _) fun w10 hB9 hw10 hs10 => ?_; have HWR : Below wr.heap.size wr w10 := hwr9.trans (hw10.mono hwr9.size); have HHW := Lib.hid HWR; clear HWR; clear hB9 hw10 hs10)
           all_goals
            clear l8 hwr9 hb8 hc9 hw9 hy8 HB8 l0 lg lg8 t0 t1 t2 t3 t4 e0 e1 e2 e3 e4 e5 e6
            go_wp2_with fail
            go_meet
            exact ⟨rfl, HHW.out⟩
          case rest =>
           obtain ⟨rfl, hwr⟩ := hcut
           have HW10 := Lib.hid (HW5.out.trans (hwr.mono HW5.out.size))
           clear hwr t0 t1 t2 t3 t4 e0 e1 e2 e3 e4 e5 e6 l0 lg hgd hgd2
           by_cases hq : qe = 0
           ·have HF : Hid False := Lib.hid (HNE0.out qe rfl hq)
            exact HF.out.elim
           ·have dq : (qe != 0) = true := by simp [hq]
            have HF : Hid (setsR L tn l = .inr qe) := Lib.hid HG3.out
            clear hq
            go_wp2_with fail
            go_ret2
            exact ⟨by rw [HF.out]; rfl, HW10.out⟩
         | inl yk =>
          obtain ⟨y, kd⟩ := yk
          obtain ⟨yop, yint, yvk, yvi, yvs, ynm, yl⟩ := y
          go_cut [11, 12, 13] (fun v11 v12 v13 wx => ∃ G : Nat, v11 = .pointer (some ⟨G, 0, none⟩) ∧ v12 = .int .i64 kd ∧ v13 = .int .i64 0 ∧ Below wr.heap.size wr wx ∧ ∃ ya ym, Blk wx G [.int .i64 yop, .int .i64 yint, .int .i64 yvk, .int .i64 yvi, .string ⟨yvs.toArray⟩, .string ⟨ynm.toArray⟩, .slice ya yl.length ym] 31 ∧ ∃ lo hi, wr.heap.size ≤ lo ∧ hi ≤ wx.heap.size ∧ XF lo hi wx (.mk yop yint yvk yvi yvs ynm yl) [.int .i64 yop, .int .i64 yint, .int .i64 yvk, .int .i64 yvi, .string ⟨yvs.toArray⟩, .string ⟨ynm.toArray⟩, .slice ya yl.length ym])
          case first =>
           go_region_law (first | (go_simp; go_at_call 34; refine (only20_call L tn a a2 a3 a4 m n2 m2 n3 m3 n4 m4 _ hL (HL.out.kept (by first | exact hgd | exact hgd2) (Nat.le_refl _))).mono ?_; rintro e w8 ⟨s8, rfl, ⟨g8, c8, v8, rfl, hec8, ho8⟩, hw8⟩; have hb8 : Below wr.heap.size wr w8 := (by first | exact below_undrew hw8 | exact below_undrew (((Below.refl _ wr.drew).alloc (Nat.le_refl _) _).trans (hw8.mono (by simp)))); (try (have hnb : Blk w8 wr.heap.size [.int .i64 0, .int .i64 0, .int .i64 0, .int .i64 0, .string ⟨#[]⟩, .string ⟨#[]⟩, .slice none 0 0] 31 := (Blk.new wr.drew [.int .i64 0, .int .i64 0, .int .i64 0, .int .i64 0, .string ⟨#[]⟩, .string ⟨#[]⟩, .slice none 0 0] 31).below hw8)); have hy8 := HW5.out.trans (hb8.mono HW5.out.size); have HB8 := HBN.out w8 g8 c8 _ v8 hy8 hec8 ho8; have e0 := HKE.out.at0 hy8 rfl; have e1 := HKE.out.at_ hy8 (j := 1) rfl; have e2 := HKE.out.at_ hy8 (j := 2) rfl; have e3 := HKE.out.at_ hy8 (j := 3) rfl; have e4 := HKE.out.at_ hy8 (j := 4) rfl; have e5 := HKE.out.at_ hy8 (j := 5) rfl; have e6 := HKE.out.at_ hy8 (j := 6) rfl; have lg8 : g < w8.heap.size := Nat.lt_of_lt_of_le lg hb8.size; clear hec8 ho8 hw8 hgd hgd2) | (go_simp; go_at_call 40; refine (HB8 _ (by first | exact Below.refl _ _ | exact (Below.refl _ _).alloc (Nat.le_refl _) _)).mono ?_; intro e w9 hp; obtain ⟨hp, hw9⟩ := hp; obtain ⟨ya, ym, rfl, hxf⟩ := (hp : ∃ a m, e = .returned (.tuple #[.agg (xc (.mk yop yint yvk yvi yvs ynm yl) a m).toArray, .int .i64 kd, .int .i64 0]) ∧ XF _ w9.heap.size w9 (.mk yop yint yvk yvi yvs ynm yl) (xc (.mk yop yint yvk yvi yvs ynm yl) a m)); simp only [xc] at hxf ⊢; have hc9 : Below w8.heap.size w8 w9 := (by first | exact hw9 | exact ((Below.refl _ w8).alloc (Nat.le_refl _) _).trans (hw9.mono (by simp))); first | (have hn9 : Blk w9 wr.heap.size [.int .i64 0, .int .i64 0, .int .i64 0, .int .i64 0, .string ⟨#[]⟩, .string ⟨#[]⟩, .slice none 0 0] 31 := hnb.below hc9; have hnl := hnb.lt; have hxl : ∃ lo, wr.heap.size < lo ∧ XF lo w9.heap.size w9 (.mk yop yint yvk yvi yvs ynm yl) [.int .i64 yop, .int .i64 yint, .int .i64 yvk, .int .i64 yvi, .string ⟨yvs.toArray⟩, .string ⟨ynm.toArray⟩, .slice ya yl.length ym] := ⟨_, hnl, hxf⟩; have bn0 := hn9.cell 0 rfl; have bn1 := hn9.cell 1 rfl; have bn2 := hn9.cell 2 rfl; have bn3 := hn9.cell 3 rfl; have bn4 := hn9.cell 4 rfl; have bn5 := hn9.cell 5 rfl; have bn6 := hn9.cell 6 rfl; have bm0 := hn9.free 0; have bm1 := hn9.free 1; have bm2 := hn9.free 2; have bm3 := hn9.free 3; have bm4 := hn9.free 4; have bm5 := hn9.free 5; have bm6 := hn9.free 6) | (have hn9 : Blk w9 w8.heap.size [.int .i64 0, .int .i64 0, .int .i64 0, .int .i64 0, .string ⟨#[]⟩, .string ⟨#[]⟩, .slice none 0 0] 31 := (Blk.new w8 [.int .i64 0, .int .i64 0, .int .i64 0, .int .i64 0, .string ⟨#[]⟩, .string ⟨#[]⟩, .slice none 0 0] 31).below hw9; have hxl : ∃ lo, w8.heap.size < lo ∧ XF lo w9.heap.size w9 (.mk yop yint yvk yvi yvs ynm yl) [.int .i64 yop, .int .i64 yint, .int .i64 yvk, .int .i64 yvi, .string ⟨yvs.toArray⟩, .string ⟨ynm.toArray⟩, .slice ya yl.length ym] := ⟨w8.heap.size + 1, Nat.lt_succ_self _, (by simpa using hxf)⟩; have bn0 := hn9.cell 0 rfl; have bn1 := hn9.cell 1 rfl; have bn2 := hn9.cell 2 rfl; have bn3 := hn9.cell 3 rfl; have bn4 := hn9.cell 4 rfl; have bn5 := hn9.cell 5 rfl; have bn6 := hn9.cell 6 rfl; have bm0 := hn9.free 0; have bm1 := hn9.free 1; have bm2 := hn9.free 2; have bm3 := hn9.free 3; have bm4 := hn9.free 4; have bm5 := hn9.free 5; have bm6 := hn9.free 6) | (have hxl : ∃ lo, wr.heap.size ≤ lo ∧ XF lo w9.heap.size w9 (.mk yop yint yvk yvi yvs ynm yl) [.int .i64 yop, .int .i64 yint, .int .i64 yvk, .int .i64 yvi, .string ⟨yvs.toArray⟩, .string ⟨ynm.toArray⟩, .slice ya yl.length ym] := ⟨_, hb8.size, hxf⟩)))
           all_goals
            have l8 : wr.heap.size ≤ w8.heap.size := hb8.size
            have hwr9 : Below wr.heap.size wr w9 := hb8.trans (hc9.mono hb8.size)
            obtain ⟨lo, hlo1, hxf2⟩ := hxl
           all_goals first
            | (have _t := hn9; clear _t; refine name_set7 (K := Exit.then _ _ _ _) hn9 fun w10 hM => ?_; have HWR : Below wr.heap.size wr w10 := hwr9.trans (hM.low.mono (by omega)); have HB10 := hM.blk; have HXF : ∃ lo hi, wr.heap.size ≤ lo ∧ hi ≤ w10.heap.size ∧ XF lo hi w10 (.mk yop yint yvk yvi yvs ynm yl) [.int .i64 yop, .int .i64 yint, .int .i64 yvk, .int .i64 yvi, .string ⟨yvs.toArray⟩, .string ⟨ynm.toArray⟩, .slice ya yl.length ym] := ⟨lo, _, by omega, (by rw [hM.size]; exact Nat.le_refl _), hxf2.same (fun b b1 b2 => hM.far b (by omega)) (Nat.le_refl _) (Nat.le_refl _)⟩; have HH := Lib.hid HXF; have HHB := Lib.hid HB10; have HHW := Lib.hid HWR; clear HXF HB10 HWR hxf2; clear hM; clear hn9 bn0 bn1 bn2 bn3 bn4 bn5 bn6 bm0 bm1 bm2 bm3 bm4 bm5 bm6)
            | (refine name_alloc (K := Exit.then _ _ _ _) fun w10 hB9 hw10 hs10 => ?_; have HWR : Below wr.heap.size wr w10 := hwr9.trans (hw10.mono hwr9.size); have HB10 := hB9; have HXF : ∃ lo hi, wr.heap.size ≤ lo ∧ hi ≤ w10.heap.size ∧ XF lo hi w10 (.mk yop yint yvk yvi yvs ynm yl) [.int .i64 yop, .int .i64 yint, .int .i64 yvk, .int .i64 yvi, .string ⟨yvs.toArray⟩, .string ⟨ynm.toArray⟩, .slice ya yl.length ym] := ⟨lo, _, by omega, hw10.size, hxf2.below hw10 (Nat.le_refl _)⟩; have HH := Lib.hid HXF; have HHB := Lib.hid HB10; have HHW := Lib.hid HWR; clear HXF HB10 HWR hxf2; clear hB9 hw10 hs10)
           all_goals
            clear l8 hwr9 hb8 hc9 hw9 hy8 HB8 l0 lg lg8 t0 t1 t2 t3 t4 e0 e1 e2 e3 e4 e5 e6
            go_wp2_with fail
            go_meet
            exact ⟨_, rfl, rfl, rfl, HHW.out, _, _, HHB.out, HH.out⟩
          case rest =>
           obtain ⟨G, rfl, rfl, rfl, hwr, ya, ym, hBG, hxx⟩ := hcut
           have HWR := Lib.hid hwr
           have HB10 := Lib.hid hBG
           have HXF := Lib.hid hxx
           have HW10 := Lib.hid (HW5.out.trans (hwr.mono HW5.out.size))
           clear hwr hBG hxx t0 t1 t2 t3 t4 e0 e1 e2 e3 e4 e5 e6 l0 lg hgd hgd2
           rename_i w10 _
           have HO10 := Lib.hid (HO5.out.below HWR.out)
           have HT10 := Lib.hid (HT5.out.below HWR.out)
           have HBW := Lib.hid (HBB5.out.trans (HWR.out.mono HBB5.out.size))
           have HSW := Lib.hid HBB5.out.size
           have HCC : Hid (∃ gc oc, a = some ⟨gc, oc, none⟩ ∧ ∃ nul nmc, EC w gc (oc + i * 3) [.string nmc, .int .i64 (kindAt L (i : Int)), .bool nul]) := Lib.hid (by
            obtain ⟨gc, oc, e, hx2, hcc⟩ := HL.out.at_ (k := i) HI.out
            rw [kindAt_eq HI.out]
            exact ⟨gc, oc, e, _, _, hcc⟩)
           obtain ⟨gc, oc, ea, nul, nmc, hcc⟩ := HCC.out
           subst ea
           have HCC := Lib.hid hcc
           clear hcc HT5 HWR HBB5 HO5
           generalize kindAt L (i : Int) = ka at HG3 HCC
           have t1 := HT10.out.cell 1 rfl
           have cc1 := HCC.out.at_ HW10.out (j := 1) rfl
           have i0 : (0 : Int) ≤ (i : Int) := by omega
           have i1 : (i : Int) < (L.length : Int) := by have := HI.out; omega
           by_cases hbad : kd ≠ 0 ∧ kd ≠ ka
           ·have dq : (kd != 0) = true := by simp [hbad.1]
            have dk : (kd != ka) = true := by simp [hbad.2]
            have HF : Hid (setsR L tn l = .inr 7) := Lib.hid (HG3.out.trans (if_pos hbad))
            clear hbad
            go_wp2_with fail
            go_ret2
            exact ⟨by rw [HF.out]; rfl, HW10.out⟩
           ·have HF : Hid (setsR L tn l = setsG L tn (l.drop (q + 1)) ((l.take (q + 1)).map Prod.fst) (out.set i (.mk yop yint yvk yvi yvs ynm yl))) := Lib.hid (by rw [HMT.out]; exact HG3.out.trans (if_neg hbad))
            by_cases hk0 : kd = 0
            ·subst hk0
             clear hbad
             obtain ⟨lo, hi, hlo, hhi, hxf⟩ := HXF.out
             obtain ⟨gO, cap, cur, ev, hblk, hgB, hcur, hex⟩ := HO10.out.exch (i := i) (by rw [HOL.out]; exact HI.out)
             have HEX := Lib.hid (fun w' hM => hex lo hi (.mk yop yint yvk yvi yvs ynm yl) _ _ _ _ _ _ _ w' hM hxf (Nat.le_trans HSW.out hlo) hhi (.inl (Nat.lt_of_lt_of_le (by have := HO5L.out gO (by rw [ev]; rfl); exact this) hlo)))
             have HBK := Lib.hid hblk
             have HGB := Lib.hid hgB
             have i2 : (i : Int) < (out.length : Int) := by have := HOL.out; omega
             subst ev
             have f0 := HBK.out.free (i * 7)
             have y0 := HBK.out.cell (i * 7) (List.getElem?_eq_getElem (by omega))
             have y1 := HBK.out.cell (i * 7 + 1) (List.getElem?_eq_getElem (by omega))
             have y2 := HBK.out.cell (i * 7 + 2) (List.getElem?_eq_getElem (by omega))
             have y3 := HBK.out.cell (i * 7 + 3) (List.getElem?_eq_getElem (by omega))
             have y4 := HBK.out.cell (i * 7 + 4) (List.getElem?_eq_getElem (by omega))
             have y5 := HBK.out.cell (i * 7 + 5) (List.getElem?_eq_getElem (by omega))
             have y6 := HBK.out.cell (i * 7 + 6) (List.getElem?_eq_getElem (by omega))
             have f1 := HBK.out.free (i * 7 + 1)
             have f2 := HBK.out.free (i * 7 + 2)
             have f3 := HBK.out.free (i * 7 + 3)
             have f4 := HBK.out.free (i * 7 + 4)
             have f5 := HBK.out.free (i * 7 + 5)
             have f6 := HBK.out.free (i * 7 + 6)
             have z0 := HB10.out.cell 0 rfl
             have z1 := HB10.out.cell 1 rfl
             have z2 := HB10.out.cell 2 rfl
             have z3 := HB10.out.cell 3 rfl
             have z4 := HB10.out.cell 4 rfl
             have z5 := HB10.out.cell 5 rfl
             have z6 := HB10.out.cell 6 rfl
             go_upto_region 8 with (fail)
             refine name_setO (o := i * 7) (K := Code.wp _ _ _ _) HBK.out fun w11 hM => ?_
             have HN := Lib.hid (HEX.out w11 hM)
             have HB11 := Lib.hid (HBW.out.trans (hM.low.mono HGB.out))
             clear hM
             go_wp2_with fail
             go_roundw
             case rel => exact ⟨q + 1, out.set i (.mk yop yint yvk yvi yvs ynm yl), by omega, by go_num, HF, by simpa using HOL.out, HN.out, HB11.out⟩
             case measure => simp [intOf]; omega
            ·have hka : kd = ka := Classical.byContradiction fun h => hbad ⟨hk0, h⟩
             have dq : (kd != 0) = true := by simp [hk0]
             subst hka
             clear hbad hk0
             obtain ⟨lo, hi, hlo, hhi, hxf⟩ := HXF.out
             obtain ⟨gO, cap, cur, ev, hblk, hgB, hcur, hex⟩ := HO10.out.exch (i := i) (by rw [HOL.out]; exact HI.out)
             have HEX := Lib.hid (fun w' hM => hex lo hi (.mk yop yint yvk yvi yvs ynm yl) _ _ _ _ _ _ _ w' hM hxf (Nat.le_trans HSW.out hlo) hhi (.inl (Nat.lt_of_lt_of_le (by have := HO5L.out gO (by rw [ev]; rfl); exact this) hlo)))
             have HBK := Lib.hid hblk
             have HGB := Lib.hid hgB
             have i2 : (i : Int) < (out.length : Int) := by have := HOL.out; omega
             subst ev
             have f0 := HBK.out.free (i * 7)
             have y0 := HBK.out.cell (i * 7) (List.getElem?_eq_getElem (by omega))
             have y1 := HBK.out.cell (i * 7 + 1) (List.getElem?_eq_getElem (by omega))
             have y2 := HBK.out.cell (i * 7 + 2) (List.getElem?_eq_getElem (by omega))
             have y3 := HBK.out.cell (i * 7 + 3) (List.getElem?_eq_getElem (by omega))
             have y4 := HBK.out.cell (i * 7 + 4) (List.getElem?_eq_getElem (by omega))
             have y5 := HBK.out.cell (i * 7 + 5) (List.getElem?_eq_getElem (by omega))
             have y6 := HBK.out.cell (i * 7 + 6) (List.getElem?_eq_getElem (by omega))
             have f1 := HBK.out.free (i * 7 + 1)
             have f2 := HBK.out.free (i * 7 + 2)
             have f3 := HBK.out.free (i * 7 + 3)
             have f4 := HBK.out.free (i * 7 + 4)
             have f5 := HBK.out.free (i * 7 + 5)
             have f6 := HBK.out.free (i * 7 + 6)
             have z0 := HB10.out.cell 0 rfl
             have z1 := HB10.out.cell 1 rfl
             have z2 := HB10.out.cell 2 rfl
             have z3 := HB10.out.cell 3 rfl
             have z4 := HB10.out.cell 4 rfl
             have z5 := HB10.out.cell 5 rfl
             have z6 := HB10.out.cell 6 rfl
             go_upto_region 8 with (fail)
             refine name_setO (o := i * 7) (K := Code.wp _ _ _ _) HBK.out fun w11 hM => ?_
             have HN := Lib.hid (HEX.out w11 hM)
             have HB11 := Lib.hid (HBW.out.trans (hM.low.mono HGB.out))
             clear hM
             go_wp2_with fail
             go_roundw
             case rel => exact ⟨q + 1, out.set i (.mk yop yint yvk yvi yvs ynm yl), by omega, by go_num, HF, by simpa using HOL.out, HN.out, HB11.out⟩
             case measure => simp [intOf]; omega
    ·obtain rfl : k = l.length := by omega
     have d1 : decide ((l.length : Int) < (l.length : Int)) = false := decide_eq_false (by omega)
     have HF : Hid (setsR L tn l = .inl out) := Lib.hid (by rw [HR.out, List.drop_length, setsG])
     obtain ⟨⟨av, cv, ev⟩, hdone⟩ := HO.out.done (by rw [HOL.out]; omega)
     have HDN := Lib.hid hdone
     clear hdone HR HO
     subst ev
     go_wp2_with fail
     go_ret2
     exact ⟨by rw [HF.out]; exact ⟨_, rfl, ⟨_, _, rfl⟩, fun w2 hw2 => HDN.out w2 fun b b1 b2 => hw2 b (Nat.le_trans HW1.out.size b1) b2⟩, HWr.out⟩
end Go.Proofs.YtnlimlboedohgaaGreatDoor.Px
