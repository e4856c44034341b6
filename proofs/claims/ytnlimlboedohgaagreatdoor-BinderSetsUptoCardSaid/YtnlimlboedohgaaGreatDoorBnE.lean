import Derived.Test.YtnlimlboedohgaaGreatDoorBnC
import Derived.Test.YtnlimlboedohgaaGreatDoorGrA
import Derived.Maps.GroupsBeside
import Derived.StringKeys
/-
  The program's scope in a mode without bounds: bound, relate, find. (Printed by gen_bpa.py.)
-/
set_option maxHeartbeats 16000000
set_option maxRecDepth 100000
namespace Go.Proofs.YtnlimlboedohgaaGreatDoor.Px
open Go Go.RowKit Go.Proofs.YtnlimlboedohgaaGreatDoor.Ps
set_option linter.unusedVariables false
set_option linter.unusedSimpArgs false
theorem bound_none (s : S) (g : Nat) (v1 v2 v3 : Value) (w : World) (he : EC w g 0 [.int .i64 0, v1, v2, v3]) : Calls Tryz.prog 117 #[.pointer (some ⟨g, 0, none⟩), .string ⟨s.toArray⟩] w (Ret w (.tuple #[.int .i64 0, .int .i64 15])) := by
 have e0 := he.at0 (Below.refl _ _) rfl
 clear he
 go_enter Tryz.func117, Tryz.ntmps117
 go_wp2_with fail
 go_ret2
 exact ⟨rfl, Below.refl _ _⟩
theorem relate_nil (g : Nat) (op int vk vi : Int) (vs nm : S) (a3 : Option Addr) (c3 : Nat) (w : World) : Calls Tryz.prog 116 #[.pointer (some ⟨g, 0, none⟩), .agg #[.int .i64 op, .int .i64 int, .int .i64 vk, .int .i64 vi, .string ⟨vs.toArray⟩, .string ⟨nm.toArray⟩, .slice a3 0 c3]] w (Ret w (.tuple #[.agg #[.int .i64 24, .int .i64 int, .int .i64 0, .int .i64 0, .string ⟨#[]⟩, .string ⟨#[]⟩, .slice none 0 0], .int .i64 0])) := by
 go_enter Tryz.func116, Tryz.ntmps116
 go_upto_region 1 with (fail)
 refine name_alloc2 (K := Code.wp _ _ _ _) fun w1 hB0 hB1 hw1 hsz => ?_
 have HB0 := Lib.hid hB0
 have HB1 := Lib.hid hB1
 have HW1 := Lib.hid hw1
 have p1 := hB0.cell 1 rfl
 clear hB0 hB1 hw1
 go_upto_region 2 with (fail)
 refine name_alloc (K := Code.wp _ _ _ _) fun w2 hB2 hw2 hsz2 => ?_
 rw [hsz] at hB2
 have HB2 := Lib.hid hB2
 have HC0 := Lib.hid (HB0.out.below hw2)
 have HC1 := Lib.hid (HB1.out.below hw2)
 have HW2 := Lib.hid (HW1.out.trans (hw2.mono HW1.out.size))
 clear hB2 hw2 hsz2 hsz HB0 HB1 HW1 p1
 have p6 := HC0.out.cell 6 rfl
 go_upto_region 3 with (fail)
 go_loopw [17] (fun i wr => i = .int .i64 0 ∧ wr = w2) (fun _ _ => 0)
 case atStart => exact ⟨rfl, rfl⟩
 case round =>
  obtain ⟨rfl, rfl⟩ := hrel
  have q0 := HB2.out.cell 0 rfl
  have q1 := HB2.out.cell 1 rfl
  have q2 := HB2.out.cell 2 rfl
  have q3 := HB2.out.cell 3 rfl
  have q4 := HB2.out.cell 4 rfl
  have q5 := HB2.out.cell 5 rfl
  have q6 := HB2.out.cell 6 rfl
  have r0 := HC1.out.cell 0 rfl
  have r1 := HC1.out.cell 1 rfl
  have r2 := HC1.out.cell 2 rfl
  have r3 := HC1.out.cell 3 rfl
  have r4 := HC1.out.cell 4 rfl
  have r5 := HC1.out.cell 5 rfl
  have r6 := HC1.out.cell 6 rfl
  have f0 := HC1.out.free 0
  have f1 := HC1.out.free 1
  have f2 := HC1.out.free 2
  have f3 := HC1.out.free 3
  have f4 := HC1.out.free 4
  have f5 := HC1.out.free 5
  have f6 := HC1.out.free 6
  go_wp2_with fail
  refine name_set7 (K := fun w' => bodyPost _ _ _ _ _ w') HC1.out fun w3 hM => ?_
  exact bodyPost_ret (results_cell_tmp Tryz.results116 _ _ (w.heap.size + 1) _ _ (0, 0) _ _ rfl rfl hM.blk Tryz.underlying31 (by kernel_rfl)) rfl ⟨rfl, HW2.out.trans (hM.low.mono (by omega))⟩
theorem relate_cons (g : Nat) (v1 v2 v3 : Value) (op int vk vi : Int) (vs nm : S) (l : List X) (cs : List Value) (w : World) (he : EC w g 0 [.int .i64 0, v1, v2, v3]) (hl0 : 0 < l.length) (hn : l.length ≤ 1000000) (h : XR w (.mk op int vk vi vs nm l) cs) : Calls Tryz.prog 116 #[.pointer (some ⟨g, 0, none⟩), .agg cs.toArray] w (Ret w (.tuple #[zeroV, .int .i64 15])) := by
 obtain ⟨a, m, rfl, hl, _, _, _⟩ := h.lits
 have HL := Lib.hid hl
 have HE := Lib.hid he
 clear h hl he
 go_enter Tryz.func116, Tryz.ntmps116
 go_upto_region 1 with (fail)
 refine name_alloc2 (K := Code.wp _ _ _ _) fun w1 hB0 hB1 hw1 hsz => ?_
 have HB0 := Lib.hid hB0
 have HB1 := Lib.hid hB1
 have HW1 := Lib.hid hw1
 have p1 := hB0.cell 1 rfl
 clear hB0 hB1 hw1
 go_upto_region 2 with (fail)
 refine name_alloc (K := Code.wp _ _ _ _) fun w2 hB2 hw2 hsz2 => ?_
 have HC0 := Lib.hid (HB0.out.below hw2)
 have HC1 := Lib.hid (HB1.out.below hw2)
 have HW2 := Lib.hid (HW1.out.trans (hw2.mono HW1.out.size))
 clear hB2 hw2 hsz2 hsz HB0 HB1 HW1 p1
 have p6 := HC0.out.cell 6 rfl
 go_upto_region 3 with (fail)
 go_loopw [17] (fun i wr => i = .int .i64 0 ∧ wr = w2) (fun _ _ => 0)
 case atStart => exact ⟨rfl, rfl⟩
 case round =>
  obtain ⟨rfl, rfl⟩ := hrel
  have k1 : (0 : Int) < (l.length : Int) := by omega
  obtain ⟨ge, o, us, eq, hec, hkx, hrx⟩ := HL.out.ec hl0
  subst eq
  have hec : EC w ge o us := by simpa using hec
  generalize l[0] = x0 at hrx
  obtain ⟨eop, eint, evk, evi, evs, enm, el⟩ := x0
  obtain ⟨ea, em, rfl, _⟩ := hrx.lits
  have e0 := hec.at0 HW2.out rfl
  have e1 := hec.at_ HW2.out (j := 1) rfl
  have e2 := hec.at_ HW2.out (j := 2) rfl
  have e3 := hec.at_ HW2.out (j := 3) rfl
  have e4 := hec.at_ HW2.out (j := 4) rfl
  have e5 := hec.at_ HW2.out (j := 5) rfl
  have e6 := hec.at_ HW2.out (j := 6) rfl
  clear hrx hec
  go_upto_region 5 with (fail)
  refine name_alloc (K := Code.wp _ _ _ _) fun w3 hB3 hw3 hsz3 => ?_
  have HW3 := Lib.hid (HW2.out.trans (hw3.mono HW2.out.size))
  have HD1 := Lib.hid (HC1.out.below hw3)
  have p3 := hB3.cell 5 rfl
  clear hB3 hw3 hsz3 HC0 HC1 e0 e1 e2 e3 e4 e5 e6 p6
  go_wp2_with fail
  refine (bound_none enm g v1 v2 v3 w3 (by have := HE.out; exact ⟨Nat.lt_of_lt_of_le this.1 HW3.out.size, fun j u hj => this.at_ HW3.out hj⟩)).mono ?_
  rintro e w4 ⟨rfl, hw4⟩
  have HW4 := Lib.hid (HW3.out.trans (hw4.mono HW3.out.size))
  have HE1 := Lib.hid (HD1.out.below hw4)
  clear hw4 HD1 p3
  have r0 := HE1.out.cell 0 rfl
  have r1 := HE1.out.cell 1 rfl
  have r2 := HE1.out.cell 2 rfl
  have r3 := HE1.out.cell 3 rfl
  have r4 := HE1.out.cell 4 rfl
  have r5 := HE1.out.cell 5 rfl
  have r6 := HE1.out.cell 6 rfl
  have f0 := HE1.out.free 0
  have f1 := HE1.out.free 1
  have f2 := HE1.out.free 2
  have f3 := HE1.out.free 3
  have f4 := HE1.out.free 4
  have f5 := HE1.out.free 5
  have f6 := HE1.out.free 6
  go_wp2_with fail
  refine name_set7 (K := fun w' => bodyPost _ _ _ _ _ w') HE1.out fun w5 hM => ?_
  exact bodyPost_ret (results_cell_tmp Tryz.results116 _ _ (w.heap.size + 1) _ _ (0, 0) _ _ rfl rfl hM.blk Tryz.underlying31 (by kernel_rfl)) rfl ⟨rfl, HW4.out.trans (hM.low.mono (by omega))⟩
end Go.Proofs.YtnlimlboedohgaaGreatDoor.Px

/-
  The columns' indices by their names, in a map of the call's own: what it reads as.
-/
namespace Go.Proofs.YtnlimlboedohgaaGreatDoor.Px
open Go Go.RowKit Go.Proofs.YtnlimlboedohgaaGreatDoor.Ps
set_option linter.unusedVariables false
set_option linter.unusedSimpArgs false
theorem keyS : Go.Maps.Keyed Tryz.prog 9 := Go.Maps.Keyed.of_law (Go.WideMaps.string_law Tryz.underlying9)
/-- what the map of the first k columns reads as -/
def colsD (L : List Col) : Nat → DataW Unit
 | 0 => .map []
 | k + 1 => (colsD L k).put (.string ((L.map (·.nm)).getD k [])) (.slice (Go.ChangeShapes.lits .i64 [(k : Int)]) [])
theorem colsD_map (L : List Col) : ∀ k, Go.Maps.IsMap (colsD L k)
 | 0 => Go.Maps.isMap_empty
 | k + 1 => (colsD_map L k).put _ _
def Distinct (L : List Col) : Prop := ∀ i j (hi : i < L.length) (hj : j < L.length), L[i].nm = L[j].nm → i = j
theorem colsD_succ {L : List Col} {k : Nat} (hk : k < L.length) : colsD L (k + 1) = (colsD L k).put (.string L[k].nm) (.slice (Go.ChangeShapes.lits .i64 [(k : Int)]) []) := by
 rw [colsD, List.getD_eq_getElem?_getD, List.getElem?_map, List.getElem?_eq_getElem hk]
 rfl
theorem colsD_no {L : List Col} {s : S} : ∀ k, k ≤ L.length → (∀ i (hi : i < L.length), i < k → L[i].nm ≠ s) → ∀ z, (colsD L k).atKey (.string s) z = z
 | 0, _, _, _ => rfl
 | k + 1, hk, h, z => by
  rw [colsD_succ (by omega), Go.Maps.atKey_put_other (by intro e; injection e with e; exact h k (by omega) (by omega) e.symm)]
  exact colsD_no k (by omega) (fun i hi hik => h i hi (by omega)) z
theorem colsD_yes {L : List Col} (hd : Distinct L) {i : Nat} (hi : i < L.length) : ∀ k, k ≤ L.length → i < k → ∀ z, (colsD L k).atKey (.string L[i].nm) z = .slice (Go.ChangeShapes.lits .i64 [(i : Int)]) []
 | 0, _, h, _ => absurd h (by omega)
 | k + 1, hk, h, z => by
  rw [colsD_succ (by omega)]
  by_cases hik : i = k
  ·subst hik
   exact Go.Maps.atKey_put_same (colsD_map L i) (by simp [Go.WideAt.IsKeyLit]) _ _
  ·rw [Go.Maps.atKey_put_other (by intro e; injection e with e; exact hik (hd i k hi (by omega) e))]
   exact colsD_yes hd hi k (by omega) (by omega) z
abbrev Gps (w : World) (base b n : Nat) (D : DataW Unit) : Prop := w.ownsGroups Tryz.prog 9 base 3 .i64 b n D
theorem Gps.made {w : World} {base b : Nat} (h : w.heap[b]? = some (.map #[] 0)) (hb : b < base) : Gps w base b 0 (.map []) :=
 ⟨#[], 0, h, ⟨by simp, Go.MapKept.stamped_empty 0, by simp⟩, Nat.le_refl _, rfl, hb, by simp, by simp⟩
theorem grown_below {w w' : World} (h : Below w.heap.size w w') (row : Option Nat) : w.grownBy w' row := ⟨h.os, h.tape, h.output, h.size, fun i hi _ => h.block i hi⟩
theorem Gps.below {w w' : World} {base b n : Nat} {D : DataW Unit} (h : Gps w base b n D) (hb : Below w.heap.size w w') : Gps w' base b n D :=
 h.kept (grown_below hb none) (by simp) (fun _ _ _ x _ => by cases x.val.ownBlock <;> simp)
theorem Shuns.below {w w' : World} {b : Nat} {No : Nat → Prop} {base n : Nat} {D : DataW Unit} (h : w.Shuns b No) (hg : Gps w base b n D) (hb : Below w.heap.size w w') : w'.Shuns b No :=
 h.kept (grown_below hb none) (by obtain ⟨es, clock, hb, _⟩ := hg; exact (Array.getElem?_eq_some_iff.1 hb).1) (by simp)
theorem zeroSlice (w : World) : (zeroValue 23).run Tryz.prog w = .ok (.slice none 0 0) w := by kernel_rfl
/-- at a key that is not there: nil, in this world and in those that differ in other blocks -/
theorem Gps.fresh {w : World} {base b n : Nat} {D : DataW Unit} {s : S} (h : Gps w base b n D) (hn : n < maxLen) (hs : s.length ≤ maxLen) (hD : D.atKey (.string s) .nil = .nil) :
  (Instr.lookup 155 (.map (some b)) (.string ⟨s.toArray⟩) false).run Tryz.prog w = .ok (.slice none 0 0) w ∧ w.groupBack Tryz.prog 155 9 base 3 .i64 b n D (.string ⟨s.toArray⟩) (.string s) (.slice none 0 0) := by
 obtain ⟨v, zs, hrun, hat, hoi, _, hback⟩ := h.at (key := .string ⟨s.toArray⟩) (kl := .string s) keyS Tryz.underlying155 (zeroSlice w) hn (by have := Go.WideMaps.keyOf_string_mk Tryz.underlying9 (s := ⟨s.toArray⟩) (by simpa [ByteArray.size] using hs); simpa using this)
 rw [hD] at hat
 have hv : v = .slice none 0 0 := by
  rcases hoi.1.2 with ⟨h0, _⟩ | ⟨g, cap, cur, h0, _⟩
  ·exact h0
  ·rw [h0] at hat
   simp [rowDatum] at hat
 subst hv
 exact ⟨hrun, hback⟩
/-- at a key that is there: its one index -/
theorem Gps.found {w : World} {base b n : Nat} {D : DataW Unit} {s : S} {i : Int} (h : Gps w base b n D) (hn : n < maxLen) (hs : s.length ≤ maxLen) (hD : D.atKey (.string s) .nil = .slice (Go.ChangeShapes.lits .i64 [i]) []) :
  ∃ g c, (Instr.lookup 155 (.map (some b)) (.string ⟨s.toArray⟩) false).run Tryz.prog w = .ok (.slice (some ⟨g, 0, none⟩) 1 c) w ∧ w.cell? ⟨g, 0, none⟩ = some (.int .i64 i) := by
 obtain ⟨v, zs, hrun, hat, hoi, _, _⟩ := h.at (key := .string ⟨s.toArray⟩) (kl := .string s) keyS Tryz.underlying155 (zeroSlice w) hn (by have := Go.WideMaps.keyOf_string_mk Tryz.underlying9 (s := ⟨s.toArray⟩) (by simpa [ByteArray.size] using hs); simpa using this)
 rw [hD] at hat
 rcases hoi.1.2 with ⟨h0, _⟩ | ⟨g, cap, cur, h0, hg, hc, hcap, hm, hsz, ht⟩
 ·subst h0
  have e2 : DataW.slice (Go.ChangeShapes.lits (H := Unit) .i64 [i]) [] = DataW.nil := hat
  cases e2
 ·have hz : zs = [i] := by
   subst h0
   have e1 : Go.ChangeShapes.lits (H := Unit) .i64 [i] = Go.ChangeShapes.lits .i64 zs := by
    have e2 : DataW.slice (Go.ChangeShapes.lits (H := Unit) .i64 [i]) [] = DataW.slice (Go.ChangeShapes.lits .i64 zs) [] := hat
    injection e2
   exact (List.map_inj_right (fun a b hab => by cases hab; rfl)).1 e1.symm
  subst hz
  subst h0
  refine ⟨g, cap, hrun, ?_⟩
  have := hoi.1.cellAt 0 (by simp)
  simpa using this
end Go.Proofs.YtnlimlboedohgaaGreatDoor.Px

/-
  Run equations of lookups and appends; a source's cells: for the program's scope.
-/
namespace Go.Proofs.YtnlimlboedohgaaGreatDoor.Px
open Go Go.RowKit Go.Proofs.YtnlimlboedohgaaGreatDoor.Ps
set_option linter.unusedVariables false
set_option linter.unusedSimpArgs false
theorem exec_lookup {o : Oper} {a : Act} {w : World} {t : TypeId} {m x : Operand} {b : Nat} {key v : Value} (hop : o.op = .lookup t m x false) (hm : a.eval m = .map (some b)) (hx : a.eval x = key) (hr : (Instr.lookup t (.map (some b)) key false).run Tryz.prog w = .ok v w) : (execOp a.eval o).run Tryz.prog w = .ok (.value v) w := by
 simp [execOp, hop, hm, hx, hr, Result.andThen]
theorem exec_append {o : Oper} {a : Act} {w w' : World} {t : TypeId} {s x : Operand} {v u v' : Value} (hop : o.op = .call { callee := .builtin .append, args := #[s, x], argTypes := #[t, t] }) (hs : a.eval s = v) (hx : a.eval x = u) (hr : (Builtin.append_ #[t, t] o.type #[v, u]).run Tryz.prog w = .ok v' w') : (execOp a.eval o).run Tryz.prog w = .ok (.value v') w' := by
 unfold execOp
 simp only [hop, resolve, invoke, builtin, Sem.run_bind, Sem.run_pure, Result.andThen_ok, List.map_toArray, List.map_cons, List.map_nil, hs, hx, hr]
theorem name_allocD {K : World → Prop} {w : World} {cs : List Value} {t : TypeId} (h : ∀ w', Blk w' w.heap.size cs t → Below w.heap.size w w' → w'.heap.size = w.heap.size + 1 → K w') : K (w.alloc (.cells cs.toArray t)).drew :=
 h _ (Blk.new w cs t) (below_drew ((Below.refl _ _).alloc (Nat.le_refl _) _)) (by simp [World.drew])
/-- the cells of the one source of a scope of a table -/
def sourceC (tn tn2 : S) (a1 a2 a3 a4 : Option Addr) (n1 m1 n2 m2 n3 m3 n4 m4 : Nat) : List Value := [.string ⟨tn.toArray⟩, .string ⟨tn2.toArray⟩, .slice a1 n1 m1, .slice a2 n2 m2, .slice a3 n3 m3, .slice a4 n4 m4, .int .i64 0, .int .i64 (-1)]
theorem infoSource : (Tryz.prog.info? 201).map (fun i => (i.zero, i.size, i.bytes)) = some (some (.agg #[.string ⟨#[]⟩, .string ⟨#[]⟩, .slice none 0 0, .slice none 0 0, .slice none 0 0, .slice none 0 0, .int .i64 0, .int .i64 0]), 8, 144) := by kernel_rfl
end Go.Proofs.YtnlimlboedohgaaGreatDoor.Px

/-
  The source of a name, a column: the program's. (Printed by gen_bpfind.py.)
-/
namespace Go.Proofs.YtnlimlboedohgaaGreatDoor.Px
open Go Go.RowKit Go.Proofs.YtnlimlboedohgaaGreatDoor.Ps
set_option linter.unusedVariables false
set_option linter.unusedSimpArgs false
theorem name_set8 {w : World} {g : Nat} {u0 u1 u2 u3 u4 u5 u6 u7 c0 c1 c2 c3 c4 c5 c6 c7 : Value} {t : TypeId} {K : World → Prop} (hb : Blk w g [c0, c1, c2, c3, c4, c5, c6, c7] t) (h : ∀ w', Wr w g [u0, u1, u2, u3, u4, u5, u6, u7] t w' → K w') :
  K ((((((((w.setCell ⟨g, 0, none⟩ u0).setCell ⟨g, 1, none⟩ u1).setCell ⟨g, 2, none⟩ u2).setCell ⟨g, 3, none⟩ u3).setCell ⟨g, 4, none⟩ u4).setCell ⟨g, 5, none⟩ u5).setCell ⟨g, 6, none⟩ u6).setCell ⟨g, 7, none⟩ u7) :=
 h _ ((((((((Wr.start hb).set 0 u0).set 1 u1).set 2 u2).set 3 u3).set 4 u4).set 5 u5 |>.set 6 u6).set 7 u7)
theorem column_call (i : Int) (w : World) : Calls Tryz.prog 35 #[.int .i64 i] w (Ret w (.agg #[.int .i64 2, .int .i64 i, .int .i64 0, .int .i64 0, .string ⟨#[]⟩, .string ⟨#[]⟩, .slice none 0 0])) := by
 go_enter Tryz.func35, Tryz.ntmps35
 go_wp2_with fail
 exact bodyPost_ret (results_cell_row Tryz.results35 _ _ w.heap.size _ _ (0, 0) _ rfl (heap_alloc_new w _) Tryz.underlying31 rfl (by kernel_rfl)) rfl ⟨rfl, below1 w _⟩
theorem find_yes (s tn tn2 : S) (gs gp c : Nat) (v b : Value) (a1 a2 a3 a4 : Option Addr) (n1 m1 n2 m2 n3 m3 n4 m4 : Nat) (w : World) (ht : tn = s) (he : EC w gs 0 [.int .i64 0, .slice (some ⟨gp, 0, none⟩) 1 c, v, b]) (hs : EC w gp 0 (sourceC tn tn2 a1 a2 a3 a4 n1 m1 n2 m2 n3 m3 n4 m4)) :
  Calls Tryz.prog 202 #[.pointer (some ⟨gs, 0, none⟩), .string ⟨s.toArray⟩] w (Ret w (.tuple #[.agg #[.string ⟨tn.toArray⟩, .string ⟨tn2.toArray⟩, .slice a1 n1 m1, .slice a2 n2 m2, .slice a3 n3 m3, .slice a4 n4 m4, .int .i64 0, .int .i64 (-1)], .bool true])) := by
 have HE := Lib.hid he
 have HS := Lib.hid hs
 subst ht
 clear he hs
 go_enter Tryz.func202, Tryz.ntmps202
 go_upto_region 1 with (fail)
 refine name_alloc (K := Code.wp _ _ _ _) fun w1 hB0 hw1 hz1 => ?_
 have HB0 := Lib.hid hB0
 have HW1 := Lib.hid hw1
 clear hB0 hw1 hz1
 have p1 := HE.out.at_ HW1.out (j := 1) rfl
 go_upto_region 2 with (fail)
 go_loopw [13] (fun i wr => i = .int .i64 0 ∧ wr = w1) (fun _ _ => 0)
 case atStart => exact ⟨rfl, rfl⟩
 case round =>
  obtain ⟨rfl, rfl⟩ := hrel
  clear p1
  have e0 := HS.out.at0 HW1.out rfl
  have e1 := HS.out.at_ HW1.out (j := 1) rfl
  have e2 := HS.out.at_ HW1.out (j := 2) rfl
  have e3 := HS.out.at_ HW1.out (j := 3) rfl
  have e4 := HS.out.at_ HW1.out (j := 4) rfl
  have e5 := HS.out.at_ HW1.out (j := 5) rfl
  have e6 := HS.out.at_ HW1.out (j := 6) rfl
  have e7 := HS.out.at_ HW1.out (j := 7) rfl
  go_upto_region 4 with (fail)
  refine name_alloc (K := Code.wp _ _ _ _) fun w3 hB3 hw3 hsz3 => ?_
  have HB3 := Lib.hid hB3
  have HW3 := Lib.hid (HW1.out.trans (hw3.mono HW1.out.size))
  have HC0 := Lib.hid (HB0.out.below hw3)
  clear hB3 hw3 hsz3 e0 e1 e2 e3 e4 e5 e6 e7
  have z0 := HB3.out.cell 0 rfl
  have z1 := HB3.out.cell 1 rfl
  have z2 := HB3.out.cell 2 rfl
  have z3 := HB3.out.cell 3 rfl
  have z4 := HB3.out.cell 4 rfl
  have z5 := HB3.out.cell 5 rfl
  have z6 := HB3.out.cell 6 rfl
  have z7 := HB3.out.cell 7 rfl
  have r0 := HC0.out.cell 0 rfl
  have r1 := HC0.out.cell 1 rfl
  have r2 := HC0.out.cell 2 rfl
  have r3 := HC0.out.cell 3 rfl
  have r4 := HC0.out.cell 4 rfl
  have r5 := HC0.out.cell 5 rfl
  have r6 := HC0.out.cell 6 rfl
  have r7 := HC0.out.cell 7 rfl
  have f0 := HC0.out.free 0
  have f1 := HC0.out.free 1
  have f2 := HC0.out.free 2
  have f3 := HC0.out.free 3
  have f4 := HC0.out.free 4
  have f5 := HC0.out.free 5
  have f6 := HC0.out.free 6
  have f7 := HC0.out.free 7
  go_wp2_with fail
  refine name_set8 (K := fun w' => bodyPost _ _ _ _ _ w') HC0.out fun w9 hM => ?_
  exact bodyPost_ret (results_cell_tmp Tryz.results202 _ _ w.heap.size _ _ (0, 0) _ _ rfl rfl hM.blk Tryz.underlying201 (by kernel_rfl)) rfl ⟨rfl, HW3.out.trans hM.low⟩
theorem find_no (s tn tn2 : S) (gs gp c : Nat) (v b : Value) (a1 a2 a3 a4 : Option Addr) (n1 m1 n2 m2 n3 m3 n4 m4 : Nat) (w : World) (ht : ¬ tn = s) (he : EC w gs 0 [.int .i64 0, .slice (some ⟨gp, 0, none⟩) 1 c, v, b]) (hs : EC w gp 0 (sourceC tn tn2 a1 a2 a3 a4 n1 m1 n2 m2 n3 m3 n4 m4)) :
  Calls Tryz.prog 202 #[.pointer (some ⟨gs, 0, none⟩), .string ⟨s.toArray⟩] w (Ret w (.tuple #[.agg #[.string ⟨#[]⟩, .string ⟨#[]⟩, .slice none 0 0, .slice none 0 0, .slice none 0 0, .slice none 0 0, .int .i64 0, .int .i64 0], .bool false])) := by
 have HE := Lib.hid he
 have HS := Lib.hid hs
 have d3 : (tn == s) = false := by simpa using ht
 clear he hs ht
 go_enter Tryz.func202, Tryz.ntmps202
 go_upto_region 1 with (fail)
 refine name_alloc (K := Code.wp _ _ _ _) fun w1 hB0 hw1 hz1 => ?_
 have HB0 := Lib.hid hB0
 have HW1 := Lib.hid hw1
 clear hB0 hw1 hz1
 have p1 := HE.out.at_ HW1.out (j := 1) rfl
 go_upto_region 2 with (fail)
 go_loopw [13] (fun i wr => (i = .int .i64 0 ∨ i = .int .i64 1) ∧ Below w1.heap.size w1 wr) (fun i _ => 1 - (intOf i).toNat)
 case atStart => exact ⟨.inl rfl, Below.refl _ _⟩
 case round =>
  obtain ⟨hi, hb⟩ := hrel
  have HBB := Lib.hid hb
  have HWr := Lib.hid (HW1.out.trans (hb.mono HW1.out.size))
  have HBr := Lib.hid (HB0.out.below hb)
  clear hb p1
  rcases hi with rfl | rfl
  ·skip
   have e0 := HS.out.at0 HWr.out rfl
   have e1 := HS.out.at_ HWr.out (j := 1) rfl
   have e2 := HS.out.at_ HWr.out (j := 2) rfl
   have e3 := HS.out.at_ HWr.out (j := 3) rfl
   have e4 := HS.out.at_ HWr.out (j := 4) rfl
   have e5 := HS.out.at_ HWr.out (j := 5) rfl
   have e6 := HS.out.at_ HWr.out (j := 6) rfl
   have e7 := HS.out.at_ HWr.out (j := 7) rfl
   go_upto_region 4 with (fail)
   refine name_alloc (K := Code.wp _ _ _ _) fun w3 hB3 hw3 hsz3 => ?_
   have HB3 := Lib.hid hB3
   have HW3 := Lib.hid (HWr.out.trans (hw3.mono HWr.out.size))
   have HBB3 := Lib.hid (HBB.out.trans (hw3.mono HBB.out.size))
   clear hB3 hw3 hsz3 e0 e1 e2 e3 e4 e5 e6 e7
   have z0 := HB3.out.cell 0 rfl
   go_wp2_with fail
   go_roundw
   case rel => exact ⟨.inr (by first | rfl | go_num), HBB3.out⟩
   case measure => simp [intOf]
  ·skip
   have r0 := HBr.out.cell 0 rfl
   have r1 := HBr.out.cell 1 rfl
   have r2 := HBr.out.cell 2 rfl
   have r3 := HBr.out.cell 3 rfl
   have r4 := HBr.out.cell 4 rfl
   have r5 := HBr.out.cell 5 rfl
   have r6 := HBr.out.cell 6 rfl
   have r7 := HBr.out.cell 7 rfl
   have f0 := HBr.out.free 0
   have f1 := HBr.out.free 1
   have f2 := HBr.out.free 2
   have f3 := HBr.out.free 3
   have f4 := HBr.out.free 4
   have f5 := HBr.out.free 5
   have f6 := HBr.out.free 6
   have f7 := HBr.out.free 7
   go_wp2_with fail
   refine name_set8 (K := fun w' => bodyPost _ _ _ _ _ w') HBr.out fun w9 hM => ?_
   exact bodyPost_ret (results_cell_tmp Tryz.results202 _ _ w.heap.size _ _ (0, 0) _ _ rfl rfl hM.blk Tryz.underlying201 (by kernel_rfl)) rfl ⟨rfl, HWr.out.trans hM.low⟩
end Go.Proofs.YtnlimlboedohgaaGreatDoor.Px

/-
  A source added to an empty scope: the program's. (Printed by gen_bpadd.py.)
-/
namespace Go.Proofs.YtnlimlboedohgaaGreatDoor.Px
open Go Go.RowKit Go.Proofs.YtnlimlboedohgaaGreatDoor.Ps
set_option linter.unusedVariables false
set_option linter.unusedSimpArgs false
def AddPost (L : List Col) (tn tn2 : S) (a a2 a3 a4 : Option Addr) (m n2 m2 n3 m3 n4 m4 gs b : Nat) (w : World) (e : Ending) (w' : World) : Prop :=
 ∃ gp c v B, e = .returned (.tuple #[]) ∧ Blk w' gs [.int .i64 0, .slice (some ⟨gp, 0, none⟩) 1 c, v, .map (some b)] 158 ∧ w.heap.size ≤ gp ∧ EC w' gp 0 (sourceC tn tn2 a a2 a3 a4 L.length m n2 m2 n3 m3 n4 m4) ∧ OwnI B v (kindsC L) w' ∧ Gps w' B b L.length (colsD L L.length) ∧ Below b w w'
theorem add_call (L : List Col) (hd : Distinct L) (tn tn2 : S) (a a2 a3 a4 : Option Addr) (m n2 m2 n3 m3 n4 m4 gs b : Nat) (w0 w : World) (hn : L.length ≤ 1000000) (hl : CL w0 L (.slice a L.length m)) (h0 : w0.heap.size ≤ b) (hw0 : Below w0.heap.size w0 w) (hbg : b < gs) (hS : Blk w gs [.int .i64 0, .slice none 0 0, .slice none 0 0, .map (some b)] 158) (hM : w.heap[b]? = some (.map #[] 0)) (hnm : ∀ c ∈ L, c.nm.length ≤ maxLen) :
  Calls Tryz.prog 65 #[.pointer (some ⟨gs, 0, none⟩), .string ⟨tn.toArray⟩, .agg #[.string ⟨tn2.toArray⟩, .slice a L.length m, .slice a2 n2 m2, .slice a3 n3 m3, .slice a4 n4 m4]] w (AddPost L tn tn2 a a2 a3 a4 m n2 m2 n3 m3 n4 m4 gs b w) := by
 obtain ⟨i0, hi0, hz0, hz1, hz2⟩ := info_parts infoInt
 obtain ⟨ip, hip, hp0, hp1, hp2⟩ := info_parts infoSource
 have HL := Lib.hid hl
 have HW0 := Lib.hid hw0
 have HSC := Lib.hid hS
 have HMP := Lib.hid hM
 have HNM := Lib.hid hnm
 have hgs : gs < w.heap.size := hS.lt
 clear hl hw0 hS hM hnm
 go_enter Tryz.func65, Tryz.ntmps65
 go_upto_region 1 with (fail)
 refine name_alloc (K := Code.wp _ _ _ _) fun w1 hB0 hw1 hz1' => ?_
 have HB0 := Lib.hid hB0
 have HW1 := Lib.hid hw1
 have HSC1 := Lib.hid (HSC.out.below hw1)
 have HZ1 := Lib.hid hz1'
 clear hB0 hw1 hz1'
 refine Gr.region_growE 9 (by kernel_rfl) (by kernel_rfl) (Gr.J2 8 w1.drew (w1.drew.alloc (.cells #[.string ⟨#[]⟩, .string ⟨#[]⟩, .slice none 0 0, .slice none 0 0, .slice none 0 0, .slice none 0 0, .int .i64 0, .int .i64 0] 201))) Gr.J2.start ?_
 simp only [List.take_succ_cons, List.take_zero, List.drop_succ_cons, List.drop_zero]
 have HJ : ∀ (d : Array Bool) (w' : World), Gr.J2 8 w1.drew (w1.drew.alloc (.cells #[.string ⟨#[]⟩, .string ⟨#[]⟩, .slice none 0 0, .slice none 0 0, .slice none 0 0, .slice none 0 0, .int .i64 0, .int .i64 0] 201)) d w' → Below w1.heap.size w1 w' := fun d w' h => h.below (below_drew (Below.refl _ _)) ((below_drew (Below.refl _ _)).alloc (Nat.le_refl _) _)
 refine Gr.lineE_step _ (by go_simp; intro d w' hn hj; go_simp; rw [Gr.grownE_value]; exact ⟨rfl, hj.other (by decide)⟩) ?_
 refine Gr.lineE_norm fun K hK => ?_; go_simp; refine hK _ ?_; clear hK K
 refine Gr.lineE_step _ (by go_simp; intro d w' hn hj; have hb := HJ d w' hj; have q0 := (HB0.out.below hb).cell 0 rfl; have q1 := (HB0.out.below hb).cell 1 rfl; have q2 := (HB0.out.below hb).cell 2 rfl; have q3 := (HB0.out.below hb).cell 3 rfl; have q4 := (HB0.out.below hb).cell 4 rfl; go_simp; rw [Gr.grownE_value]; exact ⟨rfl, hj.other (by decide)⟩) ?_
 refine Gr.lineE_norm fun K hK => ?_; go_simp; refine hK _ ?_; clear hK K
 refine Gr.lineE_step _ (by go_simp; intro d w' hn hj; go_simp; rw [Gr.grownE_value]; exact ⟨rfl, hj.other (by decide)⟩) ?_
 refine Gr.lineE_norm fun K hK => ?_; go_simp; refine hK _ ?_; clear hK K
 refine Gr.lineE_step _ (by go_simp; intro d w' hn hj; go_simp; rw [Gr.grownE_value]; exact ⟨rfl, hj.other (by decide)⟩) ?_
 refine Gr.lineE_norm fun K hK => ?_; go_simp; refine hK _ ?_; clear hK K
 refine Gr.lineE_step _ (by go_simp; intro d w' hn hj; go_simp; rw [Gr.grownE_value]; exact ⟨rfl, hj.other (by decide)⟩) ?_
 refine Gr.lineE_norm fun K hK => ?_; go_simp; refine hK _ ?_; clear hK K
 refine Gr.lineE_step _ (by go_simp; intro d w' hn hj; have hb := HJ d w' hj; have s2 := (HSC1.out.below hb).cell 2 rfl; go_simp; rw [Gr.grownE_value]; exact ⟨rfl, hj.other (by decide)⟩) ?_
 refine Gr.lineE_norm fun K hK => ?_; go_simp; refine hK _ ?_; clear hK K
 refine Gr.lineE_step _ (by go_simp; intro d w' hn hj; go_simp; rw [Gr.grownE_value]; exact ⟨rfl, hj.other (by decide)⟩) ?_
 refine Gr.lineE_norm fun K hK => ?_; go_simp; refine hK _ ?_; clear hK K
 refine Gr.lineE_step _ (by go_simp; intro d w' hn hj; go_simp; rw [Gr.grownE_value]; exact ⟨rfl, hj.other (by decide)⟩) ?_
 refine Gr.lineE_norm fun K hK => ?_; go_simp; refine hK _ ?_; clear hK K
 refine Gr.lineE_step _ (by go_simp; intro d w' hn hj; obtain ⟨rfl, hj2⟩ := hj.at_ hn; go_simp; rw [Gr.grownE_value]; exact ⟨rfl, hj2⟩) ?_
 refine Gr.lineE_norm fun K hK => ?_; go_simp; refine hK _ ?_; clear hK K
 refine Gr.lineE_nil fun d w' hdn hj => ?_
 obtain rfl := hj.done hdn (by decide)
 clear hj hdn HJ
 go_upto_region 2 with (fail)
 refine name_allocD (K := Code.wp _ _ _ _) fun w2 hB1 hw2 hsz2 => ?_
 have hb12 := hw2
 have HB1 : Hid (Blk w2 w1.heap.size (sourceC tn tn2 a a2 a3 a4 L.length m n2 m2 n3 m3 n4 m4) 201) := Lib.hid hB1
 have HC0 := Lib.hid (HB0.out.below hb12)
 have HSC2 := Lib.hid (HSC1.out.below hb12)
 have HW2 := Lib.hid (HW1.out.trans (hb12.mono HW1.out.size))
 have HMP2 : Hid (w2.heap[b]? = some (.map #[] 0)) := Lib.hid ((HW2.out.block b (by omega)).trans HMP.out)
 have HZ2 : Hid (w1.heap.size < w2.heap.size ∧ w.heap.size < w2.heap.size) := Lib.hid (by have := HB1.out.lt; have := HZ1.out; omega)
 clear hB1 hw2 hsz2 hb12 HSC1 HB0 d
 have q0 := HC0.out.cell 0 rfl
 have q1 := HC0.out.cell 1 rfl
 have q2 := HC0.out.cell 2 rfl
 have q3 := HC0.out.cell 3 rfl
 have q4 := HC0.out.cell 4 rfl
 go_upto_region 3 with (fail)
 have HG0 : Hid (Gps w2 w2.heap.size b 0 (colsD L 0)) := Lib.hid (Gps.made HMP2.out (by have := HZ2.out; omega))
 have HSH0 : Hid (w2.Shuns b fun g => (Value.slice none 0 0).ownBlock = some g) := Lib.hid (fun es clock hb x hx => by rw [HMP2.out] at hb; cases hb; simp at hx)
 go_loopw [20] (fun i wr => ∃ (k : Nat) (kv : Value), k ≤ L.length ∧ i = .int .i64 (k : Int) ∧ Blk wr gs [.int .i64 0, .slice none 0 0, kv, .map (some b)] 158 ∧ OwnI w2.heap.size kv (kindsC (L.take k)) wr ∧ Gps wr w2.heap.size b k (colsD L k) ∧ (wr.Shuns b fun g => kv.ownBlock = some g) ∧ Below b w2 wr ∧ (∀ j, gs < j → j < w2.heap.size → wr.heap[j]? = w2.heap[j]?)) (fun i _ => L.length - (intOf i).toNat)
 case atStart => exact ⟨0, .slice none 0 0, Nat.zero_le _, rfl, HSC2.out, OwnI.nil _ _, HG0.out, HSH0.out, Below.refl _ _, fun _ _ _ => rfl⟩
 case round =>
  obtain ⟨k, kv, hk, rfl, hsc, hki, hgp, hsh, hb, hfar⟩ := hrel
  have HSC3 := Lib.hid hsc
  have HKI := Lib.hid hki
  have HGP := Lib.hid hgp
  have HSH := Lib.hid hsh
  have HBB := Lib.hid hb
  have HFAR := Lib.hid hfar
  have HSZ := Lib.hid hb.size
  have HWr : Hid (Below w0.heap.size w0 wr) := Lib.hid (HW0.out.trans ((HW2.out.mono HW0.out.size).trans (hb.mono h0)))
  clear hsc hki hgp hsh hb hfar q0 q1 q2 q3 q4
  by_cases hlt : k < L.length
  ·have k1 : (k : Int) < (L.length : Int) := by omega
   have k0 : (0 : Int) ≤ (k : Int) := by omega
   obtain ⟨g, o, eq, hx, hec⟩ := HL.out.at_ hlt
   subst eq
   have c0 := hec.at0 HWr.out rfl
   have c1 := hec.at_ HWr.out (j := 1) rfl
   have c2 := hec.at_ HWr.out (j := 2) rfl
   have HNK := Lib.hid (HNM.out _ (List.getElem_mem hlt))
   have HCD := Lib.hid (colsD_succ hlt)
   have HFR : Hid ((colsD L k).atKey (.string L[k].nm) .nil = .nil) := Lib.hid (colsD_no k hk (fun i hi hik e => absurd (hd i k hi hlt e) (by omega)) _)
   have HKC := Lib.hid (kindsC_take hlt)
   have HKL : Hid ((kindsC (L.take k)).length = k) := Lib.hid (by rw [kindsC_len, List.length_take]; omega)
   clear hec
   generalize L[k].nm = nm at c0 HNK HCD HFR
   generalize L[k].kind = kd at c1 HKC
   generalize L[k].nul = nl at c2
   generalize kindsC (L.take k) = ks at HKI HKC HKL
   go_upto_region 5 with (fail)
   refine name_alloc (K := Code.wp _ _ _ _) fun w3 hB3 hw3 hsz3 => ?_
   have HB3 := Lib.hid hB3
   have HSC4 := Lib.hid (HSC3.out.below hw3)
   have HKI4 := Lib.hid (HKI.out.below hw3)
   have HGP4 := Lib.hid (HGP.out.below hw3)
   have HSH4 := Lib.hid (Shuns.below HSH.out HGP.out hw3)
   have HW3 := Lib.hid hw3
   have HKV : Hid (∀ j, kv.ownBlock = some j → j < wr.heap.size) := Lib.hid fun j hj => (HKI.out.lt j hj).2
   clear hB3 hw3 hsz3 c0 c1 c2 HSC3 HKI HGP HSH
   obtain ⟨ka, kc, ekv, hks⟩ := HKI4.out.form
   have HKS := Lib.hid hks
   clear hks
   rw [HKL.out] at ekv
   subst ekv
   have hgd : Below w3.heap.size w3 w3.drew := below_drew (Below.refl _ _)
   have hgf := (HGP4.out.below hgd).fresh (by unfold maxLen; omega) HNK.out HFR.out
   have hG1 : Below w3.heap.size w3 (w3.drew.alloc (.cells #[.int .i64 (k : Int)] 3)) := hgd.alloc (Nat.le_refl _) _
   obtain ⟨v', W2, hrun, hrow, hgrow, hnil, hat⟩ := run_append_own_at (P := Tryz.prog) (w3.drew.alloc (.cells #[.int .i64 (k : Int)] 3)) w2.heap.size 23 23 3 i0 _ 1 8 Tryz.underlying23 hi0 hz0 hz1 hz2 rfl (by omega) (.slice none 0 0) 0 [] (World.ownsRow_nil _ _ _ _) ⟨w3.heap.size, 0, none⟩ 1 1 [.int .i64 (k : Int)] rfl (cell_lit1 w3.drew _ _) (fun u hu => by obtain rfl := List.mem_singleton.1 hu; rfl) (by unfold maxLen; omega) (by omega) (by have := HSZ.out; have := HW3.out.size; simp; omega)
   have hW2 : Below w3.heap.size w3 W2 := hG1.grown hgrow (by simp) (by intro j hj; cases hj)
   have HHB := Lib.hid hgf.2
   have HRUN := Lib.hid hrun
   have HROW := Lib.hid hrow
   have HGROW := Lib.hid hgrow
   have HAT := Lib.hid hat
   have HNIL := Lib.hid hnil
   clear hgf hrun hrow hgrow hnil hat
   refine Gr.region_growE 20 (by kernel_rfl) (by kernel_rfl) (Gr.J3 18 19 w3.drew (w3.drew.alloc (.cells #[.int .i64 (k : Int)] 3)) W2) Gr.J3.start ?_
   simp only [List.take_succ_cons, List.take_zero, List.drop_succ_cons, List.drop_zero]
   have HJ : ∀ (d : Array Bool) (w' : World), Gr.J3 18 19 w3.drew (w3.drew.alloc (.cells #[.int .i64 (k : Int)] 3)) W2 d w' → Below w3.heap.size w3 w' := fun d w' h => h.below hgd hG1 hW2
   refine Gr.lineE_step _ (by go_simp; intro d w' hn hj; go_simp; rw [Gr.grownE_value]; exact ⟨rfl, hj.other (by decide) (by decide)⟩) ?_
   refine Gr.lineE_norm fun K hK => ?_; go_simp; refine hK _ ?_; clear hK K
   refine Gr.lineE_step _ (by go_simp; intro d w' hn hj; go_simp; rw [Gr.grownE_value]; exact ⟨rfl, hj.other (by decide) (by decide)⟩) ?_
   refine Gr.lineE_norm fun K hK => ?_; go_simp; refine hK _ ?_; clear hK K
   refine Gr.lineE_step _ (by go_simp; intro d w' hn hj; go_simp; rw [Gr.grownE_value]; exact ⟨rfl, hj.other (by decide) (by decide)⟩) ?_
   refine Gr.lineE_norm fun K hK => ?_; go_simp; refine hK _ ?_; clear hK K
   refine Gr.lineE_step _ (by go_simp; intro d w' hn hj; have hb := HJ d w' hj; have s3 := (HSC4.out.below hb).cell 3 rfl; go_simp; rw [Gr.grownE_value]; exact ⟨rfl, hj.other (by decide) (by decide)⟩) ?_
   refine Gr.lineE_norm fun K hK => ?_; go_simp; refine hK _ ?_; clear hK K
   refine Gr.lineE_step _ (by go_simp; intro d w' hn hj; go_simp; rw [Gr.grownE_value]; exact ⟨rfl, hj.other (by decide) (by decide)⟩) ?_
   refine Gr.lineE_norm fun K hK => ?_; go_simp; refine hK _ ?_; clear hK K
   refine Gr.lineE_step _ (by go_simp; intro d w' hn hj; have hb := HJ d w' hj; have z0 := (HB3.out.below hb).cell 0 rfl; go_simp; rw [Gr.grownE_value]; exact ⟨rfl, hj.other (by decide) (by decide)⟩) ?_
   refine Gr.lineE_norm fun K hK => ?_; go_simp; refine hK _ ?_; clear hK K
   refine Gr.lineE_step _ (by go_simp; intro d w' hn hj; go_simp; rw [Gr.grownE_value]; exact ⟨rfl, hj.other (by decide) (by decide)⟩) ?_
   refine Gr.lineE_norm fun K hK => ?_; go_simp; refine hK _ ?_; clear hK K
   refine Gr.lineE_step _ (by go_simp; intro d w' hn hj; go_simp; rw [Gr.grownE_value]; exact ⟨rfl, hj.other (by decide) (by decide)⟩) ?_
   refine Gr.lineE_norm fun K hK => ?_; go_simp; refine hK _ ?_; clear hK K
   refine Gr.lineE_step _ (by go_simp; intro d w' hn hj; go_simp; rw [Gr.grownE_value]; exact ⟨rfl, hj.other (by decide) (by decide)⟩) ?_
   refine Gr.lineE_norm fun K hK => ?_; go_simp; refine hK _ ?_; clear hK K
   refine Gr.lineE_step _ (by go_simp; intro d w' hn hj; have hb := HJ d w' hj; have s3 := (HSC4.out.below hb).cell 3 rfl; go_simp; rw [Gr.grownE_value]; exact ⟨rfl, hj.other (by decide) (by decide)⟩) ?_
   refine Gr.lineE_norm fun K hK => ?_; go_simp; refine hK _ ?_; clear hK K
   refine Gr.lineE_step _ (by go_simp; intro d w' hn hj; go_simp; rw [Gr.grownE_value]; exact ⟨rfl, hj.other (by decide) (by decide)⟩) ?_
   refine Gr.lineE_norm fun K hK => ?_; go_simp; refine hK _ ?_; clear hK K
   refine Gr.lineE_step _ (by go_simp; intro d w' hn hj; have hb := HJ d w' hj; have z0 := (HB3.out.below hb).cell 0 rfl; go_simp; rw [Gr.grownE_value]; exact ⟨rfl, hj.other (by decide) (by decide)⟩) ?_
   refine Gr.lineE_norm fun K hK => ?_; go_simp; refine hK _ ?_; clear hK K
   refine Gr.lineE_step (.slice none 0 0) (by rw [if_pos (by simp [Region.wanted])]; intro d w' hn hj; rw [exec_lookup rfl rfl rfl ((HGP4.out.below (HJ d w' hj)).fresh (by unfold maxLen; omega) HNK.out HFR.out).1, Gr.grownE_value]; exact ⟨rfl, hj.other (by decide) (by decide)⟩) ?_
   refine Gr.lineE_norm fun K hK => ?_; go_simp; refine hK _ ?_; clear hK K
   refine Gr.lineE_step _ (by go_simp; intro d w' hn hj; go_simp; rw [Gr.grownE_value]; exact ⟨rfl, hj.other (by decide) (by decide)⟩) ?_
   refine Gr.lineE_norm fun K hK => ?_; go_simp; refine hK _ ?_; clear hK K
   refine Gr.lineE_step _ (by go_simp; intro d w' hn hj; go_simp; rw [Gr.grownE_value]; exact ⟨rfl, hj.other (by decide) (by decide)⟩) ?_
   refine Gr.lineE_norm fun K hK => ?_; go_simp; refine hK _ ?_; clear hK K
   refine Gr.lineE_step _ (by go_simp; intro d w' hn hj; go_simp; rw [Gr.grownE_value]; exact ⟨rfl, hj.other (by decide) (by decide)⟩) ?_
   refine Gr.lineE_norm fun K hK => ?_; go_simp; refine hK _ ?_; clear hK K
   refine Gr.lineE_step _ (by go_simp; intro d w' hn hj; have hb := HJ d w' hj; have s2 := (HSC4.out.below hb).cell 2 rfl; go_simp; rw [Gr.grownE_value]; exact ⟨rfl, hj.other (by decide) (by decide)⟩) ?_
   refine Gr.lineE_norm fun K hK => ?_; go_simp; refine hK _ ?_; clear hK K
   refine Gr.lineE_step _ (by go_simp; intro d w' hn hj; go_simp; rw [Gr.grownE_value]; exact ⟨rfl, hj.other (by decide) (by decide)⟩) ?_
   refine Gr.lineE_norm fun K hK => ?_; go_simp; refine hK _ ?_; clear hK K
   refine Gr.lineE_step _ (by go_simp; intro d w' hn hj; obtain ⟨rfl, hj2⟩ := hj.atp hn (by decide); go_simp; rw [Gr.grownE_value]; exact ⟨rfl, hj2⟩) ?_
   refine Gr.lineE_norm fun K hK => ?_; go_simp; refine hK _ ?_; clear hK K
   refine Gr.lineE_step v' (by rw [if_pos (by simp [Region.wanted])]; intro d w' hn hj; obtain ⟨rfl, hj2⟩ := hj.atq hn (by decide) (hn.2 ⟨18, .data⟩ (by simp) rfl); rw [exec_append rfl rfl rfl HRUN.out, Gr.grownE_value]; exact ⟨rfl, hj2⟩) ?_
   refine Gr.lineE_norm fun K hK => ?_; go_simp; refine hK _ ?_; clear hK K
   refine Gr.lineE_nil fun d w' hdn hj => ?_
   obtain rfl := hj.done hdn (by decide)
   clear hj hdn HJ d HRUN
   have hW2d : Below w3.drew.heap.size w3.drew w' := ((Below.refl _ _).alloc (Nat.le_refl _) _).grown HGROW.out (by simp) (by intro j hj; cases hj)
   have hkey : Go.keyOf Tryz.prog 9 (.string ⟨nm.toArray⟩) = some (Lit.string nm) := by have := Go.WideMaps.keyOf_string_mk Tryz.underlying9 (s := ⟨nm.toArray⟩) (by simpa [ByteArray.size] using HNK.out); simpa using this
   have hoi : w'.ownsInts w2.heap.size 3 .i64 v' [(k : Int)] := ⟨by simpa using HROW.out, fun z hz => by obtain rfl := List.mem_singleton.1 hz; simp only [Lit.wf, Bool.and_eq_true, decide_eq_true_eq]; exact ⟨by show (-9223372036854775808 : Int) ≤ _; omega, by show _ ≤ (9223372036854775807 : Int); omega⟩⟩
   have hdat := hoi.datum_pos (H := Unit) (by simp)
   refine wpList_mapUpdate_back_shuns (H := Unit) _ rfl (.tmp 27) (.tmp 29) (.tmp 43) 155 rfl (No := fun g => (Value.slice ka k kc).ownBlock = some g) (u := .slice none 0 0) (v' := v') (zs := []) (zs' := [(k : Int)]) keyS Tryz.underlying155 hkey (HGP4.out.below hgd) (by unfold maxLen; omega) (World.ownsInts_nil _ _ _ _) (Shuns.below HSH4.out HGP4.out hgd) (fun g h1 h2 => by have := (HKI4.out.lt g h2).2; rcases HAT.out with h3 | h3 <;> rw [h3] at h1 <;> cases h1; simp at this; omega) HHB.out rfl rfl rfl (grown_below hW2d _) hoi (by simp) (by rcases HAT.out with h3 | h3; exact .inl h3; exact .inr ⟨_, h3, by simp⟩) ?_
   intro w4 hG4 hg4 hSh4
   rw [hdat] at hG4
   have HGP5 : Hid (Gps w4 w2.heap.size b (k + 1) (colsD L (k + 1))) := Lib.hid (by rw [HCD.out]; exact hG4)
   have HSH5 := Lib.hid hSh4
   have hb34 : Below b w3 w4 := (hW2.mono (by have := HZ2.out; have := HSZ.out; have := HW3.out.size; omega)).grown hg4 (by have := HZ2.out; have := HSZ.out; have := HW3.out.size; have := hW2.size; omega) (by intro j hj; cases hj; exact Nat.le_refl _)
   have hblk : ∀ j, j < w3.heap.size → j ≠ b → w4.heap[j]? = w3.heap[j]? := fun j h1 h2 => (hg4.block j (Nat.lt_of_lt_of_le h1 hW2.size) (by simpa using h2)).trans (hW2.block j h1)
   have HSC5 : Hid (Blk w4 gs [.int .i64 0, .slice none 0 0, .slice ka k kc, .map (some b)] 158) := Lib.hid ((hblk gs HSC4.out.lt (by omega)).trans HSC4.out)
   have HB5 : Hid (Blk w4 wr.heap.size [.string ⟨nm.toArray⟩, .int .i64 kd, .bool nl] 89) := Lib.hid ((hblk _ HB3.out.lt (by have := HZ2.out; have := HSZ.out; omega)).trans HB3.out)
   have HKI5 : Hid (OwnI w2.heap.size (.slice ka k kc) ks w4) := Lib.hid (World.ownsRow.kept (HKI4.out.below hW2) hg4 (by cases hx : (Value.slice ka k kc).ownBlock with | none => exact .inl rfl | some j => exact .inr (by have := HZ2.out; have := (HKI4.out.lt j hx).1; intro e; injection e with e; omega)))
   have HB34 := Lib.hid hb34
   have HBK := Lib.hid hblk
   have HS4 : Hid (w2.heap.size ≤ w4.heap.size) := Lib.hid (by have := HSZ.out; have := HW3.out.size; have := hb34.size; omega)
   clear hG4 hg4 hSh4 hdat hoi hkey hW2d hb34 hblk hW2 hG1 hgd HROW HGROW HAT HNIL HHB HGP4 HSH4 HSC4 HKI4 HB3 HFR HCD
   go_upto_region 6 with (fail)
   have hgd : Below w4.heap.size w4 w4.drew := below_drew (Below.refl _ _)
   have hG1 : Below w4.heap.size w4 (w4.drew.alloc (.cells #[.int .i64 kd] 3)) := hgd.alloc (Nat.le_refl _) _
   obtain ⟨v6, V2, hrun, hrow, hgrow, hnil, hat⟩ := run_append_own_at (P := Tryz.prog) (w4.drew.alloc (.cells #[.int .i64 kd] 3)) w2.heap.size 23 23 3 i0 _ 1 8 Tryz.underlying23 hi0 hz0 hz1 hz2 rfl (by omega) (.slice ka k kc) ks.length (ks.map intV) (HKI5.out.below hG1) ⟨w4.heap.size, 0, none⟩ 1 1 [.int .i64 kd] rfl (cell_lit1 w4.drew _ _) (fun u hu => by obtain rfl := List.mem_singleton.1 hu; rfl) (by rw [HKL.out]; unfold maxLen; omega) (by rw [HKL.out]; omega) (by have := HS4.out; simp; omega)
   have hV2 : Below w2.heap.size w4 V2 := (hG1.mono HS4.out).grown hgrow (by have := HS4.out; simp; omega) (fun j hj => (HKI5.out.lt j hj).1)
   have HRUN := Lib.hid hrun
   have HOI6 : Hid (OwnI w2.heap.size v6 (ks ++ [kd]) V2) := Lib.hid (OwnI.snoc hrow)
   have hsh1 : (w4.drew.alloc (.cells #[.int .i64 kd] 3)).Shuns b (fun g => (Value.slice ka k kc).ownBlock = some g) := Shuns.below HSH5.out HGP5.out hG1
   have hgp1 := HGP5.out.below hG1
   have hne : some b ≠ (Value.slice ka k kc).ownBlock := fun e => by have := (HKI5.out.lt b e.symm).1; have := HZ2.out; omega
   have HGP6 : Hid (Gps V2 w2.heap.size b (k + 1) (colsD L (k + 1))) := Lib.hid (World.ownsGroups.kept hgp1 hgrow hne (hsh1.rowsOff fun j hj => hj))
   have HSH6 : Hid (V2.Shuns b fun g => v6.ownBlock = some g) := Lib.hid ((hsh1.reno (No' := fun g => v6.ownBlock = some g) hgp1 (fun g h1 => by rcases hat with h2 | h2; exact .inl (h2 ▸ h1); (rw [h2] at h1; cases h1; exact .inr (by simp)))).kept hgrow (by have := HS4.out; have := HZ2.out; simp; omega) hne)
   have HSC6 : Hid (Blk V2 gs [.int .i64 0, .slice none 0 0, .slice ka k kc, .map (some b)] 158) := Lib.hid ((hV2.block gs (by have := HZ2.out; omega)).trans HSC5.out)
   have hV2c : Below w4.heap.size w4 V2 → True := fun _ => trivial
   clear hrun hrow hnil hat hsh1 hgp1 hne hV2c HGP5 HSH5
   refine Gr.region_growE 9 (by kernel_rfl) (by kernel_rfl) (Gr.J3 7 8 w4.drew (w4.drew.alloc (.cells #[.int .i64 kd] 3)) V2) Gr.J3.start ?_
   simp only [List.take_succ_cons, List.take_zero, List.drop_succ_cons, List.drop_zero]
   have HJ : ∀ (d : Array Bool) (w' : World), Gr.J3 7 8 w4.drew (w4.drew.alloc (.cells #[.int .i64 kd] 3)) V2 d w' → Below w2.heap.size w4 w' := fun d w' h => h.below (hgd.mono HS4.out) (hG1.mono HS4.out) hV2
   have HJC : ∀ (d : Array Bool) (w' : World), Gr.J3 7 8 w4.drew (w4.drew.alloc (.cells #[.int .i64 kd] 3)) V2 d w' → Blk w' wr.heap.size [.string ⟨nm.toArray⟩, .int .i64 kd, .bool nl] 89 := fun d w' h => by
    have h := h.2
    split at h
    ·subst h; exact (hgrow.block _ (by have := HB5.out.lt; simp; omega) (fun e => by have := HKV.out _ e.symm; omega)).trans (HB5.out.below hG1)
    ·split at h <;> subst h
     ·exact HB5.out.below hG1
     ·exact HB5.out.below hgd
   refine Gr.lineE_step _ (by go_simp; intro d w' hn hj; go_simp; rw [Gr.grownE_value]; exact ⟨rfl, hj.other (by decide) (by decide)⟩) ?_
   refine Gr.lineE_norm fun K hK => ?_; go_simp; refine hK _ ?_; clear hK K
   refine Gr.lineE_step _ (by go_simp; intro d w' hn hj; go_simp; rw [Gr.grownE_value]; exact ⟨rfl, hj.other (by decide) (by decide)⟩) ?_
   refine Gr.lineE_norm fun K hK => ?_; go_simp; refine hK _ ?_; clear hK K
   refine Gr.lineE_step _ (by go_simp; intro d w' hn hj; go_simp; rw [Gr.grownE_value]; exact ⟨rfl, hj.other (by decide) (by decide)⟩) ?_
   refine Gr.lineE_norm fun K hK => ?_; go_simp; refine hK _ ?_; clear hK K
   refine Gr.lineE_step _ (by go_simp; intro d w' hn hj; go_simp; rw [Gr.grownE_value]; exact ⟨rfl, hj.other (by decide) (by decide)⟩) ?_
   refine Gr.lineE_norm fun K hK => ?_; go_simp; refine hK _ ?_; clear hK K
   refine Gr.lineE_step _ (by go_simp; intro d w' hn hj; have hb := HJ d w' hj; have hbk : Blk w' gs [.int .i64 0, .slice none 0 0, .slice ka k kc, .map (some b)] 158 := (hb.block gs (by have := HZ2.out; omega)).trans HSC5.out; have s2 := hbk.cell 2 rfl; go_simp; rw [Gr.grownE_value]; exact ⟨rfl, hj.other (by decide) (by decide)⟩) ?_
   refine Gr.lineE_norm fun K hK => ?_; go_simp; refine hK _ ?_; clear hK K
   refine Gr.lineE_step _ (by go_simp; intro d w' hn hj; go_simp; rw [Gr.grownE_value]; exact ⟨rfl, hj.other (by decide) (by decide)⟩) ?_
   refine Gr.lineE_norm fun K hK => ?_; go_simp; refine hK _ ?_; clear hK K
   refine Gr.lineE_step _ (by go_simp; intro d w' hn hj; have z1 := (HJC d w' hj).cell 1 rfl; go_simp; rw [Gr.grownE_value]; exact ⟨rfl, hj.other (by decide) (by decide)⟩) ?_
   refine Gr.lineE_norm fun K hK => ?_; go_simp; refine hK _ ?_; clear hK K
   refine Gr.lineE_step _ (by go_simp; intro d w' hn hj; obtain ⟨rfl, hj2⟩ := hj.atp hn (by decide); go_simp; rw [Gr.grownE_value]; exact ⟨rfl, hj2⟩) ?_
   refine Gr.lineE_norm fun K hK => ?_; go_simp; refine hK _ ?_; clear hK K
   refine Gr.lineE_step v6 (by rw [if_pos (by simp [Region.wanted])]; intro d w' hn hj; obtain ⟨rfl, hj2⟩ := hj.atq hn (by decide) (hn.2 ⟨7, .data⟩ (by simp) rfl); rw [exec_append rfl rfl rfl HRUN.out, Gr.grownE_value]; exact ⟨rfl, hj2⟩) ?_
   refine Gr.lineE_norm fun K hK => ?_; go_simp; refine hK _ ?_; clear hK K
   refine Gr.lineE_nil fun d w' hdn hj => ?_
   obtain rfl := hj.done hdn (by decide)
   clear hj hdn HJ HJC d HRUN hgrow hgd hG1
   obtain ⟨a6, c6, e6, _⟩ := HOI6.out.form
   rw [List.length_append, List.length_singleton, HKL.out] at e6
   have HB46 := Lib.hid hV2
   clear hV2
   subst e6
   have s2 := HSC6.out.cell 2 rfl
   have t2 := HSC6.out.free 2
   go_upto_region 7 with (fail)
   refine name_setT (K := Code.wp _ _ _ _) HSC6.out fun w6 hL6 hw6 hs6 ho6 => ?_
   have hgr6 : w'.grownBy w6 (some gs) := ⟨hw6.os, hw6.tape, hw6.output, Nat.le_of_eq hs6.symm, fun j _ hj => ho6 j (by simpa using hj)⟩
   have HF6 := Lib.hid (HGP6.out.kept hgr6 (by simp; omega) (HGP6.out.rowsAbove fun j hj => by cases hj; have := HZ2.out; omega))
   have HH6 := Lib.hid (HSH6.out.kept hgr6 (by have := HS4.out; have := HB46.out.size; have := HZ2.out; omega) (by simp; omega))
   have HO6 : Hid (OwnI w2.heap.size _ (ks ++ [kd]) w6) := Lib.hid (HOI6.out.same fun j hj => ho6 j (by have := HZ2.out; omega))
   have HL6 := Lib.hid hL6
   have HB6 : Hid (Below b w2 w6) := Lib.hid (HBB.out.trans ((HW3.out.mono (by have := HZ2.out; have := HSZ.out; omega)).trans (HB34.out.trans ((HB46.out.mono (by have := HZ2.out; omega)).trans (hw6.mono (by omega))))))
   have HFR6 : Hid (∀ j, gs < j → j < w2.heap.size → w6.heap[j]? = w2.heap[j]?) := Lib.hid fun j h1 h2 => (ho6 j (by omega)).trans ((HB46.out.block j h2).trans ((HBK.out j (by have := HSZ.out; have := HW3.out.size; omega) (by omega)).trans ((HW3.out.block j (by have := HSZ.out; omega)).trans (HFAR.out j h1 h2))))
   clear hgr6 hL6 hw6 hs6 ho6 s2 t2 HSC6 HGP6 HSH6 HOI6 HB46 HB34 HBK HSC5 HB5 HKI5 HS4
   go_wp2_with fail
   go_roundw
   case rel => exact ⟨k + 1, _, by omega, by go_num, HL6.out, by rw [HKC.out]; exact HO6.out, HF6.out, HH6.out, HB6.out, HFR6.out⟩
   case measure => simp [intOf]; omega
  ·obtain rfl : k = L.length := by omega
   have d1 : decide ((L.length : Int) < (L.length : Int)) = false := decide_eq_false (by omega)
   have HKF : Hid (OwnI w2.heap.size kv (kindsC L) wr) := Lib.hid (by have := HKI.out; rwa [List.take_length] at this)
   have HX : Hid (Blk wr w1.heap.size (sourceC tn tn2 a a2 a3 a4 L.length m n2 m2 n3 m3 n4 m4) 201) := Lib.hid ((HFAR.out _ (by have := HW1.out.size; omega) HZ2.out.1).trans HB1.out)
   clear HKI HSH HFAR
   have s0 := HSC3.out.cell 0 rfl
   go_upto_region 14 with (fail)
   have hgd : Below wr.heap.size wr wr.drew := below_drew (Below.refl _ _)
   have hG1 : Below wr.heap.size wr (wr.drew.alloc (.cells #[.string ⟨tn.toArray⟩, .string ⟨tn2.toArray⟩, .slice a L.length m, .slice a2 n2 m2, .slice a3 n3 m3, .slice a4 n4 m4, .int .i64 0, .int .i64 (-1)] 201)) := hgd.alloc (Nat.le_refl _) _
   obtain ⟨v7, V2, hrun, hrow, hgrow, hnil, hat⟩ := run_append_own_at (P := Tryz.prog) (wr.drew.alloc (.cells #[.string ⟨tn.toArray⟩, .string ⟨tn2.toArray⟩, .slice a L.length m, .slice a2 n2 m2, .slice a3 n3 m3, .slice a4 n4 m4, .int .i64 0, .int .i64 (-1)] 201)) w2.heap.size 156 156 201 ip _ 8 144 Tryz.underlying156 hip hp0 hp1 hp2 rfl (by omega) (.slice none 0 0) 0 [] (World.ownsRow_nil _ _ _ _) ⟨wr.heap.size, 0, none⟩ 1 1 [.string ⟨tn.toArray⟩, .string ⟨tn2.toArray⟩, .slice a L.length m, .slice a2 n2 m2, .slice a3 n3 m3, .slice a4 n4 m4, .int .i64 0, .int .i64 (-1)] rfl (fun j u hj => by rw [Addr.add_lit]; exact (Blk.new wr.drew [.string ⟨tn.toArray⟩, .string ⟨tn2.toArray⟩, .slice a L.length m, .slice a2 n2 m2, .slice a3 n3 m3, .slice a4 n4 m4, .int .i64 0, .int .i64 (-1)] 201).cell _ (by simpa using hj)) (fun u hu => by simp at hu; rcases hu with rfl | rfl | rfl | rfl | rfl | rfl | rfl | rfl <;> rfl) (by unfold maxLen; omega) (by omega) (by have := HSZ.out; simp; omega)
   have hV2 : Below wr.heap.size wr V2 := hG1.grown hgrow (by simp) (by intro j hj; cases hj)
   obtain ⟨gp, cp, ev, hgp, hec⟩ := row_one (by simpa using hrow)
   have HRUN := Lib.hid hrun
   have HEC := Lib.hid hec
   clear hrun hrow hgrow hnil hat hec s0
   refine Gr.region_growE 8 (by kernel_rfl) (by kernel_rfl) (Gr.J3 6 7 wr.drew (wr.drew.alloc (.cells #[.string ⟨tn.toArray⟩, .string ⟨tn2.toArray⟩, .slice a L.length m, .slice a2 n2 m2, .slice a3 n3 m3, .slice a4 n4 m4, .int .i64 0, .int .i64 (-1)] 201)) V2) Gr.J3.start ?_
   simp only [List.take_succ_cons, List.take_zero, List.drop_succ_cons, List.drop_zero]
   have HJ : ∀ (d : Array Bool) (w' : World), Gr.J3 6 7 wr.drew (wr.drew.alloc (.cells #[.string ⟨tn.toArray⟩, .string ⟨tn2.toArray⟩, .slice a L.length m, .slice a2 n2 m2, .slice a3 n3 m3, .slice a4 n4 m4, .int .i64 0, .int .i64 (-1)] 201)) V2 d w' → Below wr.heap.size wr w' := fun d w' h => h.below hgd hG1 hV2
   refine Gr.lineE_step _ (by go_simp; intro d w' hn hj; go_simp; rw [Gr.grownE_value]; exact ⟨rfl, hj.other (by decide) (by decide)⟩) ?_
   refine Gr.lineE_norm fun K hK => ?_; go_simp; refine hK _ ?_; clear hK K
   refine Gr.lineE_step _ (by go_simp; intro d w' hn hj; go_simp; rw [Gr.grownE_value]; exact ⟨rfl, hj.other (by decide) (by decide)⟩) ?_
   refine Gr.lineE_norm fun K hK => ?_; go_simp; refine hK _ ?_; clear hK K
   refine Gr.lineE_step _ (by go_simp; intro d w' hn hj; go_simp; rw [Gr.grownE_value]; exact ⟨rfl, hj.other (by decide) (by decide)⟩) ?_
   refine Gr.lineE_norm fun K hK => ?_; go_simp; refine hK _ ?_; clear hK K
   refine Gr.lineE_step _ (by go_simp; intro d w' hn hj; go_simp; rw [Gr.grownE_value]; exact ⟨rfl, hj.other (by decide) (by decide)⟩) ?_
   refine Gr.lineE_norm fun K hK => ?_; go_simp; refine hK _ ?_; clear hK K
   refine Gr.lineE_step _ (by go_simp; intro d w' hn hj; have hb := HJ d w' hj; have s1 := (HSC3.out.below hb).cell 1 rfl; go_simp; rw [Gr.grownE_value]; exact ⟨rfl, hj.other (by decide) (by decide)⟩) ?_
   refine Gr.lineE_norm fun K hK => ?_; go_simp; refine hK _ ?_; clear hK K
   refine Gr.lineE_step _ (by go_simp; intro d w' hn hj; have hb := HJ d w' hj; have x0 := (HX.out.below hb).cell 0 rfl; have x1 := (HX.out.below hb).cell 1 rfl; have x2 := (HX.out.below hb).cell 2 rfl; have x3 := (HX.out.below hb).cell 3 rfl; have x4 := (HX.out.below hb).cell 4 rfl; have x5 := (HX.out.below hb).cell 5 rfl; have x6 := (HX.out.below hb).cell 6 rfl; have x7 := (HX.out.below hb).cell 7 rfl; go_simp; rw [Gr.grownE_value]; exact ⟨rfl, hj.other (by decide) (by decide)⟩) ?_
   refine Gr.lineE_norm fun K hK => ?_; go_simp; refine hK _ ?_; clear hK K
   refine Gr.lineE_step _ (by go_simp; intro d w' hn hj; obtain ⟨rfl, hj2⟩ := hj.atp hn (by decide); go_simp; rw [Gr.grownE_value]; exact ⟨rfl, hj2⟩) ?_
   refine Gr.lineE_norm fun K hK => ?_; go_simp; refine hK _ ?_; clear hK K
   refine Gr.lineE_step v7 (by rw [if_pos (by simp [Region.wanted])]; intro d w' hn hj; obtain ⟨rfl, hj2⟩ := hj.atq hn (by decide) (hn.2 ⟨6, .data⟩ (by simp) rfl); rw [exec_append rfl rfl rfl HRUN.out, Gr.grownE_value]; exact ⟨rfl, hj2⟩) ?_
   refine Gr.lineE_norm fun K hK => ?_; go_simp; refine hK _ ?_; clear hK K
   refine Gr.lineE_nil fun d w' hdn hj => ?_
   obtain rfl := hj.done hdn (by decide)
   have HV2 := Lib.hid hV2
   clear hj hdn HJ d HRUN hgd hG1 hV2
   subst ev
   have HSC7 := Lib.hid (HSC3.out.below HV2.out)
   have s1 := HSC7.out.cell 1 rfl
   have t1 := HSC7.out.free 1
   go_wp2_with fail
   refine name_setT (K := fun w' => bodyPost _ _ _ _ _ w') HSC7.out fun w6 hL6 hw6 hs6 ho6 => ?_
   have hgr6 : w'.grownBy w6 (some gs) := ⟨hw6.os, hw6.tape, hw6.output, Nat.le_of_eq hs6.symm, fun j _ hj => ho6 j (by simpa using hj)⟩
   have HGP7 := HGP.out.below HV2.out
   go_end0
   exact ⟨gp, cp, kv, w2.heap.size, rfl, hL6, (by have := HZ2.out; omega), HEC.out.same (ho6 _ (by have := HZ2.out; omega)) (Nat.le_of_eq hs6.symm), (HKF.out.below HV2.out).same (fun j hj => ho6 j (by have := HZ2.out; omega)), HGP7.kept hgr6 (by simp; omega) (HGP7.rowsAbove fun j hj => by cases hj; have := HZ2.out; omega), (HW2.out.mono (by omega)).trans (HBB.out.trans ((HV2.out.mono (by have := HZ2.out; have := HSZ.out; omega)).trans (hw6.mono (by omega))))⟩
end Go.Proofs.YtnlimlboedohgaaGreatDoor.Px

/-
  The scope of one table: the program's. (Printed by gen_bpscope.py.)
-/
namespace Go.Proofs.YtnlimlboedohgaaGreatDoor.Px
open Go Go.RowKit Go.Proofs.YtnlimlboedohgaaGreatDoor.Ps
set_option linter.unusedVariables false
set_option linter.unusedSimpArgs false
/-- a scope of one table -/
def ScP (w : World) (L : List Col) (tn : S) (a a2 a3 a4 : Option Addr) (m n2 m2 n3 m3 n4 m4 gs : Nat) : Prop :=
 ∃ gp c v B b, EC w gs 0 [.int .i64 0, .slice (some ⟨gp, 0, none⟩) 1 c, v, .map (some b)] ∧ EC w gp 0 (sourceC tn tn a a2 a3 a4 L.length m n2 m2 n3 m3 n4 m4) ∧ OwnI B v (kindsC L) w ∧ Gps w B b L.length (colsD L L.length)
theorem ScP.below {w w' : World} {L : List Col} {tn : S} {a a2 a3 a4 : Option Addr} {m n2 m2 n3 m3 n4 m4 gs : Nat} (h : ScP w L tn a a2 a3 a4 m n2 m2 n3 m3 n4 m4 gs) (hb : Below w.heap.size w w') : ScP w' L tn a a2 a3 a4 m n2 m2 n3 m3 n4 m4 gs := by
 obtain ⟨gp, c, v, B, b, h1, h2, h3, h4⟩ := h
 exact ⟨gp, c, v, B, b, ⟨Nat.lt_of_lt_of_le h1.1 hb.size, fun j u hj => h1.at_ hb hj⟩, ⟨Nat.lt_of_lt_of_le h2.1 hb.size, fun j u hj => h2.at_ hb hj⟩, h3.below hb, h4.below hb⟩
theorem EC.of_blk {w : World} {g : Nat} {cs : List Value} {t : TypeId} (h : Blk w g cs t) : EC w g 0 cs := ⟨h.lt, fun j u hj => by rw [Nat.zero_add]; exact h.cell j hj⟩
theorem name_map {K : World → Prop} {w : World} {cs : List Value} {t : TypeId} (h : ∀ w', w'.heap[w.heap.size]? = some (.map #[] 0) → Blk w' (w.heap.size + 1) cs t → Below w.heap.size w w' → w'.heap.size = w.heap.size + 1 + 1 → K w') : K ((w.alloc (.map #[] 0)).alloc (.cells cs.toArray t)) := by
 have e2 := Blk.new (w.alloc (.map #[] 0)) cs t
 have s1 : (w.alloc (.map #[] 0)).heap.size = w.heap.size + 1 := by simp
 rw [s1] at e2
 exact h _ ((Below.heap_alloc _ _ _ (by simp)).trans (heap_alloc_new w _)) e2 (((Below.refl _ _).alloc (Nat.le_refl _) _).alloc (by simp) _) (by simp)
theorem newScope_call (L : List Col) (hd : Distinct L) (tn : S) (a a2 a3 a4 : Option Addr) (m n2 m2 n3 m3 n4 m4 : Nat) (gt ct : Nat) (w0 w : World) (hn : L.length ≤ 1000000) (hl : CL w0 L (.slice a L.length m)) (hw0 : Below w0.heap.size w0 w) (hnm : ∀ c ∈ L, c.nm.length ≤ maxLen) (ht : EC w gt 0 [.string ⟨tn.toArray⟩, .slice a L.length m, .slice a2 n2 m2, .slice a3 n3 m3, .slice a4 n4 m4]) :
  Calls Tryz.prog 31 #[.int .i64 0, .slice (some ⟨gt, 0, none⟩) 1 ct] w fun e w' => ∃ gs, e = .returned (.pointer (some ⟨gs, 0, none⟩)) ∧ ScP w' L tn a a2 a3 a4 m n2 m2 n3 m3 n4 m4 gs ∧ Below w.heap.size w w' := by
 have hmm := @run_makeMap Tryz.prog
 have HL := Lib.hid hl
 have HW0 := Lib.hid hw0
 have HNM := Lib.hid hnm
 have HT := Lib.hid ht
 clear hl hw0 hnm ht
 go_enter Tryz.func31, Tryz.ntmps31
 go_upto_region 2 with (fail)
 refine name_map (K := Code.wp _ _ _ _) fun w1 hm1 hB1 hw1 hz1 => ?_
 have HM1 := Lib.hid hm1
 have HB1 := Lib.hid hB1
 have HW1 := Lib.hid hw1
 have HZ1 := Lib.hid hz1
 clear hm1 hB1 hw1 hz1 hmm
 go_upto_region 3 with (fail)
 go_loopw [14] (fun i wr => (i = .int .i64 0 ∧ wr = w1) ∨ (i = .int .i64 1 ∧ Below w.heap.size w wr ∧ ScP wr L tn a a2 a3 a4 m n2 m2 n3 m3 n4 m4 (w.heap.size + 1))) (fun i _ => 1 - (intOf i).toNat)
 case atStart => exact .inl ⟨rfl, rfl⟩
 case round =>
  rcases hrel with ⟨rfl, rfl⟩ | ⟨rfl, hb, hsc⟩
  ·have e0 := HT.out.at0 HW1.out rfl
   have e1 := HT.out.at_ HW1.out (j := 1) rfl
   have e2 := HT.out.at_ HW1.out (j := 2) rfl
   have e3 := HT.out.at_ HW1.out (j := 3) rfl
   have e4 := HT.out.at_ HW1.out (j := 4) rfl
   go_upto_region 5 with (fail)
   refine name_alloc (K := Code.wp _ _ _ _) fun w2 hB2 hw2 hsz2 => ?_
   have HB2 := Lib.hid hB2
   have HW2 := Lib.hid (HW1.out.trans (hw2.mono HW1.out.size))
   have HM2 : Hid (w2.heap[w.heap.size]? = some (.map #[] 0)) := Lib.hid ((hw2.block _ (by have := HZ1.out; omega)).trans HM1.out)
   have HS2 := Lib.hid (HB1.out.below hw2)
   clear hB2 hw2 hsz2 e0 e1 e2 e3 e4
   have z0 := HB2.out.cell 0 rfl
   have z1 := HB2.out.cell 1 rfl
   have z2 := HB2.out.cell 2 rfl
   have z3 := HB2.out.cell 3 rfl
   have z4 := HB2.out.cell 4 rfl
   go_wp2_with fail
   refine (add_call L hd tn tn a a2 a3 a4 m n2 m2 n3 m3 n4 m4 (w.heap.size + 1) w.heap.size w0 w2 hn HL.out HW0.out.size (HW0.out.trans (HW2.out.mono HW0.out.size)) (by omega) HS2.out HM2.out HNM.out).mono ?_
   rintro e w3 ⟨gp, c, v, B, rfl, hb3, hge, hec, ho, hg, hbel⟩
   have HP : Hid (Below w.heap.size w w3 ∧ ScP w3 L tn a a2 a3 a4 m n2 m2 n3 m3 n4 m4 (w.heap.size + 1)) := Lib.hid ⟨HW2.out.trans hbel, gp, c, v, B, w.heap.size, EC.of_blk hb3, hec, ho, hg⟩
   clear hb3 hge hec ho hg hbel z0 z1 z2 z3 z4 HB2 HW2 HM2 HS2
   go_wp2_with fail
   go_roundw
   case rel => exact .inr ⟨by first | rfl | go_num, HP.out⟩
   case measure => simp [intOf]
  ·have HP := Lib.hid (And.intro hb hsc)
   clear hb hsc
   go_wp2_with fail
   go_ret
   exact ⟨w.heap.size + 1, rfl, HP.out.2, HP.out.1⟩
end Go.Proofs.YtnlimlboedohgaaGreatDoor.Px

/-
  What a name refers to: the program's. (Printed by gen_bpname.py.)
-/
namespace Go.Proofs.YtnlimlboedohgaaGreatDoor.Px
open Go Go.RowKit Go.Proofs.YtnlimlboedohgaaGreatDoor.Ps
set_option linter.unusedVariables false
set_option linter.unusedSimpArgs false
theorem wpList_lookup_eq {ops : Array Oper} {rest : List Oper} {o : Oper} {a : Act} {w : World} {Q : Exit → Act → World → Prop} {t : TypeId} {m x : Operand} {b : Nat} {key v : Value} (hg : o.guard = none) (hop : o.op = .lookup t m x false) (hm : a.eval m = .map (some b)) (hx : a.eval x = key) (hr : (Instr.lookup t (.map (some b)) key false).run Tryz.prog w = .ok v w) (h : wpList Tryz.prog ops Q rest (a.put o.dst v) w) : wpList Tryz.prog ops Q (o :: rest) a w := by
 refine wpList_plain hg fun K' hK' => ?_
 unfold Oper.wp
 simp [execOp, hop, hm, hx, hr, Result.andThen]
 exact hK' _ _ h
theorem findN_some {s : S} : ∀ {l : List S} {i k : Nat}, findN s l i = some k → ∃ j, k = i + j ∧ ∃ h : j < l.length, l[j] = s
 | [], _, _, h => by cases h
 | a :: l, i, k, h => by
  unfold findN at h
  split at h
  ·rename_i e
   cases h
   exact ⟨0, rfl, by simp, e⟩
  ·obtain ⟨j, h1, h2, h3⟩ := findN_some h
   exact ⟨j + 1, by omega, by simpa using h2, by simpa using h3⟩
theorem findN_none {s : S} : ∀ {l : List S} {i : Nat}, findN s l i = none → ∀ a ∈ l, a ≠ s
 | [], _, _, a, ha => by cases ha
 | b :: l, i, h, a, ha => by
  unfold findN at h
  split at h
  ·cases h
  ·rename_i e
   rcases List.mem_cons.1 ha with rfl | ha
   ·exact e
   ·exact findN_none h a ha
theorem findV_cases (L : List Col) (s : S) : (findV L s = -1 ∧ ∀ i (hi : i < L.length), L[i].nm ≠ s) ∨ ∃ i, ∃ hi : i < L.length, findV L s = (i : Int) ∧ L[i].nm = s := by
 unfold findV
 cases h : findN s (L.map (·.nm)) 0 with
 | none => exact .inl ⟨rfl, fun i hi e => findN_none h _ (List.mem_map.2 ⟨L[i], List.getElem_mem hi, rfl⟩) e⟩
 | some k =>
  obtain ⟨j, h1, h2, h3⟩ := findN_some h
  rw [List.length_map] at h2
  rw [List.getElem_map] at h3
  exact .inr ⟨j, h2, by show (k : Int) = _; rw [h1]; simp, h3⟩
theorem name_plain (L : List Col) (hd : Distinct L) (s tn : S) (a a2 a3 a4 : Option Addr) (m n2 m2 n3 m3 n4 m4 gs : Nat) (w : World) (hdot : hasDot s = false) (hs : s.length < 4294967281) (hn : L.length ≤ 1000000) (hE : ∃ m, w.cell? ⟨0, 0, none⟩ = some (.int .i64 m)) (hsc : ScP w L tn a a2 a3 a4 m n2 m2 n3 m3 n4 m4 gs) :
  Calls Tryz.prog 115 #[.pointer (some ⟨gs, 0, none⟩), .string ⟨s.toArray⟩] w (Ret w (repT (resI tn L s))) := by
 obtain ⟨gp, c, v, B, b, he, hsrc, ho, hg⟩ := hsc
 obtain ⟨mx, hmx⟩ := hE
 have HMX := Lib.hid (fun (w' : World) (hw : Below w.heap.size w w') => (hw.cell (lt_of_cell hmx)).trans hmx)
 have HE := Lib.hid he
 have HS := Lib.hid hsrc
 have HG := Lib.hid hg
 have e46 : (ByteArray.mk #[46]).data.toList = [46] := rfl
 have HCUT : Hid (∀ w', Below w.heap.size w w' → Calls Tryz.prog 201 #[.string ⟨s.toArray⟩, .string ⟨#[46]⟩] w' fun e w'' => e = .returned (.tuple #[.string ⟨s.toArray⟩, .string ⟨#[]⟩, .bool false]) ∧ ∃ n, w'' = w'.drewN n) := Lib.hid fun w' hw => by
  have CC := Tryz.strings_Cut ⟨s.toArray⟩ ⟨#[46]⟩ mx w' (by rw [mkS]; exact hs) (HMX.out w' hw)
  rw [mkL, e46, cut_dot, hdot] at CC
  simpa using CC
 have HR : Hid (resI tn L s = findV L s) := Lib.hid (by unfold resI; rw [hdot]; rfl)
 have hsl : s.length ≤ maxLen := by unfold maxLen; omega
 have HLK : Hid ((resI tn L s = -1 ∧ ∀ w', Below w.heap.size w w' → (Instr.lookup 155 (.map (some b)) (.string ⟨s.toArray⟩) false).run Tryz.prog w' = .ok (.slice none 0 0) w') ∨ ∃ i : Nat, resI tn L s = (i : Int) ∧ ∀ w', Below w.heap.size w w' → ∃ g c, (Instr.lookup 155 (.map (some b)) (.string ⟨s.toArray⟩) false).run Tryz.prog w' = .ok (.slice (some ⟨g, 0, none⟩) 1 c) w' ∧ w'.cell? ⟨g, 0, none⟩ = some (.int .i64 (i : Int))) := Lib.hid (by
  rw [HR.out]
  rcases findV_cases L s with ⟨h1, h2⟩ | ⟨i, hi, h1, h2⟩
  ·exact .inl ⟨h1, fun w' hw => ((HG.out.below hw).fresh (by unfold maxLen; omega) hsl (colsD_no _ (Nat.le_refl _) (fun i hi _ => h2 i hi) _)).1⟩
  ·exact .inr ⟨i, h1, fun w' hw => (HG.out.below hw).found (by unfold maxLen; omega) hsl (by rw [← h2]; exact colsD_yes hd hi _ (Nat.le_refl _) hi _)⟩)
 clear he hsrc ho hg hmx hdot e46 HR hd
 rcases HLK.out with ⟨hneg, hrun⟩ | ⟨i, hpos, hrun⟩
 all_goals
  have HRUN := Lib.hid hrun
  clear hrun HLK
  go_enter Tryz.func115, Tryz.ntmps115
  go_upto_region 1 with (fail)
  refine name_alloc (K := Code.wp _ _ _ _) fun w1 hB0 hw1 hz1 => ?_
  have HB0 := Lib.hid hB0
  have HW1 := Lib.hid hw1
  clear hB0 hw1 hz1
  go_wp2_with fail
  refine (HCUT.out w1 HW1.out).mono ?_
  rintro e w2 ⟨rfl, nd, hw2⟩
  have hb2 : Below w1.heap.size w1 w2 := by rw [hw2]; exact belowD w1 nd
  have HB2 := Lib.hid (HB0.out.below hb2)
  have HW2 := Lib.hid (HW1.out.trans (hb2.mono HW1.out.size))
  clear hw2 hb2 HB0 HW1
  have p3 := HE.out.at_ HW2.out (j := 3) rfl
 ·have HT : Hid (repT (resI tn L s) = .tuple #[zeroV, .int .i64 11]) := Lib.hid (by rw [hneg]; rfl)
  have HRW := Lib.hid (HRUN.out w2 HW2.out)
  clear hneg
  go_upto_region 3 with (at_lookup; refine wpList_lookup_eq rfl rfl rfl rfl HRW.out ?_)
  have r0 := HB2.out.cell 0 rfl
  have r1 := HB2.out.cell 1 rfl
  have r2 := HB2.out.cell 2 rfl
  have r3 := HB2.out.cell 3 rfl
  have r4 := HB2.out.cell 4 rfl
  have r5 := HB2.out.cell 5 rfl
  have r6 := HB2.out.cell 6 rfl
  have f0 := HB2.out.free 0
  have f1 := HB2.out.free 1
  have f2 := HB2.out.free 2
  have f3 := HB2.out.free 3
  have f4 := HB2.out.free 4
  have f5 := HB2.out.free 5
  have f6 := HB2.out.free 6
  go_wp2_with fail
  refine name_set7 (K := fun w' => bodyPost _ _ _ _ _ w') HB2.out fun w9 hM => ?_
  exact bodyPost_ret (results_cell_tmp Tryz.results115 _ _ w.heap.size _ _ (0, 0) _ _ rfl rfl hM.blk Tryz.underlying31 (by kernel_rfl)) rfl ⟨by rw [HT.out]; rfl, HW2.out.trans hM.low⟩
 ·have HT : Hid (repT (resI tn L s) = .tuple #[.agg #[.int .i64 2, .int .i64 (i : Int), .int .i64 0, .int .i64 0, .string ⟨#[]⟩, .string ⟨#[]⟩, .slice none 0 0], .int .i64 0]) := Lib.hid (by rw [hpos]; unfold repT; rw [if_neg (by omega)])
  obtain ⟨g, cg, hrw, hcell⟩ := HRUN.out w2 HW2.out
  have HRW := Lib.hid hrw
  clear hpos hrw
  go_upto_region 3 with (at_lookup; refine wpList_lookup_eq rfl rfl rfl rfl HRW.out ?_)
  go_wp2_with fail
  refine (column_call (i : Int) w2).mono ?_
  rintro e w3 ⟨rfl, hw3⟩
  have HB3 := Lib.hid (HB2.out.below hw3)
  have HW3 := Lib.hid (HW2.out.trans (hw3.mono HW2.out.size))
  clear hw3 HB2 HW2 hcell p3
  have r0 := HB3.out.cell 0 rfl
  have r1 := HB3.out.cell 1 rfl
  have r2 := HB3.out.cell 2 rfl
  have r3 := HB3.out.cell 3 rfl
  have r4 := HB3.out.cell 4 rfl
  have r5 := HB3.out.cell 5 rfl
  have r6 := HB3.out.cell 6 rfl
  have f0 := HB3.out.free 0
  have f1 := HB3.out.free 1
  have f2 := HB3.out.free 2
  have f3 := HB3.out.free 3
  have f4 := HB3.out.free 4
  have f5 := HB3.out.free 5
  have f6 := HB3.out.free 6
  go_wp2_with fail
  refine name_set7 (K := fun w' => bodyPost _ _ _ _ _ w') HB3.out fun w9 hM => ?_
  exact bodyPost_ret (results_cell_tmp Tryz.results115 _ _ w.heap.size _ _ (0, 0) _ _ rfl rfl hM.blk Tryz.underlying31 (by kernel_rfl)) rfl ⟨by rw [HT.out]; rfl, HW3.out.trans hM.low⟩
theorem name_dot (L : List Col) (hd : Distinct L) (s tn : S) (a a2 a3 a4 : Option Addr) (m n2 m2 n3 m3 n4 m4 gs : Nat) (w : World) (hdot : hasDot s = true) (hs : s.length < 4294967281) (hn : L.length ≤ 1000000) (w0 : World) (hl : CL w0 L (.slice a L.length m)) (hw0 : Below w0.heap.size w0 w) (hE : ∃ m, w.cell? ⟨0, 0, none⟩ = some (.int .i64 m)) (hsc : ScP w L tn a a2 a3 a4 m n2 m2 n3 m3 n4 m4 gs) :
  Calls Tryz.prog 115 #[.pointer (some ⟨gs, 0, none⟩), .string ⟨s.toArray⟩] w (Ret w (repT (resI tn L s))) := by
 obtain ⟨gp, c, v, B, b, he, hsrc, ho, hg⟩ := hsc
 obtain ⟨mx, hmx⟩ := hE
 have HMX := Lib.hid (fun (w' : World) (hw : Below w.heap.size w w') => (hw.cell (lt_of_cell hmx)).trans hmx)
 have HE := Lib.hid he
 have HS := Lib.hid hsrc
 have HG := Lib.hid hg
 have e46 : (ByteArray.mk #[46]).data.toList = [46] := rfl
 obtain ⟨i0, hi0, hz0, hz1, hz2⟩ := info_parts infoInt
 have HL := Lib.hid hl
 have HW0 := Lib.hid hw0
 have HCUT : Hid (∀ w', Below w.heap.size w w' → Calls Tryz.prog 201 #[.string ⟨s.toArray⟩, .string ⟨#[46]⟩] w' fun e w'' => e = .returned (.tuple #[.string ⟨(preDot s).toArray⟩, .string ⟨(postDot s).toArray⟩, .bool true]) ∧ ∃ n, w'' = w'.drewN n) := Lib.hid fun w' hw => by
  have CC := Tryz.strings_Cut ⟨s.toArray⟩ ⟨#[46]⟩ mx w' (by rw [mkS]; exact hs) (HMX.out w' hw)
  rw [mkL, e46, cut_dot, hdot] at CC
  simpa using CC
 have HR : Hid (resI tn L s = if tn = preDot s then findV L (postDot s) else -1) := Lib.hid (by unfold resI; rw [hdot]; rfl)
 have hsl : s.length ≤ maxLen := by unfold maxLen; omega
 have HLK : Hid (∀ w', Below w.heap.size w w' → ∃ v, (Instr.lookup 155 (.map (some b)) (.string ⟨s.toArray⟩) false).run Tryz.prog w' = .ok v w') := Lib.hid fun w' hw => by
  obtain ⟨v, zs, hrun, _⟩ := (HG.out.below hw).at (key := .string ⟨s.toArray⟩) (kl := .string s) keyS Tryz.underlying155 (zeroSlice w') (by unfold maxLen; omega) (by have := Go.WideMaps.keyOf_string_mk Tryz.underlying9 (s := ⟨s.toArray⟩) (by simpa [ByteArray.size] using hsl); simpa using this)
  exact ⟨v, hrun⟩
 generalize preDot s = pre at HCUT HR
 generalize postDot s = post at HCUT HR
 clear he hsrc ho hg hmx hdot e46 hl hw0
 go_enter Tryz.func115, Tryz.ntmps115
 go_upto_region 1 with (fail)
 refine name_alloc (K := Code.wp _ _ _ _) fun w1 hB0 hw1 hz1 => ?_
 have HB0 := Lib.hid hB0
 have HW1 := Lib.hid hw1
 clear hB0 hw1 hz1
 go_wp2_with fail
 refine (HCUT.out w1 HW1.out).mono ?_
 rintro e w2 ⟨rfl, nd, hw2⟩
 have hb2 : Below w1.heap.size w1 w2 := by rw [hw2]; exact belowD w1 nd
 have HB2 := Lib.hid (HB0.out.below hb2)
 have HW2 := Lib.hid (HW1.out.trans (hb2.mono HW1.out.size))
 clear hw2 hb2 HB0 HW1 HCUT
 have p3 := HE.out.at_ HW2.out (j := 3) rfl
 obtain ⟨lv, hrw⟩ := HLK.out w2 HW2.out
 have HRW := Lib.hid hrw
 clear hrw HLK
 go_upto_region 3 with (at_lookup; refine wpList_lookup_eq rfl rfl rfl rfl HRW.out ?_)
 have hE2 : EC w2 gs 0 [.int .i64 0, .slice (some ⟨gp, 0, none⟩) 1 c, v, .map (some b)] := ⟨Nat.lt_of_lt_of_le HE.out.1 HW2.out.size, fun j u hj => HE.out.at_ HW2.out hj⟩
 have hS2 : EC w2 gp 0 (sourceC tn tn a a2 a3 a4 L.length m n2 m2 n3 m3 n4 m4) := ⟨Nat.lt_of_lt_of_le HS.out.1 HW2.out.size, fun j u hj => HS.out.at_ HW2.out hj⟩
 by_cases ht : tn = pre
 ·have HF := Lib.hid (find_yes pre tn tn gs gp c v (.map (some b)) a a2 a3 a4 L.length m n2 m2 n3 m3 n4 m4 w2 ht hE2 hS2)
  have HV : Hid (resI tn L s = findV L post) := Lib.hid (by rw [HR.out, if_pos ht])
  clear hE2 hS2 HRW p3 HR ht
  go_wp2_with fail
  refine HF.out.mono ?_
  rintro e w3 ⟨rfl, hw3⟩
  have HB3 := Lib.hid (HB2.out.below hw3)
  have HW3 := Lib.hid (HW2.out.trans (hw3.mono HW2.out.size))
  clear hw3 HB2 HW2 HF
  go_upto_region 5 with (fail)
  refine name_alloc (K := Code.wp _ _ _ _) fun w4 hB4 hw4 hsz4 => ?_
  have HB4 := Lib.hid (HB3.out.below hw4)
  have HX4 := Lib.hid hB4
  have HW4 := Lib.hid (HW3.out.trans (hw4.mono HW3.out.size))
  have HL4 : Hid (CL w4 L (.slice a L.length m)) := Lib.hid (HL.out.kept (HW0.out.trans (HW4.out.mono HW0.out.size)) (Nat.le_refl _))
  clear hB4 hw4 hsz4 HB3 HW3
  have x2 := HX4.out.cell 2 rfl
  go_upto_region 7 with (fail)
  go_loopw [9, 37] (fun v i wr => ∃ k : Nat, k ≤ L.length ∧ i = .int .i64 (k : Int) ∧ Below w4.heap.size w4 wr ∧ ((v = .slice none 0 0 ∧ ∀ j (hj : j < L.length), j < k → L[j].nm ≠ post) ∨ ∃ j, ∃ hj : j < L.length, j < k ∧ L[j].nm = post ∧ OwnI w4.heap.size v [(j : Int)] wr)) (fun _ i _ => L.length - (intOf i).toNat)
  case atStart => exact ⟨0, Nat.zero_le _, rfl, Below.refl _ _, .inl ⟨rfl, fun j hj h => absurd h (by omega)⟩⟩
  case round =>
   obtain ⟨k, hk, rfl, hb, hcase⟩ := hrel
   have HBB := Lib.hid hb
   have HWr := Lib.hid (HW4.out.trans (hb.mono HW4.out.size))
   have HCS := Lib.hid hcase
   clear hb hcase x2
   by_cases hlt : k < L.length
   ·have k1 : (k : Int) < (L.length : Int) := by omega
    have k0 : (0 : Int) ≤ (k : Int) := by omega
    obtain ⟨g, o, eq, hx, hec⟩ := HL4.out.at_ hlt
    subst eq
    have c0 := hec.at0 HBB.out rfl
    have c1 := hec.at_ HBB.out (j := 1) rfl
    have c2 := hec.at_ HBB.out (j := 2) rfl
    clear hec
    have HSTEP : Hid (¬ L[k].nm = post → ∀ (v : Value) (w' : World), Below wr.heap.size wr w' → ((v = .slice none 0 0 ∧ ∀ j (hj : j < L.length), j < k → L[j].nm ≠ post) ∨ ∃ j, ∃ hj : j < L.length, j < k ∧ L[j].nm = post ∧ OwnI w4.heap.size v [(j : Int)] wr) → ((v = .slice none 0 0 ∧ ∀ j (hj : j < L.length), j < k + 1 → L[j].nm ≠ post) ∨ ∃ j, ∃ hj : j < L.length, j < k + 1 ∧ L[j].nm = post ∧ OwnI w4.heap.size v [(j : Int)] w')) := Lib.hid fun hne v w' hw h => by
     rcases h with ⟨h1, h2⟩ | ⟨j, hj, h1, h2, h3⟩
     ·refine .inl ⟨h1, fun j hj hjk => ?_⟩
      by_cases e : j = k
      ·subst e; exact hne
      ·exact h2 j hj (by omega)
     ·exact .inr ⟨j, hj, by omega, h2, h3.below hw⟩
    have HHIT : Hid (L[k].nm = post → (∀ j (hj : j < L.length), j < k → L[j].nm ≠ post)) := Lib.hid fun e j hj hjk e2 => absurd (hd j k hj hlt (e2.trans e.symm)) (by omega)
    have HME : Hid (L[k].nm = post → ∀ (v : Value) (w' : World), OwnI w4.heap.size v [(k : Int)] w' → ((v = .slice none 0 0 ∧ ∀ j (hj : j < L.length), j < k + 1 → L[j].nm ≠ post) ∨ ∃ j, ∃ hj : j < L.length, j < k + 1 ∧ L[j].nm = post ∧ OwnI w4.heap.size v [(j : Int)] w')) := Lib.hid fun e v w' h => .inr ⟨k, hlt, by omega, e, h⟩
    generalize L[k].nm = nm at c0 HSTEP HHIT HME
    generalize L[k].kind = kd at c1
    generalize L[k].nul = nl at c2
    go_upto_region 9 with (fail)
    refine name_alloc (K := Code.wp _ _ _ _) fun w5 hB5 hw5 hsz5 => ?_
    have HB5 := Lib.hid hB5
    have HW5 := Lib.hid hw5
    have HBB5 := Lib.hid (HBB.out.trans (hw5.mono HBB.out.size))
    clear hB5 hw5 hsz5 c0 c1 c2
    have z0 := HB5.out.cell 0 rfl
    by_cases hmt : nm = post
    ·have HNV : Hid (u9 = .slice none 0 0) := Lib.hid (by
      rcases HCS.out with ⟨h1, _⟩ | ⟨j, hj, h1, h2, _⟩
      ·exact h1
      ·exact absurd h2 (HHIT.out hmt j hj h1))
     have HM2 := Lib.hid (HME.out hmt)
     have d3 : (nm == post) = true := by simpa using hmt
     clear HSTEP HHIT HME HCS hmt
     have x6 := (HX4.out.below HBB5.out).cell 6 rfl
     go_upto_region 11 with (at_builtin; refine wpList_append_own_at _ rfl (.tmp 49) (.tmp 54) 23 rfl w4.heap.size 3 i0 _ 1 8 Tryz.underlying23 hi0 hz0 hz1 hz2 rfl (by omega) u9 0 [] rfl (by rw [HNV.out]; exact World.ownsRow_nil _ _ _ _) ⟨w5.heap.size, 0, none⟩ 1 1 [.int .i64 (k : Int)] rfl rfl (cell_lit1 _ _ _) (fun u hu => by obtain rfl := List.mem_singleton.1 hu; rfl) (by unfold maxLen; omega) (by omega) (Nat.le_trans HBB5.out.size (by simp)) ?_)
     intro v' w6 hrow hg6 _ _
     have hb6 : Below w4.heap.size w4 w6 := (HBB5.out.alloc HBB5.out.size _).grown hg6 (Nat.le_trans HBB5.out.size (by simp)) (fun j hj => by rw [HNV.out] at hj; cases hj)
     have HO6 : Hid (OwnI w4.heap.size v' [(k : Int)] w6) := Lib.hid hrow
     have HB6 := Lib.hid hb6
     clear hrow hg6 hb6 z0 x6
     go_wp2_with fail
     go_roundw
     case rel => exact ⟨k + 1, by omega, by go_num, HB6.out, HM2.out _ _ HO6.out⟩
     case measure => simp [intOf]; omega
    ·have HM2 := Lib.hid (HSTEP.out hmt u9 w5 HW5.out HCS.out)
     have d3 : (nm == post) = false := by simpa using hmt
     clear HSTEP HHIT HME HCS hmt
     go_wp2_with fail
     go_roundw
     case rel => exact ⟨k + 1, by omega, by go_num, HBB5.out, HM2.out⟩
     case measure => simp [intOf]; omega
   ·obtain rfl : k = L.length := by omega
    have d1 : decide ((L.length : Int) < (L.length : Int)) = false := decide_eq_false (by omega)
    have HBr := Lib.hid (HB4.out.below HBB.out)
    rcases HCS.out with ⟨rfl, h2⟩ | ⟨j, hj, _, h2, h3⟩
    ·have HT : Hid (repT (resI tn L s) = .tuple #[zeroV, .int .i64 11]) := Lib.hid (by
      rw [HV.out]
      rcases findV_cases L post with ⟨e, _⟩ | ⟨i, hi, _, e⟩
      ·rw [e]; rfl
      ·exact absurd e (h2 i hi hi))
     clear HCS h2 HV
     have r0 := HBr.out.cell 0 rfl
     have r1 := HBr.out.cell 1 rfl
     have r2 := HBr.out.cell 2 rfl
     have r3 := HBr.out.cell 3 rfl
     have r4 := HBr.out.cell 4 rfl
     have r5 := HBr.out.cell 5 rfl
     have r6 := HBr.out.cell 6 rfl
     have f0 := HBr.out.free 0
     have f1 := HBr.out.free 1
     have f2 := HBr.out.free 2
     have f3 := HBr.out.free 3
     have f4 := HBr.out.free 4
     have f5 := HBr.out.free 5
     have f6 := HBr.out.free 6
     go_wp2_with fail
     refine name_set7 (K := fun w' => bodyPost _ _ _ _ _ w') HBr.out fun w9 hM => ?_
     exact bodyPost_ret (results_cell_tmp Tryz.results115 _ _ w.heap.size _ _ (0, 0) _ _ rfl rfl hM.blk Tryz.underlying31 (by kernel_rfl)) rfl ⟨by rw [HT.out]; rfl, HWr.out.trans hM.low⟩
    ·have HT : Hid (repT (resI tn L s) = .tuple #[.agg #[.int .i64 2, .int .i64 (j : Int), .int .i64 0, .int .i64 0, .string ⟨#[]⟩, .string ⟨#[]⟩, .slice none 0 0], .int .i64 0]) := Lib.hid (by
      rw [HV.out]
      rcases findV_cases L post with ⟨_, e⟩ | ⟨i, hi, e, e2⟩
      ·exact absurd h2 (e j hj)
      ·rw [e, hd i j hi hj (e2.trans h2.symm)]; unfold repT; rw [if_neg (by omega)])
     obtain ⟨a9, c9, e9, hsi⟩ := h3.form
     obtain ⟨b9, o9, rfl, hlt9, hcell⟩ := hsi 0 (j : Int) rfl
     have hcell : wr.cell? ⟨b9, o9, none⟩ = some (.int .i64 (j : Int)) := by simpa using hcell
     clear HCS h2 HV hsi h3
     simp only [List.length_singleton] at e9
     subst e9
     go_wp2_with fail
     refine (column_call (j : Int) wr).mono ?_
     rintro e w5 ⟨rfl, hw5⟩
     have HB5 := Lib.hid (HBr.out.below hw5)
     have HW5 := Lib.hid (HWr.out.trans (hw5.mono HWr.out.size))
     clear hw5 hcell HBr HWr
     have r0 := HB5.out.cell 0 rfl
     have r1 := HB5.out.cell 1 rfl
     have r2 := HB5.out.cell 2 rfl
     have r3 := HB5.out.cell 3 rfl
     have r4 := HB5.out.cell 4 rfl
     have r5 := HB5.out.cell 5 rfl
     have r6 := HB5.out.cell 6 rfl
     have f0 := HB5.out.free 0
     have f1 := HB5.out.free 1
     have f2 := HB5.out.free 2
     have f3 := HB5.out.free 3
     have f4 := HB5.out.free 4
     have f5 := HB5.out.free 5
     have f6 := HB5.out.free 6
     go_wp2_with fail
     refine name_set7 (K := fun w' => bodyPost _ _ _ _ _ w') HB5.out fun w9 hM => ?_
     exact bodyPost_ret (results_cell_tmp Tryz.results115 _ _ w.heap.size _ _ (0, 0) _ _ rfl rfl hM.blk Tryz.underlying31 (by kernel_rfl)) rfl ⟨by rw [HT.out]; rfl, HW5.out.trans hM.low⟩
 ·have HF := Lib.hid (find_no pre tn tn gs gp c v (.map (some b)) a a2 a3 a4 L.length m n2 m2 n3 m3 n4 m4 w2 ht hE2 hS2)
  have HT : Hid (repT (resI tn L s) = .tuple #[zeroV, .int .i64 11]) := Lib.hid (by rw [HR.out, if_neg ht]; rfl)
  clear hE2 hS2 HRW p3 HR ht
  go_wp2_with fail
  refine HF.out.mono ?_
  rintro e w3 ⟨rfl, hw3⟩
  have HB3 := Lib.hid (HB2.out.below hw3)
  have HW3 := Lib.hid (HW2.out.trans (hw3.mono HW2.out.size))
  clear hw3 HB2 HW2 HF
  go_upto_region 5 with (fail)
  refine name_alloc (K := Code.wp _ _ _ _) fun w4 hB4 hw4 hsz4 => ?_
  have HB4 := Lib.hid (HB3.out.below hw4)
  have HX4 := Lib.hid hB4
  have HW4 := Lib.hid (HW3.out.trans (hw4.mono HW3.out.size))
  clear hB4 hw4 hsz4 HB3 HW3
  have x2 := HX4.out.cell 2 rfl
  go_upto_region 7 with (fail)
  go_loopw [9, 37] (fun v i wr => v = .slice none 0 0 ∧ i = .int .i64 0 ∧ wr = w4) (fun _ _ _ => 0)
  case atStart => exact ⟨rfl, rfl, rfl⟩
  case round =>
   obtain ⟨rfl, rfl, rfl⟩ := hrel
   have r0 := HB4.out.cell 0 rfl
   have r1 := HB4.out.cell 1 rfl
   have r2 := HB4.out.cell 2 rfl
   have r3 := HB4.out.cell 3 rfl
   have r4 := HB4.out.cell 4 rfl
   have r5 := HB4.out.cell 5 rfl
   have r6 := HB4.out.cell 6 rfl
   have f0 := HB4.out.free 0
   have f1 := HB4.out.free 1
   have f2 := HB4.out.free 2
   have f3 := HB4.out.free 3
   have f4 := HB4.out.free 4
   have f5 := HB4.out.free 5
   have f6 := HB4.out.free 6
   go_wp2_with fail
   refine name_set7 (K := fun w' => bodyPost _ _ _ _ _ w') HB4.out fun w9 hM => ?_
   exact bodyPost_ret (results_cell_tmp Tryz.results115 _ _ w.heap.size _ _ (0, 0) _ _ rfl rfl hM.blk Tryz.underlying31 (by kernel_rfl)) rfl ⟨by rw [HT.out]; rfl, HW4.out.trans hM.low⟩
theorem name_call (L : List Col) (hd : Distinct L) (s tn : S) (a a2 a3 a4 : Option Addr) (m n2 m2 n3 m3 n4 m4 gs : Nat) (w0 w : World) (hs : s.length < 4294967281) (hn : L.length ≤ 1000000) (hl : CL w0 L (.slice a L.length m)) (hw0 : Below w0.heap.size w0 w) (hE : ∃ m, w.cell? ⟨0, 0, none⟩ = some (.int .i64 m)) (hsc : ScP w L tn a a2 a3 a4 m n2 m2 n3 m3 n4 m4 gs) :
  Calls Tryz.prog 115 #[.pointer (some ⟨gs, 0, none⟩), .string ⟨s.toArray⟩] w (Ret w (repT (resI tn L s))) := by
 cases hdot : hasDot s with
 | false => exact name_plain L hd s tn a a2 a3 a4 m n2 m2 n3 m3 n4 m4 gs w hdot hs hn hE hsc
 | true => exact name_dot L hd s tn a a2 a3 a4 m n2 m2 n3 m3 n4 m4 gs w hdot hs hn w0 hl hw0 hE hsc
end Go.Proofs.YtnlimlboedohgaaGreatDoor.Px

/-
  Relations and bounds replaced: the program's. (Printed by gen_bpleaf.py.)
-/
namespace Go.Proofs.YtnlimlboedohgaaGreatDoor.Px
open Go Go.RowKit Go.Proofs.YtnlimlboedohgaaGreatDoor.Ps
set_option linter.unusedVariables false
set_option linter.unusedSimpArgs false
theorem resolve_bound (g : Nat) (v1 v2 v3 : Value) (int vk vi : Int) (vs nm : S) (a3 : Option Addr) (n3 c3 : Nat) (w : World) (he : EC w g 0 [.int .i64 0, v1, v2, v3]) : Calls Tryz.prog 69 #[.pointer (some ⟨g, 0, none⟩), .agg #[.int .i64 26, .int .i64 int, .int .i64 vk, .int .i64 vi, .string ⟨vs.toArray⟩, .string ⟨nm.toArray⟩, .slice a3 n3 c3]] w (Ret w (.tuple #[zeroV, .int .i64 15])) := by
 have HE := Lib.hid he
 clear he
 go_enter Tryz.func69, Tryz.ntmps69
 go_upto_region 1 with (fail)
 refine name_alloc2 (K := Code.wp _ _ _ _) fun w1 hB0 hB1 hw1 hsz => ?_
 have HB0 := Lib.hid hB0
 have HB1 := Lib.hid hB1
 have HW1 := Lib.hid hw1
 clear hB0 hB1 hw1 hsz
 have q0 := HB0.out.cell 0 rfl
 have q1 := HB0.out.cell 1 rfl
 have q2 := HB0.out.cell 2 rfl
 have q3 := HB0.out.cell 3 rfl
 have q4 := HB0.out.cell 4 rfl
 have q5 := HB0.out.cell 5 rfl
 have q6 := HB0.out.cell 6 rfl
 go_wp2_with fail
 refine (bound_none nm g v1 v2 v3 w1 ⟨Nat.lt_of_lt_of_le HE.out.1 HW1.out.size, fun j u hj => HE.out.at_ HW1.out hj⟩).mono ?_
 rintro e w2 ⟨rfl, hw2⟩
 have HC1 := Lib.hid (HB1.out.below hw2)
 have HW2 := Lib.hid (HW1.out.trans (hw2.mono HW1.out.size))
 clear hw2 q0 q1 q2 q3 q4 q5 q6 HB1 HB0 HW1
 have r0 := HC1.out.cell 0 rfl
 have r1 := HC1.out.cell 1 rfl
 have r2 := HC1.out.cell 2 rfl
 have r3 := HC1.out.cell 3 rfl
 have r4 := HC1.out.cell 4 rfl
 have r5 := HC1.out.cell 5 rfl
 have r6 := HC1.out.cell 6 rfl
 have f0 := HC1.out.free 0
 have f1 := HC1.out.free 1
 have f2 := HC1.out.free 2
 have f3 := HC1.out.free 3
 have f4 := HC1.out.free 4
 have f5 := HC1.out.free 5
 have f6 := HC1.out.free 6
 go_wp2_with fail
 refine name_set7 (K := fun w' => bodyPost _ _ _ _ _ w') HC1.out fun w3 hM => ?_
 exact bodyPost_ret (results_cell_tmp Tryz.results69 _ _ (w.heap.size + 1) _ _ (0, 0) _ _ rfl rfl hM.blk Tryz.underlying31 (by kernel_rfl)) rfl ⟨rfl, HW2.out.trans (hM.low.mono (by omega))⟩
theorem resolve_rel_nil (g : Nat) (int vk vi : Int) (vs nm : S) (a3 : Option Addr) (c3 : Nat) (w : World)  : Calls Tryz.prog 69 #[.pointer (some ⟨g, 0, none⟩), .agg #[.int .i64 25, .int .i64 int, .int .i64 vk, .int .i64 vi, .string ⟨vs.toArray⟩, .string ⟨nm.toArray⟩, .slice a3 0 c3]] w (Ret w (.tuple #[.agg #[.int .i64 24, .int .i64 int, .int .i64 0, .int .i64 0, .string ⟨#[]⟩, .string ⟨#[]⟩, .slice none 0 0], .int .i64 0])) := by
 go_enter Tryz.func69, Tryz.ntmps69
 go_upto_region 1 with (fail)
 refine name_alloc2 (K := Code.wp _ _ _ _) fun w1 hB0 hB1 hw1 hsz => ?_
 have HB0 := Lib.hid hB0
 have HB1 := Lib.hid hB1
 have HW1 := Lib.hid hw1
 clear hB0 hB1 hw1 hsz
 have q0 := HB0.out.cell 0 rfl
 have q1 := HB0.out.cell 1 rfl
 have q2 := HB0.out.cell 2 rfl
 have q3 := HB0.out.cell 3 rfl
 have q4 := HB0.out.cell 4 rfl
 have q5 := HB0.out.cell 5 rfl
 have q6 := HB0.out.cell 6 rfl
 go_wp2_with fail
 refine (relate_nil g 25 int vk vi vs nm a3 c3 w1).mono ?_
 rintro e w2 ⟨rfl, hw2⟩
 have HC1 := Lib.hid (HB1.out.below hw2)
 have HW2 := Lib.hid (HW1.out.trans (hw2.mono HW1.out.size))
 clear hw2 q0 q1 q2 q3 q4 q5 q6 HB1 HB0 HW1
 have r0 := HC1.out.cell 0 rfl
 have r1 := HC1.out.cell 1 rfl
 have r2 := HC1.out.cell 2 rfl
 have r3 := HC1.out.cell 3 rfl
 have r4 := HC1.out.cell 4 rfl
 have r5 := HC1.out.cell 5 rfl
 have r6 := HC1.out.cell 6 rfl
 have f0 := HC1.out.free 0
 have f1 := HC1.out.free 1
 have f2 := HC1.out.free 2
 have f3 := HC1.out.free 3
 have f4 := HC1.out.free 4
 have f5 := HC1.out.free 5
 have f6 := HC1.out.free 6
 go_wp2_with fail
 refine name_set7 (K := fun w' => bodyPost _ _ _ _ _ w') HC1.out fun w3 hM => ?_
 exact bodyPost_ret (results_cell_tmp Tryz.results69 _ _ (w.heap.size + 1) _ _ (0, 0) _ _ rfl rfl hM.blk Tryz.underlying31 (by kernel_rfl)) rfl ⟨rfl, HW2.out.trans (hM.low.mono (by omega))⟩
theorem resolve_rel_cons (g : Nat) (v1 v2 v3 : Value) (int vk vi : Int) (vs nm : S) (l : List X) (cs : List Value) (w : World) (he : EC w g 0 [.int .i64 0, v1, v2, v3]) (hl0 : 0 < l.length) (hn : l.length ≤ 1000000) (h : XR w (.mk 25 int vk vi vs nm l) cs) : Calls Tryz.prog 69 #[.pointer (some ⟨g, 0, none⟩), .agg cs.toArray] w (Ret w (.tuple #[zeroV, .int .i64 15])) := by
 have HE := Lib.hid he
 have HX := Lib.hid h
 obtain ⟨a, m, rfl, _⟩ := h.lits
 clear he h
 go_enter Tryz.func69, Tryz.ntmps69
 go_upto_region 1 with (fail)
 refine name_alloc2 (K := Code.wp _ _ _ _) fun w1 hB0 hB1 hw1 hsz => ?_
 have HB0 := Lib.hid hB0
 have HB1 := Lib.hid hB1
 have HW1 := Lib.hid hw1
 clear hB0 hB1 hw1 hsz
 have q0 := HB0.out.cell 0 rfl
 have q1 := HB0.out.cell 1 rfl
 have q2 := HB0.out.cell 2 rfl
 have q3 := HB0.out.cell 3 rfl
 have q4 := HB0.out.cell 4 rfl
 have q5 := HB0.out.cell 5 rfl
 have q6 := HB0.out.cell 6 rfl
 go_wp2_with fail
 refine (relate_cons g v1 v2 v3 25 int vk vi vs nm l _ w1 ⟨Nat.lt_of_lt_of_le HE.out.1 HW1.out.size, fun j u hj => HE.out.at_ HW1.out hj⟩ hl0 hn (HX.out.kept HW1.out (Nat.le_refl _))).mono ?_
 rintro e w2 ⟨rfl, hw2⟩
 have HC1 := Lib.hid (HB1.out.below hw2)
 have HW2 := Lib.hid (HW1.out.trans (hw2.mono HW1.out.size))
 clear hw2 q0 q1 q2 q3 q4 q5 q6 HB1 HB0 HW1
 unfold zeroV
 have r0 := HC1.out.cell 0 rfl
 have r1 := HC1.out.cell 1 rfl
 have r2 := HC1.out.cell 2 rfl
 have r3 := HC1.out.cell 3 rfl
 have r4 := HC1.out.cell 4 rfl
 have r5 := HC1.out.cell 5 rfl
 have r6 := HC1.out.cell 6 rfl
 have f0 := HC1.out.free 0
 have f1 := HC1.out.free 1
 have f2 := HC1.out.free 2
 have f3 := HC1.out.free 3
 have f4 := HC1.out.free 4
 have f5 := HC1.out.free 5
 have f6 := HC1.out.free 6
 go_wp2_with fail
 refine name_set7 (K := fun w' => bodyPost _ _ _ _ _ w') HC1.out fun w3 hM => ?_
 exact bodyPost_ret (results_cell_tmp Tryz.results69 _ _ (w.heap.size + 1) _ _ (0, 0) _ _ rfl rfl hM.blk Tryz.underlying31 (by kernel_rfl)) rfl ⟨rfl, HW2.out.trans (hM.low.mono (by omega))⟩
end Go.Proofs.YtnlimlboedohgaaGreatDoor.Px

/-
  Names replaced in an expression with operands: the program's. (Printed by gen_bpnode.py.)
-/
namespace Go.Proofs.YtnlimlboedohgaaGreatDoor.Px
open Go Go.RowKit Go.Proofs.YtnlimlboedohgaaGreatDoor.Ps
set_option linter.unusedVariables false
set_option linter.unusedSimpArgs false
theorem resolve_node (tn : Option S) (cols : List S) (gs : Nat) (op int vk vi : Int) (vs nm : S) (l : List X) (cs : List Value) (w : World) (hop1 : ¬ op = 3) (hop2 : ¬ op = 26) (hop3 : ¬ op = 25) (hn : l.length ≤ 1000000) (h : XR w (.mk op int vk vi vs nm l) cs)
  (IH : ∀ (k : Nat) (hk : k < l.length) (us : List Value) (w' : World), Below w.heap.size w w' → XR w' l[k] us → Calls Tryz.prog 69 #[.pointer (some ⟨gs, 0, none⟩), .agg us.toArray] w' (RepPost w' (resR tn cols l[k]))) :
  Calls Tryz.prog 69 #[.pointer (some ⟨gs, 0, none⟩), .agg cs.toArray] w (RepPost w (nodeR op int vk vi vs nm (resRs tn cols l))) := by
 obtain ⟨ix, hix, hx0, hx1, hx2⟩ := info_parts infoExpr
 obtain ⟨a, m, rfl, hl, h1, h2, _⟩ := h.lits
 have HV1 := Lib.hid h1
 have HV2 := Lib.hid h2
 have HL := Lib.hid hl
 have HIH := Lib.hid IH
 have d1 : (op == 3) = false := by simpa using hop1
 have d2 : (op == 26) = false := by simpa using hop2
 have d3 : (op == 25) = false := by simpa using hop3
 clear h hl hop1 hop2 hop3 IH h1 h2
 go_enter Tryz.func69, Tryz.ntmps69
 go_upto_region 1 with (fail)
 refine name_alloc2 (K := Code.wp _ _ _ _) fun w1 hB0 hB1 hw1 hsz => ?_
 have HB0 := Lib.hid hB0
 have HB1 := Lib.hid hB1
 have HW1 := Lib.hid hw1
 have HS1 := Lib.hid hsz
 have q0 := HB0.out.cell 0 rfl
 have q1 := HB0.out.cell 1 rfl
 have q2 := HB0.out.cell 2 rfl
 have q3 := HB0.out.cell 3 rfl
 have q4 := HB0.out.cell 4 rfl
 have q5 := HB0.out.cell 5 rfl
 have q6 := HB0.out.cell 6 rfl
 clear hB0 hB1 hw1 hsz
 go_upto_region 13 with (fail)
 go_loopw [8, 51] (fun v i wr => ∃ (k : Nat) (l' : List X), k ≤ l.length ∧ i = .int .i64 (k : Int) ∧ Hid (resRs tn cols (l.take k) = .inl l') ∧ OwnX w1.heap.size v l' wr ∧ Below w1.heap.size w1 wr) (fun _ i _ => l.length - (intOf i).toNat)
 case atStart => exact ⟨0, [], Nat.zero_le _, rfl, Lib.hid rfl, OwnX.nil _ _, Below.refl _ _⟩
 case round =>
  obtain ⟨k, l', hk, rfl, HR, hox, hb⟩ := hrel
  have HD0 := Lib.hid (HB0.out.below hb)
  have HD1 := Lib.hid (HB1.out.below hb)
  have HO := Lib.hid hox
  have HWr := Lib.hid (HW1.out.trans (hb.mono HW1.out.size))
  have HBB := Lib.hid hb
  clear hb hox q0 q1 q2 q3 q4 q5 q6 d1 d2 d3
  by_cases hlt : k < l.length
  ·have k1 : (k : Int) < (l.length : Int) := by omega
   have k0 : (0 : Int) ≤ (k : Int) := by omega
   obtain ⟨g, o, us, eq, hec, hkx, hrx⟩ := HL.out.ec hlt
   subst eq
   have HIK := Lib.hid fun (w' : World) (hw' : Below wr.heap.size wr w') => HIH.out k hkx us w' (HWr.out.trans (hw'.mono HWr.out.size)) (hrx.kept (HWr.out.trans (hw'.mono HWr.out.size)) (Nat.le_refl _))
   have HT := Lib.hid (resRs_take hkx HR.out)
   have HBD := Lib.hid fun (e : Int) (h2 : resR tn cols l[k] = .no e) => resRs_bad hkx HR.out h2
   have HNO := Lib.hid fun (e : Int) (h2 : resR tn cols l[k] = .no e) => resR_no h2
   generalize l[k] = xk at hrx HIK HT HBD HNO
   obtain ⟨eop, eint, evk, evi, evs, enm, el⟩ := xk
   obtain ⟨ea, em, rfl, _⟩ := hrx.lits
   have e0 := hec.at0 HWr.out rfl
   have e1 := hec.at_ HWr.out (j := 1) rfl
   have e2 := hec.at_ HWr.out (j := 2) rfl
   have e3 := hec.at_ HWr.out (j := 3) rfl
   have e4 := hec.at_ HWr.out (j := 4) rfl
   have e5 := hec.at_ HWr.out (j := 5) rfl
   have e6 := hec.at_ HWr.out (j := 6) rfl
   clear hrx hec
   go_upto_region 15 with (fail)
   refine name_alloc (K := Code.wp _ _ _ _) fun w3 hB3 hw3 hsz3 => ?_
   have HB3 := Lib.hid hB3
   have HW3 := Lib.hid hw3
   clear hB3 hw3 hsz3 e0 e1 e2 e3 e4 e5 e6
   have z0 := HB3.out.cell 0 rfl
   have z1 := HB3.out.cell 1 rfl
   have z2 := HB3.out.cell 2 rfl
   have z3 := HB3.out.cell 3 rfl
   have z4 := HB3.out.cell 4 rfl
   have z5 := HB3.out.cell 5 rfl
   have z6 := HB3.out.cell 6 rfl
   go_wp2_with fail
   refine (HIK.out w3 HW3.out).mono ?_
   intro e w4 hp
   have HW4 := Lib.hid (HW3.out.trans (hp.2.mono HW3.out.size))
   have HW34 := Lib.hid hp.2
   have HP := Lib.hid hp.1
   clear hp z0 z1 z2 z3 z4 z5 z6 HB3 HIK
   cases hR : resR tn cols (.mk eop eint evk evi evs enm el) with
   | no q =>
    have hq := HNO.out q hR
    have HF := Lib.hid (HBD.out q hR)
    have q0 : (q != 0) = true := by rcases hq with rfl | rfl <;> rfl
    have hp1 : e = .returned (.tuple #[zeroV, .int .i64 q]) := by have := HP.out; rw [hR] at this; exact this
    clear hq HT HBD HNO hR HP
    subst hp1
    unfold zeroV
    go_upto_region 16 with (fail)
    refine name_alloc (K := Code.wp _ _ _ _) fun w5 hB5 hw5 hsz5 => ?_
    have HW5 := Lib.hid (HW4.out.trans (hw5.mono HW4.out.size))
    have HE1 := Lib.hid (HD1.out.below HW5.out)
    have HWE := Lib.hid (HWr.out.trans (HW5.out.mono HWr.out.size))
    clear hB5 hw5 hsz5 HW5 HW4 HW3 HW34
    have r0 := HE1.out.cell 0 rfl
    have r1 := HE1.out.cell 1 rfl
    have r2 := HE1.out.cell 2 rfl
    have r3 := HE1.out.cell 3 rfl
    have r4 := HE1.out.cell 4 rfl
    have r5 := HE1.out.cell 5 rfl
    have r6 := HE1.out.cell 6 rfl
    have f0 := HE1.out.free 0
    have f1 := HE1.out.free 1
    have f2 := HE1.out.free 2
    have f3 := HE1.out.free 3
    have f4 := HE1.out.free 4
    have f5 := HE1.out.free 5
    have f6 := HE1.out.free 6
    go_wp2_with fail
    refine name_set7 (K := fun w' => bodyPost _ _ _ _ _ w') HE1.out fun w10 hM => ?_
    exact bodyPost_ret (results_cell_tmp Tryz.results69 _ _ (w.heap.size + 1) _ _ (0, 0) _ _ rfl rfl hM.blk Tryz.underlying31 (by kernel_rfl)) rfl ⟨by rw [HF.out]; rfl, HWE.out.trans (hM.low.mono (by omega))⟩
   | ok y =>
    have HTT : Hid (resRs tn cols (l.take (k + 1)) = .inl (l' ++ [y])) := Lib.hid (by have := HT.out; rw [hR] at this; exact this)
    obtain ⟨yop, yint, yvk, yvi, yvs, ynm, yl⟩ := y
    obtain ⟨ya, ym, rfl, hxf⟩ : ∃ ya ym, e = .returned (.tuple #[.agg #[.int .i64 yop, .int .i64 yint, .int .i64 yvk, .int .i64 yvi, .string ⟨yvs.toArray⟩, .string ⟨ynm.toArray⟩, .slice ya yl.length ym], .int .i64 0]) ∧ XF w3.heap.size w4.heap.size w4 (.mk yop yint yvk yvi yvs ynm yl) [.int .i64 yop, .int .i64 yint, .int .i64 yvk, .int .i64 yvi, .string ⟨yvs.toArray⟩, .string ⟨ynm.toArray⟩, .slice ya yl.length ym] := by have := HP.out; rw [hR] at this; exact this
    have HXF := Lib.hid hxf
    clear HT HBD HNO hR HP hxf
    go_upto_region 16 with (fail)
    refine name_alloc (K := Code.wp _ _ _ _) fun w5 hB5 hw5 hsz5 => ?_
    have HB5 := Lib.hid hB5
    have HW5 := Lib.hid (HW4.out.trans (hw5.mono HW4.out.size))
    have HXG := Lib.hid (HXF.out.below hw5 (Nat.le_refl _))
    have HHI := Lib.hid hw5.size
    have HO5 := Lib.hid (HO.out.below HW5.out)
    have HSN := Lib.hid (Nat.le_trans HBB.out.size HW5.out.size)
    clear hB5 hw5 hsz5 HXF
    have z0 := HB5.out.cell 0 rfl
    have z1 := HB5.out.cell 1 rfl
    have z2 := HB5.out.cell 2 rfl
    have z3 := HB5.out.cell 3 rfl
    have z4 := HB5.out.cell 4 rfl
    have z5 := HB5.out.cell 5 rfl
    have z6 := HB5.out.cell 6 rfl
    obtain ⟨css, hc1, hc2, hc3, hc4⟩ := (HO5.out.below ((Below.refl _ w5).alloc (Nat.le_refl _) (.cells ([.int .i64 yop, .int .i64 yint, .int .i64 yvk, .int .i64 yvi, .string ⟨yvs.toArray⟩, .string ⟨ynm.toArray⟩, .slice ya yl.length ym] : List Value).toArray 31))).row
    have HCS := Lib.hid hc4
    have HLL : Hid (l'.length ≤ 1000000) := Lib.hid (by have := resRs_len HR.out; rw [this, List.length_take]; omega)
    clear hc4
    go_upto_region 19 with (at_builtin; refine wpList_append_own_at _ rfl (.tmp 65) (.tmp 67) 25 rfl w1.heap.size 31 ix _ 7 88 Tryz.underlying25 hix hx0 hx1 hx2 rfl (by omega) u8 l'.length _ rfl hc3 ⟨w5.heap.size, 0, none⟩ 1 1 [.int .i64 yop, .int .i64 yint, .int .i64 yvk, .int .i64 yvi, .string ⟨yvs.toArray⟩, .string ⟨ynm.toArray⟩, .slice ya yl.length ym] rfl rfl (fun j u hj => by rw [Addr.add_lit]; exact (Blk.new w5 [.int .i64 yop, .int .i64 yint, .int .i64 yvk, .int .i64 yvi, .string ⟨yvs.toArray⟩, .string ⟨ynm.toArray⟩, .slice ya yl.length ym] 31).cell _ (by simpa using hj)) (fun u hu => by simp at hu; rcases hu with rfl | rfl | rfl | rfl | rfl | rfl | rfl <;> rfl) (by have := HLL.out; unfold maxLen; omega) (by have := HLL.out; omega) (Nat.le_trans HSN.out (by simp)) ?_)
    intro v5 w6 hrow hg5 _ hat5
    have hb56 : Below w1.heap.size w5 w6 := ((Below.refl _ w5).alloc HSN.out _).grown hg5 (Nat.le_trans HSN.out (by simp)) (fun g e => (HO5.out.lt g e).1)
    have HN := Lib.hid (OwnX.snoc hc1 hc2 rfl HCS.out (HXG.out.below ((Below.refl _ w5).alloc (Nat.le_refl _) _) HHI.out) (Nat.le_trans HBB.out.size HW3.out.size) (Nat.le_trans HHI.out (by simp)) (fun g e => .inl (Nat.lt_of_lt_of_le (HO.out.lt g e).2 HW3.out.size)) hrow hg5 (by simpa using hat5))
    have HB6 := Lib.hid (HBB.out.trans ((HW5.out.mono HBB.out.size).trans hb56))
    clear hrow hg5 hat5 hb56 hc1 hc2 hc3 z0 z1 z2 z3 z4 z5 z6 HB5
    go_wp2_with fail
    go_roundw
    case rel => exact ⟨k + 1, _, by omega, by go_num, HTT, HN.out, HB6.out⟩
    case measure => simp [intOf]; omega
  ·obtain rfl : k = l.length := by omega
   have d1 : decide ((l.length : Int) < (l.length : Int)) = false := decide_eq_false (by omega)
   have HF : Hid (resRs tn cols l = .inl l') := Lib.hid (by have := HR.out; rwa [List.take_length] at this)
   obtain ⟨⟨av, cv, ev⟩, hdone⟩ := HO.out.done (by rw [resRs_len HF.out]; omega)
   have HDN := Lib.hid hdone
   clear hdone HO HR
   subst ev
   have f06 := HD0.out.free 6
   have p06 := HD0.out.cell 6 rfl
   go_upto_region 21 with (fail)
   refine name_setT (K := Code.wp _ _ _ _) HD0.out fun w7 hL hw7 hs7 ho7 => ?_
   have HL0 := Lib.hid hL
   have HD7 : Hid (Blk w7 (w.heap.size + 1) _ 31) := Lib.hid ((ho7 _ (by omega)).trans HD1.out)
   have HW7 := Lib.hid (HWr.out.trans hw7)
   have HO7 := Lib.hid ho7
   have HS7 := Lib.hid hs7
   clear hL hw7 hs7 ho7 f06 p06 HD0 HD1
   have z0 := HL0.out.cell 0 rfl
   have z1 := HL0.out.cell 1 rfl
   have z2 := HL0.out.cell 2 rfl
   have z3 := HL0.out.cell 3 rfl
   have z4 := HL0.out.cell 4 rfl
   have z5 := HL0.out.cell 5 rfl
   have z6 := HL0.out.cell 6 rfl
   have r0 := HD7.out.cell 0 rfl
   have r1 := HD7.out.cell 1 rfl
   have r2 := HD7.out.cell 2 rfl
   have r3 := HD7.out.cell 3 rfl
   have r4 := HD7.out.cell 4 rfl
   have r5 := HD7.out.cell 5 rfl
   have r6 := HD7.out.cell 6 rfl
   have f0 := HD7.out.free 0
   have f1 := HD7.out.free 1
   have f2 := HD7.out.free 2
   have f3 := HD7.out.free 3
   have f4 := HD7.out.free 4
   have f5 := HD7.out.free 5
   have f6 := HD7.out.free 6
   go_wp2_with fail
   refine name_set7 (K := fun w' => bodyPost _ _ _ _ _ w') HD7.out fun w10 hM => ?_
   exact bodyPost_ret (results_cell_tmp Tryz.results69 _ _ (w.heap.size + 1) _ _ (0, 0) _ _ rfl rfl hM.blk Tryz.underlying31 (by kernel_rfl)) rfl ⟨by rw [HF.out]; exact ⟨av, cv, rfl, fun w'' hw'' => xr_node w'' op int vk vi vs nm l' _ HV1.out HV2.out (HDN.out w'' fun b b1 b2 => (hw'' b (by have := HS1.out; omega) (by rw [hM.size, HS7.out]; exact b2)).trans ((hM.far b (by have := HS1.out; omega)).trans (HO7.out b (by have := HS1.out; omega))))⟩, HW7.out.trans (hM.low.mono (by omega))⟩
end Go.Proofs.YtnlimlboedohgaaGreatDoor.Px

/-
  Any expression: the program's resolve, given what names refer to. (Printed by gen_bpleaf2.py.)
-/
namespace Go.Proofs.YtnlimlboedohgaaGreatDoor.Px
open Go Go.RowKit Go.Proofs.YtnlimlboedohgaaGreatDoor.Ps
set_option linter.unusedVariables false
set_option linter.unusedSimpArgs false
theorem resolve_name (g : Nat) (V : Int) (int vk vi : Int) (vs nm : S) (a3 : Option Addr) (n3 c3 : Nat) (w : World) (HN : ∀ w', Below w.heap.size w w' → Calls Tryz.prog 115 #[.pointer (some ⟨g, 0, none⟩), .string ⟨nm.toArray⟩] w' (Ret w' (repT V))) : Calls Tryz.prog 69 #[.pointer (some ⟨g, 0, none⟩), .agg #[.int .i64 3, .int .i64 int, .int .i64 vk, .int .i64 vi, .string ⟨vs.toArray⟩, .string ⟨nm.toArray⟩, .slice a3 n3 c3]] w (Ret w (repT V)) := by
 have HNN := Lib.hid HN
 clear HN
 go_enter Tryz.func69, Tryz.ntmps69
 go_upto_region 1 with (fail)
 refine name_alloc2 (K := Code.wp _ _ _ _) fun w1 hB0 hB1 hw1 hsz => ?_
 have HB0 := Lib.hid hB0
 have HB1 := Lib.hid hB1
 have HW1 := Lib.hid hw1
 clear hB0 hB1 hw1 hsz
 have q0 := HB0.out.cell 0 rfl
 have q1 := HB0.out.cell 1 rfl
 have q2 := HB0.out.cell 2 rfl
 have q3 := HB0.out.cell 3 rfl
 have q4 := HB0.out.cell 4 rfl
 have q5 := HB0.out.cell 5 rfl
 have q6 := HB0.out.cell 6 rfl
 go_wp2_with fail
 refine (HNN.out w1 HW1.out).mono ?_
 rintro e w2 ⟨rfl, hw2⟩
 have HC1 := Lib.hid (HB1.out.below hw2)
 have HW2 := Lib.hid (HW1.out.trans (hw2.mono HW1.out.size))
 clear hw2 q0 q1 q2 q3 q4 q5 q6 HB1 HB0 HW1
 by_cases hv : V < 0
 ·have HT : Hid (repT V = .tuple #[zeroV, .int .i64 11]) := Lib.hid (by unfold repT; rw [if_pos hv])
  have ht : repT V = .tuple #[.agg #[.int .i64 0, .int .i64 0, .int .i64 0, .int .i64 0, .string ⟨#[]⟩, .string ⟨#[]⟩, .slice none 0 0], .int .i64 11] := HT.out
  rw [ht]
  clear ht hv
  have r0 := HC1.out.cell 0 rfl
  have r1 := HC1.out.cell 1 rfl
  have r2 := HC1.out.cell 2 rfl
  have r3 := HC1.out.cell 3 rfl
  have r4 := HC1.out.cell 4 rfl
  have r5 := HC1.out.cell 5 rfl
  have r6 := HC1.out.cell 6 rfl
  have f0 := HC1.out.free 0
  have f1 := HC1.out.free 1
  have f2 := HC1.out.free 2
  have f3 := HC1.out.free 3
  have f4 := HC1.out.free 4
  have f5 := HC1.out.free 5
  have f6 := HC1.out.free 6
  go_wp2_with fail
  refine name_set7 (K := fun w' => bodyPost _ _ _ _ _ w') HC1.out fun w3 hM => ?_
  exact bodyPost_ret (results_cell_tmp Tryz.results69 _ _ (w.heap.size + 1) _ _ (0, 0) _ _ rfl rfl hM.blk Tryz.underlying31 (by kernel_rfl)) rfl ⟨by rw [HT.out]; rfl, HW2.out.trans (hM.low.mono (by omega))⟩
 ·have HT : Hid (repT V = .tuple #[.agg #[.int .i64 2, .int .i64 V, .int .i64 0, .int .i64 0, .string ⟨#[]⟩, .string ⟨#[]⟩, .slice none 0 0], .int .i64 0]) := Lib.hid (by unfold repT; rw [if_neg hv])
  have ht := HT.out
  rw [ht]
  clear ht hv
  have r0 := HC1.out.cell 0 rfl
  have r1 := HC1.out.cell 1 rfl
  have r2 := HC1.out.cell 2 rfl
  have r3 := HC1.out.cell 3 rfl
  have r4 := HC1.out.cell 4 rfl
  have r5 := HC1.out.cell 5 rfl
  have r6 := HC1.out.cell 6 rfl
  have f0 := HC1.out.free 0
  have f1 := HC1.out.free 1
  have f2 := HC1.out.free 2
  have f3 := HC1.out.free 3
  have f4 := HC1.out.free 4
  have f5 := HC1.out.free 5
  have f6 := HC1.out.free 6
  go_wp2_with fail
  refine name_set7 (K := fun w' => bodyPost _ _ _ _ _ w') HC1.out fun w3 hM => ?_
  exact bodyPost_ret (results_cell_tmp Tryz.results69 _ _ (w.heap.size + 1) _ _ (0, 0) _ _ rfl rfl hM.blk Tryz.underlying31 (by kernel_rfl)) rfl ⟨by rw [HT.out]; rfl, HW2.out.trans (hM.low.mono (by omega))⟩
theorem resolve_call (tn : Option S) (cols : List S) (g : Nat) (v1 v2 v3 : Value) (V : S → Int) (w0 : World) (hV : ∀ s, nameR tn cols s = if V s < 0 then .no 11 else .ok (colX (V s)))
  (HN : ∀ (s : S) (w' : World), s.length < 4294967281 → Below w0.heap.size w0 w' → Calls Tryz.prog 115 #[.pointer (some ⟨g, 0, none⟩), .string ⟨s.toArray⟩] w' (Ret w' (repT (V s)))) :
  ∀ (N : Nat) (x : X) (cs : List Value) (w : World), nodes x ≤ N → N ≤ 1000000 → shortX x → Below w0.heap.size w0 w → EC w g 0 [.int .i64 0, v1, v2, v3] → XR w x cs →
  Calls Tryz.prog 69 #[.pointer (some ⟨g, 0, none⟩), .agg cs.toArray] w (RepPost w (resR tn cols x))
 | 0, x, _, _, h, _, _, _, _, _ => absurd (nodes_pos x) (by omega)
 | N + 1, .mk op int vk vi vs nm l, cs, w, hn, hN, hs, hw0, he, h => by
  rw [nodes] at hn
  rw [shortX] at hs
  have hlen := len_nodes l
  by_cases h3 : op = 3
  ·subst h3
   obtain ⟨ax, mx, rfl, _⟩ := h.lits
   rw [resR_name, hV]
   exact (resolve_name g (V nm) int vk vi vs nm ax l.length mx w fun w' hw' => HN nm w' hs.1.2 (hw0.trans (hw'.mono hw0.size))).mono fun e w' hp => RepPost.name hp
  ·by_cases h26 : op = 26
   ·subst h26
    obtain ⟨ax, mx, rfl, _⟩ := h.lits
    rw [resR_bound]
    exact (resolve_bound g v1 v2 v3 int vk vi vs nm _ _ _ w he).mono fun e w' hp => RepPost.fail hp
   ·by_cases h25 : op = 25
    ·subst h25
     rw [resR_rel]
     cases l with
     | nil =>
      obtain ⟨ax, mx, rfl, _⟩ := h.lits
      exact (resolve_rel_nil g int vk vi vs nm _ _ w).mono fun e w' hp => RepPost.leaf (by decide) (by decide) hp
     | cons y l =>
      exact (resolve_rel_cons g v1 v2 v3 int vk vi vs nm (y :: l) cs w he (by simp) (by omega) h).mono fun e w' hp => RepPost.fail hp
    ·rw [resR_node h3 h26 h25]
     exact resolve_node tn cols g op int vk vi vs nm l cs w h3 h26 h25 (by omega) h fun k hk us w' hw hx =>
      resolve_call tn cols g v1 v2 v3 V w0 hV HN N l[k] us w' (by have := nodes_le (List.getElem_mem hk); omega) (by omega) (short_mem hs.2 (List.getElem_mem hk)) (hw0.trans (hw.mono hw0.size)) ⟨Nat.lt_of_lt_of_le he.1 hw.size, fun j u hj => he.at_ hw hj⟩ hx
end Go.Proofs.YtnlimlboedohgaaGreatDoor.Px

/-
  An expression bound, and a condition: the program's. (Printed by gen_bdbind.py.)
-/
namespace Go.Proofs.YtnlimlboedohgaaGreatDoor.Px
open Go Go.RowKit Go.Proofs.YtnlimlboedohgaaGreatDoor.Ps
set_option linter.unusedVariables false
set_option linter.unusedSimpArgs false
theorem bind_call (g : Nat) (v1 v3 : Value) (ak : Option Addr) (ck : Nat) (ks : List Int) (r : RX) (cs : List Value) (x : X) (w : World) (he : EC w g 0 [.int .i64 0, v1, .slice ak ks.length ck, v3]) (hv : SI w ks ak) (hks : ks.length ≤ 1000000) (h : XR w x cs) (hrn : ∀ y, r = .ok y → nodes y ≤ 1000000 ∧ shortX y) (hre : ∀ q, r = .no q → q ≠ 0)
  (HR : ∀ w', Below w.heap.size w w' → Calls Tryz.prog 69 #[.pointer (some ⟨g, 0, none⟩), .agg cs.toArray] w' (RepPost w' r)) :
  Calls Tryz.prog 37 #[.pointer (some ⟨g, 0, none⟩), .agg cs.toArray] w (BindPost w (bindR ks r)) := by
 obtain ⟨op, int, vk, vi, vs, nm, l⟩ := x
 obtain ⟨a, m, rfl, hl, _, _, _⟩ := h.lits
 have HRR := Lib.hid HR
 have HV := Lib.hid hv
 have HRN := Lib.hid hrn
 have HRE := Lib.hid hre
 have HE := Lib.hid he
 clear h hl HR hv hrn hre he
 go_enter Tryz.func37, Tryz.ntmps37
 go_upto_region 1 with (fail)
 refine name_alloc2 (K := Code.wp _ _ _ _) fun w1 hB1 hB2 hw1 hsz => ?_
 have HS1 := Lib.hid hsz
 have HB2 := Lib.hid hB2
 have HW1 := Lib.hid hw1
 have q0 := (Lib.hid hB1).out.cell 0 rfl
 have q1 := (Lib.hid hB1).out.cell 1 rfl
 have q2 := (Lib.hid hB1).out.cell 2 rfl
 have q3 := (Lib.hid hB1).out.cell 3 rfl
 have q4 := (Lib.hid hB1).out.cell 4 rfl
 have q5 := (Lib.hid hB1).out.cell 5 rfl
 have q6 := (Lib.hid hB1).out.cell 6 rfl
 clear hB1 hB2 hw1 hsz
 go_wp2_with fail
 refine (HRR.out w1 HW1.out).mono ?_
 intro e w2 hp
 have HC2 := Lib.hid (HB2.out.below hp.2)
 have HW2 := Lib.hid (HW1.out.trans (hp.2.mono HW1.out.size))
 have HS2 := Lib.hid hp.2.size
 have hp1 := hp.1
 clear hp HB2 HW1 HRR q0 q1 q2 q3 q4 q5 q6
 cases r with
 | no q =>
  have hq := HRE.out q rfl
  have q0 : (q != 0) = true := by simpa using hq
  have hp1 : e = .returned (.tuple #[zeroV, .int .i64 q]) := hp1
  subst hp1
  clear hq
  unfold zeroV
  go_upto_region 2 with (fail)
  refine name_alloc (K := Code.wp _ _ _ _) fun w3 hB3 hw3 hsz3 => ?_
  have HD2 := Lib.hid (HC2.out.below hw3)
  have HW3 := Lib.hid (HW2.out.trans (hw3.mono HW2.out.size))
  clear hB3 hw3 hsz3 HC2 HW2
  have r0 := HD2.out.cell 0 rfl
  have r1 := HD2.out.cell 1 rfl
  have r2 := HD2.out.cell 2 rfl
  have r3 := HD2.out.cell 3 rfl
  have r4 := HD2.out.cell 4 rfl
  have r5 := HD2.out.cell 5 rfl
  have r6 := HD2.out.cell 6 rfl
  have f0 := HD2.out.free 0
  have f1 := HD2.out.free 1
  have f2 := HD2.out.free 2
  have f3 := HD2.out.free 3
  have f4 := HD2.out.free 4
  have f5 := HD2.out.free 5
  have f6 := HD2.out.free 6
  go_wp2_with fail
  refine name_set7 (K := fun w' => bodyPost _ _ _ _ _ w') HD2.out fun w9 hM => ?_
  exact bodyPost_ret (results_cell_tmp2 Tryz.results37 _ _ (w.heap.size + 1) _ _ (0, 0) _ _ _ rfl rfl rfl hM.blk Tryz.underlying31 (by kernel_rfl)) rfl ⟨rfl, HW3.out.trans (hM.low.mono (by omega))⟩
 | ok y =>
  obtain ⟨hny, hsy⟩ := HRN.out y rfl
  obtain ⟨yop, yint, yvk, yvi, yvs, ynm, yl⟩ := y
  obtain ⟨ya, ym, rfl, hxf⟩ := (hp1 : ∃ a m, e = .returned (.tuple #[.agg (xc (.mk yop yint yvk yvi yvs ynm yl) a m).toArray, .int .i64 0]) ∧ XF w1.heap.size w2.heap.size w2 (.mk yop yint yvk yvi yvs ynm yl) (xc (.mk yop yint yvk yvi yvs ynm yl) a m))
  simp only [xc] at hxf ⊢
  have HX := Lib.hid hxf
  clear hxf
  go_upto_region 2 with (fail)
  refine name_alloc (K := Code.wp _ _ _ _) fun w3 hB3 hw3 hsz3 => ?_
  have HD2 := Lib.hid (HC2.out.below hw3)
  have HD3 := Lib.hid hB3
  have HW3 := Lib.hid (HW2.out.trans (hw3.mono HW2.out.size))
  have HX3 := Lib.hid (HX.out.below hw3 (Nat.le_refl _))
  have HS3 := Lib.hid hw3.size
  have HLT : Hid (w2.heap.size < w3.heap.size) := Lib.hid hB3.lt
  have p2 := HE.out.at_ HW3.out (j := 2) rfl
  clear hB3 hw3 hsz3 HC2 HW2 HX
  have z0 := HD3.out.cell 0 rfl
  have z1 := HD3.out.cell 1 rfl
  have z2 := HD3.out.cell 2 rfl
  have z3 := HD3.out.cell 3 rfl
  have z4 := HD3.out.cell 4 rfl
  have z5 := HD3.out.cell 5 rfl
  have z6 := HD3.out.cell 6 rfl
  have HCKF := Lib.hid fun (w' : World) (hw' : Below w3.heap.size w3 w') => (eCheck_call (.mk yop yint yvk yvi yvs ynm yl) [.int .i64 yop, .int .i64 yint, .int .i64 yvk, .int .i64 yvi, .string ⟨yvs.toArray⟩, .string ⟨ynm.toArray⟩, .slice ya yl.length ym] w' ks ak ck hny hsy hks ((HV.out.below HW3.out).below hw') (HX3.out.below hw' (by have := HLT.out; omega)).now)
  have HQ : Hid (bindR ks (.ok (.mk yop yint yvk yvi yvs ynm yl)) = if (chk ks (.mk yop yint yvk yvi yvs ynm yl)).2 = 0 then .inl ((.mk yop yint yvk yvi yvs ynm yl), (chk ks (.mk yop yint yvk yvi yvs ynm yl)).1) else .inr (chk ks (.mk yop yint yvk yvi yvs ynm yl)).2) := Lib.hid rfl
  generalize chk ks (.mk yop yint yvk yvi yvs ynm yl) = qq at HCKF HQ
  obtain ⟨q1, q2⟩ := qq
  clear HV HRN HRE hny hsy
  go_upto_region 4 with (fail)
  refine Gr.region_grow 10 (by kernel_rfl) (by kernel_rfl) (fun w' => Below w3.heap.size w3 w') ⟨rfl, rfl, rfl, Nat.le_refl _, fun _ _ => rfl⟩ ?_
  simp only [List.take_succ_cons, List.take_zero, List.drop_succ_cons, List.drop_zero]
  clear p2 z0 z1 z2 z3 z4 z5 z6
  refine Gr.line_step _ (by go_simp; intro w' hw'; have z0 := (HD3.out.below hw').cell 0 rfl; have z1 := (HD3.out.below hw').cell 1 rfl; have z2 := (HD3.out.below hw').cell 2 rfl; have z3 := (HD3.out.below hw').cell 3 rfl; have z4 := (HD3.out.below hw').cell 4 rfl; have z5 := (HD3.out.below hw').cell 5 rfl; have z6 := (HD3.out.below hw').cell 6 rfl; go_simp; rw [Gr.grown_value]) ?_
  iterate 3
   refine Gr.line_norm fun K hK => ?_; go_simp; refine hK _ ?_; clear hK K
   refine Gr.line_step _ (by go_simp; intro w' hw'; go_simp; rw [Gr.grown_value]) ?_
  refine Gr.line_norm fun K hK => ?_; go_simp; refine hK _ ?_; clear hK K
  refine Gr.line_step _ (by go_simp; intro w' hw'; have p2 := HE.out.at_ (HW3.out.trans (hw'.mono HW3.out.size)) (j := 2) rfl; go_simp; rw [Gr.grown_value]) ?_
  refine Gr.line_norm fun K hK => ?_; go_simp; refine hK _ ?_; clear hK K
  refine Gr.line_step (.tuple #[.int .i64 q1, .int .i64 q2]) (by go_simp; intro w' hw'; go_simp; rw [Gr.grown_enter]; exact Ret.fam (HCKF.out w' hw') hw') ?_
  iterate 4
   refine Gr.line_norm fun K hK => ?_; go_simp; refine hK _ ?_; clear hK K
   refine Gr.line_step _ (by go_simp; intro w' hw'; go_simp; rw [Gr.grown_value]) ?_
  refine Gr.line_norm fun K hK => ?_; go_simp; refine hK _ ?_; clear hK K
  refine Gr.line_nil fun w4 hw4 => ?_
  have HE2 := Lib.hid (HD2.out.below hw4)
  have HE3 := Lib.hid (HD3.out.below hw4)
  have HW4 := Lib.hid (HW3.out.trans (hw4.mono HW3.out.size))
  have HX4 := Lib.hid (HX3.out.below hw4 (by have := HLT.out; omega))
  have HS4 := Lib.hid hw4.size
  clear hw4 HD2 HD3 HW3 HX3 HCKF
  have r0 := HE2.out.cell 0 rfl
  have r1 := HE2.out.cell 1 rfl
  have r2 := HE2.out.cell 2 rfl
  have r3 := HE2.out.cell 3 rfl
  have r4 := HE2.out.cell 4 rfl
  have r5 := HE2.out.cell 5 rfl
  have r6 := HE2.out.cell 6 rfl
  have f0 := HE2.out.free 0
  have f1 := HE2.out.free 1
  have f2 := HE2.out.free 2
  have f3 := HE2.out.free 3
  have f4 := HE2.out.free 4
  have f5 := HE2.out.free 5
  have f6 := HE2.out.free 6
  have s0 := HE3.out.cell 0 rfl
  have s1 := HE3.out.cell 1 rfl
  have s2 := HE3.out.cell 2 rfl
  have s3 := HE3.out.cell 3 rfl
  have s4 := HE3.out.cell 4 rfl
  have s5 := HE3.out.cell 5 rfl
  have s6 := HE3.out.cell 6 rfl
  by_cases hq : q2 = 0
  ·subst hq
   have HF : Hid (bindR ks (.ok (.mk yop yint yvk yvi yvs ynm yl)) = .inl ((.mk yop yint yvk yvi yvs ynm yl), q1)) := Lib.hid (by rw [HQ.out]; rfl)
   go_wp2_with fail
   refine name_set7 (K := fun w' => bodyPost _ _ _ _ _ w') HE2.out fun w9 hM => ?_
   exact bodyPost_ret (results_cell_tmp2 Tryz.results37 _ _ (w.heap.size + 1) _ _ (0, 0) _ _ _ rfl rfl rfl hM.blk Tryz.underlying31 (by kernel_rfl)) rfl ⟨by rw [HF.out]; exact ⟨ya, ym, rfl, XF.same HX4.out (fun b b1 b2 => hM.far b (by have := HS1.out; omega)) (by have := HS1.out; omega) (by rw [hM.size]; have := HS3.out; have := HS4.out; omega)⟩, HW4.out.trans (hM.low.mono (by omega))⟩
  ·have HF : Hid (bindR ks (.ok (.mk yop yint yvk yvi yvs ynm yl)) = .inr q2) := Lib.hid (by rw [HQ.out, if_neg hq])
   have d2 : (q2 != 0) = true := by simpa using hq
   clear hq
   go_wp2_with fail
   refine name_set7 (K := fun w' => bodyPost _ _ _ _ _ w') HE2.out fun w9 hM => ?_
   exact bodyPost_ret (results_cell_tmp2 Tryz.results37 _ _ (w.heap.size + 1) _ _ (0, 0) _ _ _ rfl rfl rfl hM.blk Tryz.underlying31 (by kernel_rfl)) rfl ⟨by rw [HF.out]; rfl, HW4.out.trans (hM.low.mono (by omega))⟩
end Go.Proofs.YtnlimlboedohgaaGreatDoor.Px

/-
  A condition bound: the program's. (Printed by gen_bdcond.py.)
-/
namespace Go.Proofs.YtnlimlboedohgaaGreatDoor.Px
open Go Go.RowKit Go.Proofs.YtnlimlboedohgaaGreatDoor.Ps
set_option linter.unusedVariables false
set_option linter.unusedSimpArgs false
end Go.Proofs.YtnlimlboedohgaaGreatDoor.Px

/-
  A condition on a table: the program's. (Printed by gen_bdwhere.py.)
-/
namespace Go.Proofs.YtnlimlboedohgaaGreatDoor.Px
open Go Go.RowKit Go.Proofs.YtnlimlboedohgaaGreatDoor.Ps
set_option linter.unusedVariables false
set_option linter.unusedSimpArgs false
end Go.Proofs.YtnlimlboedohgaaGreatDoor.Px
