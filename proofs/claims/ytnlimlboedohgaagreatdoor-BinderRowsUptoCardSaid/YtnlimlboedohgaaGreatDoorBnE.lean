import Derived.Test.YtnlimlboedohgaaGreatDoorBnC
import Derived.Test.YtnlimlboedohgaaGreatDoorGrA
import Derived.Maps.GroupsBeside
import Derived.StringKeys
/-
  The program's scope in a mode without bounds: bound, relate, find. (Printed by gen_bpa.py.)
-/
set_option maxHeartbeats 8000000
set_option maxRecDepth 100000
namespace Go.Proofs.YtnlimlboedohgaaGreatDoor.Px
open Go Go.RowKit Go.Proofs.YtnlimlboedohgaaGreatDoor.Ps
set_option linter.unusedVariables false
set_option linter.unusedSimpArgs false
theorem bound_none (s : S) (g : Nat) (v1 v2 v3 : Value) (w : World) (he : EC w g 0 [.int .i64 0, v1, v2, v3]) : Calls Tryz.prog 117 #[.pointer (some ⟨g, 0, none⟩), .string ⟨s.toArray⟩] w (Ret w (.tuple #[.int .i64 0, .int .i64 15])) := by
 have e0 := he.at0 (Below.refl _ _) rfl
 clear he
 go_enter Tryz.func117, Tryz.ntmps117
 go_wp2_with fail
 go_ret2
 exact ⟨rfl, Below.refl _ _⟩
theorem relate_nil (g : Nat) (op int vk vi : Int) (vs nm : S) (a3 : Option Addr) (c3 : Nat) (w : World) : Calls Tryz.prog 116 #[.pointer (some ⟨g, 0, none⟩), .agg #[.int .i64 op, .int .i64 int, .int .i64 vk, .int .i64 vi, .string ⟨vs.toArray⟩, .string ⟨nm.toArray⟩, .slice a3 0 c3]] w (Ret w (.tuple #[.agg #[.int .i64 24, .int .i64 int, .int .i64 0, .int .i64 0, .string ⟨#[]⟩, .string ⟨#[]⟩, .slice none 0 0], .int .i64 0])) := by
 go_enter Tryz.func116, Tryz.ntmps116
 go_upto_region 1 with (fail)
 refine nB fun w1 hB0 hB1 hw1 hsz => ?_
 have HB0 := h_ hB0
 have HB1 := h_ hB1
 have HW1 := h_ hw1
 have p1 := hB0.cell 1 rfl
 clear hB0 hB1 hw1
 go_upto_region 2 with (fail)
 refine nA fun w2 hB2 hw2 hsz2 => ?_
 rw [hsz] at hB2
 have HB2 := h_ hB2
 have HC0 := h_ (HB0.out.below hw2)
 have HC1 := h_ (HB1.out.below hw2)
 have HW2 := t_ HW1 hw2
 clear hB2 hw2 hsz2 hsz HB0 HB1 HW1 p1
 have p6 := HC0.out.cell 6 rfl
 go_upto_region 3 with (fail)
 go_loopw [17] (fun i wr => i = .int .i64 0 /\ wr = w2) (fun _ _ => 0)
 case atStart => exact ⟨rfl, rfl⟩
 case round =>
  obtain ⟨rfl, rfl⟩ := hrel
  obtain ⟨q0, q1, q2, q3, q4, q5, q6⟩ := HB2.out.c7
  obtain ⟨r0, r1, r2, r3, r4, r5, r6, f0, f1, f2, f3, f4, f5, f6⟩ := HC1.out.f7
  go_wp2_with fail
  refine name_set7 (K := fun w' => bodyPost _ _ _ _ _ w') HC1.out fun w3 hM => ?_
  exact bodyPost_ret (results_cell_tmp Tryz.results116 _ _ (w.heap.size + 1) _ _ (0, 0) _ _ rfl rfl hM.blk Tryz.underlying31 (by kernel_rfl)) rfl ⟨rfl, HW2.out.trans (hM.low.mono (by omega))⟩
theorem relate_cons (g : Nat) (v1 v2 v3 : Value) (op int vk vi : Int) (vs nm : S) (l : List X) (cs : List Value) (w : World) (he : EC w g 0 [.int .i64 0, v1, v2, v3]) (hl0 : 0 < l.length) (hn : l.length <= 1000000) (h : XR w (.mk op int vk vi vs nm l) cs) : Calls Tryz.prog 116 #[.pointer (some ⟨g, 0, none⟩), .agg cs.toArray] w (Ret w (.tuple #[zeroV, .int .i64 15])) := by
 obtain ⟨a, m, rfl, hl, _, _, _⟩ := h.lits
 have HL := h_ hl
 have HE := h_ he
 clear h hl he
 go_enter Tryz.func116, Tryz.ntmps116
 go_upto_region 1 with (fail)
 refine nB fun w1 hB0 hB1 hw1 hsz => ?_
 have HB0 := h_ hB0
 have HB1 := h_ hB1
 have HW1 := h_ hw1
 have p1 := hB0.cell 1 rfl
 clear hB0 hB1 hw1
 go_upto_region 2 with (fail)
 refine nA fun w2 hB2 hw2 hsz2 => ?_
 have HC0 := h_ (HB0.out.below hw2)
 have HC1 := h_ (HB1.out.below hw2)
 have HW2 := t_ HW1 hw2
 clear hB2 hw2 hsz2 hsz HB0 HB1 HW1 p1
 have p6 := HC0.out.cell 6 rfl
 go_upto_region 3 with (fail)
 go_loopw [17] (fun i wr => i = .int .i64 0 /\ wr = w2) (fun _ _ => 0)
 case atStart => exact ⟨rfl, rfl⟩
 case round =>
  obtain ⟨rfl, rfl⟩ := hrel
  have k1 : (0 : Int) < (l.length : Int) := by omega
  obtain ⟨ge, o, us, eq, hec, hkx, hrx⟩ := HL.out.ec hl0
  subst eq
  have hec : EC w ge o us := by simpa using hec
  generalize l[0] = x0 at hrx
  obtain ⟨eop, eint, evk, evi, evs, enm, el⟩ := x0
  obtain ⟨ea, em, rfl, _⟩ := hrx.lits
  obtain ⟨e0, e1, e2, e3, e4, e5, e6⟩ := hec.c7 HW2.out
  clear hrx hec
  go_upto_region 5 with (fail)
  refine nA fun w3 hB3 hw3 hsz3 => ?_
  have HW3 := t_ HW2 hw3
  have HD1 := h_ (HC1.out.below hw3)
  have p3 := hB3.cell 5 rfl
  clear hB3 hw3 hsz3 HC0 HC1 e0 e1 e2 e3 e4 e5 e6 p6
  go_wp2_with fail
  refine (bound_none enm g v1 v2 v3 w3 (by have := HE.out; exact ⟨Nat.lt_of_lt_of_le this.1 HW3.out.size, fun j u hj => this.at_ HW3.out hj⟩)).mono ?_
  rintro e w4 ⟨rfl, hw4⟩
  have HW4 := t_ HW3 hw4
  have HE1 := h_ (HD1.out.below hw4)
  clear hw4 HD1 p3
  obtain ⟨r0, r1, r2, r3, r4, r5, r6, f0, f1, f2, f3, f4, f5, f6⟩ := HE1.out.f7
  go_wp2_with fail
  refine name_set7 (K := fun w' => bodyPost _ _ _ _ _ w') HE1.out fun w5 hM => ?_
  exact bodyPost_ret (results_cell_tmp Tryz.results116 _ _ (w.heap.size + 1) _ _ (0, 0) _ _ rfl rfl hM.blk Tryz.underlying31 (by kernel_rfl)) rfl ⟨rfl, HW4.out.trans (hM.low.mono (by omega))⟩
theorem keyS : Go.Maps.Keyed Tryz.prog 9 := Go.Maps.Keyed.of_law (Go.WideMaps.string_law Tryz.underlying9)
/-- what the map of the first k columns reads as -/
def colsD (L : List Col) : Nat -> DataW Unit
 | 0 => .map []
 | k + 1 => (colsD L k).put (.string ((L.map (·.nm)).getD k [])) (.slice (Go.ChangeShapes.lits .i64 [(k : Int)]) [])
def Distinct (L : List Col) : Prop := ∀ i j (hi : i < L.length) (hj : j < L.length), L[i].nm = L[j].nm -> i = j
abbrev Gps (w : World) (base b n : Nat) (D : DataW Unit) : Prop := w.ownsGroups Tryz.prog 9 base 3 .i64 b n D
theorem Gps.made {w : World} {base b : Nat} (h : w.heap[b]? = some (.map #[] 0)) (hb : b < base) : Gps w base b 0 (.map []) :=
 ⟨#[], 0, h, ⟨by simp, Go.MapKept.stamped_empty 0, by simp⟩, Nat.le_refl _, rfl, hb, by simp, by simp⟩
theorem grown_below {w w' : World} (h : Below w.heap.size w w') (row : Option Nat) : w.grownBy w' row := ⟨h.os, h.tape, h.output, h.size, fun i hi _ => h.block i hi⟩
theorem Gps.below {w w' : World} {base b n : Nat} {D : DataW Unit} (h : Gps w base b n D) (hb : Below w.heap.size w w') : Gps w' base b n D :=
 h.kept (grown_below hb none) (by simp) (fun _ _ _ x _ => by cases x.val.ownBlock <;> simp)
theorem Shuns.below {w w' : World} {b : Nat} {No : Nat -> Prop} {base n : Nat} {D : DataW Unit} (h : w.Shuns b No) (hg : Gps w base b n D) (hb : Below w.heap.size w w') : w'.Shuns b No :=
 h.kept (grown_below hb none) (by obtain ⟨es, clock, hb, _⟩ := hg; exact (Array.getElem?_eq_some_iff.1 hb).1) (by simp)
theorem zeroSlice (w : World) : (zeroValue 23).run Tryz.prog w = .ok (.slice none 0 0) w := by kernel_rfl
/-- at a key that is not there: nil, in this world and in those that differ in other blocks -/
theorem Gps.fresh {w : World} {base b n : Nat} {D : DataW Unit} {s : S} (h : Gps w base b n D) (hn : n < maxLen) (hs : s.length <= maxLen) (hD : D.atKey (.string s) .nil = .nil) :
  (Instr.lookup 155 (.map (some b)) (.string ⟨s.toArray⟩) false).run Tryz.prog w = .ok (.slice none 0 0) w /\ w.groupBack Tryz.prog 155 9 base 3 .i64 b n D (.string ⟨s.toArray⟩) (.string s) (.slice none 0 0) := by
 obtain ⟨v, zs, hrun, hat, hoi, _, hback⟩ := h.at (key := .string ⟨s.toArray⟩) (kl := .string s) keyS Tryz.underlying155 (zeroSlice w) hn (by have := Go.WideMaps.keyOf_string_mk Tryz.underlying9 (s := ⟨s.toArray⟩) (by simpa [ByteArray.size] using hs); simpa using this)
 rw [hD] at hat
 have hv : v = .slice none 0 0 := by
  rcases hoi.1.2 with ⟨h0, _⟩ | ⟨g, cap, cur, h0, _⟩
  ·exact h0
  ·rw [h0] at hat
   simp [rowDatum] at hat
 subst hv
 exact ⟨hrun, hback⟩
/-- the cells of the one source of a scope of a table -/
def sourceC (tn tn2 : S) (a1 a2 a3 a4 : Option Addr) (n1 m1 n2 m2 n3 m3 n4 m4 : Nat) : List Value := [.string ⟨tn.toArray⟩, .string ⟨tn2.toArray⟩, .slice a1 n1 m1, .slice a2 n2 m2, .slice a3 n3 m3, .slice a4 n4 m4, .int .i64 0, .int .i64 (-1)]
theorem name_set8 {w : World} {g : Nat} {u0 u1 u2 u3 u4 u5 u6 u7 c0 c1 c2 c3 c4 c5 c6 c7 : Value} {t : TypeId} {K : World -> Prop} (hb : Blk w g [c0, c1, c2, c3, c4, c5, c6, c7] t) (h : ∀ w', Wr w g [u0, u1, u2, u3, u4, u5, u6, u7] t w' -> K w') :
  K ((((((((w.setCell ⟨g, 0, none⟩ u0).setCell ⟨g, 1, none⟩ u1).setCell ⟨g, 2, none⟩ u2).setCell ⟨g, 3, none⟩ u3).setCell ⟨g, 4, none⟩ u4).setCell ⟨g, 5, none⟩ u5).setCell ⟨g, 6, none⟩ u6).setCell ⟨g, 7, none⟩ u7) :=
 h _ ((((((((Wr.start hb).set 0 u0).set 1 u1).set 2 u2).set 3 u3).set 4 u4).set 5 u5 |>.set 6 u6).set 7 u7)
/-- a scope of one table -/
def ScP (w : World) (L : List Col) (tn : S) (a a2 a3 a4 : Option Addr) (m n2 m2 n3 m3 n4 m4 gs : Nat) : Prop :=
 ∃ gp c v B b, EC w gs 0 [.int .i64 0, .slice (some ⟨gp, 0, none⟩) 1 c, v, .map (some b)] /\ EC w gp 0 (sourceC tn tn a a2 a3 a4 L.length m n2 m2 n3 m3 n4 m4) /\ OwnI B v (kindsC L) w /\ Gps w B b L.length (colsD L L.length)
theorem ScP.below {w w' : World} {L : List Col} {tn : S} {a a2 a3 a4 : Option Addr} {m n2 m2 n3 m3 n4 m4 gs : Nat} (h : ScP w L tn a a2 a3 a4 m n2 m2 n3 m3 n4 m4 gs) (hb : Below w.heap.size w w') : ScP w' L tn a a2 a3 a4 m n2 m2 n3 m3 n4 m4 gs := by
 obtain ⟨gp, c, v, B, b, h1, h2, h3, h4⟩ := h
 exact ⟨gp, c, v, B, b, ⟨Nat.lt_of_lt_of_le h1.1 hb.size, fun j u hj => h1.at_ hb hj⟩, ⟨Nat.lt_of_lt_of_le h2.1 hb.size, fun j u hj => h2.at_ hb hj⟩, h3.below hb, h4.below hb⟩
theorem EC.of_blk {w : World} {g : Nat} {cs : List Value} {t : TypeId} (h : Blk w g cs t) : EC w g 0 cs := ⟨h.lt, fun j u hj => by rw [Nat.zero_add]; exact h.cell j hj⟩
theorem name_map {K : World -> Prop} {w : World} {cs : List Value} {t : TypeId} (h : ∀ w', w'.heap[w.heap.size]? = some (.map #[] 0) -> Blk w' (w.heap.size + 1) cs t -> Below w.heap.size w w' -> w'.heap.size = w.heap.size + 1 + 1 -> K w') : K ((w.alloc (.map #[] 0)).alloc (.cells cs.toArray t)) := by
 have e2 := Blk.new (w.alloc (.map #[] 0)) cs t
 have s1 : (w.alloc (.map #[] 0)).heap.size = w.heap.size + 1 := by simp
 rw [s1] at e2
 exact h _ ((Below.heap_alloc _ _ _ (by simp)).trans (heap_alloc_new w _)) e2 (((Below.refl _ _).alloc (Nat.le_refl _) _).alloc (by simp) _) (by simp)
theorem wpList_lookup_eq {ops : Array Oper} {rest : List Oper} {o : Oper} {a : Act} {w : World} {Q : Exit -> Act -> World -> Prop} {t : TypeId} {m x : Operand} {b : Nat} {key v : Value} (hg : o.guard = none) (hop : o.op = .lookup t m x false) (hm : a.eval m = .map (some b)) (hx : a.eval x = key) (hr : (Instr.lookup t (.map (some b)) key false).run Tryz.prog w = .ok v w) (h : wpList Tryz.prog ops Q rest (a.put o.dst v) w) : wpList Tryz.prog ops Q (o :: rest) a w := by
 refine wpList_plain hg fun K' hK' => ?_
 unfold Oper.wp
 simp [execOp, hop, hm, hx, hr, Result.andThen]
 exact hK' _ _ h
theorem findN_some {s : S} : ∀ {l : List S} {i k : Nat}, findN s l i = some k -> ∃ j, k = i + j /\ ∃ h : j < l.length, l[j] = s
 | [], _, _, h => by cases h
 | a :: l, i, k, h => by
  unfold findN at h
  split at h
  ·rename_i e
   cases h
   exact ⟨0, rfl, by simp, e⟩
  ·obtain ⟨j, h1, h2, h3⟩ := findN_some h
   exact ⟨j + 1, by omega, by simpa using h2, by simpa using h3⟩
theorem findN_none {s : S} : ∀ {l : List S} {i : Nat}, findN s l i = none -> ∀ a ∈ l, a ≠ s
 | [], _, _, a, ha => by cases ha
 | b :: l, i, h, a, ha => by
  unfold findN at h
  split at h
  ·cases h
  ·rename_i e
   rcases List.mem_cons.1 ha with rfl | ha
   ·exact e
   ·exact findN_none h a ha
theorem findV_cases (L : List Col) (s : S) : (findV L s = -1 /\ ∀ i (hi : i < L.length), L[i].nm ≠ s) \/ ∃ i, ∃ hi : i < L.length, findV L s = (i : Int) /\ L[i].nm = s := by
 unfold findV
 cases h : findN s (L.map (·.nm)) 0 with
 | none => exact .inl ⟨rfl, fun i hi e => findN_none h _ (List.mem_map.2 ⟨L[i], List.getElem_mem hi, rfl⟩) e⟩
 | some k =>
  obtain ⟨j, h1, h2, h3⟩ := findN_some h
  rw [List.length_map] at h2
  rw [List.getElem_map] at h3
  exact .inr ⟨j, h2, by show (k : Int) = _; rw [h1]; simp, h3⟩
theorem resolve_bound (g : Nat) (v1 v2 v3 : Value) (int vk vi : Int) (vs nm : S) (a3 : Option Addr) (n3 c3 : Nat) (w : World) (he : EC w g 0 [.int .i64 0, v1, v2, v3]) : Calls Tryz.prog 69 #[.pointer (some ⟨g, 0, none⟩), .agg #[.int .i64 26, .int .i64 int, .int .i64 vk, .int .i64 vi, .string ⟨vs.toArray⟩, .string ⟨nm.toArray⟩, .slice a3 n3 c3]] w (Ret w (.tuple #[zeroV, .int .i64 15])) := by
 have HE := h_ he
 clear he
 go_enter Tryz.func69, Tryz.ntmps69
 go_upto_region 1 with (fail)
 refine nB fun w1 hB0 hB1 hw1 hsz => ?_
 have HB0 := h_ hB0
 have HB1 := h_ hB1
 have HW1 := h_ hw1
 clear hB0 hB1 hw1 hsz
 obtain ⟨q0, q1, q2, q3, q4, q5, q6⟩ := HB0.out.c7
 go_wp2_with fail
 refine (bound_none nm g v1 v2 v3 w1 ⟨Nat.lt_of_lt_of_le HE.out.1 HW1.out.size, fun j u hj => HE.out.at_ HW1.out hj⟩).mono ?_
 rintro e w2 ⟨rfl, hw2⟩
 have HC1 := h_ (HB1.out.below hw2)
 have HW2 := t_ HW1 hw2
 clear hw2 q0 q1 q2 q3 q4 q5 q6 HB1 HB0 HW1
 obtain ⟨r0, r1, r2, r3, r4, r5, r6, f0, f1, f2, f3, f4, f5, f6⟩ := HC1.out.f7
 go_wp2_with fail
 refine name_set7 (K := fun w' => bodyPost _ _ _ _ _ w') HC1.out fun w3 hM => ?_
 exact bodyPost_ret (results_cell_tmp Tryz.results69 _ _ (w.heap.size + 1) _ _ (0, 0) _ _ rfl rfl hM.blk Tryz.underlying31 (by kernel_rfl)) rfl ⟨rfl, HW2.out.trans (hM.low.mono (by omega))⟩
theorem resolve_rel_nil (g : Nat) (int vk vi : Int) (vs nm : S) (a3 : Option Addr) (c3 : Nat) (w : World)  : Calls Tryz.prog 69 #[.pointer (some ⟨g, 0, none⟩), .agg #[.int .i64 25, .int .i64 int, .int .i64 vk, .int .i64 vi, .string ⟨vs.toArray⟩, .string ⟨nm.toArray⟩, .slice a3 0 c3]] w (Ret w (.tuple #[.agg #[.int .i64 24, .int .i64 int, .int .i64 0, .int .i64 0, .string ⟨#[]⟩, .string ⟨#[]⟩, .slice none 0 0], .int .i64 0])) := by
 go_enter Tryz.func69, Tryz.ntmps69
 go_upto_region 1 with (fail)
 refine nB fun w1 hB0 hB1 hw1 hsz => ?_
 have HB0 := h_ hB0
 have HB1 := h_ hB1
 have HW1 := h_ hw1
 clear hB0 hB1 hw1 hsz
 obtain ⟨q0, q1, q2, q3, q4, q5, q6⟩ := HB0.out.c7
 go_wp2_with fail
 refine (relate_nil g 25 int vk vi vs nm a3 c3 w1).mono ?_
 rintro e w2 ⟨rfl, hw2⟩
 have HC1 := h_ (HB1.out.below hw2)
 have HW2 := t_ HW1 hw2
 clear hw2 q0 q1 q2 q3 q4 q5 q6 HB1 HB0 HW1
 obtain ⟨r0, r1, r2, r3, r4, r5, r6, f0, f1, f2, f3, f4, f5, f6⟩ := HC1.out.f7
 go_wp2_with fail
 refine name_set7 (K := fun w' => bodyPost _ _ _ _ _ w') HC1.out fun w3 hM => ?_
 exact bodyPost_ret (results_cell_tmp Tryz.results69 _ _ (w.heap.size + 1) _ _ (0, 0) _ _ rfl rfl hM.blk Tryz.underlying31 (by kernel_rfl)) rfl ⟨rfl, HW2.out.trans (hM.low.mono (by omega))⟩
theorem resolve_rel_cons (g : Nat) (v1 v2 v3 : Value) (int vk vi : Int) (vs nm : S) (l : List X) (cs : List Value) (w : World) (he : EC w g 0 [.int .i64 0, v1, v2, v3]) (hl0 : 0 < l.length) (hn : l.length <= 1000000) (h : XR w (.mk 25 int vk vi vs nm l) cs) : Calls Tryz.prog 69 #[.pointer (some ⟨g, 0, none⟩), .agg cs.toArray] w (Ret w (.tuple #[zeroV, .int .i64 15])) := by
 have HE := h_ he
 have HX := h_ h
 obtain ⟨a, m, rfl, _⟩ := h.lits
 clear he h
 go_enter Tryz.func69, Tryz.ntmps69
 go_upto_region 1 with (fail)
 refine nB fun w1 hB0 hB1 hw1 hsz => ?_
 have HB0 := h_ hB0
 have HB1 := h_ hB1
 have HW1 := h_ hw1
 clear hB0 hB1 hw1 hsz
 obtain ⟨q0, q1, q2, q3, q4, q5, q6⟩ := HB0.out.c7
 go_wp2_with fail
 refine (relate_cons g v1 v2 v3 25 int vk vi vs nm l _ w1 ⟨Nat.lt_of_lt_of_le HE.out.1 HW1.out.size, fun j u hj => HE.out.at_ HW1.out hj⟩ hl0 hn (HX.out.kept HW1.out (Nat.le_refl _))).mono ?_
 rintro e w2 ⟨rfl, hw2⟩
 have HC1 := h_ (HB1.out.below hw2)
 have HW2 := t_ HW1 hw2
 clear hw2 q0 q1 q2 q3 q4 q5 q6 HB1 HB0 HW1
 unfold zeroV
 obtain ⟨r0, r1, r2, r3, r4, r5, r6, f0, f1, f2, f3, f4, f5, f6⟩ := HC1.out.f7
 go_wp2_with fail
 refine name_set7 (K := fun w' => bodyPost _ _ _ _ _ w') HC1.out fun w3 hM => ?_
 exact bodyPost_ret (results_cell_tmp Tryz.results69 _ _ (w.heap.size + 1) _ _ (0, 0) _ _ rfl rfl hM.blk Tryz.underlying31 (by kernel_rfl)) rfl ⟨rfl, HW2.out.trans (hM.low.mono (by omega))⟩
theorem resolve_node (tn : Option S) (cols : List S) (gs : Nat) (op int vk vi : Int) (vs nm : S) (l : List X) (cs : List Value) (w : World) (hop1 : ¬ op = 3) (hop2 : ¬ op = 26) (hop3 : ¬ op = 25) (hn : l.length <= 1000000) (h : XR w (.mk op int vk vi vs nm l) cs)
  (IH : ∀ (k : Nat) (hk : k < l.length) (us : List Value) (w' : World), Below w.heap.size w w' -> XR w' l[k] us -> Calls Tryz.prog 69 #[.pointer (some ⟨gs, 0, none⟩), .agg us.toArray] w' (RepPost w' (resR tn cols l[k]))) :
  Calls Tryz.prog 69 #[.pointer (some ⟨gs, 0, none⟩), .agg cs.toArray] w (RepPost w (nodeR op int vk vi vs nm (resRs tn cols l))) := by
 obtain ⟨ix, hix, hx0, hx1, hx2⟩ := info_parts infoExpr
 obtain ⟨a, m, rfl, hl, h1, h2, _⟩ := h.lits
 have HV1 := h_ h1
 have HV2 := h_ h2
 have HL := h_ hl
 have HIH := h_ IH
 have d1 : (op == 3) = false := by simpa using hop1
 have d2 : (op == 26) = false := by simpa using hop2
 have d3 : (op == 25) = false := by simpa using hop3
 clear h hl hop1 hop2 hop3 IH h1 h2
 go_enter Tryz.func69, Tryz.ntmps69
 go_upto_region 1 with (fail)
 refine nB fun w1 hB0 hB1 hw1 hsz => ?_
 have HB0 := h_ hB0
 have HB1 := h_ hB1
 have HW1 := h_ hw1
 have HS1 := h_ hsz
 obtain ⟨q0, q1, q2, q3, q4, q5, q6⟩ := HB0.out.c7
 clear hB0 hB1 hw1 hsz
 go_upto_region 13 with (fail)
 go_loopw [8, 51] (fun v i wr => ∃ (k : Nat) (l' : List X), k <= l.length /\ i = .int .i64 (k : Int) /\ Hid (resRs tn cols (l.take k) = .inl l') /\ OwnX w1.heap.size v l' wr /\ Below w1.heap.size w1 wr) (fun _ i _ => l.length - (intOf i).toNat)
 case atStart => exact ⟨0, [], Nat.zero_le _, rfl, h_ rfl, OwnX.nil _ _, Below.refl _ _⟩
 case round =>
  obtain ⟨k, l', hk, rfl, HR, hox, hb⟩ := hrel
  have HD0 := h_ (HB0.out.below hb)
  have HD1 := h_ (HB1.out.below hb)
  have HO := h_ hox
  have HWr := t_ HW1 hb
  have HBB := h_ hb
  clear hb hox q0 q1 q2 q3 q4 q5 q6 d1 d2 d3
  by_cases hlt : k < l.length
  ·have k1 : (k : Int) < (l.length : Int) := by omega
   have k0 : (0 : Int) <= (k : Int) := by omega
   obtain ⟨g, o, us, eq, hec, hkx, hrx⟩ := HL.out.ec hlt
   subst eq
   have HIK := h_ fun (w' : World) (hw' : Below wr.heap.size wr w') => HIH.out k hkx us w' (HWr.out.trans (hw'.mono HWr.out.size)) (hrx.kept (HWr.out.trans (hw'.mono HWr.out.size)) (Nat.le_refl _))
   have HT := h_ (resRs_take hkx HR.out)
   have HBD := h_ fun (e : Int) (h2 : resR tn cols l[k] = .no e) => resRs_bad hkx HR.out h2
   have HNO := h_ fun (e : Int) (h2 : resR tn cols l[k] = .no e) => resR_no h2
   generalize l[k] = xk at hrx HIK HT HBD HNO
   obtain ⟨eop, eint, evk, evi, evs, enm, el⟩ := xk
   obtain ⟨ea, em, rfl, _⟩ := hrx.lits
   obtain ⟨e0, e1, e2, e3, e4, e5, e6⟩ := hec.c7 HWr.out
   clear hrx hec
   go_upto_region 15 with (fail)
   refine nA fun w3 hB3 hw3 hsz3 => ?_
   have HB3 := h_ hB3
   have HW3 := h_ hw3
   clear hB3 hw3 hsz3 e0 e1 e2 e3 e4 e5 e6
   obtain ⟨z0, z1, z2, z3, z4, z5, z6⟩ := HB3.out.c7
   go_wp2_with fail
   refine (HIK.out w3 HW3.out).mono ?_
   intro e w4 hp
   have HW4 := h_ (HW3.out.trans (hp.2.mono HW3.out.size))
   have HW34 := h_ hp.2
   have HP := h_ hp.1
   clear hp z0 z1 z2 z3 z4 z5 z6 HB3 HIK
   cases hR : resR tn cols (.mk eop eint evk evi evs enm el) with
   | no q =>
    have hq := HNO.out q hR
    have HF := h_ (HBD.out q hR)
    have q0 : (q != 0) = true := by rcases hq with rfl | rfl <;> rfl
    have hp1 : e = .returned (.tuple #[zeroV, .int .i64 q]) := by have := HP.out; rw [hR] at this; exact this
    clear hq HT HBD HNO hR HP
    subst hp1
    unfold zeroV
    go_upto_region 16 with (fail)
    refine nA fun w5 hB5 hw5 hsz5 => ?_
    have HW5 := t_ HW4 hw5
    have HE1 := h_ (HD1.out.below HW5.out)
    have HWE := h_ (HWr.out.trans (HW5.out.mono HWr.out.size))
    clear hB5 hw5 hsz5 HW5 HW4 HW3 HW34
    obtain ⟨r0, r1, r2, r3, r4, r5, r6, f0, f1, f2, f3, f4, f5, f6⟩ := HE1.out.f7
    go_wp2_with fail
    refine name_set7 (K := fun w' => bodyPost _ _ _ _ _ w') HE1.out fun w10 hM => ?_
    exact bodyPost_ret (results_cell_tmp Tryz.results69 _ _ (w.heap.size + 1) _ _ (0, 0) _ _ rfl rfl hM.blk Tryz.underlying31 (by kernel_rfl)) rfl ⟨by rw [HF.out]; rfl, HWE.out.trans (hM.low.mono (by omega))⟩
   | ok y =>
    have HTT : Hid (resRs tn cols (l.take (k + 1)) = .inl (l' ++ [y])) := h_ (by have := HT.out; rw [hR] at this; exact this)
    obtain ⟨yop, yint, yvk, yvi, yvs, ynm, yl⟩ := y
    obtain ⟨ya, ym, rfl, hxf⟩ : ∃ ya ym, e = .returned (.tuple #[.agg #[.int .i64 yop, .int .i64 yint, .int .i64 yvk, .int .i64 yvi, .string ⟨yvs.toArray⟩, .string ⟨ynm.toArray⟩, .slice ya yl.length ym], .int .i64 0]) /\ XF w3.heap.size w4.heap.size w4 (.mk yop yint yvk yvi yvs ynm yl) [.int .i64 yop, .int .i64 yint, .int .i64 yvk, .int .i64 yvi, .string ⟨yvs.toArray⟩, .string ⟨ynm.toArray⟩, .slice ya yl.length ym] := by have := HP.out; rw [hR] at this; exact this
    have HXF := h_ hxf
    clear HT HBD HNO hR HP hxf
    go_upto_region 16 with (fail)
    refine nA fun w5 hB5 hw5 hsz5 => ?_
    have HB5 := h_ hB5
    have HW5 := t_ HW4 hw5
    have HXG := h_ (HXF.out.below hw5 (Nat.le_refl _))
    have HHI := h_ hw5.size
    have HO5 := h_ (HO.out.below HW5.out)
    have HSN := h_ (Nat.le_trans HBB.out.size HW5.out.size)
    clear hB5 hw5 hsz5 HXF
    obtain ⟨z0, z1, z2, z3, z4, z5, z6⟩ := HB5.out.c7
    obtain ⟨css, hc1, hc2, hc3, hc4⟩ := (HO5.out.below ((Below.refl _ w5).alloc (Nat.le_refl _) (.cells ([.int .i64 yop, .int .i64 yint, .int .i64 yvk, .int .i64 yvi, .string ⟨yvs.toArray⟩, .string ⟨ynm.toArray⟩, .slice ya yl.length ym] : List Value).toArray 31))).row
    have HCS := h_ hc4
    have HLL : Hid (l'.length <= 1000000) := h_ (by have := resRs_len HR.out; rw [this, List.length_take]; omega)
    clear hc4
    go_upto_region 19 with (at_builtin; refine wpList_append_own_at _ rfl (.tmp 65) (.tmp 67) 25 rfl w1.heap.size 31 ix _ 7 88 Tryz.underlying25 hix hx0 hx1 hx2 rfl (by omega) u8 l'.length _ rfl hc3 ⟨w5.heap.size, 0, none⟩ 1 1 [.int .i64 yop, .int .i64 yint, .int .i64 yvk, .int .i64 yvi, .string ⟨yvs.toArray⟩, .string ⟨ynm.toArray⟩, .slice ya yl.length ym] rfl rfl (fun j u hj => by rw [Addr.add_lit]; exact (Blk.new w5 [.int .i64 yop, .int .i64 yint, .int .i64 yvk, .int .i64 yvi, .string ⟨yvs.toArray⟩, .string ⟨ynm.toArray⟩, .slice ya yl.length ym] 31).cell _ (by simpa using hj)) (fun u hu => by simp at hu; rcases hu with rfl | rfl | rfl | rfl | rfl | rfl | rfl <;> rfl) (by have := HLL.out; unfold maxLen; omega) (by have := HLL.out; omega) (Nat.le_trans HSN.out (by simp)) ?_)
    intro v5 w6 hrow hg5 _ hat5
    have hb56 : Below w1.heap.size w5 w6 := ((Below.refl _ w5).alloc HSN.out _).grown hg5 (Nat.le_trans HSN.out (by simp)) (fun g e => (HO5.out.lt g e).1)
    have HN := h_ (OwnX.snoc hc1 hc2 rfl HCS.out (HXG.out.below ((Below.refl _ w5).alloc (Nat.le_refl _) _) HHI.out) (Nat.le_trans HBB.out.size HW3.out.size) (Nat.le_trans HHI.out (by simp)) (fun g e => .inl (Nat.lt_of_lt_of_le (HO.out.lt g e).2 HW3.out.size)) hrow hg5 (by simpa using hat5))
    have HB6 := h_ (HBB.out.trans ((HW5.out.mono HBB.out.size).trans hb56))
    clear hrow hg5 hat5 hb56 hc1 hc2 hc3 z0 z1 z2 z3 z4 z5 z6 HB5
    go_wp2_with fail
    go_roundw
    case rel => exact ⟨k + 1, _, by omega, by go_num, HTT, HN.out, HB6.out⟩
    case measure => simp [intOf]; omega
  ·obtain rfl : k = l.length := by omega
   have d1 : decide ((l.length : Int) < (l.length : Int)) = false := decide_eq_false (by omega)
   have HF : Hid (resRs tn cols l = .inl l') := h_ (by have := HR.out; rwa [List.take_length] at this)
   obtain ⟨⟨av, cv, ev⟩, hdone⟩ := HO.out.done (by rw [resRs_len HF.out]; omega)
   have HDN := h_ hdone
   clear hdone HO HR
   subst ev
   have f06 := HD0.out.free 6
   have p06 := HD0.out.cell 6 rfl
   go_upto_region 21 with (fail)
   refine name_setT (K := Code.wp _ _ _ _) HD0.out fun w7 hL hw7 hs7 ho7 => ?_
   have HL0 := h_ hL
   have HD7 : Hid (Blk w7 (w.heap.size + 1) _ 31) := h_ ((ho7 _ (by omega)).trans HD1.out)
   have HW7 := h_ (HWr.out.trans hw7)
   have HO7 := h_ ho7
   have HS7 := h_ hs7
   clear hL hw7 hs7 ho7 f06 p06 HD0 HD1
   obtain ⟨z0, z1, z2, z3, z4, z5, z6⟩ := HL0.out.c7
   obtain ⟨r0, r1, r2, r3, r4, r5, r6, f0, f1, f2, f3, f4, f5, f6⟩ := HD7.out.f7
   go_wp2_with fail
   refine name_set7 (K := fun w' => bodyPost _ _ _ _ _ w') HD7.out fun w10 hM => ?_
   exact bodyPost_ret (results_cell_tmp Tryz.results69 _ _ (w.heap.size + 1) _ _ (0, 0) _ _ rfl rfl hM.blk Tryz.underlying31 (by kernel_rfl)) rfl ⟨by rw [HF.out]; exact ⟨av, cv, rfl, fun w'' hw'' => xr_node w'' op int vk vi vs nm l' _ HV1.out HV2.out (HDN.out w'' fun b b1 b2 => (hw'' b (by have := HS1.out; omega) (by rw [hM.size, HS7.out]; exact b2)).trans ((hM.far b (by have := HS1.out; omega)).trans (HO7.out b (by have := HS1.out; omega))))⟩, HW7.out.trans (hM.low.mono (by omega))⟩
theorem resolve_name (g : Nat) (V : Int) (int vk vi : Int) (vs nm : S) (a3 : Option Addr) (n3 c3 : Nat) (w : World) (HN : ∀ w', Below w.heap.size w w' -> Calls Tryz.prog 115 #[.pointer (some ⟨g, 0, none⟩), .string ⟨nm.toArray⟩] w' (Ret w' (repT V))) : Calls Tryz.prog 69 #[.pointer (some ⟨g, 0, none⟩), .agg #[.int .i64 3, .int .i64 int, .int .i64 vk, .int .i64 vi, .string ⟨vs.toArray⟩, .string ⟨nm.toArray⟩, .slice a3 n3 c3]] w (Ret w (repT V)) := by
 have HNN := h_ HN
 clear HN
 go_enter Tryz.func69, Tryz.ntmps69
 go_upto_region 1 with (fail)
 refine nB fun w1 hB0 hB1 hw1 hsz => ?_
 have HB0 := h_ hB0
 have HB1 := h_ hB1
 have HW1 := h_ hw1
 clear hB0 hB1 hw1 hsz
 obtain ⟨q0, q1, q2, q3, q4, q5, q6⟩ := HB0.out.c7
 go_wp2_with fail
 refine (HNN.out w1 HW1.out).mono ?_
 rintro e w2 ⟨rfl, hw2⟩
 have HC1 := h_ (HB1.out.below hw2)
 have HW2 := t_ HW1 hw2
 clear hw2 q0 q1 q2 q3 q4 q5 q6 HB1 HB0 HW1
 by_cases hv : V < 0
 ·have HT : Hid (repT V = .tuple #[zeroV, .int .i64 11]) := h_ (by unfold repT; rw [if_pos hv])
  have ht : repT V = .tuple #[.agg #[.int .i64 0, .int .i64 0, .int .i64 0, .int .i64 0, .string ⟨#[]⟩, .string ⟨#[]⟩, .slice none 0 0], .int .i64 11] := HT.out
  rw [ht]
  clear ht hv
  obtain ⟨r0, r1, r2, r3, r4, r5, r6, f0, f1, f2, f3, f4, f5, f6⟩ := HC1.out.f7
  go_wp2_with fail
  refine name_set7 (K := fun w' => bodyPost _ _ _ _ _ w') HC1.out fun w3 hM => ?_
  exact bodyPost_ret (results_cell_tmp Tryz.results69 _ _ (w.heap.size + 1) _ _ (0, 0) _ _ rfl rfl hM.blk Tryz.underlying31 (by kernel_rfl)) rfl ⟨by rw [HT.out]; rfl, HW2.out.trans (hM.low.mono (by omega))⟩
 ·have HT : Hid (repT V = .tuple #[.agg #[.int .i64 2, .int .i64 V, .int .i64 0, .int .i64 0, .string ⟨#[]⟩, .string ⟨#[]⟩, .slice none 0 0], .int .i64 0]) := h_ (by unfold repT; rw [if_neg hv])
  have ht := HT.out
  rw [ht]
  clear ht hv
  obtain ⟨r0, r1, r2, r3, r4, r5, r6, f0, f1, f2, f3, f4, f5, f6⟩ := HC1.out.f7
  go_wp2_with fail
  refine name_set7 (K := fun w' => bodyPost _ _ _ _ _ w') HC1.out fun w3 hM => ?_
  exact bodyPost_ret (results_cell_tmp Tryz.results69 _ _ (w.heap.size + 1) _ _ (0, 0) _ _ rfl rfl hM.blk Tryz.underlying31 (by kernel_rfl)) rfl ⟨by rw [HT.out]; rfl, HW2.out.trans (hM.low.mono (by omega))⟩
theorem resolve_call (tn : Option S) (cols : List S) (g : Nat) (v1 v2 v3 : Value) (V : S -> Int) (w0 : World) (hV : ∀ s, nameR tn cols s = if V s < 0 then .no 11 else .ok (colX (V s)))
  (HN : ∀ (s : S) (w' : World), s.length < 4294967281 -> Below w0.heap.size w0 w' -> Calls Tryz.prog 115 #[.pointer (some ⟨g, 0, none⟩), .string ⟨s.toArray⟩] w' (Ret w' (repT (V s)))) :
  ∀ (N : Nat) (x : X) (cs : List Value) (w : World), nodes x <= N -> N <= 1000000 -> shortX x -> Below w0.heap.size w0 w -> EC w g 0 [.int .i64 0, v1, v2, v3] -> XR w x cs ->
  Calls Tryz.prog 69 #[.pointer (some ⟨g, 0, none⟩), .agg cs.toArray] w (RepPost w (resR tn cols x))
 | 0, x, _, _, h, _, _, _, _, _ => absurd (nodes_pos x) (by omega)
 | N + 1, .mk op int vk vi vs nm l, cs, w, hn, hN, hs, hw0, he, h => by
  rw [nodes] at hn
  rw [shortX] at hs
  have hlen := len_nodes l
  by_cases h3 : op = 3
  ·subst h3
   obtain ⟨ax, mx, rfl, _⟩ := h.lits
   rw [resR_name, hV]
   exact (resolve_name g (V nm) int vk vi vs nm ax l.length mx w fun w' hw' => HN nm w' hs.1.2 (hw0.trans (hw'.mono hw0.size))).mono fun e w' hp => RepPost.name hp
  ·by_cases h26 : op = 26
   ·subst h26
    obtain ⟨ax, mx, rfl, _⟩ := h.lits
    rw [resR_bound]
    exact (resolve_bound g v1 v2 v3 int vk vi vs nm _ _ _ w he).mono fun e w' hp => RepPost.fail hp
   ·by_cases h25 : op = 25
    ·subst h25
     rw [resR_rel]
     cases l with
     | nil =>
      obtain ⟨ax, mx, rfl, _⟩ := h.lits
      exact (resolve_rel_nil g int vk vi vs nm _ _ w).mono fun e w' hp => RepPost.leaf (by decide) (by decide) hp
     | cons y l =>
      exact (resolve_rel_cons g v1 v2 v3 int vk vi vs nm (y :: l) cs w he (by simp) (by omega) h).mono fun e w' hp => RepPost.fail hp
    ·rw [resR_node h3 h26 h25]
     exact resolve_node tn cols g op int vk vi vs nm l cs w h3 h26 h25 (by omega) h fun k hk us w' hw hx =>
      resolve_call tn cols g v1 v2 v3 V w0 hV HN N l[k] us w' (by have := nodes_le (List.getElem_mem hk); omega) (by omega) (short_mem hs.2 (List.getElem_mem hk)) (hw0.trans (hw.mono hw0.size)) ⟨Nat.lt_of_lt_of_le he.1 hw.size, fun j u hj => he.at_ hw hj⟩ hx
theorem bind_call (g : Nat) (v1 v3 : Value) (ak : Option Addr) (ck : Nat) (ks : List Int) (r : RX) (cs : List Value) (x : X) (w : World) (he : EC w g 0 [.int .i64 0, v1, .slice ak ks.length ck, v3]) (hv : SI w ks ak) (hks : ks.length <= 1000000) (h : XR w x cs) (hrn : ∀ y, r = .ok y -> nodes y <= 1000000 /\ shortX y) (hre : ∀ q, r = .no q -> q ≠ 0)
  (HR : ∀ w', Below w.heap.size w w' -> Calls Tryz.prog 69 #[.pointer (some ⟨g, 0, none⟩), .agg cs.toArray] w' (RepPost w' r)) :
  Calls Tryz.prog 37 #[.pointer (some ⟨g, 0, none⟩), .agg cs.toArray] w (BindPost w (bindR ks r)) := by
 obtain ⟨op, int, vk, vi, vs, nm, l⟩ := x
 obtain ⟨a, m, rfl, hl, _, _, _⟩ := h.lits
 have HRR := h_ HR
 have HV := h_ hv
 have HRN := h_ hrn
 have HRE := h_ hre
 have HE := h_ he
 clear h hl HR hv hrn hre he
 go_enter Tryz.func37, Tryz.ntmps37
 go_upto_region 1 with (fail)
 refine nB fun w1 hB1 hB2 hw1 hsz => ?_
 have HS1 := h_ hsz
 have HB2 := h_ hB2
 have HW1 := h_ hw1
 have q0 := (h_ hB1).out.cell 0 rfl
 have q1 := (h_ hB1).out.cell 1 rfl
 have q2 := (h_ hB1).out.cell 2 rfl
 have q3 := (h_ hB1).out.cell 3 rfl
 have q4 := (h_ hB1).out.cell 4 rfl
 have q5 := (h_ hB1).out.cell 5 rfl
 have q6 := (h_ hB1).out.cell 6 rfl
 clear hB1 hB2 hw1 hsz
 go_wp2_with fail
 refine (HRR.out w1 HW1.out).mono ?_
 intro e w2 hp
 have HC2 := h_ (HB2.out.below hp.2)
 have HW2 := h_ (HW1.out.trans (hp.2.mono HW1.out.size))
 have HS2 := h_ hp.2.size
 have hp1 := hp.1
 clear hp HB2 HW1 HRR q0 q1 q2 q3 q4 q5 q6
 cases r with
 | no q =>
  have hq := HRE.out q rfl
  have q0 : (q != 0) = true := by simpa using hq
  have hp1 : e = .returned (.tuple #[zeroV, .int .i64 q]) := hp1
  subst hp1
  clear hq
  unfold zeroV
  go_upto_region 2 with (fail)
  refine nA fun w3 hB3 hw3 hsz3 => ?_
  have HD2 := h_ (HC2.out.below hw3)
  have HW3 := t_ HW2 hw3
  clear hB3 hw3 hsz3 HC2 HW2
  obtain ⟨r0, r1, r2, r3, r4, r5, r6, f0, f1, f2, f3, f4, f5, f6⟩ := HD2.out.f7
  go_wp2_with fail
  refine name_set7 (K := fun w' => bodyPost _ _ _ _ _ w') HD2.out fun w9 hM => ?_
  exact bodyPost_ret (results_cell_tmp2 Tryz.results37 _ _ (w.heap.size + 1) _ _ (0, 0) _ _ _ rfl rfl rfl hM.blk Tryz.underlying31 (by kernel_rfl)) rfl ⟨rfl, HW3.out.trans (hM.low.mono (by omega))⟩
 | ok y =>
  obtain ⟨hny, hsy⟩ := HRN.out y rfl
  obtain ⟨yop, yint, yvk, yvi, yvs, ynm, yl⟩ := y
  obtain ⟨ya, ym, rfl, hxf⟩ := (hp1 : ∃ a m, e = .returned (.tuple #[.agg (xc (.mk yop yint yvk yvi yvs ynm yl) a m).toArray, .int .i64 0]) /\ XF w1.heap.size w2.heap.size w2 (.mk yop yint yvk yvi yvs ynm yl) (xc (.mk yop yint yvk yvi yvs ynm yl) a m))
  simp only [xc] at hxf |-
  have HX := h_ hxf
  clear hxf
  go_upto_region 2 with (fail)
  refine nA fun w3 hB3 hw3 hsz3 => ?_
  have HD2 := h_ (HC2.out.below hw3)
  have HD3 := h_ hB3
  have HW3 := t_ HW2 hw3
  have HX3 := h_ (HX.out.below hw3 (Nat.le_refl _))
  have HS3 := h_ hw3.size
  have HLT : Hid (w2.heap.size < w3.heap.size) := h_ hB3.lt
  have p2 := HE.out.at_ HW3.out (j := 2) rfl
  clear hB3 hw3 hsz3 HC2 HW2 HX
  obtain ⟨z0, z1, z2, z3, z4, z5, z6⟩ := HD3.out.c7
  have HCKF := h_ fun (w' : World) (hw' : Below w3.heap.size w3 w') => (eCheck_call (.mk yop yint yvk yvi yvs ynm yl) [.int .i64 yop, .int .i64 yint, .int .i64 yvk, .int .i64 yvi, .string ⟨yvs.toArray⟩, .string ⟨ynm.toArray⟩, .slice ya yl.length ym] w' ks ak ck hny hsy hks ((HV.out.below HW3.out).below hw') (HX3.out.below hw' (by have := HLT.out; omega)).now)
  have HQ : Hid (bindR ks (.ok (.mk yop yint yvk yvi yvs ynm yl)) = if (chk ks (.mk yop yint yvk yvi yvs ynm yl)).2 = 0 then .inl ((.mk yop yint yvk yvi yvs ynm yl), (chk ks (.mk yop yint yvk yvi yvs ynm yl)).1) else .inr (chk ks (.mk yop yint yvk yvi yvs ynm yl)).2) := h_ rfl
  generalize chk ks (.mk yop yint yvk yvi yvs ynm yl) = qq at HCKF HQ
  obtain ⟨q1, q2⟩ := qq
  clear HV HRN HRE hny hsy
  go_upto_region 4 with (fail)
  refine Gr.region_grow 10 (by kernel_rfl) (by kernel_rfl) (fun w' => Below w3.heap.size w3 w') ⟨rfl, rfl, rfl, Nat.le_refl _, fun _ _ => rfl⟩ ?_
  simp only [List.take_succ_cons, List.take_zero, List.drop_succ_cons, List.drop_zero]
  clear p2 z0 z1 z2 z3 z4 z5 z6
  iterate 10
   first
   | apply Gr.sn (.tuple #[.int .i64 q1, .int .i64 q2]); focus (go_simp; intro w' hw'; go_simp; rw [Gr.grown_enter]; exact Ret.fam (HCKF.out w' hw') hw'; done)
   | apply Gr.sn; focus (go_simp; intro w' hw'; go_simp; rw [Gr.grown_value]; done)
   | apply Gr.sn; focus (go_simp; intro w' hw'; have p2 := HE.out.at_ (HW3.out.trans (hw'.mono HW3.out.size)) (j := 2) rfl; go_simp; rw [Gr.grown_value]; done)
   | apply Gr.sn; focus (go_simp; intro w' hw'; have z0 := (HD3.out.below hw').cell 0 rfl; have z1 := (HD3.out.below hw').cell 1 rfl; have z2 := (HD3.out.below hw').cell 2 rfl; have z3 := (HD3.out.below hw').cell 3 rfl; have z4 := (HD3.out.below hw').cell 4 rfl; have z5 := (HD3.out.below hw').cell 5 rfl; have z6 := (HD3.out.below hw').cell 6 rfl; go_simp; rw [Gr.grown_value]; done)
   intro K hK; go_simp; refine hK _ ?_; clear hK K
  refine Gr.line_nil fun w4 hw4 => ?_
  have HE2 := h_ (HD2.out.below hw4)
  have HE3 := h_ (HD3.out.below hw4)
  have HW4 := t_ HW3 hw4
  have HX4 := h_ (HX3.out.below hw4 (by have := HLT.out; omega))
  have HS4 := h_ hw4.size
  clear hw4 HD2 HD3 HW3 HX3 HCKF
  obtain ⟨r0, r1, r2, r3, r4, r5, r6, f0, f1, f2, f3, f4, f5, f6⟩ := HE2.out.f7
  obtain ⟨s0, s1, s2, s3, s4, s5, s6⟩ := HE3.out.c7
  by_cases hq : q2 = 0
  ·subst hq
   have HF : Hid (bindR ks (.ok (.mk yop yint yvk yvi yvs ynm yl)) = .inl ((.mk yop yint yvk yvi yvs ynm yl), q1)) := h_ (by rw [HQ.out]; rfl)
   go_wp2_with fail
   refine name_set7 (K := fun w' => bodyPost _ _ _ _ _ w') HE2.out fun w9 hM => ?_
   exact bodyPost_ret (results_cell_tmp2 Tryz.results37 _ _ (w.heap.size + 1) _ _ (0, 0) _ _ _ rfl rfl rfl hM.blk Tryz.underlying31 (by kernel_rfl)) rfl ⟨by rw [HF.out]; exact ⟨ya, ym, rfl, XF.same HX4.out (fun b b1 b2 => hM.far b (by have := HS1.out; omega)) (by have := HS1.out; omega) (by rw [hM.size]; have := HS3.out; have := HS4.out; omega)⟩, HW4.out.trans (hM.low.mono (by omega))⟩
  ·have HF : Hid (bindR ks (.ok (.mk yop yint yvk yvi yvs ynm yl)) = .inr q2) := h_ (by rw [HQ.out, if_neg hq])
   have d2 : (q2 != 0) = true := by simpa using hq
   clear hq
   go_wp2_with fail
   refine name_set7 (K := fun w' => bodyPost _ _ _ _ _ w') HE2.out fun w9 hM => ?_
   exact bodyPost_ret (results_cell_tmp2 Tryz.results37 _ _ (w.heap.size + 1) _ _ (0, 0) _ _ _ rfl rfl rfl hM.blk Tryz.underlying31 (by kernel_rfl)) rfl ⟨by rw [HF.out]; rfl, HW4.out.trans (hM.low.mono (by omega))⟩
end Go.Proofs.YtnlimlboedohgaaGreatDoor.Px
