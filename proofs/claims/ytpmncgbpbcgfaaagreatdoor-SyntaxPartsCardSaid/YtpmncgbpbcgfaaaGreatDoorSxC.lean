import Derived.Test.YtpmncgbpbcgfaaaGreatDoorSxP
import Derived.Deep.RegionHeld3
/-
  Operands joined by operators of equal rank.
-/
namespace Go.Proofs.YtpmncgbpbcgfaaaGreatDoor
open Go.RowKit
set_option linter.unusedVariables false
set_option linter.unusedSimpArgs false

theorem pOperator_lt : ∀ (l : List (List UInt8 × Nat)) (C : List Core) (i : Nat) (d : Bool) (op j : Nat) (d' : Bool), pOperator l C i d = .ok (some op) j d' → i < j
  | [], C, i, d, op, j, d', h => by cases h
  | (s, o) :: l, C, i, d, op, j, d', h => by
    rw [pOperator] at h
    rcases hb : aheadB C i 0 5 s with _ | _
    · exact pOperator_lt l C i d op j d' (ifSymbol_no hb h)
    · have := ifSymbol_yes hb h
      cases this
      omega
theorem Ops.ofBlk {w : World} {g h : Nat} {t t' : TypeId} (l : List (List UInt8 × Nat)) (hg : Blk w g (l.map fun a => Value.string ⟨a.1.toArray⟩) t) (hh : Blk w h (l.map fun a => Value.int .i64 (a.2 : Int)) t') : Ops w g h l (fun k => ⟨((l[k]?.map (·.1)).getD []).toArray⟩) :=
  ⟨fun k hk => hg.cell k (by simp [hk]), fun k hk => by simp [hk], fun k hk => hh.cell k (by simp [hk])⟩
/-- a call in a chain, with its outcome -/
theorem at_callE {α β : Type} {w0 w : World} {p : Nat} {v : Value} {T : List Tok} {i n : Nat} {d : Bool} {Q : Ending → World → Prop} {r : R β} {x : P α} {f : α → P β} {fn : FuncId} {args : Array Value} {rep : World → Value → α → Prop} (hc : Calls Tryz.prog fn args w (PPost w p v T i n rep (x (cores T) i d))) (ha : At w0 w p v T i n d) (HR : Hid ((x >>= f) (cores T) i d = r))
    (hok : ∀ a j d' val w', Hid (x (cores T) i d = .ok a j d') → Hid (f a (cores T) j d' = r) → rep w' val a → At w0 w' p v T j n d' → i ≤ j → w.grownBy w' (some p) → Q (.returned val) w')
    (hfail : ∀ j c w', Hid (r = .fail j c) → w0.grownBy w' (some p) → Q (failE T n j c) w') : Calls Tryz.prog fn args w Q :=
  PPost.use hc (fun a j d' val w' hr hv hs hij hg => hok a j d' val w' (Lib.hid hr) (Lib.hid (bind_ok hr HR.out)) hv (ha.call hg hs) hij hg) fun j c w' hr hg => hfail j c w' (Lib.hid (bind_fail hr HR.out)) (grown_trans ha.gr hg)
/-- the seven cells of an expression in a block -/
structure EAt (w : World) (g : Nat) (F : Nat → Prop) (e : E) (a b c d : Int) (s t : ByteArray) (A : Option Addr) (m k : Nat) : Prop where
  blk : Blk w g [.int .i64 a, .int .i64 b, .int .i64 c, .int .i64 d, .string s, .string t, .slice A m k] 34
  rep : ERep w F e [.int .i64 a, .int .i64 b, .int .i64 c, .int .i64 d, .string s, .string t, .slice A m k]
structure ChainRel (ops : List (List UInt8 × Nat)) (x : P E) (w0 : World) (p : Nat) (v : Value) (T : List Tok) (i n g0 g9 g h : Nat) (S : Nat → ByteArray) (r : R E) (gk j : Nat) (e : E) (cs : List Value) (d : Bool) (m : Nat) (wr : World) : Prop where
  gk : gk + j = T.length
  ij : i ≤ j
  at_ : At w0 wr p v T j n d
  blk : Blk wr g0 [.int .i64 0, .int .i64 0, .int .i64 0, .int .i64 0, .string ⟨#[]⟩, .string ⟨#[]⟩, .slice none 0 0] 34
  box : Blk wr g9 cs 34
  rep : ERep wr (Fp w0.heap.size [g0, g9]) e cs
  opsI : Ops wr g h ops S
  fuel : T.length + 1 ≤ m + j
  pr : pChainGo ops x m e (cores T) j d = r
set_option maxHeartbeats 4000000 in
set_option maxRecDepth 100000 in
theorem chain_call (x : P E) (f : Nat) (p : Nat) (v : Value) (T : List Tok) (i0 n : Nat) (heg : ∀ args w, (callFunc f args).run Tryz.prog w = .ok (.enter f args) w) (hop : OpAt x f #[.pointer (some ⟨p, 0, none⟩)] p v T n i0)
    (w : World) (i : Nat) (d : Bool) (hi0 : i0 ≤ i) (hst : St w p v T i n d) (m g h c c' : Nat) (l : List (List UInt8 × Nat)) (S : Nat → ByteArray) (hS : Ops w g h l S) (hg : g ≠ p) (hh : h ≠ p) (hgw : g < w.heap.size) (hhw : h < w.heap.size) (hl : l.length ≤ 1000) (hm : T.length + 1 ≤ m + i) :
    Calls Tryz.prog 148 #[.pointer (some ⟨p, 0, none⟩), .slice (some ⟨g, 0, none⟩) l.length c, .slice (some ⟨h, 0, none⟩) l.length c', .func (.func f) #[.pointer (some ⟨p, 0, none⟩)] #[]] w (PPost w p v T i n (exprR w.heap.size) (pChain m l x (cores T) i d)) := by
  obtain ⟨r, hr⟩ : ∃ r, pChain m l x (cores T) i d = r := ⟨_, rfl⟩
  rw [hr]
  unfold pChain at hr
  have HR := Lib.hid hr
  have HO := Lib.hid hop
  have HSS := Lib.hid hS
  have ha := At.start hst
  clear hr hop hS hst
  go_enter Tryz.func148, Tryz.ntmps148
  go_wp2_with fail
  refine name_alloc (K := fun W => Calls _ _ _ W _) fun w1 hB hw1 hz1' => ?_
  replace ha := ha.below hw1
  have hBp : w.heap.size ≠ p := by have := ha.hp; omega
  replace HSS := Lib.hid (HSS.out.below hw1)
  clear hw1
  refine at_call (HO.out w1 i d hi0 ha.st) ha HR (fun e j d' val w2 HR hv ha hij hg2 => ?_) (fun j c w' hr hg => ⟨rfl, PPost.failed hr.out hg⟩)
  obtain ⟨cs, rfl, hre⟩ := hv
  obtain ⟨a0, a1, a2, a3, a4, a5, A, a6, a7, rfl⟩ := erep_lit hre
  have HE := Lib.hid hre
  replace hB := hB.grown hg2 hBp
  replace HSS := Lib.hid (HSS.out.grown hg2 hg hh)
  have hz2' := hg2.size
  clear hre hg2
  go_wp2_with fail
  refine name_alloc (K := Code.wp _ _ _ _) fun w3 hb3 hw3 hz3 => ?_
  have hle2 := ha.st.le
  replace HE := Lib.hid (goodE.below (goodE.mono HE.out fun b hb hl => (show Fp w.heap.size [w.heap.size, w2.heap.size] b from ⟨by have := hb.1; omega, by have := hb.1; simp; omega⟩)) hw3)
  replace ha := ha.below hw3
  replace hB := hB.below hw3
  replace HSS := Lib.hid (HSS.out.below hw3)
  clear hw3
  go_loopg [] (T.length - j) (fun gk wr => ∃ k e cs dk mk, ChainRel l x w p v T i n w.heap.size w2.heap.size g h S r gk k e cs dk mk wr)
  case atStart => exact ⟨j, e, _, d', m, ⟨by omega, hij, ha, hB, hb3, HE.out, HSS.out, by omega, HR.out⟩⟩
  case round =>
    obtain ⟨k, e', cs, dk, mk, ⟨hk, hik, hat, hblk, hbox, hrep, hops, hfuel, hpr⟩⟩ := hrel
    have hlek := hat.st.le
    obtain ⟨mk, rfl⟩ : ∃ q, mk = q + 1 := ⟨mk - 1, by omega⟩
    have HR4 : Hid ((pOperator l >>= fun o => match o with | none => pure e' | some op => x >>= fun f => pChainGo l x mk (E.node op [e', f])) (cores T) k dk = r) := Lib.hid hpr
    obtain ⟨b0, b1, b2, b3, b4, b5, B, b6, b7, rfl⟩ := erep_lit hrep
    have HE4 := Lib.hid hrep
    have HS4 := Lib.hid hops
    have h9p : w2.heap.size ≠ p := by have := hat.hp; omega
    clear hpr hrep hops ha hB HE HSS HR hb3
    go_wp2_with fail
    refine at_callE (operator_call p v T k n dk wr hat.st g h c c' l S HS4.out hg hh hl) hat HR4 (fun o j5 d5 val w5 HXO HR5 hv ha5 hij5 hg5 => ?_) (fun j c w' hr hg => ⟨rfl, PPost.failed hr.out hg⟩)
    obtain rfl := hv
    have HE5 := Lib.hid (goodE.grown HE4.out hg5 hat.hp)
    have HS5 := Lib.hid (HS4.out.grown hg5 hg hh)
    have hB5 := hblk.grown hg5 hBp
    have hX5 := hbox.grown hg5 h9p
    have hz5 := hg5.size
    have hle5 := ha5.st.le
    clear hg5 HE4 HS4 hblk hbox hat HR4
    have r0 := hX5.cell 0 rfl
    have r1 := hX5.cell 1 rfl
    have r2 := hX5.cell 2 rfl
    have r3 := hX5.cell 3 rfl
    have r4 := hX5.cell 4 rfl
    have r5 := hX5.cell 5 rfl
    have r6 := hX5.cell 6 rfl
    rcases o with _ | op
    · have HX : Hid (r = .ok e' j5 d5) := Lib.hid HR5.out.symm
      unfold Option.getD Option.isSome
      clear HR5
      go_wp2_with (refine store_blk rfl 34 (.tmp 8) (.tmp 23) rfl w.heap.size [.int .i64 b0, .int .i64 b1, .int .i64 b2, .int .i64 b3, .string b4, .string b5, .slice B b6 b7] rfl rfl 34 _ hB5 (by kernel_rfl) rfl (goodE.one HE5.out) ?_)
      intro w6 hB6 hg6 hz6
      have HF6 := Lib.hid (goodE.own HE5.out hg6 (by simp))
      have ha6 := ha5.own hg6 (Nat.le_refl _)
      clear HE5 r0 r1 r2 r3 r4 r5 r6 hg6 ha5 hB5 hX5
      go_wp2_with fail
      refine bodyPost_ret (results_cell_row Tryz.results148 _ _ w.heap.size _ _ _ _ rfl hB6 Tryz.underlying34 rfl (by kernel_rfl)) rfl ?_
      exact at_ok ha6 HX.out ⟨_, rfl, goodE.all HF6.out⟩ (by omega)
    · have hlt5 := pOperator_lt _ _ _ _ _ _ _ HXO.out
      have h95 := hX5.lt
      clear HXO
      unfold Option.getD Option.isSome
      go_wp2_with fail
      go_region_with (go_at_fn f; refine at_call (HO.out _ j5 d5 (by omega) (ha5.drewN 1).st) (ha5.drewN 1) HR5 (fun f2 q d6 val w6 HR6 hv ha6 hij6 hg6 => ?_) (fun j c w' hr hg => ⟨rfl, PPost.failed hr.out hg⟩); obtain ⟨fs, rfl, hrf⟩ := hv; obtain ⟨c0, c1, c2, c3, c4, c5, C, c6, c7, rfl⟩ := erep_lit hrf; have hX6 := (hX5.drewN 1).grown hg6 h9p; have y0 := hX6.cell 0 rfl; have y1 := hX6.cell 1 rfl; have y2 := hX6.cell 2 rfl; have y3 := hX6.cell 3 rfl; have y4 := hX6.cell 4 rfl; have y5 := hX6.cell 5 rfl; have y6 := hX6.cell 6 rfl; have z0 := hX6.free 0; have z1 := hX6.free 1; have z2 := hX6.free 2; have z3 := hX6.free 3; have z4 := hX6.free 4; have z5 := hX6.free 5; have z6 := hX6.free 6; have l9 : w2.heap.size < w6.heap.size := hX6.lt)
      all_goals
        have HF := Lib.hid hrf
        have hz6 := hg6.size
        have hB6 := (hB5.drewN 1).grown hg6 hBp
        have HE6 := Lib.hid (goodE.grown (goodE.below HE5.out (belowD w5 1)) hg6 ha5.hp)
        have HS6 := Lib.hid ((HS5.out.below (belowD w5 1)).grown hg6 hg hh)
        have hz56 : w5.heap.size ≤ w6.heap.size := hz6
        clear y0 y1 y2 y3 y4 y5 y6 z0 z1 z2 z3 z4 z5 z6 r0 r1 r2 r3 r4 r5 r6 hrf hz6 HE5 HS5 hB5 hX5 HR5
        refine name_node (K := Exit.inBlock _ _ _ _) hX6 fun w7 w8 hg7 hw8 hz7 hz8 hX8 hN8 => ?_
        have ha7 := (ha6.own hg7 (by omega)).below (hw8.mono (by omega))
        have hB7 := (hB6.grown hg7 (by omega)).below (hw8.mono (by omega))
        have hle6 := ha6.st.le
        have HE7 := Lib.hid (goodE.below (goodE.own HE6.out hg7 (by simp)) (hw8.mono (by omega)))
        have HF7 := Lib.hid (goodE.below (goodE.own (goodE.made (L := [w.heap.size, w2.heap.size]) HF.out (show w.heap.size ≤ w5.heap.size by omega) (by intro q hq; show q < w5.heap.size; simp at hq; omega)) hg7 (by simp)) (hw8.mono (by omega)))
        have HS7 := Lib.hid ((HS6.out.grown hg7 (by omega) (by omega)).below (hw8.mono (by omega)))
        have HN := Lib.hid (show ERep w8 (Fp w.heap.size [w.heap.size, w2.heap.size]) (E.node op [e', f2]) _ from erep_iff.2 ⟨_, rfl, LRep.two goodE (k := 2) (cs1 := [.int .i64 b0, .int .i64 b1, .int .i64 b2, .int .i64 b3, .string b4, .string b5, .slice B b6 b7]) (cs2 := [.int .i64 c0, .int .i64 c1, .int .i64 c2, .int .i64 c3, .string c4, .string c5, .slice C c6 c7]) hN8 HE7.out HF7.out ⟨by omega, by simp; omega⟩⟩)
        clear HE6 HF HS6 hB6 hX6 hg7 hw8 HE7 HF7 hg6 ha6
        go_wp2_with fail
        go_roundg (T.length - q)
        case measure => omega
        case rel => exact ⟨q, E.node op [e', f2], _, d6, mk, ⟨by omega, by omega, ha7, hB7, hX8, HN.out, HS7.out, by omega, HR6.out⟩⟩
end Go.Proofs.YtpmncgbpbcgfaaaGreatDoor

/-
  Small parts of expressions: ref, bound, allen.Find.
-/
namespace Go.Proofs.YtpmncgbpbcgfaaaGreatDoor
open Go.RowKit
set_option linter.unusedVariables false
set_option linter.unusedSimpArgs false

theorem one_eCells (op int : Nat) (v : V) (name : List UInt8) {a : Value} (ha : a.oneCell' = true) : ∀ u ∈ eCells op int v name a, u.oneCell' = true := by
  intro u hu
  simp [eCells, strV] at hu
  rcases hu with rfl | rfl | rfl | rfl | rfl | rfl | rfl
  all_goals first | rfl | exact ha
/-- the zero expression's cells -/
def zeroCells : List Value := [.int .i64 0, .int .i64 0, .int .i64 0, .int .i64 0, .string ⟨#[]⟩, .string ⟨#[]⟩, .slice none 0 0]
theorem leafR {w : World} {F : Nat → Prop} (op int : Nat) (v : V) (name : List UInt8) : ERep w F (.mk op int v name []) (eCells op int v name (.slice none 0 0)) := ERep.leaf op int v name
theorem bytesEq {a b : ByteArray} (h : a.data.toList = b.data.toList) : a = b := by
  cases a; cases b; congr 1; exact Array.toList_inj.1 h
set_option maxHeartbeats 1000000 in
set_option maxRecDepth 100000 in
theorem ref_call (p : Nat) (v : Value) (T : List Tok) (i n : Nat) (d : Bool) (w : World) (h : St w p v T i n d) :
    Calls Tryz.prog 130 #[.pointer (some ⟨p, 0, none⟩)] w (PPost w p v T i n (exprR w.heap.size) (pRef (cores T) i d)) := by
  obtain ⟨r, hr⟩ : ∃ r, pRef (cores T) i d = r := ⟨_, rfl⟩
  rw [hr]
  unfold pRef at hr
  have HR := Lib.hid hr
  have ha := At.start h
  clear hr h
  go_enter Tryz.func130, Tryz.ntmps130
  go_wp2_with fail
  refine name_alloc (K := fun W => Calls _ _ _ W _) fun w1 hB hw1 hz1 => ?_
  replace ha := ha.below hw1
  have hBp : w.heap.size ≠ p := by have := ha.hp; omega
  clear hw1
  refine at_call (name_call p v T i n d w1 ha.st) ha HR (fun s j d' val w2 HR hv ha hij hg2 => ?_) (fun j c w' hr hg => ⟨rfl, PPost.failed hr.out hg⟩)
  obtain ⟨rfl, hls⟩ := hv
  replace hB := hB.grown hg2 hBp
  clear hg2
  unfold strV
  go_wp2_with fail
  refine at_symbol ha _ [46] rfl HR (fun w3 HR ha hg3 => ?_) (fun w3 HR ha hg3 => ?_)
  · replace hB := hB.grown hg3 hBp
    clear hg3
    go_wp2_with fail
    refine at_call (name_call p v T _ n _ w3 ha.st) ha HR (fun t j' d'' val w4 HR hv ha hij' hg4 => ?_) (fun j c w' hr hg => ⟨rfl, PPost.failed hr.out hg⟩)
    obtain ⟨rfl, hlt⟩ := hv
    replace hB := hB.grown hg4 hBp
    clear hg4
    unfold strV
    have k1 : (⟨t.toArray⟩ : ByteArray).size ≤ 200 := by show t.toArray.size ≤ 200; simpa using hlt
    have k2 : (⟨s.toArray⟩ : ByteArray).size ≤ 200 := by show s.toArray.size ≤ 200; simpa using hls
    have HS : Hid ((⟨s.toArray⟩ : ByteArray) ++ ((⟨#[46]⟩ : ByteArray) ++ (⟨t.toArray⟩ : ByteArray)) = ⟨(s ++ (46 :: t)).toArray⟩) := Lib.hid (bytesEq (by simp))
    go_wp2_with (refine store_blk rfl 34 (.tmp 2) (.tmp 14) rfl w.heap.size [.int .i64 3, .int .i64 0, .int .i64 0, .int .i64 0, .string ⟨#[]⟩, .string _, .slice none 0 0] rfl rfl 34 _ hB (by kernel_rfl) rfl ?h1 ?_)
    case h1 => intro u hu; simp at hu; rcases hu with rfl | rfl | rfl | rfl | rfl | rfl | rfl <;> rfl
    intro w5 hB5 hg5 hz5
    rw [HS.out] at hB5
    replace ha := ha.own hg5 (Nat.le_refl _)
    clear hg5 hB
    go_wp2_with fail
    refine bodyPost_ret (results_cell_row Tryz.results130 _ _ w.heap.size _ _ _ _ rfl hB5 Tryz.underlying34 rfl (by kernel_rfl)) rfl ?_
    exact at_ok ha HR.out.symm ⟨_, rfl, leafR _ _ _ _⟩ (by omega)
  · replace hB := hB.grown hg3 hBp
    clear hg3
    go_wp2_with (refine store_blk rfl 34 (.tmp 2) (.tmp 14) rfl w.heap.size (eCells 3 0 V.null s (.slice none 0 0)) rfl rfl 34 _ hB (by kernel_rfl) rfl (one_eCells _ _ _ _ rfl) ?_)
    intro w5 hB5 hg5 hz5
    replace ha := ha.own hg5 (Nat.le_refl _)
    clear hg5 hB
    go_wp2_with fail
    refine bodyPost_ret (results_cell_row Tryz.results130 _ _ w.heap.size _ _ _ _ rfl hB5 Tryz.underlying34 rfl (by kernel_rfl)) rfl ?_
    exact at_ok ha HR.out.symm ⟨_, rfl, leafR _ _ _ _⟩ (by omega)
end Go.Proofs.YtpmncgbpbcgfaaaGreatDoor

/-
  allen.Find: the number of a relation's name; syntax.bound: the number of a bound's name.
-/
namespace Go.Proofs.YtpmncgbpbcgfaaaGreatDoor
open Go.RowKit
set_option linter.unusedVariables false
set_option linter.unusedSimpArgs false

def relL (k : Nat) : List UInt8 := relations.getD k []
def relV (k : Nat) : Value := .string ⟨(relL k).toArray⟩
def relA : Array Value := ((List.range 13).map relV).toArray
def relIx (l : List UInt8) : Int := if l ∈ relations then (relations.idxOf l : Int) else -1
theorem index_rel : ∀ (k : Nat) (_ : k < 13) (w : World), (Instr.index 203 (.agg relA) (.int .i64 (k : Int))).run Tryz.prog w = .ok (relV k) w
  | 0, _, w => by kernel_rfl
  | 1, _, w => by kernel_rfl
  | 2, _, w => by kernel_rfl
  | 3, _, w => by kernel_rfl
  | 4, _, w => by kernel_rfl
  | 5, _, w => by kernel_rfl
  | 6, _, w => by kernel_rfl
  | 7, _, w => by kernel_rfl
  | 8, _, w => by kernel_rfl
  | 9, _, w => by kernel_rfl
  | 10, _, w => by kernel_rfl
  | 11, _, w => by kernel_rfl
  | 12, _, w => by kernel_rfl
  | k + 13, h, _ => absurd h (by omega)
set_option maxHeartbeats 1000000 in
set_option maxRecDepth 100000 in
theorem names_call (w : World) : Calls Tryz.prog 147 #[] w fun e w' => e = .returned (.agg relA) ∧ Below w.heap.size w w' := by
  go_enter Tryz.func147, Tryz.ntmps147
  go_wp2_with fail
  refine bodyPost_ret (results_cell_row Tryz.results147 _ _ w.heap.size _ _ _ _ rfl (heap_alloc_new w _) Tryz.underlying203 rfl (by kernel_rfl)) rfl ?_
  exact ⟨rfl, below1 _ _⟩
theorem rel_len : relations.length = 13 := rfl
theorem relIx_yes {l : List UInt8} {k : Nat} (hk : k < 13) (hno : ∀ q, q < k → relations.getD q [] ≠ l) (h : relations.getD k [] = l) : relIx l = (k : Int) := by
  have hk' : k < relations.length := hk
  have hg : relations[k] = l := by rw [← h, List.getD_eq_getElem?_getD, List.getElem?_eq_getElem hk']; rfl
  have hm : l ∈ relations := hg ▸ List.getElem_mem hk'
  unfold relIx
  rw [if_pos hm]
  have h1 : relations.idxOf l < relations.length := List.idxOf_lt_length_of_mem hm
  have h2 : relations[relations.idxOf l] = l := List.getElem_idxOf h1
  rcases Nat.lt_trichotomy (relations.idxOf l) k with hlt | he | hgt
  · exact absurd (by rw [List.getD_eq_getElem?_getD, List.getElem?_eq_getElem h1]; exact h2) (hno _ hlt)
  · rw [he]
  · exfalso
    have := List.not_of_lt_findIdx (p := fun x => x == l) (xs := relations) (i := k) hgt
    simp [hg] at this
theorem relIx_no {l : List UInt8} (hno : ∀ q, q < 13 → relations.getD q [] ≠ l) : relIx l = -1 := by
  unfold relIx
  rw [if_neg]
  intro hm
  obtain ⟨k, hk, he⟩ := List.getElem_of_mem hm
  exact hno k hk (by rw [List.getD_eq_getElem?_getD, List.getElem?_eq_getElem hk]; exact he)
set_option maxHeartbeats 1000000 in
set_option maxRecDepth 100000 in
theorem find_call (s : ByteArray) (w : World) : Calls Tryz.prog 131 #[.string s] w fun e w' => e = .returned (.int .i64 (relIx s.data.toList)) ∧ Below w.heap.size w w' := by
  go_enter Tryz.func131, Tryz.ntmps131
  go_wp2_with fail
  refine (names_call w).mono ?_
  rintro e w1 ⟨rfl, hw1⟩
  generalize hA : relA = A
  have HA := Lib.hid hA
  clear hA
  go_wp2_with fail
  go_loop [6] (fun c6 => ∃ k : Nat, k ≤ 13 ∧ c6 = .int .i64 (k : Int) ∧ Hid (∀ q, q < k → relL q ≠ s.data.toList)) (fun c6 => 13 - (intOf c6).toNat)
  case atStart => exact ⟨0, Nat.zero_le _, rfl, Lib.hid (fun q hq => absurd hq (by omega))⟩
  case round =>
    obtain ⟨k, hk, rfl, HN⟩ := hrel
    by_cases hlt : k < 13
    · have hix := index_rel k hlt w1
      rw [HA.out] at hix
      unfold relV at hix
      have c1 : (k : Int) < 13 := by omega
      have HE : Hid ((relL k == s.toList) = decide (relL k = s.data.toList)) := Lib.hid (by rw [Lib.toList_data, Bool.eq_iff_iff]; simp)
      by_cases he : relL k = s.data.toList
      · have hb : (relL k == s.toList) = true := by rw [HE.out, decide_eq_true he]
        have HX := Lib.hid (relIx_yes hlt HN.out he)
        clear he HE HN
        go_wp2_with fail
        go_ret
        exact ⟨by rw [HX.out]; rfl, hw1⟩
      · have hb : (relL k == s.toList) = false := by rw [HE.out, decide_eq_false he]
        have HN' := Lib.hid (fun q (hq : q < k + 1) => if h : q = k then h ▸ he else HN.out q (by omega))
        clear he HE HN
        go_wp2_with fail
        go_round
        case rel => exact ⟨k + 1, by omega, by go_num, HN'⟩
        case measure => simp [intOf]; omega
    · obtain rfl : k = 13 := by omega
      have HX := Lib.hid (relIx_no HN.out)
      clear HN
      go_wp2_with fail
      go_ret
      exact ⟨by rw [HX.out]; rfl, hw1⟩
def boundR (w : World) (val : Value) (o : Option Nat) : Prop := val = .tuple #[.int .i64 ((o.getD 0 : Nat) : Int), .bool o.isSome]
theorem strEq (s : ByteArray) (l : List UInt8) : (s.toList == l) = decide (s.data.toList = l) := by rw [Lib.toList_data, Bool.eq_iff_iff]; simp
set_option maxHeartbeats 1000000 in
set_option maxRecDepth 100000 in
theorem bound_call (s : ByteArray) (w : World) : Calls Tryz.prog 166 #[.string s] w fun e w' => e = .returned (.tuple #[.int .i64 (((boundOf s.data.toList).getD 0 : Nat) : Int), .bool (boundOf s.data.toList).isSome]) ∧ w = w' := by
  have k0 := strEq s [86, 65, 76, 73, 68, 70, 82, 79, 77]
  have k1 := strEq s [86, 65, 76, 73, 68, 84, 79]
  have k2 := strEq s [83, 89, 83, 84, 69, 77, 70, 82, 79, 77]
  have k3 := strEq s [83, 89, 83, 84, 69, 77, 84, 79]
  have k4 := strEq s [84, 88]
  unfold boundOf
  by_cases h0 : s.data.toList = [86, 65, 76, 73, 68, 70, 82, 79, 77]
  · rw [decide_eq_true h0] at k0
    rw [if_pos h0]
    clear h0 k1 k2 k3 k4
    go_enter Tryz.func166, Tryz.ntmps166
    go_wp2_with fail
    go_ret2
    exact ⟨rfl, rfl⟩
  rw [decide_eq_false h0] at k0
  rw [if_neg h0]
  by_cases h1 : s.data.toList = [86, 65, 76, 73, 68, 84, 79]
  · rw [decide_eq_true h1] at k1
    rw [if_pos h1]
    clear h0 h1 k2 k3 k4
    go_enter Tryz.func166, Tryz.ntmps166
    go_wp2_with fail
    go_ret2
    exact ⟨rfl, rfl⟩
  rw [decide_eq_false h1] at k1
  rw [if_neg h1]
  by_cases h2 : s.data.toList = [83, 89, 83, 84, 69, 77, 70, 82, 79, 77]
  · rw [decide_eq_true h2] at k2
    rw [if_pos h2]
    clear h0 h1 h2 k3 k4
    go_enter Tryz.func166, Tryz.ntmps166
    go_wp2_with fail
    go_ret2
    exact ⟨rfl, rfl⟩
  rw [decide_eq_false h2] at k2
  rw [if_neg h2]
  by_cases h3 : s.data.toList = [83, 89, 83, 84, 69, 77, 84, 79]
  · rw [decide_eq_true h3] at k3
    rw [if_pos h3]
    clear h0 h1 h2 h3 k4
    go_enter Tryz.func166, Tryz.ntmps166
    go_wp2_with fail
    go_ret2
    exact ⟨rfl, rfl⟩
  rw [decide_eq_false h3] at k3
  rw [if_neg h3]
  by_cases h4 : s.data.toList = [84, 88]
  · rw [decide_eq_true h4] at k4
    rw [if_pos h4]
    clear h0 h1 h2 h3 h4
    go_enter Tryz.func166, Tryz.ntmps166
    go_wp2_with fail
    go_ret2
    exact ⟨rfl, rfl⟩
  rw [decide_eq_false h4] at k4
  rw [if_neg h4]
  clear h0 h1 h2 h3 h4
  go_enter Tryz.func166, Tryz.ntmps166
  go_wp2_with fail
  go_ret2
  exact ⟨rfl, rfl⟩
end Go.Proofs.YtpmncgbpbcgfaaaGreatDoor

/-
  expr.Depth, and the parser's expr.
-/
namespace Go.Proofs.YtpmncgbpbcgfaaaGreatDoor
open Go.RowKit
set_option linter.unusedVariables false
set_option linter.unusedSimpArgs false

def dmax (m : Nat) (l : List E) : Nat := l.foldl (fun n x => max n (1 + min (E.dep x) m)) 1
theorem dmax_from (m : Nat) : ∀ (l : List E) (n : Nat), 1 ≤ n → l.foldl (fun n x => max n (1 + min (E.dep x) m)) n = max n (1 + min (E.depL l) m)
  | [], n, h => by simp [E.depL]; omega
  | x :: l, n, h => by
    rw [List.foldl_cons, dmax_from m l _ (by omega)]
    simp only [E.depL]
    omega
theorem dmax_eq (m op k : Nat) (v : V) (s : List UInt8) (l : List E) : dmax m l = min (E.dep (.mk op k v s l)) (m + 1) := by
  unfold dmax
  rw [dmax_from m l 1 (by omega)]
  simp only [E.dep]
  omega
theorem dmax_snoc (m : Nat) (l : List E) (k : Nat) (hk : k < l.length) : dmax m (l.take (k + 1)) = max (dmax m (l.take k)) (1 + min (E.dep l[k]) m) := by
  unfold dmax
  rw [List.take_succ_eq_append_getElem hk, List.foldl_append]
  rfl
theorem dmax_le (m : Nat) (l : List E) : 1 ≤ dmax m l ∧ dmax m l ≤ m + 1 := by
  unfold dmax
  rw [dmax_from m l 1 (by omega)]
  omega
theorem dep_pos (e : E) : 1 ≤ E.dep e := by cases e; simp only [E.dep]; omega
structure DepRel (w : World) (m : Nat) (l : List E) (k : Nat) (c5 c13 : Value) (wr : World) : Prop where
  le : k ≤ l.length
  c5 : c5 = .int .i64 ((dmax m (l.take k) : Nat) : Int)
  c13 : c13 = .int .i64 (k : Int)
  bel : Below w.heap.size w wr
set_option maxHeartbeats 2000000 in
set_option maxRecDepth 100000 in
theorem depth_call : ∀ (m : Nat), 1 ≤ m → m ≤ 1000 → ∀ (e : E) (cs : List Value) (w : World) (F : Nat → Prop), ERep w F e cs →
    Calls Tryz.prog 72 #[.agg cs.toArray, .int .i64 (m : Int)] w fun e' w' => e' = .returned (.int .i64 ((min (E.dep e) m : Nat) : Int)) ∧ Below w.heap.size w w'
  | 0, h, _, _, _, _, _, _ => absurd h (by omega)
  | 1, _, _, e, cs, w, F, hr => by
    have HX : Hid (min (E.dep e) 1 = 1) := Lib.hid (by have := dep_pos e; omega)
    obtain ⟨a0, a1, a2, a3, a4, a5, A, a6, a7, rfl⟩ := erep_lit hr
    clear hr
    rw [HX.out]
    go_enter Tryz.func72, Tryz.ntmps72
    go_wp2_with fail
    go_ret
    exact ⟨rfl, below1 _ _⟩
  | m + 2, _, hm, .mk op int v name l, cs, w, F, hr => by
    have HD := Lib.hid (depth_call (m + 1) (by omega) (by omega))
    obtain ⟨a, rfl, hl⟩ := erep_iff.1 hr
    clear hr
    have HX : Hid (dmax (m + 1) l = min (E.dep (.mk op int v name l)) (m + 2)) := Lib.hid (dmax_eq (m + 1) op int v name l)
    have HL := Lib.hid hl
    obtain ⟨A, c, rfl⟩ := hl.form
    clear hl
    generalize hM : m + 2 = M at hm ⊢
    have c1 : decide ((M : Int) ≤ 1) = false := decide_eq_false (by omega)
    have e1 : IntKind.i64.wrap ((M : Int) - 1) = (m : Int) + 1 := by rw [IntWalk.i64_in _ (by omega)]; omega
    have HM := Lib.hid hM
    have hm2 : m ≤ 1000 := by omega
    clear hM
    unfold eCells strV
    go_enter Tryz.func72, Tryz.ntmps72
    go_wp2_with fail
    refine name_alloc (K := Code.wp _ _ _ _) fun w1 hb1 hw1 hz1 => ?_
    replace HL := Lib.hid (HL.out.kept goodE fun b _ hl => hw1.block b hl)
    clear hb1
    go_loopw [5, 13] (fun c5 c13 wr => ∃ k, DepRel w1 (m + 1) l k c5 c13 wr) (fun _ c13 _ => l.length - (intOf c13).toNat)
    case atStart => exact ⟨0, ⟨Nat.zero_le _, rfl, rfl, Below.refl _ _⟩⟩
    case round =>
      obtain ⟨k, ⟨hk, rfl, rfl, hb⟩⟩ := hrel
      have hd := dmax_le (m + 1) (l.take k)
      by_cases hlt : k < l.length
      · have HS := Lib.hid (dmax_snoc (m + 1) l k hlt)
        have hlm : l.length ≤ maxLen := by
          rcases HL.out with ⟨rfl, _⟩ | ⟨_, _, _, _, h, _⟩
          · simp at hlt
          · exact h
        unfold maxLen at hlm
        obtain ⟨g, css, rfl, hcell, hrep⟩ : ∃ (g : Nat) (css : List Value), A = some ⟨g, 0, none⟩ ∧ (∀ j, j < 7 → w1.cell? ⟨g, k * 7 + j, none⟩ = css[j]?) ∧ ERep w1 F l[k] css := by
          rcases HL.out with ⟨rfl, _⟩ | ⟨g, cap, css, he, _, _, _, hc, hr⟩
          · simp at hlt
          · injection he with he1 _ _
            exact ⟨g, css k, he1, hc k hlt, hr k hlt⟩
        obtain ⟨b0, b1, b2, b3, b4, b5, B, b6, b7, rfl⟩ := erep_lit hrep
        have HE := Lib.hid (goodE.below hrep hb)
        have hg1 : g < w1.heap.size := World.block_lt_of_cell? w1 _ (hcell 0 (by omega))
        have r0 := (hb.cell (p := ⟨g, k * 7, none⟩) hg1).trans (hcell 0 (by omega))
        have r1 := (hb.cell (p := ⟨g, k * 7 + 1, none⟩) hg1).trans (hcell 1 (by omega))
        have r2 := (hb.cell (p := ⟨g, k * 7 + 2, none⟩) hg1).trans (hcell 2 (by omega))
        have r3 := (hb.cell (p := ⟨g, k * 7 + 3, none⟩) hg1).trans (hcell 3 (by omega))
        have r4 := (hb.cell (p := ⟨g, k * 7 + 4, none⟩) hg1).trans (hcell 4 (by omega))
        have r5 := (hb.cell (p := ⟨g, k * 7 + 5, none⟩) hg1).trans (hcell 5 (by omega))
        have r6 := (hb.cell (p := ⟨g, k * 7 + 6, none⟩) hg1).trans (hcell 6 (by omega))
        have c2 : (k : Int) < (l.length : Int) := by omega
        have c3 : (0 : Int) ≤ (k : Int) := by omega
        clear hcell hrep hg1
        generalize l[k] = x at HE HS
        simp only [List.getElem?_cons_zero, List.getElem?_cons_succ] at r0 r1 r2 r3 r4 r5 r6
        go_wp2_with fail
        refine name_alloc (K := fun W => Calls _ _ _ W _) fun w3 hb3 hw3 hz3 => ?_
        have hc := HD.out x _ w3 F (goodE.below HE.out hw3)
        rw [show ((m + 1 : Nat) : Int) = (m : Int) + 1 by omega] at hc
        refine hc.mono ?_
        rintro e' w4 ⟨rfl, hw4⟩
        have HB := Lib.hid (hb.trans ((hw3.mono (by have := hb.size; omega)).trans (hw4.mono (by have := hb.size; omega))))
        have hq : min (E.dep x) (m + 1) ≤ m + 1 := by omega
        clear hc hw3 hw4 hz3 hb3 r0 r1 r2 r3 r4 r5 r6 HE hb
        generalize min (E.dep x) (m + 1) = q at HS hq
        generalize dmax (m + 1) (l.take k) = nk at HS hd
        have e2 : IntKind.i64.wrap (1 + (q : Int)) = ((1 + q : Nat) : Int) := by rw [IntWalk.i64_in _ (by omega)]; omega
        go_wp2_with fail
        go_roundw
        case rel => exact ⟨k + 1, ⟨by omega, by rw [HS.out]; congr 1; omega, by go_num, HB.out⟩⟩
        case measure => simp [intOf]; omega
      · obtain rfl : k = l.length := by omega
        rw [List.take_length] at hd ⊢
        rw [HX.out, HM.out] at hd ⊢
        have HB := Lib.hid (hw1.trans (hb.mono (by omega)))
        clear hd
        go_wp2_with fail
        go_ret
        exact ⟨rfl, HB.out⟩
set_option maxHeartbeats 1000000 in
set_option maxRecDepth 100000 in
theorem Depth_call (e : E) (cs : List Value) (w : World) (F : Nat → Prop) (hr : ERep w F e cs) : Calls Tryz.prog 42 #[.agg cs.toArray] w fun e' w' => e' = .returned (.int .i64 ((min (E.dep e) 25 : Nat) : Int)) ∧ Below w.heap.size w w' := by
  have HR := Lib.hid hr
  obtain ⟨a0, a1, a2, a3, a4, a5, A, a6, a7, rfl⟩ := erep_lit hr
  clear hr
  go_enter Tryz.func42, Tryz.ntmps42
  go_wp2_with fail
  refine name_alloc (K := fun W => Calls _ _ _ W _) fun w1 hb1 hw1 hz1 => ?_
  refine (depth_call 25 (by omega) (by omega) e _ w1 F (goodE.below HR.out hw1)).mono ?_
  rintro e' w2 ⟨rfl, hw2⟩
  have HB := Lib.hid (hw1.trans (hw2.mono (by omega)))
  clear hw1 hw2 hb1
  generalize hq : min (E.dep e) 25 = q
  have HQ := Lib.hid hq
  clear hq
  go_wp2_with fail
  go_ret
  exact ⟨by rw [HQ.out]; rfl, HB.out⟩
end Go.Proofs.YtpmncgbpbcgfaaaGreatDoor
