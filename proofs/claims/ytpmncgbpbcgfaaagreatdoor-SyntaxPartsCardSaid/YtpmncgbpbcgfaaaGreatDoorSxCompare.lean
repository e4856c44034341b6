/-
  Comparisons.
-/
import Derived.Test.YtpmncgbpbcgfaaaGreatDoorSxC
namespace Go.Proofs.YtpmncgbpbcgfaaaGreatDoor
open Go.RowKit
set_option linter.unusedVariables false
set_option linter.unusedSimpArgs false

theorem relOf_none_of {T : List Tok} {i : Nat} (h : ¬ (i + 1 < T.length)) : relOf (cores T) i = none := by
  unfold relOf
  rcases h1 : (cores T)[i]? with _ | a
  · rfl
  · rw [cores_none (show T.length ≤ i + 1 by omega)]
theorem relOf_at {T : List Tok} {i : Nat} (h : i + 1 < T.length) : relOf (cores T) i = if T[i].kind = 1 ∧ T[i + 1].kind = 2 then (if T[i + 1].text ∈ relations then some (relations.idxOf T[i + 1].text) else none) else none := by
  unfold relOf
  rw [cores_at (show i < T.length by omega), cores_at h]
  rfl
theorem pTake_one' {kind : Nat} {C : List Core} {i j : Nat} {d d0 : Bool} {t : Nat × Core} (h : pTake kind C i d = .ok t j d0) : j = i + 1 := by
  have hw : ∀ {C : List Core} {i j : Nat} {d d1 : Bool} {a : Nat × Core}, (pWrong : P (Nat × Core)) C i d = .ok a j d1 → False := by
    intro C i j d d1 a h
    unfold pWrong at h
    split at h <;> cases h
  unfold pTake at h
  split at h
  · split at h
    · cases h; rfl
    · exact (hw h).elim
  · exact (hw h).elim
theorem pName_one' {C : List Core} {i j : Nat} {d d0 : Bool} {s : List UInt8} (h : pName C i d = .ok s j d0) : j = i + 1 := by
  unfold pName at h
  replace h : P.bind (pTake 1) (fun t => pure t.2.text) C i d = .ok s j d0 := h
  unfold P.bind at h
  rcases hq : pTake 1 C i d with ⟨t, j1, d1⟩ | ⟨j1, c⟩
  · rw [hq] at h
    cases h
    exact pTake_one' hq
  · rw [hq] at h; cases h
/-- the sum's contract, as a hypothesis -/
def SumAt (x : P E) (p : Nat) (v : Value) (T : List Tok) (n lo : Nat) : Prop :=
  ∀ w i d, lo ≤ i → St w p v T i n d → Calls Tryz.prog 132 #[.pointer (some ⟨p, 0, none⟩)] w (PPost w p v T i n (exprR w.heap.size) (x (cores T) i d))
theorem compare_no {m : Nat} {u : P E} {T : List Tok} {i : Nat} {d : Bool} {r : R E} (hn : relOf (cores T) i = none) (hr : pCompare m u (cores T) i d = r) : (pSum m u >>= fun e => pOperator cmpOps >>= fun o => match o with
      | some op => pSum m u >>= fun f => pure (E.node op [e, f])
      | none => pWord [73, 83] >>= fun b => if b = true then (pWord [78, 79, 84] >>= fun no => pWords [[78, 85, 76, 76]] >>= fun _ => pure (if no = true then E.node 4 [E.node 21 [e]] else E.node 21 [e])) else pure e) (cores T) i d = r := by
  unfold pCompare at hr
  rw [hn] at hr
  exact hr
theorem compare_yes {m : Nat} {u : P E} {T : List Tok} {i rel : Nat} {d : Bool} {r : R E} (hn : relOf (cores T) i = some rel) (hr : pCompare m u (cores T) i d = r) : (pName >>= fun a => pStep >>= fun _ => pName >>= fun b => pure (E.mk 25 rel V.null [] [E.name a, E.name b])) (cores T) i d = r := by
  unfold pCompare at hr
  rw [hn] at hr
  exact hr
set_option maxHeartbeats 80000000 in
set_option maxRecDepth 100000 in
theorem compare_call (m : Nat) (u : P E) (p : Nat) (v : Value) (T : List Tok) (i0 n : Nat) (hsum : SumAt (pSum m u) p v T n i0)
    (w : World) (i : Nat) (d : Bool) (hi0 : i0 ≤ i) (h : St w p v T i n d) :
    Calls Tryz.prog 108 #[.pointer (some ⟨p, 0, none⟩)] w (PPost w p v T i n (exprR w.heap.size) (pCompare m u (cores T) i d)) := by
  obtain ⟨A, c, rfl, hA⟩ := h.slice
  have HA := Lib.hid hA
  have hl := h.tk.len
  have hle := h.le
  clear hA
  obtain ⟨r, hr⟩ : ∃ r, pCompare m u (cores T) i d = r := ⟨_, rfl⟩
  rw [hr]
  have HR := Lib.hid hr
  have HO := Lib.hid hsum
  have ha := At.start h
  clear hr h hsum
  have e1 : IntKind.i64.wrap ((i : Int) + 1) = (i : Int) + 1 := by rw [IntWalk.i64_in _ (by omega)]
  go_enter Tryz.func108, Tryz.ntmps108
  go_wp2_with fail
  refine name_alloc (K := Code.wp _ _ _ _) fun w1 hB hw1 hz1 => ?_
  replace ha := ha.below hw1
  have hBp : w.heap.size ≠ p := by have := ha.hp; omega
  clear hw1
  have h0 := ha.st.ps.c0
  have h1 := ha.st.ps.c1
  by_cases hi : i + 1 < T.length
  case' neg =>
    have HR := Lib.hid (compare_no (relOf_none_of hi) HR.out)
    have d1 : decide ((i : Int) + 1 < (T.length : Int)) = false := decide_eq_false (by omega)
    go_quiet (fail)
    refine name_drew (K := Exit.then _ _ _ _) fun w4 hw4 hz4 => ?_
    replace ha := ha.below hw4
    replace hB := hB.below hw4
    clear h0 h1 hw4
    go_wp2_with fail
  case' pos =>
    obtain ⟨g, rfl⟩ := HA.out (by omega)
    obtain ⟨t0, t1, t2, t3⟩ := ha.st.tok (k := i) (by omega)
    obtain ⟨u0, u1, u2, u3⟩ := ha.st.tok (k := i + 1) (by omega)
    clear t1 t2 t3 u2 u3
    have HRel := Lib.hid (relOf_at hi)
    have d1 : decide ((i : Int) + 1 < (T.length : Int)) = true := decide_eq_true (by omega)
    have c2 : (i : Int) < (T.length : Int) := by omega
    have c3 : (0 : Int) ≤ (i : Int) := by omega
    have c4 : (i : Int) + 1 < (T.length : Int) := by omega
    have c5 : (0 : Int) ≤ (i : Int) + 1 := by omega
    have c6 : ((i : Int) + 1).toNat = i + 1 := by omega
    have HOK1 := Lib.hid (ha.st.tk.ok (i + 1) hi)
    generalize T[i].kind = k0 at t0 HRel
    generalize T[i + 1] = tk at u0 u1 HRel HOK1
    by_cases hk0 : k0 = 1
    case' neg =>
      have HR := Lib.hid (compare_no (by rw [HRel.out, if_neg (fun e => hk0 e.1)]) HR.out)
      have c7 : ((k0 : Int) == 1) = false := by rw [beq_eq_false_iff_ne]; omega
      go_quiet (fail)
      refine name_drew (K := Exit.then _ _ _ _) fun w4 hw4 hz4 => ?_
      replace ha := ha.below hw4
      replace hB := hB.below hw4
      clear h0 h1 hw4 t0 u0 u1
      go_wp2_with fail
    case' pos =>
      by_cases hk1 : tk.kind = 2
      case' neg =>
        have HR := Lib.hid (compare_no (by rw [HRel.out, if_neg (fun e => hk1 e.2)]) HR.out)
        have c7 : ((k0 : Int) == 1) = true := by rw [beq_iff_eq]; omega
        have c8 : ((tk.kind : Int) == 2) = false := by rw [beq_eq_false_iff_ne]; omega
        go_quiet (fail)
        refine name_drew (K := Exit.then _ _ _ _) fun w4 hw4 hz4 => ?_
        replace ha := ha.below hw4
        replace hB := hB.below hw4
        clear h0 h1 hw4 t0 u0 u1
        go_wp2_with fail
      case' pos =>
        have c7 : ((k0 : Int) == 1) = true := by rw [beq_iff_eq]; omega
        have c8 : ((tk.kind : Int) == 2) = true := by rw [beq_iff_eq]; omega
        have HRel2 : Hid (relOf (cores T) i = if tk.text ∈ relations then some (relations.idxOf tk.text) else none) := Lib.hid (by rw [HRel.out, if_pos ⟨hk0, hk1⟩])
        clear hk0 hk1 HRel
        go_quiet (fail)
        refine name_drew (K := Exit.then _ _ _ _) fun w2 hw2 hz2 => ?_
        replace ha := ha.below hw2
        replace hB := hB.below hw2
        have hg1 : g < w1.heap.size := World.block_lt_of_cell? w1 _ t0
        replace u1 := (hw2.cell (p := ⟨g, (i + 1) * 4 + 1, none⟩) hg1).trans u1
        clear h0 h1 hw2 t0 u0 c7 c8 hg1
        have h0 := ha.st.ps.c0
        have h1 := ha.st.ps.c1
        go_wp2_with fail
        go_still_tail 12, (by kernel_rfl)
        change wpList _ _ _ _ _ (w2.drewN 1)
        replace u1 := show (w2.drewN 1).cell? _ = _ from u1
        replace h0 := show (w2.drewN 1).cell? _ = _ from h0
        replace h1 := show (w2.drewN 1).cell? _ = _ from h1
        replace ha := ha.drewN 1
        replace hB := hB.drewN 1
        generalize w2.drewN 1 = w3 at ha hB h0 h1 u1 ⊢
        go_wp2_with fail
        refine (find_call _ _).mono ?_
        rintro e w4 ⟨rfl, hw4⟩
        replace ha := ha.below hw4
        replace hB := hB.below hw4
        clear h0 h1 u1 hw4
        by_cases hmem : tk.text ∈ relations
        case' neg =>
          have HR := Lib.hid (compare_no (by rw [HRel2.out, if_neg hmem]) HR.out)
          have HX : Hid (relIx tk.text = -1) := Lib.hid (by unfold relIx; rw [if_neg hmem])
          have hz4 : True := trivial
          rw [show relIx (ByteArray.mk tk.text.toArray).data.toList = -1 from HX.out]
          clear HRel2 hmem HX
          go_wp2_with fail
        case' pos =>
          have HR := Lib.hid (compare_yes (by rw [HRel2.out, if_pos hmem]) HR.out)
          have HX : Hid (relIx tk.text = ((relations.idxOf tk.text : Nat) : Int)) := Lib.hid (by unfold relIx; rw [if_pos hmem])
          rw [show relIx (ByteArray.mk tk.text.toArray).data.toList = ((relations.idxOf tk.text : Nat) : Int) from HX.out]
          clear HRel2 hmem HX
          generalize relations.idxOf tk.text = rel at HR
          have c9 : (0 : Int) ≤ (rel : Int) := by omega
          go_wp2_with fail
          refine at_callE (name_call p _ T i n d w4 ha.st) ha HR (fun a1 j d' val w5 HXO HR hv ha hij hg5 => ?_) (fun j c w' hr hg => ⟨rfl, PPost.failed hr.out hg⟩)
          obtain ⟨rfl, hl1⟩ := hv
          have hj := pName_one' HXO.out
          subst hj
          replace hB := hB.grown hg5 hBp
          clear hg5 HXO
          have HR1 : Hid ((pName >>= fun b => pure (E.mk 25 rel V.null [] [E.name a1, E.name b]) : P E) (cores T) (i + 1 + 1) d' = r) := Lib.hid HR.out
          clear HR
          unfold strV
          have h1 : w5.cell? ⟨p, 1, none⟩ = some (.int .i64 ((i : Int) + 1)) := by have := ha.st.ps.c1; rwa [show ((i + 1 : Nat) : Int) = (i : Int) + 1 by omega] at this
          have hf := ha.st.ps.free 1
          have e2 : IntKind.i64.wrap ((i : Int) + 1 + 1) = ((i + 1 : Nat) : Int) + 1 := by rw [IntWalk.i64_in _ (by omega)]; omega
          go_wp2_with fail
          rw [show ((i : Int) + 1 + 1) = ((i + 1 : Nat) : Int) + 1 by omega]
          refine name_step ha (by omega) (K := fun W => Calls _ _ _ W _) fun w6 ha hg6 hz6 => ?_
          replace hB := hB.grown hg6 hBp
          clear hg6 h1 hf e2
          refine at_call (name_call p _ T _ n _ w6 ha.st) ha HR1 (fun b1 j d'' val w7 HR hv ha hij hg7 => ?_) (fun j c w' hr hg => ⟨rfl, PPost.failed hr.out hg⟩)
          obtain ⟨rfl, hl2⟩ := hv
          replace hB := hB.grown hg7 hBp
          clear hg7 HR1
          unfold strV
          go_wp2_with (refine store_blk rfl 34 (.tmp 2) (.tmp 80) rfl w.heap.size (eCells 25 rel V.null [] (.slice (some ⟨w7.heap.size, 0, none⟩) 2 2)) rfl rfl 34 _ (hB.alloc _) (by kernel_rfl) rfl (one_eCells _ _ _ _ rfl) ?_)
          intro w8 hB8 hg8 hz8
          have hN := (Blk.new w7 (eCells 3 0 V.null a1 (.slice none 0 0) ++ eCells 3 0 V.null b1 (.slice none 0 0)) 34).grown hg8 (by have := ha.le; have := hB.lt; omega)
          have ha8 := (ha.alloc _).own hg8 (Nat.le_refl _)
          have h78 := ha.le
          clear hg8 hB
          go_wp2_with fail
          refine bodyPost_ret (results_cell_row Tryz.results108 _ _ w.heap.size _ _ _ _ rfl hB8 Tryz.underlying34 rfl (by kernel_rfl)) rfl ?_
          exact at_ok ha8 HR.out.symm ⟨_, rfl, erep_iff.2 ⟨_, rfl, LRep.two goodE hN (leafR _ _ _ _) (leafR _ _ _ _) ⟨h78, by simp⟩⟩⟩ (by omega)
  all_goals
    clear hz4
    refine at_call (HO.out w4 i d hi0 ha.st) ha HR (fun e j d' val w5 HR hv ha hij hg5 => ?_) (fun j c w' hr hg => ⟨rfl, PPost.failed hr.out hg⟩)
    obtain ⟨cs, rfl, hre⟩ := hv
    obtain ⟨a0, a1, a2, a3, a4, a5, B, a6, a7, rfl⟩ := erep_lit hre
    have HE := Lib.hid hre
    have h45 := hg5.size
    have h40 := hB.lt
    replace hB := hB.grown hg5 hBp
    clear hre hg5
    go_wp2_with fail
    refine name_alloc3 (K := fun W => Calls _ _ _ W _) fun w6 hX hS1 hS2 hw6 hz6 => ?_
    have h50 := ha.le
    replace HE := Lib.hid (goodE.below (goodE.more (goodE.made (base := w.heap.size) (L := [w.heap.size]) HE.out (by omega) (by intro q hq; simp at hq; omega)) (Nat.le_refl _)) hw6)
    replace ha := ha.below hw6
    replace hB := hB.below hw6
    have hXp : w5.heap.size ≠ p := by have := ha.hp; omega
    clear hw6
    refine at_callE (operator_call p _ T j n d' w6 ha.st (w5.heap.size + 1) (w5.heap.size + 1 + 1) 6 6 cmpOps _ (Ops.ofBlk cmpOps hS1 hS2) (by have := ha.hp; omega) (by have := ha.hp; omega) (by decide)) ha HR (fun o j7 d7 val w7 HXO HR hv ha hij7 hg7 => ?_) (fun j c w' hr hg => ⟨rfl, PPost.failed hr.out hg⟩)
    obtain rfl := hv
    replace HE := Lib.hid (goodE.grown HE.out hg7 ha.hp)
    replace hB := hB.grown hg7 hBp
    replace hX := hX.grown hg7 hXp
    have h67 := hg7.size
    clear hg7 hS1 hS2
    have r0 := hX.cell 0 rfl
    have r1 := hX.cell 1 rfl
    have r2 := hX.cell 2 rfl
    have r3 := hX.cell 3 rfl
    have r4 := hX.cell 4 rfl
    have r5 := hX.cell 5 rfl
    have r6 := hX.cell 6 rfl
    rcases o with _ | op
    · unfold Option.getD Option.isSome
      clear HXO
      go_wp2_with fail
      refine at_word ha _ [73, 83] rfl HR (fun w8 HR ha hg8 => ?_) (fun w8 HR ha hg8 => ?_)
      · replace HE := Lib.hid (goodE.grown HE.out hg8 ha.hp)
        replace hB := hB.grown hg8 hBp
        replace hX := hX.grown hg8 hXp
        have h78 := hg8.size
        clear hg8 r0 r1 r2 r3 r4 r5 r6
        go_wp2_with fail
        refine at_wordB ha _ [78, 79, 84] rfl HR (fun no j9 w9 HR _ hij9 ha hg9 => ?_)
        replace HE := Lib.hid (goodE.grown HE.out hg9 ha.hp)
        replace hB := hB.grown hg9 hBp
        replace hX := hX.grown hg9 hXp
        have h89 := hg9.size
        clear hg9
        go_wp2_with fail
        refine name_alloc (K := fun W => Calls _ _ _ W _) fun w10 hS hw10 hz10 => ?_
        replace HE := Lib.hid (goodE.below HE.out hw10)
        replace ha := ha.below hw10
        replace hB := hB.below hw10
        replace hX := hX.below hw10
        clear hw10
        refine at_words1 ha hS (by omega) [78, 85, 76, 76] rfl HR (fun w11 HR ha hg11 => ?_) (fun j c w' hr hg => ⟨rfl, PPost.failed hr.out hg⟩)
        replace HE := Lib.hid (goodE.grown HE.out hg11 ha.hp)
        replace hB := hB.grown hg11 hBp
        replace hX := hX.grown hg11 hXp
        have h1011 := hg11.size
        clear hg11 hS
        have r0 := hX.cell 0 rfl
        have r1 := hX.cell 1 rfl
        have r2 := hX.cell 2 rfl
        have r3 := hX.cell 3 rfl
        have r4 := hX.cell 4 rfl
        have r5 := hX.cell 5 rfl
        have r6 := hX.cell 6 rfl
        go_upto_region 15 with (refine store_blk rfl 34 (.tmp 5) (.tmp 108) rfl w5.heap.size (eCells 21 0 V.null [] (.slice (some ⟨w11.heap.size, 0, none⟩) 1 1)) rfl rfl 34 _ (hX.alloc _) (by kernel_rfl) rfl (one_eCells _ _ _ _ rfl) ?_)
        intro w12 hX12 hg12 hz12
        have hXl := hX.lt
        have hz12' : w11.heap.size + 1 ≤ w12.heap.size := by rw [hz12]; simp
        clear hz12
        have HN12 := Lib.hid (show ERep w12 (Fp w.heap.size [w5.heap.size, w.heap.size]) (E.node 21 [e]) (eCells 21 0 V.null [] (.slice (some ⟨w11.heap.size, 0, none⟩) 1 1)) from erep_iff.2 ⟨_, rfl, LRep.single goodE (t := 34) ((Blk.new w11 [.int .i64 a0, .int .i64 a1, .int .i64 a2, .int .i64 a3, .string a4, .string a5, .slice B a6 a7] 34).grown hg12 (by omega)) (goodE.own (goodE.below HE.out (below1 w11 _)) hg12 (by simp)) ⟨by omega, by simp; omega⟩⟩)
        replace ha := (ha.alloc _).own hg12 (by omega)
        replace hB := (hB.alloc _).grown hg12 (by omega)
        clear hg12 hX HE r0 r1 r2 r3 r4 r5 r6
        rename Blk w12 w5.heap.size _ _ => hX
        have HE := HN12
        clear HN12
        cases no
        · have HX : Hid (r = .ok (E.node 21 [e]) (j9 + 1) d7) := Lib.hid HR.out.symm
          have r0 := hX.cell 0 rfl
          have r1 := hX.cell 1 rfl
          have r2 := hX.cell 2 rfl
          have r3 := hX.cell 3 rfl
          have r4 := hX.cell 4 rfl
          have r5 := hX.cell 5 rfl
          have r6 := hX.cell 6 rfl
          go_wp2_with (refine store_blk rfl 34 (.tmp 2) (.tmp 113) rfl w.heap.size (eCells 21 0 V.null [] (.slice (some ⟨w11.heap.size, 0, none⟩) 1 1)) rfl rfl 34 _ hB (by kernel_rfl) rfl (goodE.one HE.out) ?_)
          intro w20 hB20 hg20 hz20
          have HF20 := Lib.hid (goodE.own HE.out hg20 (by simp))
          have ha20 := ha.own hg20 (Nat.le_refl _)
          clear HE r0 r1 r2 r3 r4 r5 r6 hg20 hB hX
          go_wp2_with fail
          refine bodyPost_ret (results_cell_row Tryz.results108 _ _ w.heap.size _ _ _ _ rfl hB20 Tryz.underlying34 rfl (by kernel_rfl)) rfl ?_
          exact at_ok ha20 HX.out ⟨_, rfl, goodE.all HF20.out⟩ (by omega)
        · have HX : Hid (r = .ok (E.node 4 [E.node 21 [e]]) (j9 + 1) d7) := Lib.hid HR.out.symm
          have r0 := hX.cell 0 rfl
          have r1 := hX.cell 1 rfl
          have r2 := hX.cell 2 rfl
          have r3 := hX.cell 3 rfl
          have r4 := hX.cell 4 rfl
          have r5 := hX.cell 5 rfl
          have r6 := hX.cell 6 rfl
          go_upto_region 17 with (refine store_blk rfl 34 (.tmp 5) (.tmp 112) rfl w5.heap.size (eCells 4 0 V.null [] (.slice (some ⟨w12.heap.size, 0, none⟩) 1 1)) rfl rfl 34 _ (hX.alloc _) (by kernel_rfl) rfl (one_eCells _ _ _ _ rfl) ?_)
          intro w13 hX13 hg13 hz13
          have HN13 := Lib.hid (show ERep w13 (Fp w.heap.size [w5.heap.size, w.heap.size]) (E.node 4 [E.node 21 [e]]) (eCells 4 0 V.null [] (.slice (some ⟨w12.heap.size, 0, none⟩) 1 1)) from erep_iff.2 ⟨_, rfl, LRep.single goodE (t := 34) ((Blk.new w12 (eCells 21 0 V.null [] (.slice (some ⟨w11.heap.size, 0, none⟩) 1 1)) 34).grown hg13 (by omega)) (goodE.own (goodE.below HE.out (below1 w12 _)) hg13 (by simp)) ⟨by omega, by simp; omega⟩⟩)
          replace ha := (ha.alloc _).own hg13 (by omega)
          replace hB := (hB.alloc _).grown hg13 (by omega)
          clear hg13 hX HE r0 r1 r2 r3 r4 r5 r6
          rename Blk w13 w5.heap.size _ _ => hX
          have HE := HN13
          clear HN13
          have r0 := hX.cell 0 rfl
          have r1 := hX.cell 1 rfl
          have r2 := hX.cell 2 rfl
          have r3 := hX.cell 3 rfl
          have r4 := hX.cell 4 rfl
          have r5 := hX.cell 5 rfl
          have r6 := hX.cell 6 rfl
          go_wp2_with (refine store_blk rfl 34 (.tmp 2) (.tmp 113) rfl w.heap.size (eCells 4 0 V.null [] (.slice (some ⟨w12.heap.size, 0, none⟩) 1 1)) rfl rfl 34 _ hB (by kernel_rfl) rfl (goodE.one HE.out) ?_)
          intro w20 hB20 hg20 hz20
          have HF20 := Lib.hid (goodE.own HE.out hg20 (by simp))
          have ha20 := ha.own hg20 (Nat.le_refl _)
          clear HE r0 r1 r2 r3 r4 r5 r6 hg20 hB hX
          go_wp2_with fail
          refine bodyPost_ret (results_cell_row Tryz.results108 _ _ w.heap.size _ _ _ _ rfl hB20 Tryz.underlying34 rfl (by kernel_rfl)) rfl ?_
          exact at_ok ha20 HX.out ⟨_, rfl, goodE.all HF20.out⟩ (by omega)
      · replace HE := Lib.hid (goodE.grown HE.out hg8 ha.hp)
        replace hB := hB.grown hg8 hBp
        replace hX := hX.grown hg8 hXp
        clear hg8 r0 r1 r2 r3 r4 r5 r6
        have HX : Hid (r = .ok e j7 d7) := Lib.hid HR.out.symm
        have r0 := hX.cell 0 rfl
        have r1 := hX.cell 1 rfl
        have r2 := hX.cell 2 rfl
        have r3 := hX.cell 3 rfl
        have r4 := hX.cell 4 rfl
        have r5 := hX.cell 5 rfl
        have r6 := hX.cell 6 rfl
        go_wp2_with (refine store_blk rfl 34 (.tmp 2) (.tmp 113) rfl w.heap.size [.int .i64 a0, .int .i64 a1, .int .i64 a2, .int .i64 a3, .string a4, .string a5, .slice B a6 a7] rfl rfl 34 _ hB (by kernel_rfl) rfl (goodE.one HE.out) ?_)
        intro w9 hB9 hg9 hz9
        have HF9 := Lib.hid (goodE.own HE.out hg9 (by simp))
        have ha9 := ha.own hg9 (Nat.le_refl _)
        clear HE r0 r1 r2 r3 r4 r5 r6 hg9 hB hX
        go_wp2_with fail
        refine bodyPost_ret (results_cell_row Tryz.results108 _ _ w.heap.size _ _ _ _ rfl hB9 Tryz.underlying34 rfl (by kernel_rfl)) rfl ?_
        exact at_ok ha9 HX.out ⟨_, rfl, goodE.all HF9.out⟩ (by omega)
    · unfold Option.getD Option.isSome
      clear HXO
      go_wp2_with fail
      go_region_with (go_at_call 132; refine at_call (HO.out _ j7 d7 (by omega) (ha.drewN 1).st) (ha.drewN 1) HR (fun f2 q d9 val w9 HR9 hv ha9 hij9 hg9 => ?_) (fun j c w' hr hg => ⟨rfl, PPost.failed hr.out hg⟩); obtain ⟨fs, rfl, hrf⟩ := hv; obtain ⟨c0, c1, c2, c3, c4, c5, C, c6, c7, rfl⟩ := erep_lit hrf; have hX9 := (hX.drewN 1).grown hg9 hXp; have hB9 := (hB.drewN 1).grown hg9 hBp; have y0 := hX9.cell 0 rfl; have y1 := hX9.cell 1 rfl; have y2 := hX9.cell 2 rfl; have y3 := hX9.cell 3 rfl; have y4 := hX9.cell 4 rfl; have y5 := hX9.cell 5 rfl; have y6 := hX9.cell 6 rfl; have z0 := hB9.free 0; have z1 := hB9.free 1; have z2 := hB9.free 2; have z3 := hB9.free 3; have z4 := hB9.free 4; have z5 := hB9.free 5; have z6 := hB9.free 6; have x0 := hB9.cell 0 rfl; have x1 := hB9.cell 1 rfl; have x2 := hB9.cell 2 rfl; have x3 := hB9.cell 3 rfl; have x4 := hB9.cell 4 rfl; have x5 := hB9.cell 5 rfl; have x6 := hB9.cell 6 rfl; have l9 : w5.heap.size < w9.heap.size := hX9.lt; have l8 : w.heap.size < w9.heap.size := hB9.lt)
      all_goals
        have HF := Lib.hid hrf
        have hX7 := hX.lt
        have h79 : w7.heap.size ≤ w9.heap.size := hg9.size
        have HE9 := Lib.hid (goodE.grown (goodE.below HE.out (belowD w7 1)) hg9 ha.hp)
        clear y0 y1 y2 y3 y4 y5 y6 z0 z1 z2 z3 z4 z5 z6 x0 x1 x2 x3 x4 x5 x6 r0 r1 r2 r3 r4 r5 r6 hrf HE hB hX HR
        refine name_node (K := Exit.then _ _ _ _) hB9 fun w10 w11 hg10 hw11 hz10 hz11 hB11 hN11 => ?_
        have ha11 := (ha9.own hg10 (by omega)).below (hw11.mono (by omega))
        have HE11 := Lib.hid (goodE.below (goodE.own HE9.out hg10 (by simp)) (hw11.mono (by omega)))
        have HF11 := Lib.hid (goodE.below (goodE.own (goodE.made (L := [w5.heap.size, w.heap.size]) HF.out (show w.heap.size ≤ w7.heap.size by omega) (by intro q hq; show q < w7.heap.size; simp at hq; omega)) hg10 (by simp)) (hw11.mono (by omega)))
        have HN := Lib.hid (show ERep w11 (Fp w.heap.size [w5.heap.size, w.heap.size]) (E.node op [e, f2]) _ from erep_iff.2 ⟨_, rfl, LRep.two goodE (k := 2) (cs1 := [.int .i64 a0, .int .i64 a1, .int .i64 a2, .int .i64 a3, .string a4, .string a5, .slice B a6 a7]) (cs2 := [.int .i64 c0, .int .i64 c1, .int .i64 c2, .int .i64 c3, .string c4, .string c5, .slice C c6 c7]) hN11 HE11.out HF11.out ⟨by omega, by simp; omega⟩⟩)
        clear HE9 HF hX9 hB9 hg10 hw11 HE11 HF11 hg9 ha9
        go_wp2_with fail
        refine bodyPost_ret (results_cell_row Tryz.results108 _ _ w.heap.size _ _ _ _ rfl hB11 Tryz.underlying34 rfl (by kernel_rfl)) rfl ?_
        exact at_ok ha11 HR9.out.symm ⟨_, rfl, goodE.all HN.out⟩ (by omega)
end Go.Proofs.YtpmncgbpbcgfaaaGreatDoor
