import Derived.Test.YtpmncgbpbcgfaaaGreatDoorSxT
import Derived.BigRegion
/-
  The parser's literals: plain, literal.
-/
namespace Go.Proofs.YtpmncgbpbcgfaaaGreatDoor
open Go.RowKit
set_option linter.unusedVariables false
set_option linter.unusedSimpArgs false

theorem results_row_tmp {P : Program} {fn : Func} {p q : Tmp} {ty : TypeId} (h : fn.results = #[.cell p ty, .tmp q]) (tmps : Array Value) (w : World) (g : Nat) (t : TypeId) (cs : Array Value) (fr : Nat × Nat) (d : TypeDesc)
    (hp : tmps.getD p undef = .pointer (some ⟨g, 0, none⟩)) (hg : w.heap[g]? = some (.cells cs t fr))
    (hu : P.underlying ty = some d) (hd : (match d with | .struct _ | .array _ _ => true | _ => false) = true) (hi : (P.info? ty).map (·.size) = some cs.size) :
    (results fn tmps).run P w = .ok (.tuple #[.agg cs, tmps.getD q undef]) w := by
  have hp' : tmps[p]?.getD undef = .pointer (some ⟨g, 0, none⟩) := by simpa using hp
  simp [results, h, hp', asAddr, run_loadVar_row w g t ty cs fr d hg hu hd hi]
theorem Blk.set3 {w : World} {g : Nat} {x y z : Value} {t : TypeId} (h : Blk w g [x, y, z] t) (a b c : Value) : Blk (((w.setCell ⟨g, 0, none⟩ a).setCell ⟨g, 1, none⟩ b).setCell ⟨g, 2, none⟩ c) g [a, b, c] t := ((h.set 0 a).set 1 b).set 2 c
theorem At.set3 {w0 w : World} {p : Nat} {v : Value} {T : List Tok} {i n : Nat} {d : Bool} (h : At w0 w p v T i n d) {g : Nat} (hg : w0.heap.size ≤ g) (a b c : Value) : At w0 (((w.setCell ⟨g, 0, none⟩ a).setCell ⟨g, 1, none⟩ b).setCell ⟨g, 2, none⟩ c) p v T i n d := ((h.set hg 0 a).set hg 1 b).set hg 2 c
def plainR (w : World) (val : Value) (o : Option V) : Prop := val = .tuple #[vV (o.getD V.null), .bool o.isSome]
set_option maxHeartbeats 2000000 in
set_option maxRecDepth 100000 in
theorem plain_call (p : Nat) (v : Value) (T : List Tok) (i n : Nat) (d : Bool) (w : World) (h : St w p v T i n d) :
    Calls Tryz.prog 106 #[.pointer (some ⟨p, 0, none⟩)] w (PPost w p v T i n plainR (pPlain (cores T) i d)) := by
  obtain ⟨A, c, rfl, hA⟩ := h.slice
  have HA := Lib.hid hA
  have hl := h.tk.len
  have hle := h.le
  clear hA
  obtain ⟨r, hr⟩ : ∃ r, pPlain (cores T) i d = r := ⟨_, rfl⟩
  rw [hr]
  unfold pPlain at hr
  have HR := Lib.hid hr
  clear hr
  have ha := At.start h
  clear h
  go_enter Tryz.func106, Tryz.ntmps106
  go_wp2_with fail
  refine name_alloc (K := fun W => Calls _ _ _ W _) fun w1 hB hw1 hz1 => ?_
  replace ha := ha.below hw1
  have hBp : w.heap.size ≠ p := by have := ha.hp; omega
  clear hw1 hz1
  refine at_word ha _ [78, 85, 76, 76] rfl HR (fun w2 HR ha hg2 => ?_) (fun w2 HR ha hg2 => ?_)
  · replace hB := hB.grown hg2 hBp
    clear hg2
    go_wp2_with fail
    refine (null_call _).mono ?_
    rintro e w3 ⟨rfl, hw3⟩
    replace ha := ha.below hw3
    replace hB := hB.below hw3
    clear hw3
    unfold vV vCells V.null strV
    have b0 := hB.cell 0 rfl
    have b1 := hB.cell 1 rfl
    have b2 := hB.cell 2 rfl
    have z0 := hB.free 0
    have z1 := hB.free 1
    have z2 := hB.free 2
    go_wp2_with fail
    refine bodyPost_ret (results_row_tmp Tryz.results106 _ _ w.heap.size _ _ _ _ rfl (hB.set3 (.int .i64 0) (.int .i64 0) (.string ⟨#[]⟩)) Tryz.underlying31 rfl (by kernel_rfl)) rfl ?_
    exact at_ok (ha.set3 (Nat.le_refl _) _ _ _) HR.out.symm rfl (by omega)
  · replace hB := hB.grown hg2 hBp
    clear hg2
    go_wp2_with fail
    refine at_word ha _ [84, 82, 85, 69] rfl HR (fun w3 HR ha hg3 => ?_) (fun w3 HR ha hg3 => ?_)
    · replace hB := hB.grown hg3 hBp
      clear hg3
      go_wp2_with fail
      refine (bool_call true _).mono ?_
      rintro e w4 ⟨rfl, hw4⟩
      replace ha := ha.below hw4
      replace hB := hB.below hw4
      clear hw4
      unfold vV vCells V.ofBool strV
      have b0 := hB.cell 0 rfl
      have b1 := hB.cell 1 rfl
      have b2 := hB.cell 2 rfl
      have z0 := hB.free 0
      have z1 := hB.free 1
      have z2 := hB.free 2
      go_wp2_with fail
      refine bodyPost_ret (results_row_tmp Tryz.results106 _ _ w.heap.size _ _ _ _ rfl (hB.set3 (.int .i64 3) (.int .i64 1) (.string ⟨#[]⟩)) Tryz.underlying31 rfl (by kernel_rfl)) rfl ?_
      exact at_ok (ha.set3 (Nat.le_refl _) _ _ _) HR.out.symm rfl (by omega)
    · replace hB := hB.grown hg3 hBp
      clear hg3
      go_wp2_with fail
      refine at_word ha _ [70, 65, 76, 83, 69] rfl HR (fun w4 HR ha hg4 => ?_) (fun w4 HR ha hg4 => ?_)
      · replace hB := hB.grown hg4 hBp
        clear hg4
        go_wp2_with fail
        refine (bool_call false _).mono ?_
        rintro e w5 ⟨rfl, hw5⟩
        replace ha := ha.below hw5
        replace hB := hB.below hw5
        clear hw5
        unfold vV vCells V.ofBool strV
        have b0 := hB.cell 0 rfl
        have b1 := hB.cell 1 rfl
        have b2 := hB.cell 2 rfl
        have z0 := hB.free 0
        have z1 := hB.free 1
        have z2 := hB.free 2
        go_wp2_with fail
        refine bodyPost_ret (results_row_tmp Tryz.results106 _ _ w.heap.size _ _ _ _ rfl (hB.set3 (.int .i64 3) (.int .i64 0) (.string ⟨#[]⟩)) Tryz.underlying31 rfl (by kernel_rfl)) rfl ?_
        exact at_ok (ha.set3 (Nat.le_refl _) _ _ _) HR.out.symm rfl (by omega)
      · replace hB := hB.grown hg4 hBp
        clear hg4
        by_cases hi : T.length ≤ i
        · have HR1 : Hid (r = .ok none i d) := Lib.hid (by have h := HR.out; rw [cores_none hi] at h; exact h.symm)
          have h0 := ha.st.ps.c0
          have h1 := ha.st.ps.c1
          have d1 : decide ((T.length : Int) ≤ (i : Int)) = true := decide_eq_true (by omega)
          go_wp2_with fail
          go_quiet (fail)
          refine name_drew (K := Exit.then _ _ _ _) fun w5 hw5 hz5 => ?_
          replace ha := ha.below hw5
          replace hB := hB.below hw5
          clear h0 h1 hw5 hz5
          have b0 := hB.cell 0 rfl
          have b1 := hB.cell 1 rfl
          have b2 := hB.cell 2 rfl
          have z0 := hB.free 0
          have z1 := hB.free 1
          have z2 := hB.free 2
          go_wp2_with fail
          refine bodyPost_ret (results_row_tmp Tryz.results106 _ _ w.heap.size _ _ _ _ rfl (hB.set3 (.int .i64 0) (.int .i64 0) (.string ⟨#[]⟩)) Tryz.underlying31 rfl (by kernel_rfl)) rfl ?_
          exact at_ok (ha.set3 (Nat.le_refl _) _ _ _) HR1.out rfl (by omega)
        · obtain ⟨g, rfl⟩ := HA.out (by omega)
          have hi' : i < T.length := by omega
          have h0 := ha.st.ps.c0
          have h1 := ha.st.ps.c1
          have d1 : decide ((T.length : Int) ≤ (i : Int)) = false := decide_eq_false (by omega)
          have c2 : (i : Int) < (T.length : Int) := by omega
          have c3 : (0 : Int) ≤ (i : Int) := by omega
          go_wp2_with fail
          go_quiet (fail)
          refine name_drew (K := Exit.then _ _ _ _) fun w5 hw5 hz5 => ?_
          replace ha := ha.below hw5
          replace hB := hB.below hw5
          clear h0 h1 hw5 hz5 HA
          have h0 := ha.st.ps.c0
          have h1 := ha.st.ps.c1
          obtain ⟨t0, t1, t2, t3⟩ := ha.st.tok (k := i) hi'
          have HR1 : Hid ((if T[i].kind = 3 then .ok (some (V.ofInt T[i].int)) (i + 1) d else if T[i].kind = 4 then .ok (some (V.ofText T[i].text)) (i + 1) d else .ok none i d : R (Option V)) = r) := Lib.hid (by have h := HR.out; rw [cores_at hi'] at h; exact h)
          have HOK := Lib.hid (ha.st.tk.ok i hi')
          clear HR
          generalize T[i] = t at HR1 HOK t0 t1 t2 t3
          have c4 : ((t.kind : Int) == 3) = decide (t.kind = 3) := by rw [Bool.eq_iff_iff]; simp <;> omega
          have c5 : ((t.kind : Int) == 4) = decide (t.kind = 4) := by rw [Bool.eq_iff_iff]; simp <;> omega
          by_cases hk3 : t.kind = 3
          · have HR2 : Hid (r = .ok (some (V.ofInt t.int)) (i + 1) d) := Lib.hid (by rw [← HR1.out, if_pos hk3])
            rw [decide_eq_true hk3] at c4
            clear HR1 hk3 c5
            go_wp2_with fail
            have lp : p < w5.heap.size := by have := ha.hp; have := ha.le; omega
            have lg : g < w5.heap.size := World.block_lt_of_cell? w5 _ t0
            go_region
            refine name_allocDrew (K := Exit.then _ _ _ _) fun w7 hT hw7 hz7 => ?_
            have h60 := ha.le
            have n0 : ¬ p = w5.heap.size := by have := ha.hp; omega
            have n1 : ¬ w5.heap.size = p := by have := ha.hp; omega
            replace ha := ha.below hw7
            replace hB := hB.below hw7
            clear h0 h1 t0 t1 t2 t3 hw7 hz7 lp lg
            have h1 := ha.st.ps.c1
            have hf := ha.st.ps.free 1
            have f0 := hT.cell 0 rfl
            have f1 := hT.cell 1 rfl
            have f2 := hT.cell 2 rfl
            have e1 : IntKind.i64.wrap ((i : Int) + 1) = (i : Int) + 1 := by rw [IntWalk.i64_in _ (by omega)]
            go_wp2_with fail
            refine name_step ha (by omega) (K := fun W => Calls _ _ _ W _) fun w8 ha hg8 hz8 => ?_
            replace hB := hB.grown hg8 hBp
            refine (int_call _ _ (by have := HOK.out.num; omega) (by have := HOK.out.num; omega)).mono ?_
            rintro e w9 ⟨rfl, hw9⟩
            replace ha := ha.below hw9
            replace hB := hB.below hw9
            clear hw9 hg8 hz8 h1 hf f0 f1 f2 e1 hT
            unfold vV vCells V.ofInt strV
            have b0 := hB.cell 0 rfl
            have b1 := hB.cell 1 rfl
            have b2 := hB.cell 2 rfl
            have z0 := hB.free 0
            have z1 := hB.free 1
            have z2 := hB.free 2
            go_wp2_with fail
            refine bodyPost_ret (results_row_tmp Tryz.results106 _ _ w.heap.size _ _ _ _ rfl (hB.set3 (.int .i64 1) (.int .i64 (t.int : Int)) (.string ⟨#[]⟩)) Tryz.underlying31 rfl (by kernel_rfl)) rfl ?_
            exact at_ok (ha.set3 (Nat.le_refl _) _ _ _) HR2.out rfl (by omega)
          · rw [decide_eq_false hk3] at c4
            by_cases hk4 : t.kind = 4
            · have HR2 : Hid (r = .ok (some (V.ofText t.text)) (i + 1) d) := Lib.hid (by rw [← HR1.out, if_neg hk3, if_pos hk4])
              rw [decide_eq_true hk4] at c5
              have HT := Lib.hid (HOK.out.txt hk4)
              clear HR1 hk3 hk4
              go_wp2_with fail
              have lp : p < w5.heap.size := by have := ha.hp; have := ha.le; omega
              have lg : g < w5.heap.size := World.block_lt_of_cell? w5 _ t0
              go_region
              refine name_allocDrew (K := Exit.then _ _ _ _) fun w7 hT hw7 hz7 => ?_
              have h60 := ha.le
              have n0 : ¬ p = w5.heap.size := by have := ha.hp; omega
              have n1 : ¬ w5.heap.size = p := by have := ha.hp; omega
              replace ha := ha.below hw7
              replace hB := hB.below hw7
              clear h0 h1 t0 t1 t2 t3 hw7 hz7 lp lg
              have h1 := ha.st.ps.c1
              have hf := ha.st.ps.free 1
              have f0 := hT.cell 0 rfl
              have f1 := hT.cell 1 rfl
              have f2 := hT.cell 2 rfl
              have e1 : IntKind.i64.wrap ((i : Int) + 1) = (i : Int) + 1 := by rw [IntWalk.i64_in _ (by omega)]
              go_wp2_with fail
              refine name_step ha (by omega) (K := fun W => Calls _ _ _ W _) fun w8 ha hg8 hz8 => ?_
              replace hB := hB.grown hg8 hBp
              refine (text_call t.text _ HT.out.1 HT.out.2).mono ?_
              rintro e w9 ⟨rfl, hw9⟩
              replace ha := ha.below hw9
              replace hB := hB.below hw9
              clear hw9 hg8 hz8 h1 hf f0 f1 f2 e1 hT
              unfold vV vCells V.ofText strV
              have b0 := hB.cell 0 rfl
              have b1 := hB.cell 1 rfl
              have b2 := hB.cell 2 rfl
              have z0 := hB.free 0
              have z1 := hB.free 1
              have z2 := hB.free 2
              go_wp2_with fail
              refine bodyPost_ret (results_row_tmp Tryz.results106 _ _ w.heap.size _ _ _ _ rfl (hB.set3 (.int .i64 2) (.int .i64 0) (.string ⟨t.text.toArray⟩)) Tryz.underlying31 rfl (by kernel_rfl)) rfl ?_
              exact at_ok (ha.set3 (Nat.le_refl _) _ _ _) HR2.out rfl (by omega)
            · have HR2 : Hid (r = .ok none i d) := Lib.hid (by rw [← HR1.out, if_neg hk3, if_neg hk4])
              rw [decide_eq_false hk4] at c5
              clear HR1 hk3 hk4
              go_wp2_with fail
              have lp : p < w5.heap.size := by have := ha.hp; have := ha.le; omega
              have lg : g < w5.heap.size := World.block_lt_of_cell? w5 _ t0
              go_region
              refine name_allocDrew (K := Exit.then _ _ _ _) fun w7 hT hw7 hz7 => ?_
              have h60 := ha.le
              have n0 : ¬ p = w5.heap.size := by have := ha.hp; omega
              have n1 : ¬ w5.heap.size = p := by have := ha.hp; omega
              replace ha := ha.below hw7
              replace hB := hB.below hw7
              clear h0 h1 t0 t1 t2 t3 hw7 hz7 lp lg
              have h1 := ha.st.ps.c1
              have hf := ha.st.ps.free 1
              have f0 := hT.cell 0 rfl
              have f1 := hT.cell 1 rfl
              have f2 := hT.cell 2 rfl
              have e1 : IntKind.i64.wrap ((i : Int) + 1) = (i : Int) + 1 := by rw [IntWalk.i64_in _ (by omega)]
              have b0 := hB.cell 0 rfl
              have b1 := hB.cell 1 rfl
              have b2 := hB.cell 2 rfl
              have z0 := hB.free 0
              have z1 := hB.free 1
              have z2 := hB.free 2
              go_wp2_with fail
              refine bodyPost_ret (results_row_tmp Tryz.results106 _ _ w.heap.size _ _ _ _ rfl (hB.set3 (.int .i64 0) (.int .i64 0) (.string ⟨#[]⟩)) Tryz.underlying31 rfl (by kernel_rfl)) rfl ?_
              exact at_ok (ha.set3 (Nat.le_refl _) _ _ _) HR2.out rfl (by omega)
end Go.Proofs.YtpmncgbpbcgfaaaGreatDoor

/-
  The parser's literal, and lists of whatever a closure consumes.
-/
namespace Go.Proofs.YtpmncgbpbcgfaaaGreatDoor
open Go.RowKit
set_option linter.unusedVariables false
set_option linter.unusedSimpArgs false

def vR (w : World) (val : Value) (a : V) : Prop := val = vV a
set_option maxHeartbeats 2000000 in
set_option maxRecDepth 100000 in
theorem literal_call (p : Nat) (v : Value) (T : List Tok) (i n : Nat) (d : Bool) (w : World) (h : St w p v T i n d) :
    Calls Tryz.prog 87 #[.pointer (some ⟨p, 0, none⟩)] w (PPost w p v T i n vR (pLiteral (cores T) i d)) := by
  obtain ⟨r, hr⟩ : ∃ r, pLiteral (cores T) i d = r := ⟨_, rfl⟩
  rw [hr]
  unfold pLiteral at hr
  have HR := Lib.hid hr
  clear hr
  have ha := At.start h
  clear h
  go_enter Tryz.func87, Tryz.ntmps87
  go_wp2_with fail
  refine name_alloc (K := fun W => Calls _ _ _ W _) fun w1 hB hw1 hz1 => ?_
  replace ha := ha.below hw1
  have hBp : w.heap.size ≠ p := by have := ha.hp; omega
  clear hw1 hz1
  refine at_symbol ha _ [45] rfl HR (fun w2 HR ha hg2 => ?_) (fun w2 HR ha hg2 => ?_)
  · replace hB := hB.grown hg2 hBp
    clear hg2
    go_wp2_with fail
    refine at_take ha 3 HR (fun t w3 hi HT hk hok HR ha hg3 => ?_) (fun j c w' hr hg => ⟨rfl, PPost.failed hr.out hg⟩)
    replace hB := hB.grown hg3 hBp
    have hn := hok.num
    clear hg3 HT hk hok
    unfold tokV strV
    have hf2 := tok_f2
    have e1 : IntKind.i64.wrap (-(t.int : Int)) = -(t.int : Int) := by rw [IntWalk.i64_in _ (by omega)]
    go_wp2_with fail
    refine (int_call _ _ (by omega) (by omega)).mono ?_
    rintro e w9 ⟨rfl, hw9⟩
    replace ha := ha.below hw9
    replace hB := hB.below hw9
    clear hw9 e1 hf2
    unfold vV vCells V.ofInt strV
    have b0 := hB.cell 0 rfl
    have b1 := hB.cell 1 rfl
    have b2 := hB.cell 2 rfl
    have z0 := hB.free 0
    have z1 := hB.free 1
    have z2 := hB.free 2
    go_wp2_with fail
    refine bodyPost_ret (results_cell_row Tryz.results87 _ _ w.heap.size _ _ _ _ rfl (hB.set3 (.int .i64 1) (.int .i64 (-(t.int : Int))) (.string ⟨#[]⟩)) Tryz.underlying31 rfl (by kernel_rfl)) rfl ?_
    exact at_ok (ha.set3 (Nat.le_refl _) _ _ _) HR.out.symm rfl (by omega)
  · replace hB := hB.grown hg2 hBp
    clear hg2
    go_wp2_with fail
    refine at_call (plain_call p v T i n d w2 ha.st) ha HR (fun o j d' val w3 HR hv ha hij hg3 => ?_) (fun j c w' hr hg => ⟨rfl, PPost.failed hr.out hg⟩)
    replace hB := hB.grown hg3 hBp
    clear hg3
    obtain rfl := hv
    rcases o with _ | u
    · unfold vV vCells Option.getD V.null strV Option.isSome
      go_wp2_with fail
      refine name_alloc (K := fun W => Calls _ _ _ W _) fun w4 hb4 hw4 hz4 => ?_
      replace ha := ha.below hw4
      exact at_wrong ha HR (fun j c w' hr hg => ⟨rfl, PPost.failed hr.out hg⟩)
    · unfold vV vCells Option.getD Option.isSome strV
      go_upto_region 4 with (fail)
      refine name_alloc (K := Code.wp _ _ _ _) fun w4 hb4 hw4 hz4 => ?_
      replace ha := ha.below hw4
      replace hB := hB.below hw4
      clear hw4 hz4
      have c0 := hb4.cell 0 rfl
      have c1 := hb4.cell 1 rfl
      have c2 := hb4.cell 2 rfl
      have b0 := hB.cell 0 rfl
      have b1 := hB.cell 1 rfl
      have b2 := hB.cell 2 rfl
      have z0 := hB.free 0
      have z1 := hB.free 1
      have z2 := hB.free 2
      go_wp2_with fail
      refine bodyPost_ret (results_cell_row Tryz.results87 _ _ w.heap.size _ _ _ _ rfl (hB.set3 (.int .i64 (u.kind : Int)) (.int .i64 u.int) (.string ⟨u.text.toArray⟩)) Tryz.underlying31 rfl (by kernel_rfl)) rfl ?_
      exact at_ok (ha.set3 (Nat.le_refl _) _ _ _) HR.out.symm rfl (by omega)
/-- what a closure leaves that consumes one more element -/
def LPost {α : Type} (w0 : World) (p : Nat) (v : Value) (T : List Tok) (i n : Nat) (I : World → Prop) (r : R α) (J : α → World → Prop) (e : Ending) (w' : World) : Prop :=
  match r with
  | .ok a j d => e = .returned (.tuple #[]) ∧ At w0 w' p v T j n d ∧ i ≤ j ∧ J a w'
  | .fail j c => e = failE T n j c ∧ w0.grownBy w' (some p)
structure ListRel {α : Type} (x : P α) (w0 : World) (p : Nat) (v : Value) (T : List Tok) (i n : Nat) (I : List α → World → Prop) (r : R (List α)) (gk k : Nat) (l : List α) (d' : Bool) (m' : Nat) (wr : World) : Prop where
  gk : gk + k = T.length
  ik : i ≤ k
  at_ : At w0 wr p v T k n d'
  inv : I l wr
  fuel : T.length + 1 ≤ m' + k
  len : l.length ≤ k + 1
  pr : pMore x m' l (cores T) k d' = r
set_option maxHeartbeats 2000000 in
set_option maxRecDepth 100000 in
theorem list_call {α : Type} (x : P α) (g : Nat) (lb : Array Value) (heg : ∀ args w, (callFunc g args).run Tryz.prog w = .ok (.enter g args) w) (p : Nat) (v : Value) (T : List Tok) (i0 n : Nat) (w0 : World) (I : List α → World → Prop)
    (hI : ∀ l w w', I l w → w.grownBy w' (some p) → I l w')
    (hstep : ∀ w i d l, i0 ≤ i → l.length ≤ i → At w0 w p v T i n d → I l w → Calls Tryz.prog g lb w (LPost w0 p v T i n (I l) (x (cores T) i d) fun a w' => I (l ++ [a]) w'))
    (w : World) (i : Nat) (d : Bool) (hi0 : i0 ≤ i) (ha : At w0 w p v T i n d) (hI0 : I [] w) (m : Nat) (hm : T.length + 1 ≤ m + i) :
    Calls Tryz.prog 59 #[.pointer (some ⟨p, 0, none⟩), .func (.func g) #[] lb] w (LPost w0 p v T i n (I []) (pList m x (cores T) i d) I) := by
  obtain ⟨r, hr⟩ : ∃ r, pList m x (cores T) i d = r := ⟨_, rfl⟩
  rw [hr]
  unfold pList at hr
  have HR := Lib.hid hr
  have HS := Lib.hid hstep
  have HI := Lib.hid hI
  have HI0 := Lib.hid hI0
  clear hr hstep hI hI0
  go_enter Tryz.func59, Tryz.ntmps59
  go_wp2_with fail
  refine (HS.out w i d [] hi0 (Nat.zero_le _) ha HI0.out).mono ?_
  intro e w1 hp
  rcases hx : x (cores T) i d with ⟨a, j, d1⟩ | ⟨j, c⟩
  · rw [hx] at hp
    obtain ⟨rfl, ha1, hij, hI1⟩ := hp
    have HR1 := Lib.hid (bind_ok hx HR.out)
    have HI1 := Lib.hid hI1
    clear hx HR ha hI1
    go_wp2_with fail
    go_loopg [] (T.length - j) (fun gk wr => ∃ k l d' m', ListRel x w0 p v T i n I r gk k l d' m' wr)
    case atStart => exact ⟨j, [a], d1, m, ⟨by have := ha1.st.le; omega, hij, ha1, HI1.out, by omega, by simp, HR1.out⟩⟩
    case round =>
      obtain ⟨k, l, d', m', ⟨hk, hik, ha2, hI2, hm', hln, hr2⟩⟩ := hrel
      have HR2 := Lib.hid hr2
      have HI2 := Lib.hid hI2
      have hle := ha2.st.le
      clear hr2 hI2 HR1 HI1 ha1
      obtain ⟨m', rfl⟩ : ∃ q, m' = q + 1 := ⟨m' - 1, by omega⟩
      go_wp2_with fail
      refine at_symbol ha2 _ [44] rfl HR2 (fun w3 HR3 ha3 hg3 => ?_) (fun w3 HR3 ha3 hg3 => ?_)
      · have HI3 := Lib.hid (HI.out _ _ _ HI2.out hg3)
        have hle3 := ha3.st.le
        clear hg3 ha2 HI2 HR2
        go_wp2_with fail
        refine (HS.out w3 (k + 1) d' l (by omega) (by omega) ha3 HI3.out).mono ?_
        intro e w4 hp
        rcases hx : x (cores T) (k + 1) d' with ⟨a', j', d2⟩ | ⟨j', c⟩
        · rw [hx] at hp
          obtain ⟨rfl, ha4, hij4, hI4⟩ := hp
          have HR4 := Lib.hid (bind_ok hx HR3.out)
          have HI4 := Lib.hid hI4
          have hle4 := ha4.st.le
          clear hx HR3 ha3 hI4
          go_wp2_with fail
          go_roundg (T.length - j')
          case measure => omega
          case rel => exact ⟨j', l ++ [a'], d2, m', ⟨by omega, by omega, ha4, HI4.out, by omega, by simp; omega, HR4.out⟩⟩
        · rw [hx] at hp
          obtain ⟨rfl, hg4⟩ := hp
          have HR4 := Lib.hid (bind_fail hx HR3.out)
          refine ⟨rfl, ?_⟩
          rw [HR4.out]
          exact ⟨rfl, hg4⟩
      · have HI3 := Lib.hid (HI.out _ _ _ HI2.out hg3)
        clear hg3 ha2 HI2 HR2
        go_wp2_with fail
        go_end0
        rw [← HR3.out]
        exact ⟨rfl, ha3, hik, HI3.out⟩
  · rw [hx] at hp
    obtain ⟨rfl, hg1⟩ := hp
    have HR1 := Lib.hid (bind_fail hx HR.out)
    refine ⟨rfl, ?_⟩
    rw [HR1.out]
    exact ⟨rfl, hg1⟩
end Go.Proofs.YtpmncgbpbcgfaaaGreatDoor

/-
  Lists under construction in a walk: one element, one more element, done; expressions in literal cells.
-/
namespace Go.Proofs.YtpmncgbpbcgfaaaGreatDoor
open Go.RowKit
set_option linter.unusedVariables false
set_option linter.unusedSimpArgs false

theorem belowD (w : World) (k : Nat) : Below w.heap.size w (w.drewN k) := ⟨rfl, rfl, rfl, Nat.le_refl _, fun _ _ => rfl⟩
section
variable {w0 w w' : World} {p : Nat} {v : Value} {T : List Tok} {i n : Nat} {d : Bool} {row : Option Nat}
theorem At.push (h : At w0 w p v T i n d) (hg : w.grownBy w' row) (hr : ∀ g, row = some g → w0.heap.size ≤ g) : At w0 w' p v T i n d := by
  rcases row with _ | g
  · exact h.below ⟨hg.os, hg.tape, hg.output, hg.size, fun b hb => hg.block b hb (by simp)⟩
  · exact h.own hg (hr g rfl)
theorem Blk.push {g : Nat} {cs : List Value} {t : TypeId} (h : Blk w g cs t) (hg : w.grownBy w' row) (hr : row ≠ some g) : Blk w' g cs t := (hg.block g h.lt (fun e => hr e.symm)).trans h
theorem size_push (hg : w.grownBy w' row) : w.heap.size ≤ w'.heap.size := hg.size
end
section
variable {α : Type} {size : Nat} {e : TypeId} {rep : Rep α} {w w' : World} {base : Nat} {l : List α} {v : Value}
theorem OwnL.one (G : Good rep size) {g : Nat} {cs : List Value} {a : α} (hb : Blk w g cs e) (hg : base ≤ g) (ha : rep w (fun b => base ≤ b ∧ g ≠ b) a cs) : OwnL size e rep w base [a] (.slice (some ⟨g, 0, none⟩) 1 1) := by
  have hl := G.len ha
  refine ⟨cs, ⟨by simp [hl], .inr ⟨g, 1, cs.toArray, rfl, hg, hb, Nat.le_refl _, by unfold maxLen; omega, by simp [hl], ?_⟩⟩, fun k hk => ?_⟩
  · have : [a].length * size = cs.length := by simp [hl]
    rw [this]
    simp
  · obtain rfl : k = 0 := by simpa using hk
    have : chunk size cs 0 = cs := by unfold chunk; rw [← hl]; simp
    rw [this]
    refine G.mono ha fun b hb' _ => ⟨hb'.1, ?_⟩
    simp [Value.ownBlock]
    exact hb'.2
theorem OwnL.blk (h : OwnL size e rep w base l v) : ∀ g, v.ownBlock = some g → base ≤ g ∧ g < w.heap.size := by
  obtain ⟨xs, ho, _⟩ := h
  exact ho.lt
theorem OwnL.below (G : Good rep size) (h : OwnL size e rep w base l v) (hb : Below w.heap.size w w') : OwnL size e rep w' base l v := h.kept G fun b _ hl => hb.block b hl
/-- a store into another block -/
theorem OwnL.far (G : Good rep size) {g : Nat} (h : OwnL size e rep w base l v) (hg : w.grownBy w' (some g)) (hlt : g < base) : OwnL size e rep w' base l v :=
  h.kept G fun b hb hl => hg.block b hl (fun e => by injection e with e; omega)
theorem OwnL.form (h : OwnL size e rep w base l v) : ∃ A c, v = .slice A l.length c := by
  obtain ⟨xs, ho, _⟩ := h
  obtain ⟨A, m, c, rfl⟩ := own_slice ho
  obtain rfl := own_len ho
  exact ⟨A, c, rfl⟩
/-- the first element's cells -/
theorem OwnL.head {a : α} {l : List α} {g c : Nat} (G : Good rep size) (h : OwnL size e rep w base (a :: l) (.slice (some ⟨g, 0, none⟩) (l.length + 1) c)) : ∃ cs, rep w (fun b => base ≤ b ∧ g ≠ b) a cs ∧ w.rangeAt g 0 cs := by
  obtain ⟨xs, ho, hr⟩ := h
  have h0 := hr 0 (by simp)
  refine ⟨_, G.mono h0 fun b hb _ => ⟨hb.1, fun e => hb.2 (by simp [Value.ownBlock, e])⟩, fun j u hj => ?_⟩
  unfold chunk at hj
  rw [List.getElem?_take] at hj
  split at hj
  · simp only [Nat.zero_mul, List.drop_zero] at hj
    have := ho.cells (g := g) rfl j u hj
    rw [Addr.add_mid] at this
    exact this
  · cases hj
end
section
variable {α : Type} {size : Nat} {e : TypeId} {rep : Rep α} {P : Program} {ops : Array Oper} {rest : List Oper} {o : Oper} {a : Act} {w : World} {Q : Exit → Act → World → Prop}
/-- append of one element that lies in a block of its own -/
theorem push_own (G : Good rep size) (hgd : o.guard = none) (s x : Operand) (t : TypeId) (ho : o.op = .call { callee := .builtin .append, args := #[s, x], argTypes := #[t, t] })
    (base : Nat) (e : TypeId) (i : TypeInfo) (z : Value) (bytes : Nat) (ht : P.underlying t = some (.slice e)) (hi : P.info? e = some i) (hz : i.zero = some z)
    (hsize : i.size = size) (hby : i.bytes = bytes) (hzs : z.cells.size = size) (hsz : 0 < size) (hbs : bytes ≤ 10000)
    (v : Value) (l : List α) (hs : a.eval s = v) (hown : OwnL size e rep w base l v) (g c : Nat) (cs : List Value) (b : α) (hx : a.eval x = .slice (some ⟨g, 0, none⟩) 1 c) (hb : Blk w g cs e)
    (hr : rep w (fun q => base ≤ q ∧ v.ownBlock ≠ some q) b cs) (hlen : l.length ≤ 100000) (hbase : base ≤ w.heap.size)
    (h : ∀ gg cap w', OwnL size e rep w' base (l ++ [b]) (.slice (some ⟨gg, 0, none⟩) (l.length + 1) cap) → w.grownBy w' v.ownBlock → (v.ownBlock = some gg ∨ gg = w.heap.size) → wpList P ops Q rest (a.put o.dst (.slice (some ⟨gg, 0, none⟩) (l.length + 1) cap)) w') : wpList P ops Q (o :: rest) a w := by
  obtain ⟨xs, hown, hreps⟩ := hown
  have hcl := G.len hr
  refine wpList_append_lies w hgd s x t ho base e i z size bytes ht hi hz hsize hby hzs hsz v l.length xs hs hown ⟨g, 0, none⟩ 1 c cs hx (by simp [hcl]) (fun j u hj => ?_) (G.one hr) (by omega) (by unfold maxLen; omega) ?_ hbase _ rfl ?_
  · rw [Addr.add_mid]
    exact hb.cell _ (by simpa using hj)
  · have : (l.length + 1) * bytes ≤ 100001 * 10000 := Nat.mul_le_mul (by omega) hbs
    omega
  · intro gg cap w' h1 h2 h3 h4
    refine h gg cap w' (OwnL.push G hown hreps hr h1 h2 ?_) h2 h3
    rcases h3 with h3 | h3
    · left; rw [h3]; rfl
    · right; rw [h3]; rfl
end
section
variable {α : Type} {size : Nat} {t : TypeId} {rep : Rep α} {w w' : World} {F : Nat → Prop}
/-- a slice of one or two elements, in a block that is known -/
theorem LRep.single (G : Good rep size) {g k : Nat} {cs : List Value} {a : α} (hb : Blk w g cs t) (h1 : rep w F a cs) (hF : F g) : LRep size rep w F [a] (.slice (some ⟨g, 0, none⟩) 1 k) := by
  refine .inr ⟨g, k, fun _ => cs, rfl, by unfold maxLen; simp, hF, hb.lt, fun q hq j hj => ?_, fun q hq => ?_⟩
  · obtain rfl : q = 0 := by simpa using hq
    have hl := G.len h1
    have hj' : j < cs.length := by omega
    rw [Nat.zero_mul, Nat.zero_add, List.getElem?_eq_getElem hj']
    exact hb.cell j (List.getElem?_eq_getElem hj')
  · obtain rfl : q = 0 := by simpa using hq
    exact h1
theorem LRep.two (G : Good rep size) {g k : Nat} {cs1 cs2 : List Value} {a b : α} (hb : Blk w g (cs1 ++ cs2) t) (h1 : rep w F a cs1) (h2 : rep w F b cs2) (hF : F g) : LRep size rep w F [a, b] (.slice (some ⟨g, 0, none⟩) 2 k) := by
  have l1 := G.len h1
  have l2 := G.len h2
  refine .inr ⟨g, k, fun q => if q = 0 then cs1 else cs2, rfl, by unfold maxLen; simp, hF, hb.lt, fun q hq j hj => ?_, fun q hq => ?_⟩
  · have hq2 : q = 0 ∨ q = 1 := by simp at hq; omega
    rcases hq2 with rfl | rfl
    · have hj' : j < cs1.length := by omega
      simp only [if_true]
      rw [Nat.zero_mul, Nat.zero_add, List.getElem?_eq_getElem hj']
      exact hb.cell j (by rw [List.getElem?_append_left hj', List.getElem?_eq_getElem hj'])
    · have hj' : j < cs2.length := by omega
      simp only [Nat.one_ne_zero, if_false]
      rw [Nat.one_mul, List.getElem?_eq_getElem hj']
      exact hb.cell (size + j) (by rw [List.getElem?_append_right (by omega), show size + j - cs1.length = j by omega, List.getElem?_eq_getElem hj'])
  · have hq2 : q = 0 ∨ q = 1 := by simp at hq; omega
    rcases hq2 with rfl | rfl
    · exact h1
    · exact h2
/-- seven cells of a block of the walk's own are written anew -/
theorem Blk.set7 {g : Nat} {x0 x1 x2 x3 x4 x5 x6 : Value} (h : Blk w g [x0, x1, x2, x3, x4, x5, x6] t) (a b c d e f k : Value) :
    Blk (((((((w.setCell ⟨g, 0, none⟩ a).setCell ⟨g, 1, none⟩ b).setCell ⟨g, 2, none⟩ c).setCell ⟨g, 3, none⟩ d).setCell ⟨g, 4, none⟩ e).setCell ⟨g, 5, none⟩ f).setCell ⟨g, 6, none⟩ k) g [a, b, c, d, e, f, k] t :=
  ((((((h.set 0 a).set 1 b).set 2 c).set 3 d).set 4 e).set 5 f).set 6 k
theorem grown_set7 (w : World) (g : Nat) (a b c d e f k : Value) : w.grownBy (((((((w.setCell ⟨g, 0, none⟩ a).setCell ⟨g, 1, none⟩ b).setCell ⟨g, 2, none⟩ c).setCell ⟨g, 3, none⟩ d).setCell ⟨g, 4, none⟩ e).setCell ⟨g, 5, none⟩ f).setCell ⟨g, 6, none⟩ k) (some g) :=
  only_setCell (only_setCell (only_setCell (only_setCell (only_setCell (only_setCell (only_setCell (World.grownBy.refl _ _) 0 a) 1 b) 2 c) 3 d) 4 e) 5 f) 6 k
theorem size_set7 (w : World) (g : Nat) (a b c d e f k : Value) : (((((((w.setCell ⟨g, 0, none⟩ a).setCell ⟨g, 1, none⟩ b).setCell ⟨g, 2, none⟩ c).setCell ⟨g, 3, none⟩ d).setCell ⟨g, 4, none⟩ e).setCell ⟨g, 5, none⟩ f).setCell ⟨g, 6, none⟩ k).heap.size = w.heap.size := by
  simp [World.setCell]
/-- an expression is written anew, its arguments in a new block -/
theorem name_node {K : World → Prop} {g : Nat} {x0 x1 x2 x3 x4 x5 x6 : Value} {t' : TypeId} (h : Blk w g [x0, x1, x2, x3, x4, x5, x6] t) {a b c d e f k : Value} {cs : List Value}
    (hk : ∀ w1 w', w.grownBy w1 (some g) → Below w.heap.size w1 w' → w1.heap.size = w.heap.size → w'.heap.size = w.heap.size + 1 → Blk w' g [a, b, c, d, e, f, k] t → Blk w' w.heap.size cs t' → K w') :
    K ((((((((w.setCell ⟨g, 0, none⟩ a).setCell ⟨g, 1, none⟩ b).setCell ⟨g, 2, none⟩ c).setCell ⟨g, 3, none⟩ d).setCell ⟨g, 4, none⟩ e).setCell ⟨g, 5, none⟩ f).setCell ⟨g, 6, none⟩ k).alloc (.cells cs.toArray t')) := by
  have hs := size_set7 w g a b c d e f k
  have hb := h.set7 a b c d e f k
  have hg := grown_set7 w g a b c d e f k
  generalize (((((((w.setCell ⟨g, 0, none⟩ a).setCell ⟨g, 1, none⟩ b).setCell ⟨g, 2, none⟩ c).setCell ⟨g, 3, none⟩ d).setCell ⟨g, 4, none⟩ e).setCell ⟨g, 5, none⟩ f).setCell ⟨g, 6, none⟩ k) = w1 at hs hb hg ⊢
  have hn := Blk.new w1 cs t'
  rw [hs] at hn
  refine hk w1 _ hg ?_ hs (by simp [hs]) (hb.alloc _) hn
  rw [← hs]
  exact below1 _ _
end
/-- an expression's cells, written out -/
theorem erep_lit {w : World} {F : Nat → Prop} {e : E} {cs : List Value} (h : ERep w F e cs) : ∃ (a b c d : Int) (s t : ByteArray) (A : Option Addr) (m k : Nat), cs = [.int .i64 a, .int .i64 b, .int .i64 c, .int .i64 d, .string s, .string t, .slice A m k] := by
  cases h
  · exact ⟨_, _, _, _, _, _, _, _, _, rfl⟩
  · exact ⟨_, _, _, _, _, _, _, _, _, rfl⟩
theorem info_expr : (Tryz.prog.info? 34).map (fun i => (i.zero, i.size, i.bytes)) = some (some (.agg #[.int .i64 0, .int .i64 0, .int .i64 0, .int .i64 0, .string ⟨#[]⟩, .string ⟨#[]⟩, .slice none 0 0]), 7, 88) := by kernel_rfl
abbrev exprR (base : Nat) (w : World) (v : Value) (a : E) : Prop := aggR ERep base w v a
end Go.Proofs.YtpmncgbpbcgfaaaGreatDoor

/-
  Operands joined by a word.
-/
namespace Go.Proofs.YtpmncgbpbcgfaaaGreatDoor
open Go.RowKit
set_option linter.unusedVariables false
set_option linter.unusedSimpArgs false

/-- a function value that consumes an expression, from token lo on -/
def OpAt (x : P E) (g : Nat) (args : Array Value) (p : Nat) (v : Value) (T : List Tok) (n lo : Nat) : Prop :=
  ∀ w i d, lo ≤ i → St w p v T i n d → Calls Tryz.prog g args w (PPost w p v T i n (exprR w.heap.size) (x (cores T) i d))
structure JoinRel (word : List UInt8) (x : P E) (w0 : World) (p : Nat) (v : Value) (T : List Tok) (i n g0 base op : Nat) (r : R E) (gk j : Nat) (l : List E) (d : Bool) (m : Nat) (c9 : Value) (wr : World) : Prop where
  gk : gk + j = T.length
  ij : i ≤ j
  at_ : At w0 wr p v T j n d
  blk : Blk wr g0 [.int .i64 0, .int .i64 0, .int .i64 0, .int .i64 0, .string ⟨#[]⟩, .string ⟨#[]⟩, .slice none 0 0] 34
  own : OwnL 7 34 ERep wr base l c9
  ne : l ≠ []
  len : l.length ≤ j + 1
  fuel : T.length + 1 ≤ m + j
  base : base ≤ wr.heap.size
  pr : (pJoin word x m l >>= fun l => (pure (joinE op l) : P E)) (cores T) j d = r
theorem join_step {β : Type} {word : List UInt8} {x : P E} {m : Nat} {l : List E} {k : List E → P β} {C : List Core} {j : Nat} {d : Bool} {r : R β} (hr : (pJoin word x (m + 1) l >>= k) C j d = r) :
    (pWord word >>= fun b => if b = true then (x >>= fun e => pJoin word x m (l ++ [e]) >>= k) else k l) C j d = r := by
  rw [pJoin] at hr
  simp only [P_assoc, P_ite, P_pure] at hr
  exact hr
set_option maxHeartbeats 4000000 in
set_option maxRecDepth 100000 in
theorem joined_call (x : P E) (g : Nat) (p : Nat) (v : Value) (T : List Tok) (i0 n : Nat) (heg : ∀ args w, (callFunc g args).run Tryz.prog w = .ok (.enter g args) w) (hop : OpAt x g #[.pointer (some ⟨p, 0, none⟩)] p v T n i0)
    (w : World) (i : Nat) (d : Bool) (hi0 : i0 ≤ i) (h : St w p v T i n d) (op m : Nat) (s : ByteArray) (word : List UInt8) (hs : s.data.toList = word) (hm : T.length + 1 ≤ m + i) :
    Calls Tryz.prog 70 #[.pointer (some ⟨p, 0, none⟩), .int .i64 (op : Int), .string s, .func (.func g) #[.pointer (some ⟨p, 0, none⟩)] #[]] w (PPost w p v T i n (exprR w.heap.size) (pJoined m op word x (cores T) i d)) := by
  obtain ⟨r, hr⟩ : ∃ r, pJoined m op word x (cores T) i d = r := ⟨_, rfl⟩
  rw [hr]
  unfold pJoined at hr
  have HR := Lib.hid hr
  have HO := Lib.hid hop
  have HS := Lib.hid hs
  have ha := At.start h
  clear hr hop hs h
  obtain ⟨i0', hi0', hz0, hz1, hz2⟩ := info_parts info_expr
  go_enter Tryz.func70, Tryz.ntmps70
  go_wp2_with fail
  refine name_alloc (K := fun W => Calls _ _ _ W _) fun w1 hB hw1 hz1' => ?_
  replace ha := ha.below hw1
  have hBp : w.heap.size ≠ p := by have := ha.hp; omega
  clear hw1
  refine at_call (HO.out w1 i d hi0 ha.st) ha HR (fun e j d' val w2 HR hv ha hij hg2 => ?_) (fun j c w' hr hg => ⟨rfl, PPost.failed hr.out hg⟩)
  obtain ⟨cs, rfl, hre⟩ := hv
  obtain ⟨a0, a1, a2, a3, a4, a5, A, a6, a7, rfl⟩ := erep_lit hre
  have HE := Lib.hid hre
  replace hB := hB.grown hg2 hBp
  have hz2' := hg2.size
  clear hre hg2
  go_wp2_with fail
  refine name_alloc (K := Code.wp _ _ _ _) fun w3 hb3 hw3 hz3 => ?_
  have hle2 := ha.st.le
  have HOw := Lib.hid (show OwnL 7 34 ERep w3 (w.heap.size + 1) [e] (.slice (some ⟨w2.heap.size, 0, none⟩) 1 1) from OwnL.one goodE hb3 (by omega) (goodE.below (goodE.mono HE.out fun b hb hl => ⟨by have := hb.1; omega, by omega⟩) hw3))
  replace ha := ha.below hw3
  replace hB := hB.below hw3
  clear hb3 hw3 HE
  go_loopg [9] (T.length - j) (fun gk c9 wr => ∃ k l dk mk, JoinRel word x w p v T i n w.heap.size (w.heap.size + 1) op r gk k l dk mk c9 wr)
  case atStart => exact ⟨j, [e], d', m, ⟨by omega, hij, ha, hB, HOw.out, by simp, by simp, by omega, by omega, HR.out⟩⟩
  case round =>
    obtain ⟨k, l, dk, mk, ⟨hk, hik, hat, hblk, hown, hne, hlen, hfuel, hbase, hpr⟩⟩ := hrel
    have hlek := hat.st.le
    have hlT := hat.st.tk.len
    obtain ⟨mk, rfl⟩ : ∃ q, mk = q + 1 := ⟨mk - 1, by omega⟩
    have HR4 := Lib.hid (join_step hpr)
    have HOk := Lib.hid hown
    obtain ⟨A9, c9, rfl⟩ := hown.form
    clear hpr hown ha hB HOw
    go_wp2_with fail
    refine at_word hat s word HS.out HR4 (fun w5 HR5 ha5 hg5 => ?_) (fun w5 HR5 ha5 hg5 => ?_)
    · have HO5 := Lib.hid (HOk.out.grown goodE hg5 (by have := ha5.hp; omega))
      have hB5 := hblk.grown hg5 hBp
      have hz5 := hg5.size
      clear hg5 HOk hblk hat HR4
      go_wp2_with fail
      refine at_call (HO.out w5 (k + 1) dk (by omega) ha5.st) ha5 HR5 (fun f q d6 val w6 HR6 hv ha6 hij6 hg6 => ?_) (fun j c w' hr hg => ⟨rfl, PPost.failed hr.out hg⟩)
      obtain ⟨fs, rfl, hrf⟩ := hv
      obtain ⟨b0, b1, b2, b3, b4, b5, B, b6, b7, rfl⟩ := erep_lit hrf
      have HF := Lib.hid hrf
      have HO6 := Lib.hid (HO5.out.grown goodE hg6 (by have := ha5.hp; omega))
      have hB6 := hB5.grown hg6 hBp
      have hz6 := hg6.size
      have HLT : Hid (∀ gg, (Value.slice A9 l.length c9).ownBlock = some gg → gg < w5.heap.size) := Lib.hid (fun gg e => (HO5.out.blk gg e).2)
      clear hrf hg6 HO5 hB5 ha5 HR5
      go_wp2_with (at_builtin; refine push_own goodE rfl (.tmp 16) (.tmp 19) 32 rfl (w.heap.size + 1) 34 i0' _ 88 Tryz.underlying32 hi0' hz0 hz1 hz2 rfl (by omega) (by omega) (.slice A9 l.length c9) l rfl (HO6.out.below goodE (below1 w6 _)) w6.heap.size 1 [.int .i64 b0, .int .i64 b1, .int .i64 b2, .int .i64 b3, .string b4, .string b5, .slice B b6 b7] f rfl (Blk.new w6 _ _) ?hr ?hl ?hb ?_)
      case hr => exact goodE.below (goodE.mono HF.out fun q hq hl => ⟨by have := hq.1; omega, fun e => by have := HLT.out q e; have := hq.1; omega⟩) (below1 w6 _)
      case hl => omega
      case hb => simp; omega
      intro gg cap w7 hO7 hg7 hat7
      have HO7 := Lib.hid hO7
      have ha7 := (ha6.alloc _).push hg7 (fun q e => by have := (HO6.out.blk q e).1; omega)
      have hB7 := (hB6.alloc _).push hg7 (fun e => by have := (HO6.out.blk _ e).1; omega)
      have hz7 := hg7.size
      have hle6 := ha6.st.le
      simp only [World.size_alloc] at hz7
      clear hO7 hg7 hat7 HO6 hB6 HF HLT ha6
      go_wp2_with fail
      go_roundg (T.length - q)
      case measure => omega
      case rel => exact ⟨q, l ++ [f], d6, mk, ⟨by omega, by omega, ha7, hB7, by simpa using HO7.out, by simp, by simp; omega, by omega, by omega, HR6.out⟩⟩
    · have HO5 := Lib.hid (HOk.out.grown goodE hg5 (by have := ha5.hp; omega))
      have hB5 := hblk.grown hg5 hBp
      have hz5 := hg5.size
      clear hg5 HOk hblk hat HR4
      have HRk : Hid (r = .ok (joinE op l) k dk) := Lib.hid HR5.out.symm
      clear HR5
      rcases l with _ | ⟨e1, l⟩
      · exact absurd rfl hne
      rcases l with _ | ⟨e2, l⟩
      · have HX := HO5.out
        obtain ⟨g9, cap9, he9, hg9, hlt9⟩ : ∃ g9 cap9, Value.slice A9 1 c9 = .slice (some ⟨g9, 0, none⟩) 1 cap9 ∧ w.heap.size + 1 ≤ g9 ∧ g9 < w5.heap.size := by
          obtain ⟨xs, ho, _⟩ := HX
          obtain ⟨g9, cap9, he, h1, h2⟩ := ho.form (by simp)
          exact ⟨g9, cap9, he, h1, h2⟩
        injection he9 with hA9 _ _
        subst hA9
        obtain ⟨cs, hrep, hrng⟩ := OwnL.head goodE HX
        obtain ⟨b0, b1, b2, b3, b4, b5, B, b6, b7, rfl⟩ := erep_lit hrep
        have HF := Lib.hid hrep
        have r0 : w5.cell? ⟨g9, 0, none⟩ = some (.int .i64 b0) := hrng 0 _ rfl
        have r1 : w5.cell? ⟨g9, 1, none⟩ = some (.int .i64 b1) := by simpa using hrng 1 _ rfl
        have r2 : w5.cell? ⟨g9, 2, none⟩ = some (.int .i64 b2) := by simpa using hrng 2 _ rfl
        have r3 : w5.cell? ⟨g9, 3, none⟩ = some (.int .i64 b3) := by simpa using hrng 3 _ rfl
        have r4 : w5.cell? ⟨g9, 4, none⟩ = some (.string b4) := by simpa using hrng 4 _ rfl
        have r5 : w5.cell? ⟨g9, 5, none⟩ = some (.string b5) := by simpa using hrng 5 _ rfl
        have r6 : w5.cell? ⟨g9, 6, none⟩ = some (.slice B b6 b7) := by simpa using hrng 6 _ rfl
        clear hrng hrep HX HO5
        go_wp2_with (refine store_blk rfl 34 (.tmp 8) (.tmp 26) rfl w.heap.size [.int .i64 b0, .int .i64 b1, .int .i64 b2, .int .i64 b3, .string b4, .string b5, .slice B b6 b7] rfl rfl 34 _ hB5 (by kernel_rfl) rfl (goodE.one HF.out) ?_)
        intro w6 hB6 hg6 hz6
        have HF6 := Lib.hid (goodE.kept HF.out (w' := w6) fun q hq hl => hg6.block q hl (fun e => by injection e with e; have := hq.1; omega))
        have ha6 := ha5.own hg6 (Nat.le_refl _)
        clear HF r0 r1 r2 r3 r4 r5 r6 hg6 ha5 hB5
        go_wp2_with fail
        refine bodyPost_ret (results_cell_row Tryz.results70 _ _ w.heap.size _ _ _ _ rfl hB6 Tryz.underlying34 rfl (by kernel_rfl)) rfl ?_
        exact at_ok ha6 HRk.out ⟨_, rfl, goodE.mono HF6.out fun q hq _ => ⟨by have := hq.1; omega, by simp⟩⟩ hik
      · have c1 : (((l.length + 1 + 1 : Nat) : Int) == 1) = false := by rw [beq_eq_false_iff_ne]; omega
        have c2 : (((l.length : Nat) : Int) + 1 + 1 == 1) = false := by rw [beq_eq_false_iff_ne]; omega
        go_wp2_with (refine store_blk rfl 34 (.tmp 8) (.tmp 29) rfl w.heap.size (eCells op 0 V.null [] (.slice A9 (e1 :: e2 :: l).length c9)) rfl rfl 34 _ hB5 (by kernel_rfl) rfl ?h1 ?_)
        case h1 => simp [eCells, strV, Value.oneCell']
        intro w6 hB6 hg6 hz6
        have HF6 := Lib.hid ((HO5.out.far goodE hg6 (by omega)).done goodE)
        have ha6 := ha5.own hg6 (Nat.le_refl _)
        clear hg6 ha5 hB5 c1 c2
        go_wp2_with fail
        refine bodyPost_ret (results_cell_row Tryz.results70 _ _ w.heap.size _ _ _ _ rfl hB6 Tryz.underlying34 rfl (by kernel_rfl)) rfl ?_
        exact at_ok ha6 HRk.out ⟨_, rfl, erep_iff.2 ⟨_, rfl, HF6.out.mono goodE fun q hq _ => ⟨by omega, by simp⟩⟩⟩ hik
end Go.Proofs.YtpmncgbpbcgfaaaGreatDoor

/-
  Operators: one of some symbols; operands joined by operators of equal rank.
-/
namespace Go.Proofs.YtpmncgbpbcgfaaaGreatDoor
open Go.RowKit
set_option linter.unusedVariables false
set_option linter.unusedSimpArgs false

/-- the symbols and the operators, in blocks of their own -/
structure Ops (w : World) (g h : Nat) (l : List (List UInt8 × Nat)) (S : Nat → ByteArray) : Prop where
  cell : ∀ k, k < l.length → w.cell? ⟨g, k, none⟩ = some (.string (S k))
  text : ∀ k (h : k < l.length), (S k).data.toList = l[k].1
  num : ∀ k (hk : k < l.length), w.cell? ⟨h, k, none⟩ = some (.int .i64 (l[k].2 : Int))
theorem Ops.grown {w w' : World} {g h p : Nat} {l : List (List UInt8 × Nat)} {S : Nat → ByteArray} (o : Ops w g h l S) (hg : w.grownBy w' (some p)) (hne : g ≠ p) (hne' : h ≠ p) : Ops w' g h l S :=
  ⟨fun k hk => by
    have h1 := o.cell k hk
    rw [hg.cell_far _ (World.block_lt_of_cell? w _ h1) (by simpa using hne)]
    exact h1, o.text, fun k hk => by
    have h1 := o.num k hk
    rw [hg.cell_far _ (World.block_lt_of_cell? w _ h1) (by simpa using hne')]
    exact h1⟩
theorem Ops.below {w w' : World} {g h : Nat} {l : List (List UInt8 × Nat)} {S : Nat → ByteArray} (o : Ops w g h l S) (hb : Below w.heap.size w w') : Ops w' g h l S :=
  ⟨fun k hk => (hb.cell (p := ⟨g, k, none⟩) (World.block_lt_of_cell? w _ (o.cell k hk))).trans (o.cell k hk), o.text, fun k hk => (hb.cell (p := ⟨h, k, none⟩) (World.block_lt_of_cell? w _ (o.num k hk))).trans (o.num k hk)⟩
def opR (w : World) (val : Value) (o : Option Nat) : Prop := val = .tuple #[.int .i64 ((o.getD 0 : Nat) : Int), .bool o.isSome]
structure OpsInv (w : World) (p : Nat) (v : Value) (T : List Tok) (i n : Nat) (d : Bool) (g h : Nat) (l : List (List UInt8 × Nat)) (S : Nat → ByteArray) (r : R (Option Nat)) (k : Nat) (c12 : Value) (wr : World) : Prop where
  le : k ≤ l.length
  c12 : c12 = .int .i64 (k : Int)
  at_ : At w wr p v T i n d
  ops : Ops wr g h l S
  pr : pOperator (l.drop k) (cores T) i d = r
set_option maxHeartbeats 1000000 in
set_option maxRecDepth 100000 in
theorem operator_call (p : Nat) (v : Value) (T : List Tok) (i n : Nat) (d : Bool) (w : World) (hst : St w p v T i n d) (g h c c' : Nat) (l : List (List UInt8 × Nat)) (S : Nat → ByteArray) (hS : Ops w g h l S) (hg : g ≠ p) (hh : h ≠ p) (hl : l.length ≤ 1000) :
    Calls Tryz.prog 133 #[.pointer (some ⟨p, 0, none⟩), .slice (some ⟨g, 0, none⟩) l.length c, .slice (some ⟨h, 0, none⟩) l.length c'] w (PPost w p v T i n opR (pOperator l (cores T) i d)) := by
  obtain ⟨r, hr⟩ : ∃ r, pOperator l (cores T) i d = r := ⟨_, rfl⟩
  rw [hr]
  have HR := Lib.hid hr
  clear hr
  go_enter Tryz.func133, Tryz.ntmps133
  go_wp2_with fail
  go_loopw [12] (fun c12 wr => ∃ k, OpsInv w p v T i n d g h l S r k c12 wr) (fun c12 _ => l.length - (intOf c12).toNat)
  case atStart => exact ⟨0, ⟨Nat.zero_le _, rfl, At.start hst, hS, HR.out⟩⟩
  case round =>
    obtain ⟨k, ⟨hk, rfl, ha, hss, hr⟩⟩ := hrel
    have HR1 := Lib.hid hr
    have HT := Lib.hid hss.text
    have HC := Lib.hid hss.cell
    have HN := Lib.hid hss.num
    clear hr HR hS hst
    by_cases hlt : k < l.length
    · have hc := HC.out k hlt
      have c1 : (k : Int) < (l.length : Int) := by omega
      have c2 : (0 : Int) ≤ (k : Int) := by omega
      have HR2 : Hid ((pSymbol l[k].1 >>= fun b => if b = true then pure (some l[k].2) else pOperator (l.drop (k + 1))) (cores T) i d = r) := Lib.hid (by rw [← HR1.out, List.drop_eq_getElem_cons hlt]; rfl)
      clear HR1
      go_wp2_with fail
      refine at_symbol ha (S k) l[k].1 (HT.out k hlt) HR2 (fun w1 HR3 ha1 hg1 => ?_) (fun w1 HR3 ha1 hg1 => ?_)
      · have hn := (hss.grown hg1 hg hh).num k hlt
        have HX : Hid (r = .ok (some l[k].2) (i + 1) d) := Lib.hid HR3.out.symm
        clear HR3 HR2 hc
        generalize l[k].2 = q at hn HX
        go_wp2_with fail
        go_ret2
        exact at_ok ha1 HX.out rfl (by omega)
      · have hss1 := hss.grown hg1 hg hh
        clear HR2 hc
        go_wp2_with fail
        go_roundw
        case rel => exact ⟨k + 1, ⟨by omega, by go_num, ha1, hss1, HR3.out⟩⟩
        case measure => simp [intOf]; omega
    · obtain rfl : k = l.length := by omega
      have HR2 : Hid (r = .ok none i d) := Lib.hid (by rw [← HR1.out, List.drop_length]; rfl)
      clear HR1
      go_wp2_with fail
      go_ret2
      exact at_ok ha HR2.out rfl (by omega)
end Go.Proofs.YtpmncgbpbcgfaaaGreatDoor
