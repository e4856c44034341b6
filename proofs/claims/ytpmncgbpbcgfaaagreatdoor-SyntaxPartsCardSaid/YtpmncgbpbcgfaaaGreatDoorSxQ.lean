import Derived.Test.YtpmncgbpbcgfaaaGreatDoorSxV
import Derived.Test.YtpmncgbpbcgfaaaGreatDoorPlB
import Derived.Deep.DeepCutAuto
/-
  Combined queries: term, combined.
-/
namespace Go.Proofs.YtpmncgbpbcgfaaaGreatDoor
open Go.RowKit
set_option linter.unusedVariables false
set_option linter.unusedSimpArgs false

theorem sel_lit {w : World} {F : Nat → Prop} {a : Sel} {cs : List Value} (h : SelRep w F a cs) : ∃ (x0 : Bool) (X1 : Option Addr) (X1m X1c : Nat) (x2 : ByteArray) (x3 : ByteArray) (x4 : Int) (x5 : Int) (x6 : Int) (x7 : Int) (X8 : Option Addr) (X8m X8c : Nat) (x9 : Bool) (x10 : Int) (x11 : Int) (x12 : Int) (x13 : Int) (x14 : ByteArray) (x15 : ByteArray) (X16 : Option Addr) (X16m X16c : Nat) (X17 : Option Addr) (X17m X17c : Nat), cs = [.bool x0, .slice X1 X1m X1c, .string x2, .string x3, .int .i64 x4, .int .i64 x5, .int .i64 x6, .int .i64 x7, .slice X8 X8m X8c, .bool x9, .int .i64 x10, .int .i64 x11, .int .i64 x12, .int .i64 x13, .string x14, .string x15, .slice X16 X16m X16c, .slice X17 X17m X17c] := by
  obtain ⟨vi, vj, vg, es, hs, rfl⟩ := h
  obtain ⟨e0, e1, e2, e3, e4, e5, E, e6, e7, rfl⟩ := erep_lit hs.cond
  obtain ⟨A, ca, rfl⟩ := hs.items.form
  obtain ⟨B, cb, rfl⟩ := hs.joins.form
  obtain ⟨C, cc, rfl⟩ := hs.group.form
  exact ⟨_, _, _, _, _, _, _, _, _, _, _, _, _, _, _, _, _, _, _, _, _, _, _, _, _, _, rfl⟩
theorem q_lit {w : World} {F : Nat → Prop} {a : Qry} {cs : List Value} (h : QRep w F a cs) : ∃ (op : Int) (all : Bool) (x0 : Bool) (X1 : Option Addr) (X1m X1c : Nat) (x2 : ByteArray) (x3 : ByteArray) (x4 : Int) (x5 : Int) (x6 : Int) (x7 : Int) (X8 : Option Addr) (X8m X8c : Nat) (x9 : Bool) (x10 : Int) (x11 : Int) (x12 : Int) (x13 : Int) (x14 : ByteArray) (x15 : ByteArray) (X16 : Option Addr) (X16m X16c : Nat) (X17 : Option Addr) (X17m X17c : Nat) (A : Option Addr) (Am Ac : Nat) (O : Option Addr) (Om Oc : Nat) (lim : Int), cs = [.int .i64 op, .bool all, .bool x0, .slice X1 X1m X1c, .string x2, .string x3, .int .i64 x4, .int .i64 x5, .int .i64 x6, .int .i64 x7, .slice X8 X8m X8c, .bool x9, .int .i64 x10, .int .i64 x11, .int .i64 x12, .int .i64 x13, .string x14, .string x15, .slice X16 X16m X16c, .slice X17 X17m X17c, .slice A Am Ac, .slice O Om Oc, .int .i64 lim] := by
  rcases a with ⟨o, al, s, ar, od, li⟩
  obtain ⟨ss, va, vo, rfl, hs, ha, ho⟩ := qrep_iff.1 h
  obtain ⟨x0, X1, X1m, X1c, x2, x3, x4, x5, x6, x7, X8, X8m, X8c, x9, x10, x11, x12, x13, x14, x15, X16, X16m, X16c, X17, X17m, X17c, rfl⟩ := sel_lit hs
  obtain ⟨A, ca, rfl⟩ := ha.form
  obtain ⟨B, cb, rfl⟩ := ho.form
  exact ⟨_, _, _, _, _, _, _, _, _, _, _, _, _, _, _, _, _, _, _, _, _, _, _, _, _, _, _, _, _, _, _, _, _, _, _, rfl⟩
def qZero : List Value := [.int .i64 0, .bool false, .bool false, .slice none 0 0, .string ⟨#[]⟩, .string ⟨#[]⟩, .int .i64 0, .int .i64 0, .int .i64 0, .int .i64 0, .slice none 0 0, .bool false, .int .i64 0, .int .i64 0, .int .i64 0, .int .i64 0, .string ⟨#[]⟩, .string ⟨#[]⟩, .slice none 0 0, .slice none 0 0, .slice none 0 0, .slice none 0 0, .int .i64 0]
/-- a query without an order -/
def QBare (q : Qry) (cs : List Value) : Prop := (∃ op all s args l, q = .mk op all s args [] l) ∧ cs[21]? = some (.slice none 0 0)
def combR (base : Nat) (w : World) (val : Value) (a : Qry × Nat) : Prop := ∃ cs, val = .tuple #[.agg cs.toArray, .int .i64 (a.2 : Int)] ∧ QRep w (Fp base []) a.1 cs ∧ QBare a.1 cs
def pTerm (m : Nat) : P (Qry × Nat) := do
  if ← pSymbol [40] then
    let q ← pCombined m
    pNeed [41]
    pure q
  else
    pWords [[83, 69, 76, 69, 67, 84]]
    let s ← pSel m
    pure (.mk 0 false s [] [] (-1), 1)
theorem pCombined_succ (m : Nat) : pCombined (m + 1) = (pTerm m >>= fun q => pCombGo (pTerm m) m q) := rfl
/-- a parse goes forward -/
theorem Sim.self (C : List Core) : ∀ n i, C.length - i ≤ n → ∃ m, Sim C i C i m := by
  intro n
  induction n with
  | zero =>
    intro i h
    have hn : C[i]? = none := List.getElem?_eq_none (by omega)
    have he : EndAt C (i + 0) := fun t ht => by rw [Nat.add_zero, hn] at ht; cases ht
    exact ⟨0, ⟨fun _ _ => rfl, fun k hk => absurd hk (Nat.not_lt_zero k), he, he⟩⟩
  | succ n ih =>
    intro i h
    rcases hc : C[i]? with _ | t
    · have he : EndAt C (i + 0) := fun t ht => by rw [Nat.add_zero, hc] at ht; cases ht
      exact ⟨0, ⟨fun _ _ => rfl, fun k hk => absurd hk (Nat.not_lt_zero k), he, he⟩⟩
    · by_cases hs : t.kind = 5 ∧ t.text = [59]
      · have he : EndAt C (i + 0) := fun u hu => by rw [Nat.add_zero, hc] at hu; cases hu; exact hs
        exact ⟨0, ⟨fun _ _ => rfl, fun k hk => absurd hk (Nat.not_lt_zero k), he, he⟩⟩
      · obtain ⟨m, hm⟩ := ih (i + 1) (by omega)
        refine ⟨m + 1, ⟨fun _ _ => rfl, fun k hk => ?_, ?_, ?_⟩⟩
        · rcases k with _ | k
          · exact ⟨t, hc, hs⟩
          · have := hm.here k (by omega)
            rwa [show i + 1 + k = i + (k + 1) by omega] at this
        · have := hm.e1
          rwa [show i + 1 + m = i + (m + 1) by omega] at this
        · have := hm.e2
          rwa [show i + 1 + m = i + (m + 1) by omega] at this
theorem Loc.le {α : Type} {x : P α} (h : Loc x) {C : List Core} {i j : Nat} {d d' : Bool} {a : α} (he : x C i d = .ok a j d') : i ≤ j := by
  obtain ⟨m, hm⟩ := Sim.self C _ i (Nat.le_refl _)
  obtain ⟨b, k, _, hj, _⟩ := LocR.at h hm he
  omega
theorem words1_ok {C : List Core} {i j : Nat} {d d' : Bool} {l : List UInt8} {u : Unit} (he : pWords [l] C i d = .ok u j d') : j = i + 1 ∧ d' = d := by
  rcases hx : aheadB C i 0 2 l with _ | _
  · have := ifWord_no hx he
    exact absurd this (fun h => wrong_ok h)
  · have := ifWord_yes hx he
    cases this
    exact ⟨rfl, rfl⟩
theorem bind_inv {α β : Type} {x : P α} {f : α → P β} {C : List Core} {i j : Nat} {d d' : Bool} {b : β} (h : (x >>= f) C i d = .ok b j d') : ∃ a k e, x C i d = .ok a k e ∧ f a C k e = .ok b j d' := by
  rcases hx : x C i d with ⟨a, k, e⟩ | ⟨k, c⟩
  · exact ⟨a, k, e, rfl, bind_ok hx h⟩
  · have := bind_fail hx h
    cases this
theorem combination_lt {C : List Core} {i j : Nat} {d d' : Bool} {op : Nat} (h : pCombination C i d = .ok (some op) j d') : i < j := by
  unfold pCombination at h
  rcases h1 : aheadB C i 0 2 [85, 78, 73, 79, 78] with _ | _
  · replace h := ifWord_no h1 h
    rcases h2 : aheadB C i 0 2 [69, 88, 67, 69, 80, 84] with _ | _
    · replace h := ifWord_no h2 h
      rcases h3 : aheadB C i 0 2 [73, 78, 84, 69, 82, 83, 69, 67, 84] with _ | _
      · replace h := ifWord_no h3 h
        cases h
      · replace h := ifWord_yes h3 h
        cases h
        omega
    · replace h := ifWord_yes h2 h
      cases h
      omega
  · replace h := ifWord_yes h1 h
    cases h
    omega
theorem combGo_le {term : P (Qry × Nat)} (ht : ∀ C i d q j d', term C i d = .ok q j d' → i + q.2 ≤ j) : ∀ k q0 C i0 i d q j d', i0 + q0.2 ≤ i → pCombGo term k q0 C i d = .ok q j d' → i0 + q.2 ≤ j := by
  intro k
  induction k with
  | zero => intro q0 C i0 i d q j d' _ h; cases h
  | succ k ih =>
    intro q0 C i0 i d q j d' h0 h
    rw [pCombGo] at h
    obtain ⟨o, k1, e1, h1, h2⟩ := bind_inv h
    rcases o with _ | op
    · have := Loc.le Loc.combination h1
      cases h2
      omega
    · have hlt := combination_lt h1
      obtain ⟨al, k2, e2, h3, h4⟩ := bind_inv h2
      have hle := Loc.le (Loc.word _) h3
      obtain ⟨r, k3, e3, h5, h6⟩ := bind_inv h4
      have := ht _ _ _ _ _ _ h5
      refine ih _ C i0 k3 e3 q j d' ?_ h6
      simp only
      omega
theorem term_le : ∀ m C i d q j d', pTerm m C i d = .ok q j d' → i + q.2 ≤ j := by
  intro m
  induction m with
  | zero =>
    intro C i d q j d' h
    unfold pTerm at h
    rcases hx : aheadB C i 0 5 [40] with _ | _
    · replace h := ifSymbol_no hx h
      obtain ⟨u, k1, e1, h1, h2⟩ := bind_inv h
      obtain ⟨rfl, rfl⟩ := words1_ok h1
      obtain ⟨s, k2, e2, h3, h4⟩ := bind_inv h2
      have := Loc.le (Loc.sel _) h3
      cases h4
      simp only
      omega
    · replace h := ifSymbol_yes hx h
      obtain ⟨q1, k1, e1, h1, h2⟩ := bind_inv h
      cases h1
  | succ m ih =>
    intro C i d q j d' h
    unfold pTerm at h
    rcases hx : aheadB C i 0 5 [40] with _ | _
    · replace h := ifSymbol_no hx h
      obtain ⟨u, k1, e1, h1, h2⟩ := bind_inv h
      obtain ⟨rfl, rfl⟩ := words1_ok h1
      obtain ⟨s, k2, e2, h3, h4⟩ := bind_inv h2
      have := Loc.le (Loc.sel _) h3
      cases h4
      simp only
      omega
    · replace h := ifSymbol_yes hx h
      obtain ⟨q1, k1, e1, h1, h2⟩ := bind_inv h
      rw [pCombined_succ] at h1
      obtain ⟨q2, k2, e2, h3, h4⟩ := bind_inv h1
      have h5 := ih _ _ _ _ _ _ h3
      have h6 := combGo_le (term := pTerm m) ih m q2 C (i + 1) k2 e2 q1 k1 e1 h5 h4
      obtain ⟨u, k3, e3, h7, h8⟩ := bind_inv h2
      have := Loc.le (Loc.need (by decide)) h7
      cases h8
      omega
theorem one_q {w : World} {F : Nat → Prop} {a : Qry} {cs : List Value} (h : QRep w F a cs) : ∀ u ∈ cs, u.oneCell' = true := goodQ.one h
theorem q_of_sel {w : World} {F : Nat → Prop} {s : Sel} {ss : List Value} (h : SelRep w F s ss) : QRep w F (.mk 0 false s [] [] (-1)) ([.int .i64 0, .bool false] ++ (ss ++ [.slice none 0 0, .slice none 0 0, .int .i64 (-1)])) := qrep_iff.2 ⟨ss, _, _, rfl, h, .inl ⟨rfl, rfl⟩, .inl ⟨rfl, rfl⟩⟩
/-- combined queries, from a token behind i0 on -/
def CombAt (x : P (Qry × Nat)) (p : Nat) (v : Value) (T : List Tok) (n i0 : Nat) : Prop := ∀ w i d, i0 < i → St w p v T i n d → Calls Tryz.prog 68 #[.pointer (some ⟨p, 0, none⟩)] w (PPost w p v T i n (combR w.heap.size) (x (cores T) i d))
set_option maxHeartbeats 8000000 in
set_option maxRecDepth 100000 in
theorem term_call (m p : Nat) (v : Value) (T : List Tok) (n i0 : Nat) (hcomb : CombAt (pCombined m) p v T n i0) (w : World) (i : Nat) (d : Bool) (hi : i0 ≤ i) (h : St w p v T i n d) (hm : 3 * (T.length - i) ≤ m) :
    Calls Tryz.prog 88 #[.pointer (some ⟨p, 0, none⟩)] w (PPost w p v T i n (combR w.heap.size) (pTerm m (cores T) i d)) := by
  obtain ⟨r, hr⟩ : ∃ r, pTerm m (cores T) i d = r := ⟨_, rfl⟩
  rw [hr]
  unfold pTerm at hr
  have HR := Lib.hid hr
  have HC := Lib.hid hcomb
  have ha := At.start h
  clear hr h hcomb
  go_enter Tryz.func88, Tryz.ntmps88
  go_wp2_with fail
  refine name_alloc (K := fun W => Calls _ _ _ W _) fun w1 hB hw1 hz1 => ?_
  replace ha := ha.below hw1
  have hz1' : w.heap.size + 1 ≤ w1.heap.size := by omega
  have hBp : w.heap.size ≠ p := by have := ha.hp; omega
  clear hw1 hz1
  refine at_symbol ha _ [40] rfl HR (fun w2 HR ha hg2 => ?_) (fun w2 HR ha hg2 => ?_)
  · replace hB := hB.grown hg2 hBp
    have hs2 := hg2.size
    clear hg2
    go_wp2_with fail
    refine at_call (HC.out w2 (i + 1) d (by omega) ha.st) ha HR (fun q j3 d3 val w3 HR hv ha hij3 hg3 => ?_) (fun j c w' hr hg => ⟨rfl, PPost.failed hr.out hg⟩)
    obtain ⟨cs, rfl, hq, hbare⟩ := hv
    have HBR := Lib.hid hbare
    clear hbare
    have HL := Lib.hid (goodQ.len hq)
    replace hB := hB.grown hg3 hBp
    have hs3 := hg3.size
    have HQ := Lib.hid (goodQ.made (base := w.heap.size) (L := [w.heap.size]) hq (by omega) (by intro q hq; simp at hq; omega))
    clear hg3 hq
    go_wp2_with (refine store_new rfl 40 (.tmp 4) (.tmp 11) rfl cs rfl rfl 40 qZero (by rw [HL.out]; kernel_rfl) (by rw [HL.out]; rfl) (one_q HQ.out) ?_)
    intro w4 hX hw4 hz4
    replace ha := ha.below hw4
    replace hB := hB.below hw4
    replace HQ := Lib.hid (goodQ.below HQ.out hw4)
    have hXp : w3.heap.size ≠ p := by have := ha.hp; omega
    clear hw4 hz4
    go_wp2_with fail
    refine at_need ha _ [41] rfl HR (fun w5 HR ha hg5 => ?_) (fun j c w' hr hg => ⟨rfl, PPost.failed hr.out hg⟩)
    replace hB := hB.grown hg5 hBp
    replace hX := hX.grown hg5 hXp
    replace HQ := Lib.hid (goodQ.grown HQ.out hg5 ha.hp)
    clear hg5
    go_wp2_with (first | (refine wpList_load_mid rfl 40 (.tmp 4) rfl w3.heap.size 0 rfl cs _ hX.all Tryz.underlying40 rfl (by rw [HL.out]; kernel_rfl) ?_) | (refine store_blk rfl 40 (.tmp 2) (.tmp 15) rfl w.heap.size cs rfl rfl 40 _ hB (by rw [HL.out]; kernel_rfl) (by rw [HL.out]; rfl) (one_q HQ.out) ?_))
    intro w6 hB6 hg6 hz6
    replace ha := ha.own hg6 (Nat.le_refl _)
    have HQ6 := Lib.hid (goodQ.all (goodQ.own HQ.out hg6 (by simp)))
    clear hg6 hz6 hB hX HQ
    go_wp2_with fail
    refine bodyPost_ret (results_row_tmp Tryz.results88 _ _ w.heap.size _ _ _ _ rfl hB6 Tryz.underlying40 rfl (by simp only [List.size_toArray]; rw [HL.out]; kernel_rfl)) rfl ?_
    exact at_ok ha HR.out.symm ⟨_, rfl, HQ6.out, HBR.out⟩ (by omega)
  · replace hB := hB.grown hg2 hBp
    have hs2 := hg2.size
    clear hg2
    go_wp2_with fail
    refine name_alloc (K := fun W => Calls _ _ _ W _) fun w3 hT hw3 hz3 => ?_
    have hle3 := ha.le
    replace ha := ha.below hw3
    replace hB := hB.below hw3
    clear hw3
    refine at_words1 ha hT (by omega) [83, 69, 76, 69, 67, 84] rfl HR (fun w4 HR ha hg4 => ?_) (fun j c w' hr hg => ⟨rfl, PPost.failed hr.out hg⟩)
    replace hB := hB.grown hg4 hBp
    have hs4 := hg4.size
    clear hT hg4
    go_wp2_with fail
    have hle4 := ha.st.le
    refine at_call (sel_call m p v T n w4 _ _ ha.st (by omega)) ha HR (fun s j5 d5 val w5 HR hv ha hij5 hg5 => ?_) (fun j c w' hr hg => ⟨rfl, PPost.failed hr.out hg⟩)
    obtain ⟨ss, rfl, hq⟩ := hv
    obtain ⟨cx0, cX1, cX1m, cX1c, cx2, cx3, cx4, cx5, cx6, cx7, cX8, cX8m, cX8c, cx9, cx10, cx11, cx12, cx13, cx14, cx15, cX16, cX16m, cX16c, cX17, cX17m, cX17c, rfl⟩ := sel_lit hq
    replace hB := hB.grown hg5 hBp
    have HQ := Lib.hid (q_of_sel (goodSel.made (base := w.heap.size) (L := [w.heap.size]) hq (by omega) (by intro q hq; simp at hq; omega)))
    clear hg5 hq hz3
    go_wp2_with (first | (refine build_is rfl 40 _ rfl [.int .i64 0, .bool false, .bool cx0, .slice cX1 cX1m cX1c, .string cx2, .string cx3, .int .i64 cx4, .int .i64 cx5, .int .i64 cx6, .int .i64 cx7, .slice cX8 cX8m cX8c, .bool cx9, .int .i64 cx10, .int .i64 cx11, .int .i64 cx12, .int .i64 cx13, .string cx14, .string cx15, .slice cX16 cX16m cX16c, .slice cX17 cX17m cX17c, .slice none 0 0, .slice none 0 0, .int .i64 (-1)] (by kernel_rfl) ?_) | (refine store_blk rfl 40 (.tmp 2) (.tmp 22) rfl w.heap.size [.int .i64 0, .bool false, .bool cx0, .slice cX1 cX1m cX1c, .string cx2, .string cx3, .int .i64 cx4, .int .i64 cx5, .int .i64 cx6, .int .i64 cx7, .slice cX8 cX8m cX8c, .bool cx9, .int .i64 cx10, .int .i64 cx11, .int .i64 cx12, .int .i64 cx13, .string cx14, .string cx15, .slice cX16 cX16m cX16c, .slice cX17 cX17m cX17c, .slice none 0 0, .slice none 0 0, .int .i64 (-1)] rfl rfl 40 _ hB (by kernel_rfl) rfl (one_q HQ.out) ?_))
    intro w6 hB6 hg6 hz6
    replace ha := ha.own hg6 (Nat.le_refl _)
    have HQ6 := Lib.hid (goodQ.all (goodQ.own HQ.out hg6 (by simp)))
    clear hg6 hz6 hB HQ
    go_wp2_with fail
    refine bodyPost_ret (results_row_tmp Tryz.results88 _ _ w.heap.size _ _ _ _ rfl hB6 Tryz.underlying40 rfl (by kernel_rfl)) rfl ?_
    exact at_ok ha HR.out.symm ⟨_, rfl, HQ6.out, ⟨⟨_, _, _, _, _, rfl⟩, rfl⟩⟩ (by omega)
end Go.Proofs.YtpmncgbpbcgfaaaGreatDoor

/-
  Combined queries.
-/
namespace Go.Proofs.YtpmncgbpbcgfaaaGreatDoor
open Go.RowKit
set_option linter.unusedVariables false
set_option linter.unusedSimpArgs false

theorem combGo_step {term : P (Qry × Nat)} {k : Nat} {q : Qry × Nat} {C : List Core} {j : Nat} {d : Bool} {r : R (Qry × Nat)} (hr : pCombGo term (k + 1) q C j d = r) :
    (pCombination >>= fun o => match o with | none => pure q | some op => pWord [65, 76, 76] >>= fun all => term >>= fun r => pCombGo term k (.mk op all Sel.zero [q.1, r.1] [] (-1), 1 + max q.2 r.2)) C j d = r := by
  rw [pCombGo] at hr
  exact hr
structure CombRel (m : Nat) (w0 : World) (p : Nat) (v : Value) (T : List Tok) (i n g0 g9 : Nat) (r : R (Qry × Nat)) (gk j : Nat) (q : Qry × Nat) (cs : List Value) (d : Bool) (k : Nat) (c5 : Value) (wr : World) : Prop where
  gk : gk + j = T.length
  ij : i ≤ j
  at_ : At w0 wr p v T j n d
  blk : Blk wr g0 qZero 40
  box : Blk wr g9 cs 40
  rep : QRep wr (Fp w0.heap.size [g0, g9]) q.1 cs
  bare : QBare q.1 cs
  c5 : c5 = .int .i64 (q.2 : Int)
  dep : i + q.2 ≤ j
  fuel : T.length + 1 ≤ k + j
  pr : pCombGo (pTerm m) k q (cores T) j d = r
theorem zeroSel_rep (w : World) (F : Nat → Prop) : SelRep w F Sel.zero selZero := ⟨.slice none 0 0, .slice none 0 0, .slice none 0 0, zeroE7, ⟨.inl ⟨rfl, rfl⟩, .inl ⟨rfl, rfl⟩, zeroE_rep _ _, .inl ⟨rfl, rfl⟩⟩, rfl⟩
set_option maxHeartbeats 20000000 in
set_option maxRecDepth 100000 in
theorem combined_step (m p : Nat) (v : Value) (T : List Tok) (n i0 : Nat) (hcomb : CombAt (pCombined m) p v T n i0) (w : World) (i : Nat) (d : Bool) (hi : i0 ≤ i) (h : St w p v T i n d) (hm : 3 * (T.length - i) + 3 ≤ m + 1) :
    Calls Tryz.prog 68 #[.pointer (some ⟨p, 0, none⟩)] w (PPost w p v T i n (combR w.heap.size) (pCombined (m + 1) (cores T) i d)) := by
  obtain ⟨r, hr⟩ : ∃ r, pCombined (m + 1) (cores T) i d = r := ⟨_, rfl⟩
  rw [hr]
  rw [pCombined_succ] at hr
  have HR := Lib.hid hr
  have HC := Lib.hid hcomb
  have ha := At.start h
  have hleT := h.le
  have hlT := h.tk.len
  clear hr h hcomb
  go_enter Tryz.func68, Tryz.ntmps68
  go_wp2_with fail
  refine name_alloc (K := fun W => Calls _ _ _ W _) fun w1 hB hw1 hz1 => ?_
  replace ha := ha.below hw1
  have hz1' : w.heap.size + 1 ≤ w1.heap.size := by omega
  have hBp : w.heap.size ≠ p := by have := ha.hp; omega
  clear hw1 hz1
  refine at_callE (term_call m p v T n i0 HC.out w1 i d hi ha.st (by omega)) ha HR (fun q j d' val w2 HXO HR hv ha hij hg2 => ?_) (fun j c w' hr hg => ⟨rfl, PPost.failed hr.out hg⟩)
  have hdep := term_le _ _ _ _ _ _ _ HXO.out
  obtain ⟨cs, rfl, hq, hbare⟩ := hv
  have HBR := Lib.hid hbare
  clear hbare
  have HL := Lib.hid (goodQ.len hq)
  replace hB := hB.grown hg2 hBp
  have hs2 := hg2.size
  have HQ := Lib.hid (goodQ.more (goodQ.made (base := w.heap.size) (L := [w.heap.size]) hq (by omega) (by intro q hq; simp at hq; omega)) (Nat.le_refl _))
  clear hg2 hq HXO
  go_wp2_with (refine store_new rfl 40 (.tmp 4) (.tmp 14) rfl cs rfl rfl 40 qZero (by rw [HL.out]; kernel_rfl) (by rw [HL.out]; rfl) (one_q HQ.out) ?_)
  intro w3 hX hw3 hz3
  have hle2 := ha.st.le
  replace ha := ha.below hw3
  replace hB := hB.below hw3
  replace HQ := Lib.hid (goodQ.below HQ.out hw3)
  have hXp : w2.heap.size ≠ p := by have := ha.hp; omega
  clear hw3 hz3
  go_wp2_with fail
  go_loopg [5] (T.length - j) (fun gk c5 wr => ∃ j q cs d k, CombRel m w p v T i n w.heap.size w2.heap.size r gk j q cs d k c5 wr)
  case atStart => exact ⟨j, q, _, d', m, ⟨by omega, hij, ha, hB, hX, goodQ.mono HQ.out fun b hb _ => ⟨hb.1, by have := hb.2; simp at this ⊢; omega⟩, HBR.out, rfl, hdep, by omega, HR.out⟩⟩
  case round =>
    obtain ⟨j1, q1, cs, d1, k, ⟨hgk, hij1, ha1, hB1, hX1, hq1, hbare, rfl, hdep1, hfuel, hpr⟩⟩ := hrel
    have hle1 := ha1.st.le
    obtain ⟨k, rfl⟩ : ∃ q, k = q + 1 := ⟨k - 1, by omega⟩
    have HL1 := Lib.hid (goodQ.len hq1)
    have HR1 := Lib.hid (combGo_step hpr)
    have HQ1 := Lib.hid hq1
    clear hpr hq1 HR HQ ha hB hX hdep HL
    go_wp2_with fail
    refine at_callE (combination_call p v T j1 n d1 wr ha1.st) ha1 HR1 (fun o j2 d2 val w4 HXO HR2 hv ha2 hij2 hg2 => ?_) (fun j c w' hr hg => ⟨rfl, PPost.failed hr.out hg⟩)
    obtain rfl := hv
    have hB2 := hB1.grown hg2 hBp
    have hX2 := hX1.grown hg2 hXp
    have HQ2 := Lib.hid (goodQ.grown HQ1.out hg2 ha1.hp)
    have hs4 := hg2.size
    have hle4 := ha2.st.le
    have lX := hX2.lt
    clear hg2 HQ1 hB1 hX1 ha1 HR1
    rcases o with _ | op
    · have HX : Hid (r = .ok q1 j2 d2) := Lib.hid HR2.out.symm
      unfold Option.getD Option.isSome
      clear HR2 HXO
      go_wp2_with (first | (refine wpList_load_mid rfl 40 (.tmp 4) rfl w2.heap.size 0 rfl cs _ hX2.all Tryz.underlying40 rfl (by rw [HL1.out]; kernel_rfl) ?_) | (refine store_blk rfl 40 (.tmp 2) (.tmp 23) rfl w.heap.size cs rfl rfl 40 _ hB2 (by rw [HL1.out]; kernel_rfl) (by rw [HL1.out]; rfl) (one_q HQ2.out) ?_))
      intro w6 hB6 hg6 hz6
      have ha6 := ha2.own hg6 (Nat.le_refl _)
      have HQ6 := Lib.hid (goodQ.all (goodQ.own HQ2.out hg6 (by simp)))
      clear hg6 hz6 hB2 hX2 HQ2
      go_wp2_with fail
      refine bodyPost_ret (results_row_tmp Tryz.results68 _ _ w.heap.size _ _ _ _ rfl hB6 Tryz.underlying40 rfl (by simp only [List.size_toArray]; rw [HL1.out]; kernel_rfl)) rfl ?_
      exact at_ok ha6 HX.out ⟨_, rfl, HQ6.out, hbare⟩ (by omega)
    · have hlt := combination_lt HXO.out
      clear HXO
      unfold Option.getD Option.isSome
      go_wp2_with fail
      refine at_wordB ha2 _ [65, 76, 76] rfl HR2 (fun all j3 w5 HR3 hx3 hij3 ha3 hg3 => ?_)
      have hB3 := hB2.grown hg3 hBp
      have hX3 := hX2.grown hg3 hXp
      have HQ3 := Lib.hid (goodQ.grown HQ2.out hg3 ha2.hp)
      have hs5 := hg3.size
      have hle5 := ha3.st.le
      clear hg3 hx3 HQ2 hB2 hX2 ha2 HR2 lX
      go_wp2_with fail
      refine at_callE (term_call m p v T n i0 HC.out w5 j3 d2 (by omega) ha3.st (by omega)) ha3 HR3 (fun q4 j4 d4 val w6 HXO HR4 hv ha4 hij4 hg4 => ?_) (fun j c w' hr hg => ⟨rfl, PPost.failed hr.out hg⟩)
      have hdep4 := term_le _ _ _ _ _ _ _ HXO.out
      obtain ⟨ds, rfl, hq, _⟩ := hv
      have HL4 := Lib.hid (goodQ.len hq)
      have hB4 := hB3.grown hg4 hBp
      have hX4 := hX3.grown hg4 hXp
      have hs6 := hg4.size
      have HQ4 := Lib.hid (goodQ.grown HQ3.out hg4 ha3.hp)
      have lX3 := hX3.lt
      have HN4 := Lib.hid (goodQ.made (base := w.heap.size) (L := [w.heap.size, w2.heap.size]) hq (by omega) (by intro q hq; simp at hq; omega))
      have hle6 := ha4.st.le
      clear hg4 hq HXO HQ3 hB3 hX3 ha3 HR3
      go_wp2_with (refine store_new rfl 40 (.tmp 9) (.tmp 30) rfl ds rfl rfl 40 qZero (by rw [HL4.out]; kernel_rfl) (by rw [HL4.out]; rfl) (one_q HN4.out) ?_)
      intro w8 hY hw8 hz8
      have ha8 := ha4.below hw8
      have hB8 := hB4.below hw8
      have hX8 := hX4.below hw8
      have HQ8 := Lib.hid (goodQ.below HQ4.out hw8)
      have HN8 := Lib.hid (goodQ.below HN4.out hw8)
      have hz8' : w6.heap.size + 1 ≤ w8.heap.size := by omega
      have l8 : w2.heap.size < w8.heap.size := by omega
      have l0 : w.heap.size < w8.heap.size := by omega
      clear hw8 hz8 ha4 hB4 hX4 HQ4 HN4
      have HX9 := Lib.hid (hX8.alloc (.cells (cs ++ ds).toArray 40))
      have hN9 := Blk.new w8 (cs ++ ds) 40
      have HN9 := Lib.hid (show QRep (w8.alloc (.cells (cs ++ ds).toArray 40)) (Fp w.heap.size [w.heap.size, w2.heap.size]) (.mk op all Sel.zero [q1.1, q4.1] [] (-1)) [.int .i64 (op : Int), .bool all, .bool false, .slice none 0 0, .string ⟨#[]⟩, .string ⟨#[]⟩, .int .i64 0, .int .i64 0, .int .i64 0, .int .i64 0, .slice none 0 0, .bool false, .int .i64 0, .int .i64 0, .int .i64 0, .int .i64 0, .string ⟨#[]⟩, .string ⟨#[]⟩, .slice none 0 0, .slice none 0 0, .slice (some ⟨w8.heap.size, 0, none⟩) 2 2, .slice none 0 0, .int .i64 (-1)] from qrep_iff.2 ⟨selZero, _, _, rfl, zeroSel_rep _ _, LRep.two goodQ (k := 2) hN9 (goodQ.below HQ8.out (below1 w8 _)) (goodQ.below HN8.out (below1 w8 _)) ⟨by omega, by simp; omega⟩, .inl ⟨rfl, rfl⟩⟩)
      clear hN9
      have e1 : IntKind.i64.wrap ((1 : Int) + ((max q1.2 q4.2 : Nat) : Int)) = ((1 + max q1.2 q4.2 : Nat) : Int) := by rw [IntWalk.i64_in _ (by omega)]; omega
      go_wp2_with (first | (refine wpList_load_mid rfl 40 (.tmp 4) rfl w2.heap.size 0 rfl cs _ hX8.all Tryz.underlying40 rfl (by rw [HL1.out]; kernel_rfl) ?_) | (refine wpList_load_mid rfl 40 (.tmp 9) rfl w6.heap.size 0 rfl ds _ hY.all Tryz.underlying40 rfl (by rw [HL4.out]; kernel_rfl) ?_) | (refine build_two rfl 37 40 34 35 rfl 23 cs ds rfl rfl Tryz.underlying37 (by kernel_rfl) (by kernel_rfl) (by omega) (by omega) HL1.out HL4.out ?_) | (refine build_is rfl 40 _ rfl [.int .i64 (op : Int), .bool all, .bool false, .slice none 0 0, .string ⟨#[]⟩, .string ⟨#[]⟩, .int .i64 0, .int .i64 0, .int .i64 0, .int .i64 0, .slice none 0 0, .bool false, .int .i64 0, .int .i64 0, .int .i64 0, .int .i64 0, .string ⟨#[]⟩, .string ⟨#[]⟩, .slice none 0 0, .slice none 0 0, .slice (some ⟨w8.heap.size, 0, none⟩) 2 2, .slice none 0 0, .int .i64 (-1)] (by kernel_rfl) ?_) | (refine store_blk rfl 40 (.tmp 4) (.tmp 37) rfl w2.heap.size [.int .i64 (op : Int), .bool all, .bool false, .slice none 0 0, .string ⟨#[]⟩, .string ⟨#[]⟩, .int .i64 0, .int .i64 0, .int .i64 0, .int .i64 0, .slice none 0 0, .bool false, .int .i64 0, .int .i64 0, .int .i64 0, .int .i64 0, .string ⟨#[]⟩, .string ⟨#[]⟩, .slice none 0 0, .slice none 0 0, .slice (some ⟨w8.heap.size, 0, none⟩) 2 2, .slice none 0 0, .int .i64 (-1)] rfl rfl 40 _ HX9.out (by kernel_rfl) (by rw [HL1.out]; rfl) (goodQ.one HN9.out) ?_))
      intro w9 hX9 hg9 hz9
      have ha9 := (ha8.alloc (.cells (cs ++ ds).toArray 40)).own hg9 (by omega)
      have hB9 := (hB8.alloc (.cells (cs ++ ds).toArray 40)).grown hg9 (by omega)
      have HM9 := Lib.hid (goodQ.own HN9.out hg9 (by simp))
      clear hg9 hz9 HN9 HX9 HQ8 HN8 hX8 hB8 ha8 hY
      go_wp2_with fail
      go_roundg (T.length - j4)
      case measure => omega
      case rel => exact ⟨j4, (.mk op all Sel.zero [q1.1, q4.1] [] (-1), 1 + max q1.2 q4.2), _, d4, k, ⟨by omega, by omega, ha9, hB9, hX9, HM9.out, ⟨⟨_, _, _, _, _, rfl⟩, rfl⟩, by simp; omega, by simp only; omega, by omega, HR4.out⟩⟩
theorem combined_at (p : Nat) (v : Value) (T : List Tok) (n : Nat) : ∀ (m i0 : Nat) (w : World) (i : Nat) (d : Bool), i0 ≤ i → 3 * (T.length - i0) + 3 ≤ m → St w p v T i n d → Calls Tryz.prog 68 #[.pointer (some ⟨p, 0, none⟩)] w (PPost w p v T i n (combR w.heap.size) (pCombined m (cores T) i d)) := by
  intro m
  induction m with
  | zero => intro i0 w i d _ h; omega
  | succ m ih =>
    intro i0 w i d hi hm h
    refine combined_step m p v T n i (fun w' i' d' hi' h' => ih (i + 1) w' i' d' (by omega) ?_ h') w i d (Nat.le_refl _) h (by omega)
    have := h'.le
    omega
theorem combined_call (m : Nat) (p : Nat) (v : Value) (T : List Tok) (n : Nat) (w : World) (i : Nat) (d : Bool) (h : St w p v T i n d) (hm : 3 * (T.length - i) + 3 ≤ m) :
    Calls Tryz.prog 68 #[.pointer (some ⟨p, 0, none⟩)] w (PPost w p v T i n (combR w.heap.size) (pCombined m (cores T) i d)) := combined_at p v T n m i w i d (Nat.le_refl _) hm h
end Go.Proofs.YtpmncgbpbcgfaaaGreatDoor

/-
  The closure of a query's order.
-/
namespace Go.Proofs.YtpmncgbpbcgfaaaGreatDoor
open Go.RowKit
set_option linter.unusedVariables false
set_option linter.unusedSimpArgs false

theorem info_order : (Tryz.prog.info? 107).map (fun i => (i.zero, i.size, i.bytes)) = some (some (.agg #[.int .i64 0, .bool false]), 2, 16) := by kernel_rfl
theorem dec_pos (a : Nat) : decide ((0 : Int) < (a : Int)) = decide (0 < a) := by
  rw [Bool.eq_iff_iff, decide_eq_true_iff, decide_eq_true_iff]
  omega
/-- a query's order under construction: gq the query's block, gp the box of the parser's pointer -/
structure OrdersI (wb : World) (p gq gp base : Nat) (pre : List Value) (lim : Value) (l : List (Nat × Bool)) (w : World) : Prop where
  box : Blk w gp [.pointer (some ⟨p, 0, none⟩)] 77
  sel : ∃ vo, Blk w gq (pre ++ [vo, lim]) 40 ∧ OwnL 2 107 (FlatR ordCells) w base l vo
  le : base ≤ w.heap.size
  fr : Fr base gq p wb w
theorem OrdersI.grown {wb : World} {p gs gp base : Nat} {c0 : List Value} {rest : Value} {l : List (Nat × Bool)} {w w' : World} (h : OrdersI wb p gs gp base c0 rest l w) (hg : w.grownBy w' (some p)) (h1 : gs ≠ p) (h2 : gp ≠ p) (h3 : p < base) : OrdersI wb p gs gp base c0 rest l w' :=
  ⟨h.box.grown hg h2, let ⟨vi, ha, hb⟩ := h.sel; ⟨vi, ha.grown hg h1, hb.grown goodOrd hg h3⟩, Nat.le_trans h.le hg.size, h.fr.push hg h.le (fun g e => by cases e; exact .inr (.inr rfl))⟩
theorem enters_query1 : ∀ args w, (callFunc 69 args).run Tryz.prog w = .ok (.enter 69 args) w := enters_of Tryz.func69 (by kernel_rfl) rfl
theorem pre_at {pre : List Value} (hpre : pre.length = 21) (vo lim : Value) : (pre ++ [vo, lim])[21]? = some vo := by rw [List.getElem?_append_right (by omega)]; simp [hpre]
theorem pre_set {pre : List Value} (hpre : pre.length = 21) (vo lim u : Value) : (pre ++ [vo, lim]).set 21 u = pre ++ [u, lim] := by simp [List.set_append, hpre]
set_option maxHeartbeats 8000000 in
set_option maxRecDepth 100000 in
theorem query1_step (wb : World) (p gq gp base : Nat) (pre : List Value) (hpre : pre.length = 21) (lim : Value) (v : Value) (T : List Tok) (n i0 : Nat) (w0 : World) (hgq : w0.heap.size ≤ gq) (hgp : w0.heap.size ≤ gp) (hne : gq ≠ gp) (hbs : gq < base) (hbp : gp < base)
    (w : World) (i : Nat) (d : Bool) (l : List (Nat × Bool)) (hi : i0 ≤ i) (hlen : l.length ≤ i) (ha : At w0 w p v T i n d) (hI : OrdersI wb p gq gp base pre lim l w) :
    Calls Tryz.prog 69 #[.pointer (some ⟨gp, 0, none⟩), .pointer (some ⟨gq, 0, none⟩)] w (LPost w0 p v T i n (OrdersI wb p gq gp base pre lim l) (pOrder (cores T) i d) fun a w' => OrdersI wb p gq gp base pre lim (l ++ [a]) w') := by
  obtain ⟨hP, ⟨vi, hS, hO⟩, hbase, hfr⟩ := hI
  obtain ⟨r, hr⟩ : ∃ r, pOrder (cores T) i d = r := ⟨_, rfl⟩
  rw [hr]
  unfold pOrder at hr
  have HR := Lib.hid hr
  have HO := Lib.hid hO
  have HF := Lib.hid hfr
  obtain ⟨A8, c8', rfl⟩ := hO.form
  have hlT := ha.st.tk.len
  have hleT := ha.st.le
  clear hr hO hfr
  obtain ⟨i0', hi0', hz0, hz1, hz2⟩ := info_parts info_order
  have hgqp : gq ≠ p := by have := ha.hp; omega
  have hgpp : gp ≠ p := by have := ha.hp; omega
  have hpb : p < base := by have := ha.hp; omega
  have q0 := hP.cell 0 rfl
  go_enter Tryz.func69, Tryz.ntmps69
  go_wp2_with fail
  refine at_take ha 3 HR (fun t w1 hit HTt hkt hokt HR ha1 hg1 => ?_) (fun j c w' hr hg => ⟨rfl, (show LPost _ _ _ _ _ _ _ _ _ _ _ by rw [hr.out]; exact ⟨rfl, hg⟩)⟩)
  have hS1 := hS.grown hg1 hgqp
  have hP1 := hP.grown hg1 hgpp
  have HO1 := Lib.hid (HO.out.grown goodOrd hg1 hpb)
  have HF1 := Lib.hid (HF.out.push hg1 hbase (fun g e => by cases e; exact .inr (.inr rfl)))
  have h01 := hg1.size
  clear q0 hg1 hS hP HO HF ha hkt
  unfold tokV strV
  go_wp2_with fail
  refine name_alloc (K := fun W => Calls _ _ _ W _) fun w2 hX hw2 hz2' => ?_
  have hS2 := hS1.below hw2
  have hP2 := hP1.below hw2
  have HO2 := Lib.hid (HO1.out.below goodOrd hw2)
  have HF2 := Lib.hid (HF1.out.below hw2 (by omega))
  have ha2 := ha1.below hw2
  have h12 : w1.heap.size + 1 ≤ w2.heap.size := by omega
  have hgx : gq ≠ w1.heap.size := by have := hS1.lt; omega
  have hxp : w1.heap.size ≠ p := by have := ha1.st.ps.lt; omega
  clear hw2 hz2' hS1 hP1 HO1 HF1
  refine at_check ha2 hit HTt rfl HR (fun w3 hc HR ha3 hw3 => ?_) (fun j c w' hr hg => ⟨rfl, (show LPost _ _ _ _ _ _ _ _ _ _ _ by rw [hr.out]; exact ⟨rfl, hg⟩)⟩)
  have hS3 := hS2.below hw3
  have hP3 := hP2.below hw3
  have hX3 := hX.below hw3
  have HO3 := Lib.hid (HO2.out.below goodOrd hw3)
  have HF3 := Lib.hid (HF2.out.below hw3 (by omega))
  have h23 := hw3.size
  have hpos : 0 < t.int := by simpa using hc
  have hnum := hokt.num
  clear hc hw3 hS2 hP2 HO2 HF2 ha2 hX HTt hokt
  have hleT3 := ha3.st.le
  have e1 : IntKind.i64.wrap ((t.int : Int) - 1) = (t.int : Int) - 1 := by rw [IntWalk.i64_in _ (by omega)]
  have HRR : Hid ([.int .i64 ((t.int : Int) - 1), .bool false] = ordCells (t.int - 1, false) ∧ [.int .i64 ((t.int : Int) - 1), .bool true] = ordCells (t.int - 1, true)) := Lib.hid (by unfold ordCells natV; constructor <;> (congr 2; simp only; omega))
  have r21 := hS3.cell 21 (pre_at hpre _ _)
  have q0 := hP3.cell 0 rfl
  have t2 := hX3.cell 2 rfl
  have lX : w1.heap.size < w3.heap.size := by omega
  have lq := hS3.lt
  clear hpos
  go_upto_region 2 with (fail)
  go_region_law (first | (refine step_push goodOrd (by rfl) (.tmp 11) (.tmp 18) 38 (by rfl) base 107 i0' _ 16 Tryz.underlying38 hi0' hz0 hz1 hz2 (by rfl) (by omega) (by omega) (.slice A8 l.length c8') l (by rfl) (HO8.out.below goodOrd (below1 w8 _)) w8.heap.size 1 [.int .i64 ((t.int : Int) - 1), .bool b8] (t.int - 1, b8) (by rfl) (Blk.new w8 _ _) HC8.out (by omega) (by simp; omega) ?_; intro gg cap w9 hO9 hg9; have hS9 := (hS8.alloc _).push hg9 (fun e => by have := (HO3.out.blk _ e).1; omega); have y91 := hS9.cell 21 (pre_at hpre _ _); have z91 := hS9.free 21) | (go_simp; go_at_call 53; refine at_wordB (ha3.drewN 1) _ [68, 69, 83, 67] rfl HR (fun b8 j8 w8 HR8 hx8 hij8 ha8 hg8 => ?_); have HC8 : Hid (FlatR ordCells (w8.alloc (.cells #[.int .i64 ((t.int : Int) - 1), .bool b8] 107)) (fun q => base ≤ q ∧ (Value.slice A8 l.length c8').ownBlock ≠ some q) (t.int - 1, b8) [.int .i64 ((t.int : Int) - 1), .bool b8]) := Lib.hid (by cases b8; exact HRR.out.1; exact HRR.out.2); have hS8 := (hS3.drewN 1).grown hg8 hgqp; have hP8 := (hP3.drewN 1).grown hg8 hgpp; have HO8 := Lib.hid ((HO3.out.below goodOrd (belowD w3 1)).grown goodOrd hg8 hpb); have y1 := hS8.cell 21 (pre_at hpre _ _); have z1' := hS8.free 21; have t28 := ((hX3.drewN 1).grown hg8 hxp).cell 2 rfl; have l9 : gq < w8.heap.size := hS8.lt; have h78 : w3.heap.size ≤ w8.heap.size := hg8.size))
  all_goals
    have HLT : Hid (∀ g, (Value.slice A8 l.length c8').ownBlock = some g → base ≤ g) := Lib.hid (fun g e => (HO3.out.blk g e).1)
    have ha9 := ((ha8.alloc (.cells #[.int .i64 ((t.int : Int) - 1), .bool b8] 107)).push hg9 (fun g e => by have := HLT.out g e; omega)).set hgq 21 (.slice (some ⟨gg, 0, none⟩) (l.length + 1) cap)
    have hP9 := ((hP8.alloc (.cells #[.int .i64 ((t.int : Int) - 1), .bool b8] 107)).push hg9 (fun e => by have := HLT.out _ e; omega)).grown (only_setCell (World.grownBy.refl w9 _) 21 (.slice (some ⟨gg, 0, none⟩) (l.length + 1) cap)) (Ne.symm hne)
    have hS10 := hS9.set 21 (.slice (some ⟨gg, 0, none⟩) (l.length + 1) cap)
    rw [pre_set hpre] at hS10
    have hO10 := hO9.far goodOrd (only_setCell (World.grownBy.refl w9 _) 21 (.slice (some ⟨gg, 0, none⟩) (l.length + 1) cap)) hbs
    have hz9 : w8.heap.size + 1 ≤ w9.heap.size := by have := hg9.size; simpa using this
    have hs9 : (w9.setCell ⟨gq, 21, none⟩ (.slice (some ⟨gg, 0, none⟩) (l.length + 1) cap)).heap.size = w9.heap.size := by simp [World.setCell]
    have HF9 := Lib.hid (((((HF3.out.below (belowD w3 1) (by omega)).push hg8 (show base ≤ w3.heap.size by omega) (fun g e => by cases e; exact .inr (.inr rfl))).below (below1 w8 _) (by omega)).push hg9 (by simp; omega) (fun g e => .inl (HLT.out g e))).push (only_setCell (World.grownBy.refl w9 _) 21 (.slice (some ⟨gg, 0, none⟩) (l.length + 1) cap)) (by omega) (fun g e => by cases e; exact .inr (.inl rfl)))
    go_end0
    rw [← HR8.out]
    exact ⟨rfl, ha9, by omega, ⟨hP9, ⟨_, hS10, hO10⟩, by rw [hs9]; omega, HF9.out⟩⟩
end Go.Proofs.YtpmncgbpbcgfaaaGreatDoor

/-
  A query: query.
-/
namespace Go.Proofs.YtpmncgbpbcgfaaaGreatDoor
open Go.RowKit
set_option linter.unusedVariables false
set_option linter.unusedSimpArgs false

def pDeepen (b : Bool) : P Unit := fun C i d => .ok () i (d || b)
def pQryL (q : Qry) (o : List (Nat × Bool)) : P Qry := do
  if ← pWord [76, 73, 77, 73, 84] then
    let t ← pTake 3
    pure (q.ends o (some t.2.int))
  else pure (q.ends o none)
theorem pQuery_eq (m : Nat) : pQuery m = (pCombined m >>= fun q => pDeepen (decide (24 < q.2)) >>= fun _ => pWord [79, 82, 68, 69, 82] >>= fun b => if b = true then pWords [[66, 89]] >>= fun _ => pList m pOrder >>= fun o => pQryL q.1 o else pQryL q.1 []) := by
  unfold pQuery pQryL pDeepen
  simp only [P_assoc, P_ite, P_pure]
def qPre (op : Nat) (all : Bool) (ss : List Value) (va : Value) : List Value := [natV op, .bool all] ++ (ss ++ [va])
theorem qCells_pre (op : Nat) (all : Bool) (ss : List Value) (va vo : Value) (l : Int) : qCells op all ss va vo l = qPre op all ss va ++ [vo, .int .i64 l] := by simp [qCells, qPre]
theorem qPre_len (op : Nat) (all : Bool) {ss : List Value} (va : Value) (h : ss.length = 18) : (qPre op all ss va).length = 21 := by simp [qPre, h]
abbrev qFp (w0 : World) (gq : Nat) : Nat → Prop := Fp w0.heap.size [gq, w0.heap.size + 1, w0.heap.size]
/-- a query under construction -/
structure QI (w0 : World) (p : Nat) (v : Value) (T : List Tok) (i n gq op : Nat) (all : Bool) (s : Sel) (args : List Qry) (o : List (Nat × Bool)) (l : Int) (ss : List Value) (va vo : Value) (j : Nat) (d : Bool) (w : World) : Prop where
  at_ : At w0 w p v T j n d
  ij : i ≤ j
  box : Blk w w0.heap.size [.pointer (some ⟨p, 0, none⟩)] 77
  res : Blk w (w0.heap.size + 1) qZero 40
  qry : Blk w gq (qPre op all ss va ++ [vo, .int .i64 l]) 40
  sel : SelRep w (qFp w0 gq) s ss
  args_ : LRep 23 QRep w (qFp w0 gq) args va
  ord : LRep 2 (FlatR ordCells) w (qFp w0 gq) o vo
  lo : w0.heap.size + 1 < gq
section
variable {w0 w w' : World} {p : Nat} {v : Value} {T : List Tok} {i n gq op : Nat} {all : Bool} {s : Sel} {args : List Qry} {o : List (Nat × Bool)} {l : Int} {ss : List Value} {va vo : Value} {j j' : Nat} {d d' : Bool}
theorem QI.call (h : QI w0 p v T i n gq op all s args o l ss va vo j d w) (ha : At w0 w' p v T j' n d') (hij : j ≤ j') (hg : w.grownBy w' (some p)) : QI w0 p v T i n gq op all s args o l ss va vo j' d' w' := by
  have hp := h.at_.hp
  have hlo := h.lo
  have hk : ∀ b, qFp w0 gq b → b < w.heap.size → w'.heap[b]? = w.heap[b]? := fun b hb hl => hg.block b hl (fun e => by injection e with e; have := hb.1; omega)
  exact ⟨ha, Nat.le_trans h.ij hij, h.box.grown hg (by omega), h.res.grown hg (by omega), h.qry.grown hg (by omega), goodSel.kept h.sel hk, h.args_.kept goodQ hk, h.ord.kept goodOrd hk, hlo⟩
theorem QI.below (h : QI w0 p v T i n gq op all s args o l ss va vo j d w) (hb : Below w.heap.size w w') : QI w0 p v T i n gq op all s args o l ss va vo j d w' :=
  ⟨h.at_.below hb, h.ij, h.box.below hb, h.res.below hb, h.qry.below hb, goodSel.below h.sel hb, h.args_.kept goodQ fun b _ hl => hb.block b hl, h.ord.kept goodOrd fun b _ hl => hb.block b hl, h.lo⟩
theorem QI.put (h : QI w0 p v T i n gq op all s args o l ss va vo j d w) {l' : Int} (hg : w.grownBy w' (some gq)) (hb : Blk w' gq (qPre op all ss va ++ [vo, .int .i64 l']) 40) : QI w0 p v T i n gq op all s args o l' ss va vo j d w' := by
  have hlo := h.lo
  have hk : ∀ b, qFp w0 gq b → b < w.heap.size → w'.heap[b]? = w.heap[b]? := fun b hb hl => hg.block b hl (fun e => by injection e with e; subst e; exact hb.2 (by simp))
  exact ⟨h.at_.own hg (by omega), h.ij, h.box.grown hg (by omega), h.res.grown hg (by omega), hb, goodSel.kept h.sel hk, h.args_.kept goodQ hk, h.ord.kept goodOrd hk, hlo⟩
theorem QI.toOrders (h : QI w0 p v T i n gq op all s args o l ss va (.slice none 0 0) j d w) : OrdersI w p gq w0.heap.size w.heap.size (qPre op all ss va) (.int .i64 l) [] w :=
  ⟨h.box, ⟨_, h.qry, OwnL.nil _ _⟩, Nat.le_refl _, Fr.refl _ _ _ _⟩
theorem QI.ofOrders (h : QI w0 p v T i n gq op all s args o l ss va vo j d w) {ol : List (Nat × Bool)} (hI : OrdersI w p gq w0.heap.size w.heap.size (qPre op all ss va) (.int .i64 l) ol w') (ha : At w0 w' p v T j' n d') (hij : j ≤ j') : ∃ u, QI w0 p v T i n gq op all s args ol l ss va u j' d' w' := by
  obtain ⟨hbox, ⟨u, hS, hO⟩, hle, hfr⟩ := hI
  have hlo := h.lo
  have hp := h.at_.hp
  have hlt := h.qry.lt
  have hk : ∀ b, qFp w0 gq b → b < w.heap.size → w'.heap[b]? = w.heap[b]? := fun b hb hl => hfr b hl (fun e => hb.2 (by simp [e])) (fun e => by have := hb.1; omega)
  refine ⟨u, ⟨ha, Nat.le_trans h.ij hij, hbox, (hfr _ (by omega) (by omega) (by omega)).trans h.res, hS, goodSel.kept h.sel hk, h.args_.kept goodQ hk, ?_, hlo⟩⟩
  exact (hO.done goodOrd).mono goodOrd fun b hb _ => ⟨by omega, by simp; omega⟩
theorem QI.rep (h : QI w0 p v T i n gq op all s args o l ss va vo j d w) : QRep w (qFp w0 gq) (.mk op all s args o l) (qPre op all ss va ++ [vo, .int .i64 l]) := qrep_iff.2 ⟨ss, va, vo, by rw [qCells_pre], h.sel, h.args_, h.ord⟩
end
theorem bare_cells {w : World} {F : Nat → Prop} {q : Qry} {cs : List Value} (h : QRep w F q cs) (hb : QBare q cs) : ∃ op all s args l ss va, q = .mk op all s args [] l ∧ cs = qPre op all ss va ++ [.slice none 0 0, .int .i64 l] ∧ SelRep w F s ss ∧ LRep 23 QRep w F args va := by
  obtain ⟨⟨op, all, s, args, l, rfl⟩, h21⟩ := hb
  obtain ⟨ss, va, vo, rfl, hs, ha, ho⟩ := qrep_iff.1 h
  rw [qCells_pre, pre_at (qPre_len _ _ _ (goodSel.len hs))] at h21
  injection h21 with h21
  subst h21
  exact ⟨op, all, s, args, l, ss, va, rfl, qCells_pre _ _ _ _ _ _, hs, ha⟩
set_option maxHeartbeats 20000000 in
set_option maxRecDepth 100000 in
theorem query_call (m : Nat) (p : Nat) (v : Value) (T : List Tok) (n : Nat) (w : World) (i : Nat) (d : Bool) (h : St w p v T i n d) (hm : 3 * (T.length - i) + 3 ≤ m) :
    Calls Tryz.prog 37 #[.pointer (some ⟨p, 0, none⟩)] w (PPost w p v T i n (aggR QRep w.heap.size) (pQuery m (cores T) i d)) := by
  obtain ⟨r, hr⟩ : ∃ r, pQuery m (cores T) i d = r := ⟨_, rfl⟩
  rw [hr]
  rw [pQuery_eq] at hr
  have HR := Lib.hid hr
  have ha := At.start h
  have hleT := h.le
  clear hr h
  go_enter Tryz.func37, Tryz.ntmps37
  go_wp2_with fail
  refine name_alloc2 (K := fun W => Calls _ _ _ W _) fun w1 hP hB hw1 hz1 => ?_
  replace ha := ha.below hw1
  have hz1' : w.heap.size + 2 ≤ w1.heap.size := by omega
  clear hw1 hz1
  have hPp : w.heap.size ≠ p := by have := ha.hp; omega
  have hBp : w.heap.size + 1 ≠ p := by have := ha.hp; omega
  refine at_call (combined_call m p v T n w1 i d ha.st hm) ha HR (fun q j2 d2 val w2 HR hv ha hij2 hg2 => ?_) (fun j c w' hr hg => ⟨rfl, PPost.failed hr.out hg⟩)
  obtain ⟨cs, rfl, hq, hbare⟩ := hv
  replace hP := hP.grown hg2 hPp
  replace hB := hB.grown hg2 hBp
  have hs2 := hg2.size
  have hlen := goodQ.len hq
  have hq' := goodQ.more (goodQ.made (base := w.heap.size) (L := [w.heap.size + 1, w.heap.size]) hq (by omega) (by intro q hq; simp at hq; omega)) (Nat.le_refl _)
  have HQ := Lib.hid hq'
  have HL := Lib.hid hlen
  have HBR := Lib.hid hbare
  clear hg2 hq hq' hlen hbare
  go_wp2_with (refine store_new rfl 40 (.tmp 3) (.tmp 8) rfl cs rfl rfl 40 qZero (by rw [HL.out]; kernel_rfl) (by rw [HL.out]; rfl) (one_q HQ.out) ?_)
  intro w3 hX hw3 hz3
  have hle2 := ha.st.le
  replace ha := ha.below hw3
  replace hB := hB.below hw3
  replace hP := hP.below hw3
  replace HQ := Lib.hid (goodQ.below HQ.out hw3)
  obtain ⟨op, all, s, args, l, ss, va, hqe, rfl, hsr, har⟩ := bare_cells HQ.out HBR.out
  have hI : QI w p v T i n w2.heap.size op all s args [] l ss va (.slice none 0 0) j2 d2 w3 := ⟨ha, hij2, hP, hB, hX, hsr, har, .inl ⟨rfl, rfl⟩, by omega⟩
  have HQE := Lib.hid hqe
  have hlt3 : w2.heap.size + 1 ≤ w3.heap.size := by omega
  clear hP hB hX ha hsr har hw3 hz3 hqe HQ HBR HL
  generalize w2.heap.size = gq at hI hs2 hlt3 ⊢
  go_upto_region 2 with (fail)
  go_cut [] (fun wx => QI w p v T i n gq op all s args [] l ss va (.slice none 0 0) j2 (d2 || decide (24 < q.2)) wx)
  case first =>
    have bx := hI.box.cell 0 rfl
    have h3 := hI.at_.st.ps.c3
    have f3 := hI.at_.st.ps.free 3
    have e24 : decide ((24 : Int) < (q.2 : Int)) = decide (24 < q.2) := by rw [Bool.eq_iff_iff, decide_eq_true_iff, decide_eq_true_iff]; omega
    have HE24 := Lib.hid e24
    clear e24
    cases d2
    · go_still_tail 11, (by kernel_rfl)
      change wpList _ _ _ _ _ (w3.drewN 1)
      have h3' : (w3.drewN 1).cell? ⟨p, 3, none⟩ = some (.bool false) := h3
      have f3' : (w3.drewN 1).frozen? ⟨p, 3, none⟩ = false := f3
      go_wp2_with fail
      go_meet
      have hI' := hI.call ((hI.at_.drewN 1).setDeep (decide ((24 : Int) < (q.2 : Int)))) (Nat.le_refl _) (only_setCell (only_drewN (World.grownBy.refl _ _) 1) 3 _)
      rw [Bool.false_or, ← HE24.out]
      exact hI'
    · go_still_tail 11, (by kernel_rfl)
      change wpList _ _ _ _ _ (w3.drewN 1)
      have h3' : (w3.drewN 1).cell? ⟨p, 3, none⟩ = some (.bool true) := h3
      have f3' : (w3.drewN 1).frozen? ⟨p, 3, none⟩ = false := f3
      go_wp2_with fail
      go_meet
      rw [Bool.true_or]
      exact hI.call ((hI.at_.drewN 1).setDeep true) (Nat.le_refl _) (only_setCell (only_drewN (World.grownBy.refl _ _) 1) 3 _)
  case rest =>
    clear hI
    have hI := hcut
    clear hcut
    have HR : Hid ((pWord [79, 82, 68, 69, 82] >>= fun b => if b = true then pWords [[66, 89]] >>= fun _ => pList m pOrder >>= fun o => pQryL q.1 o else pQryL q.1 []) (cores T) j2 (d2 || decide (24 < q.2)) = r) := Lib.hid (by have h := HR.out; exact h)
    generalize (d2 || decide (24 < q.2)) = d3 at hI HR
    have bx := hI.box.cell 0 rfl
    go_wp2_with fail
    refine at_wordB hI.at_ _ [79, 82, 68, 69, 82] rfl HR (fun b j4 w4 HR hx4 hij4 ha4 hg4 => ?_)
    replace hI := hI.call ha4 hij4 hg4
    clear bx hx4 ha4 hg4
    go_upto_if 22 with (fail)
    go_cut [] (fun wx => ∃ j d o vo, QI w p v T i n gq op all s args o l ss va vo j d wx ∧ pQryL q.1 o (cores T) j d = r)
    case first =>
      rcases b with _ | _
      · go_wp2_with fail
        go_meet
        exact ⟨j4, d3, [], _, hI, HR.out⟩
      · have HR : Hid ((pWords [[66, 89]] >>= fun _ => pList m pOrder >>= fun o => pQryL q.1 o) (cores T) j4 d3 = r) := HR
        have bx := hI.box.cell 0 rfl
        go_wp2_with fail
        refine name_alloc (K := fun W => Calls _ _ _ W _) fun w5 hT hw5 hz5 => ?_
        have hle5 := hI.at_.le
        replace hI := hI.below hw5
        clear bx hw5
        refine at_words1 hI.at_ hT (by omega) [66, 89] rfl HR (fun w6 HR ha6 hg6 => ?_) (fun j c w' hr hg => ⟨rfl, PPost.failed hr.out hg⟩)
        replace hI := hI.call ha6 (by omega) hg6
        clear hT hg6 ha6 hz5
        have bx := hI.box.cell 0 rfl
        go_wp2_with fail
        have hlo := hI.lo
        have hlt := hI.qry.lt
        have hij := hI.ij
        have hpw := hI.at_.hp
        have hle6 := hI.at_.st.le
        refine at_list (list_call pOrder 69 _ enters_query1 p v T (j4 + 1) n w (fun g wx => OrdersI w6 p gq w.heap.size w6.heap.size (qPre op all ss va) (.int .i64 l) g wx) (fun l a b h hg => h.grown hg (by omega) (by omega) (by omega)) (fun wx ix dx lx hix hlx hax hIx => query1_step w6 p gq w.heap.size w6.heap.size _ (qPre_len _ _ _ (goodSel.len hI.sel)) _ v T n (j4 + 1) w (by omega) (Nat.le_refl _) (by omega) (by omega) (by omega) wx ix dx lx hix hlx hax hIx) w6 (j4 + 1) d3 (Nat.le_refl _) hI.at_ hI.toOrders m (by omega)) HR (fun o j7 d7 w7 HR hl ha hij7 => ?_) (fun j c w' hr hg => ⟨rfl, PPost.failed hr.out hg⟩)
        obtain ⟨u, hI7⟩ := hI.ofOrders hl ha hij7
        clear hI bx hl ha
        go_wp2_with fail
        go_meet
        exact ⟨j7, d7, o, u, hI7, HR.out⟩
    case rest =>
      obtain ⟨j5, d5, o, vo, hI5, hr⟩ := hcut
      clear hI HR
      have hI := hI5
      clear hI5
      rw [HQE.out] at hr
      unfold pQryL at hr
      have HR := Lib.hid hr
      clear hr
      have bx := hI.box.cell 0 rfl
      go_wp2_with fail
      refine at_wordB hI.at_ _ [76, 73, 77, 73, 84] rfl HR (fun b j6 w6 HR hx6 hij6 ha6 hg6 => ?_)
      replace hI := hI.call ha6 hij6 hg6
      clear bx hx6 ha6 hg6
      go_upto_if 30 with (fail)
      go_cut [] (fun wx => ∃ j d l', QI w p v T i n gq op all s args o l' ss va vo j d wx ∧ r = .ok (.mk op all s args o l') j d)
      case first =>
        rcases b with _ | _
        · go_wp2_with fail
          go_meet
          exact ⟨j6, d5, l, hI, HR.out.symm⟩
        · have HR : Hid ((pTake 3 >>= fun t => (pure ((Qry.mk op all s args [] l).ends o (some t.2.int)) : P Qry)) (cores T) j6 d5 = r) := HR
          have bx := hI.box.cell 0 rfl
          go_wp2_with fail
          refine at_take hI.at_ 3 HR (fun t w7 hit HTt hkt hokt HR ha7 hg7 => ?_) (fun j c w' hr hg => ⟨rfl, PPost.failed hr.out hg⟩)
          replace hI := hI.call ha7 (by omega) hg7
          have hpl := qPre_len op all va (goodSel.len hI.sel)
          have c22 : (qPre op all ss va ++ [vo, Value.int .i64 l])[22]? = some (.int .i64 l) := by rw [List.getElem?_append_right (by omega), hpl]; rfl
          have s22 : (qPre op all ss va ++ [vo, Value.int .i64 l]).set 22 (.int .i64 (t.int : Int)) = qPre op all ss va ++ [vo, .int .i64 (t.int : Int)] := by rw [List.set_append_right _ _ (by omega), hpl]; rfl
          have x22 := hI.qry.cell 22 c22
          have z22 := hI.qry.free 22
          have hb7 := hI.qry.set 22 (.int .i64 (t.int : Int))
          rw [s22] at hb7
          have hI8 := hI.put (only_setCell (World.grownBy.refl _ _) 22 (.int .i64 (t.int : Int))) hb7
          clear hg7 ha7 bx hb7 s22 c22 hI HTt hkt hokt
          unfold tokV strV
          have hf2 := tok_f2
          go_wp2_with fail
          go_meet
          exact ⟨_, _, _, hI8, HR.out.symm⟩
      case rest =>
        obtain ⟨j7, d7, l', hI7, hr⟩ := hcut
        clear hI HR
        have hI := hI7
        clear hI7
        have HR := Lib.hid hr
        have hlo := hI.lo
        have HQ := Lib.hid hI.rep
        have HL := Lib.hid (goodQ.len hI.rep)
        clear hr
        go_wp2_with (first | (refine wpList_load_mid rfl 40 (.tmp 3) rfl gq 0 rfl (qPre op all ss va ++ [vo, .int .i64 l']) _ hI.qry.all Tryz.underlying40 rfl (by rw [HL.out]; kernel_rfl) ?_) | (refine store_blk rfl 40 (.tmp 2) (.tmp 35) rfl (w.heap.size + 1) (qPre op all ss va ++ [vo, .int .i64 l']) rfl rfl 40 _ hI.res (by rw [HL.out]; kernel_rfl) (by rw [HL.out]; rfl) (goodQ.one HQ.out) ?_))
        intro w9 hB9 hg9 hz9
        have ha9 := hI.at_.own hg9 (by omega)
        have hq9 := goodQ.own HQ.out hg9 (by simp)
        clear hg9
        go_wp2_with fail
        refine bodyPost_ret (results_cell_row Tryz.results37 _ _ (w.heap.size + 1) _ _ _ _ rfl hB9 Tryz.underlying40 rfl (by simp only [List.size_toArray]; rw [HL.out]; kernel_rfl)) rfl ?_
        exact at_ok ha9 HR.out ⟨_, rfl, goodQ.all hq9⟩ hI.ij
end Go.Proofs.YtpmncgbpbcgfaaaGreatDoor

/-
  Statements under construction: prefix, where.
-/
namespace Go.Proofs.YtpmncgbpbcgfaaaGreatDoor
open Go.RowKit
set_option linter.unusedVariables false
set_option linter.unusedSimpArgs false

/-- what a step leaves that works on a block of its caller -/
def SPost {α : Type} (w0 : World) (p : Nat) (v : Value) (T : List Tok) (i n : Nat) (r : R α) (J : α → Value → World → Prop) (e : Ending) (w' : World) : Prop :=
  match r with
  | .ok a j d => ∃ val, e = .returned val ∧ At w0 w' p v T j n d ∧ i ≤ j ∧ J a val w'
  | .fail j c => e = failE T n j c ∧ w0.grownBy w' (some p)
section
variable {α β : Type} {w0 w w' : World} {p : Nat} {v : Value} {T : List Tok} {i j n c : Nat} {d : Bool} {r : R α} {J : α → Value → World → Prop}
theorem SPost.failed (hr : r = .fail j c) (hg : w0.grownBy w' (some p)) : SPost w0 p v T i n r J (failE T n j c) w' := by
  subst hr
  exact ⟨rfl, hg⟩
theorem SPost.mkOk {a : α} {val : Value} (hr : r = .ok a j d) (ha : At w0 w' p v T j n d) (hij : i ≤ j) (hJ : J a val w') : SPost w0 p v T i n r J (.returned val) w' := by
  subst hr
  exact ⟨val, rfl, ha, hij, hJ⟩
/-- a call of such a step, in a chain -/
theorem at_step {x : P α} {f : α → P β} {fn : FuncId} {args : Array Value} {Q : Ending → World → Prop} {r : R β} (hc : Calls Tryz.prog fn args w (SPost w0 p v T i n (x (cores T) i d) J)) (HR : Hid ((x >>= f) (cores T) i d = r))
    (hok : ∀ a j d' val w', Hid (x (cores T) i d = .ok a j d') → Hid (f a (cores T) j d' = r) → J a val w' → At w0 w' p v T j n d' → i ≤ j → Q (.returned val) w')
    (hfail : ∀ j c w', Hid (r = .fail j c) → w0.grownBy w' (some p) → Q (failE T n j c) w') : Calls Tryz.prog fn args w Q := by
  refine hc.mono ?_
  intro e w' hp
  rcases hx : x (cores T) i d with ⟨a, j, d1⟩ | ⟨j, c⟩
  · rw [hx] at hp
    obtain ⟨val, rfl, ha1, hij, hJ1⟩ := hp
    exact hok a j d1 val w' (Lib.hid hx) (Lib.hid (bind_ok hx HR.out)) hJ1 ha1 hij
  · rw [hx] at hp
    obtain ⟨rfl, hg1⟩ := hp
    exact hfail j c w' (Lib.hid (bind_fail hx HR.out)) hg1
theorem at_stepL {x : P α} {fn : FuncId} {args : Array Value} {Q : Ending → World → Prop} {r : R α} (hc : Calls Tryz.prog fn args w (SPost w0 p v T i n (x (cores T) i d) J)) (HR : Hid (x (cores T) i d = r))
    (hok : ∀ a j d' val w', Hid (r = .ok a j d') → J a val w' → At w0 w' p v T j n d' → i ≤ j → Q (.returned val) w')
    (hfail : ∀ j c w', Hid (r = .fail j c) → w0.grownBy w' (some p) → Q (failE T n j c) w') : Calls Tryz.prog fn args w Q := by
  refine hc.mono ?_
  intro e w' hp
  rcases hx : x (cores T) i d with ⟨a, j, d1⟩ | ⟨j, c⟩
  · rw [hx] at hp
    obtain ⟨val, rfl, ha1, hij, hJ1⟩ := hp
    exact hok a j d1 val w' (Lib.hid (HR.out.symm.trans hx)) hJ1 ha1 hij
  · rw [hx] at hp
    obtain ⟨rfl, hg1⟩ := hp
    exact hfail j c w' (Lib.hid (HR.out.symm.trans hx)) hg1
end
/-- a statement's cells, nothing but plain fields -/
def stmZ (a : Stm) : List Value := stmCells a qZero (.slice none 0 0) (.slice none 0 0) zeroE7 (.slice none 0 0) (.slice none 0 0) (.slice none 0 0) (.slice none 0 0)
/-- a step on the statement in block gs: wb its entry's world, cs the statement's cells -/
structure SI (w0 wb : World) (p : Nat) (v : Value) (T : List Tok) (i n gs : Nat) (cs : List Value) (j : Nat) (d : Bool) (w : World) : Prop where
  at_ : At w0 w p v T j n d
  ij : i ≤ j
  st : Blk w gs cs 57
  fr : Fr wb.heap.size gs p wb w
  sz : wb.heap.size ≤ w.heap.size
  gs0 : w0.heap.size ≤ gs
  gsb : gs < wb.heap.size
section
variable {w0 wb w w' : World} {p : Nat} {v : Value} {T : List Tok} {i n gs : Nat} {cs cs' : List Value} {j j' : Nat} {d d' : Bool}
theorem SI.start (ha : At w0 w p v T i n d) (hb : Blk w gs cs 57) (h0 : w0.heap.size ≤ gs) : SI w0 w p v T i n gs cs i d w := ⟨ha, Nat.le_refl _, hb, Fr.refl _ _ _ _, Nat.le_refl _, h0, hb.lt⟩
theorem SI.gp (h : SI w0 wb p v T i n gs cs j d w) : gs ≠ p := by have := h.at_.hp; have := h.gs0; omega
theorem SI.le0 (h : SI w0 wb p v T i n gs cs j d w) : w0.heap.size ≤ wb.heap.size := by have := h.gs0; have := h.gsb; omega
theorem SI.call (h : SI w0 wb p v T i n gs cs j d w) (ha : At w0 w' p v T j' n d') (hij : j ≤ j') (hg : w.grownBy w' (some p)) : SI w0 wb p v T i n gs cs j' d' w' :=
  ⟨ha, Nat.le_trans h.ij hij, h.st.grown hg h.gp, h.fr.push hg h.sz (fun g e => by cases e; exact .inr (.inr rfl)), Nat.le_trans h.sz hg.size, h.gs0, h.gsb⟩
theorem SI.below (h : SI w0 wb p v T i n gs cs j d w) (hb : Below w.heap.size w w') : SI w0 wb p v T i n gs cs j d w' :=
  ⟨h.at_.below hb, h.ij, h.st.below hb, h.fr.below hb h.sz, Nat.le_trans h.sz hb.size, h.gs0, h.gsb⟩
theorem SI.put (h : SI w0 wb p v T i n gs cs j d w) (hg : w.grownBy w' (some gs)) (hb : Blk w' gs cs' 57) : SI w0 wb p v T i n gs cs' j d w' :=
  ⟨h.at_.own hg h.gs0, h.ij, hb, h.fr.push hg h.sz (fun g e => by cases e; exact .inr (.inl rfl)), Nat.le_trans h.sz hg.size, h.gs0, h.gsb⟩
theorem SI.set (h : SI w0 wb p v T i n gs cs j d w) (k : Nat) (u : Value) : SI w0 wb p v T i n gs (cs.set k u) j d (w.setCell ⟨gs, k, none⟩ u) :=
  h.put (only_setCell (World.grownBy.refl _ _) k u) (h.st.set k u)
/-- a store into a block of the step's own -/
theorem SI.own {g : Nat} (h : SI w0 wb p v T i n gs cs j d w) (hg : w.grownBy w' (some g)) (hb : wb.heap.size ≤ g) : SI w0 wb p v T i n gs cs j d w' := by
  have h1 := h.gsb
  have h2 := h.le0
  exact ⟨h.at_.own hg (by omega), h.ij, h.st.grown hg (by omega), h.fr.push hg h.sz (fun q e => by cases e; exact .inl hb), Nat.le_trans h.sz hg.size, h.gs0, h.gsb⟩
end
theorem Strs.two {w : World} {g : Nat} {t : TypeId} {a b : List UInt8} (hb : Blk w g [.string ⟨a.toArray⟩, .string ⟨b.toArray⟩] t) : Strs w g [a, b] (fun k => if k = 0 then ⟨a.toArray⟩ else ⟨b.toArray⟩) :=
  ⟨fun k hk => by
    have : k = 0 ∨ k = 1 := by simp at hk; omega
    rcases this with rfl | rfl
    · exact hb.cell 0 rfl
    · exact hb.cell 1 rfl, fun k hk => by
    have : k = 0 ∨ k = 1 := by simp at hk; omega
    rcases this with rfl | rfl <;> simp⟩
theorem instant_lt {C : List Core} {i j t : Nat} {d d' : Bool} (h : pInstant C i d = .ok t j d') : t < forever := by
  unfold pInstant at h
  obtain ⟨a, k, e, h1, h2⟩ := bind_inv h
  obtain ⟨u, k2, e2, h3, h4⟩ := bind_inv h2
  rcases hc : decide (a.2.int < forever) with _ | _
  · rw [hc] at h3
    rw [pCheck_no rfl] at h3
    cases h3
  · cases h4
    simpa using hc
set_option maxHeartbeats 8000000 in
set_option maxRecDepth 100000 in
theorem prefix_call (w0 : World) (p : Nat) (v : Value) (T : List Tok) (n gs : Nat) (a : Stm) (w : World) (i : Nat) (d : Bool) (ha : At w0 w p v T i n d) (hb : Blk w gs (stmZ a) 57) (h0 : w0.heap.size ≤ gs) :
    Calls Tryz.prog 33 #[.pointer (some ⟨p, 0, none⟩), .pointer (some ⟨gs, 0, none⟩)] w (SPost w0 p v T i n (pPrefix a (cores T) i d) fun x val w' => val = .bool x.1 ∧ Blk w' gs (stmZ x.2) 57 ∧ Fr w.heap.size gs p w w' ∧ w.heap.size ≤ w'.heap.size) := by
  obtain ⟨r, hr⟩ : ∃ r, pPrefix a (cores T) i d = r := ⟨_, rfl⟩
  rw [hr]
  unfold pPrefix at hr
  have HR := Lib.hid hr
  have hI := SI.start ha hb h0
  clear hr ha hb
  go_enter Tryz.func33, Tryz.ntmps33
  go_wp2_with fail
  refine at_word hI.at_ _ [86, 65, 76, 73, 68] rfl HR (fun w1 HR ha hg1 => ?_) (fun w1 HR ha hg1 => ?_)
  · replace hI := hI.call ha (by omega) hg1
    clear ha hg1
    go_wp2_with fail
    refine name_alloc (K := fun W => Calls _ _ _ W _) fun w2 hT hw2 hz2 => ?_
    have hle2 := hI.at_.st.ps.lt
    replace hI := hI.below hw2
    clear hw2 hz2
    refine at_call (pwords_call p v T _ n _ w2 hI.at_.st w1.heap.size 2 [[65, 83], [79, 70]] _ (Strs.two hT) (by omega) (by simp)) hI.at_ HR (fun u j3 d3 val w3 HR hv ha hij3 hg3 => ?_) (fun j c w' hr hg => ⟨rfl, SPost.failed hr.out hg⟩)
    obtain rfl := hv
    replace hI := hI.call ha hij3 hg3
    clear hT ha hg3
    go_wp2_with fail
    refine at_callE (instant_call p v T _ n _ w3 hI.at_.st) hI.at_ HR (fun t j4 d4 val w4 HX HR hv ha hij4 hg4 => ?_) (fun j c w' hr hg => ⟨rfl, SPost.failed hr.out hg⟩)
    obtain rfl := hv
    have htf := instant_lt HX.out
    replace hI := hI.call ha hij4 hg4
    clear ha hg4 HX
    have e1 : IntKind.i64.wrap ((t : Int) + 1) = ((t + 1 : Nat) : Int) := by unfold forever at htf; rw [IntWalk.i64_in _ (by omega)]; omega
    have x1 := hI.st.cell 1 rfl
    have x2 := hI.st.cell 2 rfl
    have x3 := hI.st.cell 3 rfl
    have z1 := hI.st.free 1
    have z2 := hI.st.free 2
    have z3 := hI.st.free 3
    have hI5 := ((hI.set 1 (.int .i64 1)).set 2 (.int .i64 (t : Int))).set 3 (.int .i64 ((t + 1 : Nat) : Int))
    clear htf
    go_wp2_with fail
    go_ret
    exact SPost.mkOk HR.out.symm hI5.at_ hI5.ij ⟨rfl, hI5.st, hI5.fr, hI5.sz⟩
  · replace hI := hI.call ha (by omega) hg1
    clear ha hg1
    go_wp2_with fail
    refine at_word hI.at_ _ [83, 69, 81, 85, 69, 78, 67, 69, 68] rfl HR (fun w2 HR ha hg2 => ?_) (fun w2 HR ha hg2 => ?_)
    · replace hI := hI.call ha (by omega) hg2
      clear ha hg2
      have x1 := hI.st.cell 1 rfl
      have x2 := hI.st.cell 2 rfl
      have x3 := hI.st.cell 3 rfl
      have z1 := hI.st.free 1
      have z2 := hI.st.free 2
      have z3 := hI.st.free 3
      have hI3 := ((hI.set 1 (.int .i64 2)).set 2 (.int .i64 0)).set 3 (.int .i64 1099511627776)
      clear hI
      go_wp2_with fail
      generalize ((w2.setCell ⟨gs, 1, none⟩ (.int .i64 2)).setCell ⟨gs, 2, none⟩ (.int .i64 0)).setCell ⟨gs, 3, none⟩ (.int .i64 1099511627776) = w3 at hI3 ⊢
      clear x1 x2 x3 z1 z2 z3
      refine at_ahead hI3.at_ 0 2 (by omega) _ [70, 82, 79, 77] rfl HR (fun b w4 hx4 HR ha hg4 => ?_)
      replace hI3 := hI3.call ha (Nat.le_refl _) hg4
      clear hx4 hg4 ha
      rcases b with _ | _
      · go_wp2_with fail
        go_ret
        exact SPost.mkOk HR.out.symm hI3.at_ hI3.ij ⟨rfl, hI3.st, hI3.fr, hI3.sz⟩
      · have HR : Hid ((pPeriod >>= fun q => (pure (true, { a with mode := 2, valid := q }) : P (Bool × Stm))) (cores T) (i + 1) d = r) := HR
        go_wp2_with fail
        refine at_call (period_call p v T _ n _ w4 hI3.at_.st) hI3.at_ HR (fun q j5 d5 val w5 HR hv ha hij5 hg5 => ?_) (fun j c w' hr hg => ⟨rfl, SPost.failed hr.out hg⟩)
        obtain rfl := hv
        replace hI3 := hI3.call ha hij5 hg5
        clear ha hg5
        have x2 := hI3.st.cell 2 rfl
        have x3 := hI3.st.cell 3 rfl
        have z2 := hI3.st.free 2
        have z3 := hI3.st.free 3
        have hI5 := (hI3.set 2 (.int .i64 (q.1 : Int))).set 3 (.int .i64 (q.2 : Int))
        go_wp2_with fail
        go_ret
        exact SPost.mkOk HR.out.symm hI5.at_ hI5.ij ⟨rfl, hI5.st, hI5.fr, hI5.sz⟩
    · replace hI := hI.call ha (by omega) hg2
      clear ha hg2
      go_wp2_with fail
      refine at_word hI.at_ _ [78, 79, 78, 83, 69, 81, 85, 69, 78, 67, 69, 68] rfl HR (fun w3 HR ha hg3 => ?_) (fun w3 HR ha hg3 => ?_)
      · replace hI := hI.call ha (by omega) hg3
        clear ha hg3
        have x1 := hI.st.cell 1 rfl
        have z1 := hI.st.free 1
        have hI5 := hI.set 1 (.int .i64 3)
        go_wp2_with fail
        go_ret
        exact SPost.mkOk HR.out.symm hI5.at_ hI5.ij ⟨rfl, hI5.st, hI5.fr, hI5.sz⟩
      · replace hI := hI.call ha (by omega) hg3
        clear ha hg3
        go_wp2_with fail
        go_ret
        exact SPost.mkOk HR.out.symm hI.at_ hI.ij ⟨rfl, hI.st, hI.fr, hI.sz⟩
set_option maxHeartbeats 8000000 in
set_option maxRecDepth 100000 in
theorem where_call (m : Nat) (w0 : World) (p : Nat) (v : Value) (T : List Tok) (n gs : Nat) (pre post : List Value) (hpre : pre.length = 30) (w : World) (i : Nat) (d : Bool) (ha : At w0 w p v T i n d) (hb : Blk w gs (pre ++ (.bool false :: (zeroE7 ++ post))) 57) (h0 : w0.heap.size ≤ gs) (hm : 3 * (T.length - i) + 3 ≤ m) :
    Calls Tryz.prog 64 #[.pointer (some ⟨p, 0, none⟩), .pointer (some ⟨gs, 0, none⟩)] w (SPost w0 p v T i n (pWhere m (cores T) i d) fun x val w' => val = .tuple #[] ∧ ∃ es, Blk w' gs (pre ++ (.bool x.1 :: (es ++ post))) 57 ∧ ERep w' (Fp w.heap.size []) x.2 es ∧ Fr w.heap.size gs p w w' ∧ w.heap.size ≤ w'.heap.size) := by
  obtain ⟨r, hr⟩ : ∃ r, pWhere m (cores T) i d = r := ⟨_, rfl⟩
  rw [hr]
  unfold pWhere at hr
  have HR := Lib.hid hr
  have hI := SI.start ha hb h0
  have hlt := hb.lt
  clear hr ha hb
  go_enter Tryz.func64, Tryz.ntmps64
  go_wp2_with fail
  refine at_word hI.at_ _ [87, 72, 69, 82, 69] rfl HR (fun w1 HR ha hg1 => ?_) (fun w1 HR ha hg1 => ?_)
  · replace hI := hI.call ha (by omega) hg1
    have hs1 := hg1.size
    clear ha hg1
    go_wp2_with fail
    refine at_call (expr_call m p v T n w1 _ _ hI.at_.st (by omega)) hI.at_ HR (fun e j2 d2 val w2 HR hv ha hij2 hg2 => ?_) (fun j c w' hr hg => ⟨rfl, SPost.failed hr.out hg⟩)
    obtain ⟨es, rfl, hre⟩ := hv
    have HL := Lib.hid (goodE.len hre)
    have HE := Lib.hid (goodE.made (base := w.heap.size) (L := []) hre hs1 (by simp))
    replace hI := hI.call ha hij2 hg2
    clear ha hg2 hre
    have x30 := hI.st.cell 30 (u := .bool false) (by rw [List.getElem?_append_right (by omega)]; simp [hpre])
    have z30 := hI.st.free 30
    have e30 : (pre ++ (Value.bool false :: (zeroE7 ++ post))).set 30 (.bool true) = (pre ++ [.bool true]) ++ (zeroE7 ++ post) := by rw [List.set_append_right _ _ (by omega)]; simp [hpre]
    have hI3 := hI.set 30 (.bool true)
    rw [e30] at hI3
    have HE3 := Lib.hid (goodE.kept HE.out fun q hq hl => (only_setCell (World.grownBy.refl w2 (some gs)) 30 (.bool true)).block q hl (fun e => by injection e with e; have := hq.1; omega))
    have hp31 : (pre ++ [Value.bool true]).length = 31 := by simp [hpre]
    clear e30
    go_wp2_with (refine store_part rfl 34 (.tmp 13) (.tmp 9) rfl gs 31 es rfl rfl 57 (pre ++ [.bool true]) zeroE7 post hI3.st hp31 (by rw [HL.out]; rfl) (by rw [HL.out]; kernel_rfl) (goodE.one HE3.out) ?_)
    intro w4 hX4 hg4 hz4
    have hI4 := hI3.put hg4 hX4
    have HE4 := Lib.hid (goodE.kept HE3.out fun q hq hl => hg4.block q hl (fun e => by injection e with e; have := hq.1; omega))
    clear hX4 hg4 hz4 x30 z30
    go_wp2_with fail
    go_end0
    exact SPost.mkOk HR.out.symm hI4.at_ hI4.ij ⟨rfl, es, by simpa using hI4.st, HE4.out, hI4.fr, hI4.sz⟩
  · replace hI := hI.call ha (by omega) hg1
    clear ha hg1
    go_wp2_with fail
    go_end0
    exact SPost.mkOk HR.out.symm hI.at_ hI.ij ⟨rfl, zeroE7, hI.st, zeroE_rep _ _, hI.fr, hI.sz⟩
end Go.Proofs.YtpmncgbpbcgfaaaGreatDoor
