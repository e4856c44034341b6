import Derived.Test.YtpmncgbpbcgfaaaGreatDoorSxA
import Derived.Test.YtpmncgbpbcgfaaaGreatDoorSxR
import Derived.Deep.MidRow
import Derived.StillTailTactics
import Derived.BigQuiet
/-
  A walk through a parser's function: what is kept from its entry (world w0) on; blocks of its own; whole structs in and out of them.
-/
namespace Go.Proofs.YtpmncgbpbcgfaaaGreatDoor
open Go.RowKit
set_option linter.unusedVariables false
set_option linter.unusedSimpArgs false

/-- the parser in world w, behind the entry's world w0 -/
structure At (w0 w : World) (p : Nat) (v : Value) (T : List Tok) (i n : Nat) (d : Bool) : Prop where
  st : St w p v T i n d
  gr : w0.grownBy w (some p)
  hp : p < w0.heap.size
  hv : ∀ g, v.ownBlock = some g → g < w0.heap.size
theorem St.tokLt {w : World} {p : Nat} {v : Value} {T : List Tok} {i n : Nat} {d : Bool} (h : St w p v T i n d) : ∀ g, v.ownBlock = some g → g < w.heap.size := fun g hg => by
  obtain ⟨b, ho⟩ := h.tk.own
  exact (ho.lt g hg).2
/-- a block of the walk's own -/
def Blk (w : World) (g : Nat) (cs : List Value) (t : TypeId) : Prop := w.heap[g]? = some (.cells cs.toArray t (0, 0))
section
variable {w0 w w' : World} {p : Nat} {v : Value} {T : List Tok} {i j n : Nat} {d d' : Bool} {g : Nat} {cs : List Value} {t : TypeId}
theorem At.start (h : St w p v T i n d) : At w w p v T i n d := ⟨h, World.grownBy.refl _ _, h.ps.lt, h.tokLt⟩
theorem At.call (h : At w0 w p v T i n d) (hg : w.grownBy w' (some p)) (hs : St w' p v T j n d') : At w0 w' p v T j n d' := ⟨hs, grown_trans h.gr hg, h.hp, h.hv⟩
theorem At.drewN (h : At w0 w p v T i n d) (k : Nat) : At w0 (w.drewN k) p v T i n d := ⟨h.st.drewN k, only_drewN h.gr k, h.hp, h.hv⟩
theorem At.alloc (h : At w0 w p v T i n d) (o : Obj) : At w0 (w.alloc o) p v T i n d := ⟨h.st.alloc o, grown_below h.gr ((Below.refl _ _).alloc (Nat.le_refl _) _), h.hp, h.hv⟩
theorem At.below (h : At w0 w p v T i n d) (hb : Below w.heap.size w w') : At w0 w' p v T i n d := ⟨h.st.below hb, grown_below h.gr hb, h.hp, h.hv⟩
theorem At.step1 (h : At w0 w p v T i n d) (hi : i < T.length) : At w0 (w.setCell ⟨p, 1, none⟩ (.int .i64 ((i : Int) + 1))) p v T (i + 1) n d := ⟨h.st.step1 hi, only_setCell h.gr 1 _, h.hp, h.hv⟩
theorem At.setDeep (h : At w0 w p v T i n d) (b : Bool) : At w0 (w.setCell ⟨p, 3, none⟩ (.bool b)) p v T i n b := ⟨h.st.setDeep b, only_setCell h.gr 3 _, h.hp, h.hv⟩
/-- a store into a block that came to be behind the entry -/
theorem At.own (h : At w0 w p v T i n d) (hg : w.grownBy w' (some g)) (hb : w0.heap.size ≤ g) : At w0 w' p v T i n d := by
  have hne : ∀ q, q < w0.heap.size → some q ≠ some g := fun q hq e => by injection e; omega
  have hpw : p < w.heap.size := h.st.ps.lt
  refine ⟨⟨(hg.block p hpw (hne p h.hp)).trans h.st.ps, ⟨?_, h.st.tk.ne, h.st.tk.len, h.st.tk.ok⟩, h.st.le⟩, ?_, h.hp, h.hv⟩
  · obtain ⟨b, ho⟩ := h.st.tk.own
    exact ⟨b, ho.kept hg (.inr fun e => hne g (h.hv g e) rfl)⟩
  · exact ⟨hg.os.trans h.gr.os, hg.tape.trans h.gr.tape, hg.output.trans h.gr.output, Nat.le_trans h.gr.size hg.size, fun b hb' hbp => (hg.block b (Nat.lt_of_lt_of_le hb' h.gr.size) (hne b hb')).trans (h.gr.block b hb' hbp)⟩
theorem At.le (h : At w0 w p v T i n d) : w0.heap.size ≤ w.heap.size := h.gr.size
theorem Blk.new (w : World) (cs : List Value) (t : TypeId) : Blk (w.alloc (.cells cs.toArray t)) w.heap.size cs t := heap_alloc_new w _
theorem Blk.lt (h : Blk w g cs t) : g < w.heap.size := by
  rcases Nat.lt_or_ge g w.heap.size with hlt | hge
  · exact hlt
  · unfold Blk at h; rw [Array.getElem?_eq_none hge] at h; cases h
theorem Blk.grown {q : Nat} (h : Blk w g cs t) (hg : w.grownBy w' (some q)) (hne : g ≠ q) : Blk w' g cs t := (hg.block g h.lt (by simpa using hne)).trans h
theorem Blk.below (h : Blk w g cs t) (hb : Below w.heap.size w w') : Blk w' g cs t := (hb.block _ h.lt).trans h
theorem Blk.alloc (h : Blk w g cs t) (o : Obj) : Blk (w.alloc o) g cs t := h.below ((Below.refl _ _).alloc (Nat.le_refl _) _)
theorem Blk.drewN (h : Blk w g cs t) (k : Nat) : Blk (w.drewN k) g cs t := h
theorem Blk.cell (h : Blk w g cs t) (k : Nat) {u : Value} (hu : cs[k]? = some u) : w.cell? ⟨g, k, none⟩ = some u := by
  unfold Blk at h
  rw [cell_of_row w g k _ _ (0, 0) h]
  simpa using hu
theorem Blk.free (h : Blk w g cs t) (k : Nat) : w.frozen? ⟨g, k, none⟩ = false := by unfold Blk at h; simp [World.frozen?, h]
theorem Blk.set (h : Blk w g cs t) (k : Nat) (u : Value) : Blk (w.setCell ⟨g, k, none⟩ u) g (cs.set k u) t := by
  unfold Blk at h ⊢
  simp [World.setCell, Array.getElem?_modify, h]
theorem Blk.range (h : Blk w g cs t) (o m : Nat) : w.rangeAt g o ((cs.drop o).take m) := fun k u hk => by
  rw [List.getElem?_take] at hk
  split at hk
  · rw [List.getElem?_drop] at hk
    exact h.cell _ hk
  · cases hk
end
section
variable {P : Program} {ops : Array Oper} {rest : List Oper} {o : Oper} {a : Act} {w : World} {Q : Exit → Act → World → Prop}
theorem grown_setRow (w : World) (g : Nat) (cs : Array Value) : w.grownBy (w.setRow g cs) (some g) ∧ (w.setRow g cs).heap.size = w.heap.size := by
  refine ⟨⟨rfl, rfl, rfl, ?_, fun i hi hne => ?_⟩, ?_⟩
  · simp [World.setRow]
  · have : g ≠ i := fun e => hne (by rw [e])
    simp [World.setRow, Array.getElem?_modify, this]
  · simp [World.setRow]
/-- a whole struct into a block of its own: the world behind it is a name -/
theorem store_blk (hgd : o.guard = none) (ty : TypeId) (x y : Operand) (ho : o.op = .store ty x y) (g : Nat) (cs : List Value)
    (hx : a.eval x = .pointer (some ⟨g, 0, none⟩)) (hy : a.eval y = .agg cs.toArray) (t : TypeId) (old : List Value) (hg : Blk w g old t) (hi : (P.info? ty).map (·.size) = some cs.length)
    (hold : old.length = cs.length) (h1 : ∀ u ∈ cs, u.oneCell' = true)
    (h : ∀ w', Blk w' g cs t → w.grownBy w' (some g) → w'.heap.size = w.heap.size → wpList P ops Q rest (a.put o.dst undef) w') : wpList P ops Q (o :: rest) a w := by
  obtain ⟨k1, k2⟩ := grown_setRow w g cs.toArray
  refine wpList_store_row hgd ty x y ho g cs.toArray hx hy t old.toArray hg (by simpa using hi) (by simpa using hold) (all_oneCell_toArray h1) (h _ ?_ k1 k2)
  unfold Blk at hg ⊢
  simp [World.setRow, Array.getElem?_modify, hg]
end
section
variable {K : World → Prop} {w w0 : World} {p : Nat} {v : Value} {T : List Tok} {i n : Nat} {d : Bool}
/-- a new block: the world gets a name -/
theorem name_alloc {cs : List Value} {t : TypeId} (h : ∀ w', Blk w' w.heap.size cs t → Below w.heap.size w w' → w'.heap.size = w.heap.size + 1 → K w') : K (w.alloc (.cells cs.toArray t)) :=
  h _ (Blk.new w cs t) ((Below.refl _ _).alloc (Nat.le_refl _) _) (by simp)
theorem name_drew {k : Nat} (h : ∀ w', Below w.heap.size w w' → w'.heap.size = w.heap.size → K w') : K (w.drewN k) :=
  h _ ⟨rfl, rfl, rfl, Nat.le_refl _, fun _ _ => rfl⟩ rfl
theorem name_drew1 (h : ∀ w', Below w.heap.size w w' → w'.heap.size = w.heap.size → K w') : K w.drew :=
  h _ ⟨rfl, rfl, rfl, Nat.le_refl _, fun _ _ => rfl⟩ rfl
theorem name_step (ha : At w0 w p v T i n d) (hi : i < T.length) (h : ∀ w', At w0 w' p v T (i + 1) n d → w.grownBy w' (some p) → w'.heap.size = w.heap.size → K w') : K (w.setCell ⟨p, 1, none⟩ (.int .i64 ((i : Int) + 1))) :=
  h _ (ha.step1 hi) (only_setCell (World.grownBy.refl _ _) 1 _) (by simp [World.setCell])
theorem name_set {g k : Nat} {u : Value} {cs : List Value} {t : TypeId} (hb : Blk w g cs t) (h : ∀ w', Blk w' g (cs.set k u) t → w.grownBy w' (some g) → w'.heap.size = w.heap.size → K w') : K (w.setCell ⟨g, k, none⟩ u) :=
  h _ (hb.set k u) (only_setCell (World.grownBy.refl _ _) k _) (by simp [World.setCell])
end
/-- the blocks from base on, but for some -/
def Fp (base : Nat) (L : List Nat) (b : Nat) : Prop := base ≤ b ∧ b ∉ L
section
variable {α : Type} {rep : Rep α} {size : Nat} {w w' : World} {base : Nat} {L L' : List Nat} {a : α} {cs : List Value}
theorem Good.grown (G : Good rep size) {p : Nat} (h : rep w (Fp base L) a cs) (hg : w.grownBy w' (some p)) (hp : p < base) : rep w' (Fp base L) a cs :=
  G.kept h fun b hb hl => hg.block b hl (fun e => by injection e with e; have := hb.1; omega)
theorem Good.own (G : Good rep size) {g : Nat} (h : rep w (Fp base L) a cs) (hg : w.grownBy w' (some g)) (hm : g ∈ L) : rep w' (Fp base L) a cs :=
  G.kept h fun b hb hl => hg.block b hl (fun e => by injection e with e; subst e; exact hb.2 hm)
theorem Good.below (G : Good rep size) {F : Nat → Prop} (h : rep w F a cs) (hb : Below w.heap.size w w') : rep w' F a cs :=
  G.kept h fun b _ hl => hb.block b hl
/-- a new block of the walk's own -/
theorem Good.more (G : Good rep size) (h : rep w (Fp base L) a cs) {g : Nat} (hg : w.heap.size ≤ g) : rep w (Fp base (g :: L)) a cs :=
  G.mono h fun b hb hl => ⟨hb.1, by simp; exact ⟨by omega, hb.2⟩⟩
/-- what a call made: it lies behind all blocks of the walk's own -/
theorem Good.made (G : Good rep size) {B : Nat} (h : rep w (Fp B []) a cs) (hb : base ≤ B) (hL : ∀ g ∈ L, g < B) : rep w (Fp base L) a cs :=
  G.mono h fun b hb' hl => ⟨Nat.le_trans hb hb'.1, fun hm => by have := hL b hm; have := hb'.1; omega⟩
theorem Good.all (G : Good rep size) (h : rep w (Fp base L) a cs) : rep w (Fp base []) a cs := G.mono h fun b hb _ => ⟨hb.1, by simp⟩
end
/-- an expression as a value -/
def aggR {α : Type} (rep : Rep α) (base : Nat) (w : World) (v : Value) (a : α) : Prop := ∃ cs, v = .agg cs.toArray ∧ rep w (Fp base []) a cs
end Go.Proofs.YtpmncgbpbcgfaaaGreatDoor

/-
  The parser's small steps: check, take, name, need, words, instant, period.
-/
namespace Go.Proofs.YtpmncgbpbcgfaaaGreatDoor
open Go.RowKit
set_option linter.unusedVariables false
set_option linter.unusedSimpArgs false

theorem grown_of_below {w w' : World} {p : Nat} (hb : Below w.heap.size w w') : w.grownBy w' (some p) := grown_below (World.grownBy.refl _ _) hb
set_option maxHeartbeats 1000000 in
set_option maxRecDepth 100000 in
theorem check_yes (t : Tok) (c : Nat) (w : World) :
    Calls Tryz.prog 34 #[.bool true, tokV t, .int .i64 (c : Int)] w fun e w' => e = .returned (.tuple #[]) ∧ Below w.heap.size w w' := by
  unfold tokV strV
  go_enter Tryz.func34, Tryz.ntmps34
  go_wp2_with fail
  go_end0
  exact ⟨rfl, (Below.refl _ _).alloc (Nat.le_refl _) _⟩
set_option maxHeartbeats 1000000 in
set_option maxRecDepth 100000 in
theorem check_no (t : Tok) (c : Nat) (w : World) :
    Calls Tryz.prog 34 #[.bool false, tokV t, .int .i64 (c : Int)] w fun e w' => e = .panicked [{ v := failS t.at_ c, recovered := false }] ∧ Below w.heap.size w w' := by
  unfold tokV strV failS
  go_enter Tryz.func34, Tryz.ntmps34
  go_wp2_with fail
  exact ⟨rfl, rfl, (Below.refl _ _).alloc (Nat.le_refl _) _⟩
def takeR (T : List Tok) (w : World) (val : Value) (a : Nat × Core) : Prop := ∃ h : a.1 < T.length, val = tokV T[a.1] ∧ a.2 = T[a.1].core
theorem pTake_end {T : List Tok} {i kind : Nat} {d : Bool} (h : T.length ≤ i) : pTake kind (cores T) i d = .fail (wrongJ T i) (wrongC T i) := by
  unfold pTake
  rw [cores_none h]
  exact pWrong_eq T i d
theorem pTake_no {T : List Tok} {i kind : Nat} {d : Bool} (h : i < T.length) (hk : T[i].kind ≠ kind) : pTake kind (cores T) i d = .fail (wrongJ T i) (wrongC T i) := by
  unfold pTake
  rw [cores_at h]
  exact (if_neg hk).trans (pWrong_eq T i d)
theorem pTake_yes {T : List Tok} {i kind : Nat} {d : Bool} (h : i < T.length) (hk : T[i].kind = kind) : pTake kind (cores T) i d = .ok (i, T[i].core) (i + 1) d := by
  unfold pTake
  rw [cores_at h]
  exact if_pos hk
set_option maxHeartbeats 1000000 in
set_option maxRecDepth 100000 in
theorem take_call (p : Nat) (v : Value) (T : List Tok) (i n : Nat) (d : Bool) (w : World) (h : St w p v T i n d) (kind : Nat) :
    Calls Tryz.prog 67 #[.pointer (some ⟨p, 0, none⟩), .int .i64 (kind : Int)] w (PPost w p v T i n (takeR T) (pTake kind (cores T) i d)) := by
  obtain ⟨A, c, rfl, hA⟩ := h.slice
  have hl := h.tk.len
  have hle := h.le
  have ha := At.start h
  clear h
  by_cases hi : T.length ≤ i
  · have HR := Lib.hid (pTake_end (kind := kind) (d := d) hi)
    have d1 : decide ((T.length : Int) ≤ (i : Int)) = true := decide_eq_true (by omega)
    rw [HR.out]
    go_enter Tryz.func67, Tryz.ntmps67
    clear hA
    go_wp2_with fail
    refine name_alloc (K := Code.wp _ _ _ _) fun w1 hb hw1 hz1 => ?_
    replace ha := ha.below hw1
    have h0 := ha.st.ps.c0
    have h1 := ha.st.ps.c1
    go_quiet (fail)
    refine name_drew (K := Exit.then _ _ _ _) fun w2 hw2 hz2 => ?_
    replace ha := ha.below hw2
    clear h0 h1
    go_wp2_with fail
    refine wrong_use ha.st fun w3 hg3 => ?_
    exact ⟨rfl, PPost.failed rfl (grown_trans ha.gr hg3)⟩
  · obtain ⟨g, rfl⟩ := hA (by omega)
    have d1 : decide ((T.length : Int) ≤ (i : Int)) = false := decide_eq_false (by omega)
    have c2 : (i : Int) < (T.length : Int) := by omega
    have c3 : (0 : Int) ≤ (i : Int) := by omega
    clear hA
    by_cases hk : T[i].kind = kind
    · have HR := Lib.hid (pTake_yes (d := d) (show i < T.length by omega) hk)
      have HT : Hid (∀ w, takeR T w (.agg #[.int .i64 (T[i].kind : Int), .string ⟨T[i].text.toArray⟩, .int .i64 (T[i].int : Int), .int .i64 (T[i].at_ : Int)]) (i, T[i].core)) := Lib.hid (fun w => ⟨by omega, rfl, rfl⟩)
      have HK := Lib.hid hk
      rw [HR.out]
      clear hk HR
      go_enter Tryz.func67, Tryz.ntmps67
      go_wp2_with fail
      refine name_alloc (K := Code.wp _ _ _ _) fun w1 hb hw1 hz1 => ?_
      replace ha := ha.below hw1
      have h0 := ha.st.ps.c0
      have h1 := ha.st.ps.c1
      obtain ⟨t0, t1, t2, t3⟩ := ha.st.tok (k := i) (by omega)
      generalize T[i].kind = kd at t0 HK HT ⊢
      generalize T[i].text = tx at t1 HT ⊢
      generalize T[i].int = tn at t2 HT ⊢
      generalize T[i].at_ = ta at t3 HT ⊢
      obtain rfl := HK.out
      clear HK
      have c4 : ((kd : Int) != (kd : Int)) = false := by simp
      go_quiet (fail)
      refine name_drew (K := Exit.then _ _ _ _) fun w2 hw2 hz2 => ?_
      replace ha := ha.below hw2
      replace hb := hb.below hw2
      have hg2 : g < w1.heap.size := World.block_lt_of_cell? w1 _ t0
      replace t0 := (hw2.cell (p := ⟨g, i * 4, none⟩) hg2).trans t0
      replace t1 := (hw2.cell (p := ⟨g, i * 4 + 1, none⟩) hg2).trans t1
      replace t2 := (hw2.cell (p := ⟨g, i * 4 + 2, none⟩) hg2).trans t2
      replace t3 := (hw2.cell (p := ⟨g, i * 4 + 3, none⟩) hg2).trans t3
      clear h0 h1 hw1 hw2 hg2
      have h1 := ha.st.ps.c1
      have hf := ha.st.ps.free 1
      have e1 : IntKind.i64.wrap ((i : Int) + 1) = (i : Int) + 1 := by rw [IntWalk.i64_in _ (by omega)]
      go_wp2_with fail
      clear e1 h1 hf
      have hgp := ha.st.far
      have hbp : w.heap.size ≠ p := by have := ha.hp; omega
      have ht : ∀ j, (w2.setCell ⟨p, 1, none⟩ (.int .i64 ((i : Int) + 1))).cell? ⟨g, j, none⟩ = w2.cell? ⟨g, j, none⟩ := fun j => World.cell?_setCell_other _ _ _ _ (by simp <;> omega)
      replace t0 := (ht _).trans t0
      replace t1 := (ht _).trans t1
      replace t2 := (ht _).trans t2
      replace t3 := (ht _).trans t3
      replace hb : Blk (w2.setCell ⟨p, 1, none⟩ (.int .i64 ((i : Int) + 1))) w.heap.size _ _ := hb.grown (only_setCell (World.grownBy.refl _ _) 1 _) hbp
      replace ha := ha.step1 (by omega)
      clear ht
      generalize w2.setCell ⟨p, 1, none⟩ (.int .i64 ((i : Int) + 1)) = w3 at ha hb t0 t1 t2 t3 ⊢
      have h0 := ha.st.ps.c0
      have h1 : w3.cell? ⟨p, 1, none⟩ = some (.int .i64 ((i : Int) + 1)) := by have := ha.st.ps.c1; rwa [show ((i + 1 : Nat) : Int) = (i : Int) + 1 by omega] at this
      have e2 : IntKind.i64.wrap ((i : Int) + 1 - 1) = (i : Int) := by rw [IntWalk.i64_in _ (by omega)]; omega
      have e3 : IntKind.i64.wrap (i : Int) = (i : Int) := by rw [IntWalk.i64_in _ (by omega)]
      go_still_tail 11, (by kernel_rfl)
      change wpList _ _ _ _ _ (w3.drewN 1)
      replace t0 := show (w3.drewN 1).cell? _ = _ from t0
      replace t1 := show (w3.drewN 1).cell? _ = _ from t1
      replace t2 := show (w3.drewN 1).cell? _ = _ from t2
      replace t3 := show (w3.drewN 1).cell? _ = _ from t3
      replace h0 := show (w3.drewN 1).cell? _ = _ from h0
      replace h1 := show (w3.drewN 1).cell? _ = _ from h1
      replace ha := ha.drewN 1
      replace hb := hb.drewN 1
      generalize w3.drewN 1 = w4 at ha hb h0 h1 t0 t1 t2 t3 ⊢
      go_wp2_with (refine store_blk rfl 95 (.tmp 4) (.tmp 49) rfl w.heap.size [.int .i64 (kd : Int), .string ⟨tx.toArray⟩, .int .i64 (tn : Int), .int .i64 (ta : Int)] rfl rfl 95 _ hb (by kernel_rfl) rfl (tok_one ⟨kd, tx, tn, ta⟩) ?_)
      intro w5 hb5 hg5 hz5
      replace ha := ha.own hg5 (Nat.le_refl _)
      clear h0 h1 t0 t1 t2 t3 hb hg5 hz5
      go_wp2_with fail
      refine bodyPost_ret (results_cell_row Tryz.results67 _ _ w.heap.size _ _ _ _ rfl hb5 Tryz.underlying95 rfl (by kernel_rfl)) rfl ?_
      exact PPost.mkOk rfl rfl (HT.out _) ha.st (by omega) ha.gr
    · have HR := Lib.hid (pTake_no (d := d) (show i < T.length by omega) hk)
      have HK := Lib.hid hk
      rw [HR.out]
      clear hk HR
      go_enter Tryz.func67, Tryz.ntmps67
      go_wp2_with fail
      refine name_alloc (K := Code.wp _ _ _ _) fun w1 hb hw1 hz1 => ?_
      replace ha := ha.below hw1
      have h0 := ha.st.ps.c0
      have h1 := ha.st.ps.c1
      obtain ⟨t0, t1, t2, t3⟩ := ha.st.tok (k := i) (by omega)
      generalize T[i].kind = kd at t0 HK ⊢
      clear t1 t2 t3
      have c4 : ((kd : Int) != (kind : Int)) = true := by rw [bne_iff_ne]; have := HK.out; omega
      go_quiet (fail)
      refine name_drew (K := Exit.then _ _ _ _) fun w2 hw2 hz2 => ?_
      replace ha := ha.below hw2
      clear h0 h1 t0
      go_wp2_with fail
      refine wrong_use ha.st fun w3 hg3 => ?_
      exact ⟨rfl, PPost.failed rfl (grown_trans ha.gr hg3)⟩
theorem tok_f0 (a b c d : Value) (w : World) : (Instr.field 95 (.agg #[a, b, c, d]) 0).run Tryz.prog w = .ok a w := by kernel_rfl
theorem tok_f1 (a b c d : Value) (w : World) : (Instr.field 95 (.agg #[a, b, c, d]) 1).run Tryz.prog w = .ok b w := by kernel_rfl
theorem tok_f2 (a b c d : Value) (w : World) : (Instr.field 95 (.agg #[a, b, c, d]) 2).run Tryz.prog w = .ok c w := by kernel_rfl
theorem tok_f3 (a b c d : Value) (w : World) : (Instr.field 95 (.agg #[a, b, c, d]) 3).run Tryz.prog w = .ok d w := by kernel_rfl
/-- a taken token, as the walk has it -/
theorem take_use {w : World} {p : Nat} {v : Value} {T : List Tok} {i n : Nat} {d : Bool} {Q : Ending → World → Prop} (h : St w p v T i n d) (kind : Nat)
    (hok : ∀ w' (hi : i < T.length), T[i].kind = kind → pTake kind (cores T) i d = .ok (i, T[i].core) (i + 1) d → St w' p v T (i + 1) n d → w.grownBy w' (some p) → Q (.returned (tokV T[i])) w')
    (hfail : ∀ w', pTake kind (cores T) i d = .fail (wrongJ T i) (wrongC T i) → w.grownBy w' (some p) → Q (failE T n (wrongJ T i) (wrongC T i)) w') :
    Calls Tryz.prog 67 #[.pointer (some ⟨p, 0, none⟩), .int .i64 (kind : Int)] w Q := by
  refine PPost.use (take_call p v T i n d w h kind) ?_ ?_
  · intro a j d' val w' hr hv hs hij hg
    obtain ⟨hlt, rfl, h2⟩ := hv
    by_cases hi : i < T.length
    · by_cases hk : T[i].kind = kind
      · rw [pTake_yes hi hk] at hr
        cases hr
        exact hok w' hi hk (pTake_yes hi hk) hs hg
      · rw [pTake_no hi hk] at hr; cases hr
    · rw [pTake_end (by omega)] at hr; cases hr
  · intro j c w' hr hg
    by_cases hi : i < T.length
    · by_cases hk : T[i].kind = kind
      · rw [pTake_yes hi hk] at hr; cases hr
      · have e := pTake_no (d := d) hi hk
        rw [e] at hr
        cases hr
        exact hfail w' e hg
    · have e := pTake_end (kind := kind) (d := d) (Nat.not_lt.1 hi)
      rw [e] at hr
      cases hr
      exact hfail w' e hg
set_option maxHeartbeats 1000000 in
set_option maxRecDepth 100000 in
theorem name_call (p : Nat) (v : Value) (T : List Tok) (i n : Nat) (d : Bool) (w : World) (h : St w p v T i n d) :
    Calls Tryz.prog 58 #[.pointer (some ⟨p, 0, none⟩)] w (PPost w p v T i n strR (pName (cores T) i d)) := by
  obtain ⟨r, hr⟩ : ∃ r, pName (cores T) i d = r := ⟨_, rfl⟩
  rw [hr]
  unfold pName at hr
  have HR := Lib.hid hr
  clear hr
  go_enter Tryz.func58, Tryz.ntmps58
  go_wp2_with fail
  refine take_use h 1 ?_ ?_
  · intro w1 hi hk hx hs hg
    have HR1 := Lib.hid (bind_ok hx HR.out)
    have hok := h.tk.ok i hi
    clear hk hx HR
    generalize T[i] = t at HR1 hok ⊢
    unfold tokV strV
    have hf1 := tok_f1
    go_wp2_with fail
    go_ret
    exact PPost.mkOk HR1.out.symm rfl ⟨rfl, hok.len⟩ hs (by omega) hg
  · intro w1 hx hg
    exact ⟨rfl, PPost.failed (bind_fail hx HR.out) hg⟩
set_option maxHeartbeats 1000000 in
set_option maxRecDepth 100000 in
theorem need_call (p : Nat) (v : Value) (T : List Tok) (i n : Nat) (d : Bool) (w : World) (h : St w p v T i n d) (s : ByteArray) (l : List UInt8) (hs : s.data.toList = l) :
    Calls Tryz.prog 61 #[.pointer (some ⟨p, 0, none⟩), .string s] w (PPost w p v T i n unitR (pNeed l (cores T) i d)) := by
  obtain ⟨r, hr⟩ : ∃ r, pNeed l (cores T) i d = r := ⟨_, rfl⟩
  rw [hr]
  unfold pNeed at hr
  have HR := Lib.hid hr
  have HS := Lib.hid hs
  clear hr hs
  go_enter Tryz.func61, Tryz.ntmps61
  go_wp2_with fail
  refine symbol_use h s l HS.out ?_ ?_
  · intro w1 hx hs hg
    have HR1 := Lib.hid (ifSymbol_yes hx HR.out)
    clear hx HR
    go_wp2_with fail
    go_end0
    exact PPost.mkOk HR1.out.symm rfl rfl hs (by omega) hg
  · intro w1 hx hs hg
    have HR1 := Lib.hid (ifSymbol_no hx HR.out)
    clear hx HR
    go_wp2_with fail
    refine wrong_use hs fun w2 hg2 => ?_
    exact ⟨rfl, PPost.wrong HR1.out (grown_trans hg hg2)⟩
end Go.Proofs.YtpmncgbpbcgfaaaGreatDoor

/-
  The parser's small steps: words, instant, period.
-/
namespace Go.Proofs.YtpmncgbpbcgfaaaGreatDoor
open Go.RowKit
set_option linter.unusedVariables false
set_option linter.unusedSimpArgs false

/-- the strings of a slice, in a block of their own -/
structure Strs (w : World) (g : Nat) (l : List (List UInt8)) (S : Nat → ByteArray) : Prop where
  cell : ∀ k, k < l.length → w.cell? ⟨g, k, none⟩ = some (.string (S k))
  text : ∀ k (h : k < l.length), (S k).data.toList = l[k]
theorem Strs.grown {w w' : World} {g p : Nat} {l : List (List UInt8)} {S : Nat → ByteArray} (h : Strs w g l S) (hg : w.grownBy w' (some p)) (hne : g ≠ p) : Strs w' g l S :=
  ⟨fun k hk => by
    have h1 := h.cell k hk
    have h2 := World.block_lt_of_cell? w _ h1
    rw [hg.cell_far _ h2 (by simpa using hne)]
    exact h1, h.text⟩
structure WordsInv (w : World) (p : Nat) (v : Value) (T : List Tok) (i n : Nat) (d : Bool) (g : Nat) (l : List (List UInt8)) (S : Nat → ByteArray) (r : R Unit) (k j : Nat) (c8 : Value) (wr : World) : Prop where
  le : k ≤ l.length
  c8 : c8 = .int .i64 (k : Int)
  st : St wr p v T j n d
  ij : i ≤ j
  gr : w.grownBy wr (some p)
  ss : Strs wr g l S
  pr : pWords (l.drop k) (cores T) j d = r
set_option maxHeartbeats 1000000 in
set_option maxRecDepth 100000 in
theorem pwords_call (p : Nat) (v : Value) (T : List Tok) (i n : Nat) (d : Bool) (w : World) (h : St w p v T i n d) (g c : Nat) (l : List (List UInt8)) (S : Nat → ByteArray) (hS : Strs w g l S) (hg : g ≠ p) (hl : l.length ≤ 1000) :
    Calls Tryz.prog 54 #[.pointer (some ⟨p, 0, none⟩), .slice (some ⟨g, 0, none⟩) l.length c] w (PPost w p v T i n unitR (pWords l (cores T) i d)) := by
  obtain ⟨r, hr⟩ : ∃ r, pWords l (cores T) i d = r := ⟨_, rfl⟩
  rw [hr]
  have HR := Lib.hid hr
  clear hr
  go_enter Tryz.func54, Tryz.ntmps54
  go_wp2_with fail
  go_loopw [8] (fun c8 wr => ∃ k j, WordsInv w p v T i n d g l S r k j c8 wr) (fun c8 _ => l.length - (intOf c8).toNat)
  case atStart => exact ⟨0, i, ⟨Nat.zero_le _, rfl, h, Nat.le_refl _, World.grownBy.refl _ _, hS, HR.out⟩⟩
  case round =>
    obtain ⟨k, j, ⟨hk, rfl, hs, hij, hgr, hss, hr⟩⟩ := hrel
    have HR1 := Lib.hid hr
    have HT := Lib.hid hss.text
    have HC := Lib.hid hss.cell
    clear hr HR hS h
    by_cases hlt : k < l.length
    · have hc := HC.out k hlt
      have c1 : (k : Int) < (l.length : Int) := by omega
      have c2 : (0 : Int) ≤ (k : Int) := by omega
      have HR2 : Hid ((pWord l[k] >>= fun b => if b = true then pWords (l.drop (k + 1)) else pWrong) (cores T) j d = r) := Lib.hid (by rw [← HR1.out, List.drop_eq_getElem_cons hlt]; rfl)
      clear HR1
      go_wp2_with fail
      refine word_use hs (S k) l[k] (HT.out k hlt) ?_ ?_
      · intro w1 hx hs1 hg1
        have HR3 := Lib.hid (ifWord_yes hx HR2.out)
        clear hx HR2 hc
        go_wp2_with fail
        go_roundw
        case rel => exact ⟨k + 1, j + 1, ⟨by omega, by go_num, hs1, by omega, grown_trans hgr hg1, hss.grown hg1 hg, HR3.out⟩⟩
        case measure => simp [intOf]; omega
      · intro w1 hx hs1 hg1
        have HR3 := Lib.hid (ifWord_no hx HR2.out)
        clear hx HR2 hc
        go_wp2_with fail
        refine wrong_use hs1 fun w2 hg2 => ?_
        exact ⟨rfl, PPost.wrong HR3.out (grown_trans hgr (grown_trans hg1 hg2))⟩
    · obtain rfl : k = l.length := by omega
      have HR2 : Hid (r = .ok () j d) := Lib.hid (by rw [← HR1.out, List.drop_length]; rfl)
      clear HR1
      go_wp2_with fail
      go_end0
      exact PPost.mkOk HR2.out rfl rfl hs hij hgr
end Go.Proofs.YtpmncgbpbcgfaaaGreatDoor

/-
  The parser's small steps: instant, period.
-/
namespace Go.Proofs.YtpmncgbpbcgfaaaGreatDoor
open Go.RowKit
set_option linter.unusedVariables false
set_option linter.unusedSimpArgs false

section
variable {w : World} {p : Nat} {v : Value} {T : List Tok} {i n : Nat} {d : Bool} {Q : Ending → World → Prop} {l : List UInt8}
theorem words1_yes (h : aheadB (cores T) i 0 2 l = true) : pWords [l] (cores T) i d = .ok () (i + 1) d := by
  show P.bind (pWord l) _ (cores T) i d = _
  unfold P.bind
  rw [pWord_yes h]
  rfl
theorem words1_no (h : aheadB (cores T) i 0 2 l = false) : pWords [l] (cores T) i d = .fail (wrongJ T i) (wrongC T i) := by
  show P.bind (pWord l) _ (cores T) i d = _
  unfold P.bind
  rw [pWord_no h]
  exact pWrong_eq T i d
/-- one word that must come next -/
theorem words1_use {g c : Nat} {s : ByteArray} {t : TypeId} (h : St w p v T i n d) (hb : Blk w g [.string s] t) (hg : g ≠ p) (l : List UInt8) (hs : s.data.toList = l)
    (hok : ∀ w', pWords [l] (cores T) i d = .ok () (i + 1) d → St w' p v T (i + 1) n d → w.grownBy w' (some p) → Q (.returned (.tuple #[])) w')
    (hfail : ∀ w', pWords [l] (cores T) i d = .fail (wrongJ T i) (wrongC T i) → w.grownBy w' (some p) → Q (failE T n (wrongJ T i) (wrongC T i)) w') :
    Calls Tryz.prog 54 #[.pointer (some ⟨p, 0, none⟩), .slice (some ⟨g, 0, none⟩) 1 c] w Q := by
  have hS : Strs w g [l] (fun _ => s) := ⟨fun k hk => by
    obtain rfl : k = 0 := by simpa using hk
    exact hb.cell 0 rfl, fun k hk => by
    obtain rfl : k = 0 := by simpa using hk
    exact hs⟩
  refine PPost.use (pwords_call p v T i n d w h g c [l] (fun _ => s) hS hg (by simp)) ?_ ?_
  · intro a j d' val w' hr hv hst hij hg
    rcases ha : aheadB (cores T) i 0 2 l with _ | _
    · rw [words1_no ha] at hr; cases hr
    · have e := words1_yes (d := d) ha
      rw [e] at hr
      cases hr
      cases hv
      exact hok w' e hst hg
  · intro j c w' hr hg
    rcases ha : aheadB (cores T) i 0 2 l with _ | _
    · have e := words1_no (d := d) ha
      rw [e] at hr
      cases hr
      exact hfail w' e hg
    · rw [words1_yes ha] at hr; cases hr
theorem check_use {t : Tok} {b : Bool} {c j : Nat} (hj : j < T.length) (ht : T[j] = t)
    (h1 : ∀ w', b = true → Below w.heap.size w w' → Q (.returned (.tuple #[])) w')
    (h0 : ∀ w', b = false → Below w.heap.size w w' → Q (failE T n j c) w') :
    Calls Tryz.prog 34 #[.bool b, tokV t, .int .i64 (c : Int)] w Q := by
  cases b
  · refine (check_no t c w).mono ?_
    rintro e w' ⟨rfl, hb⟩
    have e : posOf T n j = t.at_ := by unfold posOf; rw [List.getElem?_eq_getElem hj, ht]
    have := h0 w' rfl hb
    unfold failE at this
    rwa [e] at this
  · refine (check_yes t c w).mono ?_
    rintro e w' ⟨rfl, hb⟩
    exact h1 w' rfl hb
end
set_option maxHeartbeats 1000000 in
set_option maxRecDepth 100000 in
theorem instant_call (p : Nat) (v : Value) (T : List Tok) (i n : Nat) (d : Bool) (w : World) (h : St w p v T i n d) :
    Calls Tryz.prog 55 #[.pointer (some ⟨p, 0, none⟩)] w (PPost w p v T i n natR (pInstant (cores T) i d)) := by
  obtain ⟨r, hr⟩ : ∃ r, pInstant (cores T) i d = r := ⟨_, rfl⟩
  rw [hr]
  unfold pInstant at hr
  have HR := Lib.hid hr
  clear hr
  go_enter Tryz.func55, Tryz.ntmps55
  go_wp2_with fail
  refine take_use h 3 ?_ ?_
  · intro w1 hi hk hx hs hg
    have HR1 := Lib.hid (bind_ok hx HR.out)
    clear hk hx HR h
    have HT : Hid (∃ t, T[i] = t) := Lib.hid ⟨_, rfl⟩
    obtain ⟨t, ht⟩ := HT.out
    rw [ht] at HR1 ⊢
    have HT := Lib.hid ht
    clear ht
    unfold tokV strV
    have hf2 := tok_f2
    go_wp2_with fail
    refine name_alloc (K := fun W => Calls _ _ _ W _) fun w2 hb hw2 hz2 => ?_
    have ha := (At.start hs).below hw2
    clear hs
    refine check_use (n := n) hi HT.out ?_ ?_
    · intro w3 hc hw3
      have HC := Lib.hid hc
      have ha3 := ha.below hw3
      have hb3 := hb.below hw3
      have c2 := hb3.cell 2 rfl
      have HR2 : Hid (r = .ok t.int (i + 1) d) := Lib.hid (by
        rw [← HR1.out]
        show P.bind (pCheck (decide (t.int < forever)) i 6) _ (cores T) (i + 1) d = _
        unfold P.bind pCheck forever
        rw [if_pos (by have := of_decide_eq_true HC.out; rw [decide_eq_true (by omega)])]
        rfl)
      clear hc HR1
      go_wp2_with fail
      go_ret
      exact PPost.mkOk HR2.out rfl rfl ha3.st (by omega) (grown_trans hg ha3.gr)
    · intro w3 hc hw3
      have HR2 : Hid (r = .fail i 6) := Lib.hid (by
        rw [← HR1.out]
        show P.bind (pCheck (decide (t.int < forever)) i 6) _ (cores T) (i + 1) d = _
        unfold P.bind pCheck forever
        rw [if_neg (by have := of_decide_eq_false hc; rw [decide_eq_false (by omega)]; decide)])
      exact ⟨rfl, PPost.failed HR2.out (grown_trans hg (ha.below hw3).gr)⟩
  · intro w1 hx hg
    exact ⟨rfl, PPost.failed (bind_fail hx HR.out) hg⟩
end Go.Proofs.YtpmncgbpbcgfaaaGreatDoor

/-
  Calls of the parser's steps in a walk: the plain parse moves on, the world gets a name.
-/
namespace Go.Proofs.YtpmncgbpbcgfaaaGreatDoor
open Go.RowKit
set_option linter.unusedVariables false
set_option linter.unusedSimpArgs false

theorem pCheck_yes {C : List Core} {i j c : Nat} {d : Bool} {b : Bool} (h : b = true) : pCheck b j c C i d = .ok () i d := by unfold pCheck; rw [if_pos h]
theorem pCheck_no {C : List Core} {i j c : Nat} {d : Bool} {b : Bool} (h : b = false) : pCheck b j c C i d = .fail j c := by unfold pCheck; rw [if_neg (by rw [h]; decide)]
theorem dec_forever (a : Nat) : decide ((a : Int) < 1099511627776) = decide (a < forever) := by
  unfold forever
  rw [Bool.eq_iff_iff, decide_eq_true_iff, decide_eq_true_iff]
  omega
theorem dec_lt (a b : Nat) : decide ((a : Int) < (b : Int)) = decide (a < b) := by
  rw [Bool.eq_iff_iff, decide_eq_true_iff, decide_eq_true_iff]
  omega
theorem dec_nat {a b : Nat} {x : Bool} (h : decide ((a : Int) < (b : Int)) = x) : decide (a < b) = x := by rw [← h]; congr 1; simp
section
variable {K : World → Prop} {w : World}
theorem name_allocDrew {cs : List Value} {t : TypeId} (h : ∀ w', Blk w' w.heap.size cs t → Below w.heap.size w w' → w'.heap.size = w.heap.size + 1 → K w') : K ((w.alloc (.cells cs.toArray t)).drew) := by
  have hb : Below w.heap.size w ((w.alloc (.cells cs.toArray t)).drew) := ((Below.refl _ _).alloc (Nat.le_refl _) _).drew
  exact h _ (Blk.new w cs t) hb (by show (w.alloc (.cells cs.toArray t)).heap.size = _; simp)
theorem name_alloc2 {cs1 cs2 : List Value} {t1 t2 : TypeId} (h : ∀ w', Blk w' w.heap.size cs1 t1 → Blk w' (w.heap.size + 1) cs2 t2 → Below w.heap.size w w' → w'.heap.size = w.heap.size + 1 + 1 → K w') : K ((w.alloc (.cells cs1.toArray t1)).alloc (.cells cs2.toArray t2)) := by
  refine h _ ((Blk.new w cs1 t1).alloc _) ?_ (((Below.refl _ _).alloc (Nat.le_refl _) _).alloc (by simp) _) (by simp)
  have := Blk.new (w.alloc (.cells cs1.toArray t1)) cs2 t2
  rwa [show (w.alloc (.cells cs1.toArray t1)).heap.size = w.heap.size + 1 by simp] at this
theorem name_alloc3 {cs1 cs2 cs3 : List Value} {t1 t2 t3 : TypeId} (h : ∀ w', Blk w' w.heap.size cs1 t1 → Blk w' (w.heap.size + 1) cs2 t2 → Blk w' (w.heap.size + 1 + 1) cs3 t3 → Below w.heap.size w w' → w'.heap.size = w.heap.size + 1 + 1 + 1 → K w') : K (((w.alloc (.cells cs1.toArray t1)).alloc (.cells cs2.toArray t2)).alloc (.cells cs3.toArray t3)) := by
  refine h _ (((Blk.new w cs1 t1).alloc _).alloc _) ?_ ?_ ((((Below.refl _ _).alloc (Nat.le_refl _) _).alloc (by simp) _).alloc (by simp; omega) _) (by simp)
  · have := Blk.new (w.alloc (.cells cs1.toArray t1)) cs2 t2
    rw [show (w.alloc (.cells cs1.toArray t1)).heap.size = w.heap.size + 1 by simp] at this
    exact this.alloc _
  · have := Blk.new ((w.alloc (.cells cs1.toArray t1)).alloc (.cells cs2.toArray t2)) cs3 t3
    rwa [show ((w.alloc (.cells cs1.toArray t1)).alloc (.cells cs2.toArray t2)).heap.size = w.heap.size + 1 + 1 by simp] at this
end
section
variable {α β : Type} {w0 w : World} {p : Nat} {v : Value} {T : List Tok} {i n : Nat} {d : Bool} {Q : Ending → World → Prop} {r : R β}
/-- a call whose contract is a parse, in a chain -/
theorem at_call {x : P α} {f : α → P β} {fn : FuncId} {args : Array Value} {rep : World → Value → α → Prop} (hc : Calls Tryz.prog fn args w (PPost w p v T i n rep (x (cores T) i d))) (ha : At w0 w p v T i n d) (HR : Hid ((x >>= f) (cores T) i d = r))
    (hok : ∀ a j d' val w', Hid (f a (cores T) j d' = r) → rep w' val a → At w0 w' p v T j n d' → i ≤ j → w.grownBy w' (some p) → Q (.returned val) w')
    (hfail : ∀ j c w', Hid (r = .fail j c) → w0.grownBy w' (some p) → Q (failE T n j c) w') : Calls Tryz.prog fn args w Q :=
  PPost.use hc (fun a j d' val w' hr hv hs hij hg => hok a j d' val w' (Lib.hid (bind_ok hr HR.out)) hv (ha.call hg hs) hij hg) fun j c w' hr hg => hfail j c w' (Lib.hid (bind_fail hr HR.out)) (grown_trans ha.gr hg)
/-- a call whose contract is a parse, the last of a chain -/
theorem at_last {x : P β} {fn : FuncId} {args : Array Value} {rep : World → Value → β → Prop} (hc : Calls Tryz.prog fn args w (PPost w p v T i n rep (x (cores T) i d))) (ha : At w0 w p v T i n d) (HR : Hid (x (cores T) i d = r))
    (hok : ∀ a j d' val w', Hid (r = .ok a j d') → rep w' val a → At w0 w' p v T j n d' → i ≤ j → w.grownBy w' (some p) → Q (.returned val) w')
    (hfail : ∀ j c w', Hid (r = .fail j c) → w0.grownBy w' (some p) → Q (failE T n j c) w') : Calls Tryz.prog fn args w Q :=
  PPost.use hc (fun a j d' val w' hr hv hs hij hg => hok a j d' val w' (Lib.hid (HR.out.symm.trans hr)) hv (ha.call hg hs) hij hg) fun j c w' hr hg => hfail j c w' (Lib.hid (HR.out.symm.trans hr)) (grown_trans ha.gr hg)
/-- 'if ← pWord l then A else B' -/
theorem at_word {A B : P β} (ha : At w0 w p v T i n d) (s : ByteArray) (l : List UInt8) (hs : s.data.toList = l) (HR : Hid ((pWord l >>= fun b => if b = true then A else B) (cores T) i d = r))
    (h1 : ∀ w', Hid (A (cores T) (i + 1) d = r) → At w0 w' p v T (i + 1) n d → w.grownBy w' (some p) → Q (.returned (.bool true)) w')
    (h0 : ∀ w', Hid (B (cores T) i d = r) → At w0 w' p v T i n d → w.grownBy w' (some p) → Q (.returned (.bool false)) w') :
    Calls Tryz.prog 53 #[.pointer (some ⟨p, 0, none⟩), .string s] w Q :=
  word_use ha.st s l hs (fun w' hx hs' hg => h1 w' (Lib.hid (ifWord_yes hx HR.out)) (ha.call hg hs') hg) fun w' hx hs' hg => h0 w' (Lib.hid (ifWord_no hx HR.out)) (ha.call hg hs') hg
theorem at_symbol {A B : P β} (ha : At w0 w p v T i n d) (s : ByteArray) (l : List UInt8) (hs : s.data.toList = l) (HR : Hid ((pSymbol l >>= fun b => if b = true then A else B) (cores T) i d = r))
    (h1 : ∀ w', Hid (A (cores T) (i + 1) d = r) → At w0 w' p v T (i + 1) n d → w.grownBy w' (some p) → Q (.returned (.bool true)) w')
    (h0 : ∀ w', Hid (B (cores T) i d = r) → At w0 w' p v T i n d → w.grownBy w' (some p) → Q (.returned (.bool false)) w') :
    Calls Tryz.prog 28 #[.pointer (some ⟨p, 0, none⟩), .string s] w Q :=
  symbol_use ha.st s l hs (fun w' hx hs' hg => h1 w' (Lib.hid (ifSymbol_yes hx HR.out)) (ha.call hg hs') hg) fun w' hx hs' hg => h0 w' (Lib.hid (ifSymbol_no hx HR.out)) (ha.call hg hs') hg
/-- a word's Bool, whatever is done with it -/
theorem at_wordB {f : Bool → P β} (ha : At w0 w p v T i n d) (s : ByteArray) (l : List UInt8) (hs : s.data.toList = l) (HR : Hid ((pWord l >>= f) (cores T) i d = r))
    (hok : ∀ b j w', Hid (f b (cores T) j d = r) → (b = true → i < j) → i ≤ j → At w0 w' p v T j n d → w.grownBy w' (some p) → Q (.returned (.bool b)) w') :
    Calls Tryz.prog 53 #[.pointer (some ⟨p, 0, none⟩), .string s] w Q :=
  word_use ha.st s l hs (fun w' hx hs' hg => hok true (i + 1) w' (Lib.hid (bind_ok (pWord_yes hx) HR.out)) (fun _ => Nat.lt_succ_self _) (Nat.le_succ _) (ha.call hg hs') hg) fun w' hx hs' hg => hok false i w' (Lib.hid (bind_ok (pWord_no hx) HR.out)) (fun e => by cases e) (Nat.le_refl _) (ha.call hg hs') hg
theorem at_ahead {f : Bool → P β} (ha : At w0 w p v T i n d) (k kind : Nat) (hk : k ≤ 1) (s : ByteArray) (l : List UInt8) (hs : s.data.toList = l) (HR : Hid ((pAhead k kind l >>= f) (cores T) i d = r))
    (hok : ∀ b w', aheadB (cores T) i k kind l = b → Hid (f b (cores T) i d = r) → At w0 w' p v T i n d → w.grownBy w' (some p) → Q (.returned (.bool b)) w') :
    Calls Tryz.prog 56 #[.pointer (some ⟨p, 0, none⟩), .int .i64 (k : Int), .int .i64 (kind : Int), .string s] w Q :=
  ahead_use ha.st k kind hk s l hs (fun w' hx hs' hg => hok true w' hx (Lib.hid (bind_ok (show pAhead k kind l (cores T) i d = .ok true i d by unfold pAhead; rw [hx]) HR.out)) (ha.call hg hs') hg) fun w' hx hs' hg => hok false w' hx (Lib.hid (bind_ok (show pAhead k kind l (cores T) i d = .ok false i d by unfold pAhead; rw [hx]) HR.out)) (ha.call hg hs') hg
theorem at_wrong (ha : At w0 w p v T i n d) (HR : Hid ((pWrong : P β) (cores T) i d = r)) (hfail : ∀ j c w', Hid (r = .fail j c) → w0.grownBy w' (some p) → Q (failE T n j c) w') :
    Calls Tryz.prog 32 #[.pointer (some ⟨p, 0, none⟩)] w Q :=
  wrong_use ha.st fun w' hg => hfail _ _ w' (Lib.hid (HR.out.symm.trans (pWrong_eq T i d))) (grown_trans ha.gr hg)
theorem at_words1 {g c : Nat} {s : ByteArray} {t : TypeId} {f : Unit → P β} (ha : At w0 w p v T i n d) (hb : Blk w g [.string s] t) (hg : w0.heap.size ≤ g) (l : List UInt8) (hs : s.data.toList = l) (HR : Hid ((pWords [l] >>= f) (cores T) i d = r))
    (hok : ∀ w', Hid (f () (cores T) (i + 1) d = r) → At w0 w' p v T (i + 1) n d → w.grownBy w' (some p) → Q (.returned (.tuple #[])) w')
    (hfail : ∀ j c w', Hid (r = .fail j c) → w0.grownBy w' (some p) → Q (failE T n j c) w') :
    Calls Tryz.prog 54 #[.pointer (some ⟨p, 0, none⟩), .slice (some ⟨g, 0, none⟩) 1 c] w Q :=
  words1_use ha.st hb (by have := ha.hp; omega) l hs (fun w' hx hs' hg => hok w' (Lib.hid (bind_ok hx HR.out)) (ha.call hg hs') hg) fun w' hx hg => hfail _ _ w' (Lib.hid (bind_fail hx HR.out)) (grown_trans ha.gr hg)
theorem at_need {f : Unit → P β} (ha : At w0 w p v T i n d) (s : ByteArray) (l : List UInt8) (hs : s.data.toList = l) (HR : Hid ((pNeed l >>= f) (cores T) i d = r))
    (hok : ∀ w', Hid (f () (cores T) (i + 1) d = r) → At w0 w' p v T (i + 1) n d → w.grownBy w' (some p) → Q (.returned (.tuple #[])) w')
    (hfail : ∀ j c w', Hid (r = .fail j c) → w0.grownBy w' (some p) → Q (failE T n j c) w') :
    Calls Tryz.prog 61 #[.pointer (some ⟨p, 0, none⟩), .string s] w Q := by
  refine PPost.use (need_call p v T i n d w ha.st s l hs) ?_ ?_
  · intro a j d' val w' hr hv hst hij hg
    have hx : pNeed l (cores T) i d = .ok () (i + 1) d := by
      rcases hx : aheadB (cores T) i 0 5 l with _ | _
      · exfalso
        have := bind_ok (pSymbol_no hx) hr
        simp only [Bool.false_eq_true, if_false] at this
        rw [pWrong_eq] at this
        cases this
      · have := bind_ok (pSymbol_yes hx) hr
        simp only [if_true] at this
        cases this
        exact hr
    rw [hx] at hr
    cases hr
    cases hv
    exact hok w' (Lib.hid (bind_ok hx HR.out)) (ha.call hg hst) hg
  · intro j c w' hr hg
    exact hfail j c w' (Lib.hid (bind_fail hr HR.out)) (grown_trans ha.gr hg)
theorem at_take {f : Nat × Core → P β} (ha : At w0 w p v T i n d) (kind : Nat) (HR : Hid ((pTake kind >>= f) (cores T) i d = r))
    (hok : ∀ t w' (hi : i < T.length), Hid (T[i] = t) → Hid (t.kind = kind) → TokOk t → Hid (f (i, t.core) (cores T) (i + 1) d = r) → At w0 w' p v T (i + 1) n d → w.grownBy w' (some p) → Q (.returned (tokV t)) w')
    (hfail : ∀ j c w', Hid (r = .fail j c) → w0.grownBy w' (some p) → Q (failE T n j c) w') :
    Calls Tryz.prog 67 #[.pointer (some ⟨p, 0, none⟩), .int .i64 (kind : Int)] w Q :=
  take_use ha.st kind (fun w' hi hk hx hs' hg => hok T[i] w' hi (Lib.hid rfl) (Lib.hid hk) (ha.st.tk.ok i hi) (Lib.hid (bind_ok hx HR.out)) (ha.call hg hs') hg) fun w' hx hg => hfail _ _ w' (Lib.hid (bind_fail hx HR.out)) (grown_trans ha.gr hg)
/-- a check at a token that was taken -/
theorem at_check {t : Tok} {b : Bool} {c j : Nat} {b' : Bool} {f : Unit → P β} (ha : At w0 w p v T i n d) (hj : j < T.length) (ht : Hid (T[j] = t)) (hbb : b = b') (HR : Hid ((pCheck b' j c >>= f) (cores T) i d = r))
    (hok : ∀ w', b = true → Hid (f () (cores T) i d = r) → At w0 w' p v T i n d → Below w.heap.size w w' → Q (.returned (.tuple #[])) w')
    (hfail : ∀ j c w', Hid (r = .fail j c) → w0.grownBy w' (some p) → Q (failE T n j c) w') :
    Calls Tryz.prog 34 #[.bool b, tokV t, .int .i64 (c : Int)] w Q :=
  check_use (n := n) hj ht.out (fun w' hb hw => hok w' hb (Lib.hid (bind_ok (pCheck_yes (hbb ▸ hb)) HR.out)) (ha.below hw) hw) fun w' hb hw => hfail _ _ w' (Lib.hid (bind_fail (pCheck_no (hbb ▸ hb)) HR.out)) (ha.below hw).gr
end
/-- the end of a walk -/
theorem at_ok {α : Type} {w0 w : World} {p : Nat} {v : Value} {T : List Tok} {i j n : Nat} {d : Bool} {rep : World → Value → α → Prop} {r : R α} {a : α} {val : Value} (ha : At w0 w p v T j n d) (hr : r = .ok a j d) (hv : rep w val a) (hij : i ≤ j) : PPost w0 p v T i n rep r (.returned val) w := PPost.mkOk hr rfl hv ha.st hij ha.gr
theorem At.set {w0 w : World} {p : Nat} {v : Value} {T : List Tok} {i n : Nat} {d : Bool} (ha : At w0 w p v T i n d) {g : Nat} (hg : w0.heap.size ≤ g) (k : Nat) (u : Value) : At w0 (w.setCell ⟨g, k, none⟩ u) p v T i n d :=
  ha.own (only_setCell (World.grownBy.refl _ _) k u) hg
def perR (w : World) (v : Value) (a : Nat × Nat) : Prop := v = .agg #[.int .i64 (a.1 : Int), .int .i64 (a.2 : Int)]
set_option maxHeartbeats 2000000 in
set_option maxRecDepth 100000 in
theorem period_call (p : Nat) (v : Value) (T : List Tok) (i n : Nat) (d : Bool) (w : World) (h : St w p v T i n d) :
    Calls Tryz.prog 57 #[.pointer (some ⟨p, 0, none⟩)] w (PPost w p v T i n perR (pPeriod (cores T) i d)) := by
  obtain ⟨r, hr⟩ : ∃ r, pPeriod (cores T) i d = r := ⟨_, rfl⟩
  rw [hr]
  unfold pPeriod at hr
  have HR := Lib.hid hr
  clear hr
  have ha := At.start h
  clear h
  go_enter Tryz.func57, Tryz.ntmps57
  go_wp2_with fail
  refine name_alloc2 (K := fun W => Calls _ _ _ W _) fun w1 hB hb1 hw1 hz1 => ?_
  replace ha := ha.below hw1
  refine at_words1 ha hb1 (by omega) [70, 82, 79, 77] rfl HR (fun w2 HR ha hg2 => ?_) (fun j c w' hr hg => ⟨rfl, PPost.failed hr.out hg⟩)
  have hBp : w.heap.size ≠ p := by have := ha.hp; omega
  replace hB := hB.grown hg2 hBp
  clear hb1 hw1 hz1 hg2
  go_wp2_with fail
  refine at_take ha 3 HR (fun t w3 hi HT hk hok HR ha hg3 => ?_) (fun j c w' hr hg => ⟨rfl, PPost.failed hr.out hg⟩)
  replace hB := hB.grown hg3 hBp
  clear hg3
  unfold tokV strV
  go_wp2_with fail
  refine name_alloc2 (K := fun W => Calls _ _ _ W _) fun w4 hF hb4 hw4 hz4 => ?_
  replace hB := hB.below hw4
  have h30 := ha.le
  replace ha := ha.below hw4
  refine at_words1 ha hb4 (by omega) [84, 79] rfl HR (fun w5 HR ha hg5 => ?_) (fun j c w' hr hg => ⟨rfl, PPost.failed hr.out hg⟩)
  replace hB := hB.grown hg5 hBp
  have hFp : w3.heap.size ≠ p := by have := ha.hp; omega
  replace hF := hF.grown hg5 hFp
  clear hb4 hw4 hz4 hg5
  go_wp2_with fail
  refine at_word ha _ [70, 79, 82, 69, 86, 69, 82] rfl HR (fun w6 HR ha hg6 => ?_) (fun w6 HR ha hg6 => ?_)
  · replace hB := hB.grown hg6 hBp
    replace hF := hF.grown hg6 hFp
    clear hg6
    have f0 := hF.cell 0 rfl
    have f1 := hF.cell 1 rfl
    have f2 := hF.cell 2 rfl
    have f3 := hF.cell 3 rfl
    go_wp2_with fail
    refine at_check ha hi HT (dec_forever t.int) HR (fun w7 hc HR ha hw7 => ?_) (fun j c w' hr hg => ⟨rfl, PPost.failed hr.out hg⟩)
    replace hB := hB.below hw7
    replace hF := hF.below hw7
    clear f0 f1 f2 f3 hc hw7
    have f2 := hF.cell 2 rfl
    have b0 := hB.cell 0 rfl
    have b1 := hB.cell 1 rfl
    have z0 := hB.free 0
    have z1 := hB.free 1
    go_wp2_with fail
    refine bodyPost_ret (results_cell_row Tryz.results57 _ _ w.heap.size _ _ _ _ rfl ((hB.set 0 (.int .i64 (t.int : Int))).set 1 (.int .i64 1099511627776)) Tryz.underlying23 rfl (by kernel_rfl)) rfl ?_
    exact at_ok ((ha.set (Nat.le_refl _) _ _).set (Nat.le_refl _) _ _) HR.out.symm rfl (by omega)
  · replace hB := hB.grown hg6 hBp
    replace hF := hF.grown hg6 hFp
    clear hg6
    go_wp2_with fail
    refine at_take ha 3 HR (fun u w7 hi' HT' hk' hok' HR ha hg7 => ?_) (fun j c w' hr hg => ⟨rfl, PPost.failed hr.out hg⟩)
    replace hB := hB.grown hg7 hBp
    replace hF := hF.grown hg7 hFp
    clear hg7
    have f0 := hF.cell 0 rfl
    have f1 := hF.cell 1 rfl
    have f2 := hF.cell 2 rfl
    have f3 := hF.cell 3 rfl
    unfold tokV strV
    have hf2 := tok_f2
    go_wp2_with fail
    refine at_check ha hi HT (dec_forever u.int) HR (fun w8 hc HR ha hw8 => ?_) (fun j c w' hr hg => ⟨rfl, PPost.failed hr.out hg⟩)
    replace hB := hB.below hw8
    replace hF := hF.below hw8
    clear f0 f1 f2 f3 hc hw8
    have f0 := hF.cell 0 rfl
    have f1 := hF.cell 1 rfl
    have f2 := hF.cell 2 rfl
    have f3 := hF.cell 3 rfl
    go_wp2_with fail
    refine at_check ha hi HT rfl HR (fun w9 hc HR ha hw9 => ?_) (fun j c w' hr hg => ⟨rfl, PPost.failed hr.out hg⟩)
    replace hB := hB.below hw9
    replace hF := hF.below hw9
    clear f0 f1 f2 f3 hc hw9
    have f2 := hF.cell 2 rfl
    have b0 := hB.cell 0 rfl
    have b1 := hB.cell 1 rfl
    have z0 := hB.free 0
    have z1 := hB.free 1
    go_wp2_with fail
    refine bodyPost_ret (results_cell_row Tryz.results57 _ _ w.heap.size _ _ _ _ rfl ((hB.set 0 (.int .i64 (t.int : Int))).set 1 (.int .i64 (u.int : Int))) Tryz.underlying23 rfl (by kernel_rfl)) rfl ?_
    exact at_ok ((ha.set (Nat.le_refl _) _ _).set (Nat.le_refl _) _ _) HR.out.symm rfl (by omega)
end Go.Proofs.YtpmncgbpbcgfaaaGreatDoor

/-
  Values: value.Null, Bool, Int, Text.
-/
namespace Go.Proofs.YtpmncgbpbcgfaaaGreatDoor
open Go.RowKit
set_option linter.unusedVariables false
set_option linter.unusedSimpArgs false

def vV (v : V) : Value := .agg (vCells v).toArray
def VPost (w : World) (v : V) (e : Ending) (w' : World) : Prop := e = .returned (vV v) ∧ Below w.heap.size w w'
theorem below1 (w : World) (o : Obj) : Below w.heap.size w (w.alloc o) := (Below.refl _ _).alloc (Nat.le_refl _) _
theorem below2 (w : World) (o o' : Obj) : Below w.heap.size w ((w.alloc o).alloc o') := ((Below.refl _ _).alloc (Nat.le_refl _) _).alloc (by simp) _
set_option maxHeartbeats 1000000 in
set_option maxRecDepth 100000 in
theorem null_call (w : World) : Calls Tryz.prog 123 #[] w (VPost w V.null) := by
  go_enter Tryz.func123, Tryz.ntmps123
  go_wp2_with fail
  refine bodyPost_ret (results_cell_row Tryz.results123 _ _ w.heap.size _ _ _ _ rfl (heap_alloc_new w _) Tryz.underlying31 rfl (by kernel_rfl)) rfl ?_
  exact ⟨rfl, below1 _ _⟩
set_option maxHeartbeats 1000000 in
set_option maxRecDepth 100000 in
theorem bool_call (b : Bool) (w : World) : Calls Tryz.prog 124 #[.bool b] w (VPost w (V.ofBool b)) := by
  cases b
  · go_enter Tryz.func124, Tryz.ntmps124
    go_wp2_with fail
    refine bodyPost_ret (results_cell_row Tryz.results124 _ _ w.heap.size _ _ _ _ rfl (heap_alloc2_old w _ _) Tryz.underlying31 rfl (by kernel_rfl)) rfl ?_
    exact ⟨rfl, below2 _ _ _⟩
  · go_enter Tryz.func124, Tryz.ntmps124
    go_wp2_with fail
    refine bodyPost_ret (results_cell_row Tryz.results124 _ _ w.heap.size _ _ _ _ rfl (heap_alloc2_old w _ _) Tryz.underlying31 rfl (by kernel_rfl)) rfl ?_
    exact ⟨rfl, below2 _ _ _⟩
set_option maxHeartbeats 1000000 in
set_option maxRecDepth 100000 in
theorem validInt_call (n : Int) (w : World) (h1 : -1125899906842624 ≤ n) (h2 : n ≤ 1125899906842624) : Calls Tryz.prog 144 #[.agg #[.int .i64 1, .int .i64 n, .string ⟨#[]⟩]] w fun e w' => e = .returned (.bool true) ∧ Below w.heap.size w w' := by
  go_enter Tryz.func144, Tryz.ntmps144
  go_wp2_with fail
  go_ret
  exact ⟨rfl, below1 _ _⟩
theorem not_bad {n : Nat} (h : badB n = false) : 32 ≤ n ∧ n ≤ 126 := by unfold badB at h; simp at h; omega
set_option maxHeartbeats 1000000 in
set_option maxRecDepth 100000 in
theorem printable_call (s : ByteArray) (w : World) (hs : s.size ≤ 65536) (h : ∀ c ∈ s.data.toList, badB c.toNat = false) : Calls Tryz.prog 156 #[.string s] w fun e w' => e = .returned (.bool true) ∧ w = w' := by
  have HB : Hid (∀ k (hk : k < s.size), 32 ≤ s[k].toNat ∧ s[k].toNat ≤ 126) := Lib.hid (fun k hk => not_bad (h _ (by
    have : s[k] = s.data.toList[k]'(by simpa using hk) := by simp [ByteArray.getElem_eq_getElem_data]
    rw [this]; exact List.getElem_mem _)))
  clear h
  go_enter Tryz.func156, Tryz.ntmps156
  go_wp2_with fail
  go_loop [6] (fun c6 => ∃ k : Nat, k ≤ s.size ∧ c6 = .int .i64 (k : Int)) (fun c6 => s.size - (intOf c6).toNat)
  case atStart => exact ⟨0, Nat.zero_le _, rfl⟩
  case round =>
    obtain ⟨k, hk, rfl⟩ := hrel
    by_cases hlt : k < s.size
    · have hb := HB.out k hlt
      have c1 : ¬ ((s[k].toNat : Nat) : Int) < 32 := by omega
      have c2 : ¬ (126 : Int) < ((s[k].toNat : Nat) : Int) := by omega
      have d1 : decide (((s[k].toNat : Nat) : Int) < 32) = false := decide_eq_false c1
      have d2 : decide ((126 : Int) < ((s[k].toNat : Nat) : Int)) = false := decide_eq_false c2
      clear hb
      go_wp2_with fail
      go_round
      case rel => exact ⟨k + 1, by omega, by go_num⟩
      case measure => simp [intOf]; omega
    · go_wp2_with fail
      go_ret
      exact ⟨rfl, rfl⟩
set_option maxHeartbeats 1000000 in
set_option maxRecDepth 100000 in
theorem validText_call (s : ByteArray) (w : World) (hs : s.size ≤ 200) (h : ∀ c ∈ s.data.toList, badB c.toNat = false) : Calls Tryz.prog 144 #[.agg #[.int .i64 2, .int .i64 0, .string s]] w fun e w' => e = .returned (.bool true) ∧ Below w.heap.size w w' := by
  have c1 : (s.size : Int) ≤ 200 := by omega
  have HP := Lib.hid (fun W => printable_call s W (by omega) h)
  clear h
  go_enter Tryz.func144, Tryz.ntmps144
  go_wp2_with fail
  refine (HP.out _).mono ?_
  rintro e w' ⟨rfl, rfl⟩
  go_wp2_with fail
  go_ret
  exact ⟨rfl, below1 _ _⟩
/-- a value that is valid -/
def VOk (v : V) : Prop := ∀ W, Calls Tryz.prog 144 #[vV v] W fun e w' => e = .returned (.bool true) ∧ Below W.heap.size W w'
set_option maxHeartbeats 1000000 in
set_option maxRecDepth 100000 in
theorem orNull_call (v : V) (w : World) (h : VOk v) : Calls Tryz.prog 122 #[vV v] w (VPost w v) := by
  have HP : Hid (VOk v) := Lib.hid h
  clear h
  unfold vV vCells strV
  go_enter Tryz.func122, Tryz.ntmps122
  go_wp2_with fail
  refine name_alloc2 (K := fun W => Calls _ _ _ W _) fun w1 hB hb1 hw1 hz1 => ?_
  refine (HP.out w1).mono ?_
  rintro e w2 ⟨rfl, hw2⟩
  replace hB := hB.below hw2
  replace hb1 := hb1.below hw2
  have hw := hw1.trans (hw2.mono (by omega))
  clear hw1 hz1 hw2
  have c0 := hB.cell 0 rfl
  have c1 := hB.cell 1 rfl
  have c2 := hB.cell 2 rfl
  have b0 := hb1.cell 0 rfl
  have b1 := hb1.cell 1 rfl
  have b2 := hb1.cell 2 rfl
  have z0 := hb1.free 0
  have z1 := hb1.free 1
  have z2 := hb1.free 2
  go_wp2_with fail
  refine bodyPost_ret (results_cell_row Tryz.results122 _ _ (w.heap.size + 1) _ _ _ _ rfl (((hb1.set 0 (.int .i64 (v.kind : Int))).set 1 (.int .i64 v.int)).set 2 (.string ⟨v.text.toArray⟩)) Tryz.underlying31 rfl (by kernel_rfl)) rfl ?_
  exact ⟨rfl, ((hw.setCell (by show w.heap.size ≤ w.heap.size + 1; omega) _).setCell (by show w.heap.size ≤ w.heap.size + 1; omega) _).setCell (by show w.heap.size ≤ w.heap.size + 1; omega) _⟩
theorem vok_int (n : Int) (h1 : -1125899906842624 ≤ n) (h2 : n ≤ 1125899906842624) : VOk (V.ofInt n) := fun W => validInt_call n W h1 h2
theorem vok_text (l : List UInt8) (h1 : l.length ≤ 200) (h2 : ∀ c ∈ l, badB c.toNat = false) : VOk (V.ofText l) := fun W => validText_call ⟨l.toArray⟩ W h1 h2
set_option maxHeartbeats 1000000 in
set_option maxRecDepth 100000 in
theorem int_call (n : Int) (w : World) (h1 : -1125899906842624 ≤ n) (h2 : n ≤ 1125899906842624) : Calls Tryz.prog 105 #[.int .i64 n] w (VPost w (V.ofInt n)) := by
  have HP := Lib.hid (fun W => orNull_call (V.ofInt n) W (vok_int n h1 h2))
  clear h1 h2
  go_enter Tryz.func105, Tryz.ntmps105
  go_wp2_with fail
  refine name_alloc (K := fun W => Calls _ _ _ W _) fun w1 hB hw1 hz1 => ?_
  refine (HP.out w1).mono ?_
  rintro e w2 ⟨rfl, hw2⟩
  replace hB := hB.below hw2
  have hw := hw1.trans (hw2.mono (by omega))
  clear hw1 hz1 hw2 HP
  unfold vV vCells V.ofInt strV
  have b0 := hB.cell 0 rfl
  have b1 := hB.cell 1 rfl
  have b2 := hB.cell 2 rfl
  have z0 := hB.free 0
  have z1 := hB.free 1
  have z2 := hB.free 2
  go_wp2_with fail
  refine bodyPost_ret (results_cell_row Tryz.results105 _ _ w.heap.size _ _ _ _ rfl (((hB.set 0 (.int .i64 1)).set 1 (.int .i64 n)).set 2 (.string ⟨#[]⟩)) Tryz.underlying31 rfl (by kernel_rfl)) rfl ?_
  exact ⟨rfl, ((hw.setCell (Nat.le_refl _) _).setCell (Nat.le_refl _) _).setCell (Nat.le_refl _) _⟩
set_option maxHeartbeats 1000000 in
set_option maxRecDepth 100000 in
theorem text_call (l : List UInt8) (w : World) (h1 : l.length ≤ 200) (h2 : ∀ c ∈ l, badB c.toNat = false) : Calls Tryz.prog 125 #[.string ⟨l.toArray⟩] w (VPost w (V.ofText l)) := by
  have HP := Lib.hid (fun W => orNull_call (V.ofText l) W (vok_text l h1 h2))
  clear h1 h2
  go_enter Tryz.func125, Tryz.ntmps125
  go_wp2_with fail
  refine name_alloc (K := fun W => Calls _ _ _ W _) fun w1 hB hw1 hz1 => ?_
  refine (HP.out w1).mono ?_
  rintro e w2 ⟨rfl, hw2⟩
  replace hB := hB.below hw2
  have hw := hw1.trans (hw2.mono (by omega))
  clear hw1 hz1 hw2 HP
  unfold vV vCells V.ofText strV
  have b0 := hB.cell 0 rfl
  have b1 := hB.cell 1 rfl
  have b2 := hB.cell 2 rfl
  have z0 := hB.free 0
  have z1 := hB.free 1
  have z2 := hB.free 2
  go_wp2_with fail
  refine bodyPost_ret (results_cell_row Tryz.results125 _ _ w.heap.size _ _ _ _ rfl (((hB.set 0 (.int .i64 2)).set 1 (.int .i64 0)).set 2 (.string ⟨l.toArray⟩)) Tryz.underlying31 rfl (by kernel_rfl)) rfl ?_
  exact ⟨rfl, ((hw.setCell (Nat.le_refl _) _).setCell (Nat.le_refl _) _).setCell (Nat.le_refl _) _⟩
end Go.Proofs.YtpmncgbpbcgfaaaGreatDoor
