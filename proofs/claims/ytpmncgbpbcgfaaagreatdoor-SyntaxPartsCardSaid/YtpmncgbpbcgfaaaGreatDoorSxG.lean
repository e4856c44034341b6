import Derived.Test.YtpmncgbpbcgfaaaGreatDoorSxA
import Derived.Test.YtpmncgbpbcgfaaaGreatDoorSxStmt
import Derived.Test.YtpmncgbpbcgfaaaGreatDoorPlA
/-
  Numbers and texts of tokens are within the limits.
-/
namespace Go.Proofs.YtpmncgbpbcgfaaaGreatDoor
set_option linter.unusedVariables false
set_option linter.unusedSimpArgs false

theorem textGo_ok (a : Nat) (r : List UInt8) (i : Nat) (out : List UInt8) (ho : ∀ c ∈ out, badB c.toNat = false) {t : Tok} {e : Nat} (h : textGo a r i out = .tok t e) : TokOk t := by
  have hend : ∀ (i : Nat) (out : List UInt8), (∀ c ∈ out, badB c.toNat = false) → textEnd a i out = .tok t e → TokOk t := by
    intro i out ho h
    unfold textEnd at h
    split at h
    · cases h
    · rename_i hl
      cases h
      exact ⟨Nat.zero_le _, Nat.not_lt.1 hl, fun _ => ⟨Nat.not_lt.1 hl, ho⟩⟩
  induction r, i, out using textGo.induct with
  | case1 i out => simp [textGo] at h
  | case2 i out => simp [textGo] at h; exact hend _ _ ho h
  | case3 i out r ih =>
    simp [textGo] at h
    refine ih (fun c hc => ?_) h
    rcases List.mem_append.1 hc with hc | hc
    · exact ho c hc
    · rw [List.mem_singleton.1 hc]; decide
  | case4 i out d r hd => simp [textGo, hd] at h; exact hend _ _ ho h
  | case5 c r i out hc hb => unfold textGo at h; rw [if_neg hc, if_pos hb] at h; cases h
  | case6 c r i out hc hb ih =>
    unfold textGo at h
    rw [if_neg hc, if_neg hb] at h
    refine ih (fun d hd => ?_) h
    rcases List.mem_append.1 hd with hd | hd
    · exact ho d hd
    · rw [List.mem_singleton.1 hd]; simpa using hb
theorem kw_len : keywords.all (fun l => decide (l.length ≤ 200)) = true := by decide +kernel
theorem twos_len : twos.all (fun l => decide (l.length ≤ 200)) = true := by decide +kernel
theorem scan_ok {l : List UInt8} {a : Nat} (ha : a < l.length) {t : Tok} {e : Nat} (h : scanAt l a l[a] = .tok t e) : TokOk t := by
  unfold scanAt at h
  split at h
  · unfold wordScan at h
    split at h
    · rename_i hw
      cases h
      have hm : upL (runOf wordB l a) ∈ keywords := by unfold isWord at hw; simpa using hw
      exact ⟨Nat.zero_le _, by simpa using List.all_eq_true.1 kw_len _ hm, fun h => by cases h⟩
    · split at h
      · cases h
      · split at h
        · cases h
        · rename_i h24
          cases h
          exact ⟨Nat.zero_le _, by simp only; omega, fun h => by cases h⟩
  · split at h
    · unfold numberScan at h
      split at h
      · cases h
      · split at h
        · cases h
        · rename_i hn
          cases h
          exact ⟨Nat.not_lt.1 hn, by simp, fun h => by cases h⟩
    · split at h
      · exact textGo_ok _ _ _ _ (by simp) h
      · unfold symScan at h
        split at h
        · rename_i ht
          cases h
          have hm : (l.drop a).take 2 ∈ twos := by simpa using ht
          exact ⟨Nat.zero_le _, by simpa using List.all_eq_true.1 twos_len _ hm, fun h => by cases h⟩
        · rw [List.getElem?_eq_getElem ha] at h
          simp only at h
          split at h
          · cases h; exact ⟨Nat.zero_le _, by simp, fun h => by cases h⟩
          · cases h
theorem lexes_ok {l : List UInt8} {a : Nat} {acc : List Tok} {r : Res} (h : Lexes l a acc r) : (∀ t ∈ acc, TokOk t) → ∀ T, r = .toks T → ∀ t ∈ T, TokOk t := by
  induction h with
  | fin h => intro ho T e; cases e; exact ho
  | skip h hb k ih => exact ih
  | err h hb hs => intro ho T e; cases e
  | tok h hb hs k ih =>
    intro ho T e
    refine ih (fun t ht => ?_) T e
    rcases List.mem_append.1 ht with ht | ht
    · exact ho t ht
    · rw [List.mem_singleton.1 ht]; exact scan_ok h hs
theorem lexes_len {l : List UInt8} {a : Nat} {acc : List Tok} {r : Res} (h : Lexes l a acc r) : a ≤ l.length → ∀ T, r = .toks T → T.length + a ≤ acc.length + l.length := by
  induction h with
  | fin h => intro ha T e; cases e; omega
  | skip h hb k ih => intro ha T e; have := ih (by omega) T e; omega
  | err h hb hs => intro ha T e; cases e
  | tok h hb hs k ih =>
    intro ha T e
    obtain ⟨g1, g2, _⟩ := scanAt_end h hs
    have := ih g2 T e
    simp at this
    omega
theorem comes_ok {l : List UInt8} {T : List Tok} (h : Comes_ l (.toks T)) : (∀ k (hk : k < T.length), TokOk T[k]) ∧ T.length ≤ 65536 ∧ l.length ≤ 65536 ∧ Lexes l 0 [] (.toks T) := by
  rcases h with ⟨_, h⟩ | ⟨h1, h2⟩
  · cases h
  · refine ⟨fun k hk => lexes_ok h2 (by simp) T rfl _ (List.getElem_mem hk), ?_, h1, h2⟩
    have := lexes_len h2 (Nat.zero_le _) T rfl
    simp at this
    omega
end Go.Proofs.YtpmncgbpbcgfaaaGreatDoor

/-
  The lexer's error codes are none of them 0.
-/
namespace Go.Proofs.YtpmncgbpbcgfaaaGreatDoor
open Go.RowKit
set_option linter.unusedVariables false
set_option linter.unusedSimpArgs false

theorem textGo_err (a : Nat) (r : List UInt8) (i : Nat) (out : List UInt8) {c : Nat} (h : textGo a r i out = .err c) : 0 < c ∧ c < 27 := by
  fun_induction textGo a r i out
  all_goals
    first
    | (cases h; omega)
    | (unfold textEnd at h; split at h <;> (cases h; try omega))
    | (rename_i ih; exact ih h)
    | simp_all
theorem scan_err {l : List UInt8} {a : Nat} {x : UInt8} {c : Nat} (h : scanAt l a x = .err c) : 0 < c ∧ c < 27 := by
  unfold scanAt at h
  split at h
  · unfold wordScan at h
    repeat' split at h
    all_goals (cases h <;> omega)
  · split at h
    · unfold numberScan at h
      repeat' split at h
      all_goals (cases h <;> omega)
    · split at h
      · unfold textScan at h
        exact textGo_err _ _ _ _ h
      · unfold symScan at h
        repeat' split at h
        all_goals (cases h <;> omega)
theorem lexes_err {l : List UInt8} {a : Nat} {acc : List Tok} {r : Res} (h : Lexes l a acc r) : ∀ i c, r = .err i c → 0 < c ∧ c < 27 := by
  induction h with
  | fin h => intro i c e; cases e
  | skip h hb k ih => exact ih
  | err h hb hs => intro i c e; cases e; exact scan_err hs
  | tok h hb hs k ih => exact ih
theorem comes_err {l : List UInt8} {i c : Nat} (h : Comes_ l (.err i c)) : 0 < c ∧ c < 27 := by
  rcases h with ⟨_, h⟩ | ⟨_, h⟩
  · cases h; omega
  · exact lexes_err h _ _ rfl
end Go.Proofs.YtpmncgbpbcgfaaaGreatDoor

/-
  The parser's guard: the deferred closure that recovers a failure.
-/
namespace Go.Proofs.YtpmncgbpbcgfaaaGreatDoor
open Go.RowKit
set_option linter.unusedVariables false
set_option linter.unusedSimpArgs false

theorem assert_failS (v : Value) (w : World) : (Instr.typeAssert (.iface 98 v) 20 98 true).run Tryz.prog w = .ok (.tuple #[v, .bool true]) w := by
  simp [Instr.typeAssert, run_underlying Tryz.underlying98]
theorem frame20 (a b x : Value) : (#[a, b] ++ ((Array.replicate 18 undef).setIfInBounds 3 x).setIfInBounds 0 x : Array Value) = #[a, b, x, undef, undef, x, undef, undef, undef, undef, undef, undef, undef, undef, undef, undef, undef, undef, undef, undef] := by
  apply Array.ext'
  simp [List.replicate]
/-- what the deferred function leaves where it caught a failure -/
def CaughtS (w : World) (p i c : Nat) (w' : World) : Prop := w'.cell? ⟨p, 0, none⟩ = some (.int .i64 (i : Int)) ∧ w'.cell? ⟨p + 1, 0, none⟩ = some (.int .i64 (c : Int)) ∧ Below p w w'
theorem caughtS_mk {w w1 : World} {p i c : Nat} {v0 v1 : Value} (k0 : w1.cell? ⟨p, 0, none⟩ = some v0) (k1 : w1.cell? ⟨p + 1, 0, none⟩ = some v1) (hb : Below p w w1) :
    CaughtS w p i c (((w1.setCell ⟨p, 0, none⟩ (.int .i64 (i : Int))).setCell ⟨p + 1, 0, none⟩ (.int .i64 (c : Int))).drew) := by
  have a01 : (⟨p + 1, 0, none⟩ : Addr) ≠ ⟨p, 0, none⟩ := by simp
  have b1 : (w1.setCell ⟨p, 0, none⟩ (.int .i64 (i : Int))).cell? ⟨p + 1, 0, none⟩ = some v1 := (World.cell?_setCell_other _ _ _ _ (Ne.symm a01)).trans k1
  refine ⟨?_, ?_, ?_⟩
  · exact (World.cell?_setCell_other _ _ _ _ a01).trans (World.cell?_setCell_same _ _ _ k0)
  · exact World.cell?_setCell_same _ _ _ b1
  · exact ((hb.setCell (Nat.le_refl _) _).setCell (by show p ≤ p + 1; omega) _).drew
set_option maxHeartbeats 1000000 in
set_option maxRecDepth 100000 in
theorem guard_panicking (p : Nat) (v0 v1 : Value) (i c : Nat) (w : World) (k0 : w.cell? ⟨p, 0, none⟩ = some v0) (k1 : w.cell? ⟨p + 1, 0, none⟩ = some v1)
    (z0 : w.frozen? ⟨p, 0, none⟩ = false) (z1 : w.frozen? ⟨p + 1, 0, none⟩ = false) (hp : p + 1 < w.heap.size) :
    CallsD Tryz.prog 31 #[.pointer (some ⟨p, 0, none⟩), .pointer (some ⟨p + 1, 0, none⟩)] (.panicking [{ v := failS i c, recovered := false }]) w fun e u' w' =>
      e = .returned (.tuple #[]) ∧ u' = .panicking [{ v := failS i c, recovered := true }] ∧ CaughtS w p i c w' := by
  unfold failS
  have hta := assert_failS
  have hnot : ∀ (x : Bool) (w : World), (Op.unary .not (.bool x)).run Tryz.prog w = .ok (.bool (!x)) w := fun _ _ => rfl
  refine callsD_of_wpS Tryz.func31 rfl fun c₀ cs hu => ?_
  apply wpS_seq
  apply wpS_region
  simp [wpOpsS, go_sem, recoverD, hu, Tryz.ntmps31, Exit.thenS]
  rw [frame20]
  refine wpS_of_wp ?_
  go_wp2_with fail
  have g0 : (w.alloc (.cells #[.int .i64 (i : Int), .int .i64 (c : Int)] 98)).cell? ⟨w.heap.size, 0, none⟩ = some (.int .i64 (i : Int)) := by rw [cell_of_row _ w.heap.size 0 _ _ (0, 0) (heap_alloc_new w _)]; rfl
  have g1 : (w.alloc (.cells #[.int .i64 (i : Int), .int .i64 (c : Int)] 98)).cell? ⟨w.heap.size, 1, none⟩ = some (.int .i64 (c : Int)) := by rw [cell_of_row _ w.heap.size 1 _ _ (0, 0) (heap_alloc_new w _)]; rfl
  have hb1 : Below p w (w.alloc (.cells #[.int .i64 (i : Int), .int .i64 (c : Int)] 98)) := (Below.refl _ _).alloc (by omega) _
  replace k0 := (World.cell?_alloc_lt w (.cells #[.int .i64 (i : Int), .int .i64 (c : Int)] 98) ⟨p, 0, none⟩ (by show p < _; omega)).trans k0
  replace k1 := (World.cell?_alloc_lt w (.cells #[.int .i64 (i : Int), .int .i64 (c : Int)] 98) ⟨p + 1, 0, none⟩ (by show p + 1 < _; omega)).trans k1
  have hz : ∀ q, q < w.heap.size → (w.alloc (.cells #[.int .i64 (i : Int), .int .i64 (c : Int)] 98)).frozen? ⟨q, 0, none⟩ = w.frozen? ⟨q, 0, none⟩ := fun q hq => by unfold World.frozen?; rw [Below.heap_alloc w _ q hq]
  replace z0 := (hz p (by omega)).trans z0
  replace z1 := (hz (p + 1) (by omega)).trans z1
  have n0 : ¬ p = w.heap.size := by omega
  have n1 : ¬ p + 1 = w.heap.size := by omega
  have m0 : ¬ w.heap.size = p := by omega
  have m1 : ¬ w.heap.size = p + 1 := by omega
  clear hz hta hnot hp
  generalize w.heap.size = q at g0 g1 n0 n1 m0 m1 ⊢
  generalize w.alloc (.cells #[.int .i64 (i : Int), .int .i64 (c : Int)] 98) = w1 at g0 g1 hb1 k0 k1 z0 z1 ⊢
  go_region
  exact ⟨rfl, _, rfl, .tuple #[], by simp [results, Tryz.results31], rfl, rfl, caughtS_mk k0 k1 hb1⟩
set_option maxHeartbeats 1000000 in
set_option maxRecDepth 100000 in
theorem guard_idle (p0 p1 : Addr) (w : World) :
    CallsD Tryz.prog 31 #[.pointer (some p0), .pointer (some p1)] .returning w fun e u' w' => e = .returned (.tuple #[]) ∧ u' = .returning ∧ w = w' := by
  refine callsD_of_wpS Tryz.func31 rfl fun c₀ cs hu => ?_
  apply wpS_seq
  apply wpS_region
  simp [wpOpsS, go_sem, recoverD, hu, Tryz.ntmps31, Exit.thenS]
  rw [frame20]
  refine wpS_of_wp ?_
  go_wp2_with fail
  refine ⟨rfl, .returning, ?_, .tuple #[], by simp [results, Tryz.results31], rfl, rfl, rfl⟩
  cases c₀
  simp_all
end Go.Proofs.YtpmncgbpbcgfaaaGreatDoor

/-
  What is handed to the parser's guard: one expression, one statement.
-/
namespace Go.Proofs.YtpmncgbpbcgfaaaGreatDoor
open Go.RowKit
set_option linter.unusedVariables false
set_option linter.unusedSimpArgs false

/-- all that was there is as it was, but for the blocks p and gs -/
structure Stays (p gs : Nat) (w w' : World) : Prop where
  os : w'.os = w.os
  tape : w'.tape = w.tape
  output : w'.output = w.output
  size : w.heap.size ≤ w'.heap.size
  block : ∀ q, q < w.heap.size → q ≠ gs → q ≠ p → w'.heap[q]? = w.heap[q]?
theorem stays_trans {p gs : Nat} {w w2 w3 : World} (h1 : w.grownBy w2 (some p)) (h2 : w2.grownBy w3 (some gs)) : Stays p gs w w3 :=
  ⟨h2.os.trans h1.os, h2.tape.trans h1.tape, h2.output.trans h1.output, Nat.le_trans h1.size h2.size, fun q hq h3 h4 => (h2.block q (Nat.lt_of_lt_of_le hq h1.size) (fun e => h3 (by injection e))).trans (h1.block q hq (fun e => h4 (by injection e)))⟩
/-- what a function leaves that is handed to the guard: gs the block that it writes -/
def GPost {α : Type} (w : World) (p : Nat) (v : Value) (T : List Tok) (n gs : Nat) (r : R α) (J : α → World → Prop) (e : Ending) (w' : World) : Prop :=
  match r with
  | .ok a j d => e = .returned (.tuple #[]) ∧ St w' p v T j n d ∧ J a w' ∧ Stays p gs w w'
  | .fail j c => e = failE T n j c ∧ Stays p gs w w'
theorem stays_one {p : Nat} (gs : Nat) {w w' : World} (h : w.grownBy w' (some p)) : Stays p gs w w' := ⟨h.os, h.tape, h.output, h.size, fun q hq _ h4 => h.block q hq (fun e => h4 (by injection e))⟩
theorem St.own {w w' : World} {p gs : Nat} {v : Value} {T : List Tok} {i n : Nat} {d : Bool} (h : St w p v T i n d) (hg : w.grownBy w' (some gs)) (h1 : gs ≠ p) (h2 : v.ownBlock ≠ some gs) : St w' p v T i n d := by
  obtain ⟨b, ho⟩ := h.tk.own
  exact ⟨(hg.block p h.ps.lt (fun e => h1 (by injection e with e; exact e.symm))).trans h.ps, ⟨⟨b, ho.kept hg (.inr h2)⟩, h.tk.ne, h.tk.len, h.tk.ok⟩, h.le⟩
set_option maxHeartbeats 4000000 in
set_option maxRecDepth 100000 in
theorem expression1_call (m : Nat) (p gs : Nat) (v : Value) (T : List Tok) (n : Nat) (w : World) (i : Nat) (d : Bool) (h : St w p v T i n d) (hm : 3 * (T.length - i) + 3 ≤ m) (hb : Blk w gs (zeroE7) 34) (h1 : gs ≠ p) (h2 : v.ownBlock ≠ some gs) :
    Calls Tryz.prog 21 #[.pointer (some ⟨p, 0, none⟩), .pointer (some ⟨gs, 0, none⟩)] w (GPost w p v T n gs (pExpr m (cores T) i d) fun a w' => ∃ cs, Blk w' gs cs 34 ∧ ERep w' (Fp w.heap.size []) a cs) := by
  go_enter Tryz.func21, Tryz.ntmps21
  go_wp2_with fail
  refine PPost.use (expr_call m p v T n w i d h hm) (fun a j d' val w2 hr hv hs hij hg2 => ?_) (fun j c w' hr hg => ⟨rfl, by rw [hr]; exact ⟨rfl, stays_one gs hg⟩⟩)
  obtain ⟨cs, rfl, hre⟩ := hv
  have HR := Lib.hid hr
  have HL := Lib.hid (goodE.len hre)
  have HE := Lib.hid hre
  have hgl := hb.lt
  have hb2 := hb.grown hg2 h1
  clear hr hre hb
  go_wp2_with (refine store_blk rfl 34 (.tmp 1) (.tmp 4) rfl gs cs rfl rfl 34 _ hb2 (by rw [HL.out]; kernel_rfl) (by rw [HL.out]; rfl) (goodE.one HE.out) ?_)
  intro w3 hb3 hg3 hz3
  have hs3 := hs.own hg3 h1 h2
  have HE3 := Lib.hid (goodE.kept HE.out fun b hb hl => hg3.block b hl (fun e => by injection e with e; have := hb.1; omega))
  have hst := stays_trans hg2 hg3
  clear hg2 hg3 hz3 hb2 HE
  go_wp2_with fail
  go_end0
  rw [HR.out]
  exact ⟨rfl, hs3, ⟨cs, hb3, HE3.out⟩, hst⟩
set_option maxHeartbeats 4000000 in
set_option maxRecDepth 100000 in
theorem statement1_call (m : Nat) (p gs : Nat) (v : Value) (T : List Tok) (n : Nat) (w : World) (i : Nat) (d : Bool) (h : St w p v T i n d) (hm : 3 * (T.length - i) + 3 ≤ m) (hb : Blk w gs (stmZ Stm.zero) 57) (h1 : gs ≠ p) (h2 : v.ownBlock ≠ some gs) :
    Calls Tryz.prog 15 #[.pointer (some ⟨p, 0, none⟩), .pointer (some ⟨gs, 0, none⟩)] w (GPost w p v T n gs (pStatement m (cores T) i d) fun a w' => ∃ cs, Blk w' gs cs 57 ∧ StmRep w' (Fp w.heap.size []) a cs) := by
  go_enter Tryz.func15, Tryz.ntmps15
  go_wp2_with fail
  refine PPost.use (statement_call m p v T n w i d h hm) (fun a j d' val w2 hr hv hs hij hg2 => ?_) (fun j c w' hr hg => ⟨rfl, by rw [hr]; exact ⟨rfl, stays_one gs hg⟩⟩)
  obtain ⟨cs, rfl, hre⟩ := hv
  have HR := Lib.hid hr
  have HL := Lib.hid (goodStm.len hre)
  have HE := Lib.hid hre
  have hgl := hb.lt
  have hb2 := hb.grown hg2 h1
  clear hr hre hb
  go_wp2_with (refine store_blk rfl 57 (.tmp 1) (.tmp 4) rfl gs cs rfl rfl 57 _ hb2 (by rw [HL.out]; kernel_rfl) (by rw [HL.out]; rfl) (goodStm.one HE.out) ?_)
  intro w3 hb3 hg3 hz3
  have hs3 := hs.own hg3 h1 h2
  have HE3 := Lib.hid (goodStm.kept HE.out fun b hb hl => hg3.block b hl (fun e => by injection e with e; have := hb.1; omega))
  have hst := stays_trans hg2 hg3
  clear hg2 hg3 hz3 hb2 HE
  go_wp2_with fail
  go_end0
  rw [HR.out]
  exact ⟨rfl, hs3, ⟨cs, hb3, HE3.out⟩, hst⟩
end Go.Proofs.YtpmncgbpbcgfaaaGreatDoor

/-
  The parser's guard: guarded (under way).
-/
namespace Go.Proofs.YtpmncgbpbcgfaaaGreatDoor
open Go.RowKit
set_option linter.unusedVariables false
set_option linter.unusedSimpArgs false

theorem results_two {fn : Func} (hr : fn.results = #[.cell 4 3, .cell 5 58]) (tmps : Array Value) {w : World} {p q : Addr} {v0 v1 : Value}
    (h4 : tmps.getD 4 undef = .pointer (some p)) (h5 : tmps.getD 5 undef = .pointer (some q)) (c0 : w.cell? p = some v0) (c1 : w.cell? q = some v1) :
    (results fn tmps).run Tryz.prog w = .ok (.tuple #[v0, v1]) w := by
  have h4' : tmps[4]?.getD undef = .pointer (some p) := by rw [← h4, Array.getD_eq_getD_getElem?]
  have h5' : tmps[5]?.getD undef = .pointer (some q) := by rw [← h5, Array.getD_eq_getD_getElem?]
  simp only [results, hr]
  simp [h4', h5', go_sem, c0, c1]
/-- what the guard returns, given what the text comes to -/
def GuardOut {α : Type} (rep : Rep α) (ty : TypeId) (gs : Nat) (x : Nat → P α) (n : Nat) (w : World) (e : Ending) (w' : World) : Res → Prop
  | .err i c => e = .returned (.tuple #[.int .i64 (i : Int), .int .i64 (c : Int)]) ∧ Below w.heap.size w w'
  | .toks T => Stays gs gs w w' ∧ match pWhole (x (3 * T.length + 3)) (cores T) with
    | .ok a => e = .returned (.tuple #[.int .i64 0, .int .i64 0]) ∧ ∃ cs, Blk w' gs cs ty ∧ rep w' (Fp w.heap.size []) a cs
    | .deep => e = .returned (.tuple #[.int .i64 0, .int .i64 26])
    | .fail j c => e = .returned (.tuple #[.int .i64 (posOf T n j : Int), .int .i64 (c : Int)])
def GuardPost {α : Type} (rep : Rep α) (ty : TypeId) (gs : Nat) (x : Nat → P α) (s : ByteArray) (w : World) (e : Ending) (w' : World) : Prop := ∃ r, Comes_ s.data.toList r ∧ GuardOut rep ty gs x s.size w e w' r
set_option maxHeartbeats 4000000 in
set_option maxRecDepth 100000 in
theorem guarded_call {α : Type} (rep : Rep α) {size : Nat} (G : Good rep size) (ty : TypeId) (zs : List Value) (gs g : Nat) (x : Nat → P α) (heg : ∀ args w, (callFunc g args).run Tryz.prog w = .ok (.enter g args) w)
    (hf : ∀ (w : World) (p : Nat) (v : Value) (T : List Tok) (n : Nat), St w p v T 0 n false → Blk w gs zs ty → gs ≠ p → v.ownBlock ≠ some gs → Calls Tryz.prog g #[.pointer (some ⟨p, 0, none⟩), .pointer (some ⟨gs, 0, none⟩)] w (GPost w p v T n gs (x (3 * T.length + 3) (cores T) 0 false) fun a w' => ∃ cs, Blk w' gs cs ty ∧ rep w' (Fp w.heap.size []) a cs))
    (s : ByteArray) (w : World) (ht : Tab w) (hb : Blk w gs zs ty) :
    Calls Tryz.prog 14 #[.string s, .func (.func g) #[] #[.pointer (some ⟨gs, 0, none⟩)]] w (GuardPost rep ty gs x s w) := by
  have hmf : ∀ (fn : Fn) (first cap : Array Value) (w : World), (Instr.makeFunc fn first cap).run Tryz.prog w = .ok (.func fn first cap) w := fun _ _ _ _ => rfl
  have HT := Lib.hid ht
  have HF := Lib.hid hf
  clear ht hf
  go_enter_defers Tryz.func14, Tryz.ntmps14
  go_wp2_with fail
  refine name_alloc2 (K := fun W => Calls _ _ _ W _) fun w1 hA hE hw1 hz1 => ?_
  have hz1' : w.heap.size + 1 + 1 ≤ w1.heap.size := by omega
  have HT1 := Lib.hid (HT.out.below hw1)
  have hb1 := hb.below hw1
  have hgl := hb.lt
  clear hz1 HT hb
  refine (tokens_call s w1 HT1.out).mono ?_
  rintro e w2 ⟨r, hc, hout⟩
  have HC := Lib.hid hc
  clear hc
  rcases r with ⟨i, c⟩ | T
  · obtain ⟨rfl, hw2⟩ := hout
    have hA2 := hA.below hw2
    have hE2 := hE.below hw2
    have hcn := (comes_err HC.out).1
    have hbl : Below w.heap.size w w2 := hw1.trans (hw2.mono hw1.size)
    have a0 := hA2.cell 0 rfl
    have e0 := hE2.cell 0 rfl
    have za := hA2.free 0
    have ze := hE2.free 0
    have d1 : ((c : Int) != 0) = true := by rw [bne_iff_ne]; omega
    clear hA hE hw1 hw2 HT1 hb1
    go_wp2_with fail
    have kA := only_setCell (World.grownBy.refl w2 (some w.heap.size)) 0 (.int .i64 (i : Int))
    have kE := only_setCell (World.grownBy.refl (w2.setCell ⟨w.heap.size, 0, none⟩ (.int .i64 (i : Int))) (some (w.heap.size + 1))) 0 (.int .i64 (c : Int))
    have hA3 := (hA2.set 0 (.int .i64 (i : Int))).grown kE (by omega)
    have hE3 := (hE2.grown kA (by omega)).set 0 (.int .i64 (c : Int))
    have hbl3 : Below w.heap.size w ((w2.setCell ⟨w.heap.size, 0, none⟩ (.int .i64 (i : Int))).setCell ⟨w.heap.size + 1, 0, none⟩ (.int .i64 (c : Int))) := (hbl.setCell (Nat.le_refl _) _).setCell (by show w.heap.size ≤ w.heap.size + 1; omega) _
    clear a0 e0 za ze kA kE hA2 hE2 hbl d1
    generalize (w2.setCell ⟨w.heap.size, 0, none⟩ (.int .i64 (i : Int))).setCell ⟨w.heap.size + 1, 0, none⟩ (.int .i64 (c : Int)) = w3 at hA3 hE3 hbl3 ⊢
    have a0 : w3.cell? ⟨w.heap.size, 0, none⟩ = some (.int .i64 (i : Int)) := hA3.cell 0 rfl
    have e0 : w3.cell? ⟨w.heap.size + 1, 0, none⟩ = some (.int .i64 (c : Int)) := hE3.cell 0 rfl
    have za := hA3.free 0
    have ze := hE3.free 0
    have HCS := Lib.hid (caughtS_mk (i := i) (c := c) a0 e0 hbl3)
    go_region
    clear a0 e0 za ze hA3 hE3 hbl3
    generalize ((w3.setCell ⟨w.heap.size, 0, none⟩ (.int .i64 (i : Int))).setCell ⟨w.heap.size + 1, 0, none⟩ (.int .i64 (c : Int))).drew = w4 at HCS ⊢
    go_wp2_with fail
    exact ⟨.tuple #[.int .i64 (i : Int), .int .i64 (c : Int)], results_two Tryz.results14 _ rfl rfl HCS.out.1 HCS.out.2.1, _, HC.out, rfl, HCS.out.2.2⟩
  · obtain ⟨v, rfl, ho, hw2⟩ := hout
    have hA2 := hA.below hw2
    have hE2 := hE.below hw2
    have hb2 := hb1.below hw2
    have hbl : Below w.heap.size w w2 := hw1.trans (hw2.mono hw1.size)
    have hs2 := hw2.size
    obtain ⟨A, mm, cp, rfl⟩ := own_slice ho
    obtain rfl := own_len ho
    have HO := Lib.hid ho
    have a0 := hA2.cell 0 rfl
    have e0 := hE2.cell 0 rfl
    have za := hA2.free 0
    have ze := hE2.free 0
    clear hA hE hw1 hw2 HT1 hb1 ho
    go_upto_region 5 with (fail)
    have HLT : Hid (∀ g, (Value.slice A T.length cp).ownBlock = some g → w1.heap.size ≤ g) := Lib.hid (fun g e => (HO.out.lt g e).1)
    have kA := only_setCell (World.grownBy.refl w2 (some w.heap.size)) 0 (.int .i64 0)
    have kE := only_setCell (World.grownBy.refl (w2.setCell ⟨w.heap.size, 0, none⟩ (.int .i64 0)) (some (w.heap.size + 1))) 0 (.int .i64 0)
    have hA3 := (hA2.set 0 (.int .i64 0)).grown kE (by omega)
    have hE3 := (hE2.grown kA (by omega)).set 0 (.int .i64 0)
    have hb3 := (hb2.grown kA (by omega)).grown kE (by omega)
    have HO3 := Lib.hid (own_far (own_far (q := w.heap.size) HO.out (fun e => by have := HLT.out _ e; omega) 0 (.int .i64 0)) (q := w.heap.size + 1) (fun e => by have := HLT.out _ e; omega) 0 (.int .i64 0))
    have hbl3 : Below w.heap.size w ((w2.setCell ⟨w.heap.size, 0, none⟩ (.int .i64 0)).setCell ⟨w.heap.size + 1, 0, none⟩ (.int .i64 0)) := (hbl.setCell (Nat.le_refl _) _).setCell (by show w.heap.size ≤ w.heap.size + 1; omega) _
    have hs3 : w2.heap.size ≤ ((w2.setCell ⟨w.heap.size, 0, none⟩ (.int .i64 0)).setCell ⟨w.heap.size + 1, 0, none⟩ (.int .i64 0)).heap.size := by simp [World.setCell]
    clear a0 e0 za ze kA kE hA2 hE2 hbl hb2 HO
    generalize (w2.setCell ⟨w.heap.size, 0, none⟩ (.int .i64 0)).setCell ⟨w.heap.size + 1, 0, none⟩ (.int .i64 0) = w3 at hA3 hE3 hbl3 hb3 HO3 hs3 ⊢
    go_wp2_with fail
    refine name_alloc (K := fun W => Calls _ _ _ W _) fun w4 hP hw4 hz4 => ?_
    have hA4 := hA3.below hw4
    have hE4 := hE3.below hw4
    have hb4 := hb3.below hw4
    have hbl4 : Below w.heap.size w w4 := hbl3.trans (hw4.mono hbl3.size)
    have HO4 := Lib.hid (kept_below HO3.out hw4)
    have h34 : w3.heap.size + 1 ≤ w4.heap.size := by omega
    have HOK := Lib.hid (comes_ok HC.out)
    have hst : St w4 w3.heap.size (.slice A T.length cp) T 0 s.size false := ⟨hP, ⟨⟨_, HO4.out⟩, fun e => by have h1 := (HO3.out.lt _ e).2; omega, HOK.out.2.1, HOK.out.1⟩, Nat.zero_le _⟩
    clear hA3 hE3 hb3 HO3 hbl3 hw4 hz4
    refine (HF.out w4 w3.heap.size _ T s.size hst hb4 (by omega) (fun e => by have := HLT.out _ e; omega)).mono ?_
    intro e w5 hp
    rcases hx : x (3 * T.length + 3) (cores T) 0 false with ⟨a, j, d⟩ | ⟨j, c⟩
    · rw [hx] at hp
      obtain ⟨rfl, hst5, hJ, hsy⟩ := hp
      have hA5 : Blk w5 w.heap.size _ _ := (hsy.block _ (by omega) (by omega) (by omega)).trans hA4
      have hE5 : Blk w5 (w.heap.size + 1) _ _ := (hsy.block _ (by omega) (by omega) (by omega)).trans hE4
      have hsz5 := hsy.size
      have HJ := Lib.hid hJ
      have HX := Lib.hid hx
      have HSY : Hid (Stays gs gs w w5) := Lib.hid ⟨hsy.os.trans hbl4.os, hsy.tape.trans hbl4.tape, hsy.output.trans hbl4.output, Nat.le_trans hbl4.size hsy.size, fun q hq h1 h2 => (hsy.block q (by omega) h1 (by omega)).trans (hbl4.block q hq)⟩
      clear hJ hx hsy hA4 hE4 hb4 HO4 hst hP
      have h0 := hst5.ps.c0
      have h1 := hst5.ps.c1
      have hle5 := hst5.le
      by_cases hj : j < T.length
      · have d1 : decide (j < T.length) = true := decide_eq_true hj
        have HPW : Hid (pWhole (x (3 * T.length + 3)) (cores T) = .fail j 1) := Lib.hid (by unfold pWhole; rw [HX.out]; simp only; rw [if_pos (by rw [cores_len]; exact hj)])
        go_upto_region 7 with (fail)
        go_quiet (fail)
        refine name_drew (K := Exit.then _ _ _ _) fun w6 hw6 hz6 => ?_
        have hst6 := hst5.below hw6
        have hA6 := hA5.below hw6
        have hE6 := hE5.below hw6
        have hsz6 := hw6.size
        clear h0 h1
        go_wp2_with fail
        refine wrong_use hst6 fun w7 hg7 => ?_
        have hA7 := hA6.grown hg7 (by omega)
        have hE7 := hE6.grown hg7 (by omega)
        have hsz7 := hg7.size
        rw [show wrongJ T j = j by unfold wrongJ; rw [if_neg (by omega)], show wrongC T j = 1 by unfold wrongC; rw [if_neg (by omega)]]
        unfold failE
        refine leaves_cons (f := 31) (args := #[.pointer (some ⟨w.heap.size, 0, none⟩), .pointer (some ⟨w.heap.size + 1, 0, none⟩)]) (by simp) (by simp [go_sem]) ?_
        refine (guard_panicking w.heap.size _ _ (posOf T s.size j) 1 w7 (hA7.cell 0 rfl) (hE7.cell 0 rfl) (hA7.free 0) (hE7.free 0) (by omega)).mono ?_
        rintro e u' w8 ⟨rfl, rfl, q0, q1, hb8⟩
        refine ⟨.tuple #[.int .i64 (posOf T s.size j : Int), .int .i64 ((1 : Nat) : Int)], results_two Tryz.results14 _ rfl rfl q0 q1, _, HC.out, ?_, by rw [HPW.out]⟩
        have hy := HSY.out
        exact ⟨hb8.os.trans (hg7.os.trans (hw6.os.trans hy.os)), hb8.tape.trans (hg7.tape.trans (hw6.tape.trans hy.tape)), hb8.output.trans (hg7.output.trans (hw6.output.trans hy.output)), by have := hb8.size; have := hy.size; omega, fun q hq h1 h2 => (hb8.block q hq).trans ((hg7.block q (by omega) (fun e => by injection e with e; omega)).trans ((hw6.block q (by omega)).trans (hy.block q hq h1 h2)))⟩
      · have d1 : decide (j < T.length) = false := decide_eq_false hj
        go_upto_region 7 with (fail)
        go_quiet (fail)
        refine name_drew (K := Exit.then _ _ _ _) fun w6 hw6 hz6 => ?_
        have hst6 := hst5.below hw6
        have hA6 := hA5.below hw6
        have hE6 := hE5.below hw6
        have hsz6 := hw6.size
        have c3 := hst6.ps.c3
        have a0 := hA6.cell 0 rfl
        have e0 := hE6.cell 0 rfl
        have za := hA6.free 0
        have ze := hE6.free 0
        clear h0 h1
        rcases d with _ | _
        · have tt : True := trivial
          have HPW : Hid (pWhole (x (3 * T.length + 3)) (cores T) = .ok a) := Lib.hid (by unfold pWhole; rw [HX.out]; simp only; rw [if_neg (by rw [cores_len]; exact hj)]; rfl)
          have hbb : Below w.heap.size w6 w6 := Below.refl _ _
          have HCS := Lib.hid (caughtS_mk (i := 0) (c := 0) a0 e0 hbb)
          go_wp2_with fail
          refine leaves_cons (f := 31) (args := #[.pointer (some ⟨w.heap.size, 0, none⟩), .pointer (some ⟨w.heap.size + 1, 0, none⟩)]) (by simp) (by simp [go_sem]) ?_
          refine (guard_idle _ _ _).mono ?_
          rintro e u' w8 ⟨rfl, rfl, rfl⟩
          have hy := HSY.out
          have hcb := HCS.out.2.2
          have hstays : Stays gs gs w ((w6.setCell ⟨w.heap.size, 0, none⟩ (.int .i64 0)).setCell ⟨w.heap.size + 1, 0, none⟩ (.int .i64 0)) := ⟨hcb.os.trans (hw6.os.trans hy.os), hcb.tape.trans (hw6.tape.trans hy.tape), hcb.output.trans (hw6.output.trans hy.output), (by have h := hcb.size; have := hy.size; exact Nat.le_trans (Nat.le_trans this hw6.size) h), fun q hq h1 h2 => (hcb.block q hq).trans ((hw6.block q (by omega)).trans (hy.block q hq h1 h2))⟩
          refine ⟨.tuple #[.int .i64 0, .int .i64 0], results_two Tryz.results14 _ rfl rfl HCS.out.1 HCS.out.2.1, _, HC.out, hstays, ?_⟩
          rw [HPW.out]
          obtain ⟨cs, hbk, hrp⟩ := HJ.out
          have kA := only_setCell (World.grownBy.refl w6 (some w.heap.size)) 0 (.int .i64 0)
          have kE := only_setCell (World.grownBy.refl (w6.setCell ⟨w.heap.size, 0, none⟩ (.int .i64 0)) (some (w.heap.size + 1))) 0 (.int .i64 0)
          have r6 := G.below hrp hw6
          have r7 := G.kept r6 fun b hb hl => kA.block b hl (fun e => by injection e with e; have := hb.1; omega)
          have r8 := G.kept r7 fun b hb hl => kE.block b hl (fun e => by injection e with e; have := hb.1; omega)
          exact ⟨rfl, cs, ((hbk.below hw6).grown kA (by omega)).grown kE (by omega), G.mono r8 fun b hb _ => ⟨by have := hb.1; omega, by simp⟩⟩
        · have tt : True := trivial
          have HPW : Hid (pWhole (x (3 * T.length + 3)) (cores T) = .deep) := Lib.hid (by unfold pWhole; rw [HX.out]; simp only; rw [if_neg (by rw [cores_len]; exact hj)]; rfl)
          have hbb : Below w.heap.size w6 w6 := Below.refl _ _
          have HCS := Lib.hid (caughtS_mk (i := 0) (c := 26) a0 e0 hbb)
          go_wp2_with fail
          refine leaves_cons (f := 31) (args := #[.pointer (some ⟨w.heap.size, 0, none⟩), .pointer (some ⟨w.heap.size + 1, 0, none⟩)]) (by simp) (by simp [go_sem]) ?_
          refine (guard_idle _ _ _).mono ?_
          rintro e u' w8 ⟨rfl, rfl, rfl⟩
          have hy := HSY.out
          have hcb := HCS.out.2.2
          have hstays : Stays gs gs w ((w6.setCell ⟨w.heap.size, 0, none⟩ (.int .i64 0)).setCell ⟨w.heap.size + 1, 0, none⟩ (.int .i64 26)) := ⟨hcb.os.trans (hw6.os.trans hy.os), hcb.tape.trans (hw6.tape.trans hy.tape), hcb.output.trans (hw6.output.trans hy.output), (by have h := hcb.size; have := hy.size; exact Nat.le_trans (Nat.le_trans this hw6.size) h), fun q hq h1 h2 => (hcb.block q hq).trans ((hw6.block q (by omega)).trans (hy.block q hq h1 h2))⟩
          refine ⟨.tuple #[.int .i64 0, .int .i64 26], results_two Tryz.results14 _ rfl rfl HCS.out.1 HCS.out.2.1, _, HC.out, hstays, ?_⟩
          rw [HPW.out]
    · rw [hx] at hp
      obtain ⟨rfl, hg5⟩ := hp
      have hA5 : Blk w5 w.heap.size _ _ := (hg5.block _ (by omega) (by omega) (by omega)).trans hA4
      have hE5 : Blk w5 (w.heap.size + 1) _ _ := (hg5.block _ (by omega) (by omega) (by omega)).trans hE4
      have hsz5 := hg5.size
      have HPW : Hid (pWhole (x (3 * T.length + 3)) (cores T) = .fail j c) := Lib.hid (by unfold pWhole; rw [hx])
      unfold failE
      refine leaves_cons (f := 31) (args := #[.pointer (some ⟨w.heap.size, 0, none⟩), .pointer (some ⟨w.heap.size + 1, 0, none⟩)]) (by simp) (by simp [go_sem]) ?_
      refine (guard_panicking w.heap.size _ _ (posOf T s.size j) c w5 (hA5.cell 0 rfl) (hE5.cell 0 rfl) (hA5.free 0) (hE5.free 0) (by omega)).mono ?_
      rintro e u' w6 ⟨rfl, rfl, q0, q1, hb6⟩
      refine ⟨.tuple #[.int .i64 (posOf T s.size j : Int), .int .i64 (c : Int)], results_two Tryz.results14 _ rfl rfl q0 q1, _, HC.out, ?_, by rw [HPW.out]⟩
      have hgr : ∀ q, q < w.heap.size → q ≠ gs → w5.heap[q]? = w4.heap[q]? := fun q hq hq2 => hg5.block q (by omega) hq2 (by omega)
      exact ⟨hb6.os.trans (hg5.os.trans hbl4.os), hb6.tape.trans (hg5.tape.trans hbl4.tape), hb6.output.trans (hg5.output.trans hbl4.output), Nat.le_trans hbl4.size (Nat.le_trans hg5.size hb6.size), fun q hq h1 h2 => (hb6.block q hq).trans ((hgr q hq h1).trans (hbl4.block q hq))⟩
end Go.Proofs.YtpmncgbpbcgfaaaGreatDoor

/-
  The parser's doors: Expression and Statement.
-/
namespace Go.Proofs.YtpmncgbpbcgfaaaGreatDoor
open Go.RowKit
set_option linter.unusedVariables false
set_option linter.unusedSimpArgs false

/-- what a parse of a whole text returns -/
def TopOut {α : Type} (rep : Rep α) (zero : List Value) (x : Nat → P α) (n : Nat) (w : World) (e : Ending) (w' : World) : Res → Prop
  | .err i c => 0 < c ∧ e = .returned (.tuple #[.agg zero.toArray, .int .i64 (i : Int), .int .i64 (c : Int)])
  | .toks T => match pWhole (x (3 * T.length + 3)) (cores T) with
    | .ok a => ∃ cs, e = .returned (.tuple #[.agg cs.toArray, .int .i64 0, .int .i64 0]) ∧ rep w' (Fp w.heap.size []) a cs
    | .deep => e = .returned (.tuple #[.agg zero.toArray, .int .i64 0, .int .i64 26])
    | .fail j c => 0 < c ∧ e = .returned (.tuple #[.agg zero.toArray, .int .i64 (posOf T n j : Int), .int .i64 (c : Int)])
def TopPost {α : Type} (rep : Rep α) (zero : List Value) (x : Nat → P α) (s : ByteArray) (w : World) (e : Ending) (w' : World) : Prop := ∃ r, Comes_ s.data.toList r ∧ TopOut rep zero x s.size w e w' r ∧ Below w.heap.size w w'
theorem results_row_tmp2 {P : Program} {fn : Func} {p q s : Tmp} {ty : TypeId} (h : fn.results = #[.cell p ty, .tmp q, .tmp s]) (tmps : Array Value) (w : World) (g : Nat) (t : TypeId) (cs : Array Value) (fr : Nat × Nat) (d : TypeDesc) (v1 v2 : Value)
    (hp : tmps.getD p undef = .pointer (some ⟨g, 0, none⟩)) (hq : tmps.getD q undef = v1) (hs : tmps.getD s undef = v2) (hg : w.heap[g]? = some (.cells cs t fr))
    (hu : P.underlying ty = some d) (hd : (match d with | .struct _ | .array _ _ => true | _ => false) = true) (hi : (P.info? ty).map (·.size) = some cs.size) :
    (results fn tmps).run P w = .ok (.tuple #[.agg cs, v1, v2]) w := by
  have hp' : tmps[p]?.getD undef = .pointer (some ⟨g, 0, none⟩) := by simpa using hp
  subst hq hs
  simp [results, h, hp', asAddr, run_loadVar_row w g t ty cs fr d hg hu hd hi]
theorem below_stays {g B : Nat} {w w' : World} (h : Stays g g w w') (hB : B ≤ w.heap.size) (hg : B ≤ g) : Below B w w' := ⟨h.os, h.tape, h.output, h.size, fun k hk => h.block k (Nat.lt_of_lt_of_le hk hB) (by omega) (by omega)⟩
theorem qZero_rep (w : World) (F : Nat → Prop) : QRep w F Qry.zero qZero := QRep.leaf 0 false Sel.zero (selCells Sel.zero (.slice none 0 0) (.slice none 0 0) (.slice none 0 0) zeroE7) [] (.slice none 0 0) 0 ⟨_, _, _, _, ⟨.inl ⟨rfl, rfl⟩, .inl ⟨rfl, rfl⟩, zeroE_rep w F, .inl ⟨rfl, rfl⟩⟩, rfl⟩ (.inl ⟨rfl, rfl⟩)
theorem stmZero_rep (w : World) (F : Nat → Prop) : StmRep w F Stm.zero (stmZ Stm.zero) := ⟨_, _, _, _, _, _, _, _, ⟨qZero_rep w F, .inl ⟨rfl, rfl⟩, .inl ⟨rfl, rfl⟩, zeroE_rep w F, ⟨.inl ⟨rfl, rfl⟩, .inl ⟨rfl, rfl⟩, .inl ⟨rfl, rfl⟩⟩, .inl ⟨rfl, rfl⟩⟩, rfl⟩
theorem enters_expr1 : ∀ args w, (callFunc 21 args).run Tryz.prog w = .ok (.enter 21 args) w := enters_of Tryz.func21 (by kernel_rfl) rfl
set_option maxHeartbeats 4000000 in
set_option maxRecDepth 100000 in
theorem expression_call (s : ByteArray) (w : World) (ht : Tab w) :
    Calls Tryz.prog 9 #[.string s] w (TopPost ERep zeroE7 pExpr s w) := by
  have hmf : ∀ (fn : Fn) (first cap : Array Value) (w : World), (Instr.makeFunc fn first cap).run Tryz.prog w = .ok (.func fn first cap) w := fun _ _ _ _ => rfl
  have HT := Lib.hid ht
  clear ht
  go_enter Tryz.func9, Tryz.ntmps9
  go_wp2_with fail
  refine name_alloc2 (K := fun W => Calls _ _ _ W _) fun w1 hB hX hw1 hz1 => ?_
  replace hB : Blk w1 w.heap.size zeroE7 34 := hB
  replace hX : Blk w1 (w.heap.size + 1) zeroE7 34 := hX
  replace hz1 : w.heap.size + 2 ≤ w1.heap.size := by omega
  have HT1 := Lib.hid (HT.out.below hw1)
  refine (guarded_call ERep goodE 34 zeroE7 (w.heap.size + 1) 21 pExpr enters_expr1 (fun wx p v T n hst hb h1 h2 => expression1_call (3 * T.length + 3) p (w.heap.size + 1) v T n wx 0 false hst (by omega) hb h1 h2) s w1 HT1.out hX).mono ?_
  rintro e w2 ⟨r, hc, hout⟩
  have HC := Lib.hid hc
  clear hc HT HT1
  rcases r with ⟨i, c⟩ | T
  · obtain ⟨rfl, hw2⟩ := hout
    have hcn := (comes_err HC.out).1
    have hB2 := hB.below hw2
    have hbl : Below w.heap.size w w2 := hw1.trans (hw2.mono hw1.size)
    have d1 : ((c : Int) != 0) = true := by rw [bne_iff_ne]; omega
    clear hB hX hw1 hw2
    go_wp2_with (first | (refine build_is rfl 34 _ rfl zeroE7 (by kernel_rfl) ?_) | (refine store_blk rfl 34 (.tmp 2) (.tmp 16) rfl w.heap.size zeroE7 rfl rfl 34 _ hB2 (by kernel_rfl) rfl (goodE.one (zeroE_rep w (fun _ => True))) ?_))
    intro w3 hB3 hg3 hz3
    have hbl3 := hbl.grown hg3 (by have := hbl.size; omega) (fun k hk => by injection hk with hk; omega)
    clear hg3 hz3 hbl hB2
    go_wp2_with fail
    refine bodyPost_ret (results_row_tmp2 Tryz.results9 _ _ w.heap.size _ _ _ _ _ _ rfl rfl rfl hB3 Tryz.underlying34 rfl (by kernel_rfl)) rfl ?_
    exact ⟨_, HC.out, ⟨hcn, rfl⟩, hbl3⟩
  · obtain ⟨hsy, hres⟩ := hout
    have hbl : Below w.heap.size w w2 := hw1.trans (below_stays hsy (by omega) (by omega))
    have hB2 : Blk w2 w.heap.size zeroE7 34 := (hsy.block _ (by omega) (by omega) (by omega)).trans hB
    have hs12 := hw1.size
    clear hB hX hw1 hsy
    rcases hq : pWhole (pExpr (3 * T.length + 3)) (cores T) with a | _ | ⟨j, c⟩
    · rw [hq] at hres
      obtain ⟨rfl, cs, hbk, hrp⟩ := hres
      have HQ := Lib.hid hq
      have HL := Lib.hid (goodE.len hrp)
      have HE := Lib.hid hrp
      clear hq hrp
      go_wp2_with (first | (refine wpList_load_mid rfl 34 (.tmp 5) rfl (w.heap.size + 1) 0 rfl cs _ hbk.all Tryz.underlying34 rfl (by rw [HL.out]; kernel_rfl) ?_) | (refine store_blk rfl 34 (.tmp 2) (.tmp 19) rfl w.heap.size cs rfl rfl 34 _ hB2 (by rw [HL.out]; kernel_rfl) (by rw [HL.out]; rfl) (goodE.one HE.out) ?_))
      intro w3 hB3 hg3 hz3
      have hbl3 := hbl.grown hg3 (by have := hbl.size; omega) (fun k hk => by injection hk with hk; omega)
      have HE3 := Lib.hid (goodE.kept HE.out fun b hb hl => hg3.block b hl (fun e => by injection e with e; have := hb.1; omega))
      clear hg3 hz3 hbl hB2 hbk HE
      go_wp2_with fail
      refine bodyPost_ret (results_row_tmp2 Tryz.results9 _ _ w.heap.size _ _ _ _ _ _ rfl rfl rfl hB3 Tryz.underlying34 rfl (by simp only [List.size_toArray]; rw [HL.out]; kernel_rfl)) rfl ?_
      refine ⟨_, HC.out, ?_, hbl3⟩
      unfold TopOut
      dsimp only
      rw [HQ.out]
      exact ⟨cs, rfl, goodE.mono HE3.out fun b hb _ => ⟨by have := hb.1; omega, by simp⟩⟩
    · rw [hq] at hres
      obtain rfl := hres
      have HQ := Lib.hid hq
      clear hq
      go_wp2_with (first | (refine build_is rfl 34 _ rfl zeroE7 (by kernel_rfl) ?_) | (refine store_blk rfl 34 (.tmp 2) (.tmp 16) rfl w.heap.size zeroE7 rfl rfl 34 _ hB2 (by kernel_rfl) rfl (goodE.one (zeroE_rep w (fun _ => True))) ?_))
      intro w3 hB3 hg3 hz3
      have hbl3 := hbl.grown hg3 (by have := hbl.size; omega) (fun k hk => by injection hk with hk; omega)
      clear hg3 hz3 hbl hB2
      go_wp2_with fail
      refine bodyPost_ret (results_row_tmp2 Tryz.results9 _ _ w.heap.size _ _ _ _ _ _ rfl rfl rfl hB3 Tryz.underlying34 rfl (by kernel_rfl)) rfl ?_
      exact ⟨_, HC.out, (by unfold TopOut; dsimp only; rw [HQ.out]; rfl), hbl3⟩
    · rw [hq] at hres
      obtain rfl := hres
      have hcn := (Nz.whole (Nz.expr _) hq).1
      have d1 : ((c : Int) != 0) = true := by rw [bne_iff_ne]; omega
      have HQ := Lib.hid hq
      clear hq
      go_wp2_with (first | (refine build_is rfl 34 _ rfl zeroE7 (by kernel_rfl) ?_) | (refine store_blk rfl 34 (.tmp 2) (.tmp 16) rfl w.heap.size zeroE7 rfl rfl 34 _ hB2 (by kernel_rfl) rfl (goodE.one (zeroE_rep w (fun _ => True))) ?_))
      intro w3 hB3 hg3 hz3
      have hbl3 := hbl.grown hg3 (by have := hbl.size; omega) (fun k hk => by injection hk with hk; omega)
      clear hg3 hz3 hbl hB2
      go_wp2_with fail
      refine bodyPost_ret (results_row_tmp2 Tryz.results9 _ _ w.heap.size _ _ _ _ _ _ rfl rfl rfl hB3 Tryz.underlying34 rfl (by kernel_rfl)) rfl ?_
      exact ⟨_, HC.out, (by unfold TopOut; dsimp only; rw [HQ.out]; exact ⟨hcn, rfl⟩), hbl3⟩
theorem enters_stm1 : ∀ args w, (callFunc 15 args).run Tryz.prog w = .ok (.enter 15 args) w := enters_of Tryz.func15 (by kernel_rfl) rfl
set_option maxHeartbeats 4000000 in
set_option maxRecDepth 100000 in
theorem statementK_call (K : Nat) (s : ByteArray) (w : World) (ht : Tab w) :
    Calls Tryz.prog 6 #[.string s] w (TopPost StmRep (stmZ Stm.zero) (fun n => pStatement (n + K)) s w) := by
  have hmf : ∀ (fn : Fn) (first cap : Array Value) (w : World), (Instr.makeFunc fn first cap).run Tryz.prog w = .ok (.func fn first cap) w := fun _ _ _ _ => rfl
  have HT := Lib.hid ht
  clear ht
  go_enter Tryz.func6, Tryz.ntmps6
  go_wp2_with fail
  refine name_alloc2 (K := fun W => Calls _ _ _ W _) fun w1 hB hX hw1 hz1 => ?_
  replace hB : Blk w1 w.heap.size (stmZ Stm.zero) 57 := hB
  replace hX : Blk w1 (w.heap.size + 1) (stmZ Stm.zero) 57 := hX
  replace hz1 : w.heap.size + 2 ≤ w1.heap.size := by omega
  have HT1 := Lib.hid (HT.out.below hw1)
  refine (guarded_call StmRep goodStm 57 (stmZ Stm.zero) (w.heap.size + 1) 15 (fun n => pStatement (n + K)) enters_stm1 (fun wx p v T n hst hb h1 h2 => statement1_call (3 * T.length + 3 + K) p (w.heap.size + 1) v T n wx 0 false hst (by omega) hb h1 h2) s w1 HT1.out hX).mono ?_
  rintro e w2 ⟨r, hc, hout⟩
  have HC := Lib.hid hc
  clear hc HT HT1
  rcases r with ⟨i, c⟩ | T
  · obtain ⟨rfl, hw2⟩ := hout
    have hcn := (comes_err HC.out).1
    have hB2 := hB.below hw2
    have hbl : Below w.heap.size w w2 := hw1.trans (hw2.mono hw1.size)
    have d1 : ((c : Int) != 0) = true := by rw [bne_iff_ne]; omega
    clear hB hX hw1 hw2
    go_wp2_with (first | (refine build_is rfl 57 _ rfl (stmZ Stm.zero) (by kernel_rfl) ?_) | (refine store_blk rfl 57 (.tmp 2) (.tmp 16) rfl w.heap.size (stmZ Stm.zero) rfl rfl 57 _ hB2 (by kernel_rfl) rfl (goodStm.one (stmZero_rep w (fun _ => True))) ?_))
    intro w3 hB3 hg3 hz3
    have hbl3 := hbl.grown hg3 (by have := hbl.size; omega) (fun k hk => by injection hk with hk; omega)
    clear hg3 hz3 hbl hB2
    go_wp2_with fail
    refine bodyPost_ret (results_row_tmp2 Tryz.results6 _ _ w.heap.size _ _ _ _ _ _ rfl rfl rfl hB3 Tryz.underlying57 rfl (by kernel_rfl)) rfl ?_
    exact ⟨_, HC.out, ⟨hcn, rfl⟩, hbl3⟩
  · obtain ⟨hsy, hres⟩ := hout
    have hbl : Below w.heap.size w w2 := hw1.trans (below_stays hsy (by omega) (by omega))
    have hB2 : Blk w2 w.heap.size (stmZ Stm.zero) 57 := (hsy.block _ (by omega) (by omega) (by omega)).trans hB
    have hs12 := hw1.size
    clear hB hX hw1 hsy
    rcases hq : pWhole (pStatement (3 * T.length + 3 + K)) (cores T) with a | _ | ⟨j, c⟩
    · rw [hq] at hres
      obtain ⟨rfl, cs, hbk, hrp⟩ := hres
      have HQ := Lib.hid hq
      have HL := Lib.hid (goodStm.len hrp)
      have HE := Lib.hid hrp
      clear hq hrp
      go_wp2_with (first | (refine wpList_load_mid rfl 57 (.tmp 5) rfl (w.heap.size + 1) 0 rfl cs _ hbk.all Tryz.underlying57 rfl (by rw [HL.out]; kernel_rfl) ?_) | (refine store_blk rfl 57 (.tmp 2) (.tmp 19) rfl w.heap.size cs rfl rfl 57 _ hB2 (by rw [HL.out]; kernel_rfl) (by rw [HL.out]; rfl) (goodStm.one HE.out) ?_))
      intro w3 hB3 hg3 hz3
      have hbl3 := hbl.grown hg3 (by have := hbl.size; omega) (fun k hk => by injection hk with hk; omega)
      have HE3 := Lib.hid (goodStm.kept HE.out fun b hb hl => hg3.block b hl (fun e => by injection e with e; have := hb.1; omega))
      clear hg3 hz3 hbl hB2 hbk HE
      go_wp2_with fail
      refine bodyPost_ret (results_row_tmp2 Tryz.results6 _ _ w.heap.size _ _ _ _ _ _ rfl rfl rfl hB3 Tryz.underlying57 rfl (by simp only [List.size_toArray]; rw [HL.out]; kernel_rfl)) rfl ?_
      refine ⟨_, HC.out, ?_, hbl3⟩
      unfold TopOut
      dsimp only
      rw [HQ.out]
      exact ⟨cs, rfl, goodStm.mono HE3.out fun b hb _ => ⟨by have := hb.1; omega, by simp⟩⟩
    · rw [hq] at hres
      obtain rfl := hres
      have HQ := Lib.hid hq
      clear hq
      go_wp2_with (first | (refine build_is rfl 57 _ rfl (stmZ Stm.zero) (by kernel_rfl) ?_) | (refine store_blk rfl 57 (.tmp 2) (.tmp 16) rfl w.heap.size (stmZ Stm.zero) rfl rfl 57 _ hB2 (by kernel_rfl) rfl (goodStm.one (stmZero_rep w (fun _ => True))) ?_))
      intro w3 hB3 hg3 hz3
      have hbl3 := hbl.grown hg3 (by have := hbl.size; omega) (fun k hk => by injection hk with hk; omega)
      clear hg3 hz3 hbl hB2
      go_wp2_with fail
      refine bodyPost_ret (results_row_tmp2 Tryz.results6 _ _ w.heap.size _ _ _ _ _ _ rfl rfl rfl hB3 Tryz.underlying57 rfl (by kernel_rfl)) rfl ?_
      exact ⟨_, HC.out, (by unfold TopOut; dsimp only; rw [HQ.out]; rfl), hbl3⟩
    · rw [hq] at hres
      obtain rfl := hres
      have hcn := (Nz.whole (Nz.statement _) hq).1
      have d1 : ((c : Int) != 0) = true := by rw [bne_iff_ne]; omega
      have HQ := Lib.hid hq
      clear hq
      go_wp2_with (first | (refine build_is rfl 57 _ rfl (stmZ Stm.zero) (by kernel_rfl) ?_) | (refine store_blk rfl 57 (.tmp 2) (.tmp 16) rfl w.heap.size (stmZ Stm.zero) rfl rfl 57 _ hB2 (by kernel_rfl) rfl (goodStm.one (stmZero_rep w (fun _ => True))) ?_))
      intro w3 hB3 hg3 hz3
      have hbl3 := hbl.grown hg3 (by have := hbl.size; omega) (fun k hk => by injection hk with hk; omega)
      clear hg3 hz3 hbl hB2
      go_wp2_with fail
      refine bodyPost_ret (results_row_tmp2 Tryz.results6 _ _ w.heap.size _ _ _ _ _ _ rfl rfl rfl hB3 Tryz.underlying57 rfl (by kernel_rfl)) rfl ?_
      exact ⟨_, HC.out, (by unfold TopOut; dsimp only; rw [HQ.out]; exact ⟨hcn, rfl⟩), hbl3⟩
theorem statementT_call (s : ByteArray) (w : World) (ht : Tab w) : Calls Tryz.prog 6 #[.string s] w (TopPost StmRep (stmZ Stm.zero) pStatement s w) := statementK_call 0 s w ht
end Go.Proofs.YtpmncgbpbcgfaaaGreatDoor
