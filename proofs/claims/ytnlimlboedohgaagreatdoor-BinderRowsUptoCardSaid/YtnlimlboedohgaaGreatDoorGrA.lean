import Derived.StillTail
import Derived.StillTactics
import Derived.Below
import Derived.Deep.MidRow
/-
  Regions that draw their order, whose first operations read and call functions that only make new memory: what each yields does not depend on the world, as long as it is one of a family (the worlds that are only grown). One walk for all orders; the last operations follow one another.
-/
set_option linter.unusedVariables false
namespace Go.Proofs.YtnlimlboedohgaaGreatDoor.Gr
open Go
section
variable {P : Program} {ops : Array Oper} {md : Region.Mode} {I : World -> Prop}
/-- an operation's run at a world of the family: it yields this value, and the world is still one of the family -/
def grown (P : Program) (I : World -> Prop) (w : World) (v : Value) : Result Next -> Prop
 | .ok (.value u) w' => w' = w /\ u = v
 | .ok .skip w' => w' = w /\ undef = v
 | .ok (.enter f args) w' => w' = w /\ Calls P f args w fun e w'' => e = .returned v /\ I w''
 | _ => False
def Says (P : Program) (ops : Array Oper) (I : World -> Prop) (o : Oper) (v : Value) (a : Act) : Prop :=
 if Region.wanted o (yielded ops a.tmps) = true then ∀ w, I w -> grown P I w v ((execOp a.eval o).run P w) else v = undef
/-- the operations in the text's order -/
def Line (P : Program) (ops : Array Oper) (I : World -> Prop) (Q : Act -> Prop) : List Oper -> Act -> Prop
 | [], a => Q a
 | o :: l, a => ∃ v, Says P ops I o v a /\ Line P ops I Q l (a.put o.dst v)
theorem line_nil {Q : Act -> Prop} {a : Act} (h : Q a) : Line P ops I Q [] a := h
theorem line_step {Q : Act -> Prop} {o : Oper} {l : List Oper} {a : Act} (v : Value) (h : if Region.wanted o (yielded ops a.tmps) = true then ∀ w, I w -> grown P I w v ((execOp a.eval o).run P w) else v = undef)
  (hl : Line P ops I Q l (a.put o.dst v)) : Line P ops I Q (o :: l) a := ⟨v, h, hl⟩
theorem grown_value {w : World} {v u : Value} : grown P I w v (.ok (.value u) w) = (u = v) := by simp [grown]
theorem grown_enter {w : World} {v : Value} {f : FuncId} {args : Array Value} : grown P I w v (.ok (.enter f args) w) = Calls P f args w (fun e w'' => e = .returned v /\ I w'') := by simp [grown]
/-- the frame is written out anew: 'refine line_norm fun K hK => ?_; go_simp; refine hK _ ?_; clear hK K' -/
theorem line_norm {Q : Act -> Prop} {l : List Oper} {a : Act} (h : ∀ K : Act -> Prop, (∀ a, Line P ops I Q l a -> K a) -> K a) : Line P ops I Q l a := h _ fun _ h => h
theorem sn {Q : Act -> Prop} {o : Oper} {l : List Oper} {a : Act} (v : Value) (h : if Region.wanted o (yielded ops a.tmps) = true then ∀ w, I w -> grown P I w v ((execOp a.eval o).run P w) else v = undef)
  (hl : ∀ K : Act -> Prop, (∀ a, Line P ops I Q l a -> K a) -> K (a.put o.dst v)) : Line P ops I Q (o :: l) a := line_step v h (hl _ fun _ h => h)
theorem Says.same {o : Oper} {v : Value} {a a' : Act} (h : Says P ops I o v a) (he : execOp a'.eval o = execOp a.eval o) (hw : Region.wanted o (yielded ops a'.tmps) = Region.wanted o (yielded ops a.tmps)) : Says P ops I o v a' := by
 unfold Says at *
 rw [he, hw]
 exact h
theorem Says.op {o : Oper} {v : Value} {a : Act} {i : Nat} {K : Act -> World -> Prop} {Q : Exit -> Act -> World -> Prop} (hi : ops[i]? = some o) (h : Says P ops I o v a) {w : World} (hw : I w) (hK : ∀ w', I w' -> K (a.put o.dst v) w') : wpOp P ops Q i K a w := by
 unfold Says at h
 unfold wpOp
 simp only [hi]
 split
 ·rename_i hd
  rw [if_pos hd] at h
  have h1 := h w hw
  refine .inl ?_
  unfold Oper.wp
  generalize (execOp a.eval o).run P w = r at h1 |-
  cases r with
  | halt x w' => exact h1.elim
  | ok n w' =>
   cases n with
   | value u => obtain ⟨rfl, rfl⟩ := h1; exact hK _ hw
   | skip => obtain ⟨rfl, h2⟩ := h1; rw [<- h2] at hK; exact hK _ hw
   | enter f args =>
    obtain ⟨rfl, hc⟩ := h1
    exact hc.mono fun e w'' ⟨he, hw''⟩ => by subst he; exact hK _ hw''
   | _ => exact h1.elim
 ·rename_i hd
  rw [if_neg hd] at h
  subst h
  exact hK w hw
/-- the first n operations in any order that the region allows -/
def Free (P : Program) (md : Region.Mode) (ops : Array Oper) (I : World -> Prop) (n : Nat) (L : Array Bool -> Act -> Prop) : Nat -> Array Bool -> Act -> Prop
 | 0, d, a => L d a
 | f + 1, d, a => Region.ready md ops d ≠ [] /\ ∀ i ∈ Region.ready md ops d, i < n /\ ∃ o v, ops[i]? = some o /\ Says P ops I o v a /\ Free P md ops I n L f (d.setIfInBounds i true) (a.put o.dst v)
theorem free_any {n g : Nat} {L : Array Bool -> Act -> Prop} {Q : Exit -> Act -> World -> Prop} (hL : ∀ d a w, I w -> L d a -> wpAny P md ops Q g d a w) :
  ∀ (f : Nat) (d : Array Bool) (a : Act) (w : World), I w -> Free P md ops I n L f d a -> wpAny P md ops Q (f + g) d a w
 | 0, d, a, w, hw, h => by rw [Nat.zero_add]; exact hL _ _ _ hw h
 | f + 1, d, a, w, hw, h => by
  rw [show f + 1 + g = (f + g) + 1 by omega]
  refine ⟨fun h0 => absurd h0 h.1, fun i hi => ?_⟩
  obtain ⟨_, o, v, ho, hs, hr⟩ := h.2 i hi
  exact hs.op ho hw fun w' hw' => free_any hL f _ _ w' hw' hr
/-- an operation that is ready may come first -/
theorem free_first {n k : Nat} {o : Oper} {v : Value} {L : Array Bool -> Act -> Prop} (hk : ops[k]? = some o) (hsel : ∀ (j : Nat) (o : Oper) cs b, ops[j]? = some o -> o.op ≠ .select cs b)
  (hs : Region.sinkB md ops n = true) (hc : Region.chainB md ops n = true) (hn : n < ops.size) (hkn : k < n) (hL : ∀ d a, L d a -> ∀ j ∈ Region.ready md ops d, n <= j) :
  ∀ (f : Nat) (d : Array Bool) (a : Act), HeadInv md ops n d ->
   (∀ j oj, ops[j]? = some oj -> j ≠ k -> d.getD j true = false -> (∀ e ∈ oj.after, Region.binds md e = true -> e.on ≠ k) -> o.apart ops oj = true) ->
   k ∈ Region.ready md ops d -> Says P ops I o v a -> Free P md ops I n L f (d.setIfInBounds k true) (a.put o.dst v) -> Free P md ops I n L (f + 1) d a := by
 intro f
 induction f with
 | zero =>
  intro d a inv _ hr hy H
  refine ⟨fun h => (by rw [h] at hr; cases hr), fun j hj => ?_⟩
  have hjn : j < n := Nat.lt_of_not_le fun hle => tail_waits hs hc hn inv _ k rfl hkn (mem_ready.1 hr).1 j hle hj
  by_cases hjk : j = k
  ·subst hjk; exact ⟨hjn, o, v, hk, hy, H⟩
  ·have := hL _ _ H j (ready_mono hj hjk)
   omega
 | succ f ih =>
  intro d a inv hfree hr hy H
  refine ⟨fun h => (by rw [h] at hr; cases hr), fun j hj => ?_⟩
  have hjn : j < n := Nat.lt_of_not_le fun hle => tail_waits hs hc hn inv _ k rfl hkn (mem_ready.1 hr).1 j hle hj
  by_cases hjk : j = k
  ·subst hjk; exact ⟨hjn, o, v, hk, hy, H⟩
  ·obtain ⟨_, oj, u, hoj, hyj, Hj⟩ := H.2 j (ready_mono hj hjk)
   obtain ⟨hjun, oj', hoj', hall⟩ := mem_ready.1 hj
   obtain rfl : oj' = oj := Option.some.inj (hoj'.symm.trans hoj)
   have hno : ∀ e ∈ oj'.after, Region.binds md e = true -> e.on ≠ k := fun e he hb e0 => by
    have h1 := hall e he hb
    rw [e0, getD_both (mem_ready.1 hr).1] at h1
    cases h1
   obtain ⟨a1, a2, a3⟩ := Oper.apart_spec (hfree j oj' hoj hjk hjun hno)
   refine ⟨hjn, oj', u, hoj, hyj.same (execOp_put oj' (hsel j oj' · · hoj) a o.dst v a1).symm (wanted_put oj' a o.dst v a1).symm, ih _ _ (inv.set hj hjn) (fun m om hm hmk hun hno' => hfree m om hm hmk ?_ hno') (ready_mono hr (Ne.symm hjk))
    (hy.same (execOp_put o (hsel k o · · hk) a oj'.dst u a3) (wanted_put o a oj'.dst u a3)) ?_⟩
   ·by_cases hjm : j = m
    ·subst hjm; exact hjun
    ·rw [getD_set_ne true hjm] at hun; exact hun
   ·rw [Array.setIfInBounds_comm _ _ hjk, <- Act.put_comm a v u a2]
    exact Hj
theorem free_line {n g : Nat} {Q : Act -> Prop} (hsel : Region.noSelect ops = true) (hs : Region.sinkB md ops n = true) (hc : Region.chainB md ops n = true) (hn : n < ops.size) :
  ∀ (l : List Oper) (k : Nat) (d : Array Bool) (a : Act), (∀ j, j < l.length -> l[j]? = ops[k + j]?) -> k + l.length = n -> HeadInv md ops n d -> Region.lexHead md ops g l.length k d = true ->
   Line P ops I Q l a -> Free P md ops I n (fun d' a' => Region.seqB md ops g n d' = true /\ Q a') l.length d a
 | [], k, d, a, _, hk, _, hB, h => by
  obtain rfl : k = n := by simpa using hk
  exact ⟨by simpa [Region.lexHead] using hB, h⟩
 | o :: l, k, d, a, hl, hk, inv, hB, h => by
  have h0 : ops[k]? = some o := by simpa using (hl 0 (by simp)).symm
  simp only [List.length_cons, Region.lexHead, Bool.and_eq_true] at hB
  obtain ⟨⟨hr, hf⟩, hB'⟩ := hB
  simp only [List.length_cons] at hk
  have hr' : k ∈ Region.ready md ops d := by simpa using hr
  obtain ⟨v, hy, hK⟩ := h
  exact free_first h0 (Region.noSelect_spec hsel) hs hc hn (by omega) (fun d' a' hL => seqB_ready hL.1) l.length d a inv (Region.free_spec h0 hf) hr' hy
   (free_line hsel hs hc hn l (k + 1) _ _ (fun j hj => by have := hl (j + 1) (by simp; omega); simpa [Nat.add_assoc, Nat.add_comm 1 j] using this) (by omega) (inv.set hr' (by omega)) hB' hK)
/-- the law: the region's first n operations by one walk over the family, the rest one after another from whatever world of the family -/
theorem region_grow {id : Nat} {Q : Exit -> Act -> World -> Prop} {a : Act} {w : World} {l : List Oper} (n : Nat) (hm : P.follows .mixedOrders = true) (hB : Region.lexTailB .any l.toArray n = true) (I : World -> Prop) (hI : I { w with drawn := w.drawn + 1 })
  (h : Line P l.toArray I (fun a' => ∀ w', I w' -> wpList P l.toArray Q (l.drop n) a' w') (l.take n) a) : (Code.region id l.toArray true).wp P Q a w := by
 simp only [Region.lexTailB, Bool.and_eq_true, decide_eq_true_eq] at hB
 obtain ⟨⟨⟨⟨hsel, hn⟩, hs⟩, hc⟩, hlex⟩ := hB
 have hn' : n < l.length := by simpa using hn
 have htl : (l.take n).length = n := by simp; omega
 have hdl : (l.drop n).length = l.toArray.size - n := by simp
 have inv0 : HeadInv .any l.toArray n (Array.replicate l.toArray.size false) :=
  ⟨by simp, fun j oj _ hl => (by rw [getD_replicate_false] at hl; cases hl), fun t _ ht => getD_in (by simpa using ht) (getD_replicate_false _ _)⟩
 have H := free_line (md := .any) (g := l.toArray.size - n) hsel hs hc hn (l.take n) 0 _ a (fun j hj => by
  have hj' : j < n := by rw [htl] at hj; exact hj
  simp [hj']) (by simpa using htl) inv0 (by rw [htl]; exact hlex) h
 refine wp_region_any hm ?_
 have := free_any (Q := Q) (g := l.toArray.size - n) (fun d a' w' hw' hL => by
  have := wpAny_of_seq (md := .any) (Q' := Q) (l.drop n) n d a' w' (fun j => by simp [List.getElem?_drop]) (by rw [hdl]; exact hL.1) (hL.2 w' hw')
  rwa [hdl] at this) _ _ _ _ hI H
 rw [htl, show n + (l.toArray.size - n) = l.toArray.size by omega] at this
 exact this
end
end Go.Proofs.YtnlimlboedohgaaGreatDoor.Gr

/-
  Regions that draw their order, with stores among the first operations: what is known of the world depends on which operations are done. One walk for all orders.
-/
set_option linter.unusedVariables false
namespace Go.Proofs.YtnlimlboedohgaaGreatDoor.Gr
open Go
section
variable {P : Program} {ops : Array Oper} {md : Region.Mode} {J : Array Bool -> World -> Prop}
def grownD (P : Program) (I : World -> Prop) (w : World) (v : Value) : Result Next -> Prop
 | .ok (.value u) w' => w' = w /\ u = v /\ I w
 | .ok .skip w' => undef = v /\ I w'
 | .ok (.enter f args) w' => w' = w /\ Calls P f args w fun e w'' => e = .returned v /\ I w''
 | _ => False
def SaysD (P : Program) (ops : Array Oper) (J : Array Bool -> World -> Prop) (i : Nat) (o : Oper) (v : Value) (a : Act) : Prop :=
 if Region.wanted o (yielded ops a.tmps) = true then ∀ d w, J d w -> grownD P (J (d.setIfInBounds i true)) w v ((execOp a.eval o).run P w) else v = undef /\ ∀ d w, J d w -> J (d.setIfInBounds i true) w
theorem SaysD.same {i : Nat} {o : Oper} {v : Value} {a a' : Act} (h : SaysD P ops J i o v a) (he : execOp a'.eval o = execOp a.eval o) (hw : Region.wanted o (yielded ops a'.tmps) = Region.wanted o (yielded ops a.tmps)) : SaysD P ops J i o v a' := by
 unfold SaysD at *
 rw [he, hw]
 exact h
theorem SaysD.op {o : Oper} {v : Value} {a : Act} {i : Nat} {d : Array Bool} {K : Act -> World -> Prop} {Q : Exit -> Act -> World -> Prop} (hi : ops[i]? = some o) (h : SaysD P ops J i o v a) {w : World} (hw : J d w) (hK : ∀ w', J (d.setIfInBounds i true) w' -> K (a.put o.dst v) w') : wpOp P ops Q i K a w := by
 unfold SaysD at h
 unfold wpOp
 simp only [hi]
 split
 ·rename_i hd
  rw [if_pos hd] at h
  have h1 := h d w hw
  refine .inl ?_
  unfold Oper.wp
  generalize (execOp a.eval o).run P w = r at h1 |-
  cases r with
  | halt x w' => exact h1.elim
  | ok n w' =>
   cases n with
   | value u => obtain ⟨rfl, rfl, h2⟩ := h1; exact hK _ h2
   | skip => obtain ⟨h2, h3⟩ := h1; rw [<- h2] at hK; exact hK _ h3
   | enter f args =>
    obtain ⟨rfl, hc⟩ := h1
    exact hc.mono fun e w'' ⟨he, hw''⟩ => by subst he; exact hK _ hw''
   | _ => exact h1.elim
 ·rename_i hd
  rw [if_neg hd] at h
  obtain ⟨rfl, h2⟩ := h
  exact hK w (h2 d w hw)
end
end Go.Proofs.YtnlimlboedohgaaGreatDoor.Gr

/-
  Regions that draw their order, whose first operation is a plain value that only the last operations wait for: it is taken first; the operations behind it by one walk over a family of worlds; the last ones follow one another.
-/
set_option linter.unusedVariables false
set_option linter.unusedSimpArgs false
namespace Go.Proofs.YtnlimlboedohgaaGreatDoor.Gr
open Go
section
variable {P : Program} {ops : Array Oper} {md : Region.Mode} {I : World -> Prop}
end
end Go.Proofs.YtnlimlboedohgaaGreatDoor.Gr

/-
  Regions that draw their order, with allocations and appends among the first operations: which world it is depends on which operations are done. One walk for all orders; each step may use that its operation is not done yet, and that those it waits for are.
-/
set_option linter.unusedVariables false
namespace Go.Proofs.YtnlimlboedohgaaGreatDoor.Gr
open Go
section
variable {P : Program} {ops : Array Oper} {md : Region.Mode} {J : Array Bool -> World -> Prop}
def grownE (P : Program) (I : World -> Prop) (w : World) (v : Value) : Result Next -> Prop
 | .ok (.value u) w' => u = v /\ I w'
 | .ok .skip w' => undef = v /\ I w'
 | .ok (.enter f args) w' => w' = w /\ Calls P f args w fun e w'' => e = .returned v /\ I w''
 | _ => False
/-- an operation may come next -/
def Next (md : Region.Mode) (o : Oper) (i : Nat) (d : Array Bool) : Prop := d.getD i true = false /\ ∀ e ∈ o.after, Region.binds md e = true -> d.getD e.on false = true
def SaysE (P : Program) (md : Region.Mode) (ops : Array Oper) (J : Array Bool -> World -> Prop) (i : Nat) (o : Oper) (v : Value) (a : Act) : Prop :=
 if Region.wanted o (yielded ops a.tmps) = true then ∀ d w, Next md o i d -> J d w -> grownE P (J (d.setIfInBounds i true)) w v ((execOp a.eval o).run P w) else v = undef /\ ∀ d w, Next md o i d -> J d w -> J (d.setIfInBounds i true) w
theorem SaysE.same {i : Nat} {o : Oper} {v : Value} {a a' : Act} (h : SaysE P md ops J i o v a) (he : execOp a'.eval o = execOp a.eval o) (hw : Region.wanted o (yielded ops a'.tmps) = Region.wanted o (yielded ops a.tmps)) : SaysE P md ops J i o v a' := by
 unfold SaysE at *
 rw [he, hw]
 exact h
theorem SaysE.op {o : Oper} {v : Value} {a : Act} {i : Nat} {d : Array Bool} {K : Act -> World -> Prop} {Q : Exit -> Act -> World -> Prop} (hi : ops[i]? = some o) (h : SaysE P md ops J i o v a) {w : World} (hn : Next md o i d) (hw : J d w) (hK : ∀ w', J (d.setIfInBounds i true) w' -> K (a.put o.dst v) w') : wpOp P ops Q i K a w := by
 unfold SaysE at h
 unfold wpOp
 simp only [hi]
 split
 ·rename_i hd
  rw [if_pos hd] at h
  have h1 := h d w hn hw
  refine .inl ?_
  unfold Oper.wp
  generalize (execOp a.eval o).run P w = r at h1 |-
  cases r with
  | halt x w' => exact h1.elim
  | ok n w' =>
   cases n with
   | value u => obtain ⟨rfl, h2⟩ := h1; exact hK _ h2
   | skip => obtain ⟨h2, h3⟩ := h1; rw [<- h2] at hK; exact hK _ h3
   | enter f args =>
    obtain ⟨rfl, hc⟩ := h1
    exact hc.mono fun e w'' ⟨he, hw''⟩ => by subst he; exact hK _ hw''
   | _ => exact h1.elim
 ·rename_i hd
  rw [if_neg hd] at h
  obtain ⟨rfl, h2⟩ := h
  exact hK w (h2 d w hn hw)
theorem next_lt {md : Region.Mode} {o : Oper} {i : Nat} {d : Array Bool} (h : Next md o i d) : i < d.size := by
 rcases Nat.lt_or_ge i d.size with hl | hg
 ·exact hl
 ·have := h.1
  rw [Array.getD_eq_getD_getElem?, Array.getElem?_eq_none hg] at this
  cases this
theorem next_off {md : Region.Mode} {o : Oper} {i : Nat} {d : Array Bool} (h : Next md o i d) : d.getD i false = false := getD_both h.1
theorem set_on {d : Array Bool} {i : Nat} (h : i < d.size) : (d.setIfInBounds i true).getD i false = true := by
 rw [Array.getD_eq_getD_getElem?, Array.getElem?_setIfInBounds_self_of_lt h]; rfl
/-- one operation makes memory: the world ahead of it and behind it -/
def J2 (p : Nat) (W0 W1 : World) (d : Array Bool) (w : World) : Prop := w = if d.getD p false = true then W1 else W0
/-- two operations, one behind the other, make memory -/
def J3 (p q : Nat) (W0 W1 W2 : World) (d : Array Bool) (w : World) : Prop := (d.getD q false = true -> d.getD p false = true) /\ w = if d.getD q false = true then W2 else if d.getD p false = true then W1 else W0
section
variable {p q i : Nat} {W0 W1 W2 w : World} {d : Array Bool} {o : Oper} {md : Region.Mode}
theorem J2.at_ (h : J2 p W0 W1 d w) (hn : Next md o p d) : w = W0 /\ J2 p W0 W1 (d.setIfInBounds p true) W1 := by
 unfold J2 at *
 rw [next_off hn] at h
 rw [set_on (next_lt hn)]
 exact ⟨by simpa using h, by simp⟩
theorem J2.start {n : Nat} : J2 p W0 W1 (Array.replicate n false) W0 := by
 unfold J2
 rw [getD_replicate_false]
 simp
theorem J2.done {n : Nat} (hd : ∀ j, j < n -> d[j]? = some true) (hp : p < n) (h : J2 p W0 W1 d w) : w = W1 := by
 unfold J2 at h
 rw [Array.getD_eq_getD_getElem?, hd p hp] at h
 simpa using h
theorem J2.below (h : J2 p W0 W1 d w) {n : Nat} {v : World} (h0 : RowKit.Below n v W0) (h1 : RowKit.Below n v W1) : RowKit.Below n v w := by
 unfold J2 at h
 split at h <;> subst h
 ·exact h1
 ·exact h0
theorem J3.start {n : Nat} : J3 p q W0 W1 W2 (Array.replicate n false) W0 := by
 unfold J3
 rw [getD_replicate_false, getD_replicate_false]
 simp
theorem J3.done {n : Nat} (hd : ∀ j, j < n -> d[j]? = some true) (hq : q < n) (h : J3 p q W0 W1 W2 d w) : w = W2 := by
 have h := h.2
 rw [Array.getD_eq_getD_getElem? (i := q), hd q hq] at h
 simpa using h
theorem J3.below (h : J3 p q W0 W1 W2 d w) {n : Nat} {v : World} (h0 : RowKit.Below n v W0) (h1 : RowKit.Below n v W1) (h2 : RowKit.Below n v W2) : RowKit.Below n v w := by
 have h := h.2
 split at h
 ·subst h; exact h2
 ·split at h <;> subst h
  ·exact h1
  ·exact h0
end
end
end Go.Proofs.YtnlimlboedohgaaGreatDoor.Gr

