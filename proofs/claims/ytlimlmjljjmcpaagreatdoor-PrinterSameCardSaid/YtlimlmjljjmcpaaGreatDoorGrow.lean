/-
  Regions that draw their order, whose first operations read and call functions that only make new memory: what each yields does not depend on the world, as long as it is one of a family (the worlds that are only grown). One walk for all orders; the last operations follow one another.
-/
import Derived.StillTail
import Derived.StillTactics
import Derived.Below
import Derived.Deep.MidRow
set_option linter.unusedVariables false
namespace Go.Proofs.YtlimlmjljjmcpaaGreatDoor.Gr
open Go
section
variable {P : Program} {ops : Array Oper} {md : Region.Mode} {I : World → Prop}
/-- an operation's run at a world of the family: it yields this value, and the world is still one of the family -/
def grown (P : Program) (I : World → Prop) (w : World) (v : Value) : Result Next → Prop
  | .ok (.value u) w' => w' = w ∧ u = v
  | .ok .skip w' => w' = w ∧ undef = v
  | .ok (.enter f args) w' => w' = w ∧ Calls P f args w fun e w'' => e = .returned v ∧ I w''
  | _ => False
def Says (P : Program) (ops : Array Oper) (I : World → Prop) (o : Oper) (v : Value) (a : Act) : Prop :=
  if Region.wanted o (yielded ops a.tmps) = true then ∀ w, I w → grown P I w v ((execOp a.eval o).run P w) else v = undef
/-- the operations in the text's order -/
def Line (P : Program) (ops : Array Oper) (I : World → Prop) (Q : Act → Prop) : List Oper → Act → Prop
  | [], a => Q a
  | o :: l, a => ∃ v, Says P ops I o v a ∧ Line P ops I Q l (a.put o.dst v)
theorem line_nil {Q : Act → Prop} {a : Act} (h : Q a) : Line P ops I Q [] a := h
theorem line_step {Q : Act → Prop} {o : Oper} {l : List Oper} {a : Act} (v : Value) (h : if Region.wanted o (yielded ops a.tmps) = true then ∀ w, I w → grown P I w v ((execOp a.eval o).run P w) else v = undef)
    (hl : Line P ops I Q l (a.put o.dst v)) : Line P ops I Q (o :: l) a := ⟨v, h, hl⟩
theorem grown_value {w : World} {v u : Value} : grown P I w v (.ok (.value u) w) = (u = v) := by simp [grown]
theorem grown_skip {w : World} {v : Value} : grown P I w v (.ok .skip w) = (undef = v) := by simp [grown]
theorem grown_enter {w : World} {v : Value} {f : FuncId} {args : Array Value} : grown P I w v (.ok (.enter f args) w) = Calls P f args w (fun e w'' => e = .returned v ∧ I w'') := by simp [grown]
/-- a value of some cells is loaded -/
theorem line_load {Q : Act → Prop} {o : Oper} {l : List Oper} {a : Act} (hw : Region.wanted o (yielded ops a.tmps) = true) (ty : TypeId) (x : Operand) (ho : o.op = .load ty x) (b k : Nat) (hx : a.eval x = .pointer (some ⟨b, k, none⟩)) (cs : List Value) (d : TypeDesc)
    (hc : ∀ w, I w → w.rangeAt b k cs) (hu : P.underlying ty = some d) (hd : d.isRow = true) (hi : (P.info? ty).map (·.size) = some cs.length) (h : Line P ops I Q l (a.put o.dst (.agg cs.toArray))) : Line P ops I Q (o :: l) a :=
  line_step (.agg cs.toArray) (by
    rw [if_pos hw]
    intro w hI
    unfold execOp
    simp only [ho, hx, Instr.loadAt, Instr.sureAddr, Sem.run_bind, Sem.run_pure, Result.andThen_ok, run_loadVar_mid w b k ty cs d (hc w hI) hu hd hi]
    rw [grown_value]) h
/-- the frame is written out anew: 'refine line_norm fun K hK => ?_; go_simp; refine hK _ ?_; clear hK K' -/
theorem line_norm {Q : Act → Prop} {l : List Oper} {a : Act} (h : ∀ K : Act → Prop, (∀ a, Line P ops I Q l a → K a) → K a) : Line P ops I Q l a := h _ fun _ h => h
theorem Says.same {o : Oper} {v : Value} {a a' : Act} (h : Says P ops I o v a) (he : execOp a'.eval o = execOp a.eval o) (hw : Region.wanted o (yielded ops a'.tmps) = Region.wanted o (yielded ops a.tmps)) : Says P ops I o v a' := by
  unfold Says at *
  rw [he, hw]
  exact h
theorem Says.op {o : Oper} {v : Value} {a : Act} {i : Nat} {K : Act → World → Prop} {Q : Exit → Act → World → Prop} (hi : ops[i]? = some o) (h : Says P ops I o v a) {w : World} (hw : I w) (hK : ∀ w', I w' → K (a.put o.dst v) w') : wpOp P ops Q i K a w := by
  unfold Says at h
  unfold wpOp
  simp only [hi]
  split
  · rename_i hd
    rw [if_pos hd] at h
    have h1 := h w hw
    refine .inl ?_
    unfold Oper.wp
    generalize (execOp a.eval o).run P w = r at h1 ⊢
    cases r with
    | halt x w' => exact h1.elim
    | ok n w' =>
      cases n with
      | value u => obtain ⟨rfl, rfl⟩ := h1; exact hK _ hw
      | skip => obtain ⟨rfl, h2⟩ := h1; rw [← h2] at hK; exact hK _ hw
      | enter f args =>
        obtain ⟨rfl, hc⟩ := h1
        exact hc.mono fun e w'' ⟨he, hw''⟩ => by subst he; exact hK _ hw''
      | _ => exact h1.elim
  · rename_i hd
    rw [if_neg hd] at h
    subst h
    exact hK w hw
/-- the first n operations in any order that the region allows -/
def Free (P : Program) (md : Region.Mode) (ops : Array Oper) (I : World → Prop) (n : Nat) (L : Array Bool → Act → Prop) : Nat → Array Bool → Act → Prop
  | 0, d, a => L d a
  | f + 1, d, a => Region.ready md ops d ≠ [] ∧ ∀ i ∈ Region.ready md ops d, i < n ∧ ∃ o v, ops[i]? = some o ∧ Says P ops I o v a ∧ Free P md ops I n L f (d.setIfInBounds i true) (a.put o.dst v)
theorem free_any {n g : Nat} {L : Array Bool → Act → Prop} {Q : Exit → Act → World → Prop} (hL : ∀ d a w, I w → L d a → wpAny P md ops Q g d a w) :
    ∀ (f : Nat) (d : Array Bool) (a : Act) (w : World), I w → Free P md ops I n L f d a → wpAny P md ops Q (f + g) d a w
  | 0, d, a, w, hw, h => by rw [Nat.zero_add]; exact hL _ _ _ hw h
  | f + 1, d, a, w, hw, h => by
    rw [show f + 1 + g = (f + g) + 1 by omega]
    refine ⟨fun h0 => absurd h0 h.1, fun i hi => ?_⟩
    obtain ⟨_, o, v, ho, hs, hr⟩ := h.2 i hi
    exact hs.op ho hw fun w' hw' => free_any hL f _ _ w' hw' hr
/-- an operation that is ready may come first -/
theorem free_first {n k : Nat} {o : Oper} {v : Value} {L : Array Bool → Act → Prop} (hk : ops[k]? = some o) (hsel : ∀ (j : Nat) (o : Oper) cs b, ops[j]? = some o → o.op ≠ .select cs b)
    (hs : Region.sinkB md ops n = true) (hc : Region.chainB md ops n = true) (hn : n < ops.size) (hkn : k < n) (hL : ∀ d a, L d a → ∀ j ∈ Region.ready md ops d, n ≤ j) :
    ∀ (f : Nat) (d : Array Bool) (a : Act), HeadInv md ops n d →
      (∀ j oj, ops[j]? = some oj → j ≠ k → d.getD j true = false → (∀ e ∈ oj.after, Region.binds md e = true → e.on ≠ k) → o.apart ops oj = true) →
      k ∈ Region.ready md ops d → Says P ops I o v a → Free P md ops I n L f (d.setIfInBounds k true) (a.put o.dst v) → Free P md ops I n L (f + 1) d a := by
  intro f
  induction f with
  | zero =>
    intro d a inv _ hr hy H
    refine ⟨fun h => (by rw [h] at hr; cases hr), fun j hj => ?_⟩
    have hjn : j < n := Nat.lt_of_not_le fun hle => tail_waits hs hc hn inv _ k rfl hkn (mem_ready.1 hr).1 j hle hj
    by_cases hjk : j = k
    · subst hjk; exact ⟨hjn, o, v, hk, hy, H⟩
    · have := hL _ _ H j (ready_mono hj hjk)
      omega
  | succ f ih =>
    intro d a inv hfree hr hy H
    refine ⟨fun h => (by rw [h] at hr; cases hr), fun j hj => ?_⟩
    have hjn : j < n := Nat.lt_of_not_le fun hle => tail_waits hs hc hn inv _ k rfl hkn (mem_ready.1 hr).1 j hle hj
    by_cases hjk : j = k
    · subst hjk; exact ⟨hjn, o, v, hk, hy, H⟩
    · obtain ⟨_, oj, u, hoj, hyj, Hj⟩ := H.2 j (ready_mono hj hjk)
      obtain ⟨hjun, oj', hoj', hall⟩ := mem_ready.1 hj
      obtain rfl : oj' = oj := Option.some.inj (hoj'.symm.trans hoj)
      have hno : ∀ e ∈ oj'.after, Region.binds md e = true → e.on ≠ k := fun e he hb e0 => by
        have h1 := hall e he hb
        rw [e0, getD_both (mem_ready.1 hr).1] at h1
        cases h1
      obtain ⟨a1, a2, a3⟩ := Oper.apart_spec (hfree j oj' hoj hjk hjun hno)
      refine ⟨hjn, oj', u, hoj, hyj.same (execOp_put oj' (hsel j oj' · · hoj) a o.dst v a1).symm (wanted_put oj' a o.dst v a1).symm, ih _ _ (inv.set hj hjn) (fun m om hm hmk hun hno' => hfree m om hm hmk ?_ hno') (ready_mono hr (Ne.symm hjk))
        (hy.same (execOp_put o (hsel k o · · hk) a oj'.dst u a3) (wanted_put o a oj'.dst u a3)) ?_⟩
      · by_cases hjm : j = m
        · subst hjm; exact hjun
        · rw [getD_set_ne true hjm] at hun; exact hun
      · rw [Array.setIfInBounds_comm _ _ hjk, ← Act.put_comm a v u a2]
        exact Hj
theorem free_line {n g : Nat} {Q : Act → Prop} (hsel : Region.noSelect ops = true) (hs : Region.sinkB md ops n = true) (hc : Region.chainB md ops n = true) (hn : n < ops.size) :
    ∀ (l : List Oper) (k : Nat) (d : Array Bool) (a : Act), (∀ j, j < l.length → l[j]? = ops[k + j]?) → k + l.length = n → HeadInv md ops n d → Region.lexHead md ops g l.length k d = true →
      Line P ops I Q l a → Free P md ops I n (fun d' a' => Region.seqB md ops g n d' = true ∧ Q a') l.length d a
  | [], k, d, a, _, hk, _, hB, h => by
    obtain rfl : k = n := by simpa using hk
    exact ⟨by simpa [Region.lexHead] using hB, h⟩
  | o :: l, k, d, a, hl, hk, inv, hB, h => by
    have h0 : ops[k]? = some o := by simpa using (hl 0 (by simp)).symm
    simp only [List.length_cons, Region.lexHead, Bool.and_eq_true] at hB
    obtain ⟨⟨hr, hf⟩, hB'⟩ := hB
    simp only [List.length_cons] at hk
    have hr' : k ∈ Region.ready md ops d := by simpa using hr
    obtain ⟨v, hy, hK⟩ := h
    exact free_first h0 (Region.noSelect_spec hsel) hs hc hn (by omega) (fun d' a' hL => seqB_ready hL.1) l.length d a inv (Region.free_spec h0 hf) hr' hy
      (free_line hsel hs hc hn l (k + 1) _ _ (fun j hj => by have := hl (j + 1) (by simp; omega); simpa [Nat.add_assoc, Nat.add_comm 1 j] using this) (by omega) (inv.set hr' (by omega)) hB' hK)
/-- the law: the region's first n operations by one walk over the family, the rest one after another from whatever world of the family -/
theorem region_grow {id : Nat} {Q : Exit → Act → World → Prop} {a : Act} {w : World} {l : List Oper} (n : Nat) (hm : P.follows .mixedOrders = true) (hB : Region.lexTailB .any l.toArray n = true) (I : World → Prop) (hI : I { w with drawn := w.drawn + 1 })
    (h : Line P l.toArray I (fun a' => ∀ w', I w' → wpList P l.toArray Q (l.drop n) a' w') (l.take n) a) : (Code.region id l.toArray true).wp P Q a w := by
  simp only [Region.lexTailB, Bool.and_eq_true, decide_eq_true_eq] at hB
  obtain ⟨⟨⟨⟨hsel, hn⟩, hs⟩, hc⟩, hlex⟩ := hB
  have hn' : n < l.length := by simpa using hn
  have htl : (l.take n).length = n := by simp; omega
  have hdl : (l.drop n).length = l.toArray.size - n := by simp
  have inv0 : HeadInv .any l.toArray n (Array.replicate l.toArray.size false) :=
    ⟨by simp, fun j oj _ hl => (by rw [getD_replicate_false] at hl; cases hl), fun t _ ht => getD_in (by simpa using ht) (getD_replicate_false _ _)⟩
  have H := free_line (md := .any) (g := l.toArray.size - n) hsel hs hc hn (l.take n) 0 _ a (fun j hj => by
    have hj' : j < n := by rw [htl] at hj; exact hj
    simp [hj']) (by simpa using htl) inv0 (by rw [htl]; exact hlex) h
  refine wp_region_any hm ?_
  have := free_any (Q := Q) (g := l.toArray.size - n) (fun d a' w' hw' hL => by
    have := wpAny_of_seq (md := .any) (Q' := Q) (l.drop n) n d a' w' (fun j => by simp [List.getElem?_drop]) (by rw [hdl]; exact hL.1) (hL.2 w' hw')
    rwa [hdl] at this) _ _ _ _ hI H
  rw [htl, show n + (l.toArray.size - n) = l.toArray.size by omega] at this
  exact this
end
end Go.Proofs.YtlimlmjljjmcpaaGreatDoor.Gr
