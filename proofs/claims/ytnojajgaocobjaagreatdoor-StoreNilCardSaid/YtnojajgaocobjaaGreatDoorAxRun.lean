/-
  Whole functions.
-/
import Derived.Test.YtnojajgaocobjaaGreatDoorAxOp
namespace Go.Proofs.YtnojajgaocobjaaGreatDoor.Ax
open Go.RowKit
set_option linter.unusedVariables false
set_option linter.unusedSimpArgs false

/-- a state of the reckoning, and a real one -/
structure SR (c : Cx) (g : Gm) (s : St) (a : Act) (w : World) : Prop where
  rf : RF g c.env s.tm s.n a
  rw : RW c g s.h s.nx w
  df : a.defers = []
/-- what is asked where code is left -/
def PostX (c : Cx) (g : Gm) (Q : Exit → Act → World → Prop) : RX → St → Prop
  | .normal, s => ∀ g' a' w', Ext g g' → SR c g' s a' w' → Q .normal a' w'
  | .exit id, s => ∀ g' a' w', Ext g g' → SR c g' s a' w' → Q (.exit id) a' w'
  | .ret, s => ∀ g' a' w', Ext g g' → SR c g' s a' w' → Q .ret a' w'
  | .panic r, s => ∀ g' v a' w', Ext g g' → SR c g' s a' w' → R g' c.env r v → Q (.panic [{ v, recovered := false }]) a' w'
def DrawOK (P : Program) (draw : DrawR) : Prop := ∀ ops s x s', draw ops s = some (x, s') → ∀ (c : Cx) (g : Gm) (a : Act) (w : World) (Q : Exit → Act → World → Prop) (id : Nat), SR c g s a w → PostX c g Q x s' → (Code.region id ops true).wp P Q a w
section
variable {P : Program} {c : Cx} {g : Gm} {call : CallR} {draw : DrawR}
theorem PostX.mono {Q : Exit → Act → World → Prop} {x : RX} {s : St} {g' : Gm} (h : PostX c g Q x s) (hg : Ext g g') : PostX c g' Q x s := by
  cases x with
  | normal => exact fun g'' a' w' he hs => h g'' a' w' (hg.trans he) hs
  | exit id => exact fun g'' a' w' he hs => h g'' a' w' (hg.trans he) hs
  | ret => exact fun g'' a' w' he hs => h g'' a' w' (hg.trans he) hs
  | panic r => exact fun g'' v a' w' he hs hr => h g'' v a' w' (hg.trans he) hs hr
theorem putR_some {β : Type} {t : Tr RV} {n : Nat} {d : Option Tmp} {r : RV} {k : Tr RV → Option β} {y : β} (hp : putR t n d r k = some y) : ∃ t', k t' = some y ∧ ∀ {g : Gm} {env : Nat → Value} {a : Act} {v : Value}, RF g env t n a → R g env r v → RF g env t' n (a.put d v) := by
  unfold putR at hp
  split at hp
  · exact ⟨t, hp, fun hf _ => hf.put_none _⟩
  · rename_i d
    cases hb : Nat.ble (d + 1) n with
    | false => rw [hb] at hp; cases hp
    | true =>
      rw [hb, cond_true, putT_eq] at hp
      exact ⟨_, hp, fun hf hr => hf.put (Nat.le_of_ble_eq_true hb) hr⟩
theorem put_defers_nil {a : Act} {d : Option Tmp} {v : Value} (h : a.defers = []) : (a.put d v).defers = [] := by
  cases d <;> exact h
theorem wanted_sound {t : Tr RV} {n : Nat} {a : Act} {ops : Array Oper} {o : Oper} {b : Bool} (hw : wantedR t ops o = some b) (hf : RF g c.env t n a) : Region.wanted o (yielded ops a.tmps) = b := by
  unfold wantedR at hw
  unfold Region.wanted
  split at hw
  · rename_i hg
    cases hw
    rw [hg]
  · rename_i j want hg
    rw [hg]
    simp only
    unfold yielded
    split at hw
    · rename_i hd
      cases hw
      rw [hd]
      rfl
    · rename_i d hd
      rw [hd]
      simp only [Option.bind_some]
      have hr := hf.at_ d
      have hx : ∀ v : Value, a.tmps.getD d undef = v → (a.tmps[d]? = none ∧ v = undef) ∨ a.tmps[d]? = some v := fun v hv => by
        cases hx : a.tmps[d]? with
        | none =>
          rw [Array.getD_eq_getD_getElem?, hx] at hv
          exact .inl ⟨rfl, hv.symm⟩
        | some u =>
          have : a.tmps.getD d undef = u := by simp [hx]
          rw [this] at hv
          exact .inr (by rw [hv])
      split at hw <;> try cases hw
      · rename_i ht
        rw [ht] at hr
        generalize hv : a.tmps.getD d undef = v at hr
        cases hr
        rcases hx _ hv with ⟨h1, _⟩ | h1 <;> rw [h1] <;> rfl
      · rename_i bb ht
        rw [ht] at hr
        generalize hv : a.tmps.getD d undef = v at hr
        cases hr
        rcases hx _ hv with ⟨h1, h2⟩ | h1
        · cases h2
        · rw [h1]
          cases bb <;> cases want <;> cases hw <;> rfl
      · rename_i vs ht
        rw [ht] at hr
        generalize hv : a.tmps.getD d undef = v at hr
        cases hr
        rcases hx _ hv with ⟨h1, _⟩ | h1 <;> rw [h1] <;> rfl
theorem panic_sound {t : Tr RV} {n : Nat} {a : Act} {o : Oper} {r : RV} (hp : panicR t o = some r) (hf : RF g c.env t n a) (w : World) : ∃ v, (execOp a.eval o).run P w = .halt (.panic v) w ∧ R g c.env r v := by
  unfold panicR at hp
  split at hp <;> try cases hp
  rename_i x ho
  have hx := evalR_R hf x
  split at hp <;> cases hp
  · rename_i ty v ex
    rw [ex] at hx
    generalize hv : a.eval x = xv at hx
    cases hx with
    | ifc hh =>
      refine ⟨_, ?_, .ifc hh⟩
      simp [execOp, ho, hv, Instr.panic, goPanic, Sem.run, Sem.bind]
  · rename_i ty v ex
    rw [ex] at hx
    generalize hv : a.eval x = xv at hx
    cases hx
    refine ⟨_, ?_, .lit _⟩
    simp [execOp, ho, hv, Instr.panic, goPanic, Sem.run, Sem.bind]
theorem op_sound (hcall : CallOK P call) {t : Tr RV} {h h' : Hp} {nx nx' : Nat} {o : Oper} {re : RE} {a : Act} {w : World} (he : opR P call t h nx o = some (re, h', nx')) (hρ : ∀ x ∈ o.op.operands, R g c.env (evalR t x) (a.eval x)) (hw : RW c g h nx w) {K : Act → World → Prop} {Q : Exit → Act → World → Prop}
    (hK : EndK c g h' nx' (fun e w' => match e with
      | .returned v => K (a.put o.dst v) w'
      | .panicked ch => Q (.panic ch) a w'
      | .outgrown => False) re) : o.wp P a w K Q := by
  unfold opR at he
  split at he
  · split at he <;> cases he
    rename_i r hr
    exact ((pure_sound hr hρ).doesN hw).step.wp fun g' v w' k1 k2 k3 => hK g' v w' k1 k2 k3
  · split at he <;> cases he
    rename_i r hr
    exact (read_sound hr hρ hw).step.wp fun g' v w' k1 k2 k3 => hK g' v w' k1 k2 k3
  · split at he <;> try cases he
    rename_i r ob hr
    rw [forceN_eq, putT_eq] at he
    cases he
    have := alloc_sound (F' := c.F) (nx' := nx + 1) hr hρ hw (fun e => hw.free nx e (Nat.le_refl _)) (fun x f hx => ⟨hx, by have := (hw.res x f hx).1; omega⟩) (Nat.le_succ _) (Nat.lt_succ_self _)
    exact (DoesN.step (c := c) this).wp fun g' v w' k1 k2 k3 => hK g' v w' k1 k2 k3
  · exact eff_sound hcall he hρ hw hK
theorem runOps_sound (hcall : CallOK P call) {ops : Array Oper} : ∀ (l : List Oper) (is : List Nat) (s s' : St) (x : RX) (g : Gm) (a : Act) (w : World) (Q : Exit → Act → World → Prop), (∀ k (h1 : k < is.length) (h2 : k < l.length), ops[is[k]]? = some l[k]) → is.length = l.length → runOps P call ops l s = some (x, s') → SR c g s a w → PostX c g Q x s' → wpOps P ops Q is a w
  | [], is, s, s', x, g, a, w, Q, hi, hl, hr, hs, hq => by
    have : is = [] := List.eq_nil_of_length_eq_zero hl
    subst this
    cases hr
    exact hq g a w (Ext.refl g) hs
  | o :: l, [], s, s', x, g, a, w, Q, hi, hl, hr, hs, hq => by simp at hl
  | o :: l, i :: is, s, s', x, g, a, w, Q, hi, hl, hr, hs, hq => by
    have ho : ops[i]? = some o := hi 0 (by simp) (by simp)
    have hi' : ∀ k (h1 : k < is.length) (h2 : k < l.length), ops[is[k]]? = some l[k] := fun k h1 h2 => hi (k + 1) (by simpa using h1) (by simpa using h2)
    have hl' : is.length = l.length := by simpa using hl
    simp only [wpOps, ho]
    unfold runOps at hr
    split at hr <;> try cases hr
    · rename_i hw
      rw [if_pos (wanted_sound (c := c) hw hs.rf)]
      left
      split at hr
      · rename_i r hp
        cases hr
        obtain ⟨v, h1, h2⟩ := panic_sound (P := P) (c := c) hp hs.rf w
        unfold Oper.wp
        rw [h1]
        exact hq g v a w (Ext.refl g) hs h2
      · split at hr <;> try cases hr
        · rename_i r h' nx' hop
          obtain ⟨t', h1, h2⟩ := putR_some hr
          refine op_sound hcall hop (fun x _ => evalR_R hs.rf x) hs.rw fun g' v w' k1 k2 k3 => ?_
          exact runOps_sound hcall l is _ s' x g' _ _ Q hi' hl' h1 ⟨h2 (hs.rf.mono k2) k1, k3, put_defers_nil hs.df⟩ (hq.mono k2)
        · rename_i r h' nx' hop
          refine op_sound hcall hop (fun x _ => evalR_R hs.rf x) hs.rw fun g' v w' k1 k2 k3 => ?_
          exact hq g' v a w' k2 ⟨hs.rf.mono k2, k3, hs.df⟩ k1
    · rename_i hw
      rw [if_neg (by rw [wanted_sound (c := c) hw hs.rf]; simp)]
      obtain ⟨t', h1, h2⟩ := putR_some hr
      exact runOps_sound hcall l is _ s' x g _ _ Q hi' hl' h1 ⟨h2 hs.rf (.lit _), hs.rw, put_defers_nil hs.df⟩ hq
theorem loop_sound {body : St → Option (RX × St)} {code : Code} (hb : ∀ s s' x g a w Q, body s = some (x, s') → SR c g s a w → PostX c g Q x s' → code.wp P Q a w) {s' : St} {x : RX} {Q : Exit → Act → World → Prop} (b : Frame) (k : List Item) (cs : List Frame) :
    ∀ (n : Nat) (s : St) (g : Gm) (a : Act) (w : World), loopR body n s = some (x, s') → SR c g s a w → PostX c g Q x s' → ∃ e a' w', Q e a' w' ∧ Arrives P (lone (b.at a (.code code :: .inLoop code :: k)) cs w) b k cs e a' w'
  | 0, s, g, a, w, hr, hs, hq => by cases hr
  | n + 1, s, g, a, w, hr, hs, hq => by
    unfold loopR at hr
    have fin : ∀ {e : Exit} {a₁ : Act} {w₁ : World}, e ≠ .normal → Q e a₁ w₁ → Arrives P (lone (b.at a (.code code :: .inLoop code :: k)) cs w) b (.inLoop code :: k) cs e a₁ w₁ → ∃ e a' w', Q e a' w' ∧ Arrives P (lone (b.at a (.code code :: .inLoop code :: k)) cs w) b k cs e a' w' := fun hne hq harr =>
      ⟨_, _, _, hq, .pass (x := .inLoop code) rfl (fun _ _ => .inl hne) harr⟩
    split at hr
    · rename_i s1 h1
      obtain ⟨e, a₁, w₁, hq1, harr⟩ := hb s s1 .normal g a w (fun e a₁ w₁ => e = .normal ∧ ∃ g', Ext g g' ∧ SR c g' s1 a₁ w₁) h1 hs (fun g' a' w' k1 k2 => ⟨rfl, g', k1, k2⟩) b (.inLoop code :: k) cs
      obtain ⟨rfl, g', k1, k2⟩ := hq1
      obtain ⟨e₂, a₂, w₂, hq₂, harr₂⟩ := loop_sound hb b k cs n s1 g' a₁ w₁ hr k2 (hq.mono k1)
      exact ⟨e₂, a₂, w₂, hq₂, .of_steps (Steps.trans harr (.one step_inLoop)) harr₂⟩
    · rename_i hne
      cases x with
      | normal => exact absurd hr (hne s')
      | exit id =>
        obtain ⟨e, a₁, w₁, hq1, harr⟩ := hb s s' (.exit id) g a w (fun e a₁ w₁ => e ≠ .normal ∧ Q e a₁ w₁) hr hs (fun g' a' w' k1 k2 => ⟨by simp, hq g' a' w' k1 k2⟩) b (.inLoop code :: k) cs
        exact fin hq1.1 hq1.2 harr
      | ret =>
        obtain ⟨e, a₁, w₁, hq1, harr⟩ := hb s s' .ret g a w (fun e a₁ w₁ => e ≠ .normal ∧ Q e a₁ w₁) hr hs (fun g' a' w' k1 k2 => ⟨by simp, hq g' a' w' k1 k2⟩) b (.inLoop code :: k) cs
        exact fin hq1.1 hq1.2 harr
      | panic r =>
        obtain ⟨e, a₁, w₁, hq1, harr⟩ := hb s s' (.panic r) g a w (fun e a₁ w₁ => e ≠ .normal ∧ Q e a₁ w₁) hr hs (fun g' v a' w' k1 k2 k3 => ⟨by simp, hq g' v a' w' k1 k2 k3⟩) b (.inLoop code :: k) cs
        exact fin hq1.1 hq1.2 harr
theorem exec_sound (hcall : CallOK P call) (hdraw : DrawOK P draw) : ∀ (code : Code) (s s' : St) (x : RX) (g : Gm) (a : Act) (w : World) (Q : Exit → Act → World → Prop), execC P call draw code s = some (x, s') → SR c g s a w → PostX c g Q x s' → code.wp P Q a w
  | .skip, s, s', x, g, a, w, Q, hr, hs, hq => by
    cases hr
    exact wp_skip (hq g a w (Ext.refl g) hs)
  | .label l, s, s', x, g, a, w, Q, hr, hs, hq => by
    cases hr
    exact wp_label (hq g a w (Ext.refl g) hs)
  | .exit id, s, s', x, g, a, w, Q, hr, hs, hq => by
    cases hr
    exact wp_exit (hq g a w (Ext.refl g) hs)
  | .ret, s, s', x, g, a, w, Q, hr, hs, hq => by
    cases hr
    exact wp_ret (hq g a w (Ext.refl g) hs)
  | .seq p q, s, s', x, g, a, w, Q, hr, hs, hq => by
    unfold execC at hr
    refine wp_seq ?_
    split at hr
    · rename_i s1 h1
      exact exec_sound hcall hdraw p s s1 .normal g a w _ h1 hs fun g' a' w' k1 k2 => exec_sound hcall hdraw q s1 s' x g' a' w' Q hr k2 (hq.mono k1)
    · rename_i hne
      refine exec_sound hcall hdraw p s s' x g a w _ hr hs ?_
      cases x with
      | normal => exact absurd hr (hne s')
      | exit id => exact hq
      | ret => exact hq
      | panic r => exact hq
  | .cond o p q, s, s', x, g, a, w, Q, hr, hs, hq => by
    unfold execC at hr
    have ho := evalR_R hs.rf o
    split at hr <;> try cases hr
    · rename_i e
      rw [e] at ho
      generalize hv : a.eval o = v at ho
      cases ho
      exact wp_cond_true hv (exec_sound hcall hdraw p s s' x g a w Q hr hs hq)
    · rename_i e
      rw [e] at ho
      generalize hv : a.eval o = v at ho
      cases ho
      exact wp_cond_false hv (exec_sound hcall hdraw q s s' x g a w Q hr hs hq)
  | .block id p, s, s', x, g, a, w, Q, hr, hs, hq => by
    unfold execC at hr
    refine wp_block ?_
    split at hr
    · rename_i id' s1 h1
      refine exec_sound hcall hdraw p s s1 (.exit id') g a w _ h1 hs fun g' a' w' k1 k2 => ?_
      show if id' = id then Q .normal a' w' else Q (.exit id') a' w'
      cases hb : Nat.beq id' id with
      | true =>
        rw [hb, cond_true] at hr
        cases hr
        rw [if_pos (Nat.eq_of_beq_eq_true hb)]
        exact hq g' a' w' k1 k2
      | false =>
        rw [hb, cond_false] at hr
        cases hr
        rw [if_neg (fun e => by rw [e, Nat.beq_refl] at hb; cases hb)]
        exact hq g' a' w' k1 k2
    · rename_i hne
      refine exec_sound hcall hdraw p s s' x g a w _ hr hs ?_
      cases x with
      | exit id' => exact absurd hr (hne id' s')
      | normal => exact hq
      | ret => exact hq
      | panic r => exact hq
  | .loop p, s, s', x, g, a, w, Q, hr, hs, hq => by
    unfold execC at hr
    intro b k cs
    obtain ⟨e, a', w', h1, h2⟩ := loop_sound (fun s s' x g a w Q h1 h2 h3 => exec_sound hcall hdraw p s s' x g a w Q h1 h2 h3) b k cs 1000000 s g a w hr hs hq
    exact ⟨e, a', w', h1, .of_steps (.one step_loop) h2⟩
  | .region id ops false, s, s', x, g, a, w, Q, hr, hs, hq => by
    unfold execC at hr
    refine wp_region (runOps_sound hcall ops.toList (List.range ops.size) s s' x g a w Q (fun k h1 h2 => ?_) (by simp) hr hs hq)
    simp only [List.getElem_range]
    have : k < ops.size := by simpa using h2
    simp [this]
  | .region id ops true, s, s', x, g, a, w, Q, hr, hs, hq => hdraw ops s x s' hr c g a w Q id hs hq
  | .rangeFunc .., s, s', x, g, a, w, Q, hr, hs, hq => by cases hr
  | .scope _, s, s', x, g, a, w, Q, hr, hs, hq => by cases hr
  | .goto _, s, s', x, g, a, w, Q, hr, hs, hq => by cases hr
  | .refuse _, s, s', x, g, a, w, Q, hr, hs, hq => by cases hr
/-! ### calls -/
theorem argT_some {β : Type} : ∀ (l : List RV) (i : Nat) (t : Tr RV) (k : Tr RV → β), ∃ t', argT l i t k = k t' ∧ ∀ j, t'.get j = if i ≤ j then (match l[j - i]? with
    | some r => some r
    | none => t.get j) else t.get j
  | [], i, t, k => ⟨t, rfl, fun j => by simp⟩
  | r :: l, i, t, k => by
    obtain ⟨t', h1, h2⟩ := argT_some l (i + 1) (t.set i r) k
    refine ⟨t', by rw [argT, putT_eq]; exact h1, fun j => ?_⟩
    rw [h2 j, Tr.get_set]
    rcases Nat.lt_trichotomy j i with h | h | h
    · rw [if_neg (by omega), if_neg (by omega), if_neg (by omega)]
    · subst h
      rw [if_neg (by omega), if_pos rfl, if_pos (Nat.le_refl _), Nat.sub_self]
      rfl
    · rw [if_pos (by omega), if_neg (by omega), if_pos (by omega)]
      have : j - i = (j - (i + 1)) + 1 := by omega
      rw [this, List.getElem?_cons_succ]
theorem RF.start {args : List RV} {vs : List Value} {n : Nat} {t : Tr RV} (hr : RL g c.env args vs) (ht : ∀ j, t.get j = if 0 ≤ j then (match args[j - 0]? with
    | some r => some r
    | none => (Tr.leaf : Tr RV).get j) else (Tr.leaf : Tr RV).get j) : RF g c.env t (max n args.length) { tmps := vs.toArray ++ Array.replicate (n - vs.toArray.size) undef, defers := [] } := by
  have hlen := hr.len
  refine ⟨by simp; omega, fun i => ?_⟩
  rw [ht i, if_pos (Nat.zero_le _), Nat.sub_zero]
  rcases Nat.lt_or_ge i args.length with hi | hi
  · have hv : i < vs.length := by omega
    rw [List.getElem?_eq_getElem hi]
    have e : (vs.toArray ++ Array.replicate (n - vs.toArray.size) undef).getD i undef = vs[i] := by
      have : i < (vs.toArray ++ Array.replicate (n - vs.toArray.size) undef).size := by simp; omega
      simp [Array.getD, this, Array.getElem_append, hv]
      intro hh
      omega
    rw [e]
    exact hr.at_ i hi hv
  · rw [List.getElem?_eq_none hi]
    have e : (vs.toArray ++ Array.replicate (n - vs.toArray.size) undef).getD i undef = undef := by
      rw [Array.getD_eq_getD_getElem?, Array.getElem?_append]
      rw [if_neg (by simp; omega)]
      rw [Array.getElem?_replicate]
      split <;> rfl
    rw [e]
    exact .lit _
theorem results_list {s : St} {a : Act} {w : World} (hs : SR c g s a w) (f : ResultVar → Sem Value) (hf : ∀ x r, resultR P s x = some r → ∃ v, (f x).run P w = .ok v w ∧ R g c.env r v) : ∀ (l : List ResultVar) (rs : List RV), resultsR P s l = some rs → ∃ vs : List Value, (l.mapM f).run P w = .ok vs w ∧ RL g c.env rs vs
  | [], rs, hr => by
    cases hr
    exact ⟨[], rfl, .nil⟩
  | x :: l, rs, hr => by
    unfold resultsR at hr
    split at hr <;> try cases hr
    rename_i r h1
    split at hr <;> cases hr
    rename_i rs' h2
    obtain ⟨v, k1, k2⟩ := hf x r h1
    obtain ⟨vs, k3, k4⟩ := results_list hs f hf l rs' h2
    refine ⟨v :: vs, ?_, .cons k2 k4⟩
    rw [List.mapM_cons, Sem.run_bind, k1]
    simp only [Result.andThen_ok, Sem.run_bind, k3]
    rfl
theorem results_gen {s : St} {a : Act} {w : World} {l : Array ResultVar} {rs : List RV} (hs : SR c g s a w) (hr : resultsR P s l.toList = some rs) (f : ResultVar → Sem Value) (hf : ∀ x r, resultR P s x = some r → ∃ v, (f x).run P w = .ok v w ∧ R g c.env r v) :
    ∃ v, (do let vs ← l.mapM f; pure (if h : vs.size = 1 then vs[0] else Value.tuple vs) : Sem Value).run P w = .ok v w ∧ R g c.env (oneOf rs) v := by
  obtain ⟨vs, h1, h2⟩ := results_list hs f hf _ _ hr
  have h3 : (do let vs ← l.mapM f; pure (if h : vs.size = 1 then vs[0] else Value.tuple vs) : Sem Value).run P w = .ok (if h : vs.toArray.size = 1 then vs.toArray[0] else .tuple vs.toArray) w := by
    rw [Array.mapM_eq_mapM_toList, Sem.run_bind, Sem.run_map, h1]
    rfl
  refine ⟨_, h3, ?_⟩
  have hlen := h2.len
  rcases rs with _ | ⟨r, _ | ⟨r2, rs⟩⟩
  · have : vs = [] := List.eq_nil_of_length_eq_zero hlen.symm
    subst this
    exact .tup rfl fun i h1 => absurd h1 (by simp)
  · rcases vs with _ | ⟨v, _ | ⟨v2, vs⟩⟩
    · simp at hlen
    · exact h2.tail.1
    · simp at hlen
  · have hne : ¬ (vs.toArray.size = 1) := by
      simp only [List.length_cons] at hlen
      simp
      omega
    rw [dif_neg hne]
    exact .tup (by simpa using hlen) fun i h1 h3 => by simpa using h2.at_ i h1 (by simpa using h3)
theorem results_sound {s : St} {a : Act} {w : World} {fn : Func} {rs : List RV} (hs : SR c g s a w) (hr : resultsR P s fn.results.toList = some rs) : ∃ v, (results fn a.tmps).run P w = .ok v w ∧ R g c.env (oneOf rs) v := by
  refine results_gen hs hr _ fun x r hx => ?_
  cases x with
  | tmp t =>
    cases hx
    exact ⟨_, rfl, evalR_R hs.rf (.tmp t)⟩
  | cell ad ty =>
    obtain ⟨v, ad', h0, h1, h2⟩ := load_keeps (P := P) hx (evalR_R hs.rf (.tmp ad)) hs.rw
    refine ⟨v, ?_, h2⟩
    rw [h0] at h1
    have h0' : a.tmps.getD ad undef = .pointer (some ad') := h0
    rw [← h1]
    show (do loadVar ty (← asAddr (a.tmps.getD ad undef)) : Sem Value).run P w = _
    rw [h0']
    rfl
theorem call_sound {orc : CallR} {draw : CallR → DrawR} (horc : CallOK P orc) (hdraw : ∀ call, CallOK P call → DrawOK P (draw call)) : ∀ d, CallOK P (callR P orc draw d)
  | 0 => fun f args h nx re h' nx' hc => by cases hc
  | d + 1 => fun f args h nx re h' nx' hc => by
    unfold callR at hc
    split at hc <;> try cases hc
    rename_i fn code hfr
    have hruns : P.funcs[f]? = some fn ∧ ¬ (fn.name == "runtime.NumGoroutine") = true ∧ fn.body = some code := by
      unfold funcR at hfr
      split at hfr <;> try cases hfr
      rename_i fn' hfn
      split at hfr <;> try cases hfr
      rename_i hname
      split at hfr <;> cases hfr
      rename_i hb
      exact ⟨hfn, hname, hb⟩
    refine ⟨⟨fn, code, hruns⟩, ?_⟩
    split at hc
    · rename_i r hr
      cases hc
      exact (horc _ _ _ _ _ _ _ hr).2
    · obtain ⟨t, ht, hget⟩ := argT_some args 0 .leaf fun t => endR P fn (execC P (callR P orc draw d) (draw (callR P orc draw d)) code ⟨t, max fn.ntmps args.length, h, nx⟩)
      rw [ht] at hc
      intro c g w vs hrl hw K hK
      have ih := call_sound horc hdraw d
      have hs : SR c g ⟨t, max fn.ntmps args.length, h, nx⟩ { tmps := vs.toArray ++ Array.replicate (fn.ntmps - vs.toArray.size) undef, defers := [] } w := ⟨RF.start hrl hget, hw, rfl⟩
      refine calls_of_wp hruns.1 hruns.2.2 ?_
      have done : ∀ {s : St}, (match resultsR P s fn.results.toList with
          | some rs => some (RE.ret (oneOf rs), s.h, s.nx)
          | none => none) = some (re, h', nx') → ∀ {g' : Gm} {a' : Act} {w' : World}, Ext g g' → SR c g' s a' w' → a'.defers = [] ∧ ∃ v, (results fn a'.tmps).run P w' = .ok v w' ∧ K (.returned v) w' := fun {s} hh {g' a' w'} k1 k2 => by
        split at hh <;> cases hh
        rename_i rs hrs
        obtain ⟨v, e1, e2⟩ := results_sound k2 hrs
        exact ⟨k2.df, v, e1, hK g' v w' e2 k1 k2.rw⟩
      unfold endR at hc
      split at hc <;> try cases hc
      · rename_i s hx
        exact exec_sound ih (hdraw _ ih) code _ s .normal g _ w _ hx hs fun g' a' w' k1 k2 => done hc k1 k2
      · rename_i s hx
        exact exec_sound ih (hdraw _ ih) code _ s .ret g _ w _ hx hs fun g' a' w' k1 k2 => done hc k1 k2
      · rename_i v s hx
        exact exec_sound ih (hdraw _ ih) code _ s (.panic v) g _ w _ hx hs fun g' u a' w' k1 k2 k3 => ⟨k2.df, hK g' u w' k3 k1 k2.rw⟩
end
end Go.Proofs.YtnojajgaocobjaaGreatDoor.Ax
