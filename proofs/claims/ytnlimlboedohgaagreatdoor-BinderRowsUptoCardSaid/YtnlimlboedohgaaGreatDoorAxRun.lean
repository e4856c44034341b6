/-
  Whole functions.
-/
import Derived.Test.YtnlimlboedohgaaGreatDoorAxOp
import Derived.Defers
import Derived.ControlIn
import Derived.RecoverIn
namespace Go.Proofs.YtnlimlboedohgaaGreatDoor.Ax
open Go.RowKit
set_option linter.unusedVariables false
set_option linter.unusedSimpArgs false

/-- a deferred call, reckoned and real -/
def DR1 (g : Gm) (env : Nat -> Value) (f : FuncId) (ags : List RV) (d : Deferred) : Prop := ∃ (vs : List Value) (cap dargs : Array Value), d = { target := .fn (.func f) cap, args := dargs } /\ RL g env ags vs /\ dargs ++ cap = vs.toArray
inductive DR (g : Gm) (env : Nat -> Value) : List DC -> List Deferred -> Prop
 | nil : DR g env [] []
 | call {f : FuncId} {ags : List RV} {d : Deferred} {ds : List DC} {l : List Deferred} (h : DR1 g env f ags d) (t : DR g env ds l) : DR g env (.call f ags :: ds) (d :: l)
 | mark {G q n : Nat} {ds : List DC} {l : List Deferred} (h : g G 0 = some (q, n)) (t : DR g env ds l) : DR g env (.mark G :: ds) ({ target := .collected q, args := #[] } :: l)
theorem DR.mono {g g' : Gm} {env : Nat -> Value} {ds : List DC} {l : List Deferred} (h : DR g env ds l) (hg : Ext g g') : DR g' env ds l := by
 induction h with
 | nil => exact .nil
 | call h t ih =>
  obtain ⟨vs, cap, dargs, h1, h2, h3⟩ := h
  exact .call ⟨vs, cap, dargs, h1, h2.mono hg, h3⟩ ih
 | mark h t ih => exact .mark (hg _ _ _ h) ih
/-- the deferred calls of a frame that is in no round -/
def DS (ro : Option Nat) (g : Gm) (env : Nat -> Value) : Option (List DC) -> List Deferred -> Prop
 | some ds, l => ro = none /\ DR g env ds l
 | none, _ => True
theorem DS.mono {ro : Option Nat} {g g' : Gm} {env : Nat -> Value} {ds : Option (List DC)} {l : List Deferred} (h : DS ro g env ds l) (hg : Ext g g') : DS ro g' env ds l := by
 cases ds with
 | none => trivial
 | some ds => exact ⟨h.1, h.2.mono hg⟩
/-- a state of the reckoning, and a real one -/
structure SR (ro : Option Nat) (c : Cx) (g : Gm) (s : St) (a : Act) (w : World) : Prop where
 rf : RF g c.env s.tm s.n a
 rw : RW c g s.h s.nx w
 df : DS ro g c.env s.ds a.defers
/-- what is asked where code is left -/
def PostX (ro : Option Nat) (c : Cx) (g : Gm) (Q : Exit -> Act -> World -> Prop) : RX -> St -> Prop
 | .normal, s => ∀ g' a' w', Ext g g' -> SR ro c g' s a' w' -> Q .normal a' w'
 | .exit id, s => ∀ g' a' w', Ext g g' -> SR ro c g' s a' w' -> Q (.exit id) a' w'
 | .ret, s => ∀ g' a' w', Ext g g' -> SR ro c g' s a' w' -> Q .ret a' w'
 | .panic r, s => ∀ g' v a' w', Ext g g' -> SR ro c g' s a' w' -> R g' c.env r v -> Q (.panic [{ v, recovered := false }]) a' w'
def DrawOK (P : Program) (draw : DrawR) : Prop := ∀ ops s x s', draw ops s = some (x, s') -> ∀ (ro : Option Nat) (c : Cx) (g : Gm) (a : Act) (w : World) (Q : Exit -> Act -> World -> Prop) (id : Nat), SR ro c g s a w -> PostX ro c g Q x s' -> (Code.region id ops true).wpIn (Wd ro) 0 P Q a w
section
variable {ro : Option Nat} {P : Program} {c : Cx} {g : Gm} {call : CallR} {draw : DrawR}
theorem PostX.mono {Q : Exit -> Act -> World -> Prop} {x : RX} {s : St} {g' : Gm} (h : PostX ro c g Q x s) (hg : Ext g g') : PostX ro c g' Q x s := by
 cases x with
 | normal => exact fun g'' a' w' he hs => h g'' a' w' (hg.trans he) hs
 | exit id => exact fun g'' a' w' he hs => h g'' a' w' (hg.trans he) hs
 | ret => exact fun g'' a' w' he hs => h g'' a' w' (hg.trans he) hs
 | panic r => exact fun g'' v a' w' he hs hr => h g'' v a' w' (hg.trans he) hs hr
theorem putR_some {β : Type} {t : Tr RV} {n : Nat} {d : Option Tmp} {r : RV} {k : Tr RV -> Option β} {y : β} (hp : putR t n d r k = some y) : ∃ t', k t' = some y /\ ∀ {g : Gm} {env : Nat -> Value} {a : Act} {v : Value}, RF g env t n a -> R g env r v -> RF g env t' n (a.put d v) := by
 unfold putR at hp
 split at hp
 ·exact ⟨t, hp, fun hf _ => hf.put_none _⟩
 ·rename_i d
  cases hb : Nat.ble (d + 1) n with
  | false => rw [hb] at hp; cases hp
  | true =>
   rw [hb, cond_true, putT_eq] at hp
   exact ⟨_, hp, fun hf hr => hf.put (Nat.le_of_ble_eq_true hb) hr⟩
theorem put_defers {a : Act} {d : Option Tmp} {v : Value} : (a.put d v).defers = a.defers := by
 cases d <;> rfl
theorem put_DR {a : Act} {d : Option Tmp} {v : Value} {env : Nat -> Value} {ds : Option (List DC)} (h : DS ro g env ds a.defers) : DS ro g env ds (a.put d v).defers := by
 rw [put_defers]
 exact h
theorem wanted_sound {t : Tr RV} {n : Nat} {a : Act} {ops : Array Oper} {o : Oper} {b : Bool} (hw : wantedR t ops o = some b) (hf : RF g c.env t n a) : Region.wanted o (yielded ops a.tmps) = b := by
 unfold wantedR at hw
 unfold Region.wanted
 split at hw
 ·rename_i hg
  cases hw
  rw [hg]
 ·rename_i j want hg
  rw [hg]
  simp only
  unfold yielded
  split at hw
  ·rename_i hd
   cases hw
   rw [hd]
   rfl
  ·rename_i d hd
   rw [hd]
   simp only [Option.bind_some]
   have hr := hf.at_ d
   have hx : ∀ v : Value, a.tmps.getD d undef = v -> (a.tmps[d]? = none /\ v = undef) \/ a.tmps[d]? = some v := fun v hv => by
    cases hx : a.tmps[d]? with
    | none =>
     rw [Array.getD_eq_getD_getElem?, hx] at hv
     exact .inl ⟨rfl, hv.symm⟩
    | some u =>
     have : a.tmps.getD d undef = u := by simp [hx]
     rw [this] at hv
     exact .inr (by rw [hv])
   split at hw <;> try cases hw
   ·rename_i ht
    rw [ht] at hr
    generalize hv : a.tmps.getD d undef = v at hr
    cases hr
    rcases hx _ hv with ⟨h1, _⟩ | h1 <;> rw [h1] <;> rfl
   ·rename_i bb ht
    rw [ht] at hr
    generalize hv : a.tmps.getD d undef = v at hr
    cases hr
    rcases hx _ hv with ⟨h1, h2⟩ | h1
    ·cases h2
    ·rw [h1]
     cases bb <;> cases want <;> cases hw <;> rfl
   ·rename_i vs ht
    rw [ht] at hr
    generalize hv : a.tmps.getD d undef = v at hr
    cases hr
    rcases hx _ hv with ⟨h1, _⟩ | h1 <;> rw [h1] <;> rfl
theorem panic_sound {t : Tr RV} {n : Nat} {a : Act} {o : Oper} {r : RV} (hp : panicR t o = some r) (hf : RF g c.env t n a) (w : World) : ∃ v, (execOp a.eval o).run P w = .halt (.panic v) w /\ R g c.env r v := by
 unfold panicR at hp
 split at hp <;> try cases hp
 rename_i x ho
 have hx := evalR_R hf x
 split at hp <;> cases hp
 ·rename_i ty v ex
  rw [ex] at hx
  generalize hv : a.eval x = xv at hx
  cases hx with
  | ifc hh =>
   refine ⟨_, ?_, .ifc hh⟩
   simp [execOp, ho, hv, Instr.panic, goPanic, Sem.run, Sem.bind]
 ·rename_i ty v ex
  rw [ex] at hx
  generalize hv : a.eval x = xv at hx
  cases hx
  refine ⟨_, ?_, .lit _⟩
  simp [execOp, ho, hv, Instr.panic, goPanic, Sem.run, Sem.bind]
theorem op_sound (hcall : CallOK P call) {t : Tr RV} {h h' : Hp} {nx nx' : Nat} {o : Oper} {re : RE} {a : Act} {w : World} (he : opR P call t h nx o = some (re, h', nx')) (hρ : ∀ x ∈ o.op.operands, R g c.env (evalR t x) (a.eval x)) (hw : RW c g h nx w) {K : Act -> World -> Prop} {Q : Exit -> Act -> World -> Prop}
  (hK : EndK c g h' nx' (fun e w' => match e with
   | .returned v => K (a.put o.dst v) w'
   | .panicked ch => Q (.panic ch) a w'
   | .outgrown => False) re) : o.wpIn (Wd ro) 0 P a w K Q := by
 unfold opR at he
 split at he
 ·split at he <;> cases he
  rename_i r hr
  exact ((pure_sound hr hρ).doesN hw).step.wp (pureR_not hr) fun g' v w' k1 k2 k3 => hK g' v w' k1 k2 k3
 ·split at he <;> cases he
  rename_i r hr
  exact (read_sound hr hρ hw).step.wp (readR_not hr) fun g' v w' k1 k2 k3 => hK g' v w' k1 k2 k3
 ·split at he <;> try cases he
  rename_i r ob hr
  rw [forceN_eq, putT_eq] at he
  cases he
  have := alloc_sound (F' := c.F) (nx' := nx + 1) hr hρ hw (fun e => hw.free nx e (Nat.le_refl _)) (fun x f hx => ⟨hx, by have := (hw.res x f hx).1; omega⟩) (Nat.le_succ _) (Nat.lt_succ_self _)
  exact (DoesN.step (c := c) this).wp (allocR_not hr) fun g' v w' k1 k2 k3 => hK g' v w' k1 k2 k3
 ·exact eff_sound hcall he hρ hw hK
theorem runOps_sound (hcall : CallOK P call) {ops : Array Oper} : ∀ (l : List Oper) (is : List Nat) (s s' : St) (x : RX) (g : Gm) (a : Act) (w : World) (Q : Exit -> Act -> World -> Prop), (∀ k (h1 : k < is.length) (h2 : k < l.length), ops[is[k]]? = some l[k]) -> is.length = l.length -> runOps P call ops l s = some (x, s') -> SR ro c g s a w -> PostX ro c g Q x s' -> wpOpsIn (Wd ro) 0 P ops Q is a w
 | [], is, s, s', x, g, a, w, Q, hi, hl, hr, hs, hq => by
  have : is = [] := List.eq_nil_of_length_eq_zero hl
  subst this
  cases hr
  exact hq g a w (Ext.refl g) hs
 | o :: l, [], s, s', x, g, a, w, Q, hi, hl, hr, hs, hq => by simp at hl
 | o :: l, i :: is, s, s', x, g, a, w, Q, hi, hl, hr, hs, hq => by
  have ho : ops[i]? = some o := hi 0 (by simp) (by simp)
  have hi' : ∀ k (h1 : k < is.length) (h2 : k < l.length), ops[is[k]]? = some l[k] := fun k h1 h2 => hi (k + 1) (by simpa using h1) (by simpa using h2)
  have hl' : is.length = l.length := by simpa using hl
  simp only [wpOpsIn, ho]
  unfold runOps at hr
  split at hr <;> try cases hr
  ·rename_i hw
   rw [if_pos (wanted_sound (c := c) hw hs.rf)]
   split at hr
   ·rename_i r hp
    cases hr
    obtain ⟨v, h1, h2⟩ := panic_sound (P := P) (c := c) hp hs.rf w
    have hnd : ∀ cc, o.op ≠ .defer cc := fun cc hc => by
     unfold panicR at hp
     rw [hc] at hp
     cases hp
    refine ⟨fun _ _ => trivial, ?_⟩
    show o.uponIn (Wd ro) 0 P a _ Q ((o.semAt ro a.eval).run P w)
    rw [Oper.semAt_eq ro a.eval o hnd, h1]
    exact hq g v a w (Ext.refl g) hs h2
   ·split at hr <;> try cases hr
    ·rename_i r h' nx' hop
     obtain ⟨t', h1, h2⟩ := putR_some hr
     refine op_sound hcall hop (fun x _ => evalR_R hs.rf x) hs.rw fun g' v w' k1 k2 k3 => ?_
     exact runOps_sound hcall l is _ s' x g' _ _ Q hi' hl' h1 ⟨h2 (hs.rf.mono k2) k1, k3, put_DR (hs.df.mono k2)⟩ (hq.mono k2)
    ·rename_i r h' nx' hop
     refine op_sound hcall hop (fun x _ => evalR_R hs.rf x) hs.rw fun g' v w' k1 k2 k3 => ?_
     exact hq g' v a w' k2 ⟨hs.rf.mono k2, k3, hs.df.mono k2⟩ k1
    ·split at hr <;> try cases hr
     rename_i f ags hd
     split at hr <;> try cases hr
     rename_i dl hdl
     obtain ⟨t', h1, h2⟩ := putR_some hr
     unfold deferR at hd
     split at hd <;> try cases hd
     rename_i fx args ats hop
     obtain ⟨vs, cap, dargs, k1, k2, k3⟩ := target_defer (c := c) hop hd (fun x _ => evalR_R hs.rf x)
     have hdf := hs.df
     rw [hdl] at hdf
     obtain ⟨hro, hdr⟩ := hdf
     have hsem : o.semAt ro a.eval = execOp a.eval o := by rw [hro]; rfl
     refine ⟨fun _ _ => trivial, ?_⟩
     show o.uponIn (Wd ro) 0 P a _ Q ((o.semAt ro a.eval).run P w)
     rw [hsem, k2, Oper.uponIn_defer]
     have hrf : RF g c.env s.tm s.n { a with defers := { target := .fn (.func f) cap, args := dargs } :: a.defers } := ⟨hs.rf.size, hs.rf.at_⟩
     exact runOps_sound hcall l is _ s' x g _ _ Q hi' hl' h1 ⟨h2 hrf (.lit _), hs.rw, put_DR ⟨hro, .call ⟨vs, cap, dargs, rfl, k1, k3⟩ hdr⟩⟩ hq
  ·rename_i hw
   rw [if_neg (by rw [wanted_sound (c := c) hw hs.rf]; simp)]
   obtain ⟨t', h1, h2⟩ := putR_some hr
   exact ⟨fun _ _ => trivial, runOps_sound hcall l is _ s' x g _ _ Q hi' hl' h1 ⟨h2 hs.rf (.lit _), hs.rw, put_DR hs.df⟩ hq⟩
theorem room_Wd {ro : Option Nat} (n : Nat) : (Wd ro).room n := fun _ h => by cases h
theorem fenced_Wd {ro : Option Nat} (m : Machine) : m.fenced P (Wd ro) := fenced_wide P m
theorem target_val {env : Nat -> Value} {r : RV} {args ags : List RV} {f : FuncId} {v : Value} {vs0 : List Value} (ha : targetR r args = some (f, ags)) (hv : R g env r v) (hargs : RL g env args vs0) : ∃ (vs : List Value) (first cap : Array Value), v = .func (.func f) first cap /\ RL g env ags vs /\ first ++ vs0.toArray ++ cap = vs.toArray := by
 unfold targetR at ha
 split at ha <;> try cases ha
 ·rename_i f' first captured
  split at ha <;> try cases ha
  rename_i e1 e2
  have ef : first = #[] := by rw [<- Array.toArray_toList (xs := first), e1]
  have ec : captured = #[] := by rw [<- Array.toArray_toList (xs := captured), e2]
  subst ef ec
  cases hv
  exact ⟨vs0, #[], #[], rfl, hargs, by simp⟩
 ·rename_i f' a l
  rw [appO_eq, appO_eq] at ha
  cases ha
  cases hv with
  | clo hm hk hn hh =>
   rename_i us vs
   have h1 : RL g env a us.toList := ⟨by simpa using hm, fun i h1 h2 => by simpa using hk i h1 (by simpa using h2)⟩
   have h2 : RL g env l vs.toList := ⟨by simpa using hn, fun i h1 h2 => by simpa using hh i h1 (by simpa using h2)⟩
   exact ⟨_, us, vs, rfl, h1.append (hargs.append h2), by apply Array.ext'; simp⟩
theorem loop_sound {body : St -> Option (RX × St)} {code : Code} (hb : ∀ s s' x g a w Q, body s = some (x, s') -> SR ro c g s a w -> PostX ro c g Q x s' -> code.wpIn (Wd ro) 0 P Q a w) {s' : St} {x : RX} {Q : Exit -> Act -> World -> Prop} (b : Frame) (k : List Item) (cs : List Frame) (hro : b.roundOf = ro) :
  ∀ (n : Nat) (s : St) (g : Gm) (a : Act) (w : World), loopR body n s = some (x, s') -> SR ro c g s a w -> PostX ro c g Q x s' -> ∃ e a' w', Q e a' w' /\ ArrivesIn (Machine.fenced P (Wd ro)) P (lone (b.atR a (.code code :: .inLoop code :: k)) cs w) b k cs e a' w'
 | 0, s, g, a, w, hr, hs, hq => by cases hr
 | n + 1, s, g, a, w, hr, hs, hq => by
  unfold loopR at hr
  have fin : ∀ {e : Exit} {a₁ : Act} {w₁ : World}, e ≠ .normal -> Q e a₁ w₁ -> ArrivesIn (Machine.fenced P (Wd ro)) P (lone (b.atR a (.code code :: .inLoop code :: k)) cs w) b (.inLoop code :: k) cs e a₁ w₁ -> ∃ e a' w', Q e a' w' /\ ArrivesIn (Machine.fenced P (Wd ro)) P (lone (b.atR a (.code code :: .inLoop code :: k)) cs w) b k cs e a' w' := fun hne hq harr =>
   ⟨_, _, _, hq, .pass (x := .inLoop code) rfl (fun _ _ => .inl hne) harr⟩
  split at hr
  ·rename_i s1 h1
   obtain ⟨e, a₁, w₁, hq1, harr⟩ := hb s s1 .normal g a w (fun e a₁ w₁ => e = .normal /\ ∃ g', Ext g g' /\ SR ro c g' s1 a₁ w₁) h1 hs (fun g' a' w' k1 k2 => ⟨rfl, g', k1, k2⟩) b (.inLoop code :: k) cs hro trivial (room_Wd _)
   obtain ⟨rfl, g', k1, k2⟩ := hq1
   obtain ⟨e₂, a₂, w₂, hq₂, harr₂⟩ := loop_sound hb b k cs hro n s1 g' a₁ w₁ hr k2 (hq.mono k1)
   exact ⟨e₂, a₂, w₂, hq₂, .of_steps (StepsIn.trans harr (.one (fenced_Wd _) stepR_inLoop)) harr₂⟩
  ·rename_i hne
   cases x with
   | normal => exact absurd hr (hne s')
   | exit id =>
    obtain ⟨e, a₁, w₁, hq1, harr⟩ := hb s s' (.exit id) g a w (fun e a₁ w₁ => e ≠ .normal /\ Q e a₁ w₁) hr hs (fun g' a' w' k1 k2 => ⟨by simp, hq g' a' w' k1 k2⟩) b (.inLoop code :: k) cs hro trivial (room_Wd _)
    exact fin hq1.1 hq1.2 harr
   | ret =>
    obtain ⟨e, a₁, w₁, hq1, harr⟩ := hb s s' .ret g a w (fun e a₁ w₁ => e ≠ .normal /\ Q e a₁ w₁) hr hs (fun g' a' w' k1 k2 => ⟨by simp, hq g' a' w' k1 k2⟩) b (.inLoop code :: k) cs hro trivial (room_Wd _)
    exact fin hq1.1 hq1.2 harr
   | panic r =>
    obtain ⟨e, a₁, w₁, hq1, harr⟩ := hb s s' (.panic r) g a w (fun e a₁ w₁ => e ≠ .normal /\ Q e a₁ w₁) hr hs (fun g' v a' w' k1 k2 k3 => ⟨by simp, hq g' v a' w' k1 k2 k3⟩) b (.inLoop code :: k) cs hro trivial (room_Wd _)
    exact fin hq1.1 hq1.2 harr
theorem exec_sound (hcall : CallOK P call) (hdraw : DrawOK P draw) : ∀ (code : Code) (s s' : St) (x : RX) (g : Gm) (a : Act) (w : World) (Q : Exit -> Act -> World -> Prop), execC P call draw code s = some (x, s') -> SR ro c g s a w -> PostX ro c g Q x s' -> code.wpIn (Wd ro) 0 P Q a w
 | .skip, s, s', x, g, a, w, Q, hr, hs, hq => by
  cases hr
  exact wpIn_skip (hq g a w (Ext.refl g) hs)
 | .label l, s, s', x, g, a, w, Q, hr, hs, hq => by
  cases hr
  exact wpIn_label (hq g a w (Ext.refl g) hs)
 | .exit id, s, s', x, g, a, w, Q, hr, hs, hq => by
  cases hr
  exact wpIn_exit (hq g a w (Ext.refl g) hs)
 | .ret, s, s', x, g, a, w, Q, hr, hs, hq => by
  cases hr
  exact wpIn_ret (hq g a w (Ext.refl g) hs)
 | .seq p q, s, s', x, g, a, w, Q, hr, hs, hq => by
  unfold execC at hr
  refine wpIn_seq ?_
  split at hr
  ·rename_i s1 h1
   exact exec_sound hcall hdraw p s s1 .normal g a w _ h1 hs fun g' a' w' k1 k2 => exec_sound hcall hdraw q s1 s' x g' a' w' Q hr k2 (hq.mono k1)
  ·rename_i hne
   refine exec_sound hcall hdraw p s s' x g a w _ hr hs ?_
   cases x with
   | normal => exact absurd hr (hne s')
   | exit id => exact hq
   | ret => exact hq
   | panic r => exact hq
 | .cond o p q, s, s', x, g, a, w, Q, hr, hs, hq => by
  unfold execC at hr
  have ho := evalR_R hs.rf o
  split at hr <;> try cases hr
  ·rename_i e
   rw [e] at ho
   generalize hv : a.eval o = v at ho
   cases ho
   exact wpIn_cond_true hv (exec_sound hcall hdraw p s s' x g a w Q hr hs hq)
  ·rename_i e
   rw [e] at ho
   generalize hv : a.eval o = v at ho
   cases ho
   exact wpIn_cond_false hv (exec_sound hcall hdraw q s s' x g a w Q hr hs hq)
 | .block id p, s, s', x, g, a, w, Q, hr, hs, hq => by
  unfold execC at hr
  refine wpIn_block ?_
  split at hr
  ·rename_i id' s1 h1
   refine exec_sound hcall hdraw p s s1 (.exit id') g a w _ h1 hs fun g' a' w' k1 k2 => ?_
   show if id' = id then Q .normal a' w' else Q (.exit id') a' w'
   cases hb : Nat.beq id' id with
   | true =>
    rw [hb, cond_true] at hr
    cases hr
    rw [if_pos (Nat.eq_of_beq_eq_true hb)]
    exact hq g' a' w' k1 k2
   | false =>
    rw [hb, cond_false] at hr
    cases hr
    rw [if_neg (fun e => by rw [e, Nat.beq_refl] at hb; cases hb)]
    exact hq g' a' w' k1 k2
  ·rename_i hne
   refine exec_sound hcall hdraw p s s' x g a w _ hr hs ?_
   cases x with
   | exit id' => exact absurd hr (hne id' s')
   | normal => exact hq
   | ret => exact hq
   | panic r => exact hq
 | .loop p, s, s', x, g, a, w, Q, hr, hs, hq => by
  unfold execC at hr
  intro b k cs hro hb hroom
  obtain ⟨e, a', w', h1, h2⟩ := loop_sound (fun s s' x g a w Q h1 h2 h3 => exec_sound hcall hdraw p s s' x g a w Q h1 h2 h3) b k cs hro 1000000 s g a w hr hs hq
  exact ⟨e, a', w', h1, .of_steps (.one (fenced_Wd _) stepR_loop) h2⟩
 | .region id ops false, s, s', x, g, a, w, Q, hr, hs, hq => by
  unfold execC at hr
  refine wpIn_region (runOps_sound hcall ops.toList (List.range ops.size) s s' x g a w Q (fun k h1 h2 => ?_) (by simp) hr hs hq)
  simp only [List.getElem_range]
  have : k < ops.size := by simpa using h2
  simp [this]
 | .region id ops true, s, s', x, g, a, w, Q, hr, hs, hq => hdraw ops s x s' hr ro c g a w Q id hs hq
 | .rangeFunc gx ps assign body, s, s', x, g, a, w, Q, hr, hs, hq => by
  unfold execC loopFR at hr
  split at hr <;> try cases hr
  rename_i dl hdl
  have hdf := hs.df
  rw [hdl] at hdf
  obtain ⟨hro, hdr⟩ := hdf
  rw [forceN_eq, forceN_eq] at hr
  split at hr <;> try cases hr
  rename_i f ags htg
  rw [putT_eq, putT_eq] at hr
  split at hr <;> try cases hr
  rename_i rv h3 n3 hc
  refine wpIn_rangeFunc fun fn _ => ?_
  have hw1 := hs.rw.allocOt (b := .df true) (o := .deferred (some [])) rfl
  have hx1 : Ext g (gSet g s.nx 0 (w.heap.size, 0)) := gSet_ext (hs.rw.free _ _ (Nat.le_refl _))
  obtain ⟨rec, hrec⟩ : ∃ rec : Loop, rec = { state := .ready, pending := none, fn := fn, tmps := a.tmps, params := ps, assign := assign, body := body, defers := w.heap.size } := ⟨_, rfl⟩
  have hlp : LBR (gSet g s.nx 0 (w.heap.size, 0)) c.env (.lp .ready none s.tm s.n ps assign body) (.loop rec) := by
   subst hrec
   exact ⟨_, rfl, rfl, rfl, rfl, rfl, rfl, hs.rf.size, fun i => (hs.rf.at_ i).mono hx1⟩
  have hw2 := hw1.allocOt hlp
  have hx2 : Ext (gSet g s.nx 0 (w.heap.size, 0)) _ := gSet_ext (x := ((w.alloc (.deferred (some []))).heap.size, 0)) (e := 0) (hw1.free _ _ (Nat.le_refl _))
  have hsz : (w.alloc (.deferred (some []))).heap.size = w.heap.size + 1 := World.size_alloc ..
  generalize hg2 : gSet (gSet g s.nx 0 (w.heap.size, 0)) (s.nx + 1) 0 ((w.alloc (.deferred (some []))).heap.size, 0) = g2 at hw2 hx2
  have hgl : g2 (s.nx + 1) 0 = some (w.heap.size + 1, 0) := by rw [<- hg2, gSet_self, hsz]
  have hgd : g2 s.nx 0 = some (w.heap.size, 0) := hx2 _ _ _ gSet_self
  obtain ⟨vs, first, cap, e1, k1, k2⟩ := target_val (env := c.env) (vs0 := [.func (.yield (w.heap.size + 1)) #[] #[]]) htg (((evalR_R hs.rf gx).mono hx1).mono hx2) (.cons (.yld hgl) .nil)
  have hlpW : ∀ {g' : Gm} {w3 : World} {st : LoopState} {pend : Option Code} {tm : Tr RV} {m : Nat} {ps' : Array Tmp} {ags' bd' : Code}, Ext g2 g' -> RW c g' h3 n3 w3 -> h3.get (s.nx + 1) = some (.ot (.lp st pend tm m ps' ags' bd')) -> st ≠ .busy ->
    ∃ w4, (Instr.endLoop (w.heap.size + 1)).run P w3 = .ok pend w4 /\ RW c g' (h3.set (s.nx + 1) (.ot (.lp .exhausted pend tm m ps' ags' bd'))) n3 w4 := fun hx hw3 hget hst => by
   obtain ⟨q, o, hq, ho, r, rfl, r1, r2, r3, r4, r5, r6⟩ := hw3.getOt hget
   have := hx _ _ _ hgl
   rw [hq] at this
   cases this
   refine ⟨_, ?_, hw3.setOt hget hq (o := .loop { r with state := .exhausted }) ⟨_, rfl, rfl, r2, r3, r4, r5, r6⟩⟩
   rw [run_endLoop ho (by rw [r1]; exact hst), r2]
  refine ⟨w.heap.size + 1, [{ target := .collected w.heap.size, args := #[] }], (w.alloc (.deferred (some []))).alloc (.loop rec), { target := .fn (.func f) cap, args := first ++ #[.func (.yield (w.heap.size + 1)) #[] #[]] }, (w.alloc (.deferred (some []))).alloc (.loop rec), f, vs.toArray, (w.alloc (.deferred (some []))).alloc (.loop rec), ?_, ?_, fun _ _ => trivial, ?_, fun h => (by cases h), ?_⟩
  ·show (Instr.enterLoop fn a.tmps ps assign body ro).run P w = _
   rw [hro, run_enterLoop_outer, hrec]
  ·simp only [resolve, e1, Deferred.ofValue, List.map_toArray, List.map_cons, List.map_nil]
   rfl
  ·show (callFunc f (first ++ #[.func (.yield (w.heap.size + 1)) #[] #[]] ++ cap)).run P _ = _
   have k2' : first ++ #[.func (.yield (w.heap.size + 1)) #[] #[]] ++ cap = vs.toArray := k2
   rw [k2']
   exact (hcall.1 _ _ _ _ _ _ _ hc).1.enter _ _
  ·refine callsIn_Wd.2 ((hcall.1 _ _ _ _ _ _ _ hc).2 c g2 _ vs k1 hw2 _ fun g' v w3 _ hx hw3 => ?_)
   have hx3 : Ext g g' := (hx1.trans hx2).trans hx
   have hrf : RF g' c.env s.tm s.n { a with defers := [{ target := .collected w.heap.size, args := #[] }] ++ a.defers } := ⟨hs.rf.size, fun i => (hs.rf.at_ i).mono hx3⟩
   have hds : DS ro g' c.env (some (.mark s.nx :: dl)) ([{ target := .collected w.heap.size, args := #[] }] ++ a.defers) := ⟨hro, .mark (hx _ _ _ hgd) (hdr.mono hx3)⟩
   unfold endLoopR at hr
   split at hr <;> try cases hr
   rename_i st pend tm m ps' ags' bd' hget
   split at hr <;> try cases hr
   rename_i hst
   rw [putT_eq] at hr
   obtain ⟨w4, e4, hw4⟩ := hlpW hx hw3 hget (fun e => hst e)
   refine ⟨pend, w4, e4, ?_⟩
   split at hr <;> cases hr
   ·exact hq g' _ w4 hx3 ⟨hrf, hw4, hds⟩
   ·exact wpIn_ret (hq g' _ w4 hx3 ⟨hrf, hw4, hds⟩)
   ·exact wpIn_exit (hq g' _ w4 hx3 ⟨hrf, hw4, hds⟩)
 | .scope _, s, s', x, g, a, w, Q, hr, hs, hq => by cases hr
 | .goto _, s, s', x, g, a, w, Q, hr, hs, hq => by cases hr
 | .refuse _, s, s', x, g, a, w, Q, hr, hs, hq => by cases hr
/-! ### calls -/
theorem argT_some {β : Type} : ∀ (l : List RV) (i : Nat) (t : Tr RV) (k : Tr RV -> β), ∃ t', argT l i t k = k t' /\ ∀ j, t'.get j = if i <= j then (match l[j - i]? with
  | some r => some r
  | none => t.get j) else t.get j
 | [], i, t, k => ⟨t, rfl, fun j => by simp⟩
 | r :: l, i, t, k => by
  obtain ⟨t', h1, h2⟩ := argT_some l (i + 1) (t.set i r) k
  refine ⟨t', by rw [argT, putT_eq]; exact h1, fun j => ?_⟩
  rw [h2 j, Tr.get_set]
  rcases Nat.lt_trichotomy j i with h | h | h
  ·rw [if_neg (by omega), if_neg (by omega), if_neg (by omega)]
  ·subst h
   rw [if_neg (by omega), if_pos rfl, if_pos (Nat.le_refl _), Nat.sub_self]
   rfl
  ·rw [if_pos (by omega), if_neg (by omega), if_pos (by omega)]
   have : j - i = (j - (i + 1)) + 1 := by omega
   rw [this, List.getElem?_cons_succ]
theorem RF.start {args : List RV} {vs : List Value} {n : Nat} {t : Tr RV} (hr : RL g c.env args vs) (ht : ∀ j, t.get j = if 0 <= j then (match args[j - 0]? with
  | some r => some r
  | none => (Tr.leaf : Tr RV).get j) else (Tr.leaf : Tr RV).get j) : RF g c.env t (max n args.length) { tmps := vs.toArray ++ Array.replicate (n - vs.toArray.size) undef, defers := [] } := by
 have hlen := hr.len
 refine ⟨by simp; omega, fun i => ?_⟩
 rw [ht i, if_pos (Nat.zero_le _), Nat.sub_zero]
 rcases Nat.lt_or_ge i args.length with hi | hi
 ·have hv : i < vs.length := by omega
  rw [List.getElem?_eq_getElem hi]
  have e : (vs.toArray ++ Array.replicate (n - vs.toArray.size) undef).getD i undef = vs[i] := by
   have : i < (vs.toArray ++ Array.replicate (n - vs.toArray.size) undef).size := by simp; omega
   simp [Array.getD, this, Array.getElem_append, hv]
   intro hh
   omega
  rw [e]
  exact hr.at_ i hi hv
 ·rw [List.getElem?_eq_none hi]
  have e : (vs.toArray ++ Array.replicate (n - vs.toArray.size) undef).getD i undef = undef := by
   rw [Array.getD_eq_getD_getElem?, Array.getElem?_append]
   rw [if_neg (by simp; omega)]
   rw [Array.getElem?_replicate]
   split <;> rfl
  rw [e]
  exact .lit _
theorem results_list {s : St} {a : Act} {w : World} (hs : SR ro c g s a w) (f : ResultVar -> Sem Value) (hf : ∀ x r, resultR P s x = some r -> ∃ v, (f x).run P w = .ok v w /\ R g c.env r v) : ∀ (l : List ResultVar) (rs : List RV), resultsR P s l = some rs -> ∃ vs : List Value, (l.mapM f).run P w = .ok vs w /\ RL g c.env rs vs
 | [], rs, hr => by
  cases hr
  exact ⟨[], rfl, .nil⟩
 | x :: l, rs, hr => by
  unfold resultsR at hr
  split at hr <;> try cases hr
  rename_i r h1
  split at hr <;> cases hr
  rename_i rs' h2
  obtain ⟨v, k1, k2⟩ := hf x r h1
  obtain ⟨vs, k3, k4⟩ := results_list hs f hf l rs' h2
  refine ⟨v :: vs, ?_, .cons k2 k4⟩
  rw [List.mapM_cons, Sem.run_bind, k1]
  simp only [Result.andThen_ok, Sem.run_bind, k3]
  rfl
theorem results_gen {s : St} {a : Act} {w : World} {l : Array ResultVar} {rs : List RV} (hs : SR ro c g s a w) (hr : resultsR P s l.toList = some rs) (f : ResultVar -> Sem Value) (hf : ∀ x r, resultR P s x = some r -> ∃ v, (f x).run P w = .ok v w /\ R g c.env r v) :
  ∃ v, (do let vs <- l.mapM f; pure (if h : vs.size = 1 then vs[0] else Value.tuple vs) : Sem Value).run P w = .ok v w /\ R g c.env (oneOf rs) v := by
 obtain ⟨vs, h1, h2⟩ := results_list hs f hf _ _ hr
 have h3 : (do let vs <- l.mapM f; pure (if h : vs.size = 1 then vs[0] else Value.tuple vs) : Sem Value).run P w = .ok (if h : vs.toArray.size = 1 then vs.toArray[0] else .tuple vs.toArray) w := by
  rw [Array.mapM_eq_mapM_toList, Sem.run_bind, Sem.run_map, h1]
  rfl
 refine ⟨_, h3, ?_⟩
 have hlen := h2.len
 rcases rs with _ | ⟨r, _ | ⟨r2, rs⟩⟩
 ·have : vs = [] := List.eq_nil_of_length_eq_zero hlen.symm
  subst this
  exact .tup rfl fun i h1 => absurd h1 (by simp)
 ·rcases vs with _ | ⟨v, _ | ⟨v2, vs⟩⟩
  ·simp at hlen
  ·exact h2.tail.1
  ·simp at hlen
 ·have hne : ¬ (vs.toArray.size = 1) := by
   simp only [List.length_cons] at hlen
   simp
   omega
  rw [dif_neg hne]
  exact .tup (by simpa using hlen) fun i h1 h3 => by simpa using h2.at_ i h1 (by simpa using h3)
theorem results_sound {s : St} {a : Act} {w : World} {fn : Func} {rs : List RV} (hs : SR ro c g s a w) (hr : resultsR P s fn.results.toList = some rs) : ∃ v, (results fn a.tmps).run P w = .ok v w /\ R g c.env (oneOf rs) v := by
 refine results_gen hs hr _ fun x r hx => ?_
 cases x with
 | tmp t =>
  cases hx
  exact ⟨_, rfl, evalR_R hs.rf (.tmp t)⟩
 | cell ad ty =>
  obtain ⟨v, ad', h0, h1, h2⟩ := load_keeps (P := P) hx (evalR_R hs.rf (.tmp ad)) hs.rw
  refine ⟨v, ?_, h2⟩
  rw [h0] at h1
  have h0' : a.tmps.getD ad undef = .pointer (some ad') := h0
  rw [<- h1]
  show (do loadVar ty (<- asAddr (a.tmps.getD ad undef)) : Sem Value).run P w = _
  rw [h0']
  rfl
/-- what a deferred call does to its caller's end: nothing -/
def CallDOK (P : Program) (orc call : CallR) : Prop := ∀ f args h nx re h' nx', orc (.fn f) args h nx = none -> call (.fn f) args h nx = some (re, h', nx') -> ∀ (c : Cx) (g : Gm) (w : World) (vs : List Value), RL g c.env args vs -> RW c g h nx w -> ∀ K, EndK c g h' nx' K re -> ∀ u, CallsDIn (Wd none) 0 P f vs.toArray u w fun e u' w' => u' = u /\ K e w'
section marks
variable {F : Fence} {n : Nat}
theorem leaves_stepsMD {fn : Func} {tmps : Array Value} {R : Ending -> World -> Prop} : ∀ (ds : List Deferred) (u : FrameMode) (w : World) (fr : Frame)
  (cs : List Frame), fr.mode = u -> fr.defers = ds -> fr.tmps = tmps -> P.funcs[fr.fn]? = some fn -> fr.kind = .deferred -> F.fn fr.fn -> F.room (cs.length + 1 + n) -> LeavesInM F n P fn tmps R ds u w ->
  ∃ e w' fr', R e w' /\ ComesIn (Machine.fenced P F) P (lone fr cs w) (lone fr' cs w') e /\ fr'.kind = .deferred /\ fr'.fn = fr.fn /\ fr'.going P w' e := by
 intro ds
 induction ds with
 | nil =>
  intro u w fr cs hu hd ht hf hk hb hroom h
  cases u with
  | run => exact h.elim
  | returning =>
   obtain ⟨v, hr, hR⟩ := h
   exact ⟨.returned v, w, fr, hR, StepsIn.refl _, hk, rfl, hu, hd, fn, hf, ht ▸ hr⟩
  | panicking chain => exact ⟨.panicked chain, w, fr, h, StepsIn.refl _, hk, rfl, hu, hd, fn, hf⟩
 | cons d ds ih =>
  intro u w fr cs hu hd ht hf hk hb hroom h
  obtain ⟨hrun, h⟩ := h
  rcases h with ⟨r, w', htar, htake, hrest⟩ | ⟨hn, fv, cap, f, args, htar, hinv, hlead, hFf, hcall⟩
  ·have h1 := step_collected (cs := cs) (hu ▸ hrun) hd htar htake
   have i1 : (lone fr cs w).fenced P F := fenced_out hb hroom (hu ▸ hrun) hd (fun g hg => by rw [htar] at hg; simp [Target.leads] at hg)
   obtain ⟨e', w'', fr', hR', hs', hkn', hfn', hl'⟩ := ih u w' { fr with defers := [] ++ ds } cs hu rfl ht hf hk hb hroom hrest
   exact ⟨e', w'', fr', hR', ComesIn.of_steps (.one i1 h1) hs', hkn', hfn', hl'⟩
  ·have h1 := step_defer (cs := cs) (hu ▸ hrun) hd htar hinv
   have i1 : (lone fr cs w).fenced P F := fenced_out hb hroom (hu ▸ hrun) hd hlead
   have hroom' : F.room (({ fr with defers := ds } :: cs).length + 1 + (n - 1)) := Fence.room_enter hroom hn
   obtain ⟨e, u', w', frX, hR, hsteps, hkX, hfX, hgo⟩ := hcall { fr with defers := ds } cs hu hroom'
   cases e with
   | outgrown => exact ⟨.outgrown, w', fr, hR, Outgrown.of_steps (.one h1) hsteps, hk, rfl, trivial⟩
   | returned v =>
    have i2 : (lone frX ({ { fr with defers := ds } with mode := u' } :: cs) w').fenced P F := fenced_going (n := n - 1) (hfX ▸ hFf) hroom' hgo
    have h2 := step_going_returned (c := { { fr with defers := ds } with mode := u' }) (cs := cs) hkX hgo
    obtain ⟨e', w'', fr', hR', hs', hkn', hfn', hl'⟩ := ih (settle u') w' { { { fr with defers := ds } with mode := u' } with mode := settle u' } cs rfl rfl ht hf hk hb hroom hR
    exact ⟨e', w'', fr', hR', ComesIn.of_steps (.head i1 h1 (StepsIn.trans hsteps (.one i2 h2))) hs', hkn', hfn', hl'⟩
   | panicked chain =>
    have i2 : (lone frX ({ { fr with defers := ds } with mode := u' } :: cs) w').fenced P F := fenced_going (n := n - 1) (hfX ▸ hFf) hroom' hgo
    have h2 := step_going_panicked (c := { { fr with defers := ds } with mode := u' }) (cs := cs) hgo
    obtain ⟨e', w'', fr', hR', hs', hkn', hfn', hl'⟩ := ih (raised u' chain) w' { { { fr with defers := ds } with mode := u' } with mode := raised u' chain } cs rfl rfl ht hf hk hb hroom hR
    exact ⟨e', w'', fr', hR', ComesIn.of_steps (.head i1 h1 (StepsIn.trans hsteps (.one i2 h2))) hs', hkn', hfn', hl'⟩
theorem callsDIn_of_wp_marks {f : FuncId} {fn : Func} {code : Code} {args : Array Value} {u : FrameMode} {w : World} {R : Ending -> World -> Prop}
  (hf : P.funcs[f]? = some fn) (hb : fn.body = some code) (hF : F.fn f)
  (h : code.wpIn F n P (bodyPostM F n P fn R) { tmps := args ++ Array.replicate (fn.ntmps - args.size) undef, defers := [] } w) (hro : F.round = none := by rfl) :
  CallsDIn F n P f args u w fun e u' w' => u' = u /\ R e w' := by
 refine ⟨hF, fun c₀ cs hu hr => ?_⟩
 let b : Frame := { (default : Frame) with fn := f, kind := .deferred, roundOf := none }
 have henter : Frame.enter P f args .deferred =
   b.atR { tmps := args ++ Array.replicate (fn.ntmps - args.size) undef, defers := [] } [.code code] := by
  simp [Frame.enter, Frame.atR, hf, hb, b]
 have hc : ({ c₀ with mode := u } : Frame) = c₀ := by subst hu; rfl
 obtain ⟨e, a', w', hq, harr⟩ := h b [] (c₀ :: cs) hro.symm hF hr
 rw [<- henter] at harr
 cases e with
 | normal =>
  obtain ⟨e', w'', fr', hR, hs, hkn, hfn, hl⟩ := leaves_stepsMD a'.defers .returning w' { b.atR a' [] with mode := .returning } (c₀ :: cs) rfl rfl rfl hf rfl hF hr hq
  exact ⟨e', u, w'', fr', ⟨rfl, hR⟩, (by rw [hc]; exact ComesIn.of_steps (StepsIn.trans harr (.one (fenced_calm (fr := b.atR a' []) hF hr rfl) (stepR_end rfl))) hs), hkn, hfn, hl⟩
 | ret =>
  obtain ⟨todo, hs₀⟩ := harr.1 rfl
  obtain ⟨e', w'', fr', hR, hs, hkn, hfn, hl⟩ := leaves_stepsMD a'.defers .returning w' { b.atR a' todo with mode := .returning } (c₀ :: cs) rfl rfl rfl hf rfl hF hr hq
  exact ⟨e', u, w'', fr', ⟨rfl, hR⟩, (by rw [hc]; exact ComesIn.of_steps hs₀ hs), hkn, hfn, hl⟩
 | panic chain =>
  obtain ⟨todo, hs₀⟩ := harr
  obtain ⟨e', w'', fr', hR, hs, hkn, hfn, hl⟩ := leaves_stepsMD a'.defers (.panicking chain) w' { b.atR a' todo with mode := .panicking chain } (c₀ :: cs) rfl rfl rfl hf rfl hF hr hq
  exact ⟨e', u, w'', fr', ⟨rfl, hR⟩, (by rw [hc]; exact ComesIn.of_steps hs₀ hs), hkn, hfn, hl⟩
 | exit id => exact hq.elim
 | goto l => exact hq.elim
 | outgrown => exact ⟨.outgrown, u, w', b, ⟨rfl, hq⟩, harr.resolve_left (by simp [b]), rfl, rfl, trivial⟩
end marks
theorem idle_ops {c : Cx} {ops : Array Oper} {cs : List Frame} (hcs : recoverD cs = none) {w : World} : ∀ (l : List Oper) (is : List Nat) (t t' : Tr RV) (m : Nat) (a : Act) (Q : Exit -> Act -> List Frame -> World -> Prop), (∀ k (h1 : k < is.length) (h2 : k < l.length), ops[is[k]]? = some l[k]) -> is.length = l.length -> runOpsI P ops l t m = some t' -> RF g c.env t m a -> (∀ a', RF g c.env t' m a' -> a'.defers = a.defers -> Q .normal a' cs w) -> wpOpsSIn (Wd none) 0 P ops Q is a cs w
 | [], is, t, t', m, a, Q, hi, hl, hr, hs, hq => by
  have : is = [] := List.eq_nil_of_length_eq_zero hl
  subst this
  cases hr
  exact hq a hs rfl
 | o :: l, [], t, t', m, a, Q, hi, hl, hr, hs, hq => by simp at hl
 | o :: l, i :: is, t, t', m, a, Q, hi, hl, hr, hs, hq => by
  have ho : ops[i]? = some o := hi 0 (by simp) (by simp)
  have hi' : ∀ k (h1 : k < is.length) (h2 : k < l.length), ops[is[k]]? = some l[k] := fun k h1 h2 => hi (k + 1) (by simpa using h1) (by simpa using h2)
  have hl' : is.length = l.length := by simpa using hl
  simp only [wpOpsSIn, ho]
  refine ⟨fun _ _ => trivial, ?_⟩
  unfold runOpsI at hr
  split at hr <;> try cases hr
  ·rename_i hw
   rw [if_neg (by rw [wanted_sound (c := c) hw hs]; simp)]
   obtain ⟨t1, h1, h2⟩ := putR_some hr
   exact idle_ops hcs l is t1 t' m _ Q hi' hl' h1 (h2 hs (.lit _)) fun a' k1 k2 => hq a' k1 (k2.trans put_defers)
  ·rename_i hw
   rw [if_pos (wanted_sound (c := c) hw hs)]
   split at hr
   ·rename_i hrec
    obtain ⟨t1, h1, h2⟩ := putR_some hr
    have hrun : (execOp a.eval o).run P w = .ok .recover w := by
     unfold isRecover at hrec
     split at hrec <;> try cases hrec
     rename_i args tys e
     simp [execOp, e, resolve, invoke, builtin, Sem.run_bind]
    rw [hrun]
    simp only [hcs]
    exact idle_ops hcs l is t1 t' m _ Q hi' hl' h1 (h2 hs (.lit _)) fun a' k1 k2 => hq a' k1 (k2.trans put_defers)
   ·split at hr <;> try cases hr
    split at hr <;> try cases hr
    split at hr <;> try cases hr
    rename_i r hp
    obtain ⟨t1, h1, h2⟩ := putR_some hr
    obtain ⟨v, k1, k2⟩ := pure_sound (g := g) (env := c.env) (ρ := a.eval) hp fun x _ => evalR_R hs x
    rw [k1 w]
    exact idle_ops hcs l is t1 t' m _ Q hi' hl' h1 (h2 hs k2) fun a' k1 k2 => hq a' k1 (k2.trans put_defers)
theorem idle_code {c : Cx} {cs : List Frame} (hcs : recoverD cs = none) {w : World} : ∀ (code : Code) (t t' : Tr RV) (b : Bool) (m : Nat) (a : Act) (Q : Exit -> Act -> List Frame -> World -> Prop), execI P code t m = some (b, t') -> RF g c.env t m a -> (∀ a', RF g c.env t' m a' -> a'.defers = a.defers -> Q (if b then .ret else .normal) a' cs w) -> code.wpSIn (Wd none) 0 P Q a cs w
 | .skip, t, t', b, m, a, Q, hr, hs, hq => by
  cases hr
  exact wpSIn_of_wpIn rfl (wpIn_skip (hq a hs rfl))
 | .ret, t, t', b, m, a, Q, hr, hs, hq => by
  cases hr
  exact wpSIn_of_wpIn rfl (wpIn_ret (hq a hs rfl))
 | .region _ ops false, t, t', b, m, a, Q, hr, hs, hq => by
  unfold execI at hr
  split at hr <;> cases hr
  rename_i h1
  refine wpSIn_region (idle_ops hcs ops.toList (List.range ops.size) t t' m a Q (fun k h1 h2 => ?_) (by simp) h1 hs hq)
  simp only [List.getElem_range]
  have : k < ops.size := by simpa using h2
  simp [this]
 | .seq x y, t, t', b, m, a, Q, hr, hs, hq => by
  unfold execI at hr
  refine wpSIn_seq ?_
  split at hr
  ·rename_i t1 h1
   exact idle_code hcs x t t1 false m a _ h1 hs fun a' k1 k2 => idle_code hcs y t1 t' b m a' Q hr k1 fun a'' k3 k4 => hq a'' k3 (k4.trans k2)
  ·rename_i hne
   cases b with
   | false => exact absurd hr (hne t')
   | true => exact idle_code hcs x t t' true m a _ hr hs hq
 | .cond o x y, t, t', b, m, a, Q, hr, hs, hq => by
  unfold execI at hr
  have ho := evalR_R hs o
  split at hr <;> try cases hr
  ·rename_i e
   rw [e] at ho
   generalize hv : a.eval o = v at ho
   cases ho
   exact wpSIn_cond (t := true) hv (idle_code hcs x t t' b m a Q hr hs hq)
  ·rename_i e
   rw [e] at ho
   generalize hv : a.eval o = v at ho
   cases ho
   exact wpSIn_cond (t := false) hv (idle_code hcs y t t' b m a Q hr hs hq)
 | .region _ _ true, _, _, _, _, _, _, hr, _, _ => by cases hr
 | .block _ _, _, _, _, _, _, _, hr, _, _ => by cases hr
 | .loop _, _, _, _, _, _, _, hr, _, _ => by cases hr
 | .exit _, _, _, _, _, _, _, hr, _, _ => by cases hr
 | .label _, _, _, _, _, _, _, hr, _, _ => by cases hr
 | .rangeFunc _ _ _ _, _, _, _, _, _, _, hr, _, _ => by cases hr
 | .scope _, _, _, _, _, _, _, hr, _, _ => by cases hr
 | .goto _, _, _, _, _, _, _, hr, _, _ => by cases hr
 | .refuse _, _, _, _, _, _, _, hr, _, _ => by cases hr
theorem idle_sound {c : Cx} {f : FuncId} {ags : List RV} {vs : List Value} (hi : idleR P f ags = true) (hv : RL g c.env ags vs) (w : World) : Runs P f /\ CallsDIn (Wd none) 0 P f vs.toArray .returning w fun e u' w' => u' = .returning /\ e = .returned (.tuple #[]) /\ w' = w := by
 unfold idleR at hi
 split at hi <;> try cases hi
 rename_i fn code hfr
 cases hcr : codeRecovers code with
 | false => rw [hcr] at hi; cases hi
 | true =>
  rw [hcr, cond_true] at hi
  split at hi <;> try cases hi
  rename_i hres
  have hruns : P.funcs[f]? = some fn /\ ¬ (fn.name == "runtime.NumGoroutine") = true /\ fn.body = some code := by
   unfold funcR at hfr
   split at hfr <;> try cases hfr
   rename_i fn' hfn
   split at hfr <;> try cases hfr
   rename_i hname
   split at hfr <;> cases hfr
   rename_i hb
   exact ⟨hfn, hname, hb⟩
  obtain ⟨t, ht, hget⟩ := argT_some ags 0 .leaf fun t => (execI P code t (max fn.ntmps ags.length)).isSome
  rw [ht] at hi
  obtain ⟨⟨b, t'⟩, hex⟩ := Option.isSome_iff_exists.1 hi
  refine ⟨⟨fn, code, hruns⟩, callsDIn_of_wpSIn hruns.1 hruns.2.2 trivial fun c₀ cs hu => ?_⟩
  have hcs : recoverD (c₀ :: cs) = none := by
   simp [recoverD, hu]
  have hres' : fn.results = #[] := by rw [<- Array.toArray_toList (xs := fn.results), hres]
  refine idle_code (c := c) hcs code t t' b _ _ _ hex (RF.start hv hget) fun a' k1 k2 => ?_
  have hrr : ∀ tmps : Array Value, (results fn tmps).run P w = .ok (.tuple #[]) w := fun tmps => by
   simp [results, hres']
  have hc0 : ({ c₀ with mode := .returning } : Frame) = c₀ := by rw [<- hu]
  cases b <;> exact ⟨k2, .returning, by rw [hc0], _, hrr _, rfl, rfl, rfl⟩
theorem leave_sound {orc : CallR} (hcall : CallOK P call) (hcallD : CallDOK P orc call) {fn : Func} {tmps : Array Value} {K : Ending -> World -> Prop} : ∀ (ds : List DC) (l : List Deferred) (h h' : Hp) (nx nx' : Nat) (g : Gm) (w : World), leaveR P orc call ds h nx = some (h', nx') -> DR g c.env ds l -> RW c g h nx w -> (∀ g' w', Ext g g' -> RW c g' h' nx' w' -> ∃ v, (results fn tmps).run P w' = .ok v w' /\ K (.returned v) w') -> LeavesInM (Wd none) 0 P fn tmps K l .returning w
 | [], l, h, h', nx, nx', g, w, hr, hd, hw, hK => by
  cases hr
  cases hd
  exact hK g w (Ext.refl g) hw
 | .call f ags :: ds, l, h, h', nx, nx', g, w, hr, hd, hw, hK => by
  cases hd with
  | call h1 hl =>
  obtain ⟨vs, cap, dargs, rfl, k1, k2⟩ := h1
  unfold leaveR at hr
  split at hr <;> try cases hr
  rename_i hno
  split at hr
  ·rename_i hidle
   obtain ⟨hrun, hcd⟩ := idle_sound (g := g) (c := c) hidle k1 w
   refine ⟨by simp, .inr ⟨fun h => (by cases h), .func f, cap, f, vs.toArray, rfl, ?_, fun _ _ => trivial, ?_⟩⟩
   ·rw [<- k2]
    exact hrun.enter _ w
   ·refine hcd.mono fun e u' w' hh => ?_
    obtain ⟨rfl, rfl, rfl⟩ := hh
    exact leave_sound hcall hcallD ds _ h h' nx nx' g w' hr hl hw hK
  split at hr <;> try cases hr
  rename_i r h1 n1 hc
  refine ⟨by simp, .inr ⟨fun h => (by cases h), .func f, cap, f, vs.toArray, rfl, ?_, fun _ _ => trivial, ?_⟩⟩
  ·rw [<- k2]
   exact (hcall.1 _ _ _ _ _ _ _ hc).1.enter _ w
  ·refine (hcallD _ _ _ _ _ _ _ hno hc c g w vs k1 hw (fun e w' => match e with
    | .returned _ => LeavesInM (Wd none) 0 P fn tmps K _ .returning w'
    | _ => False) (fun g' v w' _ k4 k5 => leave_sound hcall hcallD ds _ h1 h' n1 nx' g' w' hr (hl.mono k4) k5 fun g'' w'' k6 k7 => hK g'' w'' (k4.trans k6) k7) .returning).mono fun e u' w' hh => ?_
   obtain ⟨rfl, hh⟩ := hh
   cases e with
   | returned v => exact hh
   | panicked ch => exact hh.elim
   | outgrown => exact hh.elim
 | .mark G :: ds, l, h, h', nx, nx', g, w, hr, hd, hw, hK => by
  cases hd with
  | mark hq hl =>
  unfold leaveR at hr
  split at hr <;> try cases hr
  rename_i hget
  rw [putT_eq] at hr
  obtain ⟨q, o, hq', ho, hb⟩ := hw.getOt hget
  rw [hq] at hq'
  cases hq'
  have ho' : o = .deferred (some []) := hb
  subst ho'
  refine ⟨by simp, .inl ⟨_, _, rfl, run_takeDeferred ho, ?_⟩⟩
  exact leave_sound hcall hcallD ds _ _ h' nx nx' g _ hr hl (hw.setOt (b' := .df false) hget hq rfl) hK
/-! ### rounds -/
theorem setPs_some {β : Type} {env : Nat -> Value} : ∀ {ps : List Tmp} {ags : List RV} {vs : List Value} {n : Nat} {t : Tr RV} {a : Act} {k : Tr RV -> Option β} {y : β}, setPs ps ags n t k = some y -> RL g env ags vs -> RF g env t n a -> ∃ t', k t' = some y /\ ps.length = vs.length /\ RF g env t' n { tmps := (ps.zip vs).foldl (fun tmps x => tmps.setIfInBounds x.1 x.2) a.tmps, defers := a.defers }
 | [], [], vs, n, t, a, k, y, hs, hr, hf => by
  have : vs = [] := List.eq_nil_of_length_eq_zero hr.len.symm
  subst this
  exact ⟨t, hs, rfl, ⟨hf.size, hf.at_⟩⟩
 | [], _ :: _, vs, n, t, a, k, y, hs, hr, hf => by cases hs
 | _ :: _, [], vs, n, t, a, k, y, hs, hr, hf => by cases hs
 | p :: ps, r :: ags, vs, n, t, a, k, y, hs, hr, hf => by
  unfold setPs at hs
  rcases vs with _ | ⟨v, vs⟩
  ·have := hr.len
   simp at this
  cases hb : Nat.ble (p + 1) n with
  | false => rw [hb] at hs; cases hs
  | true =>
   rw [hb, cond_true, putT_eq] at hs
   have h1 := hf.put (Nat.le_of_ble_eq_true hb) hr.tail.1
   obtain ⟨t', e1, e2, e3⟩ := setPs_some (a := a.put (some p) v) hs hr.tail.2 h1
   exact ⟨t', e1, by simp [e2], ⟨e3.size, e3.at_⟩⟩
theorem round_sound {draw : DrawR} (hcall : CallOK P call) (hdraw : DrawOK P draw) {G : Nat} {args : List RV} {h h' : Hp} {nx nx' : Nat} {re : RE} (hr : roundR P call draw G args h nx = some (re, h', nx')) {g : Gm} {w : World} {vs : List Value} (hv : RL g c.env args vs) (hw : RW c g h nx w) {K : Ending -> World -> Prop} (hK : EndK c g h' nx' K re) {q n : Nat} (hq : g G 0 = some (q, n)) :
  ∃ r : Loop, w.heap[q]? = some (.loop r) /\ vs.toArray.size = r.params.size /\ RoundIn (Wd none) 0 P q r.fn ((r.params.zip vs.toArray).foldl (fun tmps (t, a) => tmps.setIfInBounds t a) r.tmps) r.assign r.body w K := by
 unfold roundR at hr
 split at hr <;> try cases hr
 rename_i pend tm m ps assign body hget
 obtain ⟨q', o, hq', ho, r, rfl, r1, r2, r3, r4, r5, r6⟩ := hw.getOt hget
 rw [hq] at hq'
 cases hq'
 obtain ⟨t', hs1, hlen, hrf⟩ := setPs_some hr hv r6
 have hend : ∀ {jump : Option Code} {s2 : St} {g2 : Gm} {a2 : Act} {w2 : World}, endRoundR G jump s2.h s2.nx = some (re, h', nx') -> Ext g g2 -> SR (some q) c g2 s2 a2 w2 -> ∃ v w', (Instr.endRound q jump).run P w2 = .ok v w' /\ K (.returned v) w' := fun {jump s2 g2 a2 w2} he hx hs2 => by
  unfold endRoundR at he
  split at he <;> try cases he
  rename_i st2 pend2 tm2 m2 ps2 as2 bd2 hget2
  obtain ⟨q2, o2, hq2, ho2, rr, rfl, x1, x2, x3, x4, x5, x6⟩ := hs2.rw.getOt hget2
  rw [hx _ _ _ hq] at hq2
  cases hq2
  split at he
  ·rw [putT_eq] at he
   cases he
   exact ⟨_, _, run_endRound none ho2, hK g2 _ _ (.lit _) hx (hs2.rw.setOt hget2 (hx _ _ _ hq) ⟨_, rfl, rfl, rfl, x3, x4, x5, x6⟩)⟩
  ·rename_i cd
   rw [putT_eq] at he
   cases he
   exact ⟨_, _, run_endRound (some cd) ho2, hK g2 _ _ (.lit _) hx (hs2.rw.setOt hget2 (hx _ _ _ hq) ⟨_, rfl, rfl, rfl, x3, x4, x5, x6⟩)⟩
 refine ⟨r, ho, by rw [r3]; simpa using hlen.symm, ?_⟩
 rw [r4, r5]
 refine roundIn_of_wpIn trivial ?_
 unfold assignedR at hs1
 split at hs1 <;> try cases hs1
 rename_i s1 hx1
 have hs0 : SR (some q) c g ⟨t', m, h, nx, none⟩ { tmps := (r.params.zip vs.toArray).foldl (fun tmps (t, a) => tmps.setIfInBounds t a) r.tmps, defers := [] } w := by
  refine ⟨?_, hw, trivial⟩
  have e : (r.params.zip vs.toArray).foldl (fun tmps (t, a) => tmps.setIfInBounds t a) r.tmps = (ps.toList.zip vs).foldl (fun tmps x => tmps.setIfInBounds x.1 x.2) r.tmps := by
   rw [<- Array.foldl_toList, Array.toList_zip, r3]
  rw [e]
  exact ⟨hrf.size, hrf.at_⟩
 refine exec_sound (ro := some q) hcall hdraw assign _ s1 .normal g _ w _ hx1 hs0 fun g1 a1 w1 k1 k2 => ?_
 unfold beginR at hs1
 split at hs1 <;> try cases hs1
 rename_i pend1 tm1 m1 ps1 as1 bd1 hget1
 rw [putT_eq] at hs1
 obtain ⟨q1, o1, hq1, ho1, rr, rfl, x1, x2, x3, x4, x5, x6⟩ := k2.rw.getOt hget1
 rw [k1 _ _ _ hq] at hq1
 cases hq1
 refine ⟨_, run_beginRound ho1 x1, ?_⟩
 have hs2 : SR (some q) c g1 ⟨s1.tm, s1.n, s1.h.set G (.ot (.lp .busy pend1 tm1 m1 ps1 as1 bd1)), s1.nx, none⟩ a1 (w1.putObj q (.loop { rr with state := .busy })) :=
  ⟨k2.rf, k2.rw.setOt hget1 (k1 _ _ _ hq) ⟨_, rfl, rfl, x2, x3, x4, x5, x6⟩, trivial⟩
 unfold bodyEndR at hs1
 split at hs1 <;> try cases hs1
 ·rename_i s2 hx2
  exact exec_sound (ro := some q) hcall hdraw body _ s2 .normal g1 a1 _ _ hx2 hs2 fun g2 a2 w2 k3 k4 => hend hs1 (k1.trans k3) k4
 ·rename_i s2 hx2
  exact exec_sound (ro := some q) hcall hdraw body _ s2 .ret g1 a1 _ _ hx2 hs2 fun g2 a2 w2 k3 k4 => hend hs1 (k1.trans k3) k4
 ·rename_i id s2 hx2
  exact exec_sound (ro := some q) hcall hdraw body _ s2 (.exit id) g1 a1 _ _ hx2 hs2 fun g2 a2 w2 k3 k4 => hend hs1 (k1.trans k3) k4
theorem body_sound {orc : CallR} {draw : DrawR} (horc : CallOK P orc) (ih : CallOK P call) (ihD : CallDOK P orc call) (hdraw : DrawOK P draw) : CallOK P (bodyR P orc call draw) /\ CallDOK P orc (bodyR P orc call draw) := by
  have both : ∀ f args h nx re h' nx', orc (.fn f) args h nx = none -> bodyR P orc call draw (.fn f) args h nx = some (re, h', nx') -> ∀ (c : Cx) (g : Gm) (w : World) (vs : List Value), RL g c.env args vs -> RW c g h nx w -> ∀ K, EndK c g h' nx' K re -> ∃ fn code, P.funcs[f]? = some fn /\ fn.body = some code /\ code.wpIn (Wd none) 0 P (bodyPostM (Wd none) 0 P fn K) { tmps := vs.toArray ++ Array.replicate (fn.ntmps - vs.toArray.size) undef, defers := [] } w := by
   intro f args h nx re h' nx' hno hc c g w vs hrl hw K hK
   rw [bodyR] at hc
   split at hc <;> try cases hc
   rename_i fn code hfr
   have hruns : P.funcs[f]? = some fn /\ ¬ (fn.name == "runtime.NumGoroutine") = true /\ fn.body = some code := by
    unfold funcR at hfr
    split at hfr <;> try cases hfr
    rename_i fn' hfn
    split at hfr <;> try cases hfr
    rename_i hname
    split at hfr <;> cases hfr
    rename_i hb
    exact ⟨hfn, hname, hb⟩
   rw [hno] at hc
   refine ⟨fn, code, hruns.1, hruns.2.2, ?_⟩
   obtain ⟨t, ht, hget⟩ := argT_some args 0 .leaf fun t => endR P orc call fn (execC P call draw code ⟨t, max fn.ntmps args.length, h, nx, some []⟩)
   simp only at hc
   rw [ht] at hc
   have hs : SR none c g ⟨t, max fn.ntmps args.length, h, nx, some []⟩ { tmps := vs.toArray ++ Array.replicate (fn.ntmps - vs.toArray.size) undef, defers := [] } w := ⟨RF.start hrl hget, hw, rfl, .nil⟩
   have done : ∀ {s : St}, byeR P orc call fn s s.ds = some (re, h', nx') -> ∀ {g' : Gm} {a' : Act} {w' : World}, Ext g g' -> SR none c g' s a' w' -> LeavesInM (Wd none) 0 P fn a'.tmps K a'.defers .returning w' := fun {s} hh {g' a' w'} k1 k2 => by
    have hdf := k2.df
    unfold byeR at hh
    split at hh <;> try cases hh
    rename_i dl hdl
    rw [hdl] at hdf
    unfold wentR at hh
    split at hh <;> try cases hh
    rename_i h1 n1 hlv
    split at hh <;> cases hh
    rename_i rs hrs
    refine leave_sound ih ihD dl a'.defers s.h _ s.nx _ g' w' hlv hdf.2 k2.rw fun g'' w'' k3 k4 => ?_
    obtain ⟨v, e1, e2⟩ := results_sound (s := ⟨s.tm, s.n, h', nx', s.ds⟩) (a := a') ⟨k2.rf.mono k3, k4, k2.df.mono k3⟩ hrs
    exact ⟨v, e1, hK g'' v w'' e2 (k1.trans k3) k4⟩
   unfold endR at hc
   split at hc <;> try cases hc
   ·rename_i s hx
    exact exec_sound (ro := none) ih hdraw code _ s .normal g _ w _ hx hs fun g' a' w' k1 k2 => done hc k1 k2
   ·rename_i s hx
    exact exec_sound (ro := none) ih hdraw code _ s .ret g _ w _ hx hs fun g' a' w' k1 k2 => done hc k1 k2
   ·rename_i v s hx
    split at hc <;> cases hc
    rename_i hds
    refine exec_sound (ro := none) ih hdraw code _ s (.panic v) g _ w _ hx hs fun g' u a' w' k1 k2 k3 => ?_
    have hd := k2.df
    rw [hds] at hd
    show LeavesInM (Wd none) 0 P fn a'.tmps K a'.defers (.panicking [{ v := u, recovered := false }]) w'
    cases hd' : a'.defers with
    | nil => exact hK g' u w' k3 k1 k2.rw
    | cons x l =>
     rw [hd'] at hd
     cases hd.2
  refine ⟨⟨fun f args h nx re h' nx' hc => ?_, fun G args h nx re h' nx' hc c g w vs hrl hw K hK q n hq => round_sound ih hdraw hc hrl hw hK hq⟩, fun f args h nx re h' nx' hno hc c g w vs hrl hw K hK u => ?_⟩
  ·cases ho : orc (.fn f) args h nx with
   | some r =>
    have hc' := hc
    rw [bodyR] at hc'
    split at hc' <;> try cases hc'
    rw [ho] at hc'
    cases hc'
    exact horc.1 _ _ _ _ _ _ _ ho
   | none =>
    have hc' := hc
    rw [bodyR] at hc'
    split at hc' <;> try cases hc'
    rename_i fn code hfr
    refine ⟨⟨fn, code, ?_⟩, fun c g w vs hrl hw K hK => ?_⟩
    ·unfold funcR at hfr
     split at hfr <;> try cases hfr
     rename_i fn' hfn
     split at hfr <;> try cases hfr
     rename_i hname
     split at hfr <;> cases hfr
     rename_i hb
     exact ⟨hfn, hname, hb⟩
    ·obtain ⟨fn, code, k1, k2, k3⟩ := both f args h nx re h' nx' ho hc c g w vs hrl hw K hK
     exact callsIn_Wd.1 (callsIn_of_wp_marks k1 k2 trivial k3)
  ·obtain ⟨fn, code, k1, k2, k3⟩ := both f args h nx re h' nx' hno hc c g w vs hrl hw K hK
   exact callsDIn_of_wp_marks k1 k2 trivial k3
theorem call_sound {orc : CallR} {draw : CallR -> DrawR} (horc : CallOK P orc) (hdraw : ∀ call, CallOK P call -> DrawOK P (draw call)) : ∀ d, CallOK P (callR P orc draw d) /\ CallDOK P orc (callR P orc draw d)
 | 0 => ⟨⟨fun f args h nx re h' nx' hc => by (cases hc), fun f args h nx re h' nx' hc => by (cases hc)⟩, fun f args h nx re h' nx' _ hc => by cases hc⟩
 | d + 1 => by
  obtain ⟨ih, ihD⟩ := call_sound horc hdraw d
  exact body_sound horc ih ihD (hdraw _ ih)
end
end Go.Proofs.YtnlimlboedohgaaGreatDoor.Ax
