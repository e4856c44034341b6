/-
  The lean reckoning of functions is right.
-/
import Derived.Test.YthkhdbfohaaojaaGreatDoorAyOp
set_option linter.unusedVariables false
set_option linter.unusedSimpArgs false
namespace Go.Proofs.YthkhdbfohaaojaaGreatDoor.Ax
open Go Go.RowKit
/-- on, if it went on -/
def thenR (x : Option (RX × St)) (F : St → Option (RX × St)) : Option (RX × St) := match x with
  | some (.normal, s') => F s'
  | r => r
theorem thenR_mono {x x' : Option (RX × St)} {F F' : St → Option (RX × St)} {y : RX × St} (hx : ∀ y, x = some y → x' = some y) (hF : ∀ s, F s = some y → F' s = some y) (h : thenR x F = some y) : thenR x' F' = some y := by
  cases x with
  | none => cases h
  | some q =>
    obtain ⟨z, s⟩ := q
    rw [hx _ rfl]
    cases z with
    | normal => exact hF s h
    | _ => exact h
section
variable {P : Program} {call : CallR}
theorem execC_seq {draw : DrawR} {a b : Code} {s : St} : execC P call draw (.seq a b) s = thenR (execC P call draw a s) (execC P call draw b) := by
  rw [execC]
  unfold thenR
  cases execC P call draw a s with
  | none => rfl
  | some q => obtain ⟨z, s⟩ := q; cases z <;> rfl
theorem loopR_succ {body : St → Option (RX × St)} {f : Nat} {s : St} : loopR body (f + 1) s = thenR (body s) (loopR body f) := by
  rw [loopR]
  unfold thenR
  cases body s with
  | none => rfl
  | some q => obtain ⟨z, s⟩ := q; cases z <;> rfl
/-! ### the frame's size stays -/
theorem runOps_n {ops : Array Oper} : ∀ {l : List Oper} {s s' : St} {x : RX}, runOps P call ops l s = some (x, s') → s'.n = s.n
  | [], s, s', x, h => by
    cases h
    rfl
  | o :: l, s, s', x, h => by
    have step : ∀ {q : RV} {h1 : Hp} {n1 : Nat} {d1 : Option (List DC)}, putR s.tm s.n o.dst q (fun t' => runOps P call ops l ⟨t', s.n, h1, n1, d1⟩) = some (x, s') → s'.n = s.n := fun {q h1 n1 d1} hh => by
      rw [putR_bind2] at hh
      cases hq : putR s.tm s.n o.dst q some with
      | none => rw [hq] at hh; cases hh
      | some t' =>
        rw [hq] at hh
        have h2 : runOps P call ops l ⟨t', s.n, h1, n1, d1⟩ = some (x, s') := hh
        exact runOps_n (s := ⟨t', s.n, h1, n1, d1⟩) h2
    unfold runOps at h
    split at h <;> try cases h
    · split at h
      · cases h
        rfl
      · split at h
        · exact step h
        · cases h
          rfl
        · split at h <;> try cases h
          split at h <;> try cases h
          exact step h
    · exact step h
theorem runOps_cons {ops : Array Oper} {o : Oper} {l : List Oper} {s : St} : runOps P call ops (o :: l) s = thenR (runOps P call ops [o] s) (runOps P call ops l) := by
  have step : ∀ {q : RV} {h1 : Hp} {n1 : Nat} {d1 : Option (List DC)}, putR s.tm s.n o.dst q (fun t' => runOps P call ops l ⟨t', s.n, h1, n1, d1⟩) = thenR (putR s.tm s.n o.dst q (fun t' => runOps P call ops [] ⟨t', s.n, h1, n1, d1⟩)) (runOps P call ops l) := fun {q h1 n1 d1} => by
    rw [putR_bind2, putR_bind2 (q := q) (k := fun t' => runOps P call ops [] ⟨t', s.n, h1, n1, d1⟩)]
    cases putR s.tm s.n o.dst q some <;> rfl
  rw [runOps, runOps]
  cases wantedR s.tm ops o with
  | none => rfl
  | some b =>
    cases b with
    | false => exact step
    | true =>
      simp only
      cases panicR s.tm o with
      | some v => rfl
      | none =>
        simp only
        cases opR P call s.tm s.h s.nx o with
        | none =>
          simp only
          cases deferR s.tm o with
          | none => rfl
          | some fa =>
            obtain ⟨f, as⟩ := fa
            simp only
            cases s.ds with
            | none => rfl
            | some l' => exact step
        | some q =>
          obtain ⟨re, h', nx'⟩ := q
          cases re with
          | ret r => exact step
          | pan v => rfl
theorem drawR_n {ops : Array Oper} {s s' : St} {x : RX} (h : drawR P call ops s = some (x, s')) : s'.n = s.n := by
  unfold drawR at h
  split at h <;> try cases h
  split at h <;> try cases h
  rename_i rv t hgen
  dsimp only at h
  cases hro : readsOk P (fun j => (Tr.get _ j).getD 0) s.h rv rv with
  | false => rw [hro] at h; cases h
  | true =>
    rw [hro, cond_true] at h
    split at h <;> (cases h; rfl)
theorem endLoopR_n {G : Nat} {s s' : St} {l : List DC} {h : Hp} {nx : Nat} {x : RX} (hh : endLoopR G s l h nx = some (x, s')) : s'.n = s.n := by
  unfold endLoopR at hh
  split at hh <;> try cases hh
  split at hh <;> try cases hh
  all_goals
    rw [putT_eq] at hh
    split at hh <;> (cases hh; try rfl)
theorem loopFR_n {g : Operand} {ps : Array Tmp} {a b : Code} {s s' : St} {x : RX} (h : loopFR call g ps a b s = some (x, s')) : s'.n = s.n := by
  unfold loopFR at h
  split at h <;> try cases h
  simp only [forceN_eq] at h
  split at h <;> try cases h
  simp only [putT_eq] at h
  split at h <;> try cases h
  exact endLoopR_n h
theorem loopR_n {body : St → Option (RX × St)} (hb : ∀ {s s' x}, body s = some (x, s') → s'.n = s.n) : ∀ {f : Nat} {s s' : St} {x : RX}, loopR body f s = some (x, s') → s'.n = s.n
  | 0, s, s', x, h => by cases h
  | f + 1, s, s', x, h => by
    unfold loopR at h
    split at h
    · rename_i s1 h1
      exact (loopR_n hb h).trans (hb h1)
    · exact hb h
theorem execC_n {draw : DrawR} (hd : ∀ {ops s s' x}, draw ops s = some (x, s') → s'.n = s.n) : ∀ {c : Code} {s s' : St} {x : RX}, execC P call draw c s = some (x, s') → s'.n = s.n
  | .skip, s, s', x, h => by cases h; rfl
  | .label _, s, s', x, h => by cases h; rfl
  | .exit _, s, s', x, h => by cases h; rfl
  | .ret, s, s', x, h => by cases h; rfl
  | .seq a b, s, s', x, h => by
    unfold execC at h
    split at h
    · rename_i s1 h1
      exact (execC_n hd h).trans (execC_n hd h1)
    · exact execC_n hd h
  | .cond c a b, s, s', x, h => by
    unfold execC at h
    split at h <;> try cases h
    · exact execC_n hd h
    · exact execC_n hd h
  | .block id c, s, s', x, h => by
    unfold execC at h
    split at h
    · rename_i id' s1 h1
      have := execC_n hd h1
      cases hb : Nat.beq id' id <;> (rw [hb] at h; cases h; exact this)
    · exact execC_n hd h
  | .loop c, s, s', x, h => by
    unfold execC at h
    exact loopR_n (fun hh => execC_n hd hh) h
  | .region _ ops false, s, s', x, h => runOps_n h
  | .region _ ops true, s, s', x, h => hd h
  | .rangeFunc g ps a b, s, s', x, h => loopFR_n h
  | .scope _, s, s', x, h => by cases h
  | .goto _, s, s', x, h => by cases h
  | .refuse _, s, s', x, h => by cases h
end
/-! ### more calls known, no less said -/
section
variable {P : Program} {cr cr' : CallR}
theorem genD_mono (hl : Le cr cr') {ops : Array Oper} {mk : Tr Nat} {S0 : Hp} {base n : Nat} : ∀ {l : List Oper} {rv : List Rec} {t : Tr RV} {x : List Rec × Tr RV}, genD P cr ops mk S0 base n l rv t = some x → genD P cr' ops mk S0 base n l rv t = some x
  | [], rv, t, x, h => h
  | o :: l, rv, t, x, h => by
    rw [genD] at h ⊢
    dsimp only at h ⊢
    cases hw : wantedR t ops o with
    | none => rw [hw] at h; cases h
    | some b =>
      rw [hw] at h
      cases b with
      | false => exact putR_mono (fun t' => genD_mono hl) h
      | true =>
        simp only at h ⊢
        cases hc : clsR P o with
        | pure =>
          rw [hc] at h
          simp only at h ⊢
          cases hq : pureR P t o with
          | none => rw [hq] at h; cases h
          | some r => rw [hq] at h; exact putR_mono (fun t' => genD_mono hl) h
        | read =>
          rw [hc] at h
          simp only at h ⊢
          cases hq : readR P t (htA (fun a => (((mk.get rv.length).getD 0)).testBit a) (stE (fun j => (mk.get j).getD 0) S0 (base + ops.size) (fun _ => true) rv).1 (stE (fun j => (mk.get j).getD 0) S0 (base + ops.size) (fun _ => true) rv).2.1 rv) o with
          | none => rw [hq] at h; cases h
          | some r => rw [hq] at h; exact putR_mono (fun t' => genD_mono hl) h
        | alloc =>
          rw [hc] at h
          simp only at h ⊢
          cases hg : S0.get (base + rv.length) with
          | some _ => rw [hg] at h; cases h
          | none =>
            rw [hg] at h
            simp only [forceN_eq] at h ⊢
            cases hq : allocR P t (base + rv.length) o with
            | none => rw [hq] at h; cases h
            | some p =>
              obtain ⟨r, ob⟩ := p
              rw [hq] at h
              exact putR_mono (fun t' => genD_mono hl) h
        | eff =>
          rw [hc] at h
          simp only at h ⊢
          cases hch : chained ((mk.get rv.length).getD 0) (lastEff rv) with
          | false => rw [hch] at h; cases h
          | true =>
            rw [hch, cond_true] at h
            rw [cond_true]
            cases hq : effR P cr t (htA (fun a => (((mk.get rv.length).getD 0)).testBit a) (stE (fun j => (mk.get j).getD 0) S0 (base + ops.size) (fun _ => true) rv).1 (stE (fun j => (mk.get j).getD 0) S0 (base + ops.size) (fun _ => true) rv).2.1 rv) (stE (fun j => (mk.get j).getD 0) S0 (base + ops.size) (fun _ => true) rv).2.2 o with
            | none => rw [hq] at h; cases h
            | some p =>
              obtain ⟨re, h', nx'⟩ := p
              rw [hq] at h
              rw [effR_mono hl hq]
              cases re with
              | ret r => exact putR_mono (fun t' => genD_mono hl) h
              | pan v => cases h
theorem drawR_mono (hl : Le cr cr') {ops : Array Oper} {s : St} {x : RX × St} (h : drawR P cr ops s = some x) : drawR P cr' ops s = some x := by
  unfold drawR at h ⊢
  cases hs : statOf P ops with
  | none => rw [hs] at h; cases h
  | some mk =>
    rw [hs] at h
    simp only at h ⊢
    cases hg : genD P cr ops mk s.h s.nx s.n ops.toList [] s.tm with
    | none => rw [hg] at h; cases h
    | some p =>
      rw [hg] at h
      rw [genD_mono hl hg]
      exact h
theorem loopFR_mono (hl : Le cr cr') {g : Operand} {ps : Array Tmp} {a b : Code} {s : St} {x : RX × St} (h : loopFR cr g ps a b s = some x) : loopFR cr' g ps a b s = some x := by
  unfold loopFR at h ⊢
  cases hds : s.ds with
  | none => rw [hds] at h; cases h
  | some l =>
    rw [hds] at h
    simp only [forceN_eq, putT_eq] at h ⊢
    cases ht : targetR (evalR s.tm g) [.yld (s.nx + 1)] with
    | none => rw [ht] at h; cases h
    | some fa =>
      obtain ⟨f, as⟩ := fa
      rw [ht] at h
      simp only at h ⊢
      cases hc : cr (.fn f) as ((s.h.set s.nx (.ot (.df true))).set (s.nx + 1) (.ot (.lp .ready none s.tm s.n ps a b))) (s.nx + 1 + 1) with
      | none => rw [hc] at h; cases h
      | some q => rw [hc] at h; rw [hl _ _ _ _ _ hc]; exact h
theorem loopR_mono {body body' : St → Option (RX × St)} {x : RX × St} (hb : ∀ s y, body s = some y → body' s = some y) : ∀ {f : Nat} {s : St}, loopR body f s = some x → loopR body' f s = some x
  | 0, s, h => by cases h
  | f + 1, s, h => by
    rw [loopR_succ] at h ⊢
    exact thenR_mono (hb s) (fun s' => loopR_mono hb) h
theorem execC_mono (hl : Le cr cr') : ∀ {c : Code} {s : St} {x : RX × St}, execC P cr (drawR P cr) c s = some x → execC P cr' (drawR P cr') c s = some x
  | .skip, s, x, h => h
  | .label _, s, x, h => h
  | .exit _, s, x, h => h
  | .ret, s, x, h => h
  | .seq a b, s, x, h => by
    rw [execC_seq] at h ⊢
    exact thenR_mono (fun y => execC_mono hl) (fun s' => execC_mono hl) h
  | .cond c a b, s, x, h => by
    rw [execC] at h ⊢
    split at h <;> try cases h
    · rename_i e
      exact execC_mono hl h
    · rename_i e
      exact execC_mono hl h
  | .block id c, s, x, h => by
    rw [execC] at h ⊢
    cases hc : execC P cr (drawR P cr) c s with
    | none => rw [hc] at h; cases h
    | some q => rw [hc] at h; rw [execC_mono hl hc]; exact h
  | .loop c, s, x, h => by
    rw [execC] at h ⊢
    exact loopR_mono (fun s y => execC_mono hl) h
  | .region _ ops false, s, x, h => runOps_mono hl h
  | .region _ ops true, s, x, h => drawR_mono hl h
  | .rangeFunc g ps a b, s, x, h => loopFR_mono hl h
  | .scope _, s, x, h => by cases h
  | .goto _, s, x, h => by cases h
  | .refuse _, s, x, h => by cases h
theorem leaveR_mono (hl : Le cr cr') {orc : CallR} : ∀ {ds : List DC} {h : Hp} {nx : Nat} {x : Hp × Nat}, leaveR orc cr ds h nx = some x → leaveR orc cr' ds h nx = some x
  | [], h, nx, x, hh => hh
  | .call f as :: ds, h, nx, x, hh => by
    rw [leaveR] at hh ⊢
    cases ho : orc (.fn f) as h nx with
    | some _ => rw [ho] at hh; cases hh
    | none =>
      rw [ho] at hh
      simp only at hh ⊢
      cases hc : cr (.fn f) as h nx with
      | none => rw [hc] at hh; cases hh
      | some q =>
        obtain ⟨re, h', nx'⟩ := q
        rw [hc] at hh
        rw [hl _ _ _ _ _ hc]
        cases re with
        | ret r => exact leaveR_mono hl hh
        | pan v => cases hh
  | .mark G :: ds, h, nx, x, hh => by
    rw [leaveR] at hh ⊢
    split at hh <;> try cases hh
    rename_i hg
    rw [putT_eq] at hh
    rw [putT_eq]
    exact leaveR_mono hl hh
theorem byeR_mono (hl : Le cr cr') {orc : CallR} {fn : Func} {s : St} {ds : Option (List DC)} {x : RE × Hp × Nat} (h : byeR P orc cr fn s ds = some x) : byeR P orc cr' fn s ds = some x := by
  unfold byeR at h ⊢
  cases ds with
  | none => cases h
  | some l =>
    simp only at h ⊢
    cases hc : leaveR orc cr l s.h s.nx with
    | none => rw [hc] at h; cases h
    | some q => rw [hc] at h; rw [leaveR_mono hl hc]; exact h
theorem endR_mono (hl : Le cr cr') {orc : CallR} {fn : Func} {y : Option (RX × St)} {x : RE × Hp × Nat} (h : endR P orc cr fn y = some x) : endR P orc cr' fn y = some x := by
  cases y with
  | none => cases h
  | some q =>
    obtain ⟨z, s⟩ := q
    cases z with
    | normal => exact byeR_mono hl h
    | ret => exact byeR_mono hl h
    | exit id => cases h
    | panic v => exact h
theorem roundR_mono (hl : Le cr cr') {G : Nat} {args : List RV} {h : Hp} {nx : Nat} {x : RE × Hp × Nat} (hh : roundR P cr (drawR P cr) G args h nx = some x) : roundR P cr' (drawR P cr') G args h nx = some x := by
  unfold roundR at hh ⊢
  split at hh <;> try cases hh
  rename_i pend tm n ps assign body hg
  have key : ∀ (l : List Tmp) (as : List RV) (t : Tr RV), setPs l as n t (fun tm' => assignedR G (execC P cr (drawR P cr) body) (execC P cr (drawR P cr) assign ⟨tm', n, h, nx, none⟩)) = some x → setPs l as n t (fun tm' => assignedR G (execC P cr' (drawR P cr') body) (execC P cr' (drawR P cr') assign ⟨tm', n, h, nx, none⟩)) = some x := by
    intro l
    induction l with
    | nil =>
      intro as t hh
      cases as with
      | cons a as => cases hh
      | nil =>
        have h1 : assignedR G (execC P cr (drawR P cr) body) (execC P cr (drawR P cr) assign ⟨t, n, h, nx, none⟩) = some x := hh
        show assignedR G (execC P cr' (drawR P cr') body) (execC P cr' (drawR P cr') assign ⟨t, n, h, nx, none⟩) = some x
        cases ha : execC P cr (drawR P cr) assign ⟨t, n, h, nx, none⟩ with
        | none => rw [ha] at h1; cases h1
        | some q =>
          rw [ha] at h1
          rw [execC_mono hl ha]
          obtain ⟨z, s⟩ := q
          cases z with
          | normal =>
            unfold assignedR at h1 ⊢
            simp only at h1 ⊢
            unfold beginR at h1 ⊢
            split at h1 <;> try cases h1
            rename_i hg2
            rw [putT_eq] at h1
            rw [putT_eq]
            cases hb : execC P cr (drawR P cr) body ⟨s.tm, s.n, _, s.nx, none⟩ with
            | none => rw [hb] at h1; cases h1
            | some q2 => rw [hb] at h1; rw [execC_mono hl hb]; exact h1
          | _ => cases h1
    | cons p l ih =>
      intro as t hh
      cases as with
      | nil => cases hh
      | cons a as =>
        rw [setPs] at hh ⊢
        cases hb : Nat.ble (p + 1) n with
        | false => rw [hb] at hh; cases hh
        | true =>
          rw [hb, cond_true, putT_eq] at hh
          rw [cond_true, putT_eq]
          exact ih _ _ hh
  exact key _ _ _ hh
end
section
variable {E : Env} {V : PV} {nt : Nat}
theorem outK_bind {kn kn' : KN} {kx kx' : KX} {x : Option (RX × St)} {F : St → Option (RX × St)} {r : Ans} (h : outK kn kx x = some r)
    (hn : ∀ s, x = some (.normal, s) → kn s.tm s.h s.nx s.ds = some r → outK kn' kx' (F s) = some r) (hx : ∀ y s, x = some (y, s) → y ≠ .normal → kx y s.tm s.h s.nx s.ds = some r → kx' y s.tm s.h s.nx s.ds = some r) :
    outK kn' kx' (thenR x F) = some r := by
  cases x with
  | none => cases h
  | some q =>
    obtain ⟨y, s⟩ := q
    cases y with
    | normal => exact hn s rfl h
    | exit id => exact hx (.exit id) s rfl (fun e => by cases e) h
    | ret => exact hx .ret s rfl (fun e => by cases e) h
    | panic v => exact hx (.panic v) s rfl (fun e => by cases e) h
theorem runK_ok {cr : CallR} (hl : Le E.callR0 cr) (hck : CK E.callK cr) (hV : V.Ok E.P) (hn : nt ≤ E.n) {ops : Array Oper} : ∀ (l : List Oper) (t : Tr RV) (h : Hp) (nx : Nat) (ds : Option (List DC)) (kn : KN) (kx : KX) (r : Ans), runK E (cIs V nt ops l) t h nx ds kn kx = some r → outK kn kx (runOps E.P cr ops l ⟨t, E.n, h, nx, ds⟩) = some r
  | [], t, h, nx, ds, kn, kx, r, hh => hh
  | o :: l, t, h, nx, ds, kn, kx, r, hh => by
    have h1 : stepI (cI V nt ops o) E t h nx ds (fun t h nx ds => runK E (cIs V nt ops l) t h nx ds kn kx) kx = some r := hh
    have h2 : outK (fun t h nx ds => runK E (cIs V nt ops l) t h nx ds kn kx) kx (runOps E.P cr ops [o] ⟨t, E.n, h, nx, ds⟩) = some r := cI_ok hn hl hck hV h1
    rw [runOps_cons]
    refine outK_bind h2 (fun s hs hk => ?_) fun y s hs hy hk => hk
    have := runK_ok hl hck hV hn l _ _ _ _ _ _ _ hk
    have e : s.n = E.n := runOps_n hs
    rw [← e] at this
    exact this
theorem execK_ok {cr : CallR} (hl : Le E.callR0 cr) (hck : CK E.callK cr) (hV : V.Ok E.P) (hn : nt ≤ E.n) : ∀ (c : Code) (t : Tr RV) (h : Hp) (nx : Nat) (ds : Option (List DC)) (kn : KN) (kx : KX) (r : Ans), execK V nt E c t h nx ds kn kx = some r → outK kn kx (execC E.P cr (drawR E.P cr) c ⟨t, E.n, h, nx, ds⟩) = some r
  | .skip, t, h, nx, ds, kn, kx, r, hh => hh
  | .label _, t, h, nx, ds, kn, kx, r, hh => hh
  | .exit _, t, h, nx, ds, kn, kx, r, hh => hh
  | .ret, t, h, nx, ds, kn, kx, r, hh => hh
  | .scope _, t, h, nx, ds, kn, kx, r, hh => by cases hh
  | .goto _, t, h, nx, ds, kn, kx, r, hh => by cases hh
  | .refuse _, t, h, nx, ds, kn, kx, r, hh => by cases hh
  | .region _ ops false, t, h, nx, ds, kn, kx, r, hh => runK_ok hl hck hV hn _ _ _ _ _ _ _ _ hh
  | .region _ ops true, t, h, nx, ds, kn, kx, r, hh => outK_mono (fun y hy => drawR_mono hl hy) hh
  | .rangeFunc g ps a b, t, h, nx, ds, kn, kx, r, hh => outK_mono (fun y hy => loopFR_mono hl hy) hh
  | .seq a b, t, h, nx, ds, kn, kx, r, hh => by
    have h1 := execK_ok hl hck hV hn a t h nx ds (fun t h nx ds => execK V nt E b t h nx ds kn kx) kx r hh
    rw [execC_seq]
    refine outK_bind h1 (fun s hs hk => ?_) fun y s hs hy hk => hk
    have := execK_ok hl hck hV hn b _ _ _ _ _ _ _ hk
    have e : s.n = E.n := execC_n (fun hd => drawR_n hd) hs
    rw [← e] at this
    exact this
  | .cond c a b, t, h, nx, ds, kn, kx, r, hh => by
    have h1 : getO (cOd c) t (fun v => condK v (execK V nt E a t h nx ds kn kx) (execK V nt E b t h nx ds kn kx) none) = some r := hh
    rw [getO_eq] at h1
    rcases boolK_some h1 with e | ⟨q, e1, hk⟩
    · cases e
    rw [execC]
    simp only [e1]
    cases q with
    | true => exact execK_ok hl hck hV hn a _ _ _ _ _ _ _ hk
    | false => exact execK_ok hl hck hV hn b _ _ _ _ _ _ _ hk
  | .block id c, t, h, nx, ds, kn, kx, r, hh => by
    have h1 := execK_ok hl hck hV hn c t h nx ds kn (exitK id kn kx) r hh
    rw [execC]
    cases hx : execC E.P cr (drawR E.P cr) c ⟨t, E.n, h, nx, ds⟩ with
    | none => rw [hx] at h1; cases h1
    | some q =>
      obtain ⟨y, s⟩ := q
      rw [hx] at h1
      cases y with
      | normal => exact h1
      | ret => exact h1
      | panic v => exact h1
      | exit id' =>
        have h2 : (Bool.rec (kx (.exit id') s.tm s.h s.nx s.ds) (kn s.tm s.h s.nx s.ds) (Nat.beq id' id) : Option Ans) = some r := h1
        cases hb : Nat.beq id' id with
        | true =>
          rw [hb] at h2
          simp only [hb, cond_true]
          exact h2
        | false =>
          rw [hb] at h2
          simp only [hb, cond_false]
          exact h2
  | .loop c, t, h, nx, ds, kn, kx, r, hh => by
    have key : ∀ (f : Nat) (t : Tr RV) (h : Hp) (nx : Nat) (ds : Option (List DC)), loopK (execK V nt E c) kx f t h nx ds = some r →
        outK kn kx (loopR (execC E.P cr (drawR E.P cr) c) f ⟨t, E.n, h, nx, ds⟩) = some r := by
      intro f
      induction f with
      | zero =>
        intro t h nx ds hh
        cases hh
      | succ f ih =>
        intro t h nx ds hh
        have h1 := execK_ok hl hck hV hn c t h nx ds _ kx r hh
        rw [loopR_succ]
        refine outK_bind h1 (fun s hs hk => ?_) fun y s hs hy hk => hk
        have := ih _ _ _ _ hk
        have e : s.n = E.n := execC_n (fun hd => drawR_n hd) hs
        rw [← e] at this
        exact this
    rw [execC]
    exact key lots t h nx ds hh
end
/-! ### calls -/
section
variable {P : Program} {V : PV} {orc : CallR}
theorem resC_ok : ∀ {l : List ResultVar} {ps : List Pa}, resC l = some ps → ∀ (s : St) {β : Type} (k : List RV → β), ∃ rs, resultsR P s l = some rs ∧ getsP ps s.tm k = k rs
  | [], ps, h, s, β, k => by
    cases h
    exact ⟨[], rfl, rfl⟩
  | .tmp i :: l, ps, h, s, β, k => by
    unfold resC at h
    split at h <;> cases h
    rename_i ps' hp
    obtain ⟨rs, h1, h2⟩ := resC_ok hp s (fun l => k ((s.tm.get i).getD undR :: l))
    refine ⟨(s.tm.get i).getD undR :: rs, ?_, ?_⟩
    · unfold resultsR resultR
      have e : evalR s.tm (.tmp i) = (s.tm.get i).getD undR := by
        show (match s.tm.get i with | some r => r | none => .lit undef) = _
        cases s.tm.get i <;> rfl
      simp only [h1, e]
    · have e : getsP (pathOf i :: ps') s.tm k = getP (pathOf i) s.tm fun r => getsP ps' s.tm fun l => k (r :: l) := rfl
      rw [e, getP_eq]
      exact h2
  | .cell a ty :: l, ps, h, s, β, k => by cases h
theorem oneK2_eq {β : Type} (l : List RV) (k : RV → β) : oneK2 l k = k (oneOf l) := by
  rcases l with _ | ⟨a, _ | ⟨b, l⟩⟩ <;> rfl
theorem slowEnd_ok {E : Env} {cr : CallR} (hl : Le E.callR0 cr) {fn : Func} {k : RE → Hp → Nat → Option Ans} {x : RX} {t : Tr RV} {h : Hp} {nx : Nat} {ds : Option (List DC)} {r : Ans} (hh : slowEnd orc E fn k x t h nx ds = some r) : ansK k (endR E.P orc cr fn (some (x, ⟨t, E.n, h, nx, ds⟩))) = some r := by
  unfold slowEnd at hh
  split at hh
  · rename_i re h' nx' e
    rw [endR_mono hl e]
    exact hh
  · cases hh
theorem quickEnd_ok {E : Env} {cr : CallR} (hl : Le E.callR0 cr) {fn : Func} {k : RE → Hp → Nat → Option Ans} {x : RX} {t : Tr RV} {h : Hp} {nx : Nat} {ds : Option (List DC)} {r : Ans} (hx : x = .normal ∨ x = .ret) (hh : quickEnd orc E fn k x t h nx ds = some r) : ansK k (endR E.P orc cr fn (some (x, ⟨t, E.n, h, nx, ds⟩))) = some r := by
  unfold quickEnd at hh
  cases hc : resC fn.results.toList with
  | none => rw [hc] at hh; exact slowEnd_ok hl hh
  | some ps =>
    rw [hc] at hh
    have h1 : noDefers ds (getsP ps t fun l => oneK2 l fun q => k (.ret q) h nx) (slowEnd orc E fn k x t h nx ds) = some r := hh
    unfold noDefers at h1
    split at h1
    · obtain ⟨rs, h2, h3⟩ := resC_ok (P := E.P) hc ⟨t, E.n, h, nx, some []⟩ (fun l => oneK2 l fun q => k (.ret q) h nx)
      have h3' : getsP ps t (fun l => oneK2 l fun q => k (.ret q) h nx) = oneK2 rs fun q => k (.ret q) h nx := h3
      rw [h3', oneK2_eq] at h1
      have e : endR E.P orc cr fn (some (x, ⟨t, E.n, h, nx, some []⟩)) = some (.ret (oneOf rs), h, nx) := by
        rcases hx with rfl | rfl <;> simp only [endR, byeR, leaveR, wentR, h2]
      rw [e]
      exact h1
    · exact slowEnd_ok hl h1
theorem lenKN_len {α : Type} (l : List α) : lenKN l = l.length := lenKN_eq l
theorem argK_eq {β : Type} : ∀ (l : List RV) (i : Nat) (t : Tr RV) (k : Tr RV → β), argK l i t k = argT l i t k
  | [], i, t, k => rfl
  | r :: l, i, t, k => by
    show setF r t i (fun t' => argK l (Nat.succ i) t' k) = putT t i r fun t' => argT l (i + 1) t' k
    rw [setF_eq, putT_eq, argK_eq l]
theorem maxK_eq (a b : Nat) : maxK a b = max a b := by
  unfold maxK
  cases h : Nat.ble a b with
  | true =>
    have := Nat.le_of_ble_eq_true h
    show b = _
    omega
  | false =>
    have : ¬ a ≤ b := fun e => by rw [Nat.ble_eq_true_of_le e] at h; cases h
    show a = _
    omega
theorem codeOf_ok (hV : V.Ok P) {f : FuncId} {fc : Func × Code} (h : codeOf V f = some fc) : funcR P f = some fc := by
  unfold codeOf at h
  split at h <;> try cases h
  rename_i fn hfn
  unfold funcR
  rw [hV.func _ _ hfn]
  exact h
theorem bodyK_ok (hV : V.Ok P) {ck : CallK} {cq cr : CallR} (hl : Le cq cr) (hck : CK ck cr) {who : Who} {args : List RV} {h : Hp} {nx : Nat} {k : RE → Hp → Nat → Option Ans} {r : Ans} (hh : bodyK P V orc ck cq who args h nx k = some r) : ansK k (bodyR P orc cr (drawR P cr) who args h nx) = some r := by
  cases who with
  | yld G =>
    have h1 : ansK k (roundR P cq (drawR P cq) G args h nx) = some r := hh
    show ansK k (roundR P cr (drawR P cr) G args h nx) = some r
    cases hr : roundR P cq (drawR P cq) G args h nx with
    | none => rw [hr] at h1; cases h1
    | some q => rw [hr] at h1; rw [roundR_mono hl hr]; exact h1
  | fn f =>
    have h1 : optK (codeOf V f) (fun p => Prod.rec (fun fn c => optK (orc (.fn f) args h nx) (fun r => ansK k (some r)) (enterK P V orc ck cq fn c args h nx k)) p) none = some r := hh
    cases hc : codeOf V f with
    | none => rw [hc] at h1; cases h1
    | some fc =>
      obtain ⟨fn, c⟩ := fc
      rw [hc] at h1
      rw [bodyR, codeOf_ok hV hc]
      simp only
      cases ho : orc (.fn f) args h nx with
      | some q =>
        have h2 : optK (orc (.fn f) args h nx) (fun r => ansK k (some r)) (enterK P V orc ck cq fn c args h nx k) = some r := h1
        rw [ho] at h2
        exact h2
      | none =>
        have h2 : optK (orc (.fn f) args h nx) (fun r => ansK k (some r)) (enterK P V orc ck cq fn c args h nx k) = some r := h1
        rw [ho] at h2
        have h3 : enterK P V orc ck cq fn c args h nx k = some r := h2
        unfold enterK at h3
        rw [forceNK_eq, argK_eq, maxK_eq, lenKN_len] at h3
        obtain ⟨t, ht, _⟩ := argT_some args 0 .leaf fun t => execK V fn.ntmps ⟨P, ck, cq, max fn.ntmps args.length⟩ c t h nx (some []) (normK orc ⟨P, ck, cq, max fn.ntmps args.length⟩ fn k) (retK orc ⟨P, ck, cq, max fn.ntmps args.length⟩ fn k)
        obtain ⟨t2, ht2, hget2⟩ := argT_some args 0 .leaf fun t => endR P orc cr fn (execC P cr (drawR P cr) c ⟨t, max fn.ntmps args.length, h, nx, some []⟩)
        have key : ∀ (l : List RV) (i : Nat) (t0 : Tr RV), (∀ t, execK V fn.ntmps ⟨P, ck, cq, max fn.ntmps args.length⟩ c t h nx (some []) (normK orc ⟨P, ck, cq, max fn.ntmps args.length⟩ fn k) (retK orc ⟨P, ck, cq, max fn.ntmps args.length⟩ fn k) = some r → ansK k (endR P orc cr fn (execC P cr (drawR P cr) c ⟨t, max fn.ntmps args.length, h, nx, some []⟩)) = some r) →
            argT l i t0 (fun t => execK V fn.ntmps ⟨P, ck, cq, max fn.ntmps args.length⟩ c t h nx (some []) (normK orc ⟨P, ck, cq, max fn.ntmps args.length⟩ fn k) (retK orc ⟨P, ck, cq, max fn.ntmps args.length⟩ fn k)) = some r → ansK k (argT l i t0 fun t => endR P orc cr fn (execC P cr (drawR P cr) c ⟨t, max fn.ntmps args.length, h, nx, some []⟩)) = some r := by
          intro l
          induction l with
          | nil => intro i t0 hk hh; exact hk _ hh
          | cons x l ih =>
            intro i t0 hk hh
            have e1 : argT (x :: l) i t0 (fun t => execK V fn.ntmps ⟨P, ck, cq, max fn.ntmps args.length⟩ c t h nx (some []) (normK orc ⟨P, ck, cq, max fn.ntmps args.length⟩ fn k) (retK orc ⟨P, ck, cq, max fn.ntmps args.length⟩ fn k)) = argT l (i + 1) (t0.set i x) (fun t => execK V fn.ntmps ⟨P, ck, cq, max fn.ntmps args.length⟩ c t h nx (some []) (normK orc ⟨P, ck, cq, max fn.ntmps args.length⟩ fn k) (retK orc ⟨P, ck, cq, max fn.ntmps args.length⟩ fn k)) := putT_eq _ _ _ _
            have e2 : (argT (x :: l) i t0 fun t => endR P orc cr fn (execC P cr (drawR P cr) c ⟨t, max fn.ntmps args.length, h, nx, some []⟩)) = argT l (i + 1) (t0.set i x) fun t => endR P orc cr fn (execC P cr (drawR P cr) c ⟨t, max fn.ntmps args.length, h, nx, some []⟩) := putT_eq _ _ _ _
            rw [e1] at hh
            rw [e2]
            exact ih _ _ hk hh
        refine key args 0 .leaf (fun t hk => ?_) h3
        have h4 := execK_ok (E := ⟨P, ck, cq, max fn.ntmps args.length⟩) hl hck hV (Nat.le_max_left _ _) c t h nx (some []) _ _ r hk
        cases hx : execC P cr (drawR P cr) c ⟨t, max fn.ntmps args.length, h, nx, some []⟩ with
        | none =>
          have h5 : outK (normK orc ⟨P, ck, cq, max fn.ntmps args.length⟩ fn k) (retK orc ⟨P, ck, cq, max fn.ntmps args.length⟩ fn k) (execC P cr (drawR P cr) c ⟨t, max fn.ntmps args.length, h, nx, some []⟩) = some r := h4
          rw [hx] at h5
          cases h5
        | some q =>
          obtain ⟨y, s⟩ := q
          have h5 : outK (normK orc ⟨P, ck, cq, max fn.ntmps args.length⟩ fn k) (retK orc ⟨P, ck, cq, max fn.ntmps args.length⟩ fn k) (execC P cr (drawR P cr) c ⟨t, max fn.ntmps args.length, h, nx, some []⟩) = some r := h4
          rw [hx] at h5
          have e : s.n = max fn.ntmps args.length := execC_n (fun hd => drawR_n hd) hx
          have es : s = ⟨s.tm, max fn.ntmps args.length, s.h, s.nx, s.ds⟩ := by
            rw [← e]
          rw [es]
          cases y with
          | normal => exact quickEnd_ok (E := ⟨P, ck, cq, max fn.ntmps args.length⟩) hl (.inl rfl) h5
          | ret => exact quickEnd_ok (E := ⟨P, ck, cq, max fn.ntmps args.length⟩) hl (.inr rfl) h5
          | exit id => exact slowEnd_ok (E := ⟨P, ck, cq, max fn.ntmps args.length⟩) hl h5
          | panic v => exact slowEnd_ok (E := ⟨P, ck, cq, max fn.ntmps args.length⟩) hl h5
theorem ansK_res {x : Option Ans} {r : Ans} (h : ansK resK x = some r) : x = some r := by
  cases x with
  | none => cases h
  | some q => exact h
/-- the lean reckoning says no more than the elder one -/
theorem callK_ok (hV : V.Ok P) : ∀ d, CK (callK P V orc d) (callR P orc (drawR P) d) := by
  intro d
  induction d with
  | zero => intro who args h nx k r hh; cases hh
  | succ d ih =>
    intro who args h nx k r hh
    have h1 : bodyK P V orc (callK P V orc d) (callQ P V orc d) who args h nx k = some r := hh
    exact bodyK_ok hV (fun who args h nx x hx => ansK_res (ih who args h nx resK x hx)) ih h1
theorem callQ_ok (hV : V.Ok P) {d : Nat} {who : Who} {args : List RV} {h : Hp} {nx : Nat} {x : Ans} (hh : callQ P V orc d who args h nx = some x) : callR P orc (drawR P) d who args h nx = some x := ansK_res (callK_ok hV d who args h nx resK x hh)
end
/-! ### the view of a program -/
theorem evens_get {α : Type} : ∀ (l : List α) (n : Nat), (evens l)[n]? = l[2 * n]?
  | [], n => by simp [evens]
  | [a], 0 => by simp [evens]
  | [a], n + 1 => by
    have : [a][2 * (n + 1)]? = none := by
      rw [List.getElem?_eq_none_iff, List.length_singleton]
      omega
    rw [this]
    simp [evens]
  | a :: b :: l, 0 => by simp [evens]
  | a :: b :: l, n + 1 => by
    have e : 2 * (n + 1) = 2 * n + 1 + 1 := by omega
    rw [evens, List.getElem?_cons_succ, e, List.getElem?_cons_succ, List.getElem?_cons_succ]
    exact evens_get l n
theorem odds_get {α : Type} : ∀ (l : List α) (n : Nat), (odds l)[n]? = l[2 * n + 1]?
  | [], n => by simp [odds]
  | [a], n => by
    have : [a][2 * n + 1]? = none := by
      rw [List.getElem?_eq_none_iff, List.length_singleton]
      omega
    rw [this]
    simp [odds]
  | a :: b :: l, 0 => by simp [odds]
  | a :: b :: l, n + 1 => by
    have e : 2 * (n + 1) + 1 = 2 * n + 1 + 1 + 1 := by omega
    rw [odds, List.getElem?_cons_succ, e, List.getElem?_cons_succ, List.getElem?_cons_succ]
    exact odds_get l n
theorem mkT_get {α : Type} : ∀ (d : Nat) (l : List α) (n : Nat) (x : α), (mkT d l).get n = some x → l[n]? = some x
  | 0, l, n, x, h => by cases h
  | d + 1, [], n, x, h => by cases h
  | d + 1, a :: l, 0, x, h => h
  | d + 1, a :: l, m + 1, x, h => by
    have h1 : (bif Nat.beq (m + 1) 0 then some a else bif Nat.beq ((m + 1) % 2) 1 then (mkT d (evens l)).get ((m + 1) / 2) else (mkT d (odds l)).get ((m + 1) / 2 - 1)) = some x := h
    rw [bnz, cond_false] at h1
    rw [List.getElem?_cons_succ]
    rcases two_cases m with ⟨h2, h3, h4⟩ | ⟨h2, h3, h4⟩
    · rw [b1 h3, cond_true, h4] at h1
      have := mkT_get d _ _ _ h1
      rw [evens_get] at this
      have e : 2 * (m / 2) = m := by omega
      rwa [e] at this
    · rw [b0 h3, cond_false, h4] at h1
      have := mkT_get d _ _ _ h1
      rw [odds_get] at this
      have e : 2 * (m / 2) + 1 = m := by omega
      rwa [e] at this
theorem viewOf_ok (P : Program) : (viewOf P).Ok P := by
  constructor
  · intro t i h
    have h1 : getF (mkT 13 P.types.toList) t = some i := h
    rw [getF_eq] at h1
    have := mkT_get _ _ _ _ h1
    rw [Array.getElem?_toList] at this
    unfold Tables.info?
    rw [if_pos (Array.getElem?_eq_some_iff.1 this).1]
    exact this
  · intro f fn h
    have h1 : getF (mkT 13 P.funcs.toList) f = some fn := h
    rw [getF_eq] at h1
    have := mkT_get _ _ _ _ h1
    rw [Array.getElem?_toList] at this
    exact this
/-- calls, reckoned quickly -/
theorem quick_sound {P : Program} {orc : CallR} (horc : CallOK P orc) (d : Nat) : CallOK P (callQ P (viewOf P) orc d) := by
  have h := calls_sound horc d
  exact ⟨fun f args h0 nx re h' nx' hc => h.1 _ _ _ _ _ _ _ (callQ_ok (viewOf_ok P) hc), fun G args h0 nx re h' nx' hc => h.2 _ _ _ _ _ _ _ (callQ_ok (viewOf_ok P) hc)⟩
theorem calls_true_q {P : Program} {orc : CallR} (horc : CallOK P orc) {d : Nat} {f : FuncId} {args : List RV} (hr : saysTrue (callQ P (viewOf P) orc d (.fn f) args .leaf 0) = true) (env : Nat → Value) (vs : List Value) (hv : RL (fun _ _ => none) env args vs) (w : World) :
    Calls P f vs.toArray w fun e w' => e = .returned (.bool true) ∧ Below w.heap.size w w' := by
  obtain ⟨h', nx', hx⟩ := of_saysTrue hr
  refine calls_of horc (callQ_ok (viewOf_ok P) hx) env vs hv w _ fun g v w' k1 _ k3 => ?_
  cases k1
  exact ⟨rfl, k3⟩
end Go.Proofs.YthkhdbfohaaojaaGreatDoor.Ax
