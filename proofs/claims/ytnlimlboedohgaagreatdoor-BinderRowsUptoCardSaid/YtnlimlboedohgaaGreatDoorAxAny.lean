/-
  Regions that draw their order, where drawR does not serve: every order is tried.
-/
import Derived.Test.YtnlimlboedohgaaGreatDoorAxSeg
set_option linter.unusedVariables false
namespace Go.Proofs.YtnlimlboedohgaaGreatDoor.Ax
open Go Go.RowKit
def eqTm : Tr RV -> Tr RV -> Bool
 | .leaf, .leaf => true
 | .node none l r, .node none l' r' => bif eqTm l l' then eqTm r r' else false
 | .node (some a) l r, .node (some b) l' r' => bif eqRV a b then (bif eqTm l l' then eqTm r r' else false) else false
 | _, _ => false
def eqNs : List Nat -> List Nat -> Bool
 | [], [] => true
 | a :: l, b :: m => bif Nat.beq a b then eqNs l m else false
 | _, _ => false
theorem eqNs_eq : ∀ {a b : List Nat}, eqNs a b = true -> a = b
 | [], [], _ => rfl
 | [], _ :: _, h => by cases h
 | _ :: _, [], h => by cases h
 | a :: l, b :: m, h => by
  obtain ⟨h1, h2⟩ := bifs h
  rw [Nat.eq_of_beq_eq_true h1, eqNs_eq h2]
noncomputable def eqOX : OB -> OB -> Bool
 | .cells a b d e, .cells a' b' d' e' => eqOB (.cells a b d e) (.cells a' b' d' e')
 | .mp a b, .mp a' b' => eqOB (.mp a b) (.mp a' b')
 | .si a b d, .si a' b' d' => bif Nat.beq d d' then (bif eqNs a a' then eqNs b b' else false) else false
 | .ot (.df b), .ot (.df b') => eqBo b b'
 | .ot (.mi a b d e), .ot (.mi a' b' d' e') => bif Nat.beq a a' then (bif Nat.beq b b' then (bif Nat.beq e e' then eqNs d d' else false) else false) else false
 | _, _ => false
theorem eqOX_eq {a b : OB} (h : eqOX a b = true) : a = b := by
 unfold eqOX at h
 split at h
 ·exact eqOB_eq h
 ·exact eqOB_eq h
 ·obtain ⟨h1, h⟩ := bifs h
  obtain ⟨h2, h3⟩ := bifs h
  rw [Nat.eq_of_beq_eq_true h1, eqNs_eq h2, eqNs_eq h3]
 ·rw [eqBo_eq h]
 ·obtain ⟨h1, h⟩ := bifs h
  obtain ⟨h2, h⟩ := bifs h
  obtain ⟨h3, h4⟩ := bifs h
  rw [Nat.eq_of_beq_eq_true h1, Nat.eq_of_beq_eq_true h2, Nat.eq_of_beq_eq_true h3, eqNs_eq h4]
 ·cases h
noncomputable def eqHp : Hp -> Hp -> Bool
 | .leaf, .leaf => true
 | .node none l r, .node none l' r' => bif eqHp l l' then eqHp r r' else false
 | .node (some a) l r, .node (some b) l' r' => bif eqOX a b then (bif eqHp l l' then eqHp r r' else false) else false
 | _, _ => false
theorem eqTm_eq : ∀ {a b : Tr RV}, eqTm a b = true -> a = b
 | .leaf, .leaf, _ => rfl
 | .node none l r, .node none l' r', h => by
  obtain ⟨h1, h2⟩ := bifs h
  rw [eqTm_eq h1, eqTm_eq h2]
 | .node (some a) l r, .node (some b) l' r', h => by
  obtain ⟨h0, h1⟩ := bifs h
  obtain ⟨h1, h2⟩ := bifs h1
  rw [eqRV_eq h0, eqTm_eq h1, eqTm_eq h2]
 | .leaf, .node .., h => by cases h
 | .node none .., .leaf, h => by cases h
 | .node (some _) .., .leaf, h => by cases h
 | .node none .., .node (some _) .., h => by cases h
 | .node (some _) .., .node none .., h => by cases h
theorem eqHp_eq : ∀ {a b : Hp}, eqHp a b = true -> a = b
 | .leaf, .leaf, _ => rfl
 | .node none l r, .node none l' r', h => by
  obtain ⟨h1, h2⟩ := bifs h
  rw [eqHp_eq h1, eqHp_eq h2]
 | .node (some a) l r, .node (some b) l' r', h => by
  obtain ⟨h0, h1⟩ := bifs h
  obtain ⟨h1, h2⟩ := bifs h1
  rw [eqOX_eq h0, eqHp_eq h1, eqHp_eq h2]
 | .leaf, .node .., h => by cases h
 | .node none .., .leaf, h => by cases h
 | .node (some _) .., .leaf, h => by cases h
 | .node none .., .node (some _) .., h => by cases h
 | .node (some _) .., .node none .., h => by cases h
/-- the same state; no call is deferred -/
noncomputable def eqSt : St -> St -> Bool
 | ⟨t, n, h, nx, some []⟩, ⟨t', n', h', nx', some []⟩ => bif Nat.beq n n' then (bif Nat.beq nx nx' then (bif eqTm t t' then eqHp h h' else false) else false) else false
 | _, _ => false
theorem eqSt_eq {a b : St} (h : eqSt a b = true) : a = b := by
 unfold eqSt at h
 split at h
 ·obtain ⟨h1, h⟩ := bifs h
  obtain ⟨h2, h⟩ := bifs h
  obtain ⟨h3, h4⟩ := bifs h
  rw [Nat.eq_of_beq_eq_true h1, Nat.eq_of_beq_eq_true h2, eqTm_eq h3, eqHp_eq h4]
 ·cases h
def nilL : List Nat -> Bool
 | [] => true
 | _ => false
noncomputable def eqBs : List Bool -> List Bool -> Bool
 | [], [] => true
 | a :: l, b :: m => bif eqBo a b then eqBs l m else false
 | _, _ => false
theorem eqBs_eq : ∀ {a b : List Bool}, eqBs a b = true -> a = b
 | [], [], _ => rfl
 | [], _ :: _, h => by cases h
 | _ :: _, [], h => by cases h
 | a :: l, b :: m, h => by
  obtain ⟨h1, h2⟩ := bifs h
  rw [eqBo_eq h1, eqBs_eq h2]
abbrev Lv := List (List Bool × St)
noncomputable def insL (d : List Bool) (s : St) : Lv -> Option Lv
 | [] => some [(d, s)]
 | (d', s') :: l => bif eqBs d d' then (bif eqSt s s' then some ((d', s') :: l) else none) else match insL d s l with
  | some l' => some ((d', s') :: l')
  | none => none
noncomputable def readyL (P : Program) (call : CallR) (ops : Array Oper) (d : List Bool) (s : St) : List Nat -> Lv -> Option Lv
 | [], acc => some acc
 | i :: is, acc => match ops[i]? with
  | some o => match runOps P call ops [o] s with
   | some (.normal, s') => match insL (d.set i true) s' acc with
    | some acc' => readyL P call ops d s is acc'
    | none => none
   | _ => none
  | none => none
noncomputable def stepL (P : Program) (call : CallR) (ops : Array Oper) : Lv -> Lv -> Option Lv
 | [], acc => some acc
 | (d, s) :: l, acc => bif nilL (Region.ready .any ops d.toArray) then none else match readyL P call ops d s (Region.ready .any ops d.toArray) acc with
  | some acc' => stepL P call ops l acc'
  | none => none
/-- the states behind each set of operations, level by level -/
noncomputable def anyR (P : Program) (call : CallR) (ops : Array Oper) (fin : St) : Nat -> Lv -> Bool
 | 0, L => L.all fun p => bif nilL (Region.ready .any ops p.1.toArray) then eqSt p.2 fin else false
 | f + 1, L => match stepL P call ops L [] with
  | some L' => anyR P call ops fin f L'
  | none => false
noncomputable def drawA (P : Program) (call : CallR) : DrawR := fun ops s =>
 match drawR P call ops s with
 | some r => some r
 | none => match runOps P call ops ops.toList s with
  | some (.normal, s') => bif P.follows .mixedOrders then (bif anyR P call ops s' ops.size [(List.replicate ops.size false, s)] then some (.normal, s') else none) else none
  | _ => none
section
variable {ro : Option Nat} {P : Program} {c : Cx} {g : Gm} {call : CallR} {draw : DrawR}
theorem one_opK (hcall : CallOK P call) {ops : Array Oper} {o : Oper} {i : Nat} {K : Act -> World -> Prop} (ho : ops[i]? = some o) {s s' : St} {x : RX} {a : Act} {w : World} {Q : Exit -> Act -> World -> Prop} (hr : runOps P call ops [o] s = some (x, s')) (hs : SR ro c g s a w)
  (hK : x = .normal -> ∀ g' a' w', Ext g g' -> SR ro c g' s' a' w' -> K a' w') (hQ : x ≠ .normal -> PostX ro c g Q x s') : wpOpIn (Wd ro) 0 P ops Q i K a w := by
 simp only [wpOpIn, ho]
 unfold runOps at hr
 have fin : ∀ {t' : Tr RV} {n : Nat} {h : Hp} {nx : Nat} {ds : Option (List DC)}, runOps P call ops [] ⟨t', n, h, nx, ds⟩ = some (x, s') -> x = .normal /\ s' = ⟨t', n, h, nx, ds⟩ := fun {t' n h nx ds} h1 => by
  cases h1
  exact ⟨rfl, rfl⟩
 split at hr <;> try cases hr
 ·rename_i hw
  rw [if_pos (wanted_sound (c := c) hw hs.rf)]
  split at hr
  ·rename_i r hp
   cases hr
   obtain ⟨v, h1, h2⟩ := panic_sound (P := P) (c := c) hp hs.rf w
   have hnd : ∀ cc, o.op ≠ .defer cc := fun cc hc => by
    unfold panicR at hp
    rw [hc] at hp
    cases hp
   refine ⟨fun _ _ => trivial, ?_⟩
   show o.uponIn (Wd ro) 0 P a _ Q ((o.semAt ro a.eval).run P w)
   rw [Oper.semAt_eq ro a.eval o hnd, h1]
   exact hQ (by simp) g v a w (Ext.refl g) hs h2
  ·split at hr <;> try cases hr
   ·rename_i r h' nx' hop
    obtain ⟨t', h1, h2⟩ := putR_some hr
    obtain ⟨rfl, rfl⟩ := fin h1
    refine op_sound hcall hop (fun x _ => evalR_R hs.rf x) hs.rw fun g' v w' k1 k2 k3 => ?_
    exact hK rfl g' _ w' k2 ⟨h2 (hs.rf.mono k2) k1, k3, put_DR (hs.df.mono k2)⟩
   ·rename_i r h' nx' hop
    refine op_sound hcall hop (fun x _ => evalR_R hs.rf x) hs.rw fun g' v w' k1 k2 k3 => ?_
    exact hQ (by simp) g' v a w' k2 ⟨hs.rf.mono k2, k3, hs.df.mono k2⟩ k1
   ·split at hr <;> try cases hr
    rename_i f ags hd
    split at hr <;> try cases hr
    rename_i dl hdl
    obtain ⟨t', h1, h2⟩ := putR_some hr
    obtain ⟨rfl, rfl⟩ := fin h1
    unfold deferR at hd
    split at hd <;> try cases hd
    rename_i fx args ats hop
    obtain ⟨vs, cap, dargs, k1, k2, k3⟩ := target_defer (c := c) hop hd (fun x _ => evalR_R hs.rf x)
    have hdf := hs.df
    rw [hdl] at hdf
    obtain ⟨hro, hdr⟩ := hdf
    have hsem : o.semAt ro a.eval = execOp a.eval o := by rw [hro]; rfl
    refine ⟨fun _ _ => trivial, ?_⟩
    show o.uponIn (Wd ro) 0 P a _ Q ((o.semAt ro a.eval).run P w)
    rw [hsem, k2, Oper.uponIn_defer]
    have hrf : RF g c.env s.tm s.n { a with defers := { target := .fn (.func f) cap, args := dargs } :: a.defers } := ⟨hs.rf.size, hs.rf.at_⟩
    exact hK rfl g _ w (Ext.refl g) ⟨h2 hrf (.lit _), hs.rw, put_DR ⟨hro, .call ⟨vs, cap, dargs, rfl, k1, k3⟩ hdr⟩⟩
 ·rename_i hw
  rw [if_neg (by rw [wanted_sound (c := c) hw hs.rf]; simp)]
  obtain ⟨t', h1, h2⟩ := putR_some hr
  obtain ⟨rfl, rfl⟩ := fin h1
  exact ⟨fun _ _ => trivial, hK rfl g _ w (Ext.refl g) ⟨h2 hs.rf (.lit _), hs.rw, put_DR hs.df⟩⟩
theorem insL_spec {d : List Bool} {s : St} : ∀ {l l' : Lv}, insL d s l = some l' -> (d, s) ∈ l' /\ ∀ p ∈ l, p ∈ l'
 | [], l', h => by
  cases h
  exact ⟨List.mem_cons_self, fun p hp => by cases hp⟩
 | (d', s') :: l, l', h => by
  unfold insL at h
  cases e : eqBs d d' with
  | true =>
   rw [e, cond_true] at h
   cases e2 : eqSt s s' with
   | true =>
    rw [e2, cond_true] at h
    cases h
    rw [eqBs_eq e, eqSt_eq e2]
    exact ⟨List.mem_cons_self, fun p hp => hp⟩
   | false => rw [e2] at h; cases h
  | false =>
   rw [e, cond_false] at h
   split at h
   ·rename_i l2 hl
    cases h
    obtain ⟨h1, h2⟩ := insL_spec hl
    exact ⟨List.mem_cons_of_mem _ h1, fun p hp => by
     rcases List.mem_cons.1 hp with rfl | hp
     ·exact List.mem_cons_self
     ·exact List.mem_cons_of_mem _ (h2 p hp)⟩
   ·cases h
theorem readyL_spec {ops : Array Oper} {d : List Bool} {s : St} : ∀ {is : List Nat} {l l' : Lv}, readyL P call ops d s is l = some l' -> (∀ p ∈ l, p ∈ l') /\ ∀ i ∈ is, ∃ o s', ops[i]? = some o /\ runOps P call ops [o] s = some (.normal, s') /\ (d.set i true, s') ∈ l'
 | [], l, l', h => by
  cases h
  exact ⟨fun p hp => hp, fun i hi => by cases hi⟩
 | i :: is, l, l', h => by
  unfold readyL at h
  split at h
  ·rename_i o ho
   split at h
   ·rename_i s' hx
    split at h
    ·rename_i acc' ha
     obtain ⟨h1, h2⟩ := insL_spec ha
     obtain ⟨h3, h4⟩ := readyL_spec h
     refine ⟨fun p hp => h3 p (h2 p hp), fun k hk => ?_⟩
     rcases List.mem_cons.1 hk with rfl | hk
     ·exact ⟨o, s', ho, hx, h3 _ h1⟩
     ·exact h4 k hk
    ·cases h
   ·cases h
  ·cases h
theorem stepL_spec {ops : Array Oper} : ∀ {L l l' : Lv}, stepL P call ops L l = some l' -> (∀ p ∈ l, p ∈ l') /\ ∀ p ∈ L, Region.ready .any ops p.1.toArray ≠ [] /\ ∀ i ∈ Region.ready .any ops p.1.toArray, ∃ o s', ops[i]? = some o /\ runOps P call ops [o] p.2 = some (.normal, s') /\ (p.1.set i true, s') ∈ l'
 | [], l, l', h => by
  cases h
  exact ⟨fun p hp => hp, fun i hi => by cases hi⟩
 | (d, s) :: L, l, l', h => by
  unfold stepL at h
  cases e : nilL (Region.ready .any ops d.toArray) with
  | true => rw [e] at h; cases h
  | false =>
   rw [e, cond_false] at h
   split at h
   ·rename_i acc' ha
    obtain ⟨h1, h2⟩ := readyL_spec ha
    obtain ⟨h3, h4⟩ := stepL_spec h
    refine ⟨fun p hp => h3 p (h1 p hp), fun p hp => ?_⟩
    rcases List.mem_cons.1 hp with rfl | hp
    ·refine ⟨fun h0 => ?_, fun i hi => ?_⟩
     ·have h0' : Region.ready .any ops d.toArray = [] := h0
      rw [h0'] at e
      cases e
     ·obtain ⟨o, s', k1, k2, k3⟩ := h2 i hi
      exact ⟨o, s', k1, k2, h3 _ k3⟩
    ·exact h4 p hp
   ·cases h
theorem anyR_sound (hcall : CallOK P call) {ops : Array Oper} {fin : St} {Q : Exit -> Act -> World -> Prop} : ∀ (f : Nat) (L : Lv) (d : List Bool) (s : St) (g : Gm) (a : Act) (w : World), anyR P call ops fin f L = true -> (d, s) ∈ L -> SR ro c g s a w -> PostX ro c g Q .normal fin -> wpAnyIn (Wd ro) 0 P .any ops Q f d.toArray a w
 | 0, L, d, s, g, a, w, h, hm, hs, hq => by
  unfold anyR at h
  obtain ⟨h1, h2⟩ := bifs (List.all_eq_true.1 h _ hm)
  have h3 := eqSt_eq h2
  have h3 : s = fin := h3
  subst h3
  refine ⟨?_, hq g a w (Ext.refl g) hs⟩
  have h1 : nilL (Region.ready .any ops d.toArray) = true := h1
  cases hr : Region.ready .any ops d.toArray with
  | nil => rfl
  | cons j js => rw [hr] at h1; cases h1
 | f + 1, L, d, s, g, a, w, h, hm, hs, hq => by
  unfold anyR at h
  split at h
  ·rename_i L' hL
   obtain ⟨h1, h2⟩ := (stepL_spec hL).2 (d, s) hm
   refine ⟨fun h0 => absurd h0 h1, fun i hi => ?_⟩
   obtain ⟨o, s', k1, k2, k3⟩ := h2 i hi
   rw [show d.toArray.setIfInBounds i true = (d.set i true).toArray by simp]
   exact one_opK hcall k1 k2 hs (fun _ g' a' w' j1 j2 => anyR_sound hcall f L' _ s' g' a' w' h k3 j2 (hq.mono j1)) fun hne => absurd rfl hne
  ·cases h
theorem drawA_sound (hcall : CallOK P call) : DrawOK P (drawA P call) := by
 intro ops s x s' hd ro c g a w Q id hs hq
 unfold drawA at hd
 split at hd
 ·rename_i r hr
  cases hd
  exact draw_sound hcall ops s x s' hr ro c g a w Q id hs hq
 ·split at hd
  ·rename_i s1 hx
   cases hfol : P.follows .mixedOrders with
   | false => rw [hfol] at hd; cases hd
   | true =>
    rw [hfol, cond_true] at hd
    cases hany : anyR P call ops s1 ops.size [(List.replicate ops.size false, s)] with
    | false => rw [hany] at hd; cases hd
    | true =>
     rw [hany, cond_true] at hd
     cases hd
     refine wpIn_region_any hfol ?_
     rw [show Array.replicate ops.size false = (List.replicate ops.size false).toArray by simp]
     exact anyR_sound hcall ops.size _ _ s g a _ hany List.mem_cons_self ⟨hs.rf, hs.rw.drew, hs.df⟩ hq
  ·cases hd
/-- one function, its drawn regions in every order, as an oracle -/
noncomputable def anyO (P : Program) (orc : CallR) (d : Nat) (f0 : FuncId) : CallR := fun who args h nx => match who with
 | .fn f => bif Nat.beq f f0 then callR P orc (drawA P) d (.fn f) args h nx else none
 | .yld _ => none
theorem anyO_ok {orc : CallR} (horc : CallOK P orc) {d : Nat} {f0 : FuncId} : CallOK P (anyO P orc d f0) := by
 have hc : CallOK P (callR P orc (drawA P) d) := (call_sound horc (fun call hc => drawA_sound hc) d).1
 refine ⟨fun f args h nx re h' nx' hh => ?_, fun G args h nx re h' nx' hh => by cases hh⟩
 have hh1 : (bif Nat.beq f f0 then callR P orc (drawA P) d (.fn f) args h nx else none) = some (re, h', nx') := hh
 cases e : Nat.beq f f0 with
 | false => rw [e] at hh1; cases hh1
 | true =>
  rw [e, cond_true] at hh1
  exact hc.1 f args h nx re h' nx' hh1
end
end Go.Proofs.YtnlimlboedohgaaGreatDoor.Ax
