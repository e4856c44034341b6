/-
  Regions whose order is drawn: one operation, whenever it comes.
-/
import Derived.Test.YtnlimlboedohgaaGreatDoorAxDrawC
namespace Go.Proofs.YtnlimlboedohgaaGreatDoor.Ax
open Go.RowKit
set_option linter.unusedVariables false
set_option linter.unusedSimpArgs false

section
variable {ro : Option Nat} {D : List Deferred} {P : Program} {call : CallR} {ops : Array Oper} {M : Nat -> Nat} {S0 : Hp} {base n : Nat} {t0 : Nat -> RV} {c : Cx} {rvF : List Rec}
theorem noneLater_of {m K : Nat} : ∀ {rv : List Rec}, (∀ k, effAt rv k = true -> (K < k \/ rv.length <= K) -> m.testBit k = false) -> noneLater m rv K = true
 | [], _ => rfl
 | q :: l, h => by
  unfold noneLater
  cases hb : Nat.beq l.length K with
  | true => rfl
  | false =>
   have hne : l.length ≠ K := fun e => by
    rw [e, Nat.beq_refl] at hb
    cases hb
   rw [cond_false, Bool.and_eq_true]
   refine ⟨?_, noneLater_of fun k hk hlt => h k ?_ ?_⟩
   ·split
    ·rename_i h' n' hk
     rw [h l.length (by unfold effAt; rw [if_pos rfl, hk]) (by simp only [List.length_cons]; omega)]
     rfl
    ·rfl
   ·have := eff_lt hk
    unfold effAt
    rw [if_neg (by omega)]
    exact hk
   ·simp only [List.length_cons]
    omega
theorem readAt_sound {i : Nat} {t : Tr RV} {o : Oper} {r : RV} {L : Nat -> Bool} {nx0 : Nat} (hm : ∀ k, effAt rvF k = true -> (M i).testBit k = true -> L k = true) (hn : ∀ k, effAt rvF k = true -> L k = true -> (M k).testBit i = false) :
  ∀ (rv0 pre : List Rec), rvF = pre ++ rv0 -> (∀ k, rv0.length <= k -> effAt rvF k = true -> L k = false) -> readAt P M S0 rvF i t o r rv0 = true -> sameRead P t o (htA (fun a => (M i).testBit a) (stE M S0 nx0 L rvF).1 (stE M S0 nx0 L rvF).2.1 rvF) r = true
 | [], pre, hp, hu, hr => by
  have hst : stE M S0 nx0 L rvF = (0, S0, nx0) := by
   rw [hp]
   exact st_drop fun k _ hk2 he => hu k (Nat.zero_le _) (by rw [hp]; exact he)
  have hnl : noneLater (M i) rvF rvF.length = true := noneLater_of fun k hk _ => by
   cases hb : (M i).testBit k with
   | false => rfl
   | true =>
    have := hm k hk hb
    rw [hu k (Nat.zero_le _) hk] at this
    cases this
  unfold readAt at hr
  rw [hnl] at hr
  rw [hst]
  exact hr
 | q :: l, pre, hp, hu, hr => by
  unfold readAt at hr
  rw [Bool.and_eq_true] at hr
  have hp' : rvF = (pre ++ [q]) ++ l := by rw [hp]; simp
  have rec_ : (effAt rvF l.length = true -> L l.length = false) -> sameRead P t o (htA (fun a => (M i).testBit a) (stE M S0 nx0 L rvF).1 (stE M S0 nx0 L rvF).2.1 rvF) r = true := fun hh =>
   readAt_sound hm hn l (pre ++ [q]) hp' (fun k hk he => by
    rcases Nat.eq_or_lt_of_le hk with e | e
    ·subst e
     exact hh he
    ·exact hu k (by simp; omega) he) hr.2
  have hat := eff_at (pre := pre) (l := l) (q := q)
  rw [<- hp] at hat
  cases hkd : q.kd with
  | eff h' n' =>
   cases hL : L l.length with
   | false => exact rec_ fun _ => hL
   | true =>
    rw [hkd] at hat
    have hst : stE M S0 nx0 L rvF = (M l.length, h', n') := by
     rw [hp, st_drop (fun k hk hk2 he => hu k hk (by rw [hp]; exact he))]
     unfold stE
     rw [hkd, hL]
     rfl
    have hnl : noneLater (M i) rvF l.length = true := noneLater_of fun k hk hlt => by
     cases hb : (M i).testBit k with
     | false => rfl
     | true =>
      have h1 := hm k hk hb
      have hlen : rvF.length = pre.length + (l.length + 1) := by rw [hp]; simp
      rcases hlt with hlt | hlt
      ·rw [hu k (by simp; omega) hk] at h1
       cases h1
      ·omega
    have hr1 := hr.1
    rw [hkd] at hr1
    simp only [hnl, hn l.length hat hL, Bool.not_true, Bool.or_false, Bool.false_or] at hr1
    rw [hst]
    exact hr1
  | flat => exact rec_ fun hh => by rw [hat, hkd] at hh; cases hh
  | read t o => exact rec_ fun hh => by rw [hat, hkd] at hh; cases hh
  | alloc G ob => exact rec_ fun hh => by rw [hat, hkd] at hh; cases hh
theorem readsOk_at : ∀ {rv0 : List Rec}, readsOk P M S0 rvF rv0 = true -> ∀ {pre l : List Rec} {q : Rec} {t : Tr RV} {o : Oper}, rv0 = pre ++ q :: l -> q.kd = .read t o -> readAt P M S0 rvF l.length t o q.r rvF = true
 | [], _, pre, l, q, t, o, hp, _ => by cases pre <;> cases hp
 | q0 :: l0, h, pre, l, q, t, o, hp, hk => by
  unfold readsOk at h
  rw [Bool.and_eq_true] at h
  rcases pre with _ | ⟨p, pre⟩
  ·cases hp
   have := h.1
   rw [hk] at this
   exact this
  ·cases hp
   exact readsOk_at h.2 rfl hk
theorem eff_mask (hG : Good P call ops M S0 base n t0 rvF) (hlen : rvF.length = ops.size) (hM : Masks ops M) : ∀ j, effAt rvF j = true -> ∀ k, k < j -> effAt rvF k = true -> (M j).testBit k = true := by
 intro j
 induction j using Nat.strongRecOn with
 | _ j ih =>
  intro hj k hk hek
  obtain ⟨pre, q, l, h1, h2, h3, _⟩ := eff_split hG hj
  have hek' : effAt l k = true := by
   rw [h1, show pre ++ q :: l = (pre ++ [q]) ++ l by simp, eff_app (by omega)] at hek
   exact hek
  obtain ⟨e, e1, e2, e3⟩ := lastEff_spec hek'
  have hjn : j < ops.size := by rw [<- hlen]; exact eff_lt hj
  have helt := eff_lt e3
  rcases Nat.lt_or_ge k e with hlt | hge
  ·refine hM.trans j _ (Array.getElem?_eq_getElem hjn) e k (h3 e e1) (ih e (by omega) ?_ k hlt hek)
   rw [h1, show pre ++ q :: l = (pre ++ [q]) ++ l by simp, eff_app helt]
   exact e3
  ·have : k = e := by omega
   subst this
   exact h3 k e1
/-- what has come up, and one more -/
def more (L : Nat -> Bool) (i : Nat) : Nat -> Bool := fun k => if k = i then true else L k
theorem more_self {L : Nat -> Bool} {i : Nat} : more L i i = true := if_pos rfl
theorem more_ne {L : Nat -> Bool} {i k : Nat} (h : k ≠ i) : more L i k = L k := if_neg h
theorem step_sound (hcall : CallOK P call) (hM : Masks ops M) (hG : Good P call ops M S0 base n t0 rvF) (hlen : rvF.length = ops.size) (hreads : readsOk P M S0 rvF rvF = true) (hcF : ∀ x f, c.F x = some f -> x < base) {g0 : Gm} {L : Nat -> Bool} {a : Act} {w : World} {i : Nat} {o : Oper} (ho : ops[i]? = some o) (hL : Down ops L) (hLi : L i = false) (he : ∀ e ∈ o.after, Region.binds .any e = true -> L e.on = true)
  (hI : Inv D ops M S0 base n t0 c rvF g0 L a w) {K : Act -> World -> Prop} {Q : Exit -> Act -> World -> Prop} (hK : ∀ a' w', Inv D ops M S0 base n t0 c rvF g0 (more L i) a' w' -> K a' w') : wpOpIn (Wd ro) 0 P ops Q i K a w := by
 obtain ⟨⟨g, hext, hcv, hw⟩, hsz, hdf, hnone⟩ := hI
 have hiN : i < ops.size := (Array.getElem?_eq_some_iff.1 ho).1
 obtain ⟨pre, q, l, hp, hli, ⟨o', t, ho', hdst, hdn, ht, hk⟩, hGl⟩ := Good.split hG (i := i) (by rw [hlen]; exact hiN)
 rw [hli, ho] at ho'
 cases ho'
 have hp2 : rvF = (pre ++ [q]) ++ l := by rw [hp]; simp
 have hlenp : (pre ++ q :: l).length = ops.size := by rw [<- hp]; exact hlen
 -- who waits for whom
 have F1 : ∀ k, (M i).testBit k = true -> L k = true := fun k hk => hM.down' hL ho he hk
 have F2 : ∀ k, k < ops.size -> L k = true -> (M k).testBit i = false := fun k hk hLk => by
  cases hb : (M k).testBit i with
  | false => rfl
  | true =>
   have := hM.down hL k _ (Array.getElem?_eq_getElem hk) hLk i hb
   rw [hLi] at this
   cases this
 have ap1 : ∀ k ok, i < k -> ops[k]? = some ok -> L k = true -> o.apart ops ok = true := fun k ok hik hok hLk => by
  rcases hM.apart i k o ok hik ho hok with h | h
  ·rw [F2 k (Array.getElem?_eq_some_iff.1 hok).1 hLk] at h
   cases h
  ·exact h
 have ap2 : ∀ k ok, k < i -> ops[k]? = some ok -> L k = false -> ok.apart ops o = true := fun k ok hik hok hLk => by
  rcases hM.apart k i ok o hik hok ho with h | h
  ·have := F1 k h
   rw [hLk] at this
   cases this
  ·exact h
 -- temporaries
 have F3 : ∀ d ∈ o.looksAt ops, cvL t0 all l d = cvL t0 L rvF d := fun d hd => by
  have e1 : cvL t0 L rvF d = cvL t0 L l d := by
   rw [hp2]
   refine cv_drop (P := P) (call := call) (M := M) (S0 := S0) (base := base) (n := n) (t0 := t0) (ops := ops) (by rw [<- hp2]; exact hG) fun k hk hk2 hdk => ?_
   rcases Nat.eq_or_lt_of_le hk with e | e
   ·rw [<- e, hli]
    exact hLi
   ·cases hLk : L k with
    | false => rfl
    | true =>
     cases hok : ops[k]? with
     | none => simp [dstOf, hok] at hdk
     | some ok =>
      have hap := ap1 k ok (by omega) hok hLk
      obtain ⟨_, _, h3⟩ := Oper.apart_spec hap
      have : ok.dst = some d := by simpa [dstOf, hok] using hdk
      exact absurd hd (h3 d this)
  rw [e1]
  refine cv_congr (P := P) (call := call) (M := M) (S0 := S0) (base := base) (n := n) (ops := ops) hGl fun k hk hdk => ?_
  cases hLk : L k with
  | true => rfl
  | false =>
   cases hok : ops[k]? with
   | none => simp [dstOf, hok] at hdk
   | some ok =>
    have hap := ap2 k ok (by omega) hok hLk
    obtain ⟨h1, _, _⟩ := Oper.apart_spec hap
    have : ok.dst = some d := by simpa [dstOf, hok] using hdk
    exact absurd hd (h1 d this)
 have hT : ∀ d ∈ o.looksAt ops, R g c.env ((t.get d).getD (.lit undef)) (a.tmps.getD d undef) := fun d hd => by
  rw [ht d, F3 d hd]
  exact hcv d
 have hρ := fun x hx => eval_looks (ops := ops) hT x hx
 -- temporaries behind it
 have newcv : ∀ {g1 : Gm} {v : Value}, Ext g g1 -> R g1 c.env q.r v -> ∀ x, R g1 c.env (cvL t0 (more L i) rvF x) ((a.put o.dst v).tmps.getD x undef) := fun {g1 v} hg1 hr x => by
  rw [getD_put]
  by_cases hd : o.dst = some x
  ·rw [if_pos ⟨hd, by rw [hsz]; exact hdn x (by rw [hdst]; exact hd)⟩]
   have e1 : cvL t0 (more L i) rvF x = q.r := by
    rw [hp, cv_drop (P := P) (call := call) (M := M) (S0 := S0) (base := base) (n := n) (t0 := t0) (ops := ops) (by rw [<- hp]; exact hG) fun k hk hk2 hdk => ?_]
    ·unfold cvL
     rw [if_pos ⟨by rw [hli]; exact more_self, by rw [hdst]; exact hd⟩]
    ·simp only [List.length_cons] at hk
     rw [more_ne (by omega)]
     cases hLk : L k with
     | false => rfl
     | true =>
      cases hok : ops[k]? with
      | none => simp [dstOf, hok] at hdk
      | some ok =>
       have hap := ap1 k ok (by omega) hok hLk
       obtain ⟨_, h2, _⟩ := Oper.apart_spec hap
       have : ok.dst = some x := by simpa [dstOf, hok] using hdk
       exact absurd this (h2 x hd)
   rw [e1]
   exact hr
  ·rw [if_neg (fun hh => hd hh.1)]
   have e1 : cvL t0 (more L i) rvF x = cvL t0 L rvF x := cv_congr (P := P) (call := call) (M := M) (S0 := S0) (base := base) (n := n) (ops := ops) hG fun k hk hdk => more_ne fun e => by
    subst e
    simp [dstOf, ho] at hdk
    exact hd hdk
   rw [e1]
   exact (hcv x).mono hg1
 have hcLF : ∀ x f, (cL c base ops.size (more L i)).F x = some f -> (cL c base ops.size L).F x = some f := fun x f hx => by
  simp only [cL] at hx |-
  split at hx
  ·rename_i hc
   rw [if_pos ⟨hc.1, hc.2.1, by
    have := hc.2.2
    unfold more at this
    split at this
    ·cases this
    ·exact this⟩]
   exact hx
  ·have := hcF x f hx
   rw [if_neg (by omega)]
   exact hx
 have hlessF : ∀ {g1 : Gm} {h1 : Hp} {nx1 : Nat} {w1 : World}, RW (cL c base ops.size L) g1 h1 nx1 w1 -> RW (cL c base ops.size (more L i)) g1 h1 nx1 w1 := fun hw1 => hw1.lessF hcLF
 have hputsz : ∀ {v : Value}, (a.put o.dst v).tmps.size = n := fun {v} => by
  cases o.dst <;> simp [Act.put, hsz]
 have hputdf : ∀ {v : Value}, (a.put o.dst v).defers = D := fun {v} => put_defers.trans hdf
 have hat := alloc_at (pre := pre) (l := l) (q := q)
 rw [<- hp, hli] at hat
 have heat := eff_at (pre := pre) (l := l) (q := q)
 rw [<- hp, hli] at heat
 -- where memory is not changed
 have calm : effAt rvF i = false -> stE M S0 (base + ops.size) (more L i) rvF = stE M S0 (base + ops.size) L rvF := fun hne =>
  st_congr fun k hk hek => more_ne fun e => by
   subst e
   rw [hne] at hek
   cases hek
 have quiet : effAt rvF i = false -> allocAt rvF i = none -> ∀ {g1 : Gm} {w1 : World} {v : Value}, Ext g g1 -> R g1 c.env q.r v -> RW (cL c base ops.size L) g1 (htA L (stE M S0 (base + ops.size) L rvF).1 (stE M S0 (base + ops.size) L rvF).2.1 rvF) (stE M S0 (base + ops.size) L rvF).2.2 w1 -> Inv D ops M S0 base n t0 c rvF g0 (more L i) (a.put o.dst v) w1 := fun hne hna {g1 w1 v} hg1 hr hw1 => by
  refine ⟨⟨g1, hext.trans hg1, newcv hg1 hr, ?_⟩, hputsz, hputdf, ?_⟩
  ·rw [calm hne]
   refine (hlessF hw1).congr fun G => ?_
   rw [ht_get hG, ht_get hG]
   by_cases hGi : G - base = i
   ·rw [hGi, hna, ite_self, ite_self]
   ·rw [more_ne hGi]
  ·rw [calm hne]
   exact hnone
 unfold wpOpIn
 simp only [ho]
 have value : ∀ {m' : StepN P (cL c base ops.size L) g (execOp a.eval o) w q.r (htA L (stE M S0 (base + ops.size) L rvF).1 (stE M S0 (base + ops.size) L rvF).2.1 rvF) (stE M S0 (base + ops.size) L rvF).2.2}, (∀ cc, o.op ≠ .defer cc) -> effAt rvF i = false -> allocAt rvF i = none -> wantedR t ops o = some true -> (if Region.wanted o (yielded ops a.tmps) = true then o.wpIn (Wd ro) 0 P a w K Q else (∀ f, o.about P w a.eval = some f -> (Wd ro).fn f) /\ K (a.put o.dst undef) w) := fun {m'} hnd hne hna hwant => by
  rw [if_pos (wanted_looks hwant hT)]
  exact (m'.wp hnd fun g' v w' k1 k2 k3 => hK _ _ (quiet hne hna k2 k1 k3))
 -- parts of the memory set aside
 let em := (stE M S0 (base + ops.size) L rvF).1
 let S := (stE M S0 (base + ops.size) L rvF).2.1
 let nx := (stE M S0 (base + ops.size) L rvF).2.2
 let z : Nat -> Bool := fun G => decide (base <= G) && L (G - base) && !em.testBit (G - base) && !(M i).testBit (G - base) && (allocAt rvF (G - base)).isSome
 have hzs : ∀ G, z G = true ↔ base <= G /\ L (G - base) = true /\ em.testBit (G - base) = false /\ (M i).testBit (G - base) = false /\ ∃ ob, allocAt rvF (G - base) = some ob := fun G => by
  simp only [z, Bool.and_eq_true, decide_eq_true_eq, Bool.not_eq_true', Option.isSome_iff_exists]
  constructor
  ·rintro ⟨⟨⟨⟨a, b⟩, c⟩, d⟩, e⟩; exact ⟨a, b, c, d, e⟩
  ·rintro ⟨a, b, c, d, e⟩; exact ⟨⟨⟨⟨a, b⟩, c⟩, d⟩, e⟩
 have hview : ∀ G, (htA (fun a => (M i).testBit a) em S rvF).get G = if z G = true then none else (htA L em S rvF).get G := fun G => by
  rw [ht_get hG, ht_get hG]
  by_cases hz : z G = true
  ·rw [if_pos hz]
   obtain ⟨h1, h2, h3, h4, ob, h5⟩ := (hzs G).1 hz
   rw [if_neg (fun hh => by rw [h4] at hh; cases hh.2.1)]
   have := hnone (G - base) ob h5 h3
   rw [show base + (G - base) = G by omega] at this
   exact this
  ·rw [if_neg hz]
   by_cases hs : base <= G /\ L (G - base) = true /\ em.testBit (G - base) = false
   ·rw [if_pos hs]
    cases hm : (M i).testBit (G - base) with
    | true => rw [if_pos ⟨hs.1, rfl, hs.2.2⟩]
    | false =>
     rw [if_neg (fun hh => by cases hh.2.1)]
     cases hao : allocAt rvF (G - base) with
     | none => rfl
     | some ob => exact absurd ((hzs G).2 ⟨hs.1, hs.2.1, hs.2.2, hm, ob, hao⟩) hz
   ·rw [if_neg hs, if_neg (fun hh => hs ⟨hh.1, F1 _ hh.2.1, hh.2.2⟩)]
 have hzget : ∀ G, z G = true -> (htA L em S rvF).get G ≠ none := fun G hz => by
  obtain ⟨h1, h2, h3, h4, ob, h5⟩ := (hzs G).1 hz
  rw [ht_get hG, if_pos ⟨h1, h2, h3⟩, h5]
  simp
 have hznx : ∀ G, z G = true -> G < nx := fun G hz => by
  rcases Nat.lt_or_ge G nx with h | h
  ·exact h
  ·exact absurd (hw.dom G h) (hzget G hz)
 cases hk with
 | skip h1 h2 h3 =>
  rw [h3] at hat heat
  rw [if_neg (by rw [wanted_looks h1 hT]; simp)]
  exact ⟨fun _ _ => trivial, hK _ _ (quiet heat hat (Ext.refl g) (by rw [h2]; exact .lit _) hw)⟩
 | pure h1 h2 h3 =>
  rw [h3] at hat heat
  have hv : Vals P g (cL c base ops.size L).env (execOp a.eval o) q.r := pure_sound h2 hρ
  exact value (m' := (hv.doesN hw).step) (pureR_not h2) heat hat h1
 | read h1 h3 =>
  rw [h3] at hat heat
  have hra := readsOk_at hreads hp h3
  rw [hli] at hra
  have hsame := readAt_sound (rvF := rvF) (nx0 := base + ops.size) (L := L) (fun k hk hb => F1 k hb) (fun k hk hLk => F2 k (by rw [<- hlen]; exact eff_lt hk) hLk) rvF [] rfl (fun k hk hek => by
   have := eff_lt hek
   omega) hra
  unfold sameRead at hsame
  split at hsame <;> try cases hsame
  rename_i r' hr'
  have := eqRV_eq hsame
  subst this
  obtain ⟨c2, hc2, hw2, _, _, hback⟩ := hw.aside z hview hzget hznx
  have hd := read_sound (c := c2) hr' (by rw [hc2]; exact hρ) hw2
  obtain ⟨g', v, w', k1, k2, k3, k4⟩ := hd
  refine value (m' := ⟨g', v, w', .inl k1, by rw [hc2] at k2; exact k2, k3, hback g' _ _ w' k3 k4 _ fun G => ?_⟩) (readR_not hr') heat hat h1
  rw [hview G]
  split <;> rfl
 | alloc ob h1 h2 h3 h4 =>
  rw [h4] at hat heat
  rw [if_pos (wanted_looks h1 hT)]
  rw [hli] at h3
  have hemi : em.testBit i = false := by
   rcases st_last (M := M) (S0 := S0) (nx0 := base + ops.size) (L := L) (rv := rvF) with ⟨_, h5⟩ | ⟨e, e1, e2, e3, e4⟩
   ·show (stE M S0 (base + ops.size) L rvF).1.testBit i = false
    rw [h5]
    exact Nat.zero_testBit i
   ·show (stE M S0 (base + ops.size) L rvF).1.testBit i = false
    rw [e4]
    exact F2 e (by rw [<- hlen]; exact eff_lt e1) e2
  have hFi : (cL c base ops.size L).F (base + i) = some (fun _ => none) := by
   simp only [cL]
   rw [if_pos ⟨by omega, by omega, by rw [show base + i - base = i by omega]; exact hLi⟩]
  obtain ⟨r1, r2, r3⟩ := hw.res _ _ hFi
  have hd := alloc_sound (c := cL c base ops.size L) (nx' := nx) (F' := (cL c base ops.size (more L i)).F) h3 hρ hw r3 (fun x f hx => ⟨hcLF x f hx, fun e => by
   subst e
   simp only [cL] at hx
   rw [if_neg (fun hh => by
    have := hh.2.2
    rw [show base + i - base = i by omega, more_self] at this
    cases this)] at hx
   have := hcF _ _ hx
   omega⟩) (Nat.le_refl _) r1
  obtain ⟨g', v, w', k1, k2, k3, k4⟩ := hd
  refine ⟨fun _ _ => trivial, ?_⟩
  show o.uponIn (Wd ro) 0 P a K Q ((o.semAt ro a.eval).run P w)
  rw [Oper.semAt_eq ro a.eval o (allocR_not h3), k1]
  refine hK _ _ ⟨⟨g', hext.trans k3, newcv k3 k2, ?_⟩, hputsz, hputdf, ?_⟩
  ·rw [calm heat]
   refine RW.congr (c := cL c base ops.size (more L i)) k4 fun G => ?_
   rw [Tr.get_set, ht_get hG, ht_get hG]
   by_cases hGi : G = base + i
   ·subst hGi
    have e : base + i - base = i := by omega
    rw [if_pos rfl, e, if_pos ⟨by omega, more_self, hemi⟩, hat]
   ·rw [if_neg hGi]
    by_cases hle : base <= G
    ·rw [more_ne (by omega)]
    ·rw [if_neg (fun hh => hle hh.1), if_neg (fun hh => hle hh.1)]
  ·rw [calm heat]
   exact hnone
 | eff h' nx' h1 h2 h3 h4 =>
  rw [h4] at hat heat
  rw [if_pos (wanted_looks h1 hT)]
  have C1 : ∀ k, k < i -> effAt rvF k = true -> L k = true := fun k hk hek => F1 k (eff_mask hG hlen hM i heat k hk hek)
  have C2 : ∀ k, i < k -> effAt rvF k = true -> L k = false := fun k hk hek => by
   cases hLk : L k with
   | false => rfl
   | true =>
    have := F2 k (by rw [<- hlen]; exact eff_lt hek) hLk
    rw [eff_mask hG hlen hM k hek i hk heat] at this
    cases this
  have hst : stE M S0 (base + ops.size) all l = stE M S0 (base + ops.size) L rvF := by
   have e1 : stE M S0 (base + ops.size) L rvF = stE M S0 (base + ops.size) L l := by
    rw [hp2]
    refine st_drop fun k hk hk2 hek => ?_
    rw [<- hp2] at hek
    rcases Nat.eq_or_lt_of_le hk with e | e
    ·rw [<- e, hli]
     exact hLi
    ·exact C2 k (by omega) hek
   rw [e1]
   refine st_congr fun k hk hek => ?_
   have := C1 k (by omega) (by rw [hp2, eff_app hk]; exact hek)
   rw [this]
   rfl
  rw [hst, hli] at h3
  have emsub : ∀ k, (M i).testBit k = false -> em.testBit k = false := fun k hk => by
   cases hb : em.testBit k with
   | false => rfl
   | true =>
    have hb' : (stE M S0 (base + ops.size) L rvF).1.testBit k = true := hb
    rcases st_last (M := M) (S0 := S0) (nx0 := base + ops.size) (L := L) (rv := rvF) with ⟨_, h5⟩ | ⟨e, e1, e2, e3, e4⟩
    ·rw [h5, Nat.zero_testBit] at hb'
     cases hb'
    ·rw [e4] at hb'
     have helt : e < i := by
      rcases Nat.lt_trichotomy e i with hh | hh | hh
      ·exact hh
      ·rw [hh, hLi] at e2
       cases e2
      ·rw [C2 e hh e1] at e2
       cases e2
     rw [hM.trans i o ho e k (eff_mask hG hlen hM i heat e helt e1) hb'] at hk
     cases hk
  have hview2 : ∀ G, (htA (fun a => (M i).testBit a) em S l).get G = if z G = true then none else (htA L em S rvF).get G := fun G => by
   rw [<- hview G, ht_get hG, ht_get hGl]
   by_cases hs : base <= G /\ (M i).testBit (G - base) = true /\ em.testBit (G - base) = false
   ·rw [if_pos hs, if_pos hs]
    have hlt := hM.lt' i o ho _ hs.2.1
    rw [hp2, alloc_app (by omega)]
   ·rw [if_neg hs, if_neg hs]
  obtain ⟨c2, hc2, hw2, hz1, hz0, hback⟩ := hw.aside z hview2 hzget hznx
  refine eff_sound hcall (c := c2) h3 (by rw [hc2]; exact hρ) hw2 fun g' v w' k1 k2 k3 => hK _ _ ?_
  have hst' : stE M S0 (base + ops.size) (more L i) rvF = (M i, h', nx') := by
   rw [hp, st_drop (fun k hk hk2 hek => ?_)]
   ·unfold stE
    rw [h4]
    simp only [hli, more_self, cond_true]
   ·rw [<- hp] at hek
    simp only [List.length_cons] at hk
    rw [more_ne (by omega)]
    exact C2 k (by omega) hek
  refine ⟨⟨g', hext.trans k2, newcv k2 (by rw [hc2] at k1; exact k1), ?_⟩, hputsz, hputdf, ?_⟩
  ·rw [hst']
   refine hlessF (hback g' h' nx' w' k2 k3 _ fun G => ?_)
   rw [ht_get hG]
   by_cases hz : z G = true
   ·rw [if_pos hz]
    obtain ⟨a1, a2, a3, a4, ob, a5⟩ := (hzs G).1 hz
    have hne : G - base ≠ i := fun e => by
     rw [e, hLi] at a2
     cases a2
    rw [ht_get hG, if_pos ⟨a1, by rw [more_ne hne]; exact a2, a4⟩, if_pos ⟨a1, a2, a3⟩, a5]
   ·rw [if_neg hz]
    by_cases hs : base <= G /\ more L i (G - base) = true /\ (M i).testBit (G - base) = false
    ·rw [if_pos hs]
     cases hao : allocAt rvF (G - base) with
     | none => rfl
     | some ob =>
      have hne : G - base ≠ i := fun e => by
       rw [e, hat] at hao
       cases hao
      have hLG := hs.2.1
      rw [more_ne hne] at hLG
      exact absurd ((hzs G).2 ⟨hs.1, hLG, emsub _ hs.2.2, hs.2.2, ob, hao⟩) hz
    ·rw [if_neg hs]
  ·rw [hst']
   intro k ob hao hmk
   have hkn : k < ops.size := by rw [<- hlen]; exact alloc_lt hao
   have e : base + k - base = k := by omega
   cases hLk : L k with
   | true =>
    have hz : z (base + k) = true := (hzs _).2 ⟨by omega, by rw [e]; exact hLk, by rw [e]; exact emsub k hmk, by rw [e]; exact hmk, ob, by rw [e]; exact hao⟩
    exact (k3.res _ _ (hz1 _ hz)).2.1
   | false =>
    have hz : z (base + k) = false := by
     cases hz : z (base + k) with
     | false => rfl
     | true =>
      have := ((hzs _).1 hz).2.1
      rw [e, hLk] at this
      cases this
    have hF : c2.F (base + k) = some (fun _ => none) := by
     rw [hz0 _ hz]
     simp only [cL]
     rw [if_pos ⟨by omega, by omega, by rw [e]; exact hLk⟩]
    exact (k3.res _ _ hF).2.1
end
end Go.Proofs.YtnlimlboedohgaaGreatDoor.Ax
