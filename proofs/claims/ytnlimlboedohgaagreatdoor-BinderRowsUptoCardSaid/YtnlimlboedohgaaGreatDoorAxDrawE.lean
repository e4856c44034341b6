/-
  Regions whose order is drawn are reckoned rightly; and so are calls.
-/
import Derived.Test.YtnlimlboedohgaaGreatDoorAxDrawD
namespace Go.Proofs.YtnlimlboedohgaaGreatDoor.Ax
open Go.RowKit
set_option linter.unusedVariables false
set_option linter.unusedSimpArgs false

/-- how many have not come up -/
def cnt : Nat -> (Nat -> Bool) -> Nat
 | 0, _ => 0
 | n + 1, f => (if f n = true then 0 else 1) + cnt n f
theorem cnt_more : ∀ {n i : Nat} {f : Nat -> Bool}, i < n -> f i = false -> cnt n f = cnt n (more f i) + 1
 | 0, i, f, h, _ => absurd h (by omega)
 | n + 1, i, f, h, hf => by
  unfold cnt
  rcases Nat.lt_or_ge i n with hlt | hge
  ·rw [cnt_more hlt hf, more_ne (by omega)]
   omega
  ·have : i = n := by omega
   subst this
   have hlow : ∀ m, m <= i -> cnt m (more f i) = cnt m f := fun m => by
    induction m with
    | zero => intro _; rfl
    | succ m ih =>
     intro hm
     unfold cnt
     rw [ih (by omega), more_ne (by omega)]
   rw [hlow i (Nat.le_refl _), hf, more_self]
   simp
   omega
theorem cnt_zero : ∀ {n : Nat} {f : Nat -> Bool}, cnt n f = 0 -> ∀ k, k < n -> f k = true
 | 0, f, _, k, h => absurd h (by omega)
 | n + 1, f, h, k, hk => by
  unfold cnt at h
  rcases Nat.lt_or_ge k n with hlt | hge
  ·exact cnt_zero (by omega) k hlt
  ·have : k = n := by omega
   subst this
   cases hf : f k with
   | true => rfl
   | false => rw [hf] at h; simp at h
theorem cnt_pos : ∀ {n : Nat} {f : Nat -> Bool}, cnt n f ≠ 0 -> ∃ k, k < n /\ f k = false /\ ∀ j, j < k -> f j = true
 | 0, f, h => absurd rfl h
 | n + 1, f, h => by
  by_cases hc : cnt n f = 0
  ·refine ⟨n, Nat.lt_succ_self _, ?_, cnt_zero hc⟩
   cases hf : f n with
   | false => rfl
   | true =>
    unfold cnt at h
    rw [hf, hc] at h
    exact absurd rfl h
  ·obtain ⟨k, h1, h2, h3⟩ := cnt_pos hc
   exact ⟨k, by omega, h2, h3⟩
section
variable {ro : Option Nat} {D : List Deferred} {P : Program} {call : CallR} {ops : Array Oper} {M : Nat -> Nat} {S0 : Hp} {base n : Nat} {t0 : Nat -> RV} {c : Cx} {rvF : List Rec}
def Lf (listed : Array Bool) : Nat -> Bool := fun k => listed.getD k false
theorem Lf_set {listed : Array Bool} {i : Nat} (hi : i < listed.size) : Lf (listed.setIfInBounds i true) = more (Lf listed) i := by
 funext k
 unfold Lf more
 by_cases h : k = i
 ·subst h
  rw [if_pos rfl]
  simp [hi]
 ·rw [if_neg h]
  have : i ≠ k := fun e => h e.symm
  simp [Array.getElem?_setIfInBounds_ne this]
theorem any_sound (hcall : CallOK P call) (hM : Masks ops M) (hG : Good P call ops M S0 base n t0 rvF) (hlen : rvF.length = ops.size) (hreads : readsOk P M S0 rvF rvF = true) (hcF : ∀ x f, c.F x = some f -> x < base) {g0 : Gm} {Q : Exit -> Act -> World -> Prop} (hQ : ∀ L a w, (∀ k, k < ops.size -> L k = true) -> Inv D ops M S0 base n t0 c rvF g0 L a w -> Q .normal a w) :
  ∀ (fuel : Nat) (listed : Array Bool) (a : Act) (w : World), listed.size = ops.size -> cnt ops.size (Lf listed) = fuel -> Down ops (Lf listed) -> Inv D ops M S0 base n t0 c rvF g0 (Lf listed) a w -> wpAnyIn (Wd ro) 0 P .any ops Q fuel listed a w
 | 0, listed, a, w, hs, hc, hD, hI => by
  have hall := cnt_zero hc
  refine ⟨?_, hQ _ a w hall hI⟩
  cases hr : Region.ready .any ops listed with
  | nil => rfl
  | cons j js =>
   have hj : j ∈ Region.ready .any ops listed := by rw [hr]; exact List.mem_cons_self
   obtain ⟨h1, o, h2, _⟩ := mem_ready.1 hj
   have hjn := (Array.getElem?_eq_some_iff.1 h2).1
   have := hall j hjn
   unfold Lf at this
   have hj2 : j < listed.size := by omega
   simp [hj2] at h1 this
   rw [h1] at this
   cases this
 | fuel + 1, listed, a, w, hs, hc, hD, hI => by
  constructor
  ·intro hr
   exfalso
   obtain ⟨k, h1, h2, h3⟩ := cnt_pos (n := ops.size) (f := Lf listed) (by omega)
   have : k ∈ Region.ready .any ops listed := by
    refine mem_ready.2 ⟨?_, ops[k], Array.getElem?_eq_getElem h1, fun e he hb => ?_⟩
    ·have hk2 : k < listed.size := by omega
     unfold Lf at h2
     simp [hk2] at h2 |-
     exact h2
    ·exact h3 e.on (hM.lt k _ (Array.getElem?_eq_getElem h1) e he hb)
   rw [hr] at this
   cases this
  ·intro i hi
   obtain ⟨h1, o, h2, h3⟩ := mem_ready.1 hi
   have hin := (Array.getElem?_eq_some_iff.1 h2).1
   have hi2 : i < listed.size := by omega
   have hLi : Lf listed i = false := by
    unfold Lf
    simp [hi2] at h1 |-
    exact h1
   refine step_sound hcall hM hG hlen hreads hcF h2 hD hLi h3 hI fun a' w' hI' => ?_
   have hset := Lf_set (listed := listed) hi2
   refine any_sound hcall hM hG hlen hreads hcF hQ fuel _ a' w' (by simpa using hs) ?_ ?_ ?_
   ·rw [hset]
    have := cnt_more hin hLi
    omega
   ·rw [hset]
    intro j oj hj hLj e he hb
    by_cases hji : j = i
    ·subst hji
     rw [h2] at hj
     cases hj
     have := h3 e he hb
     by_cases hei : e.on = j
     ·rw [hei]; exact more_self
     ·rw [more_ne hei]; exact this
    ·rw [more_ne hji] at hLj
     have := hD j oj hj hLj e he hb
     by_cases hei : e.on = i
     ·rw [hei]; exact more_self
     ·rw [more_ne hei]; exact this
   ·rw [hset]
    exact hI'
theorem cv_none {x : Nat} : ∀ {rv : List Rec}, cvL t0 (fun _ => false) rv x = t0 x
 | [] => rfl
 | q :: l => by
  unfold cvL
  rw [if_neg (by simp)]
  exact cv_none
theorem st_none {nx0 : Nat} : ∀ {rv : List Rec}, stE M S0 nx0 (fun _ => false) rv = (0, S0, nx0)
 | [] => rfl
 | q :: l => by
  unfold stE
  split
  ·exact st_none
  ·exact st_none
theorem alloc_none (hG : Good P call ops M S0 base n t0 rvF) {k : Nat} {ob : OB} (h : allocAt rvF k = some ob) : S0.get (base + k) = none := by
 obtain ⟨pre, q, l, h1, h2, ⟨o, t, _, _, _, _, hk⟩, _⟩ := Good.split hG (alloc_lt h)
 subst h2
 rw [h1, alloc_at] at h
 cases hk with
 | skip _ _ e => rw [e] at h; cases h
 | pure _ _ e => rw [e] at h; cases h
 | read _ e => rw [e] at h; cases h
 | alloc _ _ e _ _ => exact e
 | eff _ _ _ _ _ e => rw [e] at h; cases h
theorem draw_sound (hcall : CallOK P call) : DrawOK P (drawR P call) := by
 intro ops s x s' hd ro c g a w Q id hs hq
 unfold drawR at hd
 split at hd <;> try cases hd
 rename_i mk hmk
 split at hd <;> try cases hd
 rename_i rv t hgen
 obtain ⟨hM, hfol⟩ := stat_spec hmk
 dsimp only at hd
 cases hro : readsOk P (fun j => (mk.get j).getD 0) s.h rv rv with
 | false => rw [hro] at hd; cases hd
 | true =>
 rw [hro, cond_true] at hd
 obtain ⟨hG, ht, hlen⟩ := gen_good (P := P) (call := call) (ops := ops) (M := fun j => (mk.get j).getD 0) (S0 := s.h) (base := s.nx) (n := s.n) (t0 := fun x => (s.tm.get x).getD (.lit undef)) rfl ops.toList [] rv s.tm t hgen (fun k o hk => by
  rw [Array.getElem?_toList] at hk
  simpa using hk) trivial (fun x => rfl)
 have hlen' : rv.length = ops.size := by rw [hlen]; simp
 have hcF : ∀ x f, c.F x = some f -> x < s.nx := fun x f hx => (hs.rw.res x f hx).1
 have hres : x = .normal /\ s' = ⟨t, s.n, htA (fun _ => true) (stE (fun j => (mk.get j).getD 0) s.h (s.nx + ops.size) (fun _ => true) rv).1 (stE (fun j => (mk.get j).getD 0) s.h (s.nx + ops.size) (fun _ => true) rv).2.1 rv, (stE (fun j => (mk.get j).getD 0) s.h (s.nx + ops.size) (fun _ => true) rv).2.2, s.ds⟩ := by
  split at hd
  ·rename_i e
   cases hd
   rw [e]
   exact ⟨rfl, rfl⟩
  ·rename_i v l r e
   cases hd
   rw [e]
   exact ⟨rfl, rfl⟩
 obtain ⟨rfl, rfl⟩ := hres
 refine wpIn_region_any hfol ?_
 have hfalse : Lf (Array.replicate ops.size false) = fun _ => false := by
  funext k
  unfold Lf
  rw [Array.getD_eq_getD_getElem?, Array.getElem?_replicate]
  split <;> rfl
 refine any_sound (D := a.defers) hcall hM hG hlen' hro hcF (g0 := g) (fun L a' w' hall hI => ?_) ops.size _ a _ (by simp) ?_ ?_ ?_
 ·obtain ⟨⟨g', hext, hcv, hw⟩, hsz, hdf, _⟩ := hI
  have hst : stE (fun j => (mk.get j).getD 0) s.h (s.nx + ops.size) L rv = stE (fun j => (mk.get j).getD 0) s.h (s.nx + ops.size) (fun _ => true) rv := st_congr fun k hk _ => hall k (by omega)
  refine hq g' a' w' hext ⟨⟨hsz, fun i => ?_⟩, ?_, hdf ▸ hs.df.mono hext⟩
  ·rw [ht i, <- cv_congr (P := P) (call := call) (M := fun j => (mk.get j).getD 0) (S0 := s.h) (base := s.nx) (n := s.n) (ops := ops) (L := L) (L' := all) hG fun k hk _ => hall k (by omega)]
   exact hcv i
  ·rw [hst] at hw
   have hw2 : RW c g' _ _ w' := hw.lessF (F' := c.F) fun x f hx => by
    have := hcF x f hx
    simp only [cL]
    rw [if_neg (by omega)]
    exact hx
   refine hw2.congr fun G => ?_
   rw [ht_get hG, ht_get hG]
   by_cases hao : ∃ ob, allocAt rv (G - s.nx) = some ob
   ·obtain ⟨ob, hob⟩ := hao
    rw [hall (G - s.nx) (by rw [<- hlen']; exact alloc_lt hob)]
   ·have : allocAt rv (G - s.nx) = none := by
     cases hob : allocAt rv (G - s.nx) with
     | none => rfl
     | some ob => exact absurd ⟨ob, hob⟩ hao
    rw [this, ite_self, ite_self]
 ·rw [hfalse]
  have : ∀ m, cnt m (fun _ => false) = m := fun m => by
   induction m with
   | zero => rfl
   | succ m ih => unfold cnt; rw [ih]; simp; omega
  exact this _
 ·rw [hfalse]
  intro j o _ hj
  cases hj
 ·rw [hfalse]
  refine ⟨⟨g, Ext.refl g, fun x => ?_, ?_⟩, hs.rf.size, rfl, fun k ob hk _ => ?_⟩
  ·rw [cv_none]
   exact hs.rf.at_ x
  ·rw [st_none]
   have hw := hs.rw.drew
   have h0 : RW (cL c s.nx ops.size fun _ => false) g s.h (s.nx + ops.size) w.drew := by
    refine ⟨hw.os, hw.tape, hw.output, hw.size, hw.keep, fun G e hGe => hw.free G e (by omega), fun G hGe => hw.dom G (by omega), fun x f hx => ?_, fun G ob hg => (hw.ok G ob hg).ctx rfl fun _ _ _ _ _ hk => hk, hw.sep⟩
    simp only [cL] at hx
    split at hx
    ·rename_i hc
     cases hx
     exact ⟨by omega, hw.dom x hc.1, fun e => hw.free x e hc.1⟩
    ·obtain ⟨h1, h2, h3⟩ := hw.res x f hx
     exact ⟨by omega, h2, h3⟩
   refine h0.congr fun G => ?_
   rw [ht_get hG, if_neg (fun hh => by cases hh.2.1)]
  ·rw [st_none]
   exact alloc_none hG hk
/-- calls, reckoned -/
theorem calls_sound {orc : CallR} (horc : CallOK P orc) (d : Nat) : CallOK P (callR P orc (drawR P) d) := (call_sound horc (fun call hc => draw_sound hc) d).1
end
/-- no call is known beforehand -/
def noOrc : CallR := fun _ _ _ _ => none
theorem noOrc_ok (P : Program) : CallOK P noOrc := ⟨fun _ _ _ _ _ _ _ h => by (cases h), fun _ _ _ _ _ _ _ h => by cases h⟩
/-- the world at a call's start -/
def cxOf (w : World) (env : Nat -> Value) (ht : TabW w) (he : EnvP (fun q => w.heap[q]?) env) : Cx := { w0 := w, K := fun q => w.heap[q]?, F := fun _ => none, env := env, tab := ht, envp := he }
theorem rw_start (w : World) (env : Nat -> Value) (ht : TabW w) (he : EnvP (fun q => w.heap[q]?) env) : RW (cxOf w env ht he) (fun _ _ => none) .leaf 0 w :=
 ⟨rfl, rfl, rfl, Nat.le_refl _, fun q o h => h, fun _ _ _ => rfl, fun _ _ => rfl, fun x f h => by (cases h), fun G ob h => by (cases h), fun G G' e e' q n n' _ _ h => by (cases h)⟩
theorem RW.below {w w' : World} {env : Nat -> Value} {ht : TabW w} {he : EnvP (fun q => w.heap[q]?) env} {g : Gm} {h : Hp} {nx : Nat} (hw : RW (cxOf w env ht he) g h nx w') : Below w.heap.size w w' :=
 ⟨hw.os, hw.tape, hw.output, hw.size, fun k hk => by
  have : w.heap[k]? = some w.heap[k] := Array.getElem?_eq_getElem hk
  rw [this]
  exact hw.keep k _ this⟩
/-- A CALL, RECKONED, IN WHATEVER WORLD: its arguments may hold unknown values. -/
theorem calls_of {P : Program} {orc : CallR} (horc : CallOK P orc) {d : Nat} {f : FuncId} {args : List RV} {r : RV} {h' : Hp} {nx' : Nat} (hr : callR P orc (drawR P) d (.fn f) args .leaf 0 = some (.ret r, h', nx')) (env : Nat -> Value) (vs : List Value) (hv : RL (fun _ _ => none) env args vs) (w : World) (ht : TabW w) (he : EnvP (fun q => w.heap[q]?) env) (K : Ending -> World -> Prop)
  (hK : ∀ g v w', R g env r v -> RW (cxOf w env ht he) g h' nx' w' -> Below w.heap.size w w' -> K (.returned v) w') : Calls P f vs.toArray w K :=
 ((calls_sound horc d).1 _ _ _ _ _ _ _ hr).2 (cxOf w env ht he) _ w vs hv (rw_start w env ht he) K fun g' v w' k1 k2 k3 => hK g' v w' k1 k3 k3.below
end Go.Proofs.YtnlimlboedohgaaGreatDoor.Ax
