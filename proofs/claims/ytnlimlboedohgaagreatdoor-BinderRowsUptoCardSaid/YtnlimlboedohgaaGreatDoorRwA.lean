import Derived.Test.YtnlimlboedohgaaGreatDoorEvP
import Derived.Test.YtnlimlboedohgaaGreatDoorBnC
import Derived.Test.YtnlimlboedohgaaGreatDoorBnB
import Derived.Test.YtnlimlboedohgaaGreatDoorBnH
import Derived.Test.YtnlimlboedohgaaGreatDoorBnA
import Derived.Test.YtnlimlboedohgaaGreatDoorPxS
import Derived.Test.YtnlimlboedohgaaGreatDoorEvM
import Derived.Test.YtnlimlboedohgaaGreatDoorEvO
import Derived.Test.YtnlimlboedohgaaGreatDoorBnG
import Derived.Test.YtnlimlboedohgaaGreatDoorAxSeg
import Derived.Test.YtnlimlboedohgaaGreatDoorProg
import Derived.KernelRfl
import Derived.Test.YtnlimlboedohgaaGreatDoorOrA
import Derived.Test.YtnlimlboedohgaaGreatDoorAwkS
/-
  A printable expression without names is plain; a row's values and what a table says of them, in plain Lean.
-/
set_option maxHeartbeats 16000000
set_option maxRecDepth 100000
namespace Go.Proofs.YtnlimlboedohgaaGreatDoor.Px
open Go Go.RowKit Go.Proofs.YtnlimlboedohgaaGreatDoor.Ps
set_option linter.unusedVariables false
set_option linter.unusedSimpArgs false
theorem ownB_op {op int vk vi : Int} {vs nm : S} {l : List X} (h : ownB op int vk vi vs nm l = true) : op = 3 \/ (op = 25 /\ l.length = 2) \/ op = 26 \/ op = 1 \/ (4 <= op /\ op <= 23) := by
 unfold ownB at h
 split at h
 ·exact .inl ‹_›
 split at h
 ·simp only [Bool.and_eq_true, decide_eq_true_eq] at h
  exact .inr (.inl ⟨‹_›, h.2.2.2.2.1⟩)
 split at h
 ·exact .inr (.inr (.inl ‹_›))
 split at h
 ·cases h
 ·unfold formedB at h
  simp only [Bool.and_eq_true, Bool.not_eq_true', decide_eq_false_iff_not] at h
  rcases known_in h.1.1 with h1 | h1 | h1 | h1 | h1 | h1 | h1 | h1 | h1 | h1 | h1 <;> omega
mutual
theorem plX_of : ∀ {x y : X}, rOk x = true -> resR none [] x = .ok y -> plX y = true
 | .mk op int vk vi vs nm l, y, h, hr => by
  rw [rOk, Bool.and_eq_true] at h
  have ho := ownB_op h.1
  unfold resR at hr
  split at hr
  ·rw [nameR_zero] at hr; cases hr
  split at hr
  ·cases hr
  split at hr
  ·split at hr
   ·have hl : l = [] := by simpa using ‹l.isEmpty = true›
    subst hl
    simp at ho
    omega
   ·cases hr
  ·cases e : resRs none [] l with
   | inr q => rw [e] at hr; cases hr
   | inl l' =>
    rw [e] at hr
    injection hr with hr
    subst hr
    rw [plX, plXs_of h.2 e, Bool.and_true]
    simp only [Bool.or_eq_true, Bool.and_eq_true, decide_eq_true_eq]
    omega
theorem plXs_of : ∀ {l m : List X}, rOks l = true -> resRs none [] l = .inl m -> plXs m = true
 | [], m, _, hr => by rw [resRs] at hr; injection hr with hr; subst hr; rfl
 | x :: l, m, h, hr => by
  rw [rOks, Bool.and_eq_true] at h
  rw [resRs] at hr
  cases hx : resR none [] x with
  | no e => rw [hx] at hr; cases hr
  | ok y =>
   rw [hx] at hr
   simp only at hr
   cases hk : resRs none [] l with
   | inr e => rw [hk] at hr; cases hr
   | inl m' =>
    rw [hk] at hr
    injection hr with hr
    subst hr
    rw [plXs, plX_of h.1 hx, plXs_of h.2 hk]; rfl
end
/-- one after another, until one fails -/
def seqV {α β : Type} (f : α -> β ⊕ Int) : List α -> List β ⊕ Int
 | [] => .inl []
 | x :: l => match f x with
  | .inr e => .inr e
  | .inl y => (match seqV f l with | .inl m => .inl (y :: m) | .inr e => .inr e)
theorem seqV_ok {α β : Type} {f : α -> β ⊕ Int} {l : List α} {k : Nat} {m : List β} {y : β} (h : k < l.length) (h1 : seqV f (l.take k) = .inl m) (h2 : f l[k] = .inl y) : seqV f (l.take (k + 1)) = .inl (m ++ [y]) := by
 induction l generalizing k m with
 | nil => simp at h
 | cons x l ih =>
  cases k with
  | zero =>
   simp only [List.take_zero, seqV] at h1
   injection h1 with h1
   subst h1
   rw [List.getElem_cons_zero] at h2
   simp only [List.take_succ_cons, List.take_zero, seqV, h2, List.nil_append]
  | succ k =>
   rw [List.take_succ_cons, seqV] at h1
   rw [List.getElem_cons_succ] at h2
   rw [List.take_succ_cons, seqV]
   cases hx : f x with
   | inr e => rw [hx] at h1; cases h1
   | inl z =>
    rw [hx] at h1
    simp only at h1 |-
    cases hk : seqV f (l.take k) with
    | inr e => rw [hk] at h1; cases h1
    | inl m' =>
     rw [hk] at h1
     injection h1 with h1
     subst h1
     rw [ih (by simpa using h) hk h2]; rfl
theorem seqV_bad {α β : Type} {f : α -> β ⊕ Int} {l : List α} {k : Nat} {m : List β} {e : Int} (h : k < l.length) (h1 : seqV f (l.take k) = .inl m) (h2 : f l[k] = .inr e) : seqV f l = .inr e := by
 induction l generalizing k m with
 | nil => simp at h
 | cons x l ih =>
  cases k with
  | zero =>
   rw [List.getElem_cons_zero] at h2
   rw [seqV, h2]
  | succ k =>
   rw [List.take_succ_cons, seqV] at h1
   rw [List.getElem_cons_succ] at h2
   rw [seqV]
   cases hx : f x with
   | inr q => rw [hx] at h1; cases h1
   | inl z =>
    rw [hx] at h1
    simp only at h1 |-
    cases hk : seqV f (l.take k) with
    | inr q => rw [hk] at h1; cases h1
    | inl m' => rw [ih (by simpa using h) hk h2]
theorem seqV_len {α β : Type} {f : α -> β ⊕ Int} : ∀ {l : List α} {m : List β}, seqV f l = .inl m -> m.length = l.length
 | [], m, h => by rw [seqV] at h; injection h with h; subst h; rfl
 | x :: l, m, h => by
  rw [seqV] at h
  cases hx : f x with
  | inr e => rw [hx] at h; cases h
  | inl y =>
   rw [hx] at h
   simp only at h
   cases hk : seqV f l with
   | inr e => rw [hk] at h; cases h
   | inl m' =>
    rw [hk] at h
    injection h with h
    subst h
    rw [List.length_cons, List.length_cons, seqV_len hk]
theorem seqV_all {α β : Type} {f : α -> β ⊕ Int} {p : β -> Prop} (hp : ∀ x y, f x = .inl y -> p y) : ∀ {l : List α} {m : List β}, seqV f l = .inl m -> ∀ y ∈ m, p y
 | [], m, h, y, hy => by rw [seqV] at h; injection h with h; subst h; cases hy
 | x :: l, m, h, y, hy => by
  rw [seqV] at h
  cases hx : f x with
  | inr e => rw [hx] at h; cases h
  | inl z =>
   rw [hx] at h
   simp only at h
   cases hk : seqV f l with
   | inr e => rw [hk] at h; cases h
   | inl m' =>
    rw [hk] at h
    injection h with h
    subst h
    rcases List.mem_cons.1 hy with rfl | hy
    ·exact hp _ _ hx
    ·exact seqV_all hp hk y hy
/-- an expression's value, where it binds without sources -/
def valR : (X × Int) ⊕ Int -> V ⊕ Int
 | .inl y => .inl (evalX y.1)
 | .inr e => .inr e
def evR (x : X) : V ⊕ Int := valR (bindR [] (resR none [] x))
theorem evR_ok {x : X} {v : V} (h : evR x = .inl v) : okV v = true := by
 unfold evR at h
 cases e : bindR [] (resR none [] x) with
 | inr q => rw [e] at h; cases h
 | inl y => rw [e] at h; injection h with h; subst h; exact evalX_ok _
/-- what a table says of a row's values -/
def accF : List Col -> List V -> Int
 | c :: L, v :: M => if v.k = 0 /\ c.nul = false then 12 else if v.k ≠ 0 /\ v.k ≠ c.kind then 7 else accF L M
 | _, _ => 0
def accR (L : List Col) (M : List V) : Int := if M.length ≠ L.length then 13 else accF L M
theorem accF_null {L : List Col} {M : List V} {k : Nat} (h1 : k < L.length) (h2 : k < M.length) (h : accF L M = accF (L.drop k) (M.drop k)) (e1 : M[k].k = 0) (e2 : L[k].nul = false) : accF L M = 12 := by
 rw [h, List.drop_eq_getElem_cons h1, List.drop_eq_getElem_cons h2, accF, if_pos ⟨e1, e2⟩]
theorem accF_kind {L : List Col} {M : List V} {k : Nat} (h1 : k < L.length) (h2 : k < M.length) (h : accF L M = accF (L.drop k) (M.drop k)) (e1 : M[k].k ≠ 0) (e2 : M[k].k ≠ L[k].kind) : accF L M = 7 := by
 rw [h, List.drop_eq_getElem_cons h1, List.drop_eq_getElem_cons h2, accF, if_neg (fun e => e1 e.1), if_pos ⟨e1, e2⟩]
theorem accF_step {L : List Col} {M : List V} {k : Nat} (h1 : k < L.length) (h2 : k < M.length) (h : accF L M = accF (L.drop k) (M.drop k)) (e1 : ¬ (M[k].k = 0 /\ L[k].nul = false)) (e2 : ¬ (M[k].k ≠ 0 /\ M[k].k ≠ L[k].kind)) : accF L M = accF (L.drop (k + 1)) (M.drop (k + 1)) := by
 rw [h, List.drop_eq_getElem_cons h1, List.drop_eq_getElem_cons h2, accF, if_neg e1, if_neg e2]
theorem accF_end {L : List Col} {M : List V} {k : Nat} (h2 : M.length <= k) (h : accF L M = accF (L.drop k) (M.drop k)) : accF L M = 0 := by
 rw [h, List.drop_eq_nil_of_le h2]
 cases L.drop k <;> rfl
/-- a row of expressions: its values, or the error -/
def rowR (L : List Col) (r : List X) : List V ⊕ Int :=
 if r.length ≠ L.length then .inr 13 else
 match seqV evR r with
 | .inr e => .inr e
 | .inl M => if accR L M = 0 then .inl M else .inr (accR L M)
def rowsR (L : List Col) (l : List (List X)) : List (List V) ⊕ Int := if 4096 < l.length then .inr 5 else seqV (rowR L) l
def rowC (r : List X) : C := .s (toCs r)
def LL (w : World) (l : List (List X)) (v : Value) : Prop := Rp Tryz.prog w 47 [v] (.s (l.map rowC))
theorem LL.kept {n : Nat} {w w' : World} {l : List (List X)} {v : Value} (h : LL w l v) (hb : Below n w w') (hn : w.heap.size <= n) : LL w' l v := Rp.kept hb hn h
theorem LL.at_ {w : World} {l : List (List X)} {a : Option Addr} {n m k : Nat} (h : LL w l (.slice a n m)) (hk : k < n) : ∃ g o, a = some ⟨g, o, none⟩ /\ ∃ hx : k < l.length, ∃ b c, EC w g (o + k) [.slice b l[k].length c] /\ XL w l[k] (.slice b l[k].length c) := by
 obtain ⟨g, o, us, e, hc, hx, hr⟩ := el_at Tryz.underlying47 zc_LExpr (by omega) h hk
 have hx' : k < l.length := by simpa using hx
 rw [List.getElem_map] at hr
 have hr2 := hr
 unfold rowC at hr
 obtain ⟨b, n0, c, xs, rfl, e2, e3, _⟩ := hr.slice_inv Tryz.underlying25
 injection e2 with e2
 subst e2
 rw [toCs_map, List.length_map] at e3
 subst e3
 exact ⟨g, o, e, hx', b, c, by simpa using hc, hr2⟩
theorem LL.len {w : World} {l : List (List X)} {a : Option Addr} {n m : Nat} (h : LL w l (.slice a n m)) : l.length = n := by
 obtain ⟨_, _, _, ys, e1, e2, e3, _, _, _⟩ := h.slice_inv Tryz.underlying47
 cases e1
 injection e2 with e2
 subst e2
 simpa using e3
theorem rows_of {w : World} {v : List Value} {xs : List C} (h : Rp Tryz.prog w 47 v (.s xs)) : ∃ l : List (List X), xs = l.map rowC := by
 obtain ⟨_, _, _, ys, e1, e2, _, _, _, hx⟩ := h.slice_inv Tryz.underlying47
 injection e2 with e2
 subst e2
 exact all_of fun i hi => by
  obtain ⟨_, us, _, _, hu⟩ := hx i hi
  have hu2 := hu
  obtain ⟨_, _, _, zs, _, e4, _⟩ := hu.slice_inv Tryz.underlying25
  rw [e4] at hu2 |-
  obtain ⟨r, rfl⟩ := exprs_of hu2
  exact ⟨r, rfl⟩
/-- values that read the same wherever the blocks from lo on, below hi, are as here -/
def VF (lo hi : Nat) (w : World) (M : List V) (a : Option Addr) : Prop := ∀ w' : World, (∀ b, lo <= b -> b < hi -> w'.heap[b]? = w.heap[b]?) -> VI w' M a
theorem VF.now {lo hi : Nat} {w : World} {M : List V} {a : Option Addr} (h : VF lo hi w M a) : VI w M a := h w fun _ _ _ => rfl
theorem VF.same {lo hi lo' hi' : Nat} {w w' : World} {M : List V} {a : Option Addr} (h : VF lo hi w M a) (hb : ∀ b, lo <= b -> b < hi -> w'.heap[b]? = w.heap[b]?) (h1 : lo' <= lo) (h2 : hi <= hi') : VF lo' hi' w' M a := fun w2 h3 => h w2 fun b h4 h5 => (h3 b (by omega) (by omega)).trans (hb b h4 h5)
theorem VF.below {lo hi n : Nat} {w w' : World} {M : List V} {a : Option Addr} (h : VF lo hi w M a) (hb : Below n w w') (hn : hi <= n) : VF lo hi w' M a := h.same (fun b _ h2 => hb.block b (by omega)) (Nat.le_refl _) (Nat.le_refl _)
theorem OwnV.on {B : Nat} {v : Value} {M : List V} {w w' : World} (h : OwnV B v M w) (hb : ∀ b, B <= b -> b < w.heap.size -> w'.heap[b]? = w.heap[b]?) : OwnV B v M w' := by
 have h3 : w.ownsRow B 29 3 v M.length (M.flatMap vC) := h
 refine ⟨h3.1, ?_⟩
 rcases h3.2 with h0 | ⟨g, cap, cur, e, hg, hc, r⟩
 ·exact .inl h0
 ·exact .inr ⟨g, cap, cur, e, hg, (hb g hg (Blk.lt (by unfold Blk; simpa using hc) : g < w.heap.size)).trans hc, r⟩
theorem OwnV.nil (B : Nat) (w : World) : OwnV B (.slice none 0 0) [] w := World.ownsRow_nil _ _ _ _
theorem OwnV.vf {B : Nat} {v : Value} {M : List V} {w : World} (h : OwnV B v M w) : ∃ a c, v = .slice a M.length c /\ M.length <= c /\ VF B w.heap.size w M a := by
 obtain ⟨a, c, e, hc, _⟩ := h.vi
 refine ⟨a, c, e, hc, fun w' hw => ?_⟩
 obtain ⟨a', c', e', _, hv⟩ := (h.on hw).vi
 rw [e] at e'
 injection e' with e1 _ _
 subst e1
 exact hv
/-- rows of values in memory -/
def VVI (w : World) (Ms : List (List V)) (a : Option Addr) : Prop := ∀ j r, Ms[j]? = some r -> ∃ g o, a = some ⟨g, o, none⟩ /\ g < w.heap.size /\ ∃ b c, w.cell? ⟨g, o + j, none⟩ = some (.slice b r.length c) /\ VI w r b
theorem VVI.below {w w' : World} {Ms : List (List V)} {a : Option Addr} (h : VVI w Ms a) (hb : Below w.heap.size w w') : VVI w' Ms a := fun j r hj => by
 obtain ⟨g, o, e, hg, b, c, h1, h2⟩ := h j r hj
 exact ⟨g, o, e, Nat.lt_of_lt_of_le hg hb.size, b, c, (hb.cell hg).trans h1, h2.below hb⟩
theorem VVI.nil (w : World) (a : Option Addr) : VVI w [] a := fun j r hj => by simp at hj
theorem VVI.at_ {w : World} {Ms : List (List V)} {a : Option Addr} {k : Nat} (h : VVI w Ms a) (hk : k < Ms.length) : ∃ g o, a = some ⟨g, o, none⟩ /\ g < w.heap.size /\ ∃ b c, w.cell? ⟨g, o + k, none⟩ = some (.slice b (Ms[k]'hk).length c) /\ VI w (Ms[k]'hk) b := h k _ (List.getElem?_eq_getElem hk)
/-- rows under construction: the list is the walk's own; each row reads the same wherever the blocks from B on, but for the list's, are as here -/
structure OwnR (B : Nat) (v : Value) (Ms : List (List V)) (w : World) : Prop where
 row : ∃ us : List Value, us.length = Ms.length /\ w.ownsRow B 118 1 v Ms.length us /\
  ∀ k (h1 : k < Ms.length) (h2 : k < us.length), ∃ b c, us[k] = .slice b Ms[k].length c /\ ∀ w' : World, (∀ b, B <= b -> b < w.heap.size -> v.ownBlock ≠ some b -> w'.heap[b]? = w.heap[b]?) -> VI w' Ms[k] b
theorem infoRow : (Tryz.prog.info? 118).map (fun i => (i.zero, i.size, i.bytes)) = some (some (.slice none 0 0), 1, 24) := by kernel_rfl
theorem OwnR.nil (B : Nat) (w : World) : OwnR B (.slice none 0 0) [] w := ⟨[], rfl, World.ownsRow_nil _ _ _ _, (fun k h => absurd h (by simp))⟩
theorem OwnR.made {B g : Nat} {w : World} (h : Blk w g [] 118) (hg : B <= g) : OwnR B (.slice (some ⟨g, 0, none⟩) 0 0) [] w :=
 ⟨[], rfl, ⟨rfl, .inr ⟨g, 0, #[], rfl, hg, h, Nat.le_refl _, Nat.zero_le _, rfl, rfl⟩⟩, (fun k h => absurd h (by simp))⟩
theorem OwnR.below {B : Nat} {v : Value} {Ms : List (List V)} {w w' : World} (h : OwnR B v Ms w) (hb : Below w.heap.size w w') : OwnR B v Ms w' := by
 obtain ⟨us, h1, h3, h4⟩ := h.row
 refine ⟨us, h1, kept_below h3 hb, fun k k1 k2 => ?_⟩
 obtain ⟨b, c, e, h5⟩ := h4 k k1 k2
 exact ⟨b, c, e, fun w2 hw2 => h5 w2 fun b b1 b2 b3 => (hw2 b b1 (Nat.lt_of_lt_of_le b2 hb.size) b3).trans (hb.block b b2)⟩
theorem OwnR.lt {B : Nat} {v : Value} {Ms : List (List V)} {w : World} (h : OwnR B v Ms w) : ∀ g, v.ownBlock = some g -> B <= g /\ g < w.heap.size := by
 obtain ⟨us, _, h3, _⟩ := h.row
 exact h3.lt
theorem OwnR.snoc {B lo hi : Nat} {v v' : Value} {Ms : List (List V)} {M : List V} {b : Option Addr} {c : Nat} {w w' : World} {us : List Value} (hl : us.length = Ms.length)
  (he : ∀ k (h1 : k < Ms.length) (h2 : k < us.length), ∃ b c, us[k] = .slice b Ms[k].length c /\ ∀ w' : World, (∀ b, B <= b -> b < w.heap.size -> v.ownBlock ≠ some b -> w'.heap[b]? = w.heap[b]?) -> VI w' Ms[k] b)
  (hx : VF lo hi w M b) (hlo : B <= lo) (hhi : hi <= w.heap.size) (hv : ∀ g, v.ownBlock = some g -> g < lo \/ hi <= g)
  (hr : w'.ownsRow B 118 1 v' (Ms.length + 1) (us ++ [.slice b M.length c])) (hg : w.grownBy w' v.ownBlock) (ha : v'.ownBlock = v.ownBlock \/ v'.ownBlock = some w.heap.size) : OwnR B v' (Ms ++ [M]) w' := by
 have keep : ∀ b, b < w.heap.size -> v.ownBlock ≠ some b -> w'.heap[b]? = w.heap[b]? := fun b h1 h2 => hg.block b h1 (fun e => h2 e.symm)
 have size : w.heap.size <= w'.heap.size := hg.size
 refine ⟨us ++ [.slice b M.length c], by simp [hl], ?_, fun k k1 k2 => ?_⟩
 ·rw [List.length_append]
  simpa using hr
 ·have hw3 : ∀ w2 : World, (∀ b, B <= b -> b < w'.heap.size -> v'.ownBlock ≠ some b -> w2.heap[b]? = w'.heap[b]?) -> ∀ b, B <= b -> b < w.heap.size -> v.ownBlock ≠ some b -> w2.heap[b]? = w.heap[b]? := fun w2 hw2 b b1 b2 b3 => (hw2 b b1 (by omega) (by
   rcases ha with h | h
   ·rw [h]; exact b3
   ·rw [h]; intro e; injection e with e; omega)).trans (keep b b2 b3)
  by_cases hk : k < Ms.length
  ·rw [List.getElem_append_left (by omega)]
   obtain ⟨b', c', e, h5⟩ := he k hk (by omega)
   refine ⟨b', c', ?_, fun w2 hw2 => ?_⟩
   ·rw [e, List.getElem_append_left hk]
   ·rw [List.getElem_append_left hk]
    exact h5 w2 (hw3 w2 hw2)
  ·have hk2 : k = Ms.length := by simp at k1; omega
   subst hk2
   refine ⟨b, c, ?_, fun w2 hw2 => ?_⟩
   ·rw [List.getElem_append_right (by omega)]
    simp [hl]
   ·rw [List.getElem_append_right (Nat.le_refl _)]
    simp only [Nat.sub_self, List.getElem_singleton]
    exact hx w2 fun b b1 b2 => hw3 w2 hw2 b (by omega) (by omega) (fun e => by have := hv b e; omega)
theorem OwnR.done {B : Nat} {v : Value} {Ms : List (List V)} {w : World} (h : OwnR B v Ms w) : ∃ a c, v = .slice a Ms.length c /\ ∀ w' : World, (∀ b, B <= b -> b < w.heap.size -> w'.heap[b]? = w.heap[b]?) -> VVI w' Ms a := by
 obtain ⟨us, h1, h3, h4⟩ := h.row
 have h3' := h3
 rcases h3.2 with ⟨rfl, h0⟩ | ⟨g, cap, cur, rfl, hg, hc, hcap, hm, hs, ht⟩
 ·have h0' : Ms.length = 0 := h0
  refine ⟨none, 0, by rw [h0'], fun w' _ j r hj => ?_⟩
  rw [List.eq_nil_of_length_eq_zero h0'] at hj; cases hj
 ·refine ⟨_, cap, rfl, fun w' hw j r hj => ?_⟩
  obtain ⟨hj1, hj2⟩ := List.getElem?_eq_some_iff.1 hj
  subst hj2
  have hlt : g < w.heap.size := Blk.lt (by unfold Blk; simpa using hc)
  have hc' : w'.heap[g]? = some (.cells cur 118 (0, 0)) := (hw g hg hlt).trans hc
  obtain ⟨b, c, e, h5⟩ := h4 j hj1 (by omega)
  refine ⟨g, 0, rfl, (Array.getElem?_eq_some_iff.1 hc').1, b, c, ?_, h5 w' fun b b1 b2 _ => hw b b1 b2⟩
  rw [cell_of_row w' g (0 + j) cur 118 (0, 0) hc', Nat.zero_add]
  have hu : us[j]? = some (.slice b Ms[j].length c) := by rw [List.getElem?_eq_getElem (by omega), e]
  have : (cur.toList.take (Ms.length * 1))[j]? = some (.slice b Ms[j].length c) := by rw [ht]; exact hu
  rw [List.getElem?_take] at this
  split at this
  ·simpa using this
  ·cases this
/-- what a call that makes a row of values, or fails, returns -/
def RowPost (w : World) (R : List V ⊕ Int) (e : Ending) (w' : World) : Prop :=
 (match R with
  | .inl M => ∃ a c, e = .returned (.tuple #[.slice a M.length c, .int .i64 0]) /\ VF w.heap.size w'.heap.size w' M a
  | .inr q => ∃ a n c, e = .returned (.tuple #[.slice a n c, .int .i64 q])) /\ Below w.heap.size w w'
def RowsPost (w : World) (R : List (List V) ⊕ Int) (e : Ending) (w' : World) : Prop :=
 (match R with
  | .inl Ms => ∃ a c, e = .returned (.tuple #[.slice a Ms.length c, .int .i64 0]) /\ ∀ wz : World, (∀ b, w.heap.size <= b -> b < w'.heap.size -> wz.heap[b]? = w'.heap[b]?) -> VVI wz Ms a
  | .inr q => e = .returned (.tuple #[.slice none 0 0, .int .i64 q])) /\ Below w.heap.size w w'
theorem bind0_facts {x : X} (hn : nodes x <= 1000000) (hs : shortX x) (ho : rOk x = true) : (∀ y kk, bindR [] (resR none [] x) = .inl (y, kk) -> nodes y <= 1000000 /\ shortX y /\ plX y = true) /\ ∀ q, bindR [] (resR none [] x) = .inr q -> q ≠ 0 := by
 obtain ⟨h1, h2⟩ := resR_facts (tn := none) (cols := []) hn hs
 refine ⟨fun y kk h => ?_, bindR_ne h2⟩
 cases e : resR none [] x with
 | no q => rw [e] at h; cases h
 | ok z =>
  rw [e] at h
  unfold bindR at h
  simp only at h
  split at h
  ·injection h with h
   injection h with h _
   subst h
   exact ⟨(h1 _ e).1, (h1 _ e).2, plX_of ho e⟩
  ·cases h
theorem rowR_len {L : List Col} {r : List X} (h : r.length ≠ L.length) : rowR L r = .inr 13 := by unfold rowR; rw [if_pos h]
theorem rowR_bad {L : List Col} {r : List X} {q : Int} (h : r.length = L.length) (h1 : seqV evR r = .inr q) : rowR L r = .inr q := by unfold rowR; rw [if_neg (fun e => e h), h1]
theorem rowR_acc {L : List Col} {r : List X} {M : List V} (h : r.length = L.length) (h1 : seqV evR r = .inl M) : rowR L r = if accR L M = 0 then .inl M else .inr (accR L M) := by unfold rowR; rw [if_neg (fun e => e h), h1]
theorem rowE_ne : ∀ {r : List X} {q : Int}, (∀ x ∈ r, nodes x <= 1000000 /\ shortX x /\ rOk x = true) -> seqV evR r = .inr q -> q ≠ 0
 | [], q, _, e => by rw [seqV] at e; cases e
 | x :: r, q, hr, e => by
  rw [seqV] at e
  cases hx : evR x with
  | inr e' =>
   rw [hx] at e
   injection e with e
   subst e
   obtain ⟨h1, h2, h3⟩ := hr x (List.mem_cons_self ..)
   have h4 := (bind0_facts h1 h2 h3).2
   unfold evR at hx
   cases hb : bindR [] (resR none [] x) with
   | inl y => rw [hb] at hx; cases hx
   | inr e'' => rw [hb] at hx; injection hx with hx; subst hx; exact h4 _ hb
  | inl y =>
   rw [hx] at e
   simp only at e
   cases hk : seqV evR r with
   | inl m => rw [hk] at e; cases e
   | inr e' => rw [hk] at e; injection e with e; subst e; exact rowE_ne (fun z hz => hr z (List.mem_cons_of_mem _ hz)) hk
theorem rowR_ne {L : List Col} {r : List X} {q : Int} (hr : ∀ x ∈ r, nodes x <= 1000000 /\ shortX x /\ rOk x = true) (h : rowR L r = .inr q) : q ≠ 0 := by
 unfold rowR at h
 split at h
 ·injection h with h; omega
 ·cases e : seqV evR r with
  | inl M =>
   rw [e] at h
   simp only at h
   split at h
   ·cases h
   ·injection h with h; omega
  | inr q' =>
   rw [e] at h
   injection h with h
   subst h
   exact rowE_ne hr e
theorem okV_short {v : V} (h : okV v = true) : v.t.length <= 140737488351232 := by
 unfold okV validV at h
 by_cases h1 : v.t.length <= 140737488351232
 ·exact h1
 ·exfalso
  have hne : v.t ≠ [] := by intro e; rw [e] at h1; simp at h1
  have h2 : v.t.isEmpty = false := by cases e : v.t with | nil => exact absurd e hne | cons => rfl
  simp [h2] at h
  omega
theorem paccepts_call (L : List Col) (tn : S) (a : Option Addr) (m : Nat) (v2 v3 v4 : Value) (M : List V) (av : Option Addr) (mv : Nat) (w : World) (hL : L.length <= 1000000) (hM : M.length <= 1000000) (hok : ∀ v ∈ M, okV v = true) (hl : CL w L (.slice a L.length m)) (hv : VI w M av) : Calls Tryz.prog 42 #[.agg #[.string ⟨tn.toArray⟩, .slice a L.length m, v2, v3, v4], .slice av M.length mv] w (Ret w (.int .i64 (accR L M))) := by
 have HL := h_ hl
 have HV := h_ hv
 have HOK : Hid (∀ k (h : k < M.length), okV M[k] = true) := h_ fun k h => hok _ (List.getElem_mem h)
 have HR : Hid (accR L M = if M.length ≠ L.length then 13 else accF L M) := h_ rfl
 have HVA := h_ (fun (v : V) (w' : World) (h : okV v = true) => (by have := valid_call v.k v.i v.t w' (okV_short h); rwa [show validV v.k v.i v.t = true from h] at this : Calls Tryz.prog 83 #[.agg #[.int .i64 v.k, .int .i64 v.i, .string ⟨v.t.toArray⟩]] w' (Ret w' (.bool true))))
 generalize accR L M = q at HR |-
 clear hl hv hok
 go_enter Tryz.func42, Tryz.ntmps42
 go_upto_region 1 with (fail)
 refine nA fun w1 hA hw1 hz1 => ?_
 have HA := h_ hA
 have HW := h_ hw1
 have p1 := hA.cell 1 rfl
 clear hA hw1 hz1
 by_cases he : M.length = L.length
 ·have HQ : Hid (q = accF L M) := h_ (by rw [HR.out, if_neg (fun h => h he)])
  have d0 : ((M.length : Int) != (L.length : Int)) = false := by simp [he]
  have HE := h_ he
  clear he HR
  go_upto_region 4 with (fail)
  clear p1 d0
  go_loopw [5, 6, 7, 16] (fun _ _ _ i wr => (∃ k : Nat, k <= M.length /\ i = .int .i64 (k : Int) /\ Hid (accF L M = accF (L.drop k) (M.drop k))) /\ Below w1.heap.size w1 wr) (fun _ _ _ i _ => M.length - (intOf i).toNat)
  case atStart => exact ⟨⟨0, Nat.zero_le _, rfl, h_ rfl⟩, Below.refl _ _⟩
  case round =>
   obtain ⟨⟨k, hk, rfl, HK⟩, hb⟩ := hrel
   have HAr := h_ (HA.out.below hb)
   have HWr := t_ HW hb
   have HB := h_ hb
   have HVr := h_ (HV.out.below (HWr.out))
   clear hb
   have p1 := HAr.out.cell 1 rfl
   by_cases hlt : k < M.length
   ·have hlL : k < L.length := by rw [<- HE.out]; exact hlt
    obtain ⟨g, o, eg, hgl, r0, r1, r2⟩ := HVr.out.at_ hlt
    subst eg
    obtain ⟨g2, o2, eg2, hlx, hec⟩ := HL.out.at_ (k := k) hlL
    subst eg2
    have c2 : (k : Int) < (M.length : Int) := by omega
    have c4 : (k : Int) < (L.length : Int) := by omega
    have c3 : (0 : Int) <= (k : Int) := by omega
    have d1 : decide ((k : Int) < (M.length : Int)) = true := decide_eq_true c2
    have e0 := hec.at0 HWr.out rfl
    have e1 := hec.at_ HWr.out (j := 1) rfl
    have e2 := hec.at_ HWr.out (j := 2) rfl
    have HNU := h_ (fun h3 h4 => accF_null hlL hlt HK.out h3 h4)
    have HKD := h_ (fun h3 h4 => accF_kind hlL hlt HK.out h3 h4)
    have HST := h_ (fun h3 h4 => accF_step hlL hlt HK.out h3 h4)
    have HOV := h_ (HOK.out k hlt)
    clear hec HVr
    generalize M[k] = u at r0 r1 r2 HNU HKD HST HOV
    generalize L[k].nm = cn at e0
    generalize L[k].kind = kd at e1 HKD HST
    generalize L[k].nul = nl at e2 HNU HST
    have HVC := h_ fun w' => (HVA.out u w' HOV.out)
    obtain ⟨uk, ui, ut⟩ := u
    simp only at r0 r1 r2 HNU HKD HST HVC
    have l0 : w.heap.size < wr.heap.size := HAr.out.lt
    have l2 : g2 < wr.heap.size := lt_of_cell e0
    go_upto_region 7 with (fail)
    refine nB fun w3 hA3 hB3 hw3 hz3 => ?_
    have HA3 := h_ hA3
    have HB3 := h_ hB3
    have HW3 := t_ HWr hw3
    have HBB3 := t_ HB hw3
    obtain ⟨q0, q1, q2⟩ := hA3.c3
    clear hA3 hB3 hw3 hz3 p1 r0 r1 r2 e0 e1 e2 l0 l2 hgl
    go_wp2_with fail
    refine (HVC.out w3).mono ?_
    rintro e w5 ⟨rfl, hw5⟩
    have HA5 := h_ (HA3.out.below hw5)
    have HC5 := h_ (HB3.out.below hw5)
    have HW5 := t_ HW3 hw5
    have HB5 := t_ HBB3 hw5
    clear hw5 q0 q1 q2 HA3 HB3 HVC
    have q0 := HA5.out.cell 0 rfl
    have s1 := HC5.out.cell 1 rfl
    have s2 := HC5.out.cell 2 rfl
    by_cases hk0 : uk = 0
    ·subst hk0
     have n0 : ((0 : Int) == 0) = true := rfl
     have n1 : ((0 : Int) != 0) = false := rfl
     cases nl with
     | false =>
      have HF : Hid (q = 12) := h_ (by rw [HQ.out]; exact HNU.out rfl rfl)
      go_wp2_with fail
      go_ret
      exact ⟨by rw [HF.out]; rfl, HW5.out⟩
     | true =>
      have HN := h_ (HST.out (fun h => absurd h.2 (by decide)) (fun h => h.1 rfl))
      go_wp2_with fail
      go_roundw
      case rel => exact ⟨⟨k + 1, by omega, by go_num, HN⟩, HB5.out⟩
      case measure => simp [intOf]; omega
    ·have n0 : (uk == 0) = false := by simpa using hk0
     have n1 : (uk != 0) = true := by simpa using hk0
     by_cases hkd : uk = kd
     ·have n2 : (uk != kd) = false := by simpa using hkd
      have HN := h_ (HST.out (fun h => hk0 h.1) (fun h => h.2 hkd))
      clear hk0 hkd
      go_wp2_with fail
      go_roundw
      case rel => exact ⟨⟨k + 1, by omega, by go_num, HN⟩, HB5.out⟩
      case measure => simp [intOf]; omega
     ·have n2 : (uk != kd) = true := by simpa using hkd
      have HF : Hid (q = 7) := h_ (by rw [HQ.out]; exact HKD.out hk0 hkd)
      clear hk0 hkd
      go_wp2_with fail
      go_ret
      exact ⟨by rw [HF.out]; rfl, HW5.out⟩
   ·obtain rfl : k = M.length := by omega
    have d1 : decide ((M.length : Int) < (M.length : Int)) = false := decide_eq_false (by omega)
    have HF : Hid (q = 0) := h_ (by rw [HQ.out]; exact accF_end (Nat.le_refl _) HK.out)
    clear HVr
    go_wp2_with fail
    go_ret
    exact ⟨by rw [HF.out]; rfl, HWr.out⟩
 ·have HQ : Hid (q = 13) := h_ (by rw [HR.out, if_pos he])
  have d0 : ((M.length : Int) != (L.length : Int)) = true := by simp; omega
  clear he HR
  go_wp2_with fail
  go_ret
  exact ⟨by rw [HQ.out]; rfl, HW.out⟩
theorem raccepts_call (L : List Col) (tn : S) (a : Option Addr) (m : Nat) (v2 v3 v4 : Value) (M : List V) (av : Option Addr) (mv : Nat) (w : World) (hL : L.length <= 1000000) (hM : M.length <= 1000000) (hok : ∀ v ∈ M, okV v = true) (hl : CL w L (.slice a L.length m)) (hv : VI w M av) : Calls Tryz.prog 85 #[.agg #[.string ⟨tn.toArray⟩, .slice a L.length m, v2, v3, v4], .slice av M.length mv] w (Ret w (.int .i64 (accR L M))) := by
 have HL := h_ hl
 have HV := h_ hv
 have HOK : Hid (∀ k (h : k < M.length), okV M[k] = true) := h_ fun k h => hok _ (List.getElem_mem h)
 have HR : Hid (accR L M = if M.length ≠ L.length then 13 else accF L M) := h_ rfl
 have HVA := h_ (fun (v : V) (w' : World) (h : okV v = true) => (by have := rvalid_call v.k v.i v.t w' (okV_short h); rwa [show validV v.k v.i v.t = true from h] at this : Calls Tryz.prog 153 #[.agg #[.int .i64 v.k, .int .i64 v.i, .string ⟨v.t.toArray⟩]] w' (Ret w' (.bool true))))
 generalize accR L M = q at HR |-
 clear hl hv hok
 go_enter Tryz.func85, Tryz.ntmps85
 go_upto_region 1 with (fail)
 refine nA fun w1 hA hw1 hz1 => ?_
 have HA := h_ hA
 have HW := h_ hw1
 have p1 := hA.cell 1 rfl
 clear hA hw1 hz1
 by_cases he : M.length = L.length
 ·have HQ : Hid (q = accF L M) := h_ (by rw [HR.out, if_neg (fun h => h he)])
  have d0 : ((M.length : Int) != (L.length : Int)) = false := by simp [he]
  have HE := h_ he
  clear he HR
  go_upto_region 4 with (fail)
  clear p1 d0
  go_loopw [5] (fun i wr => (∃ k : Nat, k <= M.length /\ i = .int .i64 (k : Int) /\ Hid (accF L M = accF (L.drop k) (M.drop k))) /\ Below w1.heap.size w1 wr) (fun i _ => M.length - (intOf i).toNat)
  case atStart => exact ⟨⟨0, Nat.zero_le _, rfl, h_ rfl⟩, Below.refl _ _⟩
  case round =>
   obtain ⟨⟨k, hk, rfl, HK⟩, hb⟩ := hrel
   have HAr := h_ (HA.out.below hb)
   have HWr := t_ HW hb
   have HB := h_ hb
   have HVr := h_ (HV.out.below (HWr.out))
   clear hb
   have p1 := HAr.out.cell 1 rfl
   by_cases hlt : k < M.length
   ·have hlL : k < L.length := by rw [<- HE.out]; exact hlt
    obtain ⟨g, o, eg, hgl, r0, r1, r2⟩ := HVr.out.at_ hlt
    subst eg
    obtain ⟨g2, o2, eg2, hlx, hec⟩ := HL.out.at_ (k := k) hlL
    subst eg2
    have c2 : (k : Int) < (M.length : Int) := by omega
    have c4 : (k : Int) < (L.length : Int) := by omega
    have c3 : (0 : Int) <= (k : Int) := by omega
    have d1 : decide ((k : Int) < (M.length : Int)) = true := decide_eq_true c2
    have e0 := hec.at0 HWr.out rfl
    have e1 := hec.at_ HWr.out (j := 1) rfl
    have e2 := hec.at_ HWr.out (j := 2) rfl
    have HNU := h_ (fun h3 h4 => accF_null hlL hlt HK.out h3 h4)
    have HKD := h_ (fun h3 h4 => accF_kind hlL hlt HK.out h3 h4)
    have HST := h_ (fun h3 h4 => accF_step hlL hlt HK.out h3 h4)
    have HOV := h_ (HOK.out k hlt)
    clear hec HVr
    generalize M[k] = u at r0 r1 r2 HNU HKD HST HOV
    generalize L[k].nm = cn at e0
    generalize L[k].kind = kd at e1 HKD HST
    generalize L[k].nul = nl at e2 HNU HST
    have HVC := h_ fun w' => (HVA.out u w' HOV.out)
    obtain ⟨uk, ui, ut⟩ := u
    simp only at r0 r1 r2 HNU HKD HST HVC
    have HEC : Hid (EC wr g2 (o2 + k * 3) [.string ⟨cn.toArray⟩, .int .i64 kd, .bool nl]) := h_ ⟨lt_of_cell e0, fun j u hj => by
     match j, hj with
     | 0, hj => injection hj with hj; subst hj; exact e0
     | 1, hj => injection hj with hj; subst hj; exact e1
     | 2, hj => injection hj with hj; subst hj; exact e2⟩
    have HEV : Hid (EC wr g (o + k * 3) [.int .i64 uk, .int .i64 ui, .string ⟨ut.toArray⟩]) := h_ ⟨hgl, fun j u hj => by
     match j, hj with
     | 0, hj => injection hj with hj; subst hj; exact r0
     | 1, hj => injection hj with hj; subst hj; exact r1
     | 2, hj => injection hj with hj; subst hj; exact r2⟩
    go_upto_region 6 with (fail)
    go_wp2_with fail
    refine (HVC.out wr).mono ?_
    rintro e w5 ⟨rfl, hw5⟩
    clear r0 r1 r2 e0 e1 e2 p1
    have HA5 := h_ (HAr.out.below hw5)
    have HW5 := t_ HWr hw5
    have HB5 := t_ HB hw5
    have p1 := HA5.out.cell 1 rfl
    have r0 := HEV.out.at0 hw5 rfl
    have e1 := HEC.out.at_ hw5 (j := 1) rfl
    have e2 := HEC.out.at_ hw5 (j := 2) rfl
    clear hw5 HVC HEC HEV
    by_cases hk0 : uk = 0
    ·subst hk0
     have n0 : ((0 : Int) == 0) = true := rfl
     have n1 : ((0 : Int) != 0) = false := rfl
     cases nl with
     | false =>
      have HF : Hid (q = 12) := h_ (by rw [HQ.out]; exact HNU.out rfl rfl)
      go_wp2_with fail
      go_ret
      exact ⟨by rw [HF.out]; rfl, HW5.out⟩
     | true =>
      have HN := h_ (HST.out (fun h => absurd h.2 (by decide)) (fun h => h.1 rfl))
      go_wp2_with fail
      go_roundw
      case rel => exact ⟨⟨k + 1, by omega, by go_num, HN⟩, HB5.out⟩
      case measure => simp [intOf]; omega
    ·have n0 : (uk == 0) = false := by simpa using hk0
     have n1 : (uk != 0) = true := by simpa using hk0
     by_cases hkd : uk = kd
     ·have n2 : (uk != kd) = false := by simpa using hkd
      have HN := h_ (HST.out (fun h => hk0 h.1) (fun h => h.2 hkd))
      clear hk0 hkd
      go_upto_region 11 with (fail)
      go_quiet (fail)
      go_wp2_with fail
      go_roundw
      case rel => exact ⟨⟨k + 1, by omega, by go_num, HN⟩, HB5.out.trans ((belowD w5 _).mono HB5.out.size)⟩
      case measure => simp [intOf]; omega
     ·have n2 : (uk != kd) = true := by simpa using hkd
      have HF : Hid (q = 7) := h_ (by rw [HQ.out]; exact HKD.out hk0 hkd)
      clear hk0 hkd
      go_upto_region 11 with (fail)
      go_quiet (fail)
      go_wp2_with fail
      go_ret
      exact ⟨by rw [HF.out]; rfl, HW5.out.trans ((belowD w5 _).mono HW5.out.size)⟩
   ·obtain rfl : k = M.length := by omega
    have d1 : decide ((M.length : Int) < (M.length : Int)) = false := decide_eq_false (by omega)
    have HF : Hid (q = 0) := h_ (by rw [HQ.out]; exact accF_end (Nat.le_refl _) HK.out)
    clear HVr
    go_wp2_with fail
    go_ret
    exact ⟨by rw [HF.out]; rfl, HWr.out⟩
 ·have HQ : Hid (q = 13) := h_ (by rw [HR.out, if_pos he])
  have d0 : ((M.length : Int) != (L.length : Int)) = true := by simp; omega
  clear he HR
  go_wp2_with fail
  go_ret
  exact ⟨by rw [HQ.out]; rfl, HW.out⟩
theorem cmpV_self (v : V) : cmpV v v = 0 := by unfold cmpV cmpI; simp [cmpS_self]
theorem rcompare_self (M : List V) (a b : Option Addr) (m c : Nat) (w : World) (hM : M.length <= 1099511627776) (h1 : VI w M a) (h2 : VI w M b) : Calls Tryz.prog 86 #[.slice a M.length m, .slice b M.length c] w (Ret w (.int .i64 0)) := by
 have HA := h_ h1
 have HB := h_ h2
 clear h1 h2
 go_enter Tryz.func86, Tryz.ntmps86
 go_upto_region 2 with (fail)
 go_loopw [5, 6] (fun i _ wr => (∃ k : Nat, k <= M.length /\ i = .int .i64 (k : Int)) /\ Below w.heap.size w wr) (fun i _ _ => M.length - (intOf i).toNat)
 case atStart => exact ⟨⟨0, Nat.zero_le _, rfl⟩, Below.refl _ _⟩
 case round =>
  obtain ⟨⟨k, hk, rfl⟩, hb⟩ := hrel
  have HWr := h_ hb
  have HAr := h_ (HA.out.below hb)
  have HBr := h_ (HB.out.below hb)
  clear hb
  by_cases hlt : k < M.length
  ·obtain ⟨g, o, eg, hgl, r0, r1, r2⟩ := HAr.out.at_ hlt
   obtain ⟨g', o', eg', hgl', s0, s1, s2⟩ := HBr.out.at_ hlt
   subst eg eg'
   have c2 : (k : Int) < (M.length : Int) := by omega
   have c3 : (0 : Int) <= (k : Int) := by omega
   have d1 : decide ((k : Int) < (M.length : Int)) = true := decide_eq_true c2
   clear HAr HBr
   generalize M[k] = u at r0 r1 r2 s0 s1 s2
   have HC : Hid (∀ w', Calls Tryz.prog 154 #[vV u, vV u] w' (Ret w' (.int .i64 0))) := h_ fun w' => by have := rcmp_call u u w'; rwa [cmpV_self] at this
   unfold vV at HC
   obtain ⟨uk, ui, ut⟩ := u
   simp only at r0 r1 r2 s0 s1 s2 HC
   go_upto_region 4 with (fail)
   go_still_tail 8, (by kernel_rfl)
   change wpList _ _ _ _ _ (wr.drewN 1)
   have HB3 := h_ (belowD wr 1)
   clear r0 r1 r2 s0 s1 s2
   generalize wr.drewN 1 = w3 at HB3 |-
   go_wp2_with fail
   refine (HC.out w3).mono ?_
   rintro e w4 ⟨rfl, hw4⟩
   have hb4 : Below wr.heap.size wr w4 := HB3.out.trans (hw4.mono HB3.out.size)
   all_goals
    have HW4 := t_ HWr hb4
    clear hw4 hb4 HB3 HC
    go_wp2_with fail
    go_roundw
    case rel => exact ⟨⟨k + 1, by omega, by go_num⟩, HW4.out⟩
    case measure => simp [intOf]; omega
  ·obtain rfl : k = M.length := by omega
   have d1 : decide ((M.length : Int) < (M.length : Int)) = false := decide_eq_false (by omega)
   go_wp2_with fail
   go_ret
   exact ⟨rfl, HWr.out⟩
theorem requalrow_self (M : List V) (a b : Option Addr) (m c : Nat) (w : World) (hM : M.length <= 1099511627776) (h1 : VI w M a) (h2 : VI w M b) : Calls Tryz.prog 44 #[.slice a M.length m, .slice b M.length c] w (Ret w (.bool true)) := by
 have HC := h_ (rcompare_self M a b m c w hM h1 h2)
 clear h1 h2
 go_enter Tryz.func44, Tryz.ntmps44
 go_wp2_with fail
 refine HC.out.mono ?_
 rintro e w4 ⟨rfl, hw4⟩
 have HW4 := h_ hw4
 clear hw4 HC
 go_wp2_with fail
 go_ret
 exact ⟨rfl, HW4.out⟩
theorem rlist_self (Ms : List (List V)) (a b : Option Addr) (m c : Nat) (w : World) (hM : Ms.length <= 1099511627776) (hr : ∀ M ∈ Ms, M.length <= 1099511627776) (h1 : VVI w Ms a) (h2 : VVI w Ms b) : Calls Tryz.prog 18 #[.slice a Ms.length m, .slice b Ms.length c] w (Ret w (.bool true)) := by
 have HA := h_ h1
 have HB := h_ h2
 have HRL : Hid (∀ k (h : k < Ms.length), Ms[k].length <= 1099511627776) := h_ fun k h => hr _ (List.getElem_mem h)
 clear h1 h2 hr
 go_enter Tryz.func18, Tryz.ntmps18
 go_upto_region 4 with (fail)
 go_loopw [5] (fun i wr => (∃ k : Nat, k <= Ms.length /\ i = .int .i64 (k : Int)) /\ Below w.heap.size w wr) (fun i _ => Ms.length - (intOf i).toNat)
 case atStart => exact ⟨⟨0, Nat.zero_le _, rfl⟩, Below.refl _ _⟩
 case round =>
  obtain ⟨⟨k, hk, rfl⟩, hb⟩ := hrel
  have HWr := h_ hb
  have HAr := h_ (HA.out.below hb)
  have HBr := h_ (HB.out.below hb)
  clear hb
  by_cases hlt : k < Ms.length
  ·obtain ⟨g, o, eg, hgl, rb, rc, r0, r1⟩ := HAr.out.at_ hlt
   obtain ⟨g', o', eg', hgl', sb, sc, s0, s1⟩ := HBr.out.at_ hlt
   subst eg eg'
   have c2 : (k : Int) < (Ms.length : Int) := by omega
   have c3 : (0 : Int) <= (k : Int) := by omega
   have d1 : decide ((k : Int) < (Ms.length : Int)) = true := decide_eq_true c2
   have HC := h_ fun (w' : World) (hw' : Below wr.heap.size wr w') => requalrow_self Ms[k] rb sb rc sc w' (HRL.out k hlt) (r1.below hw') (s1.below hw')
   clear HAr HBr r1 s1
   generalize Ms[k].length = ml at r0 s0 HC
   go_upto_region 6 with (fail)
   go_still_tail 8, (by kernel_rfl)
   change wpList _ _ _ _ _ (wr.drewN 1)
   have HB3 := h_ (belowD wr 1)
   clear r0 s0
   generalize wr.drewN 1 = w3 at HB3 |-
   go_wp2_with fail
   refine (HC.out w3 HB3.out).mono ?_
   rintro e w4 ⟨rfl, hw4⟩
   have hb4 : Below wr.heap.size wr w4 := HB3.out.trans (hw4.mono HB3.out.size)
   all_goals
    have HW4 := t_ HWr hb4
    clear hw4 hb4 HB3 HC
    go_wp2_with fail
    go_roundw
    case rel => exact ⟨⟨k + 1, by omega, by go_num⟩, HW4.out⟩
    case measure => simp [intOf]; omega
  ·obtain rfl : k = Ms.length := by omega
   have d1 : decide ((Ms.length : Int) < (Ms.length : Int)) = false := decide_eq_false (by omega)
   go_wp2_with fail
   go_ret
   exact ⟨rfl, HWr.out⟩
theorem row20_call (L : List Col) (tn : S) (a a2 a3 a4 : Option Addr) (m n2 m2 n3 m3 n4 m4 : Nat) (r : List X) (ra : Option Addr) (rm : Nat) (w : World) (hL : L.length <= 1000000) (hk : r.length <= 1000000) (hcs : ∀ x ∈ r, nodes x <= 1000000 /\ shortX x /\ rOk x = true) (hl : CL w L (.slice a L.length m)) (hr : XL w r (.slice ra r.length rm)) : Calls Tryz.prog 43 #[.agg #[.string ⟨tn.toArray⟩, .slice a L.length m, .slice a2 n2 m2, .slice a3 n3 m3, .slice a4 n4 m4], .slice ra r.length rm] w (RowPost w (rowR L r)) := by
 obtain ⟨ix, hix, hx0', hx1, hx2⟩ := info_parts infoValue
 have hx0 : ix.zero = some (.agg #[.int .i64 0, .int .i64 0, .string ⟨#[]⟩]) := hx0'
 clear hx0'
 have HL := h_ hl
 have HX := h_ hr
 have HCS := h_ hcs
 have HR1 : Hid (r.length ≠ L.length -> rowR L r = .inr 13) := h_ rowR_len
 have HR2 : Hid (r.length = L.length -> ∀ q, seqV evR r = .inr q -> rowR L r = .inr q) := h_ fun h q e => rowR_bad h e
 have HR3 : Hid (r.length = L.length -> ∀ M, seqV evR r = .inl M -> rowR L r = if accR L M = 0 then .inl M else .inr (accR L M)) := h_ fun h M e => rowR_acc h e
 generalize rowR L r = R at HR1 HR2 HR3 |-
 clear hl hr hcs
 go_enter Tryz.func43, Tryz.ntmps43
 go_upto_region 1 with (fail)
 refine nA fun w1 hB0 hw1 hz1 => ?_
 have HB1 := h_ hB0
 have HW1 := h_ hw1
 clear hB0 hw1 hz1
 have t1 := HB1.out.cell 1 rfl
 by_cases he : r.length = L.length
 ·have d0 : ((r.length : Int) != (L.length : Int)) = false := by simp [he]
  have HE := h_ he
  clear he HR1
  go_upto_region 4 with (fail)
  refine nA fun w2 hE hw2 hz2 => ?_
  have HO2 := h_ (OwnV.made hE (Nat.le_refl _))
  have HBW2 := h_ hw2
  clear hE hw2 hz2 t1 d0
  go_upto_region 5 with (fail)
  go_loopw [6, 7, 8, 9, 10] (fun v i _ _ _ wr => ∃ (k : Nat) (M : List V), k <= r.length /\ i = .int .i64 (k : Int) /\ Hid (seqV evR (r.take k) = .inl M) /\ OwnV w1.heap.size v M wr /\ Below w1.heap.size w1 wr) (fun _ i _ _ _ _ => r.length - (intOf i).toNat)
  case atStart => exact ⟨0, [], Nat.zero_le _, rfl, h_ rfl, HO2.out, HBW2.out⟩
  case round =>
   obtain ⟨k, M, hkk, rfl, HT, ho, hb⟩ := hrel
   have HO := h_ ho
   have HBr := h_ (HB1.out.below hb)
   have HBB := h_ hb
   have HWr := t_ HW1 hb
   clear ho hb HO2 HBW2
   by_cases hlt : k < r.length
   ·have k1 : (k : Int) < (r.length : Int) := by omega
    have k0 : (0 : Int) <= (k : Int) := by omega
    obtain ⟨g, o, us, eq, hec, hkx, hrx⟩ := HX.out.ec hlt
    subst eq
    obtain ⟨hn, hs, hp⟩ := HCS.out _ (List.getElem_mem hkx)
    have HBI := h_ (bind20_zero r[k] us wr hn hs (hrx.kept HWr.out (Nat.le_refl _)))
    have HFA := h_ (bind0_facts hn hs hp)
    have HEV : Hid (evR r[k] = valR (bindR [] (resR none [] r[k]))) := h_ rfl
    have HOK : Hid (∀ y, evR r[k] = .inl y -> seqV evR (r.take (k + 1)) = .inl (M ++ [y])) := h_ fun y h => seqV_ok hkx HT.out h
    have HBAD : Hid (∀ q, evR r[k] = .inr q -> seqV evR r = .inr q) := h_ fun q h => seqV_bad hkx HT.out h
    have hml : M.length <= 1000000 := by rw [seqV_len HT.out, List.length_take]; omega
    generalize bindR [] (resR none [] r[k]) = Bq at HBI HFA HEV
    generalize evR r[k] = vq at HEV HOK HBAD
    generalize r[k] = xk at hrx
    obtain ⟨eop, eint, evk, evi, evs, enm, el⟩ := xk
    obtain ⟨ea, em, rfl, _⟩ := hrx.lits
    obtain ⟨e0, e1, e2, e3, e4, e5, e6⟩ := hec.c7 HWr.out
    have lg : g < wr.heap.size := Nat.lt_of_lt_of_le hec.1 HWr.out.size
    clear hec hn hs hp
    go_wp2_with fail
    refine HBI.out.mono ?_
    intro e w4 hp
    obtain ⟨hp, hw4⟩ := hp
    have HO4 := h_ (HO.out.below hw4)
    have HBB4 := t_ HBB hw4
    have HW4 := t_ HWr hw4
    clear hw4 e0 e1 e2 e3 e4 e5 e6 lg HBI
    cases Bq with
    | inr q =>
     obtain rfl := (hp : e = .returned (.tuple #[zeroV, .int .i64 0, .int .i64 q]))
     unfold zeroV
     have hq := HFA.out.2 q rfl
     have dq : (q != 0) = true := by simp [hq]
     have HF : Hid (R = .inr q) := h_ (HR2.out HE.out q (HBAD.out q HEV.out))
     clear hq
     go_upto_region 8 with (fail)
     refine nA fun w5 hE5 hw5 hz5 => ?_
     have HW5 := t_ HW4 hw5
     clear hE5 hw5 hz5 HO4 HBB4 HW4
     go_wp2_with fail
     go_ret2
     exact ⟨by rw [HF.out]; exact ⟨_, _, _, rfl⟩, HW5.out⟩
    | inl yk =>
     obtain ⟨y, kd⟩ := yk
     have hyf := HFA.out.1 y kd rfl
     have HY := h_ (HOK.out _ HEV.out)
     obtain ⟨yop, yint, yvk, yvi, yvs, ynm, yl⟩ := y
     obtain ⟨ya, ym, rfl, hxf⟩ := (hp : ∃ a m, e = .returned (.tuple #[.agg (xc (.mk yop yint yvk yvi yvs ynm yl) a m).toArray, .int .i64 kd, .int .i64 0]) /\ XF _ w4.heap.size w4 (.mk yop yint yvk yvi yvs ynm yl) (xc (.mk yop yint yvk yvi yvs ynm yl) a m))
     simp only [xc] at hxf |-
     go_upto_region 8 with (fail)
     refine nA fun w5 hE5 hw5 hz5 => ?_
     have hxr : XR w5 _ _ := hxf.now.kept hw5 (Nat.le_refl _)
     have HEX := h_ (reval_call (.slice none 0 0) 1000000 (.mk yop yint yvk yvi yvs ynm yl) _ w5 hyf.1 (Nat.le_refl _) hyf.2.1 hyf.2.2 hxr)
     obtain ⟨p0, p1, p2, p3, p4, p5, p6⟩ := hE5.c7
     have HO5 := h_ (HO4.out.below hw5)
     have HBB5 := t_ HBB4 hw5
     have HW5 := t_ HW4 hw5
     clear hE5 hw5 hz5 hxr hxf hyf HO4 HBB4 HW4 HOK HBAD HEV HFA
     have HY2 : Hid (seqV evR (r.take (k + 1)) = .inl (M ++ [evalX (.mk yop yint yvk yvi yvs ynm yl)])) := HY
     clear HY
     generalize evalX (.mk yop yint yvk yvi yvs ynm yl) = z at HEX HY2
     obtain ⟨z0, z1, z2⟩ := z
     go_wp2_with fail
     refine HEX.out.mono ?_
     rintro e w6 ⟨rfl, hw6⟩
     have HO6 := h_ (HO5.out.below hw6)
     have HBB6 := t_ HBB5 hw6
     clear hw6 p0 p1 p2 p3 p4 p5 p6 HO5 HBB5 HW5 HEX
     unfold vV
     simp only
     have hlt2 : ∀ g, u6.ownBlock = some g -> w1.heap.size <= g := fun g e => (World.ownsRow.lt HO6.out g e).1
     go_upto_region 6 with (at_builtin; refine wpList_append_own_at _ rfl (.tmp 37) (.tmp 40) 118 rfl w1.heap.size 29 ix _ 3 32 Tryz.underlying118 hix hx0 hx1 hx2 rfl (by omega) u6 M.length _ rfl (World.ownsRow.alloc HO6.out _) ⟨w6.heap.size, 0, none⟩ 1 1 [.int .i64 z0, .int .i64 z1, .string ⟨z2.toArray⟩] rfl rfl (fun j u hj => by rw [Addr.add_lit]; exact (Blk.new w6 [.int .i64 z0, .int .i64 z1, .string ⟨z2.toArray⟩] 29).cell _ (by simpa using hj)) (fun u hu => by simp at hu; rcases hu with rfl | rfl | rfl <;> rfl) (by unfold maxLen; omega) (by omega) (Nat.le_trans HBB6.out.size (by simp)) ?_)
     intro v5 w7 hown hg5 _ hat5
     have hb5 : Below w1.heap.size w1 w7 := (HBB6.out.alloc HBB6.out.size _).grown hg5 (Nat.le_trans HBB6.out.size (by simp)) hlt2
     have HO7 : Hid (OwnV w1.heap.size v5 (M ++ [⟨z0, z1, z2⟩]) w7) := h_ (OwnV.snoc hown)
     clear hown hg5 hat5
     go_wp2_with fail
     go_roundw
     case rel => exact ⟨k + 1, _, by omega, by go_num, HY2, HO7.out, hb5⟩
     case measure => simp [intOf]; omega
   ·obtain rfl : k = r.length := by omega
    have d1 : decide ((r.length : Int) < (r.length : Int)) = false := decide_eq_false (by omega)
    rw [List.take_length] at HT
    have HRR := h_ (HR3.out HE.out M HT.out)
    have HMO := h_ (seqV_all (fun x y h => evR_ok h) HT.out)
    have hml : M.length <= 1000000 := by rw [seqV_len HT.out]; omega
    obtain ⟨av, cv, rfl, hcv, hvf⟩ := OwnV.vf HO.out
    have HV := h_ hvf
    have HAC := h_ fun w' (hw' : Below wr.heap.size wr w') => raccepts_call L tn a m (.slice a2 n2 m2) (.slice a3 n3 m3) (.slice a4 n4 m4) M av cv w' hL hml HMO.out (HL.out.kept (HWr.out.trans (hw'.mono HWr.out.size)) (Nat.le_refl _)) (hvf.now.below hw')
    generalize accR L M = ac at HRR HAC
    obtain ⟨t0, t1, t2, t3, t4⟩ := HBr.out.c5
    clear hvf HO HT HMO
    go_upto_region 11 with (fail)
    go_wp2_with fail
    refine (HAC.out wr (Below.refl _ _)).mono ?_
    rintro e w8 ⟨rfl, hw8⟩
    have HV8 : Hid (VF w.heap.size w8.heap.size w8 M av) := h_ (HV.out.same (fun b _ h => hw8.block b h) HW1.out.size hw8.size)
    have HW8 := t_ HWr hw8
    clear hw8 HAC t0 t1 t2 t3 t4 HV
    go_wp2_with fail
    go_ret2
    refine ⟨?_, HW8.out⟩
    by_cases hac : ac = 0
    ·subst hac
     rw [HRR.out, if_pos rfl]
     exact ⟨_, _, rfl, HV8.out⟩
    ·rw [HRR.out, if_neg hac]
     exact ⟨_, _, _, rfl⟩
 ·have HF : Hid (R = .inr 13) := h_ (HR1.out he)
  have d0 : ((r.length : Int) != (L.length : Int)) = true := by simp; omega
  clear he HR1 HR2 HR3
  go_wp2_with fail
  go_ret2
  exact ⟨by rw [HF.out]; exact ⟨_, _, _, rfl⟩, HW1.out⟩
theorem rowsR_long {L : List Col} {l : List (List X)} (h : 4096 < l.length) : rowsR L l = .inr 5 := by unfold rowsR; rw [if_pos h]
theorem rowsR_seq {L : List Col} {l : List (List X)} (h : ¬ 4096 < l.length) : rowsR L l = seqV (rowR L) l := by unfold rowsR; rw [if_neg h]
theorem rows20_call (L : List Col) (tn : S) (a a2 a3 a4 : Option Addr) (m n2 m2 n3 m3 n4 m4 : Nat) (l : List (List X)) (sa : Option Addr) (sm : Nat) (w : World) (hL : L.length <= 1000000) (hk : l.length <= 2000000) (hcs : ∀ r ∈ l, r.length <= 1000000 /\ ∀ x ∈ r, nodes x <= 1000000 /\ shortX x /\ rOk x = true) (hl : CL w L (.slice a L.length m)) (hs : LL w l (.slice sa l.length sm)) : Calls Tryz.prog 17 #[.agg #[.string ⟨tn.toArray⟩, .slice a L.length m, .slice a2 n2 m2, .slice a3 n3 m3, .slice a4 n4 m4], .slice sa l.length sm] w (RowsPost w (rowsR L l)) := by
 obtain ⟨ix, hix, hx0, hx1, hx2⟩ := info_parts infoRow
 have HL := h_ hl
 have HX := h_ hs
 have HCS := h_ hcs
 have HR1 : Hid (4096 < l.length -> rowsR L l = .inr 5) := h_ rowsR_long
 have HR2 : Hid (¬ 4096 < l.length -> rowsR L l = seqV (rowR L) l) := h_ rowsR_seq
 have HRC := h_ fun (r : List X) (ra : Option Addr) (rm : Nat) (w' : World) (hr : r.length <= 1000000 /\ ∀ x ∈ r, nodes x <= 1000000 /\ shortX x /\ rOk x = true) (hw' : Below w.heap.size w w') (hx : XL w r (.slice ra r.length rm)) => row20_call L tn a a2 a3 a4 m n2 m2 n3 m3 n4 m4 r ra rm w' hL hr.1 hr.2 (hl.kept hw' (Nat.le_refl _)) (hx.kept hw' (Nat.le_refl _))
 generalize rowsR L l = R at HR1 HR2 |-
 clear hl hs hcs
 go_enter Tryz.func17, Tryz.ntmps17
 go_upto_region 1 with (fail)
 refine nA fun w1 hB0 hw1 hz1 => ?_
 have HB1 := h_ hB0
 have HW1 := h_ hw1
 clear hB0 hw1 hz1
 by_cases he : 4096 < l.length
 ·have HF : Hid (R = .inr 5) := h_ (HR1.out he)
  have d0 : (4096 : Int) < (l.length : Int) := by omega
  clear he HR1 HR2
  go_wp2_with fail
  go_ret2
  exact ⟨by rw [HF.out]; rfl, HW1.out⟩
 ·have HE : Hid (R = seqV (rowR L) l) := h_ (HR2.out he)
  have d0 : ¬ (4096 : Int) < (l.length : Int) := by omega
  have d00 : (l.length : Int) <= 4096 := by omega
  have HLE : Hid (l.length <= 4096) := h_ (by omega)
  clear he HR1 HR2
  go_upto_region 4 with (fail)
  refine nA fun w2 hE hw2 hz2 => ?_
  have HO2 := h_ (OwnR.made hE (Nat.le_refl _))
  have HBW2 := h_ hw2
  clear hE hw2 hz2 d0 d00
  go_upto_region 5 with (fail)
  go_loopw [6, 7, 8, 9] (fun v i _ _ wr => ∃ (k : Nat) (Ms : List (List V)), k <= l.length /\ i = .int .i64 (k : Int) /\ Hid (seqV (rowR L) (l.take k) = .inl Ms) /\ OwnR w1.heap.size v Ms wr /\ Below w1.heap.size w1 wr) (fun _ i _ _ _ => l.length - (intOf i).toNat)
  case atStart => exact ⟨0, [], Nat.zero_le _, rfl, h_ rfl, HO2.out, HBW2.out⟩
  case round =>
   obtain ⟨k, Ms, hkk, rfl, HT, ho, hb⟩ := hrel
   have HO := h_ ho
   have HBr := h_ (HB1.out.below hb)
   have HBB := h_ hb
   have HWr := t_ HW1 hb
   clear ho hb HO2 HBW2
   by_cases hlt : k < l.length
   ·have k1 : (k : Int) < (l.length : Int) := by omega
    have k0 : (0 : Int) <= (k : Int) := by omega
    obtain ⟨g, o, eq, hkx, rb, rc, hec, hxl⟩ := HX.out.at_ hlt
    subst eq
    have hrf := HCS.out _ (List.getElem_mem hkx)
    have HNE : Hid (∀ q, rowR L l[k] = .inr q -> q ≠ 0) := h_ fun q h => rowR_ne hrf.2 h
    have HOK : Hid (∀ y, rowR L l[k] = .inl y -> seqV (rowR L) (l.take (k + 1)) = .inl (Ms ++ [y])) := h_ fun y h => seqV_ok hkx HT.out h
    have HBAD : Hid (∀ q, rowR L l[k] = .inr q -> seqV (rowR L) l = .inr q) := h_ fun q h => seqV_bad hkx HT.out h
    have hml : Ms.length <= 1000000 := by rw [seqV_len HT.out, List.length_take]; have := HLE.out; omega
    have HRK := h_ fun (w' : World) (hw' : Below w.heap.size w w') => HRC.out l[k] rb rc w' hrf hw' hxl
    have e0 := hec.at0 HWr.out rfl
    obtain ⟨t0, t1, t2, t3, t4⟩ := HBr.out.c5
    clear hec hxl hrf
    generalize rowR L l[k] = Rk at HNE HOK HBAD HRK
    generalize l[k].length = rl at HRK e0
    go_upto_region 7 with (fail)
    have hgd : Below w.heap.size w wr.drew := below_drew HWr.out
    cases Rk with
    | inr q =>
     go_cut [8, 9] (fun v8 v9 wx => v9 = .int .i64 q /\ Below wr.heap.size wr wx)
     case first =>
      go_region_law (first | (go_simp; go_at_call 43; refine (HRK.out _ hgd).mono ?_; intro e w9 hp; obtain ⟨hp, hw9⟩ := hp; obtain ⟨qa, qn, qc, rfl⟩ := (hp : ∃ a n c, e = .returned (.tuple #[.slice a n c, .int .i64 q]))))
      all_goals
       have HHW := h_ (below_undrew hw9)
       clear hw9 hgd t0 t1 t2 t3 t4 e0
       go_wp2_with fail
       go_meet
       exact ⟨rfl, HHW.out⟩
     case rest =>
      obtain ⟨rfl, hwr⟩ := hcut
      have HW4 := t_ HWr hwr
      have hq := HNE.out q rfl
      have dq : (q != 0) = true := by simp [hq]
      have HF : Hid (R = .inr q) := h_ (HE.out.trans (HBAD.out q rfl))
      clear hq hwr hgd t0 t1 t2 t3 t4 e0
      go_wp2_with fail
      go_ret2
      exact ⟨by rw [HF.out]; rfl, HW4.out⟩
    | inl M =>
     go_cut [8, 9] (fun v8 v9 wx => ∃ ma mc, v8 = .slice ma M.length mc /\ v9 = .int .i64 0 /\ Below wr.heap.size wr wx /\ VF wr.heap.size wx.heap.size wx M ma)
     case first =>
      go_region_law (first | (go_simp; go_at_call 43; refine (HRK.out _ hgd).mono ?_; intro e w9 hp; obtain ⟨hp, hw9⟩ := hp; obtain ⟨ma, mc, rfl, hvf⟩ := (hp : ∃ a c, e = .returned (.tuple #[.slice a M.length c, .int .i64 0]) /\ VF _ w9.heap.size w9 M a)))
      all_goals
       have HHW := h_ (below_undrew hw9)
       have HHV : Hid (VF wr.heap.size w9.heap.size w9 M ma) := h_ hvf
       clear hw9 hvf hgd t0 t1 t2 t3 t4 e0
       go_wp2_with fail
       go_meet
       exact ⟨_, _, rfl, rfl, HHW.out, HHV.out⟩
     case rest =>
      obtain ⟨ma, mc, rfl, rfl, hwr, hvf⟩ := hcut
      have HVF := h_ hvf
      have HO4 := h_ (HO.out.below hwr)
      have HBB4 := t_ HBB hwr
      have HSZ : Hid (w1.heap.size <= wr.heap.size) := h_ HBB.out.size
      have HLT : Hid (∀ g, u6.ownBlock = some g -> g < wr.heap.size) := h_ fun g e => (HO.out.lt g e).2
      clear hwr hgd t0 t1 t2 t3 t4 e0 hvf HRK HBr
      have HY := h_ (HOK.out M rfl)
      obtain ⟨us, hc1, hc3, hc2⟩ := (HO4.out.below (below1 wc (.cells ([.slice ma M.length mc] : List Value).toArray 118))).row
      have HC2 := h_ hc2
      have hlt2 : ∀ g, u6.ownBlock = some g -> w1.heap.size <= g := fun g e => (HO4.out.lt g e).1
      clear hc2
      go_upto_region 6 with (at_builtin; refine wpList_append_own_at _ rfl (.tmp 32) (.tmp 34) 48 rfl w1.heap.size 118 ix _ 1 24 Tryz.underlying48 hix hx0 hx1 hx2 rfl (by omega) u6 Ms.length _ rfl hc3 ⟨wc.heap.size, 0, none⟩ 1 1 [.slice ma M.length mc] rfl rfl (fun j u hj => by rw [Addr.add_lit]; exact (Blk.new wc [.slice ma M.length mc] 118).cell _ (by simpa using hj)) (fun u hu => by simp at hu; subst hu; rfl) (by unfold maxLen; omega) (by omega) (Nat.le_trans HBB4.out.size (by simp)) ?_)
      intro v5 w7 hown hg5 _ hat5
      have hb5 : Below w1.heap.size w1 w7 := (HBB4.out.alloc HBB4.out.size _).grown hg5 (Nat.le_trans HBB4.out.size (by simp)) hlt2
      have HO7 : Hid (OwnR w1.heap.size v5 (Ms ++ [M]) w7) := h_ (OwnR.snoc hc1 HC2.out (HVF.out.below (below1 wc _) (Nat.le_refl _)) HSZ.out (by simp) (fun g e => .inl (HLT.out g e)) hown hg5 (by simpa using hat5))
      clear hown hg5 hat5
      go_wp2_with fail
      go_roundw
      case rel => exact ⟨k + 1, _, by omega, by go_num, HY, HO7.out, hb5⟩
      case measure => simp [intOf]; omega
   ·obtain rfl : k = l.length := by omega
    have d1 : decide ((l.length : Int) < (l.length : Int)) = false := decide_eq_false (by omega)
    rw [List.take_length] at HT
    have HF : Hid (R = .inl Ms) := h_ (HE.out.trans HT.out)
    obtain ⟨av, cv, rfl, hvv⟩ := HO.out.done
    have HV := h_ hvv
    clear hvv HO
    go_wp2_with fail
    go_ret2
    exact ⟨by rw [HF.out]; exact ⟨_, _, rfl, fun wz hz => HV.out wz fun b b1 b2 => hz b (Nat.le_trans HW1.out.size b1) b2⟩, HWr.out⟩
theorem prows_call (L : List Col) (tn : S) (a a2 a3 a4 : Option Addr) (m n2 m2 n3 m3 n4 m4 : Nat) (l : List (List X)) (sa : Option Addr) (sm : Nat) (w : World) (hL : L.length <= 1000000) (hk : l.length <= 2000000) (hcs : ∀ r ∈ l, r.length <= 1000000 /\ ∀ x ∈ r, nodes x <= 1000000 /\ shortX x /\ rOk x = true) (hl : CL w L (.slice a L.length m)) (hs : LL w l (.slice sa l.length sm)) (hE : ∃ m, w.cell? ⟨0, 0, none⟩ = some (.int .i64 m)) : Calls Tryz.prog 16 #[.agg #[.string ⟨tn.toArray⟩, .slice a L.length m, .slice a2 n2 m2, .slice a3 n3 m3, .slice a4 n4 m4], .slice sa l.length sm] w (RowsPost w (rowsR L l)) := by
 obtain ⟨ix, hix, hx0', hx1, hx2⟩ := info_parts infoValue
 have hx0 : ix.zero = some (.agg #[.int .i64 0, .int .i64 0, .string ⟨#[]⟩]) := hx0'
 clear hx0'
 obtain ⟨jx, hjx, hy0, hy1, hy2⟩ := info_parts infoRow
 have HL := h_ hl
 have HLL := h_ hs
 have HCSL := h_ hcs
 have HMX : Hid (∀ w', Below w.heap.size w w' -> ∃ m, w'.cell? ⟨0, 0, none⟩ = some (.int .i64 m)) := h_ fun w' hw' => by
  obtain ⟨mx, hmx⟩ := hE
  exact ⟨mx, (hw'.cell (lt_of_cell hmx)).trans hmx⟩
 have HR1 : Hid (4096 < l.length -> rowsR L l = .inr 5) := h_ rowsR_long
 have HR2 : Hid (¬ 4096 < l.length -> rowsR L l = seqV (rowR L) l) := h_ rowsR_seq
 generalize rowsR L l = R at HR1 HR2 |-
 clear hl hs hcs hE
 go_enter Tryz.func16, Tryz.ntmps16
 go_upto_region 1 with (fail)
 refine nA fun w1 hB0 hw1 hz1 => ?_
 have HB1 := h_ hB0
 have HW1 := h_ hw1
 clear hB0 hw1 hz1
 by_cases he : 4096 < l.length
 ·have HF : Hid (R = .inr 5) := h_ (HR1.out he)
  have d0 : (4096 : Int) < (l.length : Int) := by omega
  clear he HR1 HR2
  go_wp2_with fail
  go_ret2
  exact ⟨by rw [HF.out]; rfl, HW1.out⟩
 ·have HE : Hid (R = seqV (rowR L) l) := h_ (HR2.out he)
  have d0 : ¬ (4096 : Int) < (l.length : Int) := by omega
  have d00 : (l.length : Int) <= 4096 := by omega
  have HLE : Hid (l.length <= 4096) := h_ (by omega)
  clear he HR1 HR2
  go_wp2_with fail
  refine (newScope0_call w1).mono ?_
  rintro e w2 ⟨gs, rfl, hsc, hw2⟩
  have HSC := h_ hsc
  have HB2 := h_ (HB1.out.below hw2)
  have HW2 := t_ HW1 hw2
  clear hsc hw2 HB1 d0 d00
  go_upto_region 6 with (fail)
  go_loopw [7, 9, 10, 12, 13, 14, 15, 16, 23] (fun v _ _ _ _ _ _ _ i wr => ∃ (k : Nat) (Ms : List (List V)), k <= l.length /\ i = .int .i64 (k : Int) /\ Hid (seqV (rowR L) (l.take k) = .inl Ms) /\ OwnR w2.heap.size v Ms wr /\ Below w2.heap.size w2 wr) (fun _ _ _ _ _ _ _ _ i _ => l.length - (intOf i).toNat)
  case atStart => exact ⟨0, [], Nat.zero_le _, rfl, h_ rfl, OwnR.nil _ _, Below.refl _ _⟩
  case round =>
   obtain ⟨k, Ms, hkk, rfl, HTL, ho, hb⟩ := hrel
   have HOR := h_ ho
   have HBr := h_ (HB2.out.below hb)
   have HSr := h_ (HSC.out.below hb)
   have HBB := h_ hb
   have HWr := t_ HW2 hb
   clear ho hb
   by_cases hlt : k < l.length
   ·have k1 : (k : Int) < (l.length : Int) := by omega
    have k0 : (0 : Int) <= (k : Int) := by omega
    obtain ⟨g, o, eq, hkx, rb, rc, hec, hxl⟩ := HLL.out.at_ hlt
    subst eq
    obtain ⟨hrl, hrf⟩ := HCSL.out _ (List.getElem_mem hkx)
    have HOKR : Hid (∀ y, rowR L l[k] = .inl y -> seqV (rowR L) (l.take (k + 1)) = .inl (Ms ++ [y])) := h_ fun y h => seqV_ok hkx HTL.out h
    have HBADR : Hid (∀ q, rowR L l[k] = .inr q -> R = .inr q) := h_ fun q h => HE.out.trans (seqV_bad hkx HTL.out h)
    have hmsl : Ms.length <= 1000000 := by rw [seqV_len HTL.out, List.length_take]; have := HLE.out; omega
    have HX := h_ hxl
    have HCS := h_ hrf
    have e0 := hec.at0 HWr.out rfl
    have t1 := HBr.out.cell 1 rfl
    clear hec hxl hrf
    generalize l[k] = r at HOKR HBADR HX HCS e0 hrl
    have HRL := h_ hrl
    by_cases he : r.length = L.length
    ·have d1 : ((r.length : Int) != (L.length : Int)) = false := by simp [he]
     have HEL := h_ he
     clear he
     go_upto_region 12 with (fail)
     clear e0 t1 d1
     obtain ⟨wo, ewo⟩ : ∃ wo, wo = wr := ⟨_, rfl⟩
     subst ewo
     go_loopw [10, 12, 13, 14, 15, 35] (fun v _ _ _ _ i wr => ∃ (j : Nat) (M : List V), j <= r.length /\ i = .int .i64 (j : Int) /\ Hid (seqV evR (r.take j) = .inl M) /\ OwnV wo.heap.size v M wr /\ Below wo.heap.size wo wr) (fun _ _ _ _ _ i _ => r.length - (intOf i).toNat)
     case atStart => exact ⟨0, [], Nat.zero_le _, rfl, h_ rfl, OwnV.nil _ _, Below.refl _ _⟩
     case round =>
      obtain ⟨j, M, hjj, rfl, HT, ho, hb⟩ := hrel
      have HO := h_ ho
      have HBq := h_ (HBr.out.below hb)
      have HSq := h_ (HSr.out.below hb)
      have HBBq := h_ hb
      have HWq := t_ HWr hb
      clear ho hb
      by_cases hlt2 : j < r.length
      ·have HJ : Hid (j + 1 <= r.length /\ r.length - (j + 1) < r.length - j) := h_ ⟨by omega, by omega⟩
       have j1 : (j : Int) < (r.length : Int) := by omega
       have j0 : (0 : Int) <= (j : Int) := by omega
       obtain ⟨g2, o2, us, eq, hec, hkx2, hrx⟩ := HX.out.ec hlt2
       subst eq
       obtain ⟨hn, hs, hp⟩ := HCS.out _ (List.getElem_mem hkx2)
       have HBI := h_ fun (w' : World) (hw' : Below wr.heap.size wr w') => bind_zero r[j] us w' gs hn hs (hrx.kept (HWq.out.trans (hw'.mono HWq.out.size)) (Nat.le_refl _)) (HMX.out w' (HWq.out.trans (hw'.mono HWq.out.size))) (HSq.out.below hw')
       have HFA := h_ (bind0_facts hn hs hp)
       have HEV : Hid (evR r[j] = valR (bindR [] (resR none [] r[j]))) := h_ rfl
       have HOK : Hid (∀ y, evR r[j] = .inl y -> seqV evR (r.take (j + 1)) = .inl (M ++ [y])) := h_ fun y h => seqV_ok hkx2 HT.out h
       have HBAD : Hid (∀ q, evR r[j] = .inr q -> seqV evR r = .inr q) := h_ fun q h => seqV_bad hkx2 HT.out h
       have hml : M.length <= 1000000 := by rw [seqV_len HT.out, List.length_take]; have := HRL.out; omega
       generalize bindR [] (resR none [] r[j]) = Bq at HBI HFA HEV
       generalize evR r[j] = vq at HEV HOK HBAD
       generalize r[j] = xk at hrx
       obtain ⟨eop, eint, evk, evi, evs, enm, el⟩ := xk
       obtain ⟨ea, em, rfl, _⟩ := hrx.lits
       obtain ⟨e0, e1, e2, e3, e4, e5, e6⟩ := hec.c7 HWq.out
       have lg : g2 < wr.heap.size := Nat.lt_of_lt_of_le hec.1 HWq.out.size
       clear hec hn hs hp
       go_upto_region 14 with (fail)
       refine nA fun w3 hE3 hw3 hz3 => ?_
       obtain ⟨p0, p1, p2, p3, p4, p5, p6⟩ := hE3.c7
       have HB3 := h_ hw3
       clear hE3 hw3 hz3 e0 e1 e2 e3 e4 e5 e6 lg
       go_wp2_with fail
       refine (HBI.out w3 HB3.out).mono ?_
       intro e w4 hp
       obtain ⟨hp, hw4⟩ := hp
       have hb4 : Below wr.heap.size wr w4 := HB3.out.trans (hw4.mono HB3.out.size)
       have HO4 := h_ (HO.out.below hb4)
       have HBB4 := t_ HBBq hb4
       have HW4 := t_ HWq hb4
       clear hw4 hb4 p0 p1 p2 p3 p4 p5 p6 HBI
       cases Bq with
       | inr q =>
        obtain rfl := (hp : e = .returned (.tuple #[zeroV, .int .i64 0, .int .i64 q]))
        unfold zeroV
        have hq := HFA.out.2 q rfl
        have dq : (q != 0) = true := by simp [hq]
        have HF : Hid (R = .inr q) := h_ (HBADR.out q (rowR_bad HEL.out (HBAD.out q HEV.out)))
        clear hq
        go_upto_region 15 with (fail)
        refine nA fun w5 hE5 hw5 hz5 => ?_
        have HW5 := t_ HW4 hw5
        clear hE5 hw5 hz5 HO4 HBB4 HW4
        go_wp2_with fail
        go_ret2
        exact ⟨by rw [HF.out]; rfl, HW5.out⟩
       | inl yk =>
        obtain ⟨y, kd⟩ := yk
        have hyf := HFA.out.1 y kd rfl
        have HY := h_ (HOK.out _ HEV.out)
        obtain ⟨yop, yint, yvk, yvi, yvs, ynm, yl⟩ := y
        obtain ⟨ya, ym, rfl, hxf⟩ := (hp : ∃ a m, e = .returned (.tuple #[.agg (xc (.mk yop yint yvk yvi yvs ynm yl) a m).toArray, .int .i64 kd, .int .i64 0]) /\ XF _ w4.heap.size w4 (.mk yop yint yvk yvi yvs ynm yl) (xc (.mk yop yint yvk yvi yvs ynm yl) a m))
        simp only [xc] at hxf |-
        go_upto_region 15 with (fail)
        refine nA fun w5 hE5 hw5 hz5 => ?_
        have hxr : XR w5 _ _ := hxf.now.kept hw5 (Nat.le_refl _)
        have HEX := h_ (peval_call (.slice none 0 0) 1000000 (.mk yop yint yvk yvi yvs ynm yl) _ w5 hyf.1 (Nat.le_refl _) hyf.2.1 hyf.2.2 hxr)
        obtain ⟨p0, p1, p2, p3, p4, p5, p6⟩ := hE5.c7
        have HO5 := h_ (HO4.out.below hw5)
        have HBB5 := t_ HBB4 hw5
        have HW5 := t_ HW4 hw5
        clear hE5 hw5 hz5 hxr hxf hyf HO4 HBB4 HW4 HOK HBAD HEV HFA
        have HY2 : Hid (seqV evR (r.take (j + 1)) = .inl (M ++ [evalX (.mk yop yint yvk yvi yvs ynm yl)])) := HY
        clear HY
        generalize evalX (.mk yop yint yvk yvi yvs ynm yl) = z at HEX HY2
        obtain ⟨z0, z1, z2⟩ := z
        go_wp2_with fail
        refine HEX.out.mono ?_
        rintro e w6 ⟨rfl, hw6⟩
        have HO6 := h_ (HO5.out.below hw6)
        have HBB6 := t_ HBB5 hw6
        clear hw6 p0 p1 p2 p3 p4 p5 p6 HO5 HBB5 HW5 HEX
        unfold vV
        simp only
        have hlt3 : ∀ g, u10.ownBlock = some g -> wo.heap.size <= g := fun g e => (World.ownsRow.lt HO6.out g e).1
        go_upto_region 18 with (at_builtin; refine wpList_append_own_at _ rfl (.tmp 49) (.tmp 52) 118 rfl wo.heap.size 29 ix _ 3 32 Tryz.underlying118 hix hx0 hx1 hx2 rfl (by omega) u10 M.length _ rfl (World.ownsRow.alloc HO6.out _) ⟨w6.heap.size, 0, none⟩ 1 1 [.int .i64 z0, .int .i64 z1, .string ⟨z2.toArray⟩] rfl rfl (fun j u hj => by rw [Addr.add_lit]; exact (Blk.new w6 [.int .i64 z0, .int .i64 z1, .string ⟨z2.toArray⟩] 29).cell _ (by simpa using hj)) (fun u hu => by simp at hu; rcases hu with rfl | rfl | rfl <;> rfl) (by unfold maxLen; omega) (by omega) (Nat.le_trans HBB6.out.size (by simp)) ?_)
        intro v5 w7 hown hg5 _ hat5
        have hb5 : Below wo.heap.size wo w7 := (HBB6.out.alloc HBB6.out.size _).grown hg5 (Nat.le_trans HBB6.out.size (by simp)) hlt3
        have HO7 : Hid (OwnV wo.heap.size v5 (M ++ [⟨z0, z1, z2⟩]) w7) := h_ (OwnV.snoc hown)
        clear hown hg5 hat5
        go_wp2_with fail
        go_roundw
        case rel => exact ⟨j + 1, _, HJ.out.1, by go_num, HY2, HO7.out, hb5⟩
        case measure => have hj2 := HJ.out.2; simp [intOf]; omega
      ·obtain rfl : j = r.length := by omega
       have d1 : decide ((r.length : Int) < (r.length : Int)) = false := decide_eq_false (by omega)
       rw [List.take_length] at HT
       have HRR := h_ (rowR_acc HEL.out HT.out)
       have HMO := h_ (seqV_all (fun x y h => evR_ok h) HT.out)
       have hml : M.length <= 1000000 := by rw [seqV_len HT.out]; exact HRL.out
       obtain ⟨av, cv, rfl, hcv, hvf⟩ := OwnV.vf HO.out
       have HV := h_ hvf
       have HAC := h_ (paccepts_call L tn a m (.slice a2 n2 m2) (.slice a3 n3 m3) (.slice a4 n4 m4) M av cv wr hL hml HMO.out (HL.out.kept HWq.out (Nat.le_refl _)) hvf.now)
       generalize accR L M = ac at HRR HAC
       obtain ⟨t0, t1, t2, t3, t4⟩ := HBq.out.c5
       clear hvf HO HT HMO
       go_upto_region 19 with (fail)
       go_wp2_with fail
       refine HAC.out.mono ?_
       rintro e w8 ⟨rfl, hw8⟩
       have hb8 : Below wo.heap.size wo w8 := HBBq.out.trans (hw8.mono HBBq.out.size)
       have HV8 : Hid (VF wo.heap.size w8.heap.size w8 M av) := h_ (HV.out.same (fun b _ h => hw8.block b h) (Nat.le_refl _) hw8.size)
       have HO8 := h_ (HOR.out.below hb8)
       have HBB8 := t_ HBB hb8
       have HW8 := t_ HWr hb8
       have HSZ := h_ HBB.out.size
       have HLT : Hid (∀ g, u7.ownBlock = some g -> g < wo.heap.size) := h_ fun g e => (HOR.out.lt g e).2
       clear hw8 hb8 HAC t0 t1 t2 t3 t4 HV
       by_cases hac : ac = 0
       ·subst hac
        have HY := h_ (HOKR.out M (by rw [HRR.out, if_pos rfl]))
        obtain ⟨us, hc1, hc3, hc2⟩ := (HO8.out.below (below1 w8 (.cells ([.slice av M.length cv] : List Value).toArray 118))).row
        have HC2 := h_ hc2
        have hlt3 : ∀ g, u7.ownBlock = some g -> w2.heap.size <= g := fun g e => (HO8.out.lt g e).1
        clear hc2
        go_upto_region 23 with (at_builtin; refine wpList_append_own_at _ rfl (.tmp 61) (.tmp 63) 48 rfl w2.heap.size 118 jx _ 1 24 Tryz.underlying48 hjx hy0 hy1 hy2 rfl (by omega) u7 Ms.length _ rfl hc3 ⟨w8.heap.size, 0, none⟩ 1 1 [.slice av M.length cv] rfl rfl (fun j u hj => by rw [Addr.add_lit]; exact (Blk.new w8 [.slice av M.length cv] 118).cell _ (by simpa using hj)) (fun u hu => by simp at hu; subst hu; rfl) (by unfold maxLen; omega) (by omega) (Nat.le_trans HBB8.out.size (by simp)) ?_)
        intro v5 w9 hown hg5 _ hat5
        have hb5 : Below w2.heap.size w2 w9 := (HBB8.out.alloc HBB8.out.size _).grown hg5 (Nat.le_trans HBB8.out.size (by simp)) hlt3
        have HO9 : Hid (OwnR w2.heap.size v5 (Ms ++ [M]) w9) := h_ (OwnR.snoc hc1 HC2.out (HV8.out.below (below1 w8 _) (Nat.le_refl _)) HSZ.out (by simp) (fun g e => .inl (HLT.out g e)) hown hg5 (by simpa using hat5))
        clear hown hg5 hat5
        go_wp2_with fail
        go_roundw
        case rel => exact ⟨k + 1, _, by omega, by go_num, HY, HO9.out, hb5⟩
        case measure => simp [intOf]; omega
       ·have HF : Hid (R = .inr ac) := h_ (HBADR.out ac (by rw [HRR.out, if_neg hac]))
        have dq : (ac != 0) = true := by simp [hac]
        clear hac
        go_wp2_with fail
        go_ret2
        exact ⟨by rw [HF.out]; rfl, HW8.out⟩
    ·have HF : Hid (R = .inr 13) := h_ (HBADR.out 13 (rowR_len he))
     have d1 : ((r.length : Int) != (L.length : Int)) = true := by simp; omega
     clear he
     go_wp2_with fail
     go_ret2
     exact ⟨by rw [HF.out]; rfl, HWr.out⟩
   ·obtain rfl : k = l.length := by omega
    have d1 : decide ((l.length : Int) < (l.length : Int)) = false := decide_eq_false (by omega)
    rw [List.take_length] at HTL
    have HF : Hid (R = .inl Ms) := h_ (HE.out.trans HTL.out)
    obtain ⟨av, cv, rfl, hvv⟩ := HOR.out.done
    have HV := h_ hvv
    clear hvv HOR
    go_wp2_with fail
    go_ret2
    exact ⟨by rw [HF.out]; exact ⟨_, _, rfl, fun wz hz => HV.out wz fun b b1 b2 => hz b (Nat.le_trans HW2.out.size b1) b2⟩, HWr.out⟩
theorem ok_of_exprR {x : X} (hn : nodes x <= 1000000) (h : (exprR x).2 = 0) : rOk x = true := by
 rw [<- ok_eq (nodes x) x (Nat.le_refl _) hn]
 unfold exprR at h
 split at h
 ·simp at h
 split at h
 ·assumption
 ·simp at h
theorem printableR_call (l : List X) (a : Option Addr) (c : Nat) (w : World) (hk : l.length <= 1000000) (hcs : ∀ x ∈ l, nodes x <= 1000000 /\ shortX x) (hE : Env w) (hl : XL w l (.slice a l.length c)) : Calls Tryz.prog 8 #[.slice a l.length c] w (fun e w' => ∃ b : Bool, e = .returned (.bool b) /\ (b = true -> ∀ x ∈ l, rOk x = true) /\ Below w.heap.size w w') := by
 have HX := h_ hl
 have HCS := h_ hcs
 have HE := h_ hE
 clear hl hcs hE
 go_enter Tryz.func8, Tryz.ntmps8
 go_upto_region 2 with (fail)
 go_loopw [3, 4, 5, 8] (fun _ _ _ i wr => ∃ k : Nat, k <= l.length /\ i = .int .i64 (k : Int) /\ Hid (∀ j (h : j < l.length), j < k -> rOk l[j] = true) /\ Below w.heap.size w wr) (fun _ _ _ i _ => l.length - (intOf i).toNat)
 case atStart => exact ⟨0, Nat.zero_le _, rfl, h_ (fun j h hj => absurd hj (by omega)), Below.refl _ _⟩
 case round =>
  obtain ⟨k, hkk, rfl, HPR, hb⟩ := hrel
  have HWr := h_ hb
  clear hb
  by_cases hlt : k < l.length
  ·have k1 : (k : Int) < (l.length : Int) := by omega
   have k0 : (0 : Int) <= (k : Int) := by omega
   obtain ⟨g, o, us, eq, hgl, hcell, hxx, hxr⟩ := HX.out.at_ hlt
   subst eq
   have hnx := HCS.out _ (List.getElem_mem hxx)
   have HKC : Hid (EC w g (o + k * 7) us) := h_ ⟨hgl, hcell⟩
   have HRX := h_ (RExpression_call l[k] us wr hnx.1 hnx.2 (HE.out.below HWr.out) (hxr.kept HWr.out (Nat.le_refl _)))
   have HPN : Hid ((exprR l[k]).2 = 0 -> ∀ j (h : j < l.length), j < k + 1 -> rOk l[j] = true) := h_ fun he j h hj => by
    by_cases hjk : j = k
    ·subst hjk; exact ok_of_exprR hnx.1 he
    ·exact HPR.out j h (by omega)
   clear hcell hnx
   generalize l[k] = x at hxr HRX HPN
   generalize exprR x = R at HRX HPN
   obtain ⟨R1, R2⟩ := R
   obtain ⟨op, int, vk, vi, vs, nm, l'⟩ := x
   obtain ⟨ax, mx, rfl, _⟩ := hxr.lits
   clear hxr hgl
   obtain ⟨e0, e1, e2, e3, e4, e5, e6⟩ := HKC.out.c7 HWr.out
   go_wp2_with fail
   refine HRX.out.mono ?_
   rintro e w2 ⟨rfl, hw2⟩
   have HW2 := t_ HWr hw2
   clear hw2 e0 e1 e2 e3 e4 e5 e6 HRX
   unfold TupSI
   by_cases hq : R2 = 0
   ·have HPM := h_ (HPN.out hq)
    subst hq
    clear HPN
    go_wp2_with fail
    go_roundw
    case rel => exact ⟨k + 1, by omega, by go_num, HPM, HW2.out⟩
    case measure => simp [intOf]; omega
   ·clear HPN
    have dq : (R2 != 0) = true := by simp [hq]
    go_wp2_with fail
    go_ret
    exact ⟨false, rfl, (fun h => absurd h (by decide)), HW2.out⟩
  ·obtain rfl : k = l.length := by omega
   have d1 : decide ((l.length : Int) < (l.length : Int)) = false := decide_eq_false (by omega)
   go_wp2_with fail
   go_ret
   refine ⟨true, rfl, fun _ x hx => ?_, HWr.out⟩
   obtain ⟨j, hj, rfl⟩ := List.getElem_of_mem hx
   exact HPR.out j hj hj
end Go.Proofs.YtnlimlboedohgaaGreatDoor.Px
/-
  The run of bitemporal/bitemporallaw20.awake.
-/
set_option maxRecDepth 100000
namespace Go.Proofs.YtnlimlboedohgaaGreatDoor.Ax
open Go Go.RowKit
noncomputable def Awktop_in : CallR := orO Awks0_o (orO Awks1_o (orO Awks2_o (orO Awks3_o (orO Awks4_o (Awkq_o)))))
theorem Awktop_in_ok : CallOK Tryz.prog Awktop_in := orO_ok Awks0_ok (orO_ok Awks1_ok (orO_ok Awks2_ok (orO_ok Awks3_ok (orO_ok Awks4_ok (Awkq_ok)))))
theorem Awktop_f : saysTrue (callR Tryz.prog Awktop_in (drawR Tryz.prog) 300 (.fn 9) [] .leaf 0) = true := by kernel_rfl
theorem awake_call (w : World) (ht : TabW w) : Calls Tryz.prog 9 #[] w fun e w' => e = .returned (.bool true) /\ Below w.heap.size w w' :=
 calls_true_r Awktop_in_ok Awktop_f (fun _ => .tuple #[]) [] rl_nil w ht trivial
end Go.Proofs.YtnlimlboedohgaaGreatDoor.Ax

/-
  BinderRows: the law's own walk. (Printed by gen_rwlaw.py.)
-/
namespace Go.Proofs.YtnlimlboedohgaaGreatDoor.Px
open Go Go.RowKit Go.Proofs.YtnlimlboedohgaaGreatDoor.Ps
set_option linter.unusedVariables false
set_option linter.unusedSimpArgs false
theorem rowsR_len {L : List Col} {l : List (List X)} {Ms : List (List V)} (hl : ∀ r ∈ l, r.length <= 1000000) (hk : l.length <= 2000000) (h : rowsR L l = .inl Ms) : Ms.length <= 1099511627776 /\ ∀ M ∈ Ms, M.length <= 1099511627776 := by
 unfold rowsR at h
 split at h
 ·cases h
 ·refine ⟨by rw [seqV_len h]; omega, ?_⟩
  clear hk
  rename_i hx
  clear hx
  induction l generalizing Ms with
  | nil => rw [seqV] at h; injection h with h; subst h; intro M hM; cases hM
  | cons r l ih =>
   rw [seqV] at h
   cases hr : rowR L r with
   | inr e => rw [hr] at h; cases h
   | inl M0 =>
    rw [hr] at h
    simp only at h
    cases hk : seqV (rowR L) l with
    | inr e => rw [hk] at h; cases h
    | inl m =>
     rw [hk] at h
     injection h with h
     subst h
     intro M hM
     rcases List.mem_cons.1 hM with rfl | hM
     ·unfold rowR at hr
      split at hr
      ·cases hr
      ·cases he : seqV evR r with
       | inr e => rw [he] at hr; cases hr
       | inl M1 =>
        rw [he] at hr
        simp only at hr
        split at hr
        ·injection hr with hr; subst hr; rw [seqV_len he]; have := hl r (List.mem_cons_self ..); omega
        ·cases hr
     ·exact ih (fun r hr => hl r (List.mem_cons_of_mem _ hr)) hk M hM
theorem rows_walk (L : List Col) (Ks : List Int) (Fs : List Fkey) (Cs : List X) (tn : S) (a a2 a3 a4 : Option Addr) (m m2 m3 m4 : Nat) (l : List (List X)) (sa : Option Addr) (sm : Nat) (w : World) (hL : L.length <= 1000000) (hK : Ks.length <= 1099511627776) (hfl : ∀ f ∈ Fs, f.cols.length <= 1099511627776) (hcs : ∀ x ∈ Cs, nodes x <= 1000000 /\ shortX x) (hk : l.length <= 2000000) (hls : ∀ r ∈ l, r.length <= 1000000 /\ ∀ x ∈ r, nodes x <= 1000000 /\ shortX x) (hE : Env w) (htb : Ax.TabW w) (hl : CL w L (.slice a L.length m)) (hi : IL w Ks (.slice a2 Ks.length m2)) (hf : FL w Fs (.slice a3 Fs.length m3)) (hxl : XL w Cs (.slice a4 Cs.length m4)) (hs : LL w l (.slice sa l.length sm)) : Calls Tryz.prog 5 #[.agg #[.string ⟨tn.toArray⟩, .slice a L.length m, .slice a2 Ks.length m2, .slice a3 Fs.length m3, .slice a4 Cs.length m4], .slice sa l.length sm] w (fun e w' => e = .returned (.bool true) /\ Below w.heap.size w w') := by
 have HT := h_ fun (w' : World) (hw' : Below w.heap.size w w') => Ax.awake_call w' (Ax.tabW_below htb hw')
 have HC := h_ fun (w' : World) (hw' : Below w.heap.size w w') => check13_call L Ks Fs Cs tn a a2 a3 a4 m m2 m3 m4 w' hL hK hfl hcs (hl.kept hw' (Nat.le_refl _)) (hi.kept hw' (Nat.le_refl _)) (hf.kept hw' (Nat.le_refl _)) (hxl.kept hw' (Nat.le_refl _))
 have HP := h_ fun (r : List X) (b : Option Addr) (c : Nat) (w' : World) (hr : r.length <= 1000000 /\ ∀ x ∈ r, nodes x <= 1000000 /\ shortX x) (hw' : Below w.heap.size w w') (hx : XL w r (.slice b r.length c)) => printableR_call r b c w' hr.1 hr.2 (hE.below hw') (hx.kept hw' (Nat.le_refl _))
 have HA := h_ fun (hok : ∀ r ∈ l, ∀ x ∈ r, rOk x = true) (w' : World) (hw' : Below w.heap.size w w') => prows_call L tn a a2 a3 a4 m Ks.length m2 Fs.length m3 Cs.length m4 l sa sm w' hL hk (fun r hr => ⟨(hls r hr).1, fun x hx => ⟨((hls r hr).2 x hx).1, ((hls r hr).2 x hx).2, hok r hr x hx⟩⟩) (hl.kept hw' (Nat.le_refl _)) (hs.kept hw' (Nat.le_refl _)) (hE.below hw').maxl
 have HB := h_ fun (hok : ∀ r ∈ l, ∀ x ∈ r, rOk x = true) (w' : World) (hw' : Below w.heap.size w w') => rows20_call L tn a a2 a3 a4 m Ks.length m2 Fs.length m3 Cs.length m4 l sa sm w' hL hk (fun r hr => ⟨(hls r hr).1, fun x hx => ⟨((hls r hr).2 x hx).1, ((hls r hr).2 x hx).2, hok r hr x hx⟩⟩) (hl.kept hw' (Nat.le_refl _)) (hs.kept hw' (Nat.le_refl _))
 have HML : Hid (∀ Ms, rowsR L l = .inl Ms -> Ms.length <= 1099511627776 /\ ∀ M ∈ Ms, M.length <= 1099511627776) := h_ fun Ms h => rowsR_len (fun r hr => (hls r hr).1) hk h
 generalize rowsR L l = R at HA HB HML
 have HS := h_ hs
 have HLS := h_ hls
 clear hL hK hfl hcs hls hE htb hl hi hf hxl hs
 go_enter Tryz.func5, Tryz.ntmps5
 go_upto_region 1 with (fail)
 refine nA fun w1 hA0 hw1 hz1 => ?_
 have HT1 := h_ hA0
 have HW1 := h_ hw1
 clear hA0 hw1 hz1
 go_upto_region 2 with (fail)
 go_loopw [5, 12] (fun _ i wr => ∃ k : Nat, k <= l.length /\ i = .int .i64 (k : Int) /\ Hid (∀ j (h : j < l.length), j < k -> ∀ x ∈ l[j], rOk x = true) /\ Below w1.heap.size w1 wr) (fun _ i _ => l.length - (intOf i).toNat)
 case atStart => exact ⟨0, Nat.zero_le _, rfl, h_ (fun j h hj => absurd hj (by omega)), Below.refl _ _⟩
 case round =>
  obtain ⟨k, hkk, rfl, HPR, hb⟩ := hrel
  have HTr := h_ (HT1.out.below hb)
  have HBB := h_ hb
  have HWr := t_ HW1 hb
  clear hb
  by_cases hlt : k < l.length
  ·have k1 : (k : Int) < (l.length : Int) := by omega
   have k0 : (0 : Int) <= (k : Int) := by omega
   obtain ⟨g, o, eq, hkx, rb, rc, hec, hxl⟩ := HS.out.at_ hlt
   subst eq
   have HPK := h_ (HP.out l[k] rb rc wr (HLS.out _ (List.getElem_mem hkx)) HWr.out hxl)
   have HPN : Hid ((∀ x ∈ l[k], rOk x = true) -> ∀ j (h : j < l.length), j < k + 1 -> ∀ x ∈ l[j], rOk x = true) := h_ fun he j h hj => by
    by_cases hjk : j = k
    ·subst hjk; exact he
    ·exact HPR.out j h (by omega)
   have e0 := hec.at0 HWr.out rfl
   clear hec hxl
   generalize l[k] = r at HPK HPN e0
   go_wp2_with fail
   refine HPK.out.mono ?_
   rintro e w3 ⟨bb, rfl, hbb, hw3⟩
   have HB3 := t_ HBB hw3
   have HW3 := t_ HWr hw3
   have HBT := h_ hbb
   clear hw3 hbb HTr HWr HBB e0 HPK
   cases bb with
   | false =>
    have HTT := h_ (HT.out w3 HW3.out)
    go_wp2_with fail
    refine HTT.out.mono ?_
    rintro e w40 ⟨rfl, hw40⟩
    have HW40 := t_ HW3 hw40
    clear hw40
    go_wp2_with fail
    go_ret
    exact ⟨rfl, HW40.out⟩
   | true =>
    have HPM := h_ (HPN.out (HBT.out rfl))
    clear HBT HPN
    go_wp2_with fail
    go_roundw
    case rel => exact ⟨k + 1, by omega, by go_num, HPM, HB3.out⟩
    case measure => simp [intOf]; omega
  ·obtain rfl : k = l.length := by omega
   have d1 : decide ((l.length : Int) < (l.length : Int)) = false := decide_eq_false (by omega)
   have HOKA : Hid (∀ r ∈ l, ∀ x ∈ r, rOk x = true) := h_ fun r hr => by
    obtain ⟨j, hj, rfl⟩ := List.getElem_of_mem hr
    exact HPR.out j hj hj
   obtain ⟨p0, p1, p2, p3, p4⟩ := HTr.out.c5
   go_upto_region 7 with (fail)
   clear d1
   go_wp2_with fail
   refine (HC.out wr HWr.out).mono ?_
   rintro e w2 ⟨q, rfl, hd, hw2⟩
   have HT2 := h_ (HTr.out.below hw2)
   have HW2 := t_ HWr hw2
   clear hw2 HTr HWr HBB hd p0 p1 p2 p3 p4 HC
   by_cases hq : q = 0
   ·subst hq
    have HA3 := h_ (HA.out HOKA.out w2 HW2.out)
    clear HA
    obtain ⟨p0, p1, p2, p3, p4⟩ := HT2.out.c5
    cases R with
    | inr qe =>
     go_wp2_with fail
     refine HA3.out.mono ?_
     intro e w4 hp
     obtain ⟨hp, hw4⟩ := hp
     obtain rfl := (hp : e = .returned (.tuple #[.slice none 0 0, .int .i64 qe]))
     have HT4 := h_ (HT2.out.below hw4)
     have HW4 := t_ HW2 hw4
     have HB4 := h_ (HB.out HOKA.out w4 HW4.out)
     clear hw4 HT2 HW2 p0 p1 p2 p3 p4 HA3 HB
     obtain ⟨p0, p1, p2, p3, p4⟩ := HT4.out.c5
     go_wp2_with fail
     refine HB4.out.mono ?_
     intro e w6 hp
     obtain ⟨hp, hw6⟩ := hp
     obtain rfl := (hp : e = .returned (.tuple #[.slice none 0 0, .int .i64 qe]))
     have HW6 := t_ HW4 hw6
     have HS7 := h_ (rlist_self [] none none 0 0 w6 (by simp) (by simp) (VVI.nil _ _) (VVI.nil _ _))
     clear hw6 HT4 HW4 HB4 p0 p1 p2 p3 p4
     go_wp2_with fail
     refine HS7.out.mono ?_
     rintro e w8 ⟨rfl, hw8⟩
     have HW8 := t_ HW6 hw8
     clear hw8 HS7
     have HTT := h_ (HT.out w8 HW8.out)
     go_wp2_with fail
     refine HTT.out.mono ?_
     rintro e w40 ⟨rfl, hw40⟩
     have HW40 := t_ HW8 hw40
     clear hw40
     go_wp2_with fail
     go_ret
     exact ⟨rfl, HW40.out⟩
    | inl Ms =>
     obtain ⟨hm1, hm2⟩ := HML.out Ms rfl
     have HM2 := h_ hm2
     clear hm2
     go_wp2_with fail
     refine HA3.out.mono ?_
     intro e w4 hp
     obtain ⟨hp, hw4⟩ := hp
     obtain ⟨ya1, ym1, rfl, hxf1⟩ := (hp : ∃ a c, e = .returned (.tuple #[.slice a Ms.length c, .int .i64 0]) /\ ∀ wz : World, (∀ b, w2.heap.size <= b -> b < w4.heap.size -> wz.heap[b]? = w4.heap[b]?) -> VVI wz Ms a)
     have HXF1 := h_ hxf1
     clear hxf1
     have HT4 := h_ (HT2.out.below hw4)
     have HW4 := t_ HW2 hw4
     have HB4 := h_ (HB.out HOKA.out w4 HW4.out)
     clear hw4 HT2 HW2 p0 p1 p2 p3 p4 HA3 HB
     obtain ⟨p0, p1, p2, p3, p4⟩ := HT4.out.c5
     go_wp2_with fail
     refine HB4.out.mono ?_
     intro e w6 hp
     obtain ⟨hp, hw6⟩ := hp
     obtain ⟨ya2, ym2, rfl, hxf2⟩ := (hp : ∃ a c, e = .returned (.tuple #[.slice a Ms.length c, .int .i64 0]) /\ ∀ wz : World, (∀ b, w4.heap.size <= b -> b < w6.heap.size -> wz.heap[b]? = w6.heap[b]?) -> VVI wz Ms a)
     have HXF2 := h_ hxf2
     clear hxf2
     have HW6 := t_ HW4 hw6
     have HS7 := h_ (rlist_self Ms ya1 ya2 ym1 ym2 w6 hm1 HM2.out (HXF1.out w6 fun b b1 b2 => hw6.block b b2) (HXF2.out w6 fun _ _ _ => rfl))
     clear hw6 HT4 HW4 HB4 p0 p1 p2 p3 p4
     go_wp2_with fail
     refine HS7.out.mono ?_
     rintro e w8 ⟨rfl, hw8⟩
     have HW8 := t_ HW6 hw8
     clear hw8 HS7
     have HTT := h_ (HT.out w8 HW8.out)
     go_wp2_with fail
     refine HTT.out.mono ?_
     rintro e w40 ⟨rfl, hw40⟩
     have HW40 := t_ HW8 hw40
     clear hw40
     go_wp2_with fail
     go_ret
     exact ⟨rfl, HW40.out⟩
   ·have dq : (q != 0) = true := by simp [hq]
    have HTT := h_ (HT.out w2 HW2.out)
    go_wp2_with fail
    refine HTT.out.mono ?_
    rintro e w40 ⟨rfl, hw40⟩
    have HW40 := t_ HW2 hw40
    clear hw40
    go_wp2_with fail
    go_ret
    exact ⟨rfl, HW40.out⟩
theorem rows_tr (t : Tbl) (l : List (List X)) (ts : List Value) (v : Value) (w : World) (hL : t.cols.length <= 1000000) (hK : t.key.length <= 1099511627776) (hfl : ∀ f ∈ t.fors, f.cols.length <= 1099511627776) (hcs : ∀ x ∈ t.checks, nodes x <= 1000000 /\ shortX x) (hk : l.length <= 2000000) (hls : ∀ r ∈ l, r.length <= 1000000 /\ ∀ x ∈ r, nodes x <= 1000000 /\ shortX x) (hE : Env w) (htb : Ax.TabW w) (ht : TR w t ts) (hs : LL w l v) : Calls Tryz.prog 5 #[.agg ts.toArray, v] w (fun e w' => e = .returned (.bool true) /\ Below w.heap.size w w') := by
 obtain ⟨a1, m1, a2, m2, a3, m3, a4, m4, rfl, _, h1, h2, h3, h4⟩ := ht.lits
 obtain ⟨sa, n, sm, xs, e1, e2, e3, _⟩ := hs.slice_inv Tryz.underlying47
 injection e1 with e1 _
 injection e2 with e2
 subst e1 e2
 rw [List.length_map] at e3
 subst e3
 exact rows_walk t.cols t.key t.fors t.checks t.nm a1 a2 a3 a4 m1 m2 m3 m4 l sa sm w hL hK hfl hcs hk hls hE htb h1 h2 h3 h4 hs
end Go.Proofs.YtnlimlboedohgaaGreatDoor.Px

