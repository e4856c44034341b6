/-
  Operations that change memory: maps, iterators, stores.
-/
import Derived.Test.YtnlimlboedohgaaGreatDoorAxRead
namespace Go.Proofs.YtnlimlboedohgaaGreatDoor.Ax
open Go.RowKit
set_option linter.unusedVariables false
set_option linter.unusedSimpArgs false

section
variable {P : Program} {c : Cx} {g : Gm} {h : Hp} {nx nx' : Nat} {w w' : World} {t : Tr RV} {ρ : Operand -> Value}
/-- an operation yields a value, or nothing -/
def StepN (P : Program) (c : Cx) (g : Gm) (m : Sem Next) (w : World) (r : RV) (h' : Hp) (nx' : Nat) : Prop :=
 ∃ g' v w', (m.run P w = .ok (.value v) w' \/ (m.run P w = .ok .skip w' /\ v = undef)) /\ R g' c.env r v /\ Ext g g' /\ RW c g' h' nx' w'
theorem DoesN.step {m : Sem Next} {r : RV} {h' : Hp} (hd : DoesN P c c g m w r h' nx') : StepN P c g m w r h' nx' := by
 obtain ⟨g', v, w', h1, h2⟩ := hd
 exact ⟨g', v, w', .inl h1, h2⟩
/-- an object that is no row of cells is set anew -/
theorem RW.setObj (hw : RW c g h nx w) {G q n : Nat} {ob ob' : OB} {o : Obj} (hget : h.get G = some ob) (hl : LiveOb ob 0) (hq : g G 0 = some (q, n)) (hl' : ∀ e, LiveOb ob' e -> e = 0) (hok : ∀ w', w'.heap[q]? = some o -> OK c g w' G ob') :
  RW c g (h.set G ob') nx { w with heap := w.heap.setIfInBounds q o } := by
 have hlive : Live h G 0 := ⟨ob, hget, hl⟩
 obtain ⟨hK, hqlt⟩ := hw.live_at hlive hq
 have hoth : ∀ k, k ≠ q -> ({ w with heap := w.heap.setIfInBounds q o } : World).heap[k]? = w.heap[k]? := fun k hk => Array.getElem?_setIfInBounds_ne (fun e => hk e.symm)
 refine hw.upd (F' := c.F) ⟨rfl, rfl, rfl, by simp⟩ (fun k o' hk => hoth k fun e => by rw [e, hK] at hk; cases hk) (fun G' e' k m hne hl2 hk => hoth k fun ee => ?_) (Ext.refl g) (fun _ _ _ => rfl) (hw.not_fix hlive) (Nat.le_refl _) (hw.lt_nx hq) (hok _ ?_) ?_
 ·subst ee
  exact hne (hw.sep _ _ _ _ _ _ _ hl2 hlive hk hq)
 ·show (w.heap.setIfInBounds q o)[q]? = some o
  rw [Array.getElem?_setIfInBounds_self]
  simp [hqlt]
 ·intro e q' n' he hq' G' e' n'' hne hl2 hq''
  have := hl' e he
  subst this
  rw [hq] at hq'
  cases hq'
  exact hne (hw.sep _ _ _ _ _ _ _ hl2 hlive hq'' hq)
/-! ### maps -/
theorem keyEq_bits {env : Nat -> Value} {x k : RV} {u v : Value} (hk : keyEq x k = some true) (hx : R g env x u) (hv : R g env k v) (n : Nat) : Instr.sameBits n v u = true := by
 unfold keyEq at hk
 split at hk <;> try cases hk
 ·rename_i l m
  cases hx with
  | str h1 =>
   cases hv with
   | str h2 =>
    have : l = m := eqLN_iff.1 (Option.some.inj hk)
    subst this
    cases n <;> simp [Instr.sameBits, bytes_beq2]
 ·rename_i j a k b
  cases hx
  cases hv
  split at hk
  ·rename_i e
   have e2 := Option.some.inj hk
   subst e
   have := Nat.eq_of_beq_eq_true e2
   subst this
   cases n <;> simp [Instr.sameBits]
  ·cases hk
 ·rename_i a b
  cases hx
  cases hv
  have e : (a == b) = true := Option.some.inj hk
  have := eq_of_beq e
  subst this
  cases n <;> simp [Instr.sameBits]
theorem setE_now {β : Type} {env : Nat -> Value} {d : TypeDesc} {x v : RV} {u : Value} {ck : Nat} (hd : flatKey d x = true) (hx : R g env x u) : ∀ {es : List (RV × RV × Nat)} {l : List MapEntry} {f : List (RV × RV × Nat) -> Bool -> Option β} {y : β} (i : Nat), setE es x v ck f = some y -> ES g env es l ->
  (∃ es', f es' true = some y /\ Instr.findNow d u l i = some none /\ es' = es ++ [(x, v, ck)]) \/ ∃ es' j val e0, f es' false = some y /\ Instr.findNow d u l i = some (some (i + j, val)) /\ l[j]? = some e0 /\ (∀ n, Instr.sameBits n e0.key u = true) /\ ∀ vv, R g env v vv -> ES g env es' (l.modify j fun e => { e with key := u, val := vv })
 | [], l, f, y, i, hf, hl => by
  have : l = [] := List.eq_nil_of_length_eq_zero (by rw [<- hl.1]; rfl)
  subst this
  exact .inl ⟨_, hf, rfl, rfl⟩
 | (k, v0, b) :: es, [], f, y, i, hf, hl => by have := hl.1; simp at this
 | (k, v0, b) :: es, e0 :: l, f, y, i, hf, hl => by
  obtain ⟨⟨h1, h2, h3⟩, h4⟩ := hl.tail
  unfold setE at hf
  split at hf <;> try cases hf
  ·rename_i hk
   have := keyEq_same hk hd hx h1
   refine .inr ⟨_, 0, e0.val, e0, hf, by simp [Instr.findNow, this], rfl, keyEq_bits hk hx h1, fun vv hvv => ⟨by simpa using hl.1, fun j k1 k2 => ?_⟩⟩
   rcases j with _ | j
   ·exact ⟨hx, hvv, h3⟩
   ·simp only [List.modify_zero_cons, List.getElem_cons_succ]
    exact h4.2 j (by simpa using k1) (by simpa using k2)
  ·rename_i hk
   have := keyEq_same hk hd hx h1
   rcases setE_now hd hx (i + 1) hf h4 with ⟨es', a1, a2, a3⟩ | ⟨es', j, val, e1, a1, a2, a3, a4, a5⟩
   ·exact .inl ⟨_, a1, by simp [Instr.findNow, this, a2], by rw [a3]; rfl⟩
   ·refine .inr ⟨_, j + 1, val, e1, a1, by simp only [Instr.findNow, this, a2]; congr 3; omega, a3, a4, fun vv hvv => ?_⟩
    have a6 := a5 vv hvv
    refine ⟨by have := a6.1; simp at this |-; omega, fun j' k1 k2 => ?_⟩
    rcases j' with _ | j'
    ·exact ⟨h1, h2, h3⟩
    ·simp only [List.modify_succ_cons, List.getElem_cons_succ]
     exact a6.2 j' (by simpa using k1) (by simpa using k2)
theorem mapSet_does {ty : TypeId} {m k v : RV} {h' : Hp} {vm vk vv : Value} (hf : mapSetR P h ty m k v = some h') (hm : R g c.env m vm) (hk : R g c.env k vk) (hv : R g c.env v vv) (hw : RW c g h nx w) : ∃ w', (Instr.mapUpdate ty vm vk vv).run P w = .ok () w' /\ RW c g h' nx w' := by
 unfold mapSetR at hf
 split at hf <;> try cases hf
 rename_i kt et G hu
 split at hf <;> try cases hf
 rename_i d es ck hd hg
 cases hb : flatKey d k && oneR v with
 | false => rw [hb] at hf; cases hf
 | true =>
  rw [hb, cond_true] at hf
  rw [Bool.and_eq_true] at hb
  obtain ⟨hfk, _⟩ := hb
  obtain ⟨h0, q, arr, h1, h2, h3, h4, h5⟩ := hw.ok G _ hg
  cases hm with
  | mp hq =>
  rename_i q' n'
  rw [h1] at hq
  cases hq
  have hck := fun b w => run_checkKey (P := P) hd hfk hk b w
  have hES : ES g c.env es arr.toList := ⟨by simpa using h4.symm, fun j a b => by simpa using h5 j a (by simpa using b)⟩
  have mk : ∀ {es' : List (RV × RV × Nat)} {arr' : Array MapEntry} {ck' : Nat}, ES g c.env es' arr'.toList -> RW c g (h.set G (.mp es' ck')) nx { w with heap := w.heap.setIfInBounds q (.map arr' ck') } := fun hE =>
   hw.setObj hg rfl h1 (fun e he => he) fun w' hq' => ⟨h0, q, _, h1, h2, hq', by have := hE.1; simp at this; omega, fun j a b => hE.2 j a (by simpa using b)⟩
  rcases setE_now hfk hk 0 hf hES with ⟨es', a1, a2, rfl⟩ | ⟨es', j, val, e0, a1, a2, a3, a4, a5⟩
  ·rw [forceN_eq, putT_eq] at a1
   cases a1
   refine ⟨{ w with heap := w.heap.setIfInBounds q (.map (arr.push { key := vk, val := vv, born := ck }) (ck + 1)) }, ?_, mk ?_⟩
   ·simp [Instr.mapUpdate, run_underlying hu, getObj, setObj, Sem.run, h3, hck, Instr.findKey, run_underlying hd, a2]
   ·refine ⟨by have := hES.1; simp at this |-; omega, fun j k1 k2 => ?_⟩
    simp only [Array.toList_push]
    rcases Nat.lt_or_ge j es.length with hj | hj
    ·have hj2 : j < arr.toList.length := by rw [<- hES.1]; exact hj
     rw [List.getElem_append_left hj, List.getElem_append_left hj2]
     exact hES.2 j hj hj2
    ·have hj3 : j = es.length := by simp at k1; omega
     have hj4 : arr.toList.length <= j := by rw [<- hES.1]; omega
     have e1 : (es ++ [(k, v, ck)])[j]'k1 = (k, v, ck) := by
      rw [List.getElem_append_right hj]
      simp [hj3]
     have k3 : j < (arr.toList ++ [{ key := vk, val := vv, born := ck : MapEntry }]).length := by simpa using k2
     have e2 : (arr.toList ++ [{ key := vk, val := vv, born := ck : MapEntry }])[j]'k3 = { key := vk, val := vv, born := ck } := by
      rw [List.getElem_append_right hj4]
      simp
     rw [e1, e2]
     exact ⟨hk, hv, rfl⟩
  ·rw [putT_eq] at a1
   cases a1
   have hjl : j < arr.size := by
    have := (List.getElem?_eq_some_iff.1 a3).1
    simpa using this
   have hkey : arr[j] = e0 := by
    have := (List.getElem?_eq_some_iff.1 a3).2
    simpa using this
   refine ⟨{ w with heap := w.heap.setIfInBounds q (.map (arr.modify j fun e => { e with key := vk, val := vv }) ck) }, ?_, mk ?_⟩
   ·simp only [Nat.zero_add] at a2
    have hks : (Instr.keyThatStays (((arr[j]?).map (·.key)).getD vk) vk).run P w = .ok vk w := by
     rw [Array.getElem?_eq_getElem hjl, hkey]
     simp [Instr.keyThatStays, a4]
    simp only [Array.getElem?_eq_getElem hjl, hkey, Option.map_some, Option.getD_some] at hks
    simp [Instr.mapUpdate, run_underlying hu, getObj, setObj, Sem.run, h3, hck, Instr.findKey, run_underlying hd, a2, hjl, hkey, hks]
   ·have := a5 vv hv
    rw [Array.toList_modify]
    exact this
theorem delE_now {β : Type} {env : Nat -> Value} {d : TypeDesc} {x : RV} {u : Value} (hd : flatKey d x = true) (hx : R g env x u) : ∀ {es : List (RV × RV × Nat)} {l : List MapEntry} {f : List (RV × RV × Nat) -> Option β} {y : β} (i : Nat), delE es x f = some y -> ES g env es l ->
  (f es = some y /\ Instr.findNow d u l i = some none) \/ ∃ es' j val, f es' = some y /\ Instr.findNow d u l i = some (some (i + j, val)) /\ j < l.length /\ ES g env es' (l.eraseIdx j)
 | [], l, f, y, i, hf, hl => by
  have : l = [] := List.eq_nil_of_length_eq_zero (by rw [<- hl.1]; rfl)
  subst this
  exact .inl ⟨hf, rfl⟩
 | (k, v0, b) :: es, [], f, y, i, hf, hl => by have := hl.1; simp at this
 | (k, v0, b) :: es, e0 :: l, f, y, i, hf, hl => by
  obtain ⟨⟨h1, h2, h3⟩, h4⟩ := hl.tail
  unfold delE at hf
  split at hf <;> try cases hf
  ·rename_i hk
   have := keyEq_same hk hd hx h1
   exact .inr ⟨_, 0, e0.val, hf, by simp [Instr.findNow, this], by simp, h4⟩
  ·rename_i hk
   have := keyEq_same hk hd hx h1
   rcases delE_now hd hx (i + 1) hf h4 with ⟨a1, a2⟩ | ⟨es', j, val, a1, a2, a3, a5⟩
   ·exact .inl ⟨a1, by simp [Instr.findNow, this, a2]⟩
   ·refine .inr ⟨_, j + 1, val, a1, by simp only [Instr.findNow, this, a2]; congr 3; omega, by simp; omega, ?_⟩
    refine ⟨by have := a5.1; simp at this |-; omega, fun j' k1 k2 => ?_⟩
    rcases j' with _ | j'
    ·exact ⟨h1, h2, h3⟩
    ·simp only [List.eraseIdx_cons_succ, List.getElem_cons_succ]
     exact a5.2 j' (by simpa using k1) (by simpa using k2)
theorem del_does {ty tt : TypeId} {ats : Array TypeId} {m k : RV} {h' : Hp} {vm vk : Value} (hat : ats[0]? = some ty) (hf : delR P h ty m k = some h') (hm : R g c.env m vm) (hk : R g c.env k vk) (hw : RW c g h nx w) : Does P c c g (Builtin.delete_ ats tt #[vm, vk]) w (.lit (.tuple #[])) h' nx := by
 unfold delR at hf
 split at hf <;> try cases hf
 rename_i kt et G hu
 split at hf <;> try cases hf
 rename_i d es ck hd hg
 cases hfk : flatKey d k with
 | false => rw [hfk] at hf; cases hf
 | true =>
  rw [hfk, cond_true] at hf
  obtain ⟨h0, q, arr, h1, h2, h3, h4, h5⟩ := hw.ok G _ hg
  cases hm with
  | mp hq =>
  rename_i q' n'
  rw [h1] at hq
  cases hq
  have hck := fun b w => run_checkKey (P := P) hd hfk hk b w
  have hES : ES g c.env es arr.toList := ⟨by simpa using h4.symm, fun j a b => by simpa using h5 j a (by simpa using b)⟩
  have mk : ∀ {es' : List (RV × RV × Nat)} {arr' : Array MapEntry} {ck' : Nat}, ES g c.env es' arr'.toList -> RW c g (h.set G (.mp es' ck')) nx { w with heap := w.heap.setIfInBounds q (.map arr' ck') } := fun hE =>
   hw.setObj hg rfl h1 (fun e he => he) fun w' hq' => ⟨h0, q, _, h1, h2, hq', by have := hE.1; simp at this; omega, fun j a b => hE.2 j a (by simpa using b)⟩
  rcases delE_now hfk hk 0 hf hES with ⟨a1, a2⟩ | ⟨es', j, val, a1, a2, a3, a5⟩
  ·rw [putT_eq] at a1
   cases a1
   refine ⟨g, _, { w with heap := w.heap.setIfInBounds q (.map arr ck) }, ?_, .lit _, Ext.refl g, mk hES⟩
   simp [Builtin.delete_, hat, run_underlying hu, getObj, setObj, Sem.run, h3, hck, Instr.findKey, run_underlying hd, a2]
  ·rw [putT_eq] at a1
   cases a1
   have hjl : j < arr.size := by simpa using a3
   have he : arr.eraseIdxIfInBounds j = arr.eraseIdx j hjl := by simp [Array.eraseIdxIfInBounds, hjl]
   refine ⟨g, _, { w with heap := w.heap.setIfInBounds q (.map (arr.eraseIdxIfInBounds j) ck) }, ?_, .lit _, Ext.refl g, mk ?_⟩
   ·simp only [Nat.zero_add] at a2
    simp [Builtin.delete_, hat, run_underlying hu, getObj, setObj, Sem.run, h3, hck, Instr.findKey, run_underlying hd, a2]
   ·rw [he]
    simpa using a5
end
end Go.Proofs.YtnlimlboedohgaaGreatDoor.Ax
