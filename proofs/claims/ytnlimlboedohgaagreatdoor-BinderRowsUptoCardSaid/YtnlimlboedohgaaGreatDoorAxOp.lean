/-
  One operation, whatever it is.
-/
import Derived.Lib.MakeNoZero
import Derived.Test.YtnlimlboedohgaaGreatDoorAxEff3
import Derived.Laws.Externs
import Derived.KernelRfl
import Derived.OrdersIn
import Derived.RangeFuncRecord
namespace Go.Proofs.YtnlimlboedohgaaGreatDoor.Ax
open Go.RowKit
set_option linter.unusedVariables false
set_option linter.unusedSimpArgs false

theorem find_noEscape (fn : Func) (h : fn.name = "internal/abi.NoEscape") : Extern.find fn = some Extern.AbiNoEscape.same := by
 have h1 : Extern.allGenericRows.lookup "internal/abi.NoEscape" = none := by kernel_rfl
 have h2 : Extern.allTypedRows.lookup "internal/abi.NoEscape" = none := by kernel_rfl
 have h3 : Extern.allRows.lookup "internal/abi.NoEscape" = some Extern.AbiNoEscape.same := by kernel_rfl
 unfold Extern.find
 simp only [h, h1, h2, h3]
 rfl
section
variable {P : Program} {c : Cx} {g : Gm} {h h' : Hp} {nx nx' : Nat} {w w' : World} {t : Tr RV} {ρ : Operand -> Value} {call : CallR}
/-- a function that runs -/
def Runs (P : Program) (f : FuncId) : Prop := ∃ fn code, P.funcs[f]? = some fn /\ ¬ (fn.name == "runtime.NumGoroutine") = true /\ fn.body = some code
/-- what is asked at a call's end -/
def EndK (c : Cx) (g : Gm) (h' : Hp) (nx' : Nat) (K : Ending -> World -> Prop) : RE -> Prop
 | .ret r => ∀ g' v w', R g' c.env r v -> Ext g g' -> RW c g' h' nx' w' -> K (.returned v) w'
 | .pan r => ∀ g' v w', R g' c.env r v -> Ext g g' -> RW c g' h' nx' w' -> K (.panicked [{ v, recovered := false }]) w'
/-- no fence; in a round, or in none -/
def Wd (ro : Option Nat) : Fence := { fn := fun _ => True, depth := none, alive := false, round := ro }
theorem callsIn_Wd {ro : Option Nat} {n : Nat} {f : FuncId} {args : Array Value} {w : World} {R : Ending -> World -> Prop} : CallsIn (Wd ro) n P f args w R ↔ Calls P f args w R := callsIn_wide
theorem roundIn_Wd {ro : Option Nat} {n l : Nat} {f : FuncId} {tmps : Array Value} {assign body : Code} {w : World} {R : Ending -> World -> Prop} (h : RoundIn (Wd none) 0 P l f tmps assign body w R) : RoundIn (Wd ro) n P l f tmps assign body w R :=
 ⟨trivial, fun c cs _ => h.2 c cs fun _ h => (by cases h)⟩
def CallFOK (P : Program) (call : CallR) : Prop := ∀ f args h nx re h' nx', call (.fn f) args h nx = some (re, h', nx') -> Runs P f /\ ∀ (c : Cx) (g : Gm) (w : World) (vs : List Value), RL g c.env args vs -> RW c g h nx w -> ∀ K, EndK c g h' nx' K re -> Calls P f vs.toArray w K
def CallYOK (P : Program) (call : CallR) : Prop := ∀ G args h nx re h' nx', call (.yld G) args h nx = some (re, h', nx') -> ∀ (c : Cx) (g : Gm) (w : World) (vs : List Value), RL g c.env args vs -> RW c g h nx w -> ∀ K, EndK c g h' nx' K re -> ∀ q n, g G 0 = some (q, n) -> ∃ r : Loop, w.heap[q]? = some (.loop r) /\ vs.toArray.size = r.params.size /\
 RoundIn (Wd none) 0 P q r.fn ((r.params.zip vs.toArray).foldl (fun tmps (t, a) => tmps.setIfInBounds t a) r.tmps) r.assign r.body w K
/-- a reckoning of calls is right -/
def CallOK (P : Program) (call : CallR) : Prop := CallFOK P call /\ CallYOK P call
theorem Runs.enter {f : FuncId} (hr : Runs P f) (args : Array Value) (w : World) : (callFunc f args).run P w = .ok (.enter f args) w := by
 obtain ⟨fn, code, h1, h2, h3⟩ := hr
 have h2' : fn.name ≠ "runtime.NumGoroutine" := by simpa using h2
 simp [callFunc, h1, h2', h3]
theorem RW.getOt {h : Hp} {nx : Nat} {w : World} (hw : RW c g h nx w) {G : Nat} {b : LB} (hget : h.get G = some (.ot b)) : ∃ q o, g G 0 = some (q, 0) /\ w.heap[q]? = some o /\ LBR g c.env b o := by
 obtain ⟨_, q, o, h1, _, h2, h3⟩ := hw.ok G _ hget
 exact ⟨q, o, h1, h2, h3⟩
theorem RW.setOt {h : Hp} {nx : Nat} {w : World} (hw : RW c g h nx w) {G q n : Nat} {b b' : LB} {o : Obj} (hget : h.get G = some (.ot b)) (hq : g G 0 = some (q, n)) (hb : LBR g c.env b' o) : RW c g (h.set G (.ot b')) nx (w.putObj q o) := by
 obtain ⟨h0, q', o', h1, hK, h2, h3⟩ := hw.ok G _ hget
 rw [hq] at h1
 cases h1
 exact hw.setObj hget rfl hq (fun e he => he) fun w' hw' => ⟨h0, q, o, hq, hK, hw', hb⟩
theorem filterES {env : Nat -> Value} (p : Nat -> Bool) : ∀ {es : List (RV × RV × Nat)} {l : List MapEntry}, ES g env es l -> ES g env (es.filter fun e => p e.2.2) (l.filter fun e => p e.born)
 | [], [], _ => ⟨rfl, fun j h1 => absurd h1 (by simp)⟩
 | [], _ :: _, h => by have := h.1; simp at this
 | _ :: _, [], h => by have := h.1; simp at this
 | x :: es, y :: l, h => by
  obtain ⟨⟨h1, h2, h3⟩, h4⟩ := h.tail
  have ih := filterES p h4
  simp only [List.filter_cons, h3]
  cases p x.2.2 with
  | false => exact ih
  | true =>
   refine ⟨by simp [ih.1], fun j k1 k2 => ?_⟩
   rcases j with _ | j
   ·exact ⟨h1, h2, h3⟩
   ·exact ih.2 j (by simpa using k1) (by simpa using k2)
theorem allES {env : Nat -> Value} (p : Nat -> Bool) : ∀ {es : List (RV × RV × Nat)} {l : List MapEntry}, ES g env es l -> (l.all fun e => p e.born) = es.all fun e => p e.2.2
 | [], [], _ => rfl
 | [], _ :: _, h => by have := h.1; simp at this
 | _ :: _, [], h => by have := h.1; simp at this
 | x :: es, y :: l, h => by
  obtain ⟨⟨h1, h2, h3⟩, h4⟩ := h.tail
  simp only [List.all_cons, h3, allES p h4]
theorem rangeM_does {ty kt et : TypeId} {G ck : Nat} {es : List (RV × RV × Nat)} {u : Value} (hu : P.underlying ty = some (.map kt et)) (hg : h.get G = some (.mp es ck)) (hx : R g c.env (.mp G) u) (hw : RW c g h nx w) : Does P c c g (Instr.range ty u) w (.ptr nx 0 0) (h.set nx (.ot (.mi G ck [] ck))) (nx + 1) := by
 obtain ⟨h0, q, arr, h1, h2, h3, h4, h5⟩ := hw.ok G _ hg
 cases hx with
 | mp hq =>
 rename_i q' n'
 rw [h1] at hq
 cases hq
 refine ⟨_, .pointer (some ⟨w.heap.size, 0, none⟩), _, ?_, .ptr gSet_self, gSet_ext (hw.free nx 0 (Nat.le_refl _)), hw.allocOt (o := .mapIter (some q) ck #[] ck) ⟨q, 0, h1, rfl⟩⟩
 simp [Instr.range, run_underlying hu, Go.newObj, Sem.run, getObj, h3]
theorem nextM_does {G m since last ck nx2 : Nat} {seen : List Nat} {es : List (RV × RV × Nat)} {u : Value} {tt : TypeId} {re : RE} {h2 : Hp} (he : nextMR h nx G m since seen last es ck = some (re, h2, nx2)) (hg : h.get G = some (.ot (.mi m since seen last))) (hm : h.get m = some (.mp es ck)) (hx : R g c.env (.ptr G 0 0) u) (hw : RW c g h nx w) :
  ∃ r, re = .ret r /\ Does P c c g (Instr.next u false tt) w r h2 nx2 := by
 obtain ⟨q, o, hq, ho, qm, nm, hqm, rfl⟩ := hw.getOt hg
 obtain ⟨h0, q2, arr, h1, hK, h3, h4, h5⟩ := hw.ok m _ hm
 rw [hqm] at h1
 cases h1
 cases hx with
 | ptr hp =>
 rename_i q' n'
 rw [hq] at hp
 cases hp
 have hES : ES g c.env es arr.toList := ⟨by simpa using h4.symm, fun j a b => by simpa using h5 j a (by simpa using b)⟩
 have hleft := filterES (fun b => !(seen.contains b)) hES
 have hall := allES (fun b => decide (last <= b)) hES
 unfold nextMR at he
 cases hs : (!seen.isEmpty && !es.isEmpty && es.all fun e => decide (last <= e.2.2)) with
 | true => rw [hs] at he; cases he
 | false =>
 rw [hs, cond_false] at he
 have hst : (!seen.toArray.isEmpty && !arr.isEmpty && arr.all fun e => decide (e.born ≥ last)) = false := by
  have e1 : arr.isEmpty = es.isEmpty := by
   rw [<- Array.isEmpty_toList]
   cases es with
   | nil => rw [List.eq_nil_of_length_eq_zero hES.1.symm]; rfl
   | cons x l => cases hh : arr.toList with
    | nil => rw [hh] at hES; have := hES.1; simp at this
    | cons y l => rfl
  rw [<- Array.all_toList, e1]
  simp only [ge_iff_le, hall]
  simpa using hs
 have hfl : (arr.filter fun e => !seen.toArray.contains e.born).toList = arr.toList.filter fun e => !(seen.contains e.born) := by simp
 have hrun : (Instr.next (.pointer (some ⟨q, 0, none⟩)) false tt).run P w = (do
   let left := arr.filter fun e => !seen.toArray.contains e.born
   let old := left.filter (·.born < since)
   let new := left.filter (·.born ≥ since)
   let candidates := (if old.isEmpty then #[none] else #[]) ++ (old ++ new).map some
   match candidates[<- choose (.mapNext candidates.size)]? with
   | some (some e) =>
    setObj q (.mapIter (some qm) since (seen.toArray.push e.born) ck)
    pure (.tuple #[.bool true, e.key, e.val])
   | some none => pure (.tuple #[.bool false])
   | none => stuck "Next: no such candidate" : Sem Value).run P w := by
  simp only [Instr.next, Sem.run_bind, getObj, Sem.run, ho, h3, Result.andThen, hst, Bool.false_eq_true, if_false]
  rfl
 rw [show (leftE seen es) = es.filter fun e => !(seen.contains e.2.2) from rfl] at he
 split at he
 ·rename_i hl
  cases he
  rw [hl] at hleft
  have e0 : (arr.filter fun e => !seen.toArray.contains e.born) = #[] := by
   apply Array.ext'
   rw [hfl]
   exact List.eq_nil_of_length_eq_zero hleft.1.symm
  refine ⟨_, rfl, g, .tuple #[.bool false], w, ?_, .tup rfl (fun i h1 h2 => ?_), Ext.refl g, hw⟩
  ·rw [hrun, e0]
   simp [choose, Question.forced, Sem.run]
  ·have : i = 0 := by simpa using h1
   subst this
   exact .lit _
 ·rename_i k v b hl
  cases hb : Nat.ble (b + 1) since with
  | false => rw [hb] at he; cases he
  | true =>
  rw [hb, cond_true, putT_eq] at he
  cases he
  rw [hl] at hleft
  obtain ⟨e, hee⟩ : ∃ e, (arr.toList.filter fun e => !(seen.contains e.born)) = [e] := by
   exact List.length_eq_one_iff.1 hleft.1.symm
  rw [hee] at hleft hfl
  obtain ⟨x1, x2, x3⟩ := hleft.2 0 (by simp) (by simp)
  have x3' : e.born = b := x3
  have hlt : e.born < since := by rw [x3']; exact Nat.le_of_ble_eq_true hb
  have e0 : (arr.filter fun e => !seen.toArray.contains e.born) = #[e] := Array.ext' hfl
  refine ⟨_, rfl, g, .tuple #[.bool true, e.key, e.val], w.putObj q (.mapIter (some qm) since (seen.toArray.push e.born) ck), ?_, .tup rfl (fun i h1 h2 => ?_), Ext.refl g, hw.setOt hg hq ⟨qm, 0, hqm, by rw [x3']; simp⟩⟩
  ·rw [hrun, e0]
   have f1 : (#[e].filter (·.born < since)) = #[e] := by simp [hlt]
   have f2 : (#[e].filter (·.born ≥ since)) = #[] := by simp [hlt]
   simp only [f1, f2]
   simp [setObj, Sem.run, ho, World.putObj, choose, Question.forced]
  ·have : i = 0 \/ i = 1 \/ i = 2 := by simp at h1; omega
   rcases this with rfl | rfl | rfl
   ·exact .lit _
   ·exact x1
   ·exact x2
 ·cases he
theorem findES {env : Nat -> Value} (p : Nat -> Bool) : ∀ {es : List (RV × RV × Nat)} {l : List MapEntry} {x : RV × RV × Nat}, ES g env es l -> es.find? (fun e => p e.2.2) = some x -> ∃ y, l.find? (fun e => p e.born) = some y /\ R g env x.1 y.key /\ R g env x.2.1 y.val
 | [], l, x, h, hf => by cases hf
 | _ :: _, [], x, h, hf => by have := h.1; simp at this
 | a :: es, y :: l, x, h, hf => by
  obtain ⟨⟨h1, h2, h3⟩, h4⟩ := h.tail
  rw [List.find?_cons] at hf
  rw [List.find?_cons, h3]
  cases hp : p a.2.2 with
  | true =>
   rw [hp] at hf
   cases hf
   exact ⟨y, rfl, h1, h2⟩
  | false =>
   rw [hp] at hf
   exact findES p h4 hf
theorem entry_does {G m since stepped ck : Nat} {seen : List Nat} {es : List (RV × RV × Nat)} {u : Value} {r : RV} (he : entryR seen stepped es ck = some r) (hg : h.get G = some (.ot (.mi m since seen stepped))) (hm : h.get m = some (.mp es ck)) (hx : R g c.env (.ptr G 0 0) u) (hw : RW c g h nx w) : Does P c c g (Instr.entry u) w r h nx := by
 obtain ⟨q, o, hq, ho, qm, nm, hqm, rfl⟩ := hw.getOt hg
 obtain ⟨h0, q2, arr, h1, hK, h3, h4, h5⟩ := hw.ok m _ hm
 rw [hqm] at h1
 cases h1
 cases hx with
 | ptr hp =>
 rename_i q' n'
 rw [hq] at hp
 cases hp
 have hES : ES g c.env es arr.toList := ⟨by simpa using h4.symm, fun j a b => by simpa using h5 j a (by simpa using b)⟩
 unfold entryR at he
 cases hb : Nat.beq ck stepped with
 | false => rw [hb] at he; cases he
 | true =>
 rw [hb, cond_true] at he
 have hck := Nat.eq_of_beq_eq_true hb
 subst hck
 split at he <;> try cases he
 rename_i b hlast
 split at he <;> try cases he
 rename_i k v b' hfind
 obtain ⟨y, k1, k2, k3⟩ := findES (fun x => x == b) hES hfind
 have hback : seen.toArray.back? = some b := by simpa using hlast
 have hfa : (arr.find? fun e => e.born == b) = some y := by
  rw [<- Array.find?_toList]
  exact k1
 refine ⟨g, .tuple #[y.key, y.val], w, ?_, .tup rfl (fun i h1 h2 => ?_), Ext.refl g, hw⟩
 ·simp [Instr.entry, getObj, Sem.run, ho, h3, hback, hfa]
 ·have : i = 0 \/ i = 1 := by simp at h1; omega
  rcases this with rfl | rfl
  ·exact k2
  ·exact k3
/-- who is called, with what -/
theorem target_sound {o : Oper} {fx : Operand} {args : Array Operand} {ats : Array TypeId} {f : FuncId} {ags : List RV} (ho : o.op = .call ⟨.value fx, args, ats⟩) (ha : targetR (evalR t fx) (args.toList.map (evalR t)) = some (f, ags)) (hρ : ∀ x ∈ o.op.operands, R g c.env (evalR t x) (ρ x)) :
  ∃ vs : List Value, RL g c.env ags vs /\ execOp ρ o = callFunc f vs.toArray := by
 have hf := hρ fx (by simp [ho, Op.operands, Call.operands])
 have hargs : RL g c.env (args.toList.map (evalR t)) (args.toList.map ρ) := RL.map fun x hx => hρ x (by simp [ho, Op.operands, Call.operands]; exact .inr (by simpa using hx))
 obtain ⟨dst, op, type, pos, after, guard⟩ := o
 simp only at ho
 subst ho
 revert ha
 generalize evalR t fx = rf at hf
 intro ha
 generalize hv : ρ fx = v at hf
 unfold targetR at ha
 split at ha <;> try cases ha
 ·rename_i f' first captured
  split at ha <;> try cases ha
  rename_i e1 e2
  have ef : first = #[] := by rw [<- Array.toArray_toList (xs := first), e1]
  have ec : captured = #[] := by rw [<- Array.toArray_toList (xs := captured), e2]
  subst ef ec
  cases hf
  refine ⟨_, hargs, ?_⟩
  have e : (args.map ρ) = (args.toList.map ρ).toArray := by apply Array.ext'; simp
  rw [<- e]
  have : execOp ρ ⟨dst, .call ⟨.value fx, args, ats⟩, type, pos, after, guard⟩ = callFunc f (#[] ++ args.map ρ ++ #[]) := by
   simp only [execOp, resolve, hv, Deferred.ofValue]
   rfl
  rw [this, Array.empty_append, Array.append_empty]
 ·rename_i f' a l
  rw [appO_eq, appO_eq] at ha
  cases ha
  cases hf with
  | clo hm hk hn hh =>
   rename_i us vs
   have h1 : RL g c.env a us.toList := ⟨by simpa using hm, fun i h1 h2 => by simpa using hk i h1 (by simpa using h2)⟩
   have h2 : RL g c.env l vs.toList := ⟨by simpa using hn, fun i h1 h2 => by simpa using hh i h1 (by simpa using h2)⟩
   refine ⟨_, h1.append (hargs.append h2), ?_⟩
   have : execOp ρ ⟨dst, .call ⟨.value fx, args, ats⟩, type, pos, after, guard⟩ = callFunc f (us ++ args.map ρ ++ vs) := by
    simp only [execOp, resolve, hv, Deferred.ofValue]
    rfl
   rw [this]
   congr 1
   apply Array.ext'
   simp
/-- whose call is deferred, with what -/
theorem target_defer {o : Oper} {fx : Operand} {args : Array Operand} {ats : Array TypeId} {f : FuncId} {ags : List RV} (ho : o.op = .defer ⟨.value fx, args, ats⟩) (ha : targetR (evalR t fx) (args.toList.map (evalR t)) = some (f, ags)) (hρ : ∀ x ∈ o.op.operands, R g c.env (evalR t x) (ρ x)) :
  ∃ (vs : List Value) (cap dargs : Array Value), RL g c.env ags vs /\ (∀ P w, (execOp ρ o).run P w = .ok (.defer { target := .fn (.func f) cap, args := dargs }) w) /\ dargs ++ cap = vs.toArray := by
 have hf := hρ fx (by simp [ho, Op.operands, Call.operands])
 have hargs : RL g c.env (args.toList.map (evalR t)) (args.toList.map ρ) := RL.map fun x hx => hρ x (by simp [ho, Op.operands, Call.operands]; exact .inr (by simpa using hx))
 obtain ⟨dst, op, type, pos, after, guard⟩ := o
 simp only at ho
 subst ho
 revert ha
 generalize evalR t fx = rf at hf
 intro ha
 generalize hv : ρ fx = v at hf
 unfold targetR at ha
 split at ha <;> try cases ha
 ·rename_i f' first captured
  split at ha <;> try cases ha
  rename_i e1 e2
  have ef : first = #[] := by rw [<- Array.toArray_toList (xs := first), e1]
  have ec : captured = #[] := by rw [<- Array.toArray_toList (xs := captured), e2]
  subst ef ec
  cases hf
  refine ⟨_, #[], #[] ++ args.map ρ, hargs, fun P w => ?_, by apply Array.ext'; simp⟩
  simp only [execOp, resolve, hv, Deferred.ofValue]
  rfl
 ·rename_i f' a l
  rw [appO_eq, appO_eq] at ha
  cases ha
  cases hf with
  | clo hm hk hn hh =>
   rename_i us vs
   have h1 : RL g c.env a us.toList := ⟨by simpa using hm, fun i h1 h2 => by simpa using hk i h1 (by simpa using h2)⟩
   have h2 : RL g c.env l vs.toList := ⟨by simpa using hn, fun i h1 h2 => by simpa using hh i h1 (by simpa using h2)⟩
   refine ⟨_, vs, us ++ args.map ρ, h1.append (hargs.append h2), fun P w => ?_, by apply Array.ext'; simp⟩
   simp only [execOp, resolve, hv, Deferred.ofValue]
   rfl
theorem extern_sound {f : FuncId} {ags : List RV} {r : RV} {vs : List Value} (he : externR P f ags = some r) (hr : RL g c.env ags vs) : ∃ v, (∀ w, (callFunc f vs.toArray).run P w = .ok (.value v) w) /\ R g c.env r v := by
 unfold externR at he
 split at he <;> try cases he
 rename_i fn hfn
 split at he <;> try cases he
 rename_i hb
 split at he
 ·rename_i us hus
  split at he <;> try cases he
  rename_i v hv
  rw [forceV_eq] at he
  cases he
  have := litL_eq hus hr
  subst this
  exact ⟨v, evalP_run hv, ofV_R _ _ _⟩
 ·split at he <;> try cases he
  rename_i r0
  split at he <;> try cases he
  rename_i hn
  rw [Bool.and_eq_true] at hn
  have hname : fn.name = "internal/abi.NoEscape" := by simpa using hn.1
  have hnext : Extern.findNext fn = none := by simpa using hn.2
  have hl := hr.len
  obtain ⟨v, rfl⟩ : ∃ v, vs = [v] := by
   rcases vs with _ | ⟨v, _ | ⟨u, vs⟩⟩
   ·simp at hl
   ·exact ⟨v, rfl⟩
   ·simp at hl
  refine ⟨v, fun w => ?_, hr.tail.1⟩
  rw [run_callFunc_extern hfn (by rw [hname]; decide) (by simp [hb]) hnext (find_noEscape fn hname)]
  rfl
theorem find_clone (fn : Func) (h : fn.name = "maps.clone") : Extern.find fn = some Extern.MapsClone.clone := by
 have h1 : Extern.allGenericRows.lookup "maps.clone" = none := by kernel_rfl
 have h2 : Extern.allTypedRows.lookup "maps.clone" = none := by kernel_rfl
 have h3 : Extern.allRows.lookup "maps.clone" = some Extern.MapsClone.clone := by kernel_rfl
 unfold Extern.find
 rw [h]
 simp [h1, h2, h3]
theorem find_makeNoZero (fn : Func) (h : fn.name = "internal/bytealg.MakeNoZero") : Extern.find fn = some (Extern.BytealgMakeNoZero.makeNoZero fn.params fn.resultTypes) := by
 have h1 : Extern.allGenericRows.lookup "internal/bytealg.MakeNoZero" = none := by kernel_rfl
 have h2 : Extern.allTypedRows.lookup "internal/bytealg.MakeNoZero" = some Extern.BytealgMakeNoZero.makeNoZero := by kernel_rfl
 unfold Extern.find
 rw [h]
 simp [h1, h2]
theorem run_clone {P : Program} {w : World} {r : Nat} {es : Array MapEntry} {clock : Nat} (t : TypeId) (hb : w.heap[r]? = some (.map es clock)) :
  (Extern.MapsClone.clone #[.iface t (.map (some r))]).run P w = .ok (.iface t (.map (some w.heap.size))) (w.alloc (.map es clock)) := by
 have e : Extern.MapsClone.clone #[.iface t (.map (some r))] = (getObj r >>= fun o => match o with
   | .map entries clock => (newObj (.map entries clock) >>= fun n => pure (.iface t (.map (some n))))
   | _ => stuck "maps.clone: a map expected") := rfl
 rw [e]
 simp [MapKept.run_getObj_map hb, Result.andThen, go_sem]
/-- a map's copy -/
theorem clone_sound {f : FuncId} {ags : List RV} {re : RE} {vs : List Value} (he : cloneR P f ags h nx = some (re, h', nx')) (hr : RL g c.env ags vs) (hw : RW c g h nx w) :
  ∃ r g' v w', re = .ret r /\ (callFunc f vs.toArray).run P w = .ok (.value v) w' /\ R g' c.env r v /\ Ext g g' /\ RW c g' h' nx' w' := by
 unfold cloneR at he
 split at he <;> try cases he
 rename_i fn hfn
 split at he <;> try cases he
 rename_i hb
 split at he <;> try cases he
 rotate_left
 ·rename_i n
  split at he <;> try cases he
  rename_i t ht
  split at he <;> try cases he
  rename_i e hu
  split at he <;> try cases he
  rename_i hn
  rw [Bool.and_eq_true, Bool.and_eq_true] at hn
  have hname : fn.name = "internal/bytealg.MakeNoZero" := by simpa using hn.1.1
  have hnb := Nat.le_of_ble_eq_true hn.1.2
  have hnext : Extern.findNext fn = none := by simpa using hn.2
  rw [forceN_eq, putT_eq] at he
  cases he
  have hrt : fn.resultTypes = #[t] := by rw [<- Array.toArray_toList (xs := fn.resultTypes), ht]
  have hl := hr.len
  obtain ⟨v, rfl⟩ : ∃ v, vs = [v] := by
   rcases vs with _ | ⟨v, _ | ⟨u, vs⟩⟩
   ·simp at hl
   ·exact ⟨v, rfl⟩
   ·simp at hl
  have h1 := hr.tail.1
  cases h1
  obtain ⟨cs, k1, k2, _⟩ := Lib.run_makeNoZero (P := P) w fn.params t e hu n (by omega)
  have hrw := (hw.drew.drew).alloc (G := nx) (nx' := nx + 1) (F' := c.F) (fun e => hw.free nx e (Nat.le_refl _)) (fun x f hx => ⟨hx, by have := (hw.res x f hx).1; omega⟩) (Nat.le_succ _) (Nat.lt_succ_self _) (vs := cs) (elem := e) (cs := []) (by simp) fun j h1 => absurd h1 (by simp)
  refine ⟨_, _, _, _, rfl, ?_, .sl gSet_self k2 (by omega), gSet_ext (hw.free _ _ (Nat.le_refl _)), hrw⟩
  rw [run_callFunc_extern hfn (by rw [hname]; decide) (by simp [hb]) hnext (find_makeNoZero fn hname), hrt]
  show ((Sem.run P (Extern.BytealgMakeNoZero.makeNoZero fn.params #[t] #[.int .i64 (n : Int)]) w).andThen fun v w' => Result.ok (Next.value v) w') = _
  rw [k1]
  rfl
 rename_i t G
 split at he <;> try cases he
 rename_i es ck hG
 split at he <;> try cases he
 rename_i hn
 rw [Bool.and_eq_true] at hn
 have hname : fn.name = "maps.clone" := by simpa using hn.1
 have hnext : Extern.findNext fn = none := by simpa using hn.2
 rw [forceN_eq, putT_eq] at he
 cases he
 have hl := hr.len
 obtain ⟨v, rfl⟩ : ∃ v, vs = [v] := by
  rcases vs with _ | ⟨v, _ | ⟨u, vs⟩⟩
  ·simp at hl
  ·exact ⟨v, rfl⟩
  ·simp at hl
 have h1 := hr.tail.1
 cases h1 with
 | ifc h1 =>
  cases h1 with
  | mp hq =>
   obtain ⟨h0, q, arr, k1, k2, k3, k4, k5⟩ := hw.ok G _ hG
   rw [hq] at k1
   cases k1
   refine ⟨_, _, _, _, rfl, ?_, .ifc (.mp gSet_self), gSet_ext (hw.free _ _ (Nat.le_refl _)), hw.allocMapOf k4 k5⟩
   rw [run_callFunc_extern hfn (by rw [hname]; decide) (by simp [hb]) hnext (find_clone fn hname), run_clone t k3]
   rfl
/-- strings that share their bytes -/
theorem unsafeStr_does {ty it tt : TypeId} {r r' : RV} {v : Value} {n : Nat} (hf : unsafeStrR P h ty r n = some (r', h')) (hr : R g c.env r v) (hw : RW c g h nx w) : Does P c c g (Builtin.unsafeString_ #[ty, it] tt #[v, .int .i64 (Int.ofNat n)]) w r' h' nx := by
 have hemp : R g c.env (.str []) (.string .empty) := R.str (g := g) (env := c.env) (l := []) (fun x hx => by cases hx)
 unfold unsafeStrR at hf
 split at hf <;> try cases hf
 ·cases hr
  exact ⟨g, _, w, Lib.run_unsafeString_none w ty it tt _, hemp, Ext.refl g, hw⟩
 ·cases hr
  exact ⟨g, _, w, Lib.run_unsafeString_none w ty it tt _, hemp, Ext.refl g, hw⟩
 ·rename_i m G e
  split at hf <;> try cases hf
  rename_i u hu
  split at hf <;> try cases hf
  rename_i el nxe mem hget
  split at hf <;> try cases hf
  rename_i cs hfind
  cases hb : Nat.beq el u && Nat.beq (P.cellsOf el) 1 && Nat.ble (m + 1) 1000000 with
  | false => rw [hb] at hf; cases hf
  | true =>
  rw [hb, cond_true] at hf
  rw [Bool.and_eq_true, Bool.and_eq_true] at hb
  have e1 := Nat.eq_of_beq_eq_true hb.1.1
  have e2 := Nat.eq_of_beq_eq_true hb.1.2
  have e3 := Nat.le_of_ble_eq_true hb.2
  subst e1
  obtain ⟨h1, h2⟩ := takeO_some hf
  obtain ⟨b, h3, h4, h5⟩ := byteL_some h2
  rw [putT_eq] at h3
  cases h3
  cases hr with
  | ptr hq =>
  rename_i q nq
  have hok := hw.ok G _ hget
  obtain ⟨q', n', hq', hK, hlies⟩ := hok.2 e cs (findM_mem hfind)
  rw [hq] at hq'
  cases hq'
  have hlive : Live h G e := ⟨_, hget, cs, findM_mem hfind⟩
  have hle : cs.length <= nq := by obtain ⟨_, _, _, _, _, h2, _⟩ := hlies; exact h2
  obtain ⟨vs, hrange, hlen, hrl⟩ := hlies.range (off := 0) (n := m + 1) (by omega)
  rw [List.drop_zero, h4] at hrl
  have hvs := bytes_vals hrl
  have hbl : b.length = m + 1 := by rw [<- hlen, hvs]; simp [byteVals]
  have hcell : ∀ j x, (b.map UInt8.ofNat)[j]? = some x -> w.cell? ((⟨q, 0, none⟩ : Addr).add j) = some (.int .u8 x.toNat) := fun j x hj => by
   rw [add_off]
   refine hrange j _ ?_
   rw [hvs]
   rw [List.getElem?_map] at hj
   simp only [byteVals, List.getElem?_map]
   cases hbj : b[j]? with
   | none => rw [hbj] at hj; cases hj
   | some y =>
    rw [hbj] at hj
    cases hj
    have hy := h5 y (List.mem_of_getElem? hbj)
    simp only [Option.map_some, Option.some.injEq, Value.int.injEq, true_and, UInt8.toNat_ofNat']
    rw [Nat.mod_eq_of_lt (by omega)]
    rfl
  have hrun := Lib.run_unsafeString_row (P := P) w ty it tt el hu e2 q nq hlies.shape (b.map UInt8.ofNat) (by intro hh; have := congrArg List.length hh; simp [hbl] at this) (by simp; omega) (by simp; omega) hcell
  have hml : ((b.map UInt8.ofNat).length : Int) = Int.ofNat (m + 1) := by simp [hbl]
  rw [hml] at hrun
  refine ⟨g, _, _, hrun, .str h5, Ext.refl g, ?_⟩
  have hoth : ∀ k, k ≠ q -> (w.freeze ⟨q, 0, none⟩ (b.map UInt8.ofNat).length).heap[k]? = w.heap[k]? := fun k hk => by
   unfold World.freeze
   split
   ·rfl
   ·show (w.heap.modify q _)[k]? = _
    rw [Array.getElem?_modify, if_neg (fun e => hk e.symm)]
  refine hw.upd (F' := c.F) ⟨?_, ?_, ?_, ?_⟩ (fun k o hk => hoth k fun e => by rw [e, hK] at hk; cases hk) (fun G' e' k m' hne hl2 hk => hoth k fun ee => ?_) (Ext.refl g) (fun _ _ _ => rfl) (hw.not_fix hlive) (Nat.le_refl _) (hw.lt_nx hq) ⟨hok.1, fun e' cs' hm => by cases hm⟩ (fun e' q' n' he => by obtain ⟨_, hm⟩ := he; cases hm)
  ·unfold World.freeze; split <;> rfl
  ·unfold World.freeze; split <;> rfl
  ·unfold World.freeze; split <;> rfl
  ·unfold World.freeze; split <;> simp
  ·subst ee
   exact hne (hw.sep _ _ _ _ _ _ _ hl2 hlive hk hq)
/-- what changes memory, but for calls -/
theorem skip_step {m : Sem Unit} (hw' : ∃ w', m.run P w = .ok () w' /\ RW c g h' nx' w') : StepN P c g (do m; pure Next.skip) w (.lit undef) h' nx' := by
 obtain ⟨w', h1, h2⟩ := hw'
 exact ⟨g, undef, w', .inr ⟨by rw [Sem.run_bind, h1]; rfl, rfl⟩, .lit _, Ext.refl g, h2⟩
theorem unitR_some {x : Option Hp} {re : RE} (hx : unitR x nx = some (re, h', nx')) : x = some h' /\ re = .ret (.lit undef) /\ nx' = nx := by
 unfold unitR at hx
 split at hx <;> cases hx
 exact ⟨rfl, rfl, rfl⟩
/-- a step at an operation -/
theorem StepN.wp {ro : Option Nat} {o : Oper} {a : Act} {r : RV} {K : Act -> World -> Prop} {Q : Exit -> Act -> World -> Prop} (hs : StepN P c g (execOp a.eval o) w r h' nx') (hnd : ∀ cc, o.op ≠ .defer cc) (hK : ∀ g' v w', R g' c.env r v -> Ext g g' -> RW c g' h' nx' w' -> K (a.put o.dst v) w') : o.wpIn (Wd ro) 0 P a w K Q := by
 refine ⟨fun _ _ => trivial, ?_⟩
 show o.uponIn (Wd ro) 0 P a K Q ((o.semAt ro a.eval).run P w)
 rw [Oper.semAt_eq ro a.eval o hnd]
 obtain ⟨g', v, w', h1, h2, h3, h4⟩ := hs
 rcases h1 with h1 | ⟨h1, rfl⟩ <;> rw [h1] <;> exact hK g' _ w' h2 h3 h4
theorem pureR_not {t : Tr RV} {o : Oper} {r : RV} (he : pureR P t o = some r) : ∀ cc, o.op ≠ .defer cc := fun cc hc => by
 unfold pureR at he
 rw [hc] at he
 cases he
theorem readR_not {t : Tr RV} {h : Hp} {o : Oper} {r : RV} (he : readR P t h o = some r) : ∀ cc, o.op ≠ .defer cc := fun cc hc => by
 unfold readR at he
 rw [hc] at he
 cases he
theorem allocR_not {t : Tr RV} {G : Nat} {o : Oper} {x : RV × OB} (he : allocR P t G o = some x) : ∀ cc, o.op ≠ .defer cc := fun cc hc => by
 unfold allocR at he
 rw [hc] at he
 cases he
theorem effR_not {call : CallR} {o : Oper} {x : RE × Hp × Nat} (he : effR P call t h nx o = some x) : ∀ cc, o.op ≠ .defer cc := fun cc hc => by
 unfold effR at he
 rw [hc] at he
 cases he
theorem eff_sound {ro : Option Nat} (hcall : CallOK P call) {o : Oper} {re : RE} {a : Act} (he : effR P call t h nx o = some (re, h', nx')) (hρ : ∀ x ∈ o.op.operands, R g c.env (evalR t x) (a.eval x)) (hw : RW c g h nx w) {K : Act -> World -> Prop} {Q : Exit -> Act -> World -> Prop}
  (hK : EndK c g h' nx' (fun e w' => match e with
   | .returned v => K (a.put o.dst v) w'
   | .panicked ch => Q (.panic ch) a w'
   | .outgrown => False) re) : o.wpIn (Wd ro) 0 P a w K Q := by
 have hnd := effR_not he
 have ret : ∀ {r : RV}, re = .ret r -> StepN P c g (execOp a.eval o) w r h' nx' -> o.wpIn (Wd ro) 0 P a w K Q := fun e hs => by
  subst e
  exact hs.wp hnd fun g' v w' k1 k2 k3 => hK g' v w' k1 k2 k3
 obtain ⟨dst, op, type, pos, after, guard⟩ := o
 unfold effR at he
 simp only at he hρ
 split at he <;> try cases he
 ·rename_i ty x v
  obtain ⟨h1, rfl, rfl⟩ := unitR_some he
  obtain ⟨h2, hh, h3⟩ := does_store (k := some) h1 (hρ x (by simp [Op.operands])) (hρ v (by simp [Op.operands])) hw
  cases hh
  exact ret rfl (skip_step h3)
 ·rename_i ty m k v
  obtain ⟨h1, rfl, rfl⟩ := unitR_some he
  exact ret rfl (skip_step (mapSet_does h1 (hρ m (by simp [Op.operands])) (hρ k (by simp [Op.operands])) (hρ v (by simp [Op.operands])) hw))
 ·rename_i ty m k v
  obtain ⟨h1, rfl, rfl⟩ := unitR_some he
  exact ret rfl (skip_step (mapSet_does h1 (hρ m (by simp [Op.operands])) (hρ k (by simp [Op.operands])) (hρ v (by simp [Op.operands])) hw))
 ·rename_i ty r
  split at he <;> try cases he
  rw [forceN_eq, putT_eq] at he
  cases he
  exact ret rfl ((makeMap_does hw).next.step)
 ·rename_i ty x
  split at he <;> try cases he
  ·rename_i l hu hx
   rw [forceN_eq, putT_eq] at he
   cases he
   have hx' := hρ x (by simp [Op.operands])
   rw [hx] at hx'
   exact ret rfl ((range_does hu hx' hw).next.step)
  ·rename_i kt et G hu hx
   split at he <;> try cases he
   rename_i es ck hg
   rw [forceN_eq, putT_eq] at he
   cases he
   have hx' := hρ x (by simp [Op.operands])
   rw [hx] at hx'
   exact ret rfl ((rangeM_does hu hg hx' hw).next.step)
 ·rename_i it
  split at he <;> try cases he
  rename_i G hx
  have hx' := hρ it (by simp [Op.operands])
  rw [hx] at hx'
  split at he <;> try cases he
  rename_i m since seen stepped hg
  split at he <;> try cases he
  rename_i es ck hm
  split at he <;> cases he
  rename_i hen
  exact ret rfl ((entry_does hen hg hm hx' hw).next.step)
 ·rename_i it
  split at he <;> try cases he
  rename_i G hx
  have hx' := hρ it (by simp [Op.operands])
  rw [hx] at hx'
  split at he <;> try cases he
  rename_i m since seen last hg
  split at he <;> try cases he
  rename_i es ck hm
  obtain ⟨r, rfl, hd⟩ := nextM_does (tt := type) he hg hm hx' hw
  exact ret rfl (hd.next.step)
 ·rename_i it
  split at he <;> try cases he
  rename_i G hx
  have hx' := hρ it (by simp [Op.operands])
  rw [hx] at hx'
  split at he <;> try cases he
  ·rename_i s pos hg
   exact ret rfl (((next_does hg hx' hw).1 rfl).next.step)
  ·rename_i s b rest pos hg
   cases hb : Nat.ble (b + 1) 128 with
   | false => rw [hb] at he; cases he
   | true =>
    rw [hb, cond_true, forceN_eq, putT_eq] at he
    cases he
    exact ret rfl (((next_does hg hx' hw).2 b rest rfl (Nat.le_of_ble_eq_true hb)).next.step)
 ·rename_i b args argTypes
  have hargs : ∀ x ∈ args, R g c.env (evalR t x) (a.eval x) := fun x hx => hρ x (by simp [Op.operands, Call.operands, hx])
  split at he <;> try cases he
  ·rename_i r x ty tx e1 e2
   have ea : args = #[r, x] := by rw [<- Array.toArray_toList (xs := args), e1]
   have et : argTypes = #[ty, tx] := by rw [<- Array.toArray_toList (xs := argTypes), e2]
   subst ea et
   split at he <;> cases he
   rename_i hap
   obtain ⟨g', v, w', k1, k2⟩ := (append_does (tt := type) hap (hargs r (by simp)) (hargs x (by simp)) hw).next
   exact ret rfl (DoesN.step ⟨g', v, w', by simpa [execOp, resolve, invoke, builtin] using k1, k2⟩)
  ·rename_i x n ty it e1 e2
   have ea : args = #[x, n] := by rw [<- Array.toArray_toList (xs := args), e1]
   have et : argTypes = #[ty, it] := by rw [<- Array.toArray_toList (xs := argTypes), e2]
   subst ea et
   split at he <;> try cases he
   rename_i m hn
   split at he <;> cases he
   rename_i hap
   have hn' := hargs n (by simp)
   rw [hn] at hn'
   generalize hnv : a.eval n = nv at hn'
   cases hn'
   obtain ⟨g', v, w', k1, k2⟩ := (unsafeStr_does (it := it) (tt := type) hap (hargs x (by simp)) hw).next
   refine ret rfl (DoesN.step ⟨g', v, w', ?_, k2⟩)
   simp only [execOp, resolve, List.map_toArray, List.map_cons, List.map_nil, hnv]
   exact k1
  ·rename_i r x ty tys e1 e2
   have ea : args = #[r, x] := by rw [<- Array.toArray_toList (xs := args), e1]
   have hat : argTypes[0]? = some ty := by rw [<- Array.getElem?_toList, e2]; rfl
   subst ea
   split at he <;> cases he
   rename_i hap
   obtain ⟨g', v, w', k1, k2⟩ := (copy_does (tt := type) hat hap (hargs r (by simp)) (hargs x (by simp)) hw).next
   exact ret rfl (DoesN.step ⟨g', v, w', by simpa [execOp, resolve, invoke, builtin] using k1, k2⟩)
  ·rename_i m k ty tys e1 e2
   have ea : args = #[m, k] := by rw [<- Array.toArray_toList (xs := args), e1]
   have hat : argTypes[0]? = some ty := by rw [<- Array.getElem?_toList, e2]; rfl
   subst ea
   split at he <;> cases he
   rename_i hap
   obtain ⟨g', v, w', k1, k2⟩ := (del_does (tt := type) hat hap (hargs m (by simp)) (hargs k (by simp)) hw).next
   exact ret rfl (DoesN.step ⟨g', v, w', by simpa [execOp, resolve, invoke, builtin] using k1, k2⟩)
  ·rename_i r ty tys e1 e2
   have ea : args = #[r] := by rw [<- Array.toArray_toList (xs := args), e1]
   have hat : argTypes[0]? = some ty := by rw [<- Array.getElem?_toList, e2]; rfl
   subst ea
   split at he <;> cases he
   rename_i hap
   obtain ⟨g', v, w', k1, k2⟩ := (clear_does (tt := type) hat hap (hargs r (by simp)) hw).next
   exact ret rfl (DoesN.step ⟨g', v, w', by simpa [execOp, resolve, invoke, builtin] using k1, k2⟩)
 ·rename_i f args ats
  split at he
  ·rename_i G hy
   have hf : R g c.env (evalR t f) (a.eval f) := hρ f (by simp [Op.operands, Call.operands])
   have hev : evalR t f = .yld G := by
    unfold yldR at hy
    split at hy <;> cases hy
    assumption
   rw [hev] at hf
   generalize hv : a.eval f = v at hf
   cases hf with
   | yld hq =>
   rename_i q n
   have hrl : RL g c.env (args.toList.map (evalR t)) (args.toList.map a.eval) := RL.map fun x hx => hρ x (by simp [Op.operands, Call.operands]; exact .inr (by simpa using hx))
   obtain ⟨r, k1, k2, k3⟩ := hcall.2 _ _ _ _ _ _ _ he c g w _ hrl hw (fun e w' => match e with
    | .returned v => K (a.put dst v) w'
    | .panicked ch => Q (.panic ch) a w'
    | .outgrown => LetsOut Q) (by cases re with
     | ret r => exact hK
     | pan r => exact hK) q n hq
   refine ⟨fun _ _ => trivial, ?_⟩
   show Oper.uponIn (Wd ro) 0 P _ a K Q ((Oper.semAt ro a.eval _).run P w)
   have ea : (args.toList.map a.eval).toArray = #[] ++ args.map a.eval := by apply Array.ext'; simp
   rw [ea] at k2 k3
   have hex : execOp a.eval ⟨dst, .call ⟨.value f, args, ats⟩, type, pos, after, guard⟩ = Instr.yield q (#[] ++ args.map a.eval) := by
    simp only [execOp, resolve, hv, Deferred.ofValue]
    rfl
   rw [Oper.semAt_eq ro a.eval _ hnd, hex, run_yield k1 k2, Oper.uponIn_round]
   exact ⟨fun h => (by cases h), (roundIn_Wd k3).mono fun e w' h => by cases e <;> exact h⟩
  split at he <;> try cases he
  rename_i f' ags ht
  obtain ⟨vs, hrl, hex⟩ := target_sound (o := ⟨dst, .call ⟨.value f, args, ats⟩, type, pos, after, guard⟩) rfl ht hρ
  split at he
  ·rename_i r hr
   cases he
   obtain ⟨v, k1, k2⟩ := extern_sound hr hrl
   exact ret rfl (DoesN.step ⟨g, v, w, by rw [hex]; exact k1 w, k2, Ext.refl g, hw⟩)
  ·split at he
   ·rename_i x hx
    cases he
    obtain ⟨r, g', v, w', rfl, k1, k2, k3, k4⟩ := clone_sound hx hrl hw
    exact ret rfl (DoesN.step ⟨g', v, w', by rw [hex]; exact k1, k2, k3, k4⟩)
   obtain ⟨hruns, hc⟩ := hcall.1 _ _ _ _ _ _ _ he
   refine ⟨fun _ _ => trivial, ?_⟩
   show Oper.uponIn (Wd ro) 0 P _ a K Q ((Oper.semAt ro a.eval _).run P w)
   rw [Oper.semAt_eq ro a.eval _ hnd, hex, hruns.enter, Oper.uponIn_enter]
   refine ⟨fun h => (by cases h), callsIn_Wd.2 (hc c g w vs hrl hw _ ?_)⟩
   cases re with
   | ret r => exact hK
   | pan r => exact hK
end
end Go.Proofs.YtnlimlboedohgaaGreatDoor.Ax
