/-
  One operation, whatever it is.
-/
import Derived.Test.YtnojajgaocobjaaGreatDoorAxEff3
import Derived.Laws.Externs
import Derived.KernelRfl
namespace Go.Proofs.YtnojajgaocobjaaGreatDoor.Ax
open Go.RowKit
set_option linter.unusedVariables false
set_option linter.unusedSimpArgs false

theorem find_noEscape (fn : Func) (h : fn.name = "internal/abi.NoEscape") : Extern.find fn = some Extern.AbiNoEscape.same := by
  have h1 : Extern.allGenericRows.lookup "internal/abi.NoEscape" = none := by kernel_rfl
  have h2 : Extern.allTypedRows.lookup "internal/abi.NoEscape" = none := by kernel_rfl
  have h3 : Extern.allRows.lookup "internal/abi.NoEscape" = some Extern.AbiNoEscape.same := by kernel_rfl
  unfold Extern.find
  simp only [h, h1, h2, h3]
  rfl
section
variable {P : Program} {c : Cx} {g : Gm} {h h' : Hp} {nx nx' : Nat} {w w' : World} {t : Tr RV} {ρ : Operand → Value} {call : CallR}
/-- a function that runs -/
def Runs (P : Program) (f : FuncId) : Prop := ∃ fn code, P.funcs[f]? = some fn ∧ ¬ (fn.name == "runtime.NumGoroutine") = true ∧ fn.body = some code
/-- what is asked at a call's end -/
def EndK (c : Cx) (g : Gm) (h' : Hp) (nx' : Nat) (K : Ending → World → Prop) : RE → Prop
  | .ret r => ∀ g' v w', R g' c.env r v → Ext g g' → RW c g' h' nx' w' → K (.returned v) w'
  | .pan r => ∀ g' v w', R g' c.env r v → Ext g g' → RW c g' h' nx' w' → K (.panicked [{ v, recovered := false }]) w'
/-- a reckoning of calls is right -/
def CallOK (P : Program) (call : CallR) : Prop := ∀ f args h nx re h' nx', call f args h nx = some (re, h', nx') → Runs P f ∧ ∀ (c : Cx) (g : Gm) (w : World) (vs : List Value), RL g c.env args vs → RW c g h nx w → ∀ K, EndK c g h' nx' K re → Calls P f vs.toArray w K
theorem Runs.enter {f : FuncId} (hr : Runs P f) (args : Array Value) (w : World) : (callFunc f args).run P w = .ok (.enter f args) w := by
  obtain ⟨fn, code, h1, h2, h3⟩ := hr
  have h2' : fn.name ≠ "runtime.NumGoroutine" := by simpa using h2
  simp [callFunc, h1, h2', h3]
/-- who is called, with what -/
theorem target_sound {o : Oper} {fx : Operand} {args : Array Operand} {ats : Array TypeId} {f : FuncId} {as : List RV} (ho : o.op = .call ⟨.value fx, args, ats⟩) (ha : targetR (evalR t fx) (args.toList.map (evalR t)) = some (f, as)) (hρ : ∀ x ∈ o.op.operands, R g c.env (evalR t x) (ρ x)) :
    ∃ vs : List Value, RL g c.env as vs ∧ execOp ρ o = callFunc f vs.toArray := by
  have hf := hρ fx (by simp [ho, Op.operands, Call.operands])
  have hargs : RL g c.env (args.toList.map (evalR t)) (args.toList.map ρ) := RL.map fun x hx => hρ x (by simp [ho, Op.operands, Call.operands]; exact .inr (by simpa using hx))
  obtain ⟨dst, op, type, pos, after, guard⟩ := o
  simp only at ho
  subst ho
  revert ha
  generalize evalR t fx = rf at hf
  intro ha
  generalize hv : ρ fx = v at hf
  unfold targetR at ha
  split at ha <;> try cases ha
  · rename_i f' first captured
    split at ha <;> try cases ha
    rename_i e1 e2
    have ef : first = #[] := by rw [← Array.toArray_toList (xs := first), e1]
    have ec : captured = #[] := by rw [← Array.toArray_toList (xs := captured), e2]
    subst ef ec
    cases hf
    refine ⟨_, hargs, ?_⟩
    have e : (args.map ρ) = (args.toList.map ρ).toArray := by apply Array.ext'; simp
    rw [← e]
    have : execOp ρ ⟨dst, .call ⟨.value fx, args, ats⟩, type, pos, after, guard⟩ = callFunc f (#[] ++ args.map ρ ++ #[]) := by
      simp only [execOp, resolve, hv, Deferred.ofValue]
      rfl
    rw [this, Array.empty_append, Array.append_empty]
  · rename_i f' a l
    rw [appO_eq, appO_eq] at ha
    cases ha
    cases hf with
    | clo hm hk hn hh =>
      rename_i us vs
      have h1 : RL g c.env a us.toList := ⟨by simpa using hm, fun i h1 h2 => by simpa using hk i h1 (by simpa using h2)⟩
      have h2 : RL g c.env l vs.toList := ⟨by simpa using hn, fun i h1 h2 => by simpa using hh i h1 (by simpa using h2)⟩
      refine ⟨_, h1.append (hargs.append h2), ?_⟩
      have : execOp ρ ⟨dst, .call ⟨.value fx, args, ats⟩, type, pos, after, guard⟩ = callFunc f (us ++ args.map ρ ++ vs) := by
        simp only [execOp, resolve, hv, Deferred.ofValue]
        rfl
      rw [this]
      congr 1
      apply Array.ext'
      simp
theorem extern_sound {f : FuncId} {as : List RV} {r : RV} {vs : List Value} (he : externR P f as = some r) (hr : RL g c.env as vs) : ∃ v, (∀ w, (callFunc f vs.toArray).run P w = .ok (.value v) w) ∧ R g c.env r v := by
  unfold externR at he
  split at he <;> try cases he
  rename_i fn hfn
  split at he <;> try cases he
  rename_i hb
  split at he
  · rename_i us hus
    split at he <;> try cases he
    rename_i v hv
    rw [forceV_eq] at he
    cases he
    have := litL_eq hus hr
    subst this
    exact ⟨v, evalP_run hv, ofV_R _ _ _⟩
  · split at he <;> try cases he
    rename_i r0
    split at he <;> try cases he
    rename_i hn
    rw [Bool.and_eq_true] at hn
    have hname : fn.name = "internal/abi.NoEscape" := by simpa using hn.1
    have hnext : Extern.findNext fn = none := by simpa using hn.2
    have hl := hr.len
    obtain ⟨v, rfl⟩ : ∃ v, vs = [v] := by
      rcases vs with _ | ⟨v, _ | ⟨u, vs⟩⟩
      · simp at hl
      · exact ⟨v, rfl⟩
      · simp at hl
    refine ⟨v, fun w => ?_, hr.tail.1⟩
    rw [run_callFunc_extern hfn (by rw [hname]; decide) (by simp [hb]) hnext (find_noEscape fn hname)]
    rfl
/-- strings that share their bytes -/
theorem unsafeStr_does {ty it tt : TypeId} {r r' : RV} {v : Value} {n : Nat} (hf : unsafeStrR P h ty r n = some (r', h')) (hr : R g c.env r v) (hw : RW c g h nx w) : Does P c c g (Builtin.unsafeString_ #[ty, it] tt #[v, .int .i64 (Int.ofNat n)]) w r' h' nx := by
  have hemp : R g c.env (.str []) (.string .empty) := R.str (g := g) (env := c.env) (l := []) (fun x hx => by cases hx)
  unfold unsafeStrR at hf
  split at hf <;> try cases hf
  · cases hr
    exact ⟨g, _, w, Lib.run_unsafeString_none w ty it tt _, hemp, Ext.refl g, hw⟩
  · cases hr
    exact ⟨g, _, w, Lib.run_unsafeString_none w ty it tt _, hemp, Ext.refl g, hw⟩
  · rename_i m G e
    split at hf <;> try cases hf
    rename_i u hu
    split at hf <;> try cases hf
    rename_i el nxe mem hget
    split at hf <;> try cases hf
    rename_i cs hfind
    cases hb : Nat.beq el u && Nat.beq (P.cellsOf el) 1 && Nat.ble (m + 1) 1000000 with
    | false => rw [hb] at hf; cases hf
    | true =>
    rw [hb, cond_true] at hf
    rw [Bool.and_eq_true, Bool.and_eq_true] at hb
    have e1 := Nat.eq_of_beq_eq_true hb.1.1
    have e2 := Nat.eq_of_beq_eq_true hb.1.2
    have e3 := Nat.le_of_ble_eq_true hb.2
    subst e1
    obtain ⟨h1, h2⟩ := takeO_some hf
    obtain ⟨b, h3, h4, h5⟩ := byteL_some h2
    rw [putT_eq] at h3
    cases h3
    cases hr with
    | ptr hq =>
    rename_i q nq
    have hok := hw.ok G _ hget
    obtain ⟨q', n', hq', hK, hlies⟩ := hok.2 e cs (findM_mem hfind)
    rw [hq] at hq'
    cases hq'
    have hlive : Live h G e := ⟨_, hget, cs, findM_mem hfind⟩
    have hle : cs.length ≤ nq := by obtain ⟨_, _, _, _, _, h2, _⟩ := hlies; exact h2
    obtain ⟨vs, hrange, hlen, hrl⟩ := hlies.range (off := 0) (n := m + 1) (by omega)
    rw [List.drop_zero, h4] at hrl
    have hvs := bytes_vals hrl
    have hbl : b.length = m + 1 := by rw [← hlen, hvs]; simp [byteVals]
    have hcell : ∀ j x, (b.map UInt8.ofNat)[j]? = some x → w.cell? ((⟨q, 0, none⟩ : Addr).add j) = some (.int .u8 x.toNat) := fun j x hj => by
      rw [add_off]
      refine hrange j _ ?_
      rw [hvs]
      rw [List.getElem?_map] at hj
      simp only [byteVals, List.getElem?_map]
      cases hbj : b[j]? with
      | none => rw [hbj] at hj; cases hj
      | some y =>
        rw [hbj] at hj
        cases hj
        have hy := h5 y (List.mem_of_getElem? hbj)
        simp only [Option.map_some, Option.some.injEq, Value.int.injEq, true_and, UInt8.toNat_ofNat']
        rw [Nat.mod_eq_of_lt (by omega)]
        rfl
    have hrun := Lib.run_unsafeString_row (P := P) w ty it tt el hu e2 q nq hlies.shape (b.map UInt8.ofNat) (by intro hh; have := congrArg List.length hh; simp [hbl] at this) (by simp; omega) (by simp; omega) hcell
    have hml : ((b.map UInt8.ofNat).length : Int) = Int.ofNat (m + 1) := by simp [hbl]
    rw [hml] at hrun
    refine ⟨g, _, _, hrun, .str h5, Ext.refl g, ?_⟩
    have hoth : ∀ k, k ≠ q → (w.freeze ⟨q, 0, none⟩ (b.map UInt8.ofNat).length).heap[k]? = w.heap[k]? := fun k hk => by
      unfold World.freeze
      split
      · rfl
      · show (w.heap.modify q _)[k]? = _
        rw [Array.getElem?_modify, if_neg (fun e => hk e.symm)]
    refine hw.upd (F' := c.F) ⟨?_, ?_, ?_, ?_⟩ (fun k o hk => hoth k fun e => by rw [e, hK] at hk; cases hk) (fun G' e' k m' hne hl2 hk => hoth k fun ee => ?_) (Ext.refl g) (fun _ _ _ => rfl) (hw.not_fix hlive) (Nat.le_refl _) (hw.lt_nx hq) ⟨hok.1, fun e' cs' hm => by cases hm⟩ (fun e' q' n' he => by obtain ⟨_, hm⟩ := he; cases hm)
    · unfold World.freeze; split <;> rfl
    · unfold World.freeze; split <;> rfl
    · unfold World.freeze; split <;> rfl
    · unfold World.freeze; split <;> simp
    · subst ee
      exact hne (hw.sep _ _ _ _ _ _ _ hl2 hlive hk hq)
/-- what changes memory, but for calls -/
theorem skip_step {m : Sem Unit} (hw' : ∃ w', m.run P w = .ok () w' ∧ RW c g h' nx' w') : StepN P c g (do m; pure Next.skip) w (.lit undef) h' nx' := by
  obtain ⟨w', h1, h2⟩ := hw'
  exact ⟨g, undef, w', .inr ⟨by rw [Sem.run_bind, h1]; rfl, rfl⟩, .lit _, Ext.refl g, h2⟩
theorem unitR_some {x : Option Hp} {re : RE} (hx : unitR x nx = some (re, h', nx')) : x = some h' ∧ re = .ret (.lit undef) ∧ nx' = nx := by
  unfold unitR at hx
  split at hx <;> cases hx
  exact ⟨rfl, rfl, rfl⟩
/-- a step at an operation -/
theorem StepN.wp {o : Oper} {a : Act} {r : RV} {K : Act → World → Prop} {Q : Exit → Act → World → Prop} (hs : StepN P c g (execOp a.eval o) w r h' nx') (hK : ∀ g' v w', R g' c.env r v → Ext g g' → RW c g' h' nx' w' → K (a.put o.dst v) w') : o.wp P a w K Q := by
  obtain ⟨g', v, w', h1, h2, h3, h4⟩ := hs
  unfold Oper.wp
  rcases h1 with h1 | ⟨h1, rfl⟩ <;> rw [h1] <;> exact hK g' _ w' h2 h3 h4
theorem eff_sound (hcall : CallOK P call) {o : Oper} {re : RE} {a : Act} (he : effR P call t h nx o = some (re, h', nx')) (hρ : ∀ x ∈ o.op.operands, R g c.env (evalR t x) (a.eval x)) (hw : RW c g h nx w) {K : Act → World → Prop} {Q : Exit → Act → World → Prop}
    (hK : EndK c g h' nx' (fun e w' => match e with
      | .returned v => K (a.put o.dst v) w'
      | .panicked ch => Q (.panic ch) a w'
      | .outgrown => False) re) : o.wp P a w K Q := by
  have ret : ∀ {r : RV}, re = .ret r → StepN P c g (execOp a.eval o) w r h' nx' → o.wp P a w K Q := fun e hs => by
    subst e
    exact hs.wp fun g' v w' k1 k2 k3 => hK g' v w' k1 k2 k3
  obtain ⟨dst, op, type, pos, after, guard⟩ := o
  unfold effR at he
  simp only at he hρ
  split at he <;> try cases he
  · rename_i ty x v
    obtain ⟨h1, rfl, rfl⟩ := unitR_some he
    obtain ⟨h2, hh, h3⟩ := does_store (k := some) h1 (hρ x (by simp [Op.operands])) (hρ v (by simp [Op.operands])) hw
    cases hh
    exact ret rfl (skip_step h3)
  · rename_i ty m k v
    obtain ⟨h1, rfl, rfl⟩ := unitR_some he
    exact ret rfl (skip_step (mapSet_does h1 (hρ m (by simp [Op.operands])) (hρ k (by simp [Op.operands])) (hρ v (by simp [Op.operands])) hw))
  · rename_i ty m k v
    obtain ⟨h1, rfl, rfl⟩ := unitR_some he
    exact ret rfl (skip_step (mapSet_does h1 (hρ m (by simp [Op.operands])) (hρ k (by simp [Op.operands])) (hρ v (by simp [Op.operands])) hw))
  · rename_i ty r
    split at he <;> try cases he
    rw [forceN_eq, putT_eq] at he
    cases he
    exact ret rfl ((makeMap_does hw).next.step)
  · rename_i ty x
    split at he <;> try cases he
    rename_i l hu hx
    rw [forceN_eq, putT_eq] at he
    cases he
    have hx' := hρ x (by simp [Op.operands])
    rw [hx] at hx'
    exact ret rfl ((range_does hu hx' hw).next.step)
  · rename_i it
    split at he <;> try cases he
    rename_i G hx
    have hx' := hρ it (by simp [Op.operands])
    rw [hx] at hx'
    split at he <;> try cases he
    · rename_i s pos hg
      exact ret rfl (((next_does hg hx' hw).1 rfl).next.step)
    · rename_i s b rest pos hg
      cases hb : Nat.ble (b + 1) 128 with
      | false => rw [hb] at he; cases he
      | true =>
        rw [hb, cond_true, forceN_eq, putT_eq] at he
        cases he
        exact ret rfl (((next_does hg hx' hw).2 b rest rfl (Nat.le_of_ble_eq_true hb)).next.step)
  · rename_i b args argTypes
    have hargs : ∀ x ∈ args, R g c.env (evalR t x) (a.eval x) := fun x hx => hρ x (by simp [Op.operands, Call.operands, hx])
    split at he <;> try cases he
    · rename_i r x ty tx e1 e2
      have ea : args = #[r, x] := by rw [← Array.toArray_toList (xs := args), e1]
      have et : argTypes = #[ty, tx] := by rw [← Array.toArray_toList (xs := argTypes), e2]
      subst ea et
      split at he <;> cases he
      rename_i hap
      obtain ⟨g', v, w', k1, k2⟩ := (append_does (tt := type) hap (hargs r (by simp)) (hargs x (by simp)) hw).next
      exact ret rfl (DoesN.step ⟨g', v, w', by simpa [execOp, resolve, invoke, builtin] using k1, k2⟩)
    · rename_i x n ty it e1 e2
      have ea : args = #[x, n] := by rw [← Array.toArray_toList (xs := args), e1]
      have et : argTypes = #[ty, it] := by rw [← Array.toArray_toList (xs := argTypes), e2]
      subst ea et
      split at he <;> try cases he
      rename_i m hn
      split at he <;> cases he
      rename_i hap
      have hn' := hargs n (by simp)
      rw [hn] at hn'
      generalize hnv : a.eval n = nv at hn'
      cases hn'
      obtain ⟨g', v, w', k1, k2⟩ := (unsafeStr_does (it := it) (tt := type) hap (hargs x (by simp)) hw).next
      refine ret rfl (DoesN.step ⟨g', v, w', ?_, k2⟩)
      simp only [execOp, resolve, List.map_toArray, List.map_cons, List.map_nil, hnv]
      exact k1
    · rename_i r x ty tys e1 e2
      have ea : args = #[r, x] := by rw [← Array.toArray_toList (xs := args), e1]
      have hat : argTypes[0]? = some ty := by rw [← Array.getElem?_toList, e2]; rfl
      subst ea
      split at he <;> cases he
      rename_i hap
      obtain ⟨g', v, w', k1, k2⟩ := (copy_does (tt := type) hat hap (hargs r (by simp)) (hargs x (by simp)) hw).next
      exact ret rfl (DoesN.step ⟨g', v, w', by simpa [execOp, resolve, invoke, builtin] using k1, k2⟩)
    · rename_i r ty tys e1 e2
      have ea : args = #[r] := by rw [← Array.toArray_toList (xs := args), e1]
      have hat : argTypes[0]? = some ty := by rw [← Array.getElem?_toList, e2]; rfl
      subst ea
      split at he <;> cases he
      rename_i hap
      obtain ⟨g', v, w', k1, k2⟩ := (clear_does (tt := type) hat hap (hargs r (by simp)) hw).next
      exact ret rfl (DoesN.step ⟨g', v, w', by simpa [execOp, resolve, invoke, builtin] using k1, k2⟩)
  · rename_i f args ats
    split at he <;> try cases he
    rename_i f' as ht
    obtain ⟨vs, hrl, hex⟩ := target_sound (o := ⟨dst, .call ⟨.value f, args, ats⟩, type, pos, after, guard⟩) rfl ht hρ
    split at he
    · rename_i r hr
      cases he
      obtain ⟨v, k1, k2⟩ := extern_sound hr hrl
      exact ret rfl (DoesN.step ⟨g, v, w, by rw [hex]; exact k1 w, k2, Ext.refl g, hw⟩)
    · obtain ⟨hruns, hc⟩ := hcall _ _ _ _ _ _ _ he
      unfold Oper.wp
      rw [hex, hruns.enter, Oper.upon_enter]
      refine hc c g w vs hrl hw _ ?_
      cases re with
      | ret r => exact hK
      | pan r => exact hK
end
end Go.Proofs.YtnojajgaocobjaaGreatDoor.Ax
