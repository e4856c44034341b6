/-
  Comparisons, structs, slices, and the rest of what reads no memory.
-/
import Derived.Test.YthkhdbfohaaojaaGreatDoorAxPure
namespace Go.Proofs.YthkhdbfohaaojaaGreatDoor.Ax
open Go.RowKit
set_option linter.unusedVariables false
set_option linter.unusedSimpArgs false

section
variable {P : Program} {g : Gm} {env : Nat → Value}
theorem guard_other (op : BinOp) (t : TypeId) (x y : Operand) (u v : Value) (h1 : u ≠ .nilIface ∨ v ≠ .nilIface) (h2 : (∀ cs, u ≠ .agg cs) ∨ ∀ cs, v ≠ .agg cs) (w : World) : (eqGuard op t x y u v).run P w = .ok () w := by
  have hop : op = .eql ∨ op = .neq ∨ (eqGuard op t x y u v = pure ()) := by
    cases op <;> first | exact .inl rfl | exact .inr (.inl rfl) | exact .inr (.inr rfl)
  rcases hop with rfl | rfl | hop
  · simp only [eqGuard, Bool.not_true, Bool.false_eq_true, if_false]
    split
    · rcases h1 with h1 | h1 <;> exact absurd rfl h1
    · rcases h2 with h2 | h2
      · exact absurd rfl (h2 _)
      · exact absurd rfl (h2 _)
    · rfl
  · simp only [eqGuard, Bool.not_true, Bool.false_eq_true, if_false]
    split
    · rcases h1 with h1 | h1 <;> exact absurd rfl h1
    · rcases h2 with h2 | h2
      · exact absurd rfl (h2 _)
      · exact absurd rfl (h2 _)
    · rfl
  · rw [hop]
    rfl
theorem guarded {op : BinOp} {t : TypeId} {x y : Operand} {u v : Value} {r : RV} (h1 : u ≠ .nilIface ∨ v ≠ .nilIface) (h2 : (∀ cs, u ≠ .agg cs) ∨ ∀ cs, v ≠ .agg cs) (h : Pures P g env (binOp op t u v) r) : Pures P g env (do eqGuard op t x y u v; binOp op t u v) r := by
  obtain ⟨b, k1, k2⟩ := h
  refine ⟨b, fun w => ?_, k2⟩
  rw [Sem.run_bind, guard_other op t x y u v h1 h2 w]
  exact k1 w
theorem equal_of {t : TypeId} {u v : Value} {b : Bool} {w : World} (h : ∀ d, (Op.equalIn (d + 1) t u v).run P w = .ok b w) : (Op.equal t u v).run P w = .ok b w := h 9999
/-- one of the two is nil, the other is not -/
theorem nil_eq {t : TypeId} {a b : RV} {u v : Value} (h : nilR P t a b = true) (ha : R g env a u) (hb : R g env b v) :
    (∀ w, (Op.equal t u v).run P w = .ok false w) ∧ (∀ w, (Op.equal t v u).run P w = .ok false w) ∧ (u ≠ .nilIface) ∧ (∀ cs, u ≠ .agg cs) ∧ (∀ k n, u ≠ .int k n) ∧ (∀ k n, u ≠ .float k n) ∧ (∀ k m n, u ≠ .complex k m n) ∧ (∀ s, u ≠ .string s) := by
  unfold nilR at h
  split at h <;> try cases h
  all_goals
    split at h <;> try cases h
    rename_i hu
    cases hb
    cases ha
    refine ⟨fun w => equal_of fun d => ?_, fun w => equal_of fun d => ?_, by simp, by simp, by simp, by simp, by simp, by simp⟩ <;> simp [Op.equalIn, run_underlying hu]
theorem binOp_eql {t : TypeId} {u v : Value} {b : Bool} (h : ∀ w, (Op.equal t u v).run P w = .ok b w) (h1 : (∀ k n, u ≠ .int k n) ∨ ∀ k n, v ≠ .int k n) (h2 : (∀ k n, u ≠ .float k n) ∨ ∀ k n, v ≠ .float k n) (h3 : (∀ k m n, u ≠ .complex k m n) ∨ ∀ k m n, v ≠ .complex k m n) (h4 : (∀ s, u ≠ .string s) ∨ ∀ s, v ≠ .string s) (w : World) :
    (binOp .eql t u v).run P w = .ok (.bool b) w ∧ (binOp .neq t u v).run P w = .ok (.bool (!b)) w := by
  constructor
  · unfold binOp
    split <;> first
      | (rename_i e1 e2 e3; cases e1)
      | skip
    all_goals first
      | (rcases h1 with h1 | h1 <;> exact absurd rfl (h1 _ _))
      | (rcases h2 with h2 | h2 <;> exact absurd rfl (h2 _ _))
      | (rcases h3 with h3 | h3 <;> exact absurd rfl (h3 _ _ _))
      | (rcases h4 with h4 | h4 <;> exact absurd rfl (h4 _))
      | (simp [h w]; done)
      | simp_all
  · unfold binOp
    split <;> first
      | (rename_i e1 e2 e3; cases e1)
      | skip
    all_goals first
      | (rcases h1 with h1 | h1 <;> exact absurd rfl (h1 _ _))
      | (rcases h2 with h2 | h2 <;> exact absurd rfl (h2 _ _))
      | (rcases h3 with h3 | h3 <;> exact absurd rfl (h3 _ _ _))
      | (rcases h4 with h4 | h4 <;> exact absurd rfl (h4 _))
      | (simp [h w]; done)
      | simp_all
theorem same_eq {t : TypeId} {a b : RV} {u v : Value} {q : Bool} (h : sameR P t a b = some q) (ha : R g env a u) (hb : R g env b v) :
    (∀ w, (Op.equal t u v).run P w = .ok q w) ∧ (u ≠ .nilIface) ∧ (∀ cs, u ≠ .agg cs) ∧ (∀ k n, u ≠ .int k n) ∧ (∀ k n, u ≠ .float k n) ∧ (∀ k m n, u ≠ .complex k m n) ∧ (∀ s, u ≠ .string s) := by
  unfold sameR at h
  split at h <;> try cases h
  rename_i G e off G' e' off'
  cases hg : Nat.beq G G' && Nat.beq e e' with
  | false => rw [hg] at h; cases h
  | true =>
    rw [hg, cond_true] at h
    rw [Bool.and_eq_true] at hg
    have e1 := Nat.eq_of_beq_eq_true hg.1
    have e2 := Nat.eq_of_beq_eq_true hg.2
    subst e1 e2
    split at h <;> try cases h
    rename_i el hu
    split at h <;> try cases h
    rename_i i hi
    cases hz : Nat.ble 1 i.size with
    | false => rw [hz] at h; cases h
    | true =>
      rw [hz, cond_true] at h
      cases h
      have hz' := Nat.le_of_ble_eq_true hz
      have hne : ¬ (i.size = 0) := by omega
      cases ha with
      | ptr h1 =>
        cases hb with
        | ptr h2 =>
          rename_i q1 n1 q2 n2
          rw [h1] at h2
          cases h2
          refine ⟨fun w => ?_, by simp, by simp, by simp, by simp, by simp, by simp⟩
          have e4 : Nat.beq off off' = decide (off = off') := by
            rw [Bool.eq_iff_iff, Nat.beq_eq, decide_eq_true_iff]
          rw [e4]
          have e5 : ((⟨q1, off, none⟩ : Addr) == ⟨q1, off', none⟩) = decide (off = off') := by
            by_cases ho : off = off'
            · subst ho; simp
            · rw [decide_eq_false ho]
              exact beq_eq_false_iff_ne.2 fun hh => ho (by injection hh)
          refine equal_of fun d => ?_
          simp [Op.equalIn, run_underlying hu, sizeOf, typeInfo, hi, hne, sameAddr, e5]
theorem bin_pures {op : BinOp} {t : TypeId} {x y : Operand} {a b r : RV} {u v : Value} (h : binR P op t x y a b = some r) (ha : R g env a u) (hb : R g env b v) : Pures P g env (do eqGuard op t x y u v; binOp op t u v) r := by
  have flat : ∀ {u' v' : Value}, litV a = some u' → litV b = some v' → flatO P (do eqGuard op t x y u' v'; binOp op t u' v') = some r → Pures P g env (do eqGuard op t x y u v; binOp op t u v) r := fun k1 k2 k3 => by
    rw [litV_eq k1 ha, litV_eq k2 hb]
    exact flat_pures k3
  unfold binR at h
  split at h
  · exact flat rfl rfl h
  · rename_i l m
    cases ha with
    | str h1 =>
      cases hb with
      | str h2 =>
        refine guarded (.inl (by simp)) (.inl (by simp)) ?_
        have := str_pures (P := P) (g := g) (env := env) h h1 h2
        cases op <;> exact this
  · rename_i hx1 hx2
    split at h <;> try cases h
    · cases hn : nilR P t a b || nilR P t b a with
      | true =>
        rw [hn, cond_true] at h
        cases h
        rcases Bool.or_eq_true_iff.1 hn with hn | hn
        · obtain ⟨k1, k2, k3, k4, k5, k6, k7, k8⟩ := nil_eq hn ha hb
          exact guarded (.inl k3) (.inl k4) ⟨_, fun w => (binOp_eql k1 (.inl k5) (.inl k6) (.inl k7) (.inl k8) w).1, .lit _⟩
        · obtain ⟨k1, k2, k3, k4, k5, k6, k7, k8⟩ := nil_eq hn hb ha
          exact guarded (.inr k3) (.inr k4) ⟨_, fun w => (binOp_eql k2 (.inr k5) (.inr k6) (.inr k7) (.inr k8) w).1, .lit _⟩
      | false =>
        rw [hn, cond_false] at h
        split at h
        · rename_i q hq
          have := boolR_eq h
          subst this
          obtain ⟨k1, k3, k4, k5, k6, k7, k8⟩ := same_eq hq ha hb
          exact guarded (.inl k3) (.inl k4) ⟨_, fun w => (binOp_eql k1 (.inl k5) (.inl k6) (.inl k7) (.inl k8) w).1, .lit _⟩
        · split at h <;> try cases h
          rename_i u' v' k1 k2
          exact flat k1 k2 h
    · cases hn : nilR P t a b || nilR P t b a with
      | true =>
        rw [hn, cond_true] at h
        cases h
        rcases Bool.or_eq_true_iff.1 hn with hn | hn
        · obtain ⟨k1, k2, k3, k4, k5, k6, k7, k8⟩ := nil_eq hn ha hb
          exact guarded (.inl k3) (.inl k4) ⟨_, fun w => (binOp_eql k1 (.inl k5) (.inl k6) (.inl k7) (.inl k8) w).2, .lit _⟩
        · obtain ⟨k1, k2, k3, k4, k5, k6, k7, k8⟩ := nil_eq hn hb ha
          exact guarded (.inr k3) (.inr k4) ⟨_, fun w => (binOp_eql k2 (.inr k5) (.inr k6) (.inr k7) (.inr k8) w).2, .lit _⟩
      | false =>
        rw [hn, cond_false] at h
        split at h
        · rename_i q hq
          have := boolR_eq h
          subst this
          obtain ⟨k1, k3, k4, k5, k6, k7, k8⟩ := same_eq hq ha hb
          exact guarded (.inl k3) (.inl k4) ⟨_, fun w => (binOp_eql k1 (.inl k5) (.inl k6) (.inl k7) (.inl k8) w).2, .lit _⟩
        · split at h <;> try cases h
          rename_i u' v' k1 k2
          exact flat k1 k2 h
end
end Go.Proofs.YthkhdbfohaaojaaGreatDoor.Ax
