/-
  What the operations that read no memory do, they do.
-/
import Derived.Test.YthkhdbfohaaojaaGreatDoorAxExec
namespace Go.Proofs.YthkhdbfohaaojaaGreatDoor.Ax
open Go.RowKit
set_option linter.unusedVariables false
set_option linter.unusedSimpArgs false

theorem evalP_run {α : Type} {P : Program} : ∀ {t : Sem α} {a : α}, evalP P t = some a → ∀ w, t.run P w = .ok a w
  | .pure b, a, h, w => by cases h; rfl
  | .program k, a, h, w => by
    show (k P).run P w = _
    exact evalP_run (t := k P) h w
  | .mark _ k, a, h, w => by
    show k.run P w = _
    exact evalP_run (t := k) h w
  | .load .., _, h, _ | .store .., _, h, _ | .new .., _, h, _ | .shape .., _, h, _ | .freeze .., _, h, _ | .frozen .., _, h, _ | .getObj .., _, h, _ | .setObj .., _, h, _ | .choose .., _, h, _ | .sys .., _, h, _ | .halt .., _, h, _ => by cases h
section
variable {P : Program} {g : Gm} {env : Nat → Value}
theorem flat_pures {m : Sem Value} {r : RV} (h : flatO P m = some r) : Pures P g env m r := by
  unfold flatO at h
  split at h <;> try cases h
  rename_i v hv
  rw [forceV_eq] at h
  cases h
  exact ⟨v, evalP_run hv, ofV_R _ _ _⟩
mutual
theorem litV_eq : ∀ {r : RV} {v u : Value}, litV r = some v → R g env r u → u = v
  | .lit v', v, u, h, hr => by cases h; cases hr; rfl
  | .str l, v, u, h, hr => by cases h; cases hr; rfl
  | .agg l, v, u, h, hr => by
    unfold litV at h
    split at h <;> try cases h
    rename_i vs hvs
    cases hr with
    | agg hn hh =>
      rename_i us
      have := litL_eq (us := us.toList) hvs ⟨by simpa using hn, fun i h1 h2 => by simpa using hh i h1 (by simpa using h2)⟩
      rw [← this]
  | .ifc t r, v, u, h, hr => by
    unfold litV at h
    split at h <;> try cases h
    rename_i v' hv'
    cases hr with
    | ifc hh => rw [litV_eq hv' hh]
  | .opq i, v, u, h, hr => by cases h
  | .ptr _ _ _, v, u, h, hr => by cases h
  | .sl _ _ _ _ _, v, u, h, hr => by cases h
  | .s0 _ _ _, v, u, h, hr => by cases h
  | .se, v, u, h, hr => by cases h
  | .tup _, v, u, h, hr => by cases h
  | .clo _ _ _, v, u, h, hr => by cases h
  | .mp _, v, u, h, hr => by cases h
theorem litL_eq : ∀ {l : List RV} {vs us : List Value}, litL l = some vs → RL g env l us → us = vs
  | [], vs, us, h, hr => by
    cases h
    exact List.eq_nil_of_length_eq_zero (by rw [← hr.len]; rfl)
  | r :: l, vs, [], h, hr => by have := hr.len; simp at this
  | r :: l, vs, u :: us, h, hr => by
    unfold litL at h
    split at h <;> try cases h
    rename_i v hv
    split at h <;> try cases h
    rename_i vs' hvs
    obtain ⟨h1, h2⟩ := hr.tail
    rw [litV_eq hv h1, litL_eq hvs h2]
end
theorem eqLN_iff : ∀ {l m : List Nat}, eqLN l m = true ↔ l = m
  | [], [] => by simp [eqLN]
  | [], _ :: _ => by simp [eqLN]
  | _ :: _, [] => by simp [eqLN]
  | x :: l, y :: m => by
    unfold eqLN
    cases hb : Nat.beq x y with
    | true =>
      have := Nat.eq_of_beq_eq_true hb
      subst this
      rw [cond_true, eqLN_iff]
      simp
    | false =>
      rw [cond_false]
      have : x ≠ y := fun e => by rw [e, Nat.beq_refl] at hb; cases hb
      simp [this]
theorem ofNat_inj {a b : Nat} (ha : a < 256) (hb : b < 256) (h : UInt8.ofNat a = UInt8.ofNat b) : a = b := by
  have := congrArg UInt8.toNat h
  simp only [UInt8.toNat_ofNat'] at this
  omega
theorem map_ofNat_inj : ∀ {l m : List Nat}, (∀ x ∈ l, x < 256) → (∀ x ∈ m, x < 256) → l.map UInt8.ofNat = m.map UInt8.ofNat → l = m
  | [], [], _, _, _ => rfl
  | [], _ :: _, _, _, h => by cases h
  | _ :: _, [], _, _, h => by cases h
  | x :: l, y :: m, h1, h2, h => by
    rw [List.map_cons, List.map_cons] at h
    injection h with e1 e2
    rw [ofNat_inj (h1 x List.mem_cons_self) (h2 y List.mem_cons_self) e1, map_ofNat_inj (fun z hz => h1 z (List.mem_cons_of_mem _ hz)) (fun z hz => h2 z (List.mem_cons_of_mem _ hz)) e2]
theorem toList_ofCodes (l : List Nat) : (ofCodes l).toList = l.map UInt8.ofNat := ByteArray.toList_mk _
theorem eqLN_bytes {l m : List Nat} (h1 : ∀ x ∈ l, x < 256) (h2 : ∀ x ∈ m, x < 256) : ((ofCodes l).toList == (ofCodes m).toList) = eqLN l m := by
  rw [toList_ofCodes, toList_ofCodes]
  by_cases h : l = m
  · subst h
    rw [eqLN_iff.2 rfl]
    simp
  · have e : eqLN l m = false := by
      cases hb : eqLN l m with
      | false => rfl
      | true => exact absurd (eqLN_iff.1 hb) h
    rw [e]
    exact beq_eq_false_iff_ne.2 fun hh => h (map_ofNat_inj h1 h2 hh)
theorem ltLN_bytes : ∀ {l m : List Nat}, (∀ x ∈ l, x < 256) → (∀ x ∈ m, x < 256) → Op.bytesLess (l.map UInt8.ofNat) (m.map UInt8.ofNat) = ltLN l m
  | _, [], _, _ => by simp [Op.bytesLess, ltLN]
  | [], _ :: _, _, _ => by simp [Op.bytesLess, ltLN]
  | x :: l, y :: m, h1, h2 => by
    have hx := h1 x List.mem_cons_self
    have hy := h2 y List.mem_cons_self
    have e1 : decide (UInt8.ofNat x < UInt8.ofNat y) = decide (x < y) := by
      apply decide_eq_decide.2
      rw [UInt8.lt_iff_toNat_lt]
      simp only [UInt8.toNat_ofNat']
      rw [Nat.mod_eq_of_lt (by omega), Nat.mod_eq_of_lt (by omega)]
    have e2 : (UInt8.ofNat x == UInt8.ofNat y) = decide (x = y) := by
      by_cases h : x = y
      · simp [h]
      · rw [decide_eq_false h]
        exact beq_eq_false_iff_ne.2 fun hh => h (ofNat_inj hx hy hh)
    have e3 : Nat.ble (x + 1) y = decide (x < y) := by
      rw [Bool.eq_iff_iff, Nat.ble_eq, decide_eq_true_iff]
      omega
    have e4 : Nat.beq x y = decide (x = y) := by
      rw [Bool.eq_iff_iff, Nat.beq_eq, decide_eq_true_iff]
    rw [List.map_cons, List.map_cons, Op.bytesLess, ltLN, e2, e3, e4, ltLN_bytes (fun z hz => h1 z (List.mem_cons_of_mem _ hz)) (fun z hz => h2 z (List.mem_cons_of_mem _ hz)), e1]
    cases decide (x < y) <;> cases decide (x = y) <;> simp
theorem appN_eq {β : Type} : ∀ (l m : List Nat) (k : List Nat → β), appN l m k = k (l ++ m)
  | [], m, k => rfl
  | x :: l, m, k => by rw [appN, appN_eq l]; rfl
theorem takeN_some {β : Type} : ∀ {n : Nat} {l : List Nat} {k : List Nat → Option β} {y : β}, takeN n l k = some y → n ≤ l.length ∧ k (l.take n) = some y
  | 0, l, k, y, h => ⟨Nat.zero_le _, h⟩
  | n + 1, [], k, y, h => by cases h
  | n + 1, x :: l, k, y, h => by
    obtain ⟨h1, h2⟩ := takeN_some (n := n) (l := l) h
    exact ⟨Nat.succ_le_succ h1, h2⟩
theorem dropN_some : ∀ {l : List Nat} {n : Nat} {r : List Nat}, dropN l n = some r → n ≤ l.length ∧ r = l.drop n
  | l, 0, r, h => by simp [dropN] at h; exact ⟨Nat.zero_le _, by simp [h]⟩
  | [], n + 1, r, h => by cases h
  | x :: l, n + 1, r, h => by
    obtain ⟨h1, h2⟩ := dropN_some (l := l) (n := n) h
    exact ⟨Nat.succ_le_succ h1, h2⟩
theorem nthN_eq : ∀ (l : List Nat) (n : Nat), nthN l n = l[n]?
  | [], n => by simp [nthN]
  | x :: l, 0 => rfl
  | x :: l, n + 1 => by rw [nthN, nthN_eq l n]; rfl
theorem boolR_eq {b : Bool} {r : RV} (h : boolR b = some r) : r = .lit (.bool b) := by
  cases b <;> cases h <;> rfl
theorem ofCodes_append (l m : List Nat) : ofCodes l ++ ofCodes m = ofCodes (l ++ m) := by
  unfold ofCodes
  rw [ByteArray.mk_append_mk, List.map_append]
theorem size_ofCodes (l : List Nat) : (ofCodes l).size = l.length := by
  simp [ofCodes, ByteArray.size]
theorem str_pures {op : BinOp} {l m : List Nat} {r : RV} (h : strR op l m = some r) (h1 : ∀ x ∈ l, x < 256) (h2 : ∀ x ∈ m, x < 256) : Pures P g env (Op.stringOp op (ofCodes l) (ofCodes m)) r := by
  have hlt : ∀ {l m : List Nat}, (∀ x ∈ l, x < 256) → (∀ x ∈ m, x < 256) → Op.bytesLess (ofCodes l).toList (ofCodes m).toList = ltLN l m := fun k1 k2 => by
    rw [toList_ofCodes, toList_ofCodes]
    exact ltLN_bytes k1 k2
  have tri : ∀ {l m : List Nat}, (ltLN l m || eqLN l m) = !ltLN m l := fun {l m} => by
    induction l generalizing m with
    | nil => cases m <;> simp [ltLN, eqLN]
    | cons x l ih =>
      rcases m with _ | ⟨y, m⟩
      · simp [ltLN, eqLN]
      · unfold ltLN eqLN
        have e3 : ∀ x y, Nat.ble (x + 1) y = decide (x < y) := fun x y => by
          rw [Bool.eq_iff_iff, Nat.ble_eq, decide_eq_true_iff]
          omega
        have e4 : ∀ x y, Nat.beq x y = decide (x = y) := fun x y => by
          rw [Bool.eq_iff_iff, Nat.beq_eq, decide_eq_true_iff]
        simp only [e3, e4]
        rcases Nat.lt_trichotomy x y with h | h | h
        · have a1 : ¬ (x = y) := by omega
          have a2 : ¬ (y < x) := by omega
          have a3 : ¬ (y = x) := by omega
          simp [h, a1, a2, a3]
        · subst h
          simp [ih]
        · have a1 : ¬ (x = y) := by omega
          have a2 : ¬ (x < y) := by omega
          have a3 : ¬ (y = x) := by omega
          simp [h, a1, a2, a3]
  unfold strR at h
  cases op <;> dsimp only at h <;> try cases h
  case add =>
    cases hb : Nat.ble (l.length + m.length) 1000000 with
    | false => rw [hb] at h; cases h
    | true =>
      rw [hb, cond_true, appN_eq] at h
      cases h
      have hle := Nat.le_of_ble_eq_true hb
      refine ⟨.string (ofCodes (l ++ m)), fun w => ?_, .str fun x hx => ?_⟩
      · rw [run_string_add_sum w _ _ (by rw [size_ofCodes, size_ofCodes]; omega), ofCodes_append]
      · rcases List.mem_append.1 hx with hx | hx
        · exact h1 x hx
        · exact h2 x hx
  all_goals
    have := boolR_eq h
    subst this
    refine ⟨_, fun w => ?_, .lit _⟩
    simp only [Op.stringOp, hlt h1 h2, hlt h2 h1, eqLN_bytes h1 h2, tri, Bool.not_not]
    rfl
end
end Go.Proofs.YthkhdbfohaaojaaGreatDoor.Ax
