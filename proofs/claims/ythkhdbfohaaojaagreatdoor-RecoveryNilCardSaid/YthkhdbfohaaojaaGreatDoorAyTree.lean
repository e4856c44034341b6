/-
  The lean reckoning's trees and lists are those of the elder one.
-/
import Derived.Test.YthkhdbfohaaojaaGreatDoorAyDef
set_option linter.unusedVariables false
set_option linter.unusedSimpArgs false
namespace Go.Proofs.YthkhdbfohaaojaaGreatDoor.Ax
open Go Go.RowKit

theorem two_cases (m : Nat) : (m % 2 = 0 ∧ (m + 1) % 2 = 1 ∧ (m + 1) / 2 = m / 2) ∨ (m % 2 = 1 ∧ (m + 1) % 2 = 0 ∧ (m + 1) / 2 - 1 = m / 2) := by omega
theorem bnz (m : Nat) : Nat.beq (m + 1) 0 = false := rfl
theorem b1 {m : Nat} (h : m % 2 = 1) : Nat.beq (m % 2) 1 = true := by rw [h]; rfl
theorem b0 {m : Nat} (h : m % 2 = 0) : Nat.beq (m % 2) 1 = false := by rw [h]; rfl
theorem getF_eq {α : Type} : ∀ (t : Tr α) (n : Nat), getF t n = t.get n
  | .leaf, n => rfl
  | .node v l r, 0 => rfl
  | .node v l r, m + 1 => by
    show (Nat.rec (getF l (Nat.div m 2)) (fun _ _ => getF r (Nat.div m 2)) (Nat.mod m 2) : Option α) = _
    have e1 : Nat.div m 2 = m / 2 := rfl
    have e2 : Nat.mod m 2 = m % 2 := rfl
    rw [e1, e2]
    unfold Tr.get
    rw [bnz, cond_false]
    rcases two_cases m with ⟨h1, h2, h3⟩ | ⟨h1, h2, h3⟩
    · rw [b1 h2, cond_true, h1, h3]
      exact getF_eq l _
    · rw [b0 h2, cond_false, h1, h3]
      exact getF_eq r _
theorem leafF_eq {α β : Type} (x : α) : ∀ (f n : Nat) (k : Tr α → β), leafF x f n k = Tr.setK x f .leaf n k
  | 0, n, k => rfl
  | f + 1, 0, k => rfl
  | f + 1, m + 1, k => by
    show (Nat.rec (leafF x f (Nat.div m 2) fun l => k (.node none l .leaf)) (fun _ _ => leafF x f (Nat.div m 2) fun r => k (.node none .leaf r)) (Nat.mod m 2) : β) = _
    have e1 : Nat.div m 2 = m / 2 := rfl
    have e2 : Nat.mod m 2 = m % 2 := rfl
    rw [e1, e2]
    unfold Tr.setK
    rw [bnz, cond_false]
    rcases two_cases m with ⟨h1, h2, h3⟩ | ⟨h1, h2, h3⟩
    · rw [b1 h2, cond_true, h1, h3]
      exact leafF_eq x f _ _
    · rw [b0 h2, cond_false, h1, h3]
      exact leafF_eq x f _ _
theorem setK_fuel {α β : Type} (x : α) : ∀ (f g : Nat) (t : Tr α) (n : Nat) (k : Tr α → β), n < f → n < g → Tr.setK x f t n k = Tr.setK x g t n k
  | 0, _, _, _, _, h, _ => absurd h (by omega)
  | _, 0, _, _, _, _, h => absurd h (by omega)
  | f + 1, g + 1, t, 0, k, _, _ => by cases t <;> rfl
  | f + 1, g + 1, .leaf, m + 1, k, h1, h2 => by
    unfold Tr.setK
    rw [bnz, cond_false, cond_false]
    rw [setK_fuel x f g .leaf ((m + 1) / 2) _ (by omega) (by omega), setK_fuel x f g .leaf ((m + 1) / 2 - 1) _ (by omega) (by omega)]
  | f + 1, g + 1, .node v l r, m + 1, k, h1, h2 => by
    unfold Tr.setK
    rw [bnz, cond_false, cond_false]
    rw [setK_fuel x f g l ((m + 1) / 2) _ (by omega) (by omega), setK_fuel x f g r ((m + 1) / 2 - 1) _ (by omega) (by omega)]
theorem setF_go {α β : Type} (x : α) : ∀ (t : Tr α) (n f : Nat) (k : Tr α → β), n < f → setF x t n k = Tr.setK x f t n k
  | .leaf, n, f, k, h => by
    show leafF x (Nat.succ n) n k = _
    rw [leafF_eq]
    exact setK_fuel x _ _ _ _ _ (by omega) h
  | .node v l r, n, 0, k, h => absurd h (by omega)
  | .node v l r, 0, f + 1, k, _ => rfl
  | .node v l r, m + 1, f + 1, k, h => by
    show (Nat.rec (setF x l (Nat.div m 2) fun l' => k (.node v l' r)) (fun _ _ => setF x r (Nat.div m 2) fun r' => k (.node v l r')) (Nat.mod m 2) : β) = _
    have e1 : Nat.div m 2 = m / 2 := rfl
    have e2 : Nat.mod m 2 = m % 2 := rfl
    rw [e1, e2]
    unfold Tr.setK
    rw [bnz, cond_false]
    rcases two_cases m with ⟨h1, h2, h3⟩ | ⟨h1, h2, h3⟩
    · rw [b1 h2, cond_true, h1, h3]
      exact setF_go x l _ _ _ (by omega)
    · rw [b0 h2, cond_false, h1, h3]
      exact setF_go x r _ _ _ (by omega)
theorem setF_eq {α β : Type} (x : α) (t : Tr α) (n : Nat) (k : Tr α → β) : setF x t n k = k (t.set n x) := by
  rw [setF_go x t n (n + 1) k (by omega), Tr.setK_id]
  rfl
theorem getP_go {β : Type} : ∀ (f n : Nat) (t : Tr RV) (k : RV → β), n < f → getP (pathGo f n) t k = k ((t.get n).getD undR)
  | 0, n, t, k, h => absurd h (by omega)
  | f + 1, 0, .leaf, k, _ => rfl
  | f + 1, 0, .node v l r, k, _ => by cases v <;> rfl
  | f + 1, m + 1, t, k, h => by
    unfold pathGo
    rw [bnz, cond_false]
    rcases two_cases m with ⟨h1, h2, h3⟩ | ⟨h1, h2, h3⟩
    · rw [b1 h2, cond_true]
      cases t with
      | leaf => rfl
      | node v l r =>
        refine (getP_go f _ l k (by omega)).trans ?_
        show _ = k ((bif Nat.beq (m + 1) 0 then v else bif Nat.beq ((m + 1) % 2) 1 then l.get ((m + 1) / 2) else r.get ((m + 1) / 2 - 1)).getD undR)
        rw [bnz, cond_false, b1 h2, cond_true]
    · rw [b0 h2, cond_false]
      cases t with
      | leaf => rfl
      | node v l r =>
        refine (getP_go f _ r k (by omega)).trans ?_
        show _ = k ((bif Nat.beq (m + 1) 0 then v else bif Nat.beq ((m + 1) % 2) 1 then l.get ((m + 1) / 2) else r.get ((m + 1) / 2 - 1)).getD undR)
        rw [bnz, cond_false, b0 h2, cond_false]
theorem getP_eq {β : Type} (n : Nat) (t : Tr RV) (k : RV → β) : getP (pathOf n) t k = k ((t.get n).getD undR) := getP_go _ _ _ _ (Nat.lt_succ_self n)
theorem setP_go {β : Type} (x : RV) : ∀ (f n : Nat) (t : Tr RV) (k : Tr RV → β), n < f → setP x (pathGo f n) t k = Tr.setK x f t n k
  | 0, n, t, k, h => absurd h (by omega)
  | f + 1, 0, t, k, _ => by cases t <;> rfl
  | f + 1, m + 1, t, k, h => by
    unfold pathGo
    rw [bnz, cond_false]
    rcases two_cases m with ⟨h1, h2, h3⟩ | ⟨h1, h2, h3⟩
    · rw [b1 h2, cond_true]
      cases t with
      | leaf =>
        refine (setP_go x f _ .leaf _ (by omega)).trans ?_
        rw [Tr.setK.eq_def x (f + 1)]
        simp only [bnz, cond_false, b1 h2, cond_true]
      | node v l r =>
        refine (setP_go x f _ l _ (by omega)).trans ?_
        rw [Tr.setK.eq_def x (f + 1)]
        simp only [bnz, cond_false, b1 h2, cond_true]
    · rw [b0 h2, cond_false]
      cases t with
      | leaf =>
        refine (setP_go x f _ .leaf _ (by omega)).trans ?_
        rw [Tr.setK.eq_def x (f + 1)]
        simp only [bnz, cond_false, b0 h2, cond_false]
      | node v l r =>
        refine (setP_go x f _ r _ (by omega)).trans ?_
        rw [Tr.setK.eq_def x (f + 1)]
        simp only [bnz, cond_false, b0 h2, cond_false]
theorem setP_eq {β : Type} (x : RV) (n : Nat) (t : Tr RV) (k : Tr RV → β) : setP x (pathOf n) t k = k (t.set n x) := by
  refine (setP_go x (n + 1) n t k (by omega)).trans ?_
  rw [Tr.setK_id]
  rfl
theorem getO_eq {β : Type} (o : Operand) (t : Tr RV) (k : RV → β) : getO (cOd o) t k = k (evalR t o) := by
  cases o with
  | tmp i =>
    refine (getP_eq i t k).trans ?_
    show _ = k (match t.get i with | some r => r | none => .lit undef)
    cases t.get i <;> rfl
  | const v =>
    show getO (forceV v .c) t k = _
    rw [forceV_eq]
    rfl
  | global b => rfl
  | func f => rfl
theorem getL_eq {β : Type} : ∀ (l : List Operand) (t : Tr RV) (k : List RV → β), getL (cOds l) t k = k (l.map (evalR t))
  | [], t, k => rfl
  | x :: l, t, k => by
    show getO (cOd x) t (fun r => getL (cOds l) t fun l => k (r :: l)) = _
    rw [getO_eq, getL_eq l]
    rfl
theorem setD_eq {β : Type} (d : Option Tmp) (r : RV) (t : Tr RV) (n nt : Nat) (k : Tr RV → Option β) (hd : dstOk nt d = true) (hn : nt ≤ n) : setD (cDst d) r t k = putR t n d r k := by
  cases d with
  | none => rfl
  | some d =>
    have h1 : d + 1 ≤ nt := Nat.le_of_ble_eq_true hd
    have h2 : Nat.ble (d + 1) n = true := Nat.ble_eq_true_of_le (Nat.le_trans h1 hn)
    show setP r (pathOf d) t k = _
    show _ = (bif Nat.ble (d + 1) n then putT t d r k else none)
    rw [setP_eq, h2, cond_true, putT_eq]
/-! ### lists -/
theorem forceNK_eq {β : Type} (n : Nat) (k : Nat → β) : forceNK n k = k n := by cases n <;> rfl
theorem findK_eq {β : Type} : ∀ (mem : List (Nat × List RV)) (e : Nat) (k : List RV → β) (x : β), findK mem e k x = match findM mem e with | some cs => k cs | none => x
  | [], e, k, x => rfl
  | (e', cs) :: r, e, k, x => by
    show (Bool.rec (findK r e k x) (k cs) (Nat.beq e' e) : β) = _
    unfold findM
    cases Nat.beq e' e with
    | true => rfl
    | false => exact findK_eq r e k x
theorem nthK_eq {α β : Type} : ∀ (l : List α) (n : Nat) (k : α → β) (e : β), nthK l n k e = match l[n]? with | some x => k x | none => e
  | [], n, k, e => rfl
  | x :: l, 0, k, e => rfl
  | x :: l, n + 1, k, e => by
    refine (nthK_eq l n k e).trans ?_
    rw [List.getElem?_cons_succ]
theorem dropK_eq {α β : Type} : ∀ (l : List α) (n : Nat) (k : List α → β), dropK l n k = k (l.drop n)
  | [], n, k => by simp [dropK]
  | x :: l, 0, k => rfl
  | x :: l, n + 1, k => dropK_eq l n k
theorem takeK_eq {α β : Type} : ∀ (n : Nat) (l : List α) (k : List α → β) (e : β), takeK n l k e = if n ≤ l.length then k (l.take n) else e
  | 0, l, k, e => by
    show k [] = _
    simp
  | n + 1, [], k, e => by simp [takeK]
  | n + 1, x :: l, k, e => by
    refine (takeK_eq n l (fun r => k (x :: r)) e).trans ?_
    simp
theorem over1K_eq {β : Type} (v : RV) : ∀ (l : List RV) (n : Nat) (k : List RV → β) (e : β), over1K v l n k e = if n < l.length then k (l.set n v) else e
  | [], n, k, e => by simp [over1K]
  | x :: l, 0, k, e => by
    show k (v :: l) = _
    simp
  | x :: l, n + 1, k, e => by
    refine (over1K_eq v l n (fun r => k (x :: r)) e).trans ?_
    simp
theorem overHK_eq {β : Type} : ∀ (news cs : List RV) (k : List RV → β) (e : β), overHK news cs k e = if news.length ≤ cs.length then k (news ++ cs.drop news.length) else e
  | [], cs, k, e => by simp [overHK]
  | x :: news, [], k, e => by simp [overHK]
  | x :: news, c :: cs, k, e => by
    refine (overHK_eq news cs (fun r => k (x :: r)) e).trans ?_
    simp
theorem overLK_eq {β : Type} (news : List RV) : ∀ (cs : List RV) (n : Nat) (k : List RV → β) (e : β), overLK news cs n k e = if n + news.length ≤ cs.length then k (cs.take n ++ news ++ cs.drop (n + news.length)) else e
  | [], 0, k, e => by
    refine (overHK_eq news [] k e).trans ?_
    simp
  | [], n + 1, k, e => by simp [overLK]
  | x :: cs, 0, k, e => by
    refine (overHK_eq news (x :: cs) k e).trans ?_
    simp
  | x :: cs, n + 1, k, e => by
    refine (overLK_eq news cs n (fun r => k (x :: r)) e).trans ?_
    have e1 : n + 1 + news.length = n + news.length + 1 := by omega
    simp [e1]
theorem over0_go {β : Type} : ∀ (cs l : List RV) (k : List RV → Option β), over0 cs l k = if l.length ≤ cs.length then k (l ++ cs.drop l.length) else none
  | cs, [], k => by cases cs <;> simp [over0]
  | [], x :: l, k => by simp [over0]
  | c :: cs, x :: l, k => by
    unfold over0
    rw [over0_go cs l]
    simp
theorem overO_go {β : Type} : ∀ (cs : List RV) (n : Nat) (l : List RV) (k : List RV → Option β), overO cs n l k = if n + l.length ≤ cs.length then k (cs.take n ++ l ++ cs.drop (n + l.length)) else none
  | cs, 0, l, k => by
    cases cs <;> (unfold overO; rw [over0_go]; simp)
  | [], n + 1, l, k => by simp [overO]
  | c :: cs, n + 1, l, k => by
    unfold overO
    rw [overO_go cs n l]
    have e1 : n + 1 + l.length = n + l.length + 1 := by omega
    simp [e1]
theorem takeO_go {β : Type} : ∀ (n : Nat) (l : List RV) (k : List RV → Option β), takeO n l k = if n ≤ l.length then k (l.take n) else none
  | 0, l, k => by simp [takeO]
  | n + 1, [], k => by simp [takeO]
  | n + 1, x :: l, k => by
    unfold takeO
    rw [takeO_go n l]
    simp
theorem eqK_eq : ∀ (l m : List Nat), eqK l m = eqLN l m
  | [], [] => rfl
  | [], y :: m => rfl
  | x :: l, [] => rfl
  | x :: l, y :: m => by
    show (Bool.rec false (eqK l m) (Nat.beq x y) : Bool) = _
    unfold eqLN
    rw [eqK_eq l m]
    cases Nat.beq x y <;> rfl
theorem lenEqK_eq {α β : Type} : ∀ (l : List α) (n : Nat) (k e : β), lenEqK l n k e = if l.length = n then k else e
  | [], 0, k, e => rfl
  | [], n + 1, k, e => by
    show e = _
    rw [if_neg (by simp)]
  | x :: l, 0, k, e => by
    show e = _
    rw [if_neg (by simp)]
  | x :: l, n + 1, k, e => by
    refine (lenEqK_eq l n k e).trans ?_
    simp
theorem cellsK_some {β : Type} {h : Hp} {G e : Nat} {k : TypeId → Bool → Nat → List RV → Option β} {x : Option β} {y : β} (hc : cellsK h G e k x = some y) : x = some y ∨ ∃ el z nxe cs, cellsAt h G e = some (el, z, nxe, cs) ∧ k el z nxe cs = some y := by
  unfold cellsK at hc
  rw [getF_eq] at hc
  cases hg : h.get G with
  | none => rw [hg] at hc; exact .inl hc
  | some ob =>
    rw [hg] at hc
    cases ob with
    | cells el z nxe mem =>
      have hc' : findK mem e (fun cs => k el z nxe cs) x = some y := hc
      rw [findK_eq] at hc'
      cases hf : findM mem e with
      | none => rw [hf] at hc'; exact .inl hc'
      | some cs =>
        rw [hf] at hc'
        refine .inr ⟨el, z, nxe, cs, ?_, hc'⟩
        unfold cellsAt
        rw [hg]
        simp only [hf]
    | _ => exact .inl hc
/-! ### what a value is -/
section
variable {β : Type} {v : RV} {e : Option β} {r : β}
theorem natK_some {k : IntKind → Nat → Option β} (h : natK v k e = some r) : e = some r ∨ ∃ d n, v = .lit (.int d (.ofNat n)) ∧ k d n = some r := by
  unfold natK at h
  split at h
  · exact .inr ⟨_, _, rfl, h⟩
  · exact .inl h
theorem boolK_some {k : Bool → Option β} (h : boolK v k e = some r) : e = some r ∨ ∃ b, v = .lit (.bool b) ∧ k b = some r := by
  unfold boolK at h
  split at h
  · exact .inr ⟨_, rfl, h⟩
  · exact .inl h
theorem strK_some {k : List Nat → Option β} (h : strK v k e = some r) : e = some r ∨ ∃ l, v = .str l ∧ k l = some r := by
  unfold strK at h
  split at h
  · exact .inr ⟨_, rfl, h⟩
  · exact .inl h
theorem ptrK_some {k : Nat → Nat → Nat → Option β} (h : ptrK v k e = some r) : e = some r ∨ ∃ G m off, v = .ptr G m off ∧ k G m off = some r := by
  unfold ptrK at h
  split at h
  · exact .inr ⟨_, _, _, rfl, h⟩
  · exact .inl h
theorem slK_some {k : Nat → Nat → Nat → Nat → Nat → Option β} (h : slK v k e = some r) : e = some r ∨ ∃ G m off len sz, v = .sl G m off len sz ∧ k G m off len sz = some r := by
  unfold slK at h
  split at h
  · exact .inr ⟨_, _, _, _, _, rfl, h⟩
  · exact .inl h
theorem tupK_some {k : List RV → Option β} (h : tupK v k e = some r) : e = some r ∨ ∃ l, v = .tup l ∧ k l = some r := by
  unfold tupK at h
  split at h
  · exact .inr ⟨_, rfl, h⟩
  · exact .inl h
theorem aggK_some {k : List RV → Option β} (h : aggK v k e = some r) : e = some r ∨ ∃ l, v = .agg l ∧ k l = some r := by
  unfold aggK at h
  split at h
  · exact .inr ⟨_, rfl, h⟩
  · exact .inl h
theorem ifK_some {b : Bool} {k : Option β} (h : ifK b k e = some r) : e = some r ∨ (b = true ∧ k = some r) := by
  cases b
  · exact .inl h
  · exact .inr ⟨rfl, h⟩
theorem andK_some {b c : Bool} {k : Option β} (h : andK b c k e = some r) : e = some r ∨ (b = true ∧ c = true ∧ k = some r) := by
  cases b
  · exact .inl h
  · cases c
    · exact .inl h
    · exact .inr ⟨rfl, rfl, h⟩
theorem oneK_some {k : Option β} (h : oneK v k e = some r) : e = some r ∨ (cellsR v = some [v] ∧ oneR v = true ∧ k = some r) := by
  unfold oneK at h
  split at h <;> first | exact .inl h | exact .inr ⟨rfl, rfl, h⟩
theorem allOneK_some {k : Option β} : ∀ {l : List RV}, allOneK l k e = some r → e = some r ∨ (l.all oneR = true ∧ k = some r)
  | [], h => .inr ⟨rfl, h⟩
  | x :: l, h => by
    have h' : oneK x (allOneK l k e) e = some r := h
    rcases oneK_some h' with h1 | ⟨_, h2, h3⟩
    · exact .inl h1
    · rcases allOneK_some h3 with h1 | ⟨h4, h5⟩
      · exact .inl h1
      · exact .inr ⟨by simp [h2, h4], h5⟩
end
end Go.Proofs.YthkhdbfohaaojaaGreatDoor.Ax
