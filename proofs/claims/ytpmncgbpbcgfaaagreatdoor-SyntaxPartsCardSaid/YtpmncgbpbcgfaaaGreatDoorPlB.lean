import Derived.Test.YtpmncgbpbcgfaaaGreatDoorPlA
/-
  A parse looks at the tokens before the next semicolon alone.
-/
namespace Go.Proofs.YtpmncgbpbcgfaaaGreatDoor
set_option linter.unusedVariables false
set_option linter.unusedSimpArgs false

/-- the text ends here, or a semicolon stands here -/
def EndAt (C : List Core) (k : Nat) : Prop := ∀ t, C[k]? = some t → t.kind = 5 ∧ t.text = [59]
/-- m tokens from i on, none of them a semicolon, and behind them the end or a semicolon, in both -/
structure Sim (C : List Core) (i : Nat) (C' : List Core) (i' m : Nat) : Prop where
  same : ∀ k, k < m → C'[i' + k]? = C[i + k]?
  here : ∀ k, k < m → ∃ t, C[i + k]? = some t ∧ ¬ (t.kind = 5 ∧ t.text = [59])
  e1 : EndAt C (i + m)
  e2 : EndAt C' (i' + m)
theorem Sim.step {C C' : List Core} {i i' m k : Nat} (h : Sim C i C' i' m) (hk : k ≤ m) : Sim C (i + k) C' (i' + k) (m - k) where
  same q hq := by rw [Nat.add_assoc, Nat.add_assoc]; exact h.same _ (by omega)
  here q hq := by rw [Nat.add_assoc]; exact h.here _ (by omega)
  e1 := by rw [show i + k + (m - k) = i + m by omega]; exact h.e1
  e2 := by rw [show i' + k + (m - k) = i' + m by omega]; exact h.e2
def LocR {α β : Type} (ρ : α → β → Prop) (x : P α) (y : P β) : Prop :=
  ∀ C i C' i' m d, Sim C i C' i' m → ∀ a j d1, x C i d = .ok a j d1 → ∃ b k, k ≤ m ∧ j = i + k ∧ y C' i' d = .ok b (i' + k) d1 ∧ ρ a b
abbrev Loc {α : Type} (x : P α) : Prop := LocR Eq x x
section
variable {α β γ δ : Type} {ρ : α → β → Prop} {σ : γ → δ → Prop}
theorem LocR.ret {a : α} {b : β} (h : ρ a b) : LocR ρ (Pure.pure a) (Pure.pure b) := by
  intro C i C' i' m d hs a' j d1 hx
  cases hx
  exact ⟨b, 0, Nat.zero_le _, rfl, rfl, h⟩
theorem LocR.bind {x : P α} {y : P β} {f : α → P γ} {g : β → P δ} (hx : LocR ρ x y) (hf : ∀ a b, ρ a b → LocR σ (f a) (g b)) : LocR σ (x >>= f) (y >>= g) := by
  intro C i C' i' m d hs a' j d1 he
  replace he : P.bind x f C i d = .ok a' j d1 := he
  show ∃ b k, k ≤ m ∧ j = i + k ∧ P.bind y g C' i' d = .ok b (i' + k) d1 ∧ σ a' b
  unfold P.bind at he ⊢
  rcases hq : x C i d with ⟨a, j0, d0⟩ | ⟨j0, c⟩
  · rw [hq] at he
    obtain ⟨b, k, hk, rfl, hy, hr⟩ := hx C i C' i' m d hs a j0 d0 hq
    rw [hy]
    obtain ⟨b', k', hk', rfl, hy', hr'⟩ := hf a b hr C (i + k) C' (i' + k) (m - k) d0 (hs.step hk) a' j d1 he
    exact ⟨b', k + k', by omega, by omega, by rw [← Nat.add_assoc]; exact hy', hr'⟩
  · rw [hq] at he; cases he
theorem LocR.fail {f : List Core → Nat → Bool → Nat} {c : List Core → Nat → Bool → Nat} {y : P β} : LocR ρ (fun C i d => .fail (f C i d) (c C i d)) y := by
  intro C i C' i' m d hs a' j d1 he
  cases he
theorem LocR.wrong {y : P β} : LocR ρ pWrong y := by
  intro C i C' i' m d hs a' j d1 he
  unfold pWrong at he
  split at he <;> cases he
theorem LocR.ite {x x' : P α} {y y' : P β} {b : Bool} (h1 : LocR ρ x y) (h2 : LocR ρ x' y') : LocR ρ (if b = true then x else x') (if b = true then y else y') := by
  cases b
  · exact h2
  · exact h1
theorem LocR.ite' {x x' : P α} {y y' : P β} {c : Prop} [Decidable c] (h1 : LocR ρ x y) (h2 : LocR ρ x' y') : LocR ρ (if c then x else x') (if c then y else y') := by
  split
  · exact h1
  · exact h2
theorem LocR.mono {ρ' : α → β → Prop} {x : P α} {y : P β} (h : LocR ρ x y) (hr : ∀ a b, ρ a b → ρ' a b) : LocR ρ' x y := by
  intro C i C' i' m d hs a' j d1 he
  obtain ⟨b, k, h1, h2, h3, h4⟩ := h C i C' i' m d hs a' j d1 he
  exact ⟨b, k, h1, h2, h3, hr _ _ h4⟩
end
theorem Loc.bind {α β : Type} {x : P α} {f g : α → P β} {ρ : β → β → Prop} (hx : Loc x) (hf : ∀ a, LocR ρ (f a) (g a)) : LocR ρ (x >>= f) (x >>= g) :=
  LocR.bind hx fun a b h => by subst h; exact hf a
theorem Loc.bind2 {α β : Type} {x y : P α} {f g : α → P β} {ρ : β → β → Prop} (hx : LocR Eq x y) (hf : ∀ a, LocR ρ (f a) (g a)) : LocR ρ (x >>= f) (y >>= g) :=
  LocR.bind hx fun a b h => by subst h; exact hf a
theorem Loc.ret {α : Type} (a : α) : Loc (Pure.pure a : P α) := LocR.ret rfl
theorem end_ahead {C : List Core} {k kind : Nat} {l : List UInt8} (he : EndAt C k) (hl : ¬ (kind = 5 ∧ l = [59])) : aheadB C k 0 kind l = false := by
  unfold aheadB
  rcases h : C[k + 0]? with _ | t
  · rfl
  · obtain ⟨h1, h2⟩ := he t h
    simp only
    rw [h1, h2]
    by_cases a : (5 : Nat) = kind <;> by_cases b : [59] = l
    · exact absurd ⟨a.symm, b.symm⟩ hl
    · simp [b]
    · simp [a]
    · simp [a]
theorem sim_ahead {C C' : List Core} {i i' m kind : Nat} {l : List UInt8} (h : Sim C i C' i' m) (hl : ¬ (kind = 5 ∧ l = [59])) : aheadB C' i' 0 kind l = aheadB C i 0 kind l ∧ (aheadB C i 0 kind l = true → 0 < m) := by
  rcases Nat.eq_zero_or_pos m with rfl | hm
  · rw [end_ahead (show EndAt C i from h.e1) hl, end_ahead (show EndAt C' i' from h.e2) hl]
    exact ⟨rfl, fun e => by cases e⟩
  · refine ⟨?_, fun _ => hm⟩
    unfold aheadB
    rw [h.same 0 hm]
theorem end_kind {C : List Core} {k kind : Nat} (he : EndAt C k) (hl : kind ≠ 5) : kindB C k kind = false := by
  unfold kindB
  rcases h : C[k]? with _ | t
  · rfl
  · obtain ⟨h1, _⟩ := he t h
    simp only
    rw [h1]
    simp
    omega
theorem sim_kind {C C' : List Core} {i i' m kind : Nat} (h : Sim C i C' i' m) (hl : kind ≠ 5) : kindB C' i' kind = kindB C i kind ∧ (kindB C i kind = true → 0 < m) := by
  rcases Nat.eq_zero_or_pos m with rfl | hm
  · rw [end_kind (show EndAt C i from h.e1) hl, end_kind (show EndAt C' i' from h.e2) hl]
    exact ⟨rfl, fun e => by cases e⟩
  · refine ⟨?_, fun _ => hm⟩
    unfold kindB
    have := h.same 0 hm
    simp only [Nat.add_zero] at this
    rw [this]
theorem Loc.skip {kind : Nat} {l : List UInt8} (hl : ¬ (kind = 5 ∧ l = [59])) : Loc (pSkip kind l) := by
  intro C i C' i' m d hs a j d1 he
  obtain ⟨h1, h2⟩ := sim_ahead hs hl
  unfold pSkip at he ⊢
  rw [h1]
  split at he
  · rename_i hb
    cases he
    rw [if_pos hb]
    exact ⟨true, 1, h2 hb, rfl, rfl, rfl⟩
  · rename_i hb
    cases he
    rw [if_neg hb]
    exact ⟨false, 0, Nat.zero_le _, rfl, rfl, rfl⟩
theorem Loc.word (l : List UInt8) : Loc (pWord l) := Loc.skip (by rintro ⟨h, _⟩; cases h)
theorem Loc.symbol {l : List UInt8} (hl : l ≠ [59]) : Loc (pSymbol l) := Loc.skip (fun h => hl h.2)
theorem Loc.ahead {kind : Nat} {l : List UInt8} (hl : ¬ (kind = 5 ∧ l = [59])) : Loc (pAhead 0 kind l) := by
  intro C i C' i' m d hs a j d1 he
  cases he
  obtain ⟨h1, h2⟩ := sim_ahead hs hl
  exact ⟨_, 0, Nat.zero_le _, rfl, rfl, h1.symm⟩
theorem Loc.ifWord {α β : Type} {ρ : α → β → Prop} (l : List UInt8) {A B : P α} {A' B' : P β} (h1 : LocR ρ A A') (h2 : LocR ρ B B') : LocR ρ (pWord l >>= fun b => if b = true then A else B) (pWord l >>= fun b => if b = true then A' else B') :=
  LocR.bind (Loc.word l) fun a b h => by subst h; exact LocR.ite h1 h2
theorem Loc.ifSymbol {α β : Type} {ρ : α → β → Prop} {l : List UInt8} (hl : l ≠ [59]) {A B : P α} {A' B' : P β} (h1 : LocR ρ A A') (h2 : LocR ρ B B') : LocR ρ (pSymbol l >>= fun b => if b = true then A else B) (pSymbol l >>= fun b => if b = true then A' else B') :=
  LocR.bind (Loc.symbol hl) fun a b h => by subst h; exact LocR.ite h1 h2
theorem Loc.words : ∀ l, Loc (pWords l)
  | [] => Loc.ret ()
  | s :: l => Loc.ifWord s (Loc.words l) LocR.wrong
theorem Loc.need {l : List UInt8} (hl : l ≠ [59]) : Loc (pNeed l) := Loc.ifSymbol hl (Loc.ret ()) LocR.wrong
inductive F2 {α β : Type} (ρ : α → β → Prop) : List α → List β → Prop
  | nil : F2 ρ [] []
  | cons {a : α} {b : β} {l : List α} {l' : List β} (h : ρ a b) (hl : F2 ρ l l') : F2 ρ (a :: l) (b :: l')
theorem F2.snoc {α β : Type} {ρ : α → β → Prop} {l : List α} {l' : List β} {a : α} {b : β} (h : F2 ρ l l') (hab : ρ a b) : F2 ρ (l ++ [a]) (l' ++ [b]) := by
  induction h with
  | nil => exact .cons hab .nil
  | cons h _ ih => exact .cons h ih
theorem wrong_ok {α : Type} {C : List Core} {i j : Nat} {d d1 : Bool} {a : α} (h : (pWrong : P α) C i d = .ok a j d1) : False := by
  unfold pWrong at h
  split at h <;> cases h
def tokEq (a b : Nat × Core) : Prop := a.2 = b.2
theorem Loc.take {kind : Nat} (hk : kind ≠ 5) : LocR tokEq (pTake kind) (pTake kind) := by
  intro C i C' i' m d hs a j d1 he
  unfold pTake at he ⊢
  rcases Nat.eq_zero_or_pos m with rfl | hm
  · exfalso
    rcases h : C[i]? with _ | t
    · rw [h] at he
      simp only [pWrong] at he
      split at he <;> cases he
    · rw [h] at he
      obtain ⟨h1, _⟩ := hs.e1 t h
      simp only [pWrong] at he
      rw [if_neg (by omega)] at he
      split at he <;> cases he
  · have h0 := hs.same 0 hm
    simp only [Nat.add_zero] at h0
    rw [h0]
    rcases h : C[i]? with _ | t
    · rw [h] at he
      simp only [pWrong] at he
      split at he <;> cases he
    · rw [h] at he
      simp only [pWrong] at he ⊢
      split at he
      · rename_i hb
        cases he
        rw [if_pos hb]
        exact ⟨(i', t), 1, hm, rfl, rfl, rfl⟩
      · split at he <;> cases he
theorem Loc.name : Loc pName := LocR.bind (Loc.take (by decide)) fun a b h => by rw [show a.2 = b.2 from h]; exact Loc.ret _
theorem Loc.check {b : Bool} {j c j' c' : Nat} : LocR (fun _ _ => True) (pCheck b j c) (pCheck b j' c') := by
  intro C i C' i' m d hs a k d1 he
  unfold pCheck at he ⊢
  split at he
  · rename_i hb
    cases he
    rw [if_pos hb]
    exact ⟨(), 0, Nat.zero_le _, rfl, rfl, trivial⟩
  · cases he
theorem Loc.instant : Loc pInstant := LocR.bind (Loc.take (by decide)) fun a b h => by
  rw [show a.2 = b.2 from h]
  exact LocR.bind Loc.check fun _ _ _ => Loc.ret _
theorem Loc.period : Loc pPeriod := by
  refine Loc.bind (Loc.words _) fun _ => LocR.bind (Loc.take (by decide)) fun a b h => ?_
  rw [show a.2 = b.2 from h]
  refine Loc.bind (Loc.words _) fun _ => Loc.ifWord _ (LocR.bind Loc.check fun _ _ _ => Loc.ret _) (LocR.bind (Loc.take (by decide)) fun a' b' h' => ?_)
  rw [show a'.2 = b'.2 from h']
  exact LocR.bind Loc.check fun _ _ _ => LocR.bind Loc.check fun _ _ _ => Loc.ret _
section
variable {α β : Type} {ρ : α → β → Prop} {x : P α} {y : P β}
theorem Loc.more (h : LocR ρ x y) : ∀ n l l', F2 ρ l l' → LocR (F2 ρ) (pMore x n l) (pMore y n l')
  | 0, _, _, _ => LocR.fail
  | n + 1, l, l', hl => Loc.ifSymbol (by decide) (LocR.bind h fun a b hab => Loc.more h n _ _ (hl.snoc hab)) (LocR.ret hl)
theorem Loc.list (h : LocR ρ x y) (n : Nat) : LocR (F2 ρ) (pList n x) (pList n y) := LocR.bind h fun a b hab => Loc.more h n _ _ (.cons hab .nil)
end
theorem forall2_eq {α : Type} {l l' : List α} (h : F2 Eq l l') : l = l' := by
  induction h with
  | nil => rfl
  | cons h _ ih => rw [h, ih]
theorem Loc.listE {α : Type} {x : P α} (h : Loc x) (n : Nat) : Loc (pList n x) := (Loc.list h n).mono fun _ _ h => forall2_eq h
theorem Loc.plain : Loc pPlain := by
  refine Loc.ifWord _ (Loc.ret _) (Loc.ifWord _ (Loc.ret _) (Loc.ifWord _ (Loc.ret _) ?_))
  intro C i C' i' m d hs a j d1 he
  simp only at he ⊢
  rcases Nat.eq_zero_or_pos m with rfl | hm
  · have e1 : EndAt C i := hs.e1
    have e2 : EndAt C' i' := hs.e2
    have hr : a = none ∧ j = i ∧ d1 = d := by
      rcases h : C[i]? with _ | t
      · rw [h] at he; cases he; exact ⟨rfl, rfl, rfl⟩
      · rw [h] at he
        obtain ⟨h1, _⟩ := e1 t h
        simp only at he
        rw [if_neg (by omega), if_neg (by omega)] at he
        cases he
        exact ⟨rfl, rfl, rfl⟩
    obtain ⟨rfl, rfl, rfl⟩ := hr
    refine ⟨none, 0, Nat.le_refl _, rfl, ?_, rfl⟩
    rcases h : C'[i']? with _ | t
    · rfl
    · obtain ⟨h1, _⟩ := e2 t h
      simp only
      rw [if_neg (by omega), if_neg (by omega)]
      rfl
  · have h0 := hs.same 0 hm
    simp only [Nat.add_zero] at h0
    rw [h0]
    rcases h : C[i]? with _ | t
    · rw [h] at he
      cases he
      exact ⟨none, 0, Nat.zero_le _, rfl, rfl, rfl⟩
    · rw [h] at he
      simp only at he ⊢
      split at he
      · rename_i hb
        cases he
        rw [if_pos hb]
        exact ⟨_, 1, hm, rfl, rfl, rfl⟩
      · rename_i hb
        rw [if_neg hb]
        split at he
        · rename_i hc
          cases he
          rw [if_pos hc]
          exact ⟨_, 1, hm, rfl, rfl, rfl⟩
        · rename_i hc
          cases he
          rw [if_neg hc]
          exact ⟨_, 0, Nat.zero_le _, rfl, rfl, rfl⟩
theorem Loc.literal : Loc pLiteral := Loc.ifSymbol (by decide) (LocR.bind (Loc.take (by decide)) fun a b h => by rw [show a.2 = b.2 from h]; exact Loc.ret _)
  (Loc.bind Loc.plain fun a => by
    cases a
    · exact LocR.wrong
    · exact Loc.ret _)
theorem Loc.join {x : P E} (word : List UInt8) (h : Loc x) : ∀ n l, Loc (pJoin word x n l)
  | 0, _ => LocR.fail
  | n + 1, l => Loc.ifWord _ (Loc.bind h fun e => Loc.join word h n _) (Loc.ret _)
theorem Loc.joined {x : P E} (n op : Nat) (word : List UInt8) (h : Loc x) : Loc (pJoined n op word x) := Loc.bind h fun e => Loc.bind (Loc.join word h n _) fun l => Loc.ret _
theorem Loc.operator : ∀ l : List (List UInt8 × Nat), (∀ a ∈ l, a.1 ≠ [59]) → Loc (pOperator l)
  | [], _ => Loc.ret _
  | (s, op) :: l, h => by
    have h1 : s ≠ [59] := h (s, op) (by simp)
    unfold pOperator
    exact Loc.ifSymbol h1 (Loc.ret _) (Loc.operator l fun a ha => h a (by simp [ha]))
theorem Loc.chainGo {x : P E} {ops : List (List UInt8 × Nat)} (ho : ∀ a ∈ ops, a.1 ≠ [59]) (h : Loc x) : ∀ n e, Loc (pChainGo ops x n e)
  | 0, _ => LocR.fail
  | n + 1, e => Loc.bind (Loc.operator ops ho) fun o => by
    cases o
    · exact Loc.ret _
    · exact Loc.bind h fun f => Loc.chainGo ho h n _
theorem Loc.chain {x : P E} (n : Nat) {ops : List (List UInt8 × Nat)} (ho : ∀ a ∈ ops, a.1 ≠ [59]) (h : Loc x) : Loc (pChain n ops x) := Loc.bind h fun e => Loc.chainGo ho h n e
theorem Loc.sum {x : P E} (n : Nat) (h : Loc x) : Loc (pSum n x) := Loc.chain n (by decide) (Loc.chain n (by decide) h)
theorem sim_rel {C C' : List Core} {i i' m : Nat} (h : Sim C i C' i' m) : relOf C' i' = relOf C i ∧ (relOf C i ≠ none → 2 ≤ m) := by
  have end0 : ∀ (C : List Core) (k : Nat), EndAt C k → relOf C k = none := by
    intro C k he
    unfold relOf
    rcases h : C[k]? with _ | t
    · rfl
    · obtain ⟨h1, _⟩ := he t h
      rcases h' : C[k + 1]? with _ | u
      · rfl
      · simp only
        rw [if_neg (by omega)]
  have end1 : ∀ (C : List Core) (k : Nat), EndAt C (k + 1) → relOf C k = none := by
    intro C k he
    unfold relOf
    rcases h : C[k]? with _ | t
    · rfl
    · rcases h' : C[k + 1]? with _ | u
      · rfl
      · obtain ⟨h1, _⟩ := he u h'
        simp only
        rw [if_neg (by omega)]
  rcases m with _ | _ | m
  · rw [end0 C i h.e1, end0 C' i' h.e2]; exact ⟨rfl, fun e => absurd rfl e⟩
  · rw [end1 C i h.e1, end1 C' i' h.e2]; exact ⟨rfl, fun e => absurd rfl e⟩
  · refine ⟨?_, fun _ => by omega⟩
    have h0 := h.same 0 (by omega)
    have h1 := h.same 1 (by omega)
    simp only [Nat.add_zero] at h0
    unfold relOf
    rw [h0, h1]
theorem LocR.at {α β : Type} {ρ : α → β → Prop} {x : P α} {y : P β} (h : LocR ρ x y) {C C' : List Core} {i i' m : Nat} {d : Bool} (hs : Sim C i C' i' m) {a : α} {j : Nat} {d1 : Bool} (he : x C i d = .ok a j d1) : ∃ b k, k ≤ m ∧ j = i + k ∧ y C' i' d = .ok b (i' + k) d1 ∧ ρ a b := h C i C' i' m d hs a j d1 he
/-- a step over a token that is there -/
theorem LocR.stepped {α β : Type} {ρ : α → β → Prop} {x : P α} {y : P β} (h : LocR ρ x y) {C C' : List Core} {i i' m : Nat} {d : Bool} (hs : Sim C i C' i' m) (hm : 0 < m) {a : α} {j : Nat} {d1 : Bool} (he : (pStep >>= fun _ => x) C i d = .ok a j d1) : ∃ b k, k ≤ m ∧ j = i + k ∧ (pStep >>= fun _ => y) C' i' d = .ok b (i' + k) d1 ∧ ρ a b := by
  replace he : x C (i + 1) d = .ok a j d1 := he
  obtain ⟨b, k, hk, rfl, hy, hr⟩ := h C (i + 1) C' (i' + 1) (m - 1) d (hs.step hm) a j d1 he
  exact ⟨b, 1 + k, by omega, by omega, by rw [← Nat.add_assoc]; exact hy, hr⟩
theorem pTake_one {kind : Nat} {C : List Core} {i j : Nat} {d d0 : Bool} {t : Nat × Core} (h : pTake kind C i d = .ok t j d0) : j = i + 1 := by
  unfold pTake at h
  split at h
  · split at h
    · cases h; rfl
    · exact (wrong_ok h).elim
  · exact (wrong_ok h).elim
theorem pName_one {C : List Core} {i j : Nat} {d d0 : Bool} {s : List UInt8} (h : pName C i d = .ok s j d0) : j = i + 1 := by
  unfold pName at h
  replace h : P.bind (pTake 1) (fun t => pure t.2.text) C i d = .ok s j d0 := h
  unfold P.bind at h
  rcases hq : pTake 1 C i d with ⟨t, j1, d1⟩ | ⟨j1, c⟩
  · rw [hq] at h
    cases h
    exact pTake_one hq
  · rw [hq] at h; cases h
theorem Loc.compare {x : P E} (n : Nat) (h : Loc x) : Loc (pCompare n x) := by
  intro C i C' i' m d hs a j d1 he
  obtain ⟨h1, h2⟩ := sim_rel hs
  unfold pCompare at he ⊢
  rw [h1]
  rcases hr : relOf C i with _ | rel
  · rw [hr] at he
    simp only at he ⊢
    refine LocR.at ?_ hs he
    refine Loc.bind (Loc.sum n h) fun e => Loc.bind (Loc.operator _ (by decide)) fun o => ?_
    cases o
    · exact Loc.ifWord _ (Loc.bind (Loc.word _) fun no => Loc.bind (Loc.words _) fun _ => Loc.ret _) (Loc.ret _)
    · exact Loc.bind (Loc.sum n h) fun f => Loc.ret _
  · rw [hr] at he
    simp only at he ⊢
    have hm : 2 ≤ m := h2 (by rw [hr]; simp)
    have hcont : ∀ s : List UInt8, Loc (do let b ← pName; pure (E.mk 25 rel V.null [] [E.name s, E.name b]) : P E) := fun s => Loc.bind Loc.name fun b => Loc.ret _
    replace he : P.bind pName (fun s => pStep >>= fun _ => (do let b ← pName; pure (E.mk 25 rel V.null [] [E.name s, E.name b]) : P E)) C i d = .ok a j d1 := he
    show ∃ b k, k ≤ m ∧ j = i + k ∧ P.bind pName (fun s => pStep >>= fun _ => (do let b ← pName; pure (E.mk 25 rel V.null [] [E.name s, E.name b]) : P E)) C' i' d = .ok b (i' + k) d1 ∧ a = b
    unfold P.bind at he ⊢
    rcases hq : pName C i d with ⟨s, j0, d0⟩ | ⟨j0, c⟩
    · rw [hq] at he
      obtain ⟨s', k, hk, rfl, hy, rfl⟩ := LocR.at Loc.name hs hq
      have hk1 : k = 1 := by have := pName_one hq; omega
      subst hk1
      rw [hy]
      obtain ⟨b, k, hk, rfl, hy', hr⟩ := LocR.stepped (hcont s) (hs.step hk) (by omega) he
      exact ⟨b, 1 + k, by omega, by omega, by rw [← Nat.add_assoc]; exact hy', hr⟩
    · rw [hq] at he; cases he
theorem Loc.args {x : P E} (k : Nat) (h : Loc x) : ∀ n i l, Loc (pArgs x k n i l)
  | 0, _, _ => LocR.fail
  | n + 1, i, l => Loc.bind (Loc.ahead (by decide)) fun more => LocR.ite (Loc.bind (Loc.need (by decide)) fun _ => Loc.bind h fun e => Loc.args k h n _ _) (Loc.ret _)
theorem Loc.call {x : P E} (n op k : Nat) (h : Loc x) : Loc (pCall n x op k) :=
  Loc.bind (Loc.need (by decide)) fun _ => Loc.bind h fun e => Loc.bind (Loc.args k h n _ _) fun l => Loc.bind (Loc.need (by decide)) fun _ => Loc.ret _
theorem Loc.ref : Loc pRef := Loc.bind Loc.name fun s => Loc.ifSymbol (by decide) (Loc.bind Loc.name fun t => Loc.ret _) (Loc.ret _)
theorem Loc.primary {x : P E} (n : Nat) (h : Loc x) : Loc (pPrimary n x) := by
  refine Loc.bind Loc.plain fun o => ?_
  cases o with
  | some v => exact Loc.ret _
  | none =>
    refine Loc.ifSymbol (by decide) (Loc.bind h fun e => Loc.bind (Loc.need (by decide)) fun _ => Loc.ret _) (Loc.ifWord _ (Loc.call _ _ _ h) (Loc.ifWord _ (Loc.call _ _ _ h) (Loc.ifWord _ (Loc.call _ _ _ h) ?_)))
    intro C i C' i' m d hs a j d1 he
    obtain ⟨h1, h2⟩ := sim_kind (kind := 2) hs (by decide)
    simp only at he ⊢
    rw [h1]
    split at he
    · rename_i hb
      rw [if_pos hb]
      have hm := h2 hb
      have h0 := hs.same 0 hm
      simp only [Nat.add_zero] at h0
      rw [h0]
      rcases hq : C[i]?.bind (fun t => boundOf t.text) with _ | b
      · rw [hq] at he
        exact (wrong_ok he).elim
      · rw [hq] at he
        simp only at he ⊢
        exact LocR.stepped (Loc.bind (Loc.need (by decide)) fun _ => Loc.bind Loc.name fun s => Loc.bind (Loc.need (by decide)) fun _ => Loc.ret _) hs hm he
    · rename_i hb
      rw [if_neg hb]
      exact LocR.at Loc.ref hs he
theorem Loc.exprs : ∀ n, Loc (pOr n) ∧ Loc (pNot n) ∧ Loc (pUnary n)
  | 0 => ⟨by unfold pOr; exact LocR.fail, by unfold pNot; exact LocR.fail, by unfold pUnary; exact LocR.fail⟩
  | n + 1 => by
    obtain ⟨h1, h2, h3⟩ := Loc.exprs n
    refine ⟨?_, ?_, ?_⟩
    · unfold pOr
      exact Loc.joined _ _ _ (Loc.joined _ _ _ h2)
    · unfold pNot
      exact Loc.ifWord _ (Loc.bind h2 fun e => Loc.ret _) (Loc.compare n h3)
    · unfold pUnary
      intro C i C' i' m d hs a j d1 he
      obtain ⟨g1, g2⟩ := sim_ahead (kind := 5) (l := [45]) hs (by decide)
      replace he : (if aheadB C i 0 5 [45] = true then (fun C i d => if kindB C (i + 1) 3 then (do let v ← pLiteral; pure (E.const v) : P E) C i d else (do pStep; let e ← pUnary n; pure (E.node 18 [e]) : P E) C i d : P E) else pPrimary n (pOr n)) C i d = .ok a j d1 := he
      show ∃ b k, k ≤ m ∧ j = i + k ∧ (if aheadB C' i' 0 5 [45] = true then (fun C i d => if kindB C (i + 1) 3 then (do let v ← pLiteral; pure (E.const v) : P E) C i d else (do pStep; let e ← pUnary n; pure (E.node 18 [e]) : P E) C i d : P E) else pPrimary n (pOr n)) C' i' d = .ok b (i' + k) d1 ∧ a = b
      rw [g1]
      rcases hb : aheadB C i 0 5 [45] with _ | _
      · rw [hb] at he
        exact LocR.at (Loc.primary n h1) hs he
      · have hm := g2 hb
        rw [hb] at he
        obtain ⟨k1, _⟩ := sim_kind (kind := 3) (hs.step hm) (by decide)
        replace he : (if kindB C (i + 1) 3 = true then (do let v ← pLiteral; pure (E.const v) : P E) C i d else (do pStep; let e ← pUnary n; pure (E.node 18 [e]) : P E) C i d) = .ok a j d1 := he
        show ∃ b k, k ≤ m ∧ j = i + k ∧ (if kindB C' (i' + 1) 3 = true then (do let v ← pLiteral; pure (E.const v) : P E) C' i' d else (do pStep; let e ← pUnary n; pure (E.node 18 [e]) : P E) C' i' d) = .ok b (i' + k) d1 ∧ a = b
        rw [k1]
        rcases hc : kindB C (i + 1) 3 with _ | _
        · rw [hc] at he
          exact LocR.stepped (Loc.bind h3 fun e => Loc.ret _) hs hm he
        · rw [hc] at he
          exact LocR.at (Loc.bind Loc.literal fun v => Loc.ret _) hs he
theorem Loc.expr (n : Nat) : Loc (pExpr n) := by
  intro C i C' i' m d hs a j d1 he
  unfold pExpr at he ⊢
  rcases hq : pOr n C i d with ⟨e, j0, d0⟩ | ⟨j0, c⟩
  · rw [hq] at he
    obtain ⟨e', k, hk, rfl, hy, rfl⟩ := LocR.at (Loc.exprs n).1 hs hq
    cases he
    rw [hy]
    exact ⟨_, k, hk, rfl, rfl, rfl⟩
  · rw [hq] at he; cases he
end Go.Proofs.YtpmncgbpbcgfaaaGreatDoor

/-
  A parse of a query or a statement looks at the tokens before the next semicolon alone.
-/
namespace Go.Proofs.YtpmncgbpbcgfaaaGreatDoor
set_option linter.unusedVariables false
set_option linter.unusedSimpArgs false

theorem Loc.clause : Loc pClause := by
  refine Loc.ifWord _ (Loc.bind (Loc.words _) fun _ => Loc.bind Loc.instant fun t => Loc.ret _) (Loc.ifWord _ (LocR.bind (Loc.take (by decide)) fun a b h => ?_) (Loc.ifWord _ (Loc.ret _) (Loc.bind Loc.period fun q => Loc.ret _)))
  rw [show a.2 = b.2 from h]
  refine Loc.bind (Loc.words _) fun _ => LocR.bind (Loc.take (by decide)) fun a' b' h' => ?_
  rw [show a'.2 = b'.2 from h']
  exact LocR.bind Loc.check fun _ _ _ => Loc.ret _
theorem Loc.source : Loc pSource :=
  Loc.bind Loc.name fun n => Loc.bind (Loc.ifWord _ Loc.name (Loc.ret _)) fun a => Loc.bind (Loc.ifWord _ Loc.clause (Loc.ret _)) fun c => Loc.bind (Loc.ifWord _ (Loc.bind Loc.instant fun t => Loc.ret _) (Loc.ret _)) fun u => Loc.ret _
theorem Loc.aggregate : Loc pAggregate := Loc.ifWord _ (Loc.ret _) (Loc.ifWord _ (Loc.ret _) (Loc.ifWord _ (Loc.ret _) (Loc.ifWord _ (Loc.ret _) (Loc.ret _))))
theorem Loc.item (n : Nat) : Loc (pItem n) := by
  refine Loc.bind Loc.aggregate fun g => Loc.bind (LocR.ite' (Loc.bind (Loc.expr n) fun e => Loc.ret _) (Loc.bind (Loc.need (by decide)) fun _ => Loc.bind (LocR.ite' (Loc.symbol (by decide)) (Loc.ret _)) fun star => LocR.ite ?_ ?_)) fun x => Loc.bind (Loc.ifWord _ Loc.name (Loc.ret _)) fun s => Loc.ret _
  · exact Loc.bind (Loc.need (by decide)) fun _ => Loc.ret _
  · exact Loc.bind (Loc.expr n) fun e => Loc.bind (Loc.need (by decide)) fun _ => Loc.ret _
theorem Loc.joins (n : Nat) : ∀ k l, Loc (pJoins n k l)
  | 0, _ => LocR.fail
  | k + 1, l => Loc.bind (Loc.word _) fun left => Loc.bind (Loc.ahead (by decide)) fun j => LocR.ite LocR.wrong (Loc.ifWord _ (Loc.bind Loc.source fun s => Loc.bind (Loc.words _) fun _ => Loc.bind (Loc.expr n) fun e => Loc.joins n k _) (Loc.ret _))
theorem Loc.where_ (n : Nat) : Loc (pWhere n) := Loc.ifWord _ (Loc.bind (Loc.expr n) fun e => Loc.ret _) (Loc.ret _)
theorem Loc.sel (n : Nat) : Loc (pSel n) :=
  Loc.bind (Loc.word _) fun d => Loc.bind (Loc.ifSymbol (by decide) (Loc.ret _) (Loc.listE (Loc.item n) n)) fun items => Loc.bind (Loc.words _) fun _ => Loc.bind Loc.source fun f => Loc.bind (Loc.joins n n _) fun js => Loc.bind (Loc.where_ n) fun w =>
    Loc.bind (Loc.ifWord _ (Loc.bind (Loc.words _) fun _ => Loc.listE Loc.ref n) (Loc.ret _)) fun g => Loc.ret _
theorem Loc.combination : Loc pCombination := Loc.ifWord _ (Loc.ret _) (Loc.ifWord _ (Loc.ret _) (Loc.ifWord _ (Loc.ret _) (Loc.ret _)))
theorem Loc.combGo {term : P (Qry × Nat)} (h : Loc term) : ∀ k q, Loc (pCombGo term k q)
  | 0, _ => LocR.fail
  | k + 1, q => Loc.bind Loc.combination fun o => by
    cases o
    · exact Loc.ret _
    · exact Loc.bind (Loc.word _) fun all => Loc.bind h fun r => Loc.combGo h k _
theorem Loc.combined : ∀ n, Loc (pCombined n)
  | 0 => by unfold pCombined; exact LocR.fail
  | n + 1 => by
    have ht : Loc (do
      if ← pSymbol [40] then
        let q ← pCombined n
        pNeed [41]
        pure q
      else
        pWords [[83, 69, 76, 69, 67, 84]]
        let s ← pSel n
        pure (.mk 0 false s [] [] (-1), 1) : P (Qry × Nat)) :=
      Loc.ifSymbol (by decide) (Loc.bind (Loc.combined n) fun q => Loc.bind (Loc.need (by decide)) fun _ => Loc.ret _) (Loc.bind (Loc.words _) fun _ => Loc.bind (Loc.sel n) fun s => Loc.ret _)
    unfold pCombined
    exact Loc.bind ht fun q => Loc.combGo ht n q
theorem Loc.order : Loc pOrder := LocR.bind (Loc.take (by decide)) fun a b h => by
  rw [show a.2 = b.2 from h]
  exact LocR.bind Loc.check fun _ _ _ => Loc.bind (Loc.word _) fun d => Loc.ret _
theorem Loc.deepen (b : Bool) : Loc (fun C i d => .ok () i (d || b) : P Unit) := by
  intro C i C' i' m d hs a j d1 he
  cases he
  exact ⟨(), 0, Nat.zero_le _, rfl, rfl, rfl⟩
theorem Loc.query (n : Nat) : Loc (pQuery n) := by
  refine Loc.bind (Loc.combined n) fun q => Loc.bind (Loc.deepen _) fun _ => Loc.bind (Loc.ifWord _ (Loc.bind (Loc.words _) fun _ => Loc.listE Loc.order n) (Loc.ret _)) fun o => Loc.bind (Loc.ifWord _ (LocR.bind (Loc.take (by decide)) fun a b h => ?_) (Loc.ret _)) fun l => Loc.ret _
  rw [show a.2 = b.2 from h]
  exact Loc.ret _
theorem Loc.prefix_ (st : Stm) : Loc (pPrefix st) :=
  Loc.ifWord _ (Loc.bind (Loc.words _) fun _ => Loc.bind Loc.instant fun t => Loc.ret _) (Loc.ifWord _ (Loc.bind (Loc.ahead (by decide)) fun b => LocR.ite (Loc.bind Loc.period fun p => Loc.ret _) (Loc.ret _)) (Loc.ifWord _ (Loc.ret _) (Loc.ret _)))
theorem Loc.set (n : Nat) : Loc (pSet n) := Loc.bind Loc.name fun s => Loc.bind (Loc.need (by decide)) fun _ => Loc.bind (Loc.expr n) fun e => Loc.ret _
theorem Loc.row (n : Nat) : Loc (pRow n) := Loc.bind (Loc.need (by decide)) fun _ => Loc.bind (Loc.listE (Loc.expr n) n) fun l => Loc.bind (Loc.need (by decide)) fun _ => Loc.ret _
theorem Loc.modification (n : Nat) (word : List UInt8) (st : Stm) : Loc (pModification n word st) :=
  LocR.ite' (Loc.bind (Loc.words _) fun _ => Loc.bind Loc.name fun s => Loc.bind (Loc.words _) fun _ => Loc.bind (Loc.listE (Loc.row n) n) fun l => Loc.ret _)
    (LocR.ite' (Loc.bind Loc.name fun s => Loc.bind (Loc.words _) fun _ => Loc.bind (Loc.listE (Loc.set n) n) fun l => Loc.bind (Loc.where_ n) fun w => Loc.ret _)
      (Loc.bind (Loc.words _) fun _ => Loc.bind Loc.name fun s => Loc.bind (Loc.where_ n) fun w => Loc.ret _))
theorem Loc.column : Loc pColumn :=
  Loc.bind Loc.name fun s => Loc.bind (Loc.ifWord _ (Loc.ret _) (Loc.ifWord _ (Loc.ret _) (Loc.ifWord _ (Loc.ret _) LocR.wrong))) fun k => Loc.bind (Loc.word _) fun nl => Loc.ret _
theorem Loc.indexes (cols : List Col) : ∀ l l', F2 tokEq l l' → LocR Eq (pIndexes cols l) (pIndexes cols l')
  | _, _, .nil => Loc.ret _
  | _, _, @F2.cons _ _ _ a b l l' h hl => by
    unfold pIndexes
    rw [show a.2 = b.2 from h]
    exact LocR.bind Loc.check fun _ _ _ => Loc.bind2 (Loc.indexes cols l l' hl) fun r => Loc.ret _
theorem Loc.columns (n : Nat) (cols : List Col) : Loc (pColumns n cols) :=
  LocR.bind (LocR.bind (Loc.need (by decide)) fun _ _ _ => LocR.bind (Loc.list (Loc.take (by decide)) n) fun l l' h => LocR.bind (Loc.need (by decide)) fun _ _ _ => LocR.ret h) fun l l' h => Loc.indexes cols l l' h
theorem Loc.colsGo : ∀ k l, Loc (pColsGo k l)
  | 0, _ => LocR.fail
  | k + 1, l => Loc.ifWord _ (Loc.ret _) (Loc.bind Loc.column fun c => Loc.bind (Loc.need (by decide)) fun _ => Loc.colsGo k _)
theorem Loc.frnsGo (n : Nat) (cols : List Col) : ∀ k l, Loc (pFrnsGo n cols k l)
  | 0, _ => LocR.fail
  | k + 1, l => by
    intro C i C' i' m d hs a j d1 he
    obtain ⟨g1, g2⟩ := sim_ahead (kind := 5) (l := [44]) hs (by decide)
    have hc : Loc (do
      pWords [[75, 69, 89]]
      let c ← pColumns n cols
      pWords [[82, 69, 70, 69, 82, 69, 78, 67, 69, 83]]
      let s ← pName
      pFrnsGo n cols k (l ++ [⟨c, s⟩]) : P (List Frn)) := Loc.bind (Loc.words _) fun _ => Loc.bind (Loc.columns n cols) fun c => Loc.bind (Loc.words _) fun _ => Loc.bind Loc.name fun s => Loc.frnsGo n cols k _
    unfold pFrnsGo at he ⊢
    replace he : (if (aheadB C i 0 5 [44] && aheadB C i 1 2 [70, 79, 82, 69, 73, 71, 78]) = true then (pStep >>= fun _ => pStep >>= fun _ => (do
      pWords [[75, 69, 89]]
      let c ← pColumns n cols
      pWords [[82, 69, 70, 69, 82, 69, 78, 67, 69, 83]]
      let s ← pName
      pFrnsGo n cols k (l ++ [⟨c, s⟩]) : P (List Frn))) else pure l) C i d = .ok a j d1 := he
    show ∃ b q, q ≤ m ∧ j = i + q ∧ (if (aheadB C' i' 0 5 [44] && aheadB C' i' 1 2 [70, 79, 82, 69, 73, 71, 78]) = true then (pStep >>= fun _ => pStep >>= fun _ => (do
      pWords [[75, 69, 89]]
      let c ← pColumns n cols
      pWords [[82, 69, 70, 69, 82, 69, 78, 67, 69, 83]]
      let s ← pName
      pFrnsGo n cols k (l ++ [⟨c, s⟩]) : P (List Frn))) else pure l) C' i' d = .ok b (i' + q) d1 ∧ a = b
    rw [g1]
    by_cases hb : aheadB C i 0 5 [44] = true
    · have hm := g2 hb
      obtain ⟨k1, k2⟩ := sim_ahead (kind := 2) (l := [70, 79, 82, 69, 73, 71, 78]) (hs.step hm) (by decide)
      have e1 : aheadB C' i' 1 2 [70, 79, 82, 69, 73, 71, 78] = aheadB C i 1 2 [70, 79, 82, 69, 73, 71, 78] := k1
      rw [e1]
      rw [hb] at he ⊢
      simp only [Bool.true_and] at he ⊢
      by_cases h2 : aheadB C i 1 2 [70, 79, 82, 69, 73, 71, 78] = true
      · rw [if_pos h2] at he ⊢
        have hm2 := k2 h2
        have hstep : ∃ b q, q ≤ m - 1 ∧ j = i + 1 + q ∧ (pStep >>= fun _ => (do
          pWords [[75, 69, 89]]
          let c ← pColumns n cols
          pWords [[82, 69, 70, 69, 82, 69, 78, 67, 69, 83]]
          let s ← pName
          pFrnsGo n cols k (l ++ [⟨c, s⟩]) : P (List Frn))) C' (i' + 1) d = .ok b (i' + 1 + q) d1 ∧ a = b := LocR.stepped hc (hs.step hm) hm2 he
        obtain ⟨b, q, hq, rfl, hy, hr⟩ := hstep
        exact ⟨b, 1 + q, by omega, by omega, by rw [← Nat.add_assoc]; exact hy, hr⟩
      · rw [if_neg h2] at he ⊢
        exact LocR.at (Loc.ret _) hs he
    · rw [Bool.eq_false_iff.2 hb] at he ⊢
      simp only [Bool.false_and, Bool.false_eq_true, if_false] at he ⊢
      exact LocR.at (Loc.ret _) hs he
theorem Loc.checksGo (n : Nat) : ∀ k l, Loc (pChecksGo n k l)
  | 0, _ => LocR.fail
  | k + 1, l => Loc.ifSymbol (by decide) (Loc.bind (Loc.words _) fun _ => Loc.bind (Loc.need (by decide)) fun _ => Loc.bind (Loc.expr n) fun e => Loc.bind (Loc.need (by decide)) fun _ => Loc.checksGo n k _) (Loc.ret _)
theorem Loc.create (n : Nat) (st : Stm) : Loc (pCreate n st) :=
  Loc.bind (Loc.words _) fun _ => Loc.bind Loc.name fun s => Loc.bind (Loc.need (by decide)) fun _ => Loc.bind Loc.column fun c => Loc.bind (Loc.need (by decide)) fun _ => Loc.bind (Loc.colsGo _ _) fun cols => Loc.bind (Loc.words _) fun _ =>
    Loc.bind (Loc.columns _ _) fun key => Loc.bind (Loc.frnsGo _ _ _ _) fun frns => Loc.bind (Loc.checksGo _ _ _) fun checks => Loc.bind (Loc.need (by decide)) fun _ => Loc.ret _
theorem Loc.alter (st : Stm) : Loc (pAlter st) :=
  Loc.bind (Loc.words _) fun _ => Loc.bind Loc.name fun s => Loc.bind
    (Loc.ifWord _ (Loc.bind Loc.column fun c => Loc.bind (Loc.words _) fun _ => Loc.bind Loc.literal fun v => Loc.ret _) (Loc.ifWord _ (Loc.bind Loc.name fun x => Loc.ret _)
      (Loc.ifWord _ (Loc.bind Loc.name fun x => Loc.bind (Loc.words _) fun _ => Loc.bind Loc.name fun y => Loc.ret _) (Loc.ifWord _ (Loc.bind Loc.name fun x => Loc.ret _) LocR.wrong)))) fun c => Loc.ret _
theorem Loc.command (n : Nat) (st : Stm) : Loc (pCommand n st) := by
  refine Loc.ifWord _ (Loc.bind (Loc.create n st) fun s => Loc.ret _) (Loc.ifWord _ (Loc.bind (Loc.alter st) fun s => Loc.ret _) (Loc.ifWord _ (Loc.ret _) (Loc.ifWord _ (Loc.ret _) (Loc.ifWord _ (Loc.ret _) (Loc.ifWord _ (Loc.bind (Loc.words _) fun _ => Loc.bind Loc.instant fun t => Loc.ret _) (Loc.ifWord _ ?_ (Loc.ifWord _ (Loc.bind Loc.name fun a => Loc.ret _) (Loc.ifWord _ (Loc.bind Loc.name fun a => ?_) (Loc.ifWord _ (Loc.ret _) (Loc.ret _))))))))))
  · exact Loc.bind Loc.name fun a => Loc.bind (Loc.words _) fun _ => Loc.bind Loc.name fun b => Loc.bind (Loc.words _) fun _ => Loc.bind Loc.period fun v => Loc.bind (Loc.words _) fun _ => Loc.bind Loc.period fun y => Loc.ret _
  · refine LocR.bind (Loc.take (by decide)) fun t u h => ?_
    rw [show t.2 = u.2 from h]
    exact LocR.bind Loc.check fun _ _ _ => Loc.ret _
theorem Loc.statement (n : Nat) : Loc (pStatement n) := by
  refine Loc.bind (Loc.prefix_ _) fun x => ?_
  have hq : Loc (do
        let q ← pQuery n
        pure { x.2 with kind := 1, query := q } : P Stm) := Loc.bind (Loc.query n) fun q => Loc.ret _
  intro C i C' i' m d hs a j d1 he
  simp only at he ⊢
  rcases Nat.eq_zero_or_pos m with rfl | hm
  · have e1 : EndAt C i := hs.e1
    have e2 : EndAt C' i' := hs.e2
    have he' : (do
        let q ← pQuery n
        pure { x.2 with kind := 1, query := q } : P Stm) C i d = .ok a j d1 := by
      rcases h : C[i]? with _ | t
      · rw [h] at he; exact he
      · rw [h] at he
        obtain ⟨h1, _⟩ := e1 t h
        simp only at he
        rw [if_neg (by omega)] at he
        exact he
    obtain ⟨b, k, hk, hj, hy, hr⟩ := LocR.at hq hs he'
    refine ⟨b, k, hk, hj, ?_, hr⟩
    rcases h : C'[i']? with _ | t
    · exact hy
    · obtain ⟨h1, _⟩ := e2 t h
      simp only
      rw [if_neg (by omega)]
      exact hy
  · have h0 := hs.same 0 hm
    simp only [Nat.add_zero] at h0
    rw [h0]
    rcases h : C[i]? with _ | t
    · rw [h] at he
      exact LocR.at hq hs he
    · rw [h] at he
      simp only at he ⊢
      by_cases hk : t.kind = 2
      · rw [if_pos hk] at he ⊢
        by_cases ht : t.text = [73, 78, 83, 69, 82, 84] ∨ t.text = [85, 80, 68, 65, 84, 69] ∨ t.text = [68, 69, 76, 69, 84, 69]
        · rw [if_pos ht] at he ⊢
          by_cases hmode : x.2.mode = 3
          · exfalso
            replace he : P.bind (pCheck (decide (x.2.mode ≠ 3)) i 15) _ C i d = .ok a j d1 := he
            unfold P.bind pCheck at he
            simp [hmode] at he
          · have e1 : ∀ (C : List Core) (k : Nat), (do
              pCheck (decide (x.2.mode ≠ 3)) k 15
              pStep
              pModification n t.text x.2 : P Stm) C k d = (pStep >>= fun _ => pModification n t.text x.2 : P Stm) C k d := by
              intro C k
              show P.bind (pCheck (decide (x.2.mode ≠ 3)) k 15) _ C k d = _
              unfold P.bind pCheck
              simp [hmode]
            rw [e1] at he
            rw [e1]
            exact LocR.stepped (Loc.modification n _ _) hs hm he
        · rw [if_neg ht] at he ⊢
          by_cases h2 : t.text = [83, 69, 76, 69, 67, 84]
          · rw [if_pos h2] at he ⊢
            exact LocR.at hq hs he
          · rw [if_neg h2] at he ⊢
            by_cases h3 : x.1 = true
            · rw [if_pos h3] at he
              exact (wrong_ok he).elim
            · rw [if_neg h3] at he ⊢
              refine LocR.at (Loc.bind (Loc.command n _) fun o => ?_) hs he
              cases o
              · exact LocR.wrong
              · exact Loc.ret _
      · rw [if_neg hk] at he ⊢
        exact LocR.at hq hs he
end Go.Proofs.YtpmncgbpbcgfaaaGreatDoor

/-
  A token's scan looks at its bytes and at the next one alone.
-/
namespace Go.Proofs.YtpmncgbpbcgfaaaGreatDoor
set_option linter.unusedVariables false
set_option linter.unusedSimpArgs false

/-- what follows is nothing, or begins alike -/
def Alike (r r' : List UInt8) : Prop := r' = [] ∨ r'.head? = r.head?
theorem tw_local {p : UInt8 → Bool} {b r r' : List UInt8} (hb : ∀ c ∈ b, p c = true) (hr : ∀ c, r.head? = some c → p c = false) (h : Alike r r') : (b ++ r').takeWhile p = b := by
  rw [List.takeWhile_append_of_pos hb]
  rcases r' with _ | ⟨c, r'⟩
  · simp
  · rcases h with h | h
    · cases h
    · rw [List.takeWhile_cons, if_neg (by rw [hr c h.symm]; decide)]; simp
theorem run_split (cls : Nat → Bool) (l : List UInt8) (a : Nat) : l.drop a = runOf cls l a ++ l.drop (runEnd cls l a) := by
  rw [runOf_take]
  have h := runEnd_ge cls l a
  have e : l.drop (runEnd cls l a) = (l.drop a).drop (runEnd cls l a - a) := by rw [List.drop_drop]; congr 1; omega
  rw [e, List.take_append_drop]
theorem head_drop {l : List UInt8} {e : Nat} {c : UInt8} (h : (l.drop e).head? = some c) : ∃ he : e < l.length, l[e] = c := by
  rw [List.head?_drop] at h
  obtain ⟨he, h⟩ := List.getElem?_eq_some_iff.1 h
  exact ⟨he, h⟩
theorem run_local {cls : Nat → Bool} {l l' r' : List UInt8} {a a' : Nat} (hd : l'.drop a' = runOf cls l a ++ r') (h : Alike (l.drop (runEnd cls l a)) r') : runOf cls l' a' = runOf cls l a ∧ runEnd cls l' a' = a' + (runOf cls l a).length := by
  have h1 : runOf cls l' a' = runOf cls l a := by
    conv => lhs; unfold runOf
    rw [hd]
    refine tw_local (fun c hc => runOf_cls hc) (fun c hc => ?_) h
    obtain ⟨he, e⟩ := head_drop hc
    rw [← e]
    exact run_not he
  refine ⟨h1, ?_⟩
  have h2 := runOf_length cls l' a'
  rw [h1] at h2
  have := runEnd_ge cls l' a'
  omega
theorem get_cons {l : List UInt8} {a : Nat} {c : UInt8} {r : List UInt8} (h : l.drop a = c :: r) : ∃ ha : a < l.length, l[a] = c := by
  have ha : a < l.length := by
    rcases Nat.lt_or_ge a l.length with h1 | h1
    · exact h1
    · rw [List.drop_eq_nil_of_le h1] at h; cases h
  refine ⟨ha, ?_⟩
  rw [List.drop_eq_getElem_cons ha] at h
  injection h
theorem textGo_local (a : Nat) (rest : List UInt8) (i : Nat) (out : List UInt8) {t : Tok} {e : Nat} (h : textGo a rest i out = .tok t e) :
    ∃ b r, rest = b ++ r ∧ e = i + b.length ∧ r.head? ≠ some 39 ∧ ∀ (a' i' : Nat) (r' : List UInt8), r'.head? ≠ some 39 → textGo a' (b ++ r') i' out = .tok { t with at_ := a' } (i' + b.length) := by
  have hend : ∀ (i : Nat) (out : List UInt8) (r : List UInt8), textEnd a i out = .tok t e → r.head? ≠ some 39 →
      ∃ b s, 39 :: r = b ++ s ∧ e = i + b.length ∧ s.head? ≠ some 39 ∧ ∀ (a' i' : Nat) (r' : List UInt8), r'.head? ≠ some 39 → textGo a' (b ++ r') i' out = .tok { t with at_ := a' } (i' + b.length) := by
    intro i out r h hr
    unfold textEnd at h
    split at h
    · cases h
    · rename_i h2
      cases h
      refine ⟨[39], r, rfl, rfl, hr, fun a' i' r' hr' => ?_⟩
      have hg : textGo a' (39 :: r') i' out = textEnd a' i' out := by
        rcases r' with _ | ⟨d, r'⟩
        · rw [textGo.eq_def]; rfl
        · rw [textGo.eq_def]
          simp only [if_true]
          rw [if_neg (fun e => hr' (by rw [e]; rfl))]
      show textGo a' (39 :: r') i' out = _
      rw [hg]
      unfold textEnd
      rw [if_neg h2]
      rfl
  induction rest, i, out using textGo.induct with
  | case1 i out => simp [textGo] at h
  | case2 i out => simp [textGo] at h; exact hend _ _ _ h (by simp)
  | case3 i out r ih =>
    simp [textGo] at h
    obtain ⟨b, s, h1, h2, h3, h4⟩ := ih h
    refine ⟨39 :: 39 :: b, s, by rw [h1]; rfl, by simp; omega, h3, fun a' i' r' hr' => ?_⟩
    show textGo a' (39 :: 39 :: (b ++ r')) i' out = _
    rw [textGo.eq_def]
    simp only [if_true]
    rw [h4 a' (i' + 2) r' hr']
    congr 1
    simp
    omega
  | case4 i out d r hd => simp [textGo, hd] at h; exact hend _ _ _ h (by simpa using hd)
  | case5 c r i out hc hb => unfold textGo at h; rw [if_neg hc, if_pos hb] at h; cases h
  | case6 c r i out hc hb ih =>
    unfold textGo at h
    rw [if_neg hc, if_neg hb] at h
    obtain ⟨b, s, h1, h2, h3, h4⟩ := ih h
    refine ⟨c :: b, s, by rw [h1]; rfl, by simp; omega, h3, fun a' i' r' hr' => ?_⟩
    show textGo a' (c :: (b ++ r')) i' out = _
    rw [textGo.eq_def]
    simp only
    rw [if_neg hc, if_neg hb, h4 a' (i' + 1) r' hr']
    congr 1
    simp
    omega
/-- the scan of one token at another place -/
theorem scan_local {l : List UInt8} {a : Nat} (ha : a < l.length) {t : Tok} {e : Nat} (h : scanAt l a l[a] = .tok t e) :
    ∃ b, l.drop a = b ++ l.drop e ∧ e = a + b.length ∧ (∃ b', b = l[a] :: b') ∧
      ∀ (l' : List UInt8) (a' : Nat) (r' : List UInt8), l'.drop a' = b ++ r' → Alike (l.drop e) r' → ∃ ha' : a' < l'.length, l'[a'] = l[a] ∧ scanAt l' a' l'[a'] = .tok { t with at_ := a' } (a' + b.length) := by
  have hda : l.drop a = l[a] :: l.drop (a + 1) := List.drop_eq_getElem_cons ha
  unfold scanAt at h
  split at h
  · rename_i hl
    have hrun : ∃ b', runOf wordB l a = l[a] :: b' := by
      unfold runOf
      rw [hda, List.takeWhile_cons, if_pos (by simp [wordB, hl])]
      exact ⟨_, rfl⟩
    have hsp := run_split wordB l a
    have hlen : runEnd wordB l a = a + (runOf wordB l a).length := by have := runOf_length wordB l a; have := runEnd_ge wordB l a; omega
    have key : e = runEnd wordB l a := by
      unfold wordScan at h
      split at h
      · cases h; rfl
      · split at h
        · cases h
        · split at h
          · cases h
          · cases h; rfl
    refine ⟨runOf wordB l a, by rw [key]; exact hsp, by rw [key]; exact hlen, hrun, fun l' a' r' hd hal => ?_⟩
    rw [key] at hal
    obtain ⟨g1, g2⟩ := run_local hd hal
    obtain ⟨b', hb'⟩ := hrun
    obtain ⟨ha', e'⟩ := get_cons (l := l') (a := a') (c := l[a]) (r := b' ++ r') (by rw [hd, hb']; rfl)
    refine ⟨ha', e', ?_⟩
    unfold scanAt
    rw [e', if_pos hl]
    unfold wordScan at h ⊢
    rw [g1, g2]
    split at h
    · rename_i hw; rw [if_pos hw]; cases h; rfl
    · rename_i hw
      rw [if_neg hw]
      split at h
      · cases h
      · rename_i hu
        rw [if_neg hu]
        split at h
        · cases h
        · rename_i h24
          rw [if_neg h24]; cases h; rfl
  · rename_i hl
    split at h
    · rename_i hdg
      have hrun : ∃ b', runOf digitB l a = l[a] :: b' := by
        unfold runOf
        rw [hda, List.takeWhile_cons, if_pos hdg]
        exact ⟨_, rfl⟩
      have hsp := run_split digitB l a
      have hlen : runEnd digitB l a = a + (runOf digitB l a).length := by have := runOf_length digitB l a; have := runEnd_ge digitB l a; omega
      have key : e = runEnd digitB l a := by
        unfold numberScan at h
        split at h
        · cases h
        · split at h
          · cases h
          · cases h; rfl
      refine ⟨runOf digitB l a, by rw [key]; exact hsp, by rw [key]; exact hlen, hrun, fun l' a' r' hd hal => ?_⟩
      rw [key] at hal
      obtain ⟨g1, g2⟩ := run_local hd hal
      obtain ⟨b', hb'⟩ := hrun
      obtain ⟨ha', e'⟩ := get_cons (l := l') (a := a') (c := l[a]) (r := b' ++ r') (by rw [hd, hb']; rfl)
      refine ⟨ha', e', ?_⟩
      unfold scanAt
      rw [e', if_neg hl, if_pos hdg]
      have hbad : badNum l a = false → badNum l' a' = false := by
        intro hb
        unfold badNum at hb ⊢
        rw [g1, g2]
        rw [Bool.or_eq_false_iff] at hb ⊢
        refine ⟨hb.1, ?_⟩
        have hnext : l'[a' + (runOf digitB l a).length]? = r'[0]? := by
          have := congrArg (fun z => z[(runOf digitB l a).length]?) hd
          simp only [List.getElem?_drop] at this
          rw [this, List.getElem?_append_right (Nat.le_refl _), Nat.sub_self]
        rw [hnext]
        rcases hal with rfl | hh
        · rfl
        · rw [← List.head?_eq_getElem?, hh, List.head?_drop]
          exact hb.2
      unfold numberScan at h ⊢
      split at h
      · cases h
      · rename_i hb
        rw [hbad (by simpa using hb), if_neg (by decide), g1, g2]
        split at h
        · cases h
        · rename_i hm
          rw [if_neg hm]; cases h; rfl
    · rename_i hdg
      split at h
      · rename_i hq
        unfold textScan at h
        obtain ⟨b, r, h1, h2, h3, h4⟩ := textGo_local _ _ _ _ h
        have hde : l.drop e = r := by
          have : l.drop e = (l.drop (a + 1)).drop b.length := by rw [List.drop_drop, h2]
          rw [this, h1, List.drop_left']; rfl
        refine ⟨l[a] :: b, by rw [hda, h1, hde]; rfl, by simp; omega, ⟨b, rfl⟩, fun l' a' r' hd hal => ?_⟩
        obtain ⟨ha', e'⟩ := get_cons (l := l') (a := a') (c := l[a]) (r := b ++ r') (by rw [hd]; rfl)
        refine ⟨ha', e', ?_⟩
        unfold scanAt
        rw [e', if_neg hl, if_neg hdg, if_pos hq]
        unfold textScan
        have hd2 : l'.drop (a' + 1) = b ++ r' := by
          have : (l'.drop a').drop 1 = l'.drop (a' + 1) := by rw [List.drop_drop]
          rw [← this, hd]; rfl
        rw [hd2, h4 a' (a' + 1) r' (by
          rcases hal with rfl | hh
          · simp
          · rw [hh, hde]; exact h3)]
        congr 1
        simp
        omega
      · rename_i hq
        unfold symScan at h
        split at h
        · rename_i ht
          have hl2 : ((l.drop a).take 2).length = 2 := by
            simp [twos] at ht
            rcases ht with ht | ht | ht | ht <;> rw [ht] <;> rfl
          cases h
          refine ⟨(l.drop a).take 2, ?_, by rw [hl2], ?_, fun l' a' r' hd hal => ?_⟩
          · have : l.drop (a + 2) = (l.drop a).drop 2 := by rw [List.drop_drop]
            rw [this, List.take_append_drop]
          · rw [hda]; exact ⟨_, rfl⟩
          · obtain ⟨ha', e'⟩ := get_cons (l := l') (a := a') (c := l[a]) (r := (l.drop (a + 1)).take 1 ++ r') (by rw [hd, hda]; rfl)
            refine ⟨ha', e', ?_⟩
            unfold scanAt
            rw [e', if_neg hl, if_neg hdg, if_neg hq]
            unfold symScan
            have h2 : (l'.drop a').take 2 = (l.drop a).take 2 := by
              rw [hd]
              exact List.take_left' hl2
            rw [h2, if_pos ht, hl2]
        · rename_i ht
          rw [List.getElem?_eq_getElem ha] at h
          simp only at h
          split at h
          · rename_i hc
            cases h
            refine ⟨[l[a]], hda, rfl, ⟨[], rfl⟩, fun l' a' r' hd hal => ?_⟩
            obtain ⟨ha', e'⟩ := get_cons (l := l') (a := a') (c := l[a]) (r := r') (by rw [hd]; rfl)
            refine ⟨ha', e', ?_⟩
            unfold scanAt
            rw [e', if_neg hl, if_neg hdg, if_neg hq]
            unfold symScan
            have h2 : ¬ twos.contains ((l'.drop a').take 2) = true := by
              rw [hd]
              rcases hal with rfl | hh
              · simp [twos]
              · have e2 : ([l[a]] ++ r').take 2 = (l.drop a).take 2 := by
                  rw [hda]
                  rcases r' with _ | ⟨x, r'⟩
                  · rcases hx : l.drop (a + 1) with _ | ⟨y, z⟩
                    · rfl
                    · rw [hx] at hh; cases hh
                  · rcases hx : l.drop (a + 1) with _ | ⟨y, z⟩
                    · rw [hx] at hh; cases hh
                    · rw [hx] at hh
                      simp only [List.head?_cons, Option.some.injEq] at hh
                      subst hh
                      rfl
                rw [e2]; exact ht
            rw [if_neg h2, List.getElem?_eq_getElem ha', e']
            simp only
            rw [if_pos hc]
            rfl
          · cases h
end Go.Proofs.YtpmncgbpbcgfaaaGreatDoor

/-
  Further blanks behind a space outside of quotes do not change the tokens.
-/
namespace Go.Proofs.YtpmncgbpbcgfaaaGreatDoor
set_option linter.unusedVariables false
set_option linter.unusedSimpArgs false

def quotes (q : Bool) (c : UInt8) : Bool := if c = 39 then !q else q
/-- x behind every space outside of quotes -/
def ins (x : List UInt8) : Bool → List UInt8 → List UInt8
  | _, [] => []
  | q, c :: r => c :: ((if quotes q c = false ∧ c = 32 then x else []) ++ ins x (quotes q c) r)
theorem ins_plain {x b : List UInt8} (h : ∀ c ∈ b, c ≠ 39 ∧ c ≠ 32) (r : List UInt8) : ins x false (b ++ r) = b ++ ins x false r := by
  induction b with
  | nil => rfl
  | cons c b ih =>
    obtain ⟨h1, h2⟩ := h c (by simp)
    have hq : quotes false c = false := by unfold quotes; rw [if_neg h1]
    show c :: ((if quotes false c = false ∧ c = 32 then x else []) ++ ins x (quotes false c) (b ++ r)) = _
    rw [hq, if_neg (fun e => h2 e.2), ih (fun d hd => h d (by simp [hd]))]
    rfl
theorem ins_head (x : List UInt8) (q : Bool) (r : List UInt8) : (ins x q r).head? = r.head? := by
  rcases r with _ | ⟨c, r⟩ <;> rfl
theorem textGo_ins (x : List UInt8) (a : Nat) (rest : List UInt8) (i : Nat) (out : List UInt8) {t : Tok} {e : Nat} (h : textGo a rest i out = .tok t e) :
    ∃ b r, rest = b ++ r ∧ e = i + b.length ∧ ins x true rest = b ++ ins x false r := by
  have hend : ∀ (i : Nat) (out r : List UInt8), textEnd a i out = .tok t e → ∃ b s, 39 :: r = b ++ s ∧ e = i + b.length ∧ ins x true (39 :: r) = b ++ ins x false s := by
    intro i out r h
    unfold textEnd at h
    split at h
    · cases h
    · cases h
      refine ⟨[39], r, rfl, rfl, ?_⟩
      show 39 :: ((if quotes true 39 = false ∧ (39 : UInt8) = 32 then x else []) ++ ins x (quotes true 39) r) = _
      rw [if_neg (fun e => absurd e.2 (by decide))]
      rfl
  induction rest, i, out using textGo.induct with
  | case1 i out => simp [textGo] at h
  | case2 i out => simp [textGo] at h; exact hend _ _ _ h
  | case3 i out r ih =>
    simp [textGo] at h
    obtain ⟨b, s, h1, h2, h3⟩ := ih h
    refine ⟨39 :: 39 :: b, s, by rw [h1]; rfl, by simp; omega, ?_⟩
    show 39 :: ((if quotes true 39 = false ∧ (39 : UInt8) = 32 then x else []) ++ (39 :: ((if quotes (quotes true 39) 39 = false ∧ (39 : UInt8) = 32 then x else []) ++ ins x (quotes (quotes true 39) 39) r))) = _
    rw [if_neg (fun e => absurd e.2 (by decide)), if_neg (fun e => absurd e.2 (by decide))]
    have : quotes (quotes true 39) 39 = true := by decide
    rw [this, h3]
    rfl
  | case4 i out d r hd => simp [textGo, hd] at h; exact hend _ _ _ h
  | case5 c r i out hc hb => unfold textGo at h; rw [if_neg hc, if_pos hb] at h; cases h
  | case6 c r i out hc hb ih =>
    unfold textGo at h
    rw [if_neg hc, if_neg hb] at h
    obtain ⟨b, s, h1, h2, h3⟩ := ih h
    refine ⟨c :: b, s, by rw [h1]; rfl, by simp; omega, ?_⟩
    have hq : quotes true c = true := by unfold quotes; rw [if_neg hc]
    show c :: ((if quotes true c = false ∧ c = 32 then x else []) ++ ins x (quotes true c) r) = _
    rw [hq, if_neg (fun e => absurd e.1 (by decide)), h3]
    rfl
theorem word_ne {n : Nat} (h : wordB n = true) : n ≠ 39 ∧ n ≠ 32 := by unfold wordB letterB digitB at h; simp at h; omega
theorem digit_ne {n : Nat} (h : digitB n = true) : n ≠ 39 ∧ n ≠ 32 := by unfold digitB at h; simp at h; omega
theorem nat_ne {c : UInt8} (h : c.toNat ≠ 39 ∧ c.toNat ≠ 32) : c ≠ 39 ∧ c ≠ 32 := ⟨fun e => h.1 (by rw [e]; rfl), fun e => h.2 (by rw [e]; rfl)⟩
theorem two_ne : twos.all (fun l => l.all fun c => decide (c ≠ 39 ∧ c ≠ 32)) = true := by decide +kernel
theorem one_ne : ones.all (fun c => decide (c ≠ 39 ∧ c ≠ 32)) = true := by decide +kernel
theorem tok_ins (x : List UInt8) {l : List UInt8} {a : Nat} (ha : a < l.length) {t : Tok} {e : Nat} (h : scanAt l a l[a] = .tok t e) {b : List UInt8} (hb : l.drop a = b ++ l.drop e) (he : e = a + b.length) :
    ins x false (l.drop a) = b ++ ins x false (l.drop e) := by
  have hda : l.drop a = l[a] :: l.drop (a + 1) := List.drop_eq_getElem_cons ha
  have plain : (∀ c ∈ b, c ≠ 39 ∧ c ≠ 32) → ins x false (l.drop a) = b ++ ins x false (l.drop e) := fun hp => by rw [hb]; exact ins_plain hp _
  have hbt : b = (l.drop a).take (e - a) := by rw [hb, List.take_left' (by omega)]
  unfold scanAt at h
  split at h
  · have key : e = runEnd wordB l a := by
      unfold wordScan at h
      split at h
      · cases h; rfl
      · split at h
        · cases h
        · split at h
          · cases h
          · cases h; rfl
    refine plain (fun c hc => ?_)
    rw [hbt, key, ← runOf_take] at hc
    exact nat_ne (word_ne (runOf_cls hc))
  · split at h
    · have key : e = runEnd digitB l a := by
        unfold numberScan at h
        split at h
        · cases h
        · split at h
          · cases h
          · cases h; rfl
      refine plain (fun c hc => ?_)
      rw [hbt, key, ← runOf_take] at hc
      exact nat_ne (digit_ne (runOf_cls hc))
    · split at h
      · rename_i hq
        unfold textScan at h
        obtain ⟨b2, r, h1, h2, h3⟩ := textGo_ins x _ _ _ _ h
        have hb2 : b = 39 :: b2 := by
          rw [hbt, hda, h1, hq, h2]
          have : a + 1 + b2.length - a = b2.length + 1 := by omega
          rw [this, List.take_succ_cons, List.take_left' rfl]
        have hr : l.drop e = r := by
          have : l.drop e = (l.drop (a + 1)).drop b2.length := by rw [List.drop_drop, h2]
          rw [this, h1, List.drop_left' rfl]
        rw [hda, hq, hb2, hr]
        show 39 :: ((if quotes false 39 = false ∧ (39 : UInt8) = 32 then x else []) ++ ins x (quotes false 39) (l.drop (a + 1))) = _
        rw [if_neg (fun e => absurd e.2 (by decide))]
        have : quotes false 39 = true := by decide
        rw [this, h3]
        rfl
      · unfold symScan at h
        split at h
        · rename_i ht
          cases h
          refine plain (fun c hc => ?_)
          have e2 : a + 2 - a = 2 := by omega
          rw [hbt, e2] at hc
          have hm : (l.drop a).take 2 ∈ twos := by simpa using ht
          have := List.all_eq_true.1 (List.all_eq_true.1 two_ne _ hm) c hc
          simpa using this
        · rw [List.getElem?_eq_getElem ha] at h
          simp only at h
          split at h
          · rename_i hc1
            cases h
            refine plain (fun c hc => ?_)
            have e2 : a + 1 - a = 1 := by omega
            rw [hbt, e2, hda] at hc
            rw [List.take_succ_cons, List.take_zero] at hc
            have hc : c = l[a] := List.mem_singleton.1 hc
            have hm : l[a] ∈ ones := by simpa using hc1
            have := List.all_eq_true.1 one_ne _ hm
            rw [hc]
            simpa using this
          · cases h
theorem skip_blanks {l : List UInt8} : ∀ (y : List UInt8) (a : Nat) (z : List UInt8) (acc : List Tok) (r : Res), l.drop a = y ++ z → (∀ c ∈ y, blankB c.toNat = true) → Lexes l (a + y.length) acc r → Lexes l a acc r
  | [], a, z, acc, r, _, _, h => h
  | c :: y, a, z, acc, r, hd, hy, h => by
    obtain ⟨ha, e⟩ := get_cons hd
    refine .skip ha (by rw [e]; exact hy c (by simp)) (skip_blanks y (a + 1) z acc r ?_ (fun d hd' => hy d (by simp [hd'])) ?_)
    · have : (l.drop a).drop 1 = l.drop (a + 1) := by rw [List.drop_drop]
      rw [← this, hd]; rfl
    · have e2 : a + 1 + y.length = a + (c :: y).length := by simp; omega
      rw [e2]; exact h
theorem blanks_lex {x : List UInt8} (hx : ∀ c ∈ x, blankB c.toNat = true) {l : List UInt8} {a : Nat} {acc : List Tok} {r : Res} (h : Lexes l a acc r) :
    ∀ (T : List Tok), r = .toks T → ∀ (l' : List UInt8) (a' : Nat) (acc' : List Tok), l'.drop a' = ins x false (l.drop a) → acc'.map Tok.core = acc.map Tok.core → ∃ T', Lexes l' a' acc' (.toks T') ∧ T'.map Tok.core = T.map Tok.core := by
  induction h with
  | fin h =>
    intro T e l' a' acc' hd hc
    cases e
    rw [List.drop_eq_nil_of_le h] at hd
    exact ⟨acc', .fin (List.drop_eq_nil_iff.1 hd), hc⟩
  | @skip a acc r h hb _ ih =>
    intro T e l' a' acc' hd hc
    rw [List.drop_eq_getElem_cons h] at hd
    have hne : l[a] ≠ 39 := fun e => by rw [e] at hb; revert hb; decide
    have hq : quotes false l[a] = false := by unfold quotes; rw [if_neg hne]
    have hd2 : l'.drop a' = (l[a] :: (if quotes false l[a] = false ∧ l[a] = 32 then x else [])) ++ ins x false (l.drop (a + 1)) := by
      rw [hd]
      show l[a] :: ((if quotes false l[a] = false ∧ l[a] = 32 then x else []) ++ ins x (quotes false l[a]) (l.drop (a + 1))) = _
      rw [hq]; rfl
    have hd3 : l'.drop (a' + (l[a] :: (if quotes false l[a] = false ∧ l[a] = 32 then x else [])).length) = ins x false (l.drop (a + 1)) := by
      rw [← List.drop_drop, hd2, List.drop_left' rfl]
    obtain ⟨T', h1, h2⟩ := ih T e l' _ acc' hd3 hc
    refine ⟨T', skip_blanks _ _ _ _ _ hd2 (fun c hc => ?_) h1, h2⟩
    rcases List.mem_cons.1 hc with rfl | hc
    · exact hb
    · split at hc
      · exact hx c hc
      · cases hc
  | err h hb hs => intro T e; cases e
  | @tok a acc t e r h hb hs _ ih =>
    intro T eT l' a' acc' hd hc
    obtain ⟨b, g1, g2, g3, g4⟩ := scan_local h hs
    rw [tok_ins x h hs g1 g2] at hd
    obtain ⟨ha', e1, e2⟩ := g4 l' a' (ins x false (l.drop e)) hd (.inr (ins_head x false _))
    have hd3 : l'.drop (a' + b.length) = ins x false (l.drop e) := by rw [← List.drop_drop, hd, List.drop_left' rfl]
    obtain ⟨T', h1, h2⟩ := ih T eT l' _ (acc' ++ [{ t with at_ := a' }]) hd3 (by simp [hc, Tok.core])
    exact ⟨T', .tok ha' (by rw [e1]; exact hb) e2 h1, h2⟩
theorem blanks_tokens {x : List UInt8} (hx : ∀ c ∈ x, blankB c.toNat = true) {l : List UInt8} {T : List Tok} (h : Lexes l 0 [] (.toks T)) : ∃ T', Lexes (ins x false l) 0 [] (.toks T') ∧ T'.map Tok.core = T.map Tok.core :=
  blanks_lex hx h T rfl (ins x false l) 0 [] rfl rfl
theorem ins_length (x : List UInt8) (h : x.length ≤ 1) (q : Bool) (l : List UInt8) : (ins x q l).length ≤ 2 * l.length := by
  induction l generalizing q with
  | nil => simp [ins]
  | cons c l ih =>
    have := ih (quotes q c)
    show (c :: ((if quotes q c = false ∧ c = 32 then x else []) ++ ins x (quotes q c) l)).length ≤ _
    have h1 : (if quotes q c = false ∧ c = 32 then x else []).length ≤ 1 := by
      split
      · exact h
      · simp
    simp only [List.length_cons, List.length_append]
    omega
end Go.Proofs.YtpmncgbpbcgfaaaGreatDoor

/-
  The tokens of a part of a text: plain law for the parts of a script.
-/
namespace Go.Proofs.YtpmncgbpbcgfaaaGreatDoor
set_option linter.unusedVariables false
set_option linter.unusedSimpArgs false

/-- tokens that are scanned from a on, and where the last one ends -/
inductive Seg (l : List UInt8) : Nat → List Tok → Nat → Prop
  | nil (a : Nat) : Seg l a [] a
  | skip {a : Nat} {S : List Tok} {f : Nat} (h : a < l.length) (hb : blankB l[a].toNat = true) (hS : S ≠ []) (k : Seg l (a + 1) S f) : Seg l a S f
  | tok {a : Nat} {S : List Tok} {f : Nat} {t : Tok} {e : Nat} (h : a < l.length) (hb : blankB l[a].toNat = false) (hs : scanAt l a l[a] = .tok t e) (k : Seg l e S f) : Seg l a (t :: S) f
theorem Seg.le {l : List UInt8} {a : Nat} {S : List Tok} {f : Nat} (h : Seg l a S f) : a ≤ f ∧ (a ≤ l.length → f ≤ l.length) ∧ (S ≠ [] → a < f ∧ f ≤ l.length) := by
  induction h with
  | nil => exact ⟨Nat.le_refl _, fun h => h, fun h => absurd rfl h⟩
  | skip h hb hS _ ih =>
    obtain ⟨h1, h2, h3⟩ := ih
    obtain ⟨h4, h5⟩ := h3 hS
    exact ⟨by omega, fun _ => h5, fun _ => ⟨by omega, h5⟩⟩
  | tok h hb hs _ ih =>
    obtain ⟨g1, g2, _⟩ := scanAt_end h hs
    obtain ⟨h1, h2, h3⟩ := ih
    exact ⟨by omega, fun _ => h2 g2, fun _ => ⟨by omega, h2 g2⟩⟩
/-- the tokens of a text from a on, cut anywhere -/
theorem lexes_cut {l : List UInt8} {a : Nat} {acc : List Tok} {r : Res} (h : Lexes l a acc r) : ∀ (T : List Tok), r = .toks T → ∃ S, T = acc ++ S ∧ ∀ S1 S2, S = S1 ++ S2 → ∃ f, Seg l a S1 f ∧ Lexes l f (acc ++ S1) (.toks T) := by
  induction h with
  | @fin a acc h =>
    intro T e
    cases e
    refine ⟨[], by simp, fun S1 S2 e => ?_⟩
    obtain ⟨rfl, rfl⟩ : S1 = [] ∧ S2 = [] := by simpa using e.symm
    exact ⟨a, .nil a, by simpa using Lexes.fin (acc := acc) h⟩
  | @skip a acc r h hb k ih =>
    intro T e
    obtain ⟨S, h1, h2⟩ := ih T e
    refine ⟨S, h1, fun S1 S2 hS => ?_⟩
    obtain ⟨f, g1, g2⟩ := h2 S1 S2 hS
    rcases S1 with _ | ⟨t, S1⟩
    · subst e
      exact ⟨a, .nil a, by simpa using Lexes.skip h hb k⟩
    · exact ⟨f, .skip h hb (by simp) g1, g2⟩
  | err h hb hs => intro T e; cases e
  | @tok a acc t e r h hb hs k ih =>
    intro T eT
    obtain ⟨S, h1, h2⟩ := ih T eT
    refine ⟨t :: S, by rw [h1]; simp, fun S1 S2 hS => ?_⟩
    rcases S1 with _ | ⟨t', S1⟩
    · subst eT
      exact ⟨a, .nil a, by simpa using Lexes.tok h hb hs k⟩
    · have hS' : t :: S = t' :: (S1 ++ S2) := hS
      injection hS' with e1 e2
      subst e1
      obtain ⟨f, g1, g2⟩ := h2 S1 S2 e2
      exact ⟨f, .tok h hb hs g1, by simpa using g2⟩
/-- the next token: blanks, then its scan -/
theorem lexes_next {l : List UInt8} {a : Nat} {acc : List Tok} {r : Res} (h : Lexes l a acc r) : ∀ (t : Tok) (S : List Tok), r = .toks (acc ++ t :: S) → ∃ e, a ≤ t.at_ ∧ (∀ k (hk : k < l.length), a ≤ k → k < t.at_ → blankB l[k].toNat = true) ∧ (∃ ht : t.at_ < l.length, blankB l[t.at_].toNat = false ∧ scanAt l t.at_ l[t.at_] = .tok t e) ∧ Lexes l e (acc ++ [t]) r := by
  induction h with
  | fin h =>
    intro t S e
    injection e with e
    have := congrArg List.length e
    simp at this
  | @skip a acc r h hb k ih =>
    intro t S e
    obtain ⟨f, h1, h2, h3, h4⟩ := ih t S e
    refine ⟨f, by omega, fun q hq h5 h6 => ?_, h3, h4⟩
    by_cases hqa : q = a
    · subst hqa; exact hb
    · exact h2 q hq (by omega) h6
  | err h hb hs => intro t S e; cases e
  | @tok a acc t' e r h hb hs k ih =>
    intro t S eT
    have ht : t' = t := by
      obtain ⟨S', h1, _⟩ := lexes_cut k _ eT
      rw [List.append_assoc] at h1
      have := List.append_cancel_left h1
      simp at this
      exact this.1.symm
    subst ht
    have hat := (scanAt_end h hs).2.2
    subst hat
    exact ⟨e, Nat.le_refl _, fun q hq h5 h6 => by omega, ⟨h, hb, hs⟩, k⟩
theorem lexes_rest {l : List UInt8} {a : Nat} {acc : List Tok} {r : Res} (h : Lexes l a acc r) : r = .toks acc → ∀ k (hk : k < l.length), a ≤ k → blankB l[k].toNat = true := by
  induction h with
  | fin h => intro e k hk h5; omega
  | @skip a acc r h hb k ih =>
    intro e q hq h5
    by_cases hqa : q = a
    · subst hqa; exact hb
    · exact ih e q hq (by omega)
  | err h hb hs => intro e; cases e
  | @tok a acc t' e r h hb hs k ih =>
    intro eT
    obtain ⟨S', h1, _⟩ := lexes_cut k _ eT
    have := congrArg List.length h1
    simp at this
theorem head_take {r : List UInt8} {n : Nat} : Alike r (r.take n) := by
  rcases n with _ | n
  · exact .inl rfl
  · rcases r with _ | ⟨c, r⟩
    · exact .inl rfl
    · exact .inr rfl
/-- the same tokens in a text that ends where the last one ends -/
theorem seg_move {l : List UInt8} {a : Nat} {S : List Tok} {f : Nat} (h : Seg l a S f) : ∀ (l' : List UInt8) (a' : Nat) (acc : List Tok), l'.drop a' = (l.drop a).take (f - a) → ∃ S', Lexes l' a' acc (.toks (acc ++ S')) ∧ S'.map Tok.core = S.map Tok.core := by
  induction h with
  | nil a =>
    intro l' a' acc hd
    rw [Nat.sub_self, List.take_zero] at hd
    exact ⟨[], by simpa using Lexes.fin (acc := acc) (List.drop_eq_nil_iff.1 hd), rfl⟩
  | @skip a S f h hb hS k ih =>
    intro l' a' acc hd
    obtain ⟨h1, _⟩ := k.le
    rw [List.drop_eq_getElem_cons h, show f - a = (f - (a + 1)) + 1 by omega, List.take_succ_cons] at hd
    obtain ⟨ha, he⟩ := get_cons hd
    have hd2 : l'.drop (a' + 1) = (l.drop (a + 1)).take (f - (a + 1)) := by rw [← List.drop_drop, hd]; rfl
    obtain ⟨S', g1, g2⟩ := ih l' (a' + 1) acc hd2
    exact ⟨S', .skip ha (by rw [he]; exact hb) g1, g2⟩
  | @tok a S f t e h hb hs k ih =>
    intro l' a' acc hd
    obtain ⟨h1, _⟩ := k.le
    obtain ⟨b, g1, g2, g3, g4⟩ := scan_local h hs
    have hd1 : l'.drop a' = b ++ (l.drop e).take (f - e) := by
      rw [hd, g1, List.take_append, List.take_of_length_le (by omega)]
      congr 2
      omega
    obtain ⟨ha', e1, e2⟩ := g4 l' a' _ hd1 head_take
    have hd3 : l'.drop (a' + b.length) = (l.drop e).take (f - e) := by rw [← List.drop_drop, hd1, List.drop_left' rfl]
    obtain ⟨S', q1, q2⟩ := ih l' _ (acc ++ [{ t with at_ := a' }]) hd3
    exact ⟨{ t with at_ := a' } :: S', by simpa using Lexes.tok ha' (by rw [e1]; exact hb) e2 (by simpa using q1), by simp [q2, Tok.core]⟩
theorem wordB_blank {n : Nat} (h : wordB n = true) : blankB n = false := by
  unfold wordB letterB digitB at h
  unfold blankB
  simp at h ⊢
  omega
theorem digitB_blank {n : Nat} (h : digitB n = true) : blankB n = false := wordB_blank (by simp [wordB, h])
theorem twos_blank : twos.all (fun l => l.all fun c => !blankB c.toNat) = true := by decide +kernel
theorem ones_blank : ones.all (fun c => !blankB c.toNat) = true := by decide +kernel
theorem run_last {cls : Nat → Bool} {l : List UInt8} {a : Nat} (h : a < runEnd cls l a) (hl : runEnd cls l a ≤ l.length) : ∃ h : runEnd cls l a - 1 < l.length, cls l[runEnd cls l a - 1].toNat = true := by
  have hlen := runOf_length cls l a
  have htk := runOf_take cls l a
  refine ⟨by omega, ?_⟩
  have hm : l[runEnd cls l a - 1]'(by omega) ∈ runOf cls l a := by
    rw [htk]
    refine List.mem_iff_getElem.2 ⟨runEnd cls l a - 1 - a, by simp; omega, ?_⟩
    rw [List.getElem_take, List.getElem_drop]
    congr 1
    omega
  exact runOf_cls hm
theorem textGo_last (a : Nat) (r : List UInt8) (i : Nat) (out : List UInt8) {t : Tok} {e : Nat} (h : textGo a r i out = .tok t e) : i < e ∧ r[e - 1 - i]? = some 39 := by
  induction r, i, out using textGo.induct with
  | case1 i out => simp [textGo] at h
  | case2 i out => simp [textGo, textEnd] at h; split at h <;> cases h <;> simp
  | case3 i out r ih =>
    simp [textGo] at h
    obtain ⟨h1, h2⟩ := ih h
    refine ⟨by omega, ?_⟩
    rw [show e - 1 - i = (e - 1 - (i + 2)) + 1 + 1 by omega]
    simpa using h2
  | case4 i out d r hd => simp [textGo, textEnd, hd] at h; split at h <;> cases h <;> simp
  | case5 c r i out hc hb => unfold textGo at h; rw [if_neg hc, if_pos hb] at h; cases h
  | case6 c r i out hc hb ih =>
    unfold textGo at h
    rw [if_neg hc, if_neg hb] at h
    obtain ⟨h1, h2⟩ := ih h
    refine ⟨by omega, ?_⟩
    rw [show e - 1 - i = (e - 1 - (i + 1)) + 1 by omega]
    simpa using h2
/-- the last byte of a token is no blank -/
theorem tok_last {l : List UInt8} {a : Nat} (ha : a < l.length) {t : Tok} {e : Nat} (h : scanAt l a l[a] = .tok t e) : ∃ h : e - 1 < l.length, blankB l[e - 1].toNat = false := by
  obtain ⟨g1, g2, g3⟩ := scanAt_end ha h
  unfold scanAt at h
  split at h
  · have key : e = runEnd wordB l a := by
      unfold wordScan at h
      split at h
      · cases h; rfl
      · split at h
        · cases h
        · split at h
          · cases h
          · cases h; rfl
    subst key
    obtain ⟨q1, q2⟩ := run_last g1 g2
    exact ⟨q1, wordB_blank q2⟩
  · split at h
    · have key : e = runEnd digitB l a := by
        unfold numberScan at h
        split at h
        · cases h
        · split at h
          · cases h
          · cases h; rfl
      subst key
      obtain ⟨q1, q2⟩ := run_last g1 g2
      exact ⟨q1, digitB_blank q2⟩
    · split at h
      · unfold textScan at h
        obtain ⟨h1, h2⟩ := textGo_last _ _ _ _ h
        refine ⟨by omega, ?_⟩
        rw [List.getElem?_drop, show a + 1 + (e - 1 - (a + 1)) = e - 1 by omega, List.getElem?_eq_getElem (by omega)] at h2
        injection h2 with h2
        rw [h2]
        decide
      · unfold symScan at h
        split at h
        · rename_i ht
          cases h
          refine ⟨by omega, ?_⟩
          have hm : (l.drop a).take 2 ∈ twos := by simpa using ht
          have hall := List.all_eq_true.1 twos_blank _ hm
          have hx : l[a + 2 - 1]'(by omega) ∈ (l.drop a).take 2 := by
            refine List.mem_iff_getElem.2 ⟨1, by simp; omega, ?_⟩
            rw [List.getElem_take, List.getElem_drop]
            rfl
          have := List.all_eq_true.1 hall _ hx
          simpa using this
        · rw [List.getElem?_eq_getElem ha] at h
          simp only at h
          split at h
          · rename_i hc1
            cases h
            refine ⟨by omega, ?_⟩
            have hm : l[a] ∈ ones := by simpa using hc1
            have := List.all_eq_true.1 ones_blank _ hm
            simpa using this
          · cases h
/-- where tokens begin and end: no blanks there -/
theorem Seg.ends {l : List UInt8} {a : Nat} {S : List Tok} {f : Nat} (h : Seg l a S f) : S ≠ [] → ∃ a0, a ≤ a0 ∧ a0 < f ∧ (∀ k (hk : k < l.length), a ≤ k → k < a0 → blankB l[k].toNat = true) ∧ Seg l a0 S f ∧ (∃ h0 : a0 < l.length, blankB l[a0].toNat = false) ∧ ∃ h1 : f - 1 < l.length, blankB l[f - 1].toNat = false := by
  induction h with
  | nil => exact fun h => absurd rfl h
  | @skip a S f h hb hS k ih =>
    intro _
    obtain ⟨a0, h1, h2, h3, h4, h5, h6⟩ := ih hS
    refine ⟨a0, by omega, h2, fun q hq h7 h8 => ?_, h4, h5, h6⟩
    by_cases hqa : q = a
    · subst hqa; exact hb
    · exact h3 q hq (by omega) h8
  | @tok a S f t e h hb hs k ih =>
    intro _
    obtain ⟨g1, g2, _⟩ := scanAt_end h hs
    refine ⟨a, Nat.le_refl _, ?_, fun q hq h7 h8 => by omega, .tok h hb hs k, ⟨h, hb⟩, ?_⟩
    · have := k.le.1; omega
    · rcases S with _ | ⟨t', S⟩
      · cases k with
        | nil => exact tok_last h hs
        | skip _ _ hS _ => exact absurd rfl hS
      · obtain ⟨_, _, _, _, _, _, h6⟩ := ih (by simp)
        exact h6
end Go.Proofs.YtpmncgbpbcgfaaaGreatDoor
