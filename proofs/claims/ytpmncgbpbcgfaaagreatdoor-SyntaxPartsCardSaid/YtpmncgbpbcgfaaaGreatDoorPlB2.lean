import Derived.Test.YtpmncgbpbcgfaaaGreatDoorPlB
import Derived.Test.YtpmncgbpbcgfaaaGreatDoorPlA
import Derived.Test.YtpmncgbpbcgfaaaGreatDoorSxX
import Derived.Test.YtpmncgbpbcgfaaaGreatDoorSxA
/-
  The parts of a script are its statements: the plain law.
-/
namespace Go.Proofs.YtpmncgbpbcgfaaaGreatDoor
set_option linter.unusedVariables false
set_option linter.unusedSimpArgs false

theorem statement_nil (m : Nat) (d : Bool) {b : Stm} {j : Nat} {d1 : Bool} (h : pStatement m [] 0 d = .ok b j d1) : False := by
  cases m with
  | zero => have e : pStatement 0 [] 0 d = .fail 0 99 := rfl; rw [e] at h; cases h
  | succ m => have e : pStatement (m + 1) [] 0 d = .fail 0 2 := rfl; rw [e] at h; cases h
theorem Mk.scriptGo (m : Nat) : ∀ k l, Mk (pScriptGo m k l)
  | 0, _ => Dp.fail
  | k + 1, l => by
    intro C i d a j d' he hd
    unfold pScriptGo at he
    split at he
    · cases he; exact ⟨hd, trivial⟩
    · exact (Dp.seq (Ψ := fun _ => True) ((Dp.statement m).mono fun _ _ => trivial) fun a => Dp.seq (Mk.symbol _) fun b => Dp.ite (Mk.scriptGo m k _) (Mk.ret _) : Dp _ _) C i d a j d' he hd
theorem contains_blank (c : UInt8) : blanks3.contains c = blankB c.toNat := by
  have h : ∀ k : Nat, k < 256 → ((k = 32 ∨ k = 9 ∨ k = 10) ↔ blankB k = true) := by decide +kernel
  rw [Bool.eq_iff_iff, ← h c.toNat (UInt8.toNat_lt c)]
  simp only [blanks3, List.contains_iff_mem, List.mem_cons, List.not_mem_nil, or_false]
  constructor
  · rintro (rfl | rfl | rfl) <;> decide
  · rintro (e | e | e)
    · exact .inl (UInt8.toNat_inj.1 e)
    · exact .inr (.inl (UInt8.toNat_inj.1 e))
    · exact .inr (.inr (UInt8.toNat_inj.1 e))
/-- blanks, a part that neither begins nor ends with one, blanks -/
theorem trim_parts {x y z : List UInt8} (hx : ∀ c ∈ x, blankB c.toNat = true) (hz : ∀ c ∈ z, blankB c.toNat = true) (h0 : ∀ c, y.head? = some c → blankB c.toNat = false) (h1 : ∀ c, y.getLast? = some c → blankB c.toNat = false) : Lib.trimS (x ++ y ++ z) blanks3 = y := by
  have dw : ∀ (u v : List UInt8), (∀ c ∈ u, blankB c.toNat = true) → (∀ c, v.head? = some c → blankB c.toNat = false) → (u ++ v).dropWhile (blanks3.contains ·) = v := by
    intro u v hu hv
    induction u with
    | nil =>
      rcases v with _ | ⟨c, v⟩
      · rfl
      · rw [List.nil_append, List.dropWhile_cons, contains_blank, hv c rfl]; rfl
    | cons c u ih =>
      rw [List.cons_append, List.dropWhile_cons, contains_blank, hu c (by simp), if_pos rfl]
      exact ih fun d hd => hu d (by simp [hd])
  unfold Lib.trimS Lib.trimLeftS Lib.trimRightS
  rw [List.reverse_append, List.reverse_append, ← List.append_assoc, List.append_assoc]
  rcases List.eq_nil_or_concat y with rfl | ⟨y', b, rfl⟩
  · rw [List.reverse_nil, List.nil_append, show z.reverse ++ x.reverse = (z.reverse ++ x.reverse) ++ [] by simp, dw _ _ (by intro c hc; rcases List.mem_append.1 hc with hc | hc; exact hz c (by simpa using hc); exact hx c (by simpa using hc)) (by simp)]
    rfl
  · rw [dw _ _ (fun c hc => hz c (by simpa using hc)) (by
      intro c hc
      apply h1
      simp at hc ⊢
      exact hc)]
    rw [List.reverse_append, List.reverse_reverse, List.reverse_reverse]
    exact dw _ _ hx h0
theorem trim_blank {x : List UInt8} (hx : ∀ c ∈ x, blankB c.toNat = true) : Lib.trimS x blanks3 = [] := by
  have := trim_parts (x := x) (y := []) (z := []) hx (by simp) (by simp) (by simp)
  simpa using this
theorem mid_split {l : List UInt8} {a b c : Nat} (h1 : a ≤ b) (h2 : b ≤ c) : (l.drop a).take (c - a) = (l.drop a).take (b - a) ++ (l.drop b).take (c - b) := by
  rw [show c - a = (b - a) + (c - b) by omega, List.take_add, List.drop_drop, show a + (b - a) = b by omega]
/-- the same by places -/
theorem trim_at {l : List UInt8} {a a0 f e : Nat} (h1 : a ≤ a0) (h2 : a0 < f) (h3 : f ≤ e) (he : e ≤ l.length) (hx : ∀ k (hk : k < l.length), a ≤ k → k < a0 → blankB l[k].toNat = true) (hz : ∀ k (hk : k < l.length), f ≤ k → k < e → blankB l[k].toNat = true)
    (h0 : ∃ h : a0 < l.length, blankB l[a0].toNat = false) (h5 : ∃ h : f - 1 < l.length, blankB l[f - 1].toNat = false) : Lib.trimS ((l.drop a).take (e - a)) blanks3 = (l.drop a0).take (f - a0) := by
  have hs : (l.drop a).take (e - a) = (l.drop a).take (a0 - a) ++ (l.drop a0).take (f - a0) ++ (l.drop f).take (e - f) := by
    rw [List.append_assoc, ← mid_split (by omega) h3, ← mid_split h1 (by omega)]
  rw [hs]
  have mem : ∀ (u v : Nat) (c : UInt8), v ≤ l.length → c ∈ (l.drop u).take (v - u) → ∃ k, ∃ hk : k < l.length, u ≤ k ∧ k < v ∧ l[k] = c := by
    intro u v c hv hc
    obtain ⟨q, hq, rfl⟩ := List.getElem_of_mem hc
    simp only [List.length_take, List.length_drop] at hq
    refine ⟨u + q, by omega, by omega, by omega, ?_⟩
    rw [List.getElem_take, List.getElem_drop]
  obtain ⟨g0, k0⟩ := h0
  obtain ⟨g5, k5⟩ := h5
  refine trim_parts ?_ ?_ ?_ ?_
  · intro c hc
    obtain ⟨k, hk, hk1, hk2, rfl⟩ := mem a a0 c (by omega) hc
    exact hx k hk hk1 hk2
  · intro c hc
    obtain ⟨k, hk, hk1, hk2, rfl⟩ := mem f e c he hc
    exact hz k hk hk1 hk2
  · intro c hc
    rw [List.head?_take, if_neg (by omega), List.head?_drop, List.getElem?_eq_getElem g0] at hc
    injection hc with hc
    rw [← hc]
    exact k0
  · intro c hc
    rw [List.getLast?_eq_getElem?, List.length_take, List.length_drop, List.getElem?_take, if_pos (by omega), List.getElem?_drop, show a0 + (min (f - a0) (l.length - a0) - 1) = f - 1 by omega, List.getElem?_eq_getElem g5] at hc
    injection hc with hc
    rw [← hc]
    exact k5
/-- a semicolon is one byte -/
theorem semi_end {l : List UInt8} {a : Nat} {x : UInt8} {t : Tok} {e : Nat} (h : scanAt l a x = .tok t e) (hs : semi t = true) : e = a + 1 := by
  unfold semi at hs
  simp at hs
  obtain ⟨hk, ht⟩ := hs
  have hg : ∀ (r : List UInt8) (i : Nat) (out : List UInt8), textGo a r i out = .tok t e → t.kind = 4 := by
    intro r i out h
    fun_induction textGo a r i out
    all_goals
      first
      | (rename_i ih; exact ih h)
      | (unfold textEnd at h; split at h <;> cases h; rfl)
      | cases h
  unfold scanAt at h
  split at h
  · unfold wordScan at h
    repeat' split at h
    all_goals first | (cases h; simp at hk) | cases h
  · split at h
    · unfold numberScan at h
      repeat' split at h
      all_goals first | (cases h; simp at hk) | cases h
    · split at h
      · have := hg _ _ _ h
        omega
      · unfold symScan at h
        split at h
        · rename_i h2
          cases h
          simp only at ht
          rw [ht] at h2
          exact absurd h2 (by decide)
        · repeat' split at h
          all_goals first | (cases h; rfl) | cases h
theorem cutGo_skip (l : List UInt8) : ∀ (S R : List Tok) (a : Nat) (acc : List (List UInt8)), (∀ t ∈ S, semi t = false) → cutGo l (S ++ R) a acc = cutGo l R a acc
  | [], _, _, _, _ => rfl
  | t :: S, R, a, acc, h => by
    show (if semi t = true then _ else cutGo l (S ++ R) a acc) = _
    rw [h t (by simp), if_neg (by decide), cutGo_skip l S R a acc fun t ht => h t (by simp [ht])]
/-- what a part comes to -/
def PartOk (n m : Nat) (p : List UInt8) (a : Stm) : Prop := ∃ T', Comes_ p (.toks T') ∧ T'.length ≤ n ∧ pWhole (pStatement m) (cores T') = .ok a
theorem semi_core (t : Tok) : semi t = true ↔ (t.core.kind = 5 ∧ t.core.text = [59]) := by
  unfold semi Tok.core
  simp
/-- one statement of a script, up to the next semicolon or the end -/
theorem one_part {l : List UInt8} {T : List Tok} (hl : l.length ≤ 65536) {i a m q : Nat} (hlx : Lexes l a (T.take i) (.toks T)) (hi : i ≤ T.length) (hq : i + q ≤ T.length) (hno : ∀ k (h : i + k < T.length), k < q → semi T[i + k] = false) (hend : ∀ h : i + q < T.length, semi T[i + q] = true) {b : Stm} {d1 : Bool}
    (hp : pStatement m (cores T) i false = .ok b (i + q) d1) (hd : d1 = false) :
    ∃ a0 f, a ≤ a0 ∧ a0 < f ∧ f ≤ l.length ∧ (∀ k (hk : k < l.length), a ≤ k → k < a0 → blankB l[k].toNat = true) ∧ (∃ h : a0 < l.length, blankB l[a0].toNat = false) ∧ (∃ h : f - 1 < l.length, blankB l[f - 1].toNat = false) ∧ Lexes l f (T.take (i + q)) (.toks T) ∧ PartOk T.length m ((l.drop a0).take (f - a0)) b := by
  have hC : ∀ k, (cores T)[k]? = T[k]?.map Tok.core := fun k => by unfold cores; rw [List.getElem?_map]
  have hSl : ((T.drop i).take q).length = q := by rw [List.length_take, List.length_drop]; omega
  have hSg : ∀ k, k < q → ((T.drop i).take q)[k]? = T[i + k]? := fun k hk => by rw [List.getElem?_take, if_pos hk, List.getElem?_drop]
  have sim : Sim (cores T) i (((T.drop i).take q).map Tok.core) 0 q := by
    refine ⟨fun k hk => ?_, fun k hk => ?_, fun t ht => ?_, fun t ht => ?_⟩
    · rw [Nat.zero_add, List.getElem?_map, hSg k hk, hC]
    · have hk' : i + k < T.length := by omega
      refine ⟨T[i + k].core, by rw [hC, List.getElem?_eq_getElem hk']; rfl, fun e => ?_⟩
      have := (semi_core T[i + k]).2 e
      rw [hno k hk' hk] at this
      cases this
    · rw [hC] at ht
      rcases Nat.lt_or_ge (i + q) T.length with h | h
      · rw [List.getElem?_eq_getElem h] at ht
        simp only [Option.map_some, Option.some.injEq] at ht
        rw [← ht]
        exact (semi_core _).1 (hend h)
      · rw [List.getElem?_eq_none h] at ht
        cases ht
    · rw [Nat.zero_add, List.getElem?_eq_none (by rw [List.length_map, hSl]; exact Nat.le_refl _)] at ht
      cases ht
  obtain ⟨b', k, hk, hj, hy, rfl⟩ := Loc.statement m (cores T) i _ 0 q false sim b (i + q) d1 hp
  obtain rfl : k = q := by omega
  rw [Nat.zero_add] at hy
  have hne : (T.drop i).take k ≠ [] := by
    intro e
    have : k = 0 := by rw [← hSl, e]; rfl
    subst this
    rw [e] at hy
    exact statement_nil m false hy
  obtain ⟨S0, hT, hcut⟩ := lexes_cut hlx T rfl
  have hS0 : S0 = T.drop i := by
    have h1 := List.take_append_drop i T
    rw [← h1] at hT
    have h2 : (T.take i ++ T.drop i).take i = T.take i := by rw [h1]
    rw [h2] at hT
    exact (List.append_cancel_left hT).symm
  obtain ⟨f, hseg, hlx2⟩ := hcut ((T.drop i).take k) ((T.drop i).drop k) (by rw [hS0, List.take_append_drop])
  obtain ⟨a0, h1, h2, h3, h4, h5, h6⟩ := hseg.ends hne
  have hf := (hseg.le.2.2 hne).2
  have htk : T.take i ++ (T.drop i).take k = T.take (i + k) := by rw [List.take_add]
  rw [htk] at hlx2
  refine ⟨a0, f, h1, h2, hf, h3, h5, h6, hlx2, ?_⟩
  obtain ⟨S', g1, g2⟩ := seg_move h4 ((l.drop a0).take (f - a0)) 0 [] (by rw [List.drop_zero])
  refine ⟨S', .inr ⟨by rw [List.length_take, List.length_drop]; omega, by simpa using g1⟩, ?_, ?_⟩
  · have := congrArg List.length g2
    simp only [List.length_map, hSl] at this
    omega
  · have hcs : cores S' = ((T.drop i).take k).map Tok.core := g2
    unfold pWhole
    rw [hcs, hy]
    simp only
    rw [if_neg (by rw [List.length_map, hSl]; omega), hd]
    rfl
theorem script_go {l : List UInt8} {T : List Tok} (hl : l.length ≤ 65536) (m : Nat) : ∀ (k i a : Nat) (accS : List Stm) (d : Bool) (L : List Stm) (j : Nat) (df : Bool), pScriptGo m k accS (cores T) i d = .ok L j df → df = false → T.length ≤ j → Lexes l a (T.take i) (.toks T) → i ≤ T.length → a ≤ l.length →
    ∀ accP, ∃ ps x, cutGo l (T.drop i) a accP = some x ∧ cutEnd l x = accP ++ ps ∧ ∃ L', L = accS ++ L' ∧ F2 (PartOk T.length m) ps L'
  | 0, i, a, accS, d, L, j, df, h, _, _, _, _, _, _ => by cases h
  | k + 1, i, a, accS, d, L, j, df, h, hdf, hj, hlx, hi, ha, accP => by
    unfold pScriptGo at h
    have hclen : (cores T).length = T.length := by simp [cores]
    split at h
    · rename_i hle
      rw [hclen] at hle
      cases h
      have hT : T.take i = T := List.take_of_length_le hle
      rw [hT] at hlx
      have hb := lexes_rest hlx rfl
      have ht : Lib.trimS (l.drop a) blanks3 = [] := trim_blank fun c hc => by
        obtain ⟨q, hq, rfl⟩ := List.getElem_of_mem hc
        simp only [List.length_drop] at hq
        rw [List.getElem_drop]
        exact hb _ (by omega) (by omega)
      refine ⟨[], (accP, a), ?_, ?_, [], by simp, .nil⟩
      · rw [List.drop_of_length_le hle]
        rfl
      · unfold cutEnd
        rw [if_pos ht]
        simp
    · rename_i hlt
      rw [hclen] at hlt
      replace h : P.bind (pStatement m) _ (cores T) i d = .ok L j df := h
      unfold P.bind at h
      rcases hs : pStatement m (cores T) i d with ⟨b, j1, d1⟩ | ⟨j1, c⟩
      · rw [hs] at h
        simp only at h
        have hd1 : d1 = false := ((Dp.seq (Ψ := fun _ => True) (Mk.symbol _) fun b' => Dp.ite (Mk.scriptGo m k (accS ++ [b])) (Mk.ret _) : Dp _ _) (cores T) j1 d1 L j df h hdf).1
        have hd : d = false := ((Dp.statement m) (cores T) i d b j1 d1 hs hd1).1
        subst hd
        subst hd1
        have hq0 : ∃ q, i + q ≤ T.length ∧ (∀ k (h : i + k < T.length), k < q → semi T[i + k] = false) ∧ ∀ h : i + q < T.length, semi T[i + q] = true := by
          refine ⟨(T.drop i).findIdx semi, ?_, ?_, ?_⟩
          · have := List.findIdx_le_length (xs := T.drop i) (p := semi)
            rw [List.length_drop] at this
            omega
          · intro k h hk
            have := List.not_of_lt_findIdx hk
            rw [List.getElem_drop] at this
            simpa using this
          · intro h
            have hlt : (T.drop i).findIdx semi < (T.drop i).length := by rw [List.length_drop]; omega
            have := List.findIdx_getElem (w := hlt)
            rw [List.getElem_drop] at this
            exact this
        obtain ⟨q, hq, hno, hend⟩ := hq0
        have hC : ∀ k, (cores T)[k]? = T[k]?.map Tok.core := fun k => by unfold cores; rw [List.getElem?_map]
        -- the statement ends at the semicolon, or at the end
        have hSl : ((T.drop i).take q).length = q := by rw [List.length_take, List.length_drop]; omega
        have hj1 : j1 = i + q := by
          have sim : Sim (cores T) i (((T.drop i).take q).map Tok.core) 0 q := by
            refine ⟨fun k hk => ?_, fun k hk => ?_, fun t ht => ?_, fun t ht => ?_⟩
            · rw [Nat.zero_add, List.getElem?_map, List.getElem?_take, if_pos hk, List.getElem?_drop, hC]
            · have hk' : i + k < T.length := by omega
              refine ⟨T[i + k].core, by rw [hC, List.getElem?_eq_getElem hk']; rfl, fun e => ?_⟩
              have := (semi_core T[i + k]).2 e
              rw [hno k hk' hk] at this
              cases this
            · rw [hC] at ht
              rcases Nat.lt_or_ge (i + q) T.length with h | h
              · rw [List.getElem?_eq_getElem h] at ht
                simp only [Option.map_some, Option.some.injEq] at ht
                rw [← ht]
                exact (semi_core _).1 (hend h)
              · rw [List.getElem?_eq_none h] at ht
                cases ht
            · rw [Nat.zero_add, List.getElem?_eq_none (by rw [List.length_map, hSl]; exact Nat.le_refl _)] at ht
              cases ht
          obtain ⟨b', k', hk', hj', hy, rfl⟩ := Loc.statement m (cores T) i _ 0 q false sim b j1 false hs
          rcases hsy : aheadB (cores T) j1 0 5 [59] with _ | _
          · have hh : (Pure.pure (accS ++ [b]) : P (List Stm)) (cores T) j1 false = .ok L j df := by
              replace h : P.bind (pSymbol [59]) _ (cores T) j1 false = .ok L j df := h
              unfold P.bind pSymbol pSkip at h
              rw [hsy] at h
              exact h
            cases hh
            omega
          · unfold aheadB at hsy
            rw [Nat.add_zero, hC] at hsy
            rcases Nat.lt_or_ge j1 T.length with h9 | h9
            · rw [List.getElem?_eq_getElem h9] at hsy
              simp only [Option.map_some, Bool.and_eq_true, decide_eq_true_eq] at hsy
              rcases Nat.lt_or_ge k' q with h8 | h8
              · have h7 := hno k' (by omega) h8
                have h6 := (semi_core (T[i + k']'(by omega))).2 (by
                  have e9 : T[j1] = T[i + k']'(by omega) := by congr 1
                  rw [← e9]
                  exact hsy)
                rw [h7] at h6
                cases h6
              · omega
            · rw [List.getElem?_eq_none h9] at hsy
              cases hsy
        subst hj1
        obtain ⟨a0, f, h1, h2, h3, h4, h5, h6, h7, h8⟩ := one_part hl hlx hi hq hno hend hs rfl
        have hsk : ∀ R acc, cutGo l ((T.drop i).take q ++ R) a acc = cutGo l R a acc := fun R acc => cutGo_skip l _ R a acc fun t ht => by
          obtain ⟨p, hp, rfl⟩ := List.getElem_of_mem ht
          rw [hSl] at hp
          rw [List.getElem_take, List.getElem_drop]
          exact hno p (by omega) hp
        have hdr : T.drop i = (T.drop i).take q ++ T.drop (i + q) := by
          rw [← List.drop_drop, List.take_append_drop]
        have hpne : (l.drop a0).take (f - a0) ≠ [] := by
          intro e
          have := congrArg List.length e
          simp only [List.length_take, List.length_drop, List.length_nil] at this
          omega
        rcases Nat.lt_or_ge (i + q) T.length with hmore | hlast
        · -- a semicolon follows
          have hsemi := hend hmore
          have hT2 : T = T.take (i + q) ++ (T[i + q] :: T.drop (i + q + 1)) := by
            rw [← List.drop_eq_getElem_cons hmore, List.take_append_drop]
          obtain ⟨e, g1, g2, ⟨g3, g4, g5⟩, g6⟩ := lexes_next h7 T[i + q] (T.drop (i + q + 1)) (congrArg Res.toks hT2)
          have he := semi_end g5 hsemi
          have hpart : Lib.trimS ((l.drop a).take (T[i + q].at_ - a)) blanks3 = (l.drop a0).take (f - a0) := trim_at h1 h2 g1 (by omega) h4 g2 h5 h6
          have htk : T.take (i + q) ++ [T[i + q]] = T.take (i + q + 1) := (List.take_succ_eq_append_getElem hmore).symm
          rw [htk, he] at g6
          have hgo : pScriptGo m k (accS ++ [b]) (cores T) (i + q + 1) false = .ok L j df := by
            have hsy : aheadB (cores T) (i + q) 0 5 [59] = true := by
              unfold aheadB
              rw [Nat.add_zero, hC, List.getElem?_eq_getElem hmore]
              have := (semi_core T[i + q]).1 hsemi
              simp only [Option.map_some, Bool.and_eq_true, decide_eq_true_eq]
              exact this
            replace h : P.bind (pSymbol [59]) _ (cores T) (i + q) false = .ok L j df := h
            unfold P.bind pSymbol pSkip at h
            rw [hsy] at h
            exact h
          obtain ⟨ps, x, r1, r2, L', r3, r4⟩ := script_go hl m k (i + q + 1) (T[i + q].at_ + 1) (accS ++ [b]) false L j df hgo hdf hj g6 (by omega) (by omega) (accP ++ [(l.drop a0).take (f - a0)])
          refine ⟨(l.drop a0).take (f - a0) :: ps, x, ?_, by rw [r2]; simp, b :: L', by rw [r3]; simp, .cons h8 r4⟩
          rw [hdr, hsk, List.drop_eq_getElem_cons hmore]
          show (if semi T[i + q] = true then _ else _) = _
          rw [if_pos hsemi, hpart, if_neg hpne]
          exact r1
        · have hlen : i + q = T.length := by omega
          have hsy : aheadB (cores T) (i + q) 0 5 [59] = false := by
            unfold aheadB
            rw [Nat.add_zero, hC, List.getElem?_eq_none hlast]
            rfl
          have hh : (Pure.pure (accS ++ [b]) : P (List Stm)) (cores T) (i + q) false = .ok L j df := by
            replace h : P.bind (pSymbol [59]) _ (cores T) (i + q) false = .ok L j df := h
            unfold P.bind pSymbol pSkip at h
            rw [hsy] at h
            exact h
          cases hh
          rw [hlen, List.take_length] at h7
          have hb := lexes_rest h7 rfl
          have hpart : Lib.trimS (l.drop a) blanks3 = (l.drop a0).take (f - a0) := by
            have := trim_at h1 h2 h3 (Nat.le_refl _) h4 (fun k hk h8 _ => hb k hk h8) h5 h6
            rw [List.take_of_length_le (by rw [List.length_drop]; exact Nat.le_refl _)] at this
            exact this
          refine ⟨[(l.drop a0).take (f - a0)], (accP, a), ?_, ?_, [b], rfl, .cons h8 .nil⟩
          · rw [hdr, hsk, hlen, List.drop_length]
            rfl
          · unfold cutEnd
            rw [hpart, if_neg hpne]
      · rw [hs] at h
        cases h
/-- the parts of a script are its statements -/
theorem parts_law {l : List UInt8} {T : List Tok} {L : List Stm} (hc : Comes_ l (.toks T)) {m : Nat} (hp : pWhole (pScript m) (cores T) = .ok L) : ∃ ps, cutOf l T = some ps ∧ F2 (PartOk T.length m) ps L := by
  rcases hc with ⟨_, hc⟩ | ⟨hl, hc⟩
  · cases hc
  · unfold pWhole at hp
    rcases hx : pScript m (cores T) 0 false with ⟨L', j, d⟩ | ⟨j, c⟩
    · rw [hx] at hp
      simp only at hp
      split at hp
      · cases hp
      · rename_i hj
        split at hp
        · cases hp
        · rename_i hd
          cases hp
          have hclen : (cores T).length = T.length := by simp [cores]
          obtain ⟨ps, x, h1, h2, L', h3, h4⟩ := script_go hl m m 0 0 [] false L j d hx (by simpa using hd) (by omega) (by simpa using hc) (Nat.zero_le _) (Nat.zero_le _) []
          refine ⟨ps, ?_, by rw [List.nil_append] at h3; rw [h3]; exact h4⟩
          unfold cutOf
          rw [List.drop_zero] at h1
          rw [h1, Option.map_some, h2]
          rfl
    · rw [hx] at hp
      cases hp
end Go.Proofs.YtpmncgbpbcgfaaaGreatDoor
