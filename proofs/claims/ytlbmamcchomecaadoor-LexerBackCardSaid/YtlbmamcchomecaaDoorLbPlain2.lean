/-
  Tokens are found again in their text: the plain law, second part.
-/
import Derived.Test.YtlbmamcchomecaaDoorLbPlain
namespace Go.Proofs.YtlbmamcchomecaaDoor
open Go.RowKit
set_option linter.unusedVariables false
set_option linter.unusedSimpArgs false

theorem dig_nat {d : Nat} (h : d < 10) : (UInt8.ofNat (48 + d)).toNat = 48 + d := UInt8.toNat_ofNat_of_lt' (by show _ < 256; omega)
theorem dec_digits (n : Nat) : ∀ c ∈ Lib.decDigits n, digitB c.toNat = true := by
  induction n using Nat.strongRecOn with
  | ind n ih =>
    intro c hc
    unfold Lib.decDigits at hc
    split at hc
    · rename_i h
      obtain rfl := List.mem_singleton.1 hc
      rw [dig_nat h]; unfold digitB; simp; omega
    · rename_i h
      rcases List.mem_append.1 hc with h1 | h1
      · exact ih (n / 10) (by omega) c h1
      · obtain rfl := List.mem_singleton.1 h1
        rw [dig_nat (by omega)]; unfold digitB; simp; omega
theorem dec_val (n : Nat) : numVal (Lib.decDigits n) = min n 1125899906842625 := by
  induction n using Nat.strongRecOn with
  | ind n ih =>
    unfold Lib.decDigits
    split
    · rename_i h
      simp only [numVal, List.foldl_cons, List.foldl_nil, numStep]
      rw [dig_nat h]; omega
    · rename_i h
      rw [numVal_snoc, ih (n / 10) (by omega)]
      unfold numStep
      rw [dig_nat (by omega)]; omega
theorem dec_ne (n : Nat) : Lib.decDigits n ≠ [] := by
  unfold Lib.decDigits
  split <;> simp
theorem dec_head (n : Nat) (h : 1 ≤ n) : (Lib.decDigits n).head? ≠ some 48 := by
  induction n using Nat.strongRecOn with
  | ind n ih =>
    unfold Lib.decDigits
    split
    · rename_i h1
      intro e
      simp only [List.head?_cons, Option.some.injEq] at e
      have := congrArg UInt8.toNat e
      rw [dig_nat h1] at this
      simp at this
      omega
    · rename_i h1
      have h2 := ih (n / 10) (by omega) (by omega)
      have h3 := dec_ne (n / 10)
      rcases hx : Lib.decDigits (n / 10) with _ | ⟨c, r⟩
      · exact absurd hx h3
      · rw [hx] at h2; simpa using h2
theorem dec_one {n : Nat} (h : 1 < (Lib.decDigits n).length) : 10 ≤ n := by
  unfold Lib.decDigits at h
  split at h
  · simp at h
  · omega
theorem tg_quote {a : Nat} {r : List UInt8} (hr : Rest r) : ∀ (t : List UInt8) (i : Nat) (out : List UInt8), (∀ c ∈ t, badB c.toNat = false) → textGo a (quoteBody t ++ (39 :: r)) i out = textEnd a (i + (quoteBody t).length) (out ++ t)
  | [], i, out, _ => by
    simp only [quoteBody, List.flatMap_nil, List.nil_append, List.length_nil, Nat.add_zero, List.append_nil]
    rw [tg_cons, if_pos rfl]
    rcases hr with rfl | ⟨r', rfl⟩
    · rfl
    · simp only
      rw [if_neg (by decide)]
  | c :: t, i, out, h => by
    have ih := fun i out => tg_quote (a := a) hr t i out (fun x hx => h x (List.mem_cons_of_mem _ hx))
    have hq : quoteBody (c :: t) = quoteC c ++ quoteBody t := by simp [quoteBody]
    rw [hq]
    unfold quoteC
    by_cases hc : c = 39
    · subst hc
      rw [if_pos rfl]
      show textGo a (39 :: 39 :: (quoteBody t ++ 39 :: r)) i out = _
      rw [tg_cons, if_pos rfl]
      simp only [if_true]
      rw [ih]
      simp only [List.append_assoc, List.length_append, List.length_cons, List.length_nil, List.cons_append, List.nil_append]
      congr 1
      omega
    · rw [if_neg hc]
      show textGo a (c :: (quoteBody t ++ 39 :: r)) i out = _
      rw [tg_cons, if_neg hc, if_neg (by rw [h c (by simp)]; decide), ih]
      simp only [List.append_assoc, List.length_append, List.length_cons, List.length_nil, List.cons_append, List.nil_append]
      congr 1
      omega
def Scans (l : List UInt8) (a : Nat) (t : Tok) : Prop := ∃ ha : a < l.length, blankB l[a].toNat = false ∧ scanAt l a l[a] = .tok { t with at_ := a } (a + (piece t).length)
theorem scan_word_piece {l x r : List UInt8} {a : Nat} {c : UInt8} {x' : List UInt8} (hx : x = c :: x') (hd : l.drop a = x ++ r) (hr : Rest r) (hc : letterB c.toNat = true) (hall : ∀ c ∈ x, wordB c.toNat = true) :
    ∃ ha : a < l.length, blankB l[a].toNat = false ∧ scanAt l a l[a] = wordScan l a ∧ runOf wordB l a = x ∧ runEnd wordB l a = a + x.length := by
  obtain ⟨ha, e⟩ := get_drop (l := l) (a := a) (c := c) (r := x' ++ r) (by rw [hd, hx]; rfl)
  obtain ⟨h1, h2⟩ := run_piece hd hall hr (by decide)
  refine ⟨ha, by rw [e]; exact letter_noblank hc, ?_, h1, h2⟩
  unfold scanAt
  rw [e, if_pos hc]
theorem scan_piece {t : Tok} (ht : OkTok t) {l r : List UInt8} {a : Nat} (hd : l.drop a = piece t ++ r) (hr : Rest r) : Scans l a t := by
  cases ht with
  | @name x b h0 h1 h2 h3 h4 h5 =>
    have hp : piece ⟨1, x, 0, b⟩ = x := rfl
    rw [hp] at hd
    unfold Scans
    rw [hp]
    rcases hx : x with _ | ⟨c, x'⟩
    · exact absurd hx h0
    · obtain ⟨ha, g1, g2, g3, g4⟩ := scan_word_piece hx hd hr (by have := h1 (by rw [hx]; simp); simpa [hx] using this) h2
      refine ⟨ha, g1, ?_⟩
      rw [g2]
      unfold wordScan
      rw [g3, g4, h3, h4, if_neg (by decide), if_neg (by decide), if_neg (by omega), hx]
  | @word x b h =>
    have hp : piece ⟨2, x, 0, b⟩ = x := rfl
    rw [hp] at hd
    unfold Scans
    rw [hp]
    have hf := List.all_eq_true.1 kw_facts x h
    simp only [Bool.and_eq_true, decide_eq_true_eq] at hf
    obtain ⟨f1, f2, f3, f4⟩ := hf
    rcases hx : x with _ | ⟨c, x'⟩
    · rw [hx] at f4; simp at f4
    · obtain ⟨ha, g1, g2, g3, g4⟩ := scan_word_piece hx hd hr (by rw [hx] at f4; simpa using f4) (fun c hc => List.all_eq_true.1 f3 c hc)
      refine ⟨ha, g1, ?_⟩
      rw [g2]
      unfold wordScan
      rw [g3, g4, f1, if_pos rfl, f2, hx]
  | @num n b h =>
    have hp : piece ⟨3, [], n, b⟩ = Lib.decDigits n := rfl
    rw [hp] at hd
    unfold Scans
    rw [hp]
    have hall := dec_digits n
    rcases hx : Lib.decDigits n with _ | ⟨c, x'⟩
    · exact absurd hx (dec_ne n)
    · have hc : digitB c.toNat = true := hall c (by rw [hx]; simp)
      obtain ⟨ha, e⟩ := get_drop (l := l) (a := a) (c := c) (r := x' ++ r) (by rw [hd, hx]; rfl)
      obtain ⟨g3, g4⟩ := run_piece hd hall hr (by decide)
      obtain ⟨n1, n2⟩ := digit_noblank hc
      refine ⟨ha, by rw [e]; exact n1, ?_⟩
      unfold scanAt
      rw [e, n2, hc, if_neg (by decide), if_pos rfl]
      unfold numberScan
      have hbad : badNum l a = false := by
        unfold badNum
        rw [g3, g4]
        have hnext : l[a + (Lib.decDigits n).length]? = r[0]? := by
          have := congrArg (fun z => z[(Lib.decDigits n).length]?) hd
          simp only [List.getElem?_drop] at this
          rw [this, List.getElem?_append_right (Nat.le_refl _), Nat.sub_self]
        rw [hnext]
        have hA : (decide (1 < (Lib.decDigits n).length) && decide ((Lib.decDigits n).head? = some 48)) = false := by
          by_cases hl : 1 < (Lib.decDigits n).length
          · have hh := dec_head n (by have := dec_one hl; omega)
            rw [decide_eq_false hh, Bool.and_false]
          · rw [decide_eq_false hl, Bool.false_and]
        rw [hA]
        rcases hr with rfl | ⟨r', rfl⟩ <;> rfl
      rw [hbad, if_neg (by decide), g3, g4, dec_val, if_neg (by omega)]
      have hm : min n 1125899906842625 = n := by omega
      rw [hm, hx]
  | @text x b h h2 =>
    have hp : piece ⟨4, x, 0, b⟩ = quoteL x := rfl
    rw [hp] at hd
    unfold Scans
    rw [hp]
    unfold quoteL at hd ⊢
    obtain ⟨ha, e⟩ := get_drop (l := l) (a := a) (c := 39) (r := (quoteBody x ++ [39]) ++ r) (by rw [hd]; rfl)
    refine ⟨ha, by rw [e]; decide, ?_⟩
    unfold scanAt
    rw [e, if_neg (by decide), if_neg (by decide), if_pos rfl]
    unfold textScan
    have hd2 : l.drop (a + 1) = quoteBody x ++ (39 :: r) := by
      have h3 : (l.drop a).drop 1 = l.drop (a + 1) := by rw [List.drop_drop]
      rw [← h3, hd]
      simp
    rw [hd2, tg_quote hr x (a + 1) [] h]
    unfold textEnd
    rw [List.nil_append, if_neg (by omega)]
    congr 1
    simp
    omega
  | @two x b h =>
    have hp : piece ⟨5, x, 0, b⟩ = x := rfl
    rw [hp] at hd
    unfold Scans
    rw [hp]
    have hf := List.all_eq_true.1 two_facts x h
    have hl : x.length = 2 := by
      simp only [twos, List.mem_cons, List.not_mem_nil, or_false] at h
      rcases h with rfl | rfl | rfl | rfl <;> rfl
    rcases hx : x with _ | ⟨c, x'⟩
    · rw [hx] at hl; cases hl
    · rw [hx] at hf
      simp only [List.head?_cons, Bool.and_eq_true, Bool.not_eq_true', decide_eq_true_eq] at hf
      obtain ⟨f1, f2, f3, f4⟩ := hf
      obtain ⟨ha, e⟩ := get_drop (l := l) (a := a) (c := c) (r := x' ++ r) (by rw [hd, hx]; rfl)
      refine ⟨ha, by rw [e]; exact f4, ?_⟩
      unfold scanAt
      rw [e, f1, f2, if_neg (by decide), if_neg (by decide), if_neg f3]
      unfold symScan
      have h2 : (l.drop a).take 2 = x := by rw [hd, ← hl, List.take_left']; rfl
      rw [h2, if_pos (by simpa using h), ← hx, hl]
  | @one c b h =>
    have hp : piece ⟨5, [c], 0, b⟩ = [c] := rfl
    rw [hp] at hd
    unfold Scans
    rw [hp]
    have hf := List.all_eq_true.1 one_facts c h
    simp only [Bool.and_eq_true, Bool.not_eq_true', decide_eq_true_eq] at hf
    obtain ⟨f1, f2, f3, f4, f5, f6⟩ := hf
    obtain ⟨ha, e⟩ := get_drop (l := l) (a := a) (c := c) (r := r) (by rw [hd]; rfl)
    refine ⟨ha, by rw [e]; exact f4, ?_⟩
    unfold scanAt
    rw [e, f1, f2, if_neg (by decide), if_neg (by decide), if_neg f3]
    unfold symScan
    have h2 : twos.contains ((l.drop a).take 2) = false := by
      rw [hd]
      rcases hr with rfl | ⟨r', rfl⟩
      · exact f5
      · exact f6
    rw [h2, if_neg (by decide), List.getElem?_eq_getElem ha, e]
    simp only
    rw [if_pos (by simpa using h)]
    rfl
def core (t : Tok) : Nat × List UInt8 × Nat := (t.kind, t.text, t.int)
theorem piece_ne {t : Tok} (h : OkTok t) : True := trivial
theorem relex : ∀ (T : List Tok), (∀ t ∈ T, OkTok t) → ∀ (l : List UInt8) (a : Nat) (acc : List Tok), l.drop a = Lib.joinTail [32] (T.map piece) → ∃ T', Lexes l a acc (.toks (acc ++ T')) ∧ T'.map core = T.map core
  | [], _, l, a, acc, hd => by
    refine ⟨[], ?_, rfl⟩
    rw [List.append_nil]
    refine .fin ?_
    have : l.drop a = [] := hd
    exact List.drop_eq_nil_iff.1 this
  | t :: T, hok, l, a, acc, hd => by
    have hj : Lib.joinTail [32] ((t :: T).map piece) = 32 :: (piece t ++ Lib.joinTail [32] (T.map piece)) := by simp [Lib.joinTail]
    rw [hj] at hd
    obtain ⟨ha, e⟩ := get_drop hd
    have hd1 : l.drop (a + 1) = piece t ++ Lib.joinTail [32] (T.map piece) := by
      have h3 : (l.drop a).drop 1 = l.drop (a + 1) := by rw [List.drop_drop]
      rw [← h3, hd]; rfl
    have hr : Rest (Lib.joinTail [32] (T.map piece)) := by
      rcases T with _ | ⟨u, U⟩
      · exact .inl rfl
      · exact .inr ⟨_, by simp [Lib.joinTail]; rfl⟩
    obtain ⟨hb, h1, h2⟩ := scan_piece (hok t (by simp)) hd1 hr
    have hd2 : l.drop (a + 1 + (piece t).length) = Lib.joinTail [32] (T.map piece) := by
      rw [← List.drop_drop, hd1, List.drop_left']; rfl
    obtain ⟨T', h3, h4⟩ := relex T (fun u hu => hok u (List.mem_cons_of_mem _ hu)) l _ (acc ++ [{ t with at_ := a + 1 }]) hd2
    refine ⟨{ t with at_ := a + 1 } :: T', ?_, by simp [h4, core]⟩
    refine .skip ha (by rw [e]; decide) (.tok hb h1 h2 ?_)
    rw [List.append_assoc] at h3
    exact h3
theorem relex_all (T : List Tok) (hok : ∀ t ∈ T, OkTok t) : ∃ T', Lexes (textF T) 0 [] (.toks T') ∧ T'.map core = T.map core := by
  rcases T with _ | ⟨t, T⟩
  · exact ⟨[], .fin (by simp [textF, Lib.join_nil]), rfl⟩
  · have ht : textF (t :: T) = piece t ++ Lib.joinTail [32] (T.map piece) := by unfold textF; rw [List.map_cons, Lib.join_cons]
    have hd : (textF (t :: T)).drop 0 = piece t ++ Lib.joinTail [32] (T.map piece) := ht
    have hr : Rest (Lib.joinTail [32] (T.map piece)) := by
      rcases T with _ | ⟨u, U⟩
      · exact .inl rfl
      · exact .inr ⟨_, by simp [Lib.joinTail]; rfl⟩
    obtain ⟨hb, h1, h2⟩ := scan_piece (hok t (by simp)) hd hr
    have hd2 : (textF (t :: T)).drop (0 + (piece t).length) = Lib.joinTail [32] (T.map piece) := by
      rw [ht, Nat.zero_add, List.drop_left']; rfl
    obtain ⟨T', h3, h4⟩ := relex T (fun u hu => hok u (List.mem_cons_of_mem _ hu)) _ _ ([] ++ [{ t with at_ := 0 }]) hd2
    refine ⟨{ t with at_ := 0 } :: T', ?_, by simp [h4, core]⟩
    exact .tok hb h1 h2 h3
theorem comes_ok {l : List UInt8} {T : List Tok} (h : Comes_ l (.toks T)) : ∀ t ∈ T, OkTok t := by
  rcases h with ⟨_, h⟩ | ⟨_, h⟩
  · cases h
  · exact h.ok T rfl (fun t ht => by cases ht)
theorem comes_back {l : List UInt8} {T : List Tok} (h : Comes_ l (.toks T)) (hn : (textF T).length ≤ 65536) : ∃ T', Comes_ (textF T) (.toks T') ∧ T'.map core = T.map core := by
  obtain ⟨T', h1, h2⟩ := relex_all T (comes_ok h)
  exact ⟨T', .inr ⟨hn, h1⟩, h2⟩
end Go.Proofs.YtlbmamcchomecaaDoor
