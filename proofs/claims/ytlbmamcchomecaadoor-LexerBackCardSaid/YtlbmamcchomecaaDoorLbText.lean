/-
  lexer.Quote and lexer.Text.
-/
import Derived.Test.YtlbmamcchomecaaDoorLbPlain2
import Derived.Test.YtlbmamcchomecaaDoorLrWord
import Derived.Test.YtlbmamcchomecaaDoorShelf2
import Derived.WalkSmall
namespace Go.Proofs.YtlbmamcchomecaaDoor
open Go.RowKit
set_option linter.unusedVariables false
set_option linter.unusedSimpArgs false

theorem idx_split : ∀ s : List UInt8, (Lib.index s [39] = -1 ∧ ∀ c ∈ s, c ≠ 39) ∨ ∃ i : Nat, Lib.index s [39] = i ∧ s = s.take i ++ 39 :: s.drop (i + 1) ∧ ∀ c ∈ s.take i, c ≠ 39
  | [] => .inl ⟨by simp [Lib.index], fun c hc => by cases hc⟩
  | b :: l => by
    by_cases hb : b = 39
    · subst hb
      exact .inr ⟨0, by simp [Lib.index], by simp, fun c hc => by simp at hc⟩
    · have hp : ([39] : List UInt8).isPrefixOf (b :: l) = false := by simp [List.isPrefixOf]; exact fun e => hb e.symm
      rcases idx_split l with ⟨h1, h2⟩ | ⟨i, h1, h2, h3⟩
      · refine .inl ⟨by simp [Lib.index, hp, h1], fun c hc => ?_⟩
        rcases List.mem_cons.1 hc with rfl | hc
        · exact hb
        · exact h2 c hc
      · refine .inr ⟨i + 1, ?_, ?_, fun c hc => ?_⟩
        · have : ¬ (Lib.index l [39] == -1) = true := by rw [h1]; simp <;> omega
          simp only [Lib.index, hp, Bool.false_eq_true, if_false]
          rw [if_neg this, h1]
          omega
        · simp only [List.take_succ_cons, List.drop_succ_cons, List.cons_append]
          rw [← h2]
        · rw [List.take_succ_cons] at hc
          rcases List.mem_cons.1 hc with rfl | hc
          · exact hb
          · exact h3 c hc
theorem quote_same {l : List UInt8} (h : ∀ c ∈ l, c ≠ 39) : quoteBody l = l := by
  induction l with
  | nil => rfl
  | cons c l ih =>
    have hq : quoteBody (c :: l) = quoteC c ++ quoteBody l := by simp [quoteBody]
    rw [hq, ih (fun x hx => h x (List.mem_cons_of_mem _ hx))]
    unfold quoteC
    rw [if_neg (h c (by simp))]
    rfl
theorem replaceK_quote (n : Nat) : ∀ s : List UInt8, s.length ≤ n → Lib.replaceK [39] [39, 39] (Lib.count s [39]) s = quoteBody s := by
  induction n with
  | zero =>
    intro s h
    obtain rfl : s = [] := List.eq_nil_of_length_eq_zero (by omega)
    rw [Lib.count_miss (by simp [Lib.index])]
    rfl
  | succ n ih =>
    intro s h
    rcases idx_split s with ⟨h1, h2⟩ | ⟨i, h1, h2, h3⟩
    · rw [Lib.count_miss h1, quote_same h2]; rfl
    · have hl : (s.drop (i + 1)).length ≤ n := by
        have := congrArg List.length h2
        simp at this ⊢
        omega
      rw [Lib.count_hit (by simp) h1, Nat.add_comm, Lib.replaceK_hit _ _ _ _ i h1]
      have e1 : i + ([39] : List UInt8).length = i + 1 := rfl
      rw [e1, ih _ hl]
      conv => rhs; rw [h2]
      have hq : quoteBody (s.take i ++ 39 :: s.drop (i + 1)) = quoteBody (s.take i) ++ (quoteC 39 ++ quoteBody (s.drop (i + 1))) := by simp [quoteBody]
      rw [hq, quote_same h3]
      simp [quoteC]
theorem replace_quote (s : List UInt8) : Lib.replaceAll s [39] [39, 39] = quoteBody s := by
  unfold Lib.replaceAll Lib.replace
  rw [if_neg (by decide)]
  have : Lib.replaceNum s [39] (-1) = Lib.count s [39] := by unfold Lib.replaceNum; rw [if_pos (.inl (by decide))]
  rw [this]
  exact replaceK_quote s.length s (Nat.le_refl _)

theorem quote_len (x : List UInt8) : (quoteBody x).length ≤ 2 * x.length := by
  induction x with
  | nil => simp [quoteBody]
  | cons c l ih =>
    have hq : quoteBody (c :: l) = quoteC c ++ quoteBody l := by simp [quoteBody]
    rw [hq, List.length_append]
    have : (quoteC c).length ≤ 2 := by unfold quoteC; split <;> simp
    simp only [List.length_cons]
    omega
theorem cat3 (y : List UInt8) : (ByteArray.mk #[39] ++ ByteArray.mk y.toArray ++ ByteArray.mk #[39]) = ⟨(39 :: (y ++ [39])).toArray⟩ := by
  apply bytes_ext
  simp [ByteArray.data_append]
/-- what the library's variables hold -/
structure Env (w : World) : Prop where
  tab : Tab w
  pow : Lib.TabIs Tryd.prog w "internal/strconv.uint64pow10" .u64 Lib.pow10Tab
  maxl : ∃ m, w.cell? ⟨3, 0, none⟩ = some (.int .i64 m)
theorem gPow : Tryd.prog.globalNamed "internal/strconv.uint64pow10" = some 6 := by kernel_rfl
theorem lt_of_cell {w : World} {b o : Nat} {v : Value} (h : w.cell? ⟨b, o, none⟩ = some v) : b < w.heap.size := by
  rcases Nat.lt_or_ge b w.heap.size with hlt | hge
  · exact hlt
  · simp [World.cell?, Array.getElem?_eq_none hge] at h
theorem Env.below {w w' : World} (h : Env w) (hb : Below w.heap.size w w') : Env w' := by
  refine ⟨h.tab.below hb, ?_, ?_⟩
  · have hc := h.pow.cell gPow 0 (by decide)
    exact var?_below hb gPow (lt_of_cell hc) h.pow
  · obtain ⟨m, hm⟩ := h.maxl
    exact ⟨m, (hb.cell (p := ⟨_, 0, none⟩) (lt_of_cell hm)).trans hm⟩
theorem Env.alloc {w : World} (h : Env w) (o : Obj) : Env (w.alloc o) := h.below ((Below.refl _ _).alloc (Nat.le_refl _) _)
set_option maxRecDepth 100000 in
set_option maxHeartbeats 1000000 in
theorem quote_call (x : List UInt8) (w : World) (hx : x.length ≤ 1000) (h : Env w) :
    Calls Tryd.prog 36 #[.string ⟨x.toArray⟩] w fun e w' => e = .returned (.string ⟨(quoteL x).toArray⟩) ∧ Below w.heap.size w w' := by
  obtain ⟨m, hm⟩ := h.maxl
  have hc : Lib.countB ⟨x.toArray⟩ ⟨#[39]⟩ ≤ 100000 := by
    have := Lib.count_le x [39]
    show Lib.count _ _ ≤ _
    simp only
    omega
  have CR := Tryd.strings_ReplaceAll ⟨x.toArray⟩ ⟨#[39]⟩ ⟨#[39, 39]⟩ m w (by rw [mk_size]; omega) hm (by decide) (by
    rw [mk_size]
    have e2 : (ByteArray.mk #[39, 39]).size = 2 := rfl
    rw [e2]
    omega)
  rw [mk_list] at CR
  have er : Lib.replaceAll x (ByteArray.mk #[39]).data.toList (ByteArray.mk #[39, 39]).data.toList = quoteBody x := replace_quote x
  rw [er] at CR
  have hql := quote_len x
  have HQ : Hid (quoteL x = 39 :: (quoteBody x ++ [39])) := Lib.hid rfl
  generalize quoteBody x = y at CR hql HQ
  have HC := Lib.hid CR
  clear CR er hc hm h
  go_enter Tryd.func36, Tryd.ntmps36
  go_wp2_with fail
  refine HC.out.mono ?_
  rintro e w1 ⟨rfl, hb⟩
  have y1 : (y.length : Int) ≤ 2000 := by omega
  have y2 : ¬ maxLen < 1 + y.length := by unfold maxLen; omega
  have y3 : ¬ maxLen < 1 + y.length + 1 := by unfold maxLen; omega
  go_wp2_with fail
  go_ret
  exact ⟨congrArg (fun z => Ending.returned (.string z)) (by rw [HQ.out]; exact cat3 y), hb⟩
theorem kw_short : keywords.all (fun l => decide (l.length ≤ 100)) = true := by decide +kernel
theorem two_short : twos.all (fun l => decide (l.length ≤ 100)) = true := by decide +kernel
theorem dec_len (n : Nat) : ∀ k, n < 10 ^ (k + 1) → (Lib.decDigits n).length ≤ k + 1 := by
  induction n using Nat.strongRecOn with
  | ind n ih =>
    intro k hk
    unfold Lib.decDigits
    split
    · simp
    · rename_i h
      rcases k with _ | k
      · simp at hk; omega
      · have := ih (n / 10) (by omega) k (by rw [Nat.pow_succ] at hk; omega)
        simp
        omega
theorem piece_len {t : Tok} (h : OkTok t) : (piece t).length ≤ 500 := by
  cases h with
  | @name x b h0 h1 h2 h3 h4 h5 => have e : piece ⟨1, x, 0, b⟩ = x := rfl; rw [e]; omega
  | @word x b h => have := List.all_eq_true.1 kw_short _ h; simp at this; have e : piece ⟨2, x, 0, b⟩ = x := rfl; rw [e]; omega
  | @num n b h => have := dec_len n 19 (by omega); have e : piece ⟨3, [], n, b⟩ = Lib.decDigits n := rfl; rw [e]; omega
  | @text x b h h2 => have := quote_len x; have e : piece ⟨4, x, 0, b⟩ = quoteL x := rfl; rw [e]; unfold quoteL; simp; omega
  | @two x b h => have := List.all_eq_true.1 two_short _ h; simp at this; have e : piece ⟨5, x, 0, b⟩ = x := rfl; rw [e]; omega
  | @one c b h => have e : piece ⟨5, [c], 0, b⟩ = [c] := rfl; rw [e]; simp
theorem tail_len (T : List Tok) (h : ∀ t ∈ T, OkTok t) : (Lib.joinTail [32] (T.map piece)).length ≤ 501 * T.length := by
  induction T with
  | nil => simp [Lib.joinTail]
  | cons t T ih =>
    have hj : Lib.joinTail [32] ((t :: T).map piece) = 32 :: (piece t ++ Lib.joinTail [32] (T.map piece)) := by simp [Lib.joinTail]
    have h1 := piece_len (h t (by simp))
    have h2 := ih (fun u hu => h u (List.mem_cons_of_mem _ hu))
    rw [hj]
    simp only [List.length_cons, List.length_append]
    omega
theorem textF_len (T : List Tok) (h : ∀ t ∈ T, OkTok t) : (textF T).length ≤ 501 * T.length := by
  rcases T with _ | ⟨t, T⟩
  · simp [textF, Lib.join_nil]
  · have ht : textF (t :: T) = piece t ++ Lib.joinTail [32] (T.map piece) := by unfold textF; rw [List.map_cons, Lib.join_cons]
    have h1 := piece_len (h t (by simp))
    have h2 := tail_len T (fun u hu => h u (List.mem_cons_of_mem _ hu))
    rw [ht, List.length_append, List.length_cons]
    omega
theorem below_grow (w : World) (k : Nat) (os : Array Obj) : Below w.heap.size w (Go.Sort.grow (w.drewN k) os) := by
  refine ⟨rfl, rfl, rfl, ?_, fun i hi => ?_⟩
  · simp [Go.Sort.grow, World.drewN]
  · simp only [Go.Sort.grow]
    exact Array.getElem?_append_left hi
theorem itoa_call (n : Nat) (w : World) (hn : n ≤ 1125899906842624) (h : Env w) : Calls Tryd.prog 35 #[.int .i64 (n : Int)] w fun e w' => e = .returned (.string ⟨(Lib.decDigits n).toArray⟩) ∧ Below w.heap.size w w' :=
  (Tryd.strconv_Itoa (n : Int) (by omega) (by omega) w h.pow).mono fun e w' ⟨h1, k, os, h2⟩ => by
    refine ⟨?_, ?_⟩
    · rw [h1]
      have : Lib.itoa (n : Int) = Lib.decDigits n := by unfold Lib.itoa; rw [if_neg (by omega)]; rfl
      rw [this]
    · rw [h2]
      exact below_grow w k os
theorem cell_lit1' (w : World) (u : Value) (e : TypeId) (n : Nat) (hn : w.heap.size = n) : ∀ j x, [u][j]? = some x → (w.alloc (.cells #[u] e)).cell? ((⟨n, 0, none⟩ : Addr).add j) = some x := by
  subst hn
  exact cell_lit1 w u e
theorem own_cap {w : World} {base : Nat} {e : TypeId} {size n m c : Nat} {A : Option Addr} {xs : List Value} (h : w.ownsRow base e size (.slice A m c) n xs) : n ≤ c := by
  rcases h.2 with ⟨h0, h1⟩ | ⟨g, cap, cur, hv, _, _, hc, _⟩
  · omega
  · injection hv with _ _ e3; omega
theorem text_join (T : List Tok) : Lib.join ((T.map fun t => (⟨(piece t).toArray⟩ : ByteArray)).map (·.data.toList)) (ByteArray.mk #[32]).data.toList = textF T := by
  unfold textF
  rw [List.map_map]
  rfl
def TxRel (w : World) (T : List Tok) (v i : Value) (wr : World) : Prop :=
  ∃ k : Nat, k ≤ T.length ∧ i = .int .i64 k ∧ wr.ownsRow w.heap.size 9 1 v k ((T.take k).map fun t => kwS (piece t)) ∧ Below w.heap.size w wr
theorem kept_below {w w' : World} {base : Nat} {e : TypeId} {size n : Nat} {v : Value} {xs : List Value} (h : w.ownsRow base e size v n xs) (hb : Below w.heap.size w w') : w'.ownsRow base e size v n xs :=
  h.kept (w' := w') (row := none) ⟨hb.os, hb.tape, hb.output, hb.size, fun i hi _ => hb.block i hi⟩ (by rcases v.ownBlock with _ | g; exact .inl rfl; exact .inr (by simp))
theorem kept_old {B : Nat} {w w' : World} {base : Nat} {e : TypeId} {size n : Nat} {v : Value} {xs : List Value} (h : w.ownsRow base e size v n xs) (hb : Below w.heap.size w w') : w'.ownsRow base e size v n xs := kept_below h hb
set_option maxRecDepth 100000 in
set_option maxHeartbeats 4000000 in
theorem text_call (B : Nat) (A : Option Addr) (c : Nat) (T : List Tok) (w : World) (hn : T.length ≤ 65536) (hok : ∀ t ∈ T, OkTok t) (hT : w.ownsRow B 30 4 (.slice A T.length c) T.length (T.flatMap tokL)) (h : Env w) :
    Calls Tryd.prog 18 #[.slice A T.length c] w fun e w' => e = .returned (.string ⟨(textF T).toArray⟩) ∧ Below w.heap.size w w' := by
  obtain ⟨i0, hi0, hz0, hz1, hz2⟩ := info_parts info_str
  have HOK := Lib.hid hok
  have HT := Lib.hid hT
  have HE := Lib.hid h
  clear hok hT h
  go_enter Tryd.func18, Tryd.ntmps18
  go_wp2_with fail
  go_loopw [3, 8] (fun v i wr => TxRel w T v i wr) (fun _ i _ => T.length - (intOf i).toNat)
  case atStart => exact ⟨0, Nat.zero_le _, rfl, World.ownsRow_nil _ _ _ _, Below.refl _ _⟩
  case round =>
    obtain ⟨k, hk, rfl, ho, hb⟩ := hrel
    by_cases hlt : k < T.length
    · have hTr := kept_below HT.out hb
      obtain ⟨g, rfl⟩ := own_addr HT.out (by omega)
      obtain ⟨x0, x1, x2, x3⟩ := tok_cells hTr (g := g) rfl hlt
      have ho1 := HOK.out T[k] (List.getElem_mem hlt)
      have HKT : Hid ((T.take (k + 1)).map (fun t => kwS (piece t)) = (T.take k).map (fun t => kwS (piece t)) ++ [kwS (piece T[k])]) := Lib.hid (by rw [List.take_succ_eq_append_getElem hlt, List.map_append]; rfl)
      have hlt2 : ∀ g, u3.ownBlock = some g → w.heap.size ≤ g := fun g e => (ho.lt g e).1
      have k0 : (0 : Int) ≤ (k : Int) := by omega
      have k1 : (k : Int) < (T.length : Int) := by omega
      clear hTr
      generalize T[k] = t at x0 x1 x2 x3 ho1 HKT
      cases ho1 with
      | @name x b h0 h1 h2 h3 h4 h5 =>
        clear h0 h1 h2 h3 h4 h5
        have hbA : Below w.heap.size w (wr.alloc (.cells #[.int .i64 1, .string ⟨x.toArray⟩, .int .i64 0, .int .i64 (b : Int)] 30)) := hb.alloc hb.size _
        go_wp2_with (at_builtin; refine wpList_append_own_at _ rfl (.tmp 14) (.tmp 17) 32 rfl w.heap.size 9 i0 _ 1 16 Tryd.underlying32 hi0 hz0 hz1 hz2 rfl (by omega) u3 k _ rfl ((ho.alloc _).alloc _) ⟨wr.heap.size + 1, 0, none⟩ 1 1 [.string ⟨x.toArray⟩] rfl rfl (cell_lit1' _ _ _ _ (by simp)) (fun u hu => by obtain rfl := List.mem_singleton.1 hu; rfl) (by unfold maxLen; omega) (by omega) (Nat.le_trans hbA.size (by simp)) ?_)
        intro v3 w3 hown3 hg3 _ hat3
        have hb3 : Below w.heap.size w w3 := (hbA.alloc hbA.size _).grown hg3 (Nat.le_trans hbA.size (by simp)) hlt2
        have HO3 : Hid (w3.ownsRow w.heap.size 9 1 v3 (k + 1) ((T.take (k + 1)).map fun t => kwS (piece t))) := Lib.hid (by rw [HKT.out, List.map_take]; exact hown3)
        clear hown3 hg3 hat3
        go_wp2_with fail
        go_roundw
        case rel => exact ⟨k + 1, by omega, by go_num, HO3.out, hb3⟩
        case measure => simp [intOf]; omega
      | @word x b h =>
        clear h
        have hbA : Below w.heap.size w (wr.alloc (.cells #[.int .i64 2, .string ⟨x.toArray⟩, .int .i64 0, .int .i64 (b : Int)] 30)) := hb.alloc hb.size _
        go_wp2_with (at_builtin; refine wpList_append_own_at _ rfl (.tmp 14) (.tmp 17) 32 rfl w.heap.size 9 i0 _ 1 16 Tryd.underlying32 hi0 hz0 hz1 hz2 rfl (by omega) u3 k _ rfl ((ho.alloc _).alloc _) ⟨wr.heap.size + 1, 0, none⟩ 1 1 [.string ⟨x.toArray⟩] rfl rfl (cell_lit1' _ _ _ _ (by simp)) (fun u hu => by obtain rfl := List.mem_singleton.1 hu; rfl) (by unfold maxLen; omega) (by omega) (Nat.le_trans hbA.size (by simp)) ?_)
        intro v3 w3 hown3 hg3 _ hat3
        have hb3 : Below w.heap.size w w3 := (hbA.alloc hbA.size _).grown hg3 (Nat.le_trans hbA.size (by simp)) hlt2
        have HO3 : Hid (w3.ownsRow w.heap.size 9 1 v3 (k + 1) ((T.take (k + 1)).map fun t => kwS (piece t))) := Lib.hid (by rw [HKT.out, List.map_take]; exact hown3)
        clear hown3 hg3 hat3
        go_wp2_with fail
        go_roundw
        case rel => exact ⟨k + 1, by omega, by go_num, HO3.out, hb3⟩
        case measure => simp [intOf]; omega
      | @num n b h =>
        have hbA : Below w.heap.size w (wr.alloc (.cells #[.int .i64 3, .string ⟨#[]⟩, .int .i64 (n : Int), .int .i64 (b : Int)] 30)) := hb.alloc hb.size _
        have hoA := ho.alloc (.cells #[.int .i64 3, .string ⟨#[]⟩, .int .i64 (n : Int), .int .i64 (b : Int)] 30)
        have HC := Lib.hid (itoa_call n _ h (HE.out.below hbA))
        clear ho
        go_wp2_with fail
        refine HC.out.mono ?_
        rintro e w1 ⟨rfl, hb1⟩
        replace hoA := kept_below hoA hb1
        replace hbA := hbA.trans (hb1.mono hbA.size)
        clear HC hb1
        go_wp2_with (at_builtin; refine wpList_append_own_at _ rfl (.tmp 21) (.tmp 25) 32 rfl w.heap.size 9 i0 _ 1 16 Tryd.underlying32 hi0 hz0 hz1 hz2 rfl (by omega) u3 k _ rfl (hoA.alloc _) ⟨w1.heap.size, 0, none⟩ 1 1 [.string ⟨(Lib.decDigits n).toArray⟩] rfl rfl (cell_lit1 _ _ _) (fun u hu => by obtain rfl := List.mem_singleton.1 hu; rfl) (by unfold maxLen; omega) (by omega) (Nat.le_trans hbA.size (by simp)) ?_)
        intro v3 w3 hown3 hg3 _ hat3
        have hb3 : Below w.heap.size w w3 := (hbA.alloc hbA.size _).grown hg3 (Nat.le_trans hbA.size (by simp)) hlt2
        have HO3 : Hid (w3.ownsRow w.heap.size 9 1 v3 (k + 1) ((T.take (k + 1)).map fun t => kwS (piece t))) := Lib.hid (by rw [HKT.out, List.map_take]; exact hown3)
        clear hown3 hg3 hat3
        go_wp2_with fail
        go_roundw
        case rel => exact ⟨k + 1, by omega, by go_num, HO3.out, hb3⟩
        case measure => simp [intOf]; omega
      | @text x b h h2 =>
        have hbA : Below w.heap.size w (wr.alloc (.cells #[.int .i64 4, .string ⟨x.toArray⟩, .int .i64 0, .int .i64 (b : Int)] 30)) := hb.alloc hb.size _
        have hoA := ho.alloc (.cells #[.int .i64 4, .string ⟨x.toArray⟩, .int .i64 0, .int .i64 (b : Int)] 30)
        have HC := Lib.hid (quote_call x _ (by omega) (HE.out.below hbA))
        clear ho h
        go_wp2_with fail
        refine HC.out.mono ?_
        rintro e w1 ⟨rfl, hb1⟩
        replace hoA := kept_below hoA hb1
        replace hbA := hbA.trans (hb1.mono hbA.size)
        clear HC hb1
        go_wp2_with (at_builtin; refine wpList_append_own_at _ rfl (.tmp 29) (.tmp 33) 32 rfl w.heap.size 9 i0 _ 1 16 Tryd.underlying32 hi0 hz0 hz1 hz2 rfl (by omega) u3 k _ rfl (hoA.alloc _) ⟨w1.heap.size, 0, none⟩ 1 1 [.string ⟨(quoteL x).toArray⟩] rfl rfl (cell_lit1 _ _ _) (fun u hu => by obtain rfl := List.mem_singleton.1 hu; rfl) (by unfold maxLen; omega) (by omega) (Nat.le_trans hbA.size (by simp)) ?_)
        intro v3 w3 hown3 hg3 _ hat3
        have hb3 : Below w.heap.size w w3 := (hbA.alloc hbA.size _).grown hg3 (Nat.le_trans hbA.size (by simp)) hlt2
        have HO3 : Hid (w3.ownsRow w.heap.size 9 1 v3 (k + 1) ((T.take (k + 1)).map fun t => kwS (piece t))) := Lib.hid (by rw [HKT.out, List.map_take]; exact hown3)
        clear hown3 hg3 hat3
        go_wp2_with fail
        go_roundw
        case rel => exact ⟨k + 1, by omega, by go_num, HO3.out, hb3⟩
        case measure => simp [intOf]; omega
      | @two x b h =>
        clear h
        have hbA : Below w.heap.size w (wr.alloc (.cells #[.int .i64 5, .string ⟨x.toArray⟩, .int .i64 0, .int .i64 (b : Int)] 30)) := hb.alloc hb.size _
        go_wp2_with (at_builtin; refine wpList_append_own_at _ rfl (.tmp 14) (.tmp 17) 32 rfl w.heap.size 9 i0 _ 1 16 Tryd.underlying32 hi0 hz0 hz1 hz2 rfl (by omega) u3 k _ rfl ((ho.alloc _).alloc _) ⟨wr.heap.size + 1, 0, none⟩ 1 1 [.string ⟨x.toArray⟩] rfl rfl (cell_lit1' _ _ _ _ (by simp)) (fun u hu => by obtain rfl := List.mem_singleton.1 hu; rfl) (by unfold maxLen; omega) (by omega) (Nat.le_trans hbA.size (by simp)) ?_)
        intro v3 w3 hown3 hg3 _ hat3
        have hb3 : Below w.heap.size w w3 := (hbA.alloc hbA.size _).grown hg3 (Nat.le_trans hbA.size (by simp)) hlt2
        have HO3 : Hid (w3.ownsRow w.heap.size 9 1 v3 (k + 1) ((T.take (k + 1)).map fun t => kwS (piece t))) := Lib.hid (by rw [HKT.out, List.map_take]; exact hown3)
        clear hown3 hg3 hat3
        go_wp2_with fail
        go_roundw
        case rel => exact ⟨k + 1, by omega, by go_num, HO3.out, hb3⟩
        case measure => simp [intOf]; omega
      | @one c' b h =>
        clear h
        have hbA : Below w.heap.size w (wr.alloc (.cells #[.int .i64 5, .string ⟨[c'].toArray⟩, .int .i64 0, .int .i64 (b : Int)] 30)) := hb.alloc hb.size _
        go_wp2_with (at_builtin; refine wpList_append_own_at _ rfl (.tmp 14) (.tmp 17) 32 rfl w.heap.size 9 i0 _ 1 16 Tryd.underlying32 hi0 hz0 hz1 hz2 rfl (by omega) u3 k _ rfl ((ho.alloc _).alloc _) ⟨wr.heap.size + 1, 0, none⟩ 1 1 [.string ⟨[c'].toArray⟩] rfl rfl (cell_lit1' _ _ _ _ (by simp)) (fun u hu => by obtain rfl := List.mem_singleton.1 hu; rfl) (by unfold maxLen; omega) (by omega) (Nat.le_trans hbA.size (by simp)) ?_)
        intro v3 w3 hown3 hg3 _ hat3
        have hb3 : Below w.heap.size w w3 := (hbA.alloc hbA.size _).grown hg3 (Nat.le_trans hbA.size (by simp)) hlt2
        have HO3 : Hid (w3.ownsRow w.heap.size 9 1 v3 (k + 1) ((T.take (k + 1)).map fun t => kwS (piece t))) := Lib.hid (by rw [HKT.out, List.map_take]; exact hown3)
        clear hown3 hg3 hat3
        go_wp2_with fail
        go_roundw
        case rel => exact ⟨k + 1, by omega, by go_num, HO3.out, hb3⟩
        case measure => simp [intOf]; omega
    · obtain rfl : k = T.length := by omega
      rw [List.take_length] at ho
      have hfl := textF_len T HOK.out
      by_cases h0 : T.length = 0
      · obtain rfl : T = [] := List.eq_nil_of_length_eq_zero h0
        obtain ⟨A', n', c', rfl⟩ := own_slice ho
        obtain rfl := own_len ho
        have HJ := Lib.hid (Tryd.strings_Join_none A' c' ⟨#[32]⟩ wr)
        clear ho
        go_wp2_with fail
        refine HJ.out.mono ?_
        rintro e w' ⟨rfl, rfl⟩
        go_wp2_with fail
        go_ret
        exact ⟨rfl, hb⟩
      · obtain ⟨g, cap, rfl, hg1, hg2⟩ := ho.form (by omega)
        have hcap : T.length ≤ cap := own_cap ho
        have HJ : Hid (Calls Tryd.prog 37 #[.slice (some ⟨g, 0, none⟩) T.length cap, .string ⟨#[32]⟩] wr fun e w' => e = .returned (.string ⟨(textF T).toArray⟩) ∧ Below wr.heap.size wr w') := Lib.hid (by
          have hj := Tryd.strings_Join g 0 cap (T.map fun t => ⟨(piece t).toArray⟩) ⟨#[32]⟩ wr (fun j x hx => by
            have e1 : (⟨g, 0, none⟩ : Addr).add j = ⟨g, 0 + j, none⟩ := by unfold Addr.add; split <;> simp_all
            rw [← e1]
            refine ho.cells (g := g) rfl j _ ?_
            rw [List.getElem?_map] at hx ⊢
            rcases hx2 : T[j]? with _ | u
            · rw [hx2] at hx; cases hx
            · rw [hx2] at hx
              simp only [Option.map_some, Option.some.injEq] at hx ⊢
              rw [← hx]
              rfl) hg2 (by rw [List.length_map]; omega) (by rw [List.length_map]; exact hcap) (by rw [text_join]; omega)
          rw [text_join, List.length_map] at hj
          exact hj)
        clear ho
        go_wp2_with fail
        refine HJ.out.mono ?_
        rintro e w' ⟨rfl, hb2⟩
        go_wp2_with fail
        go_ret
        exact ⟨rfl, hb.trans (hb2.mono hb.size)⟩
end Go.Proofs.YtlbmamcchomecaaDoor
