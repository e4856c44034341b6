/-
  The positions of tokens ascend and are those of bytes that are no blanks: the plain law and the walk of bitemporallaw17.LexerPositions.
-/
import Derived.Test.YtlbmamcchomecaaDoorLxAwake
namespace Go.Proofs.YtlbmamcchomecaaDoor
open Go.RowKit
set_option linter.unusedVariables false
set_option linter.unusedSimpArgs false

def lastAt (T : List Tok) : Nat → Int
  | 0 => -1
  | k + 1 => match T[k]? with | some t => (t.at_ : Int) | none => -1
def PosOk (l : List UInt8) (T : List Tok) : Prop := ∀ k (h : k < T.length), lastAt T k < (T[k].at_ : Int) ∧ ∃ h2 : T[k].at_ < l.length, blankB l[T[k].at_].toNat = false
theorem lastAt_snoc {T : List Tok} {t : Tok} {k : Nat} (h : k ≤ T.length) : lastAt (T ++ [t]) k = lastAt T k := by
  rcases k with _ | k
  · rfl
  · simp only [lastAt]
    rw [List.getElem?_append_left (by omega)]
theorem posOk_snoc {l : List UInt8} {T : List Tok} {t : Tok} {a : Nat} (h : PosOk l T) (hl : lastAt T T.length < (a : Int)) (ha : a < l.length) (hb : blankB l[a].toNat = false) (e : t.at_ = a) : PosOk l (T ++ [t]) := by
  intro k hk
  rcases Nat.lt_or_ge k T.length with h1 | h1
  · have h2 := h k h1
    rw [lastAt_snoc (by omega)]
    rw [List.getElem_append_left h1]
    exact h2
  · have : k = T.length := by simp at hk; omega
    subst this
    rw [lastAt_snoc (Nat.le_refl _)]
    simp only [List.getElem_concat_length]
    subst e
    exact ⟨hl, ha, hb⟩
theorem Lexes.pos {l : List UInt8} {a : Nat} {acc : List Tok} {r : Res} (h : Lexes l a acc r) : ∀ T, r = .toks T → PosOk l acc → lastAt acc acc.length < (a : Int) → PosOk l T := by
  induction h with
  | fin h => intro T e h1 _; cases e; exact h1
  | skip h hb _ ih => intro T e h1 h2; exact ih T e h1 (by omega)
  | err h hb hs => intro T e; cases e
  | tok h hb hs _ ih =>
    intro T e h1 h2
    have he := scanAt_end h hs
    refine ih T e (posOk_snoc h1 h2 h hb he.2.2) ?_
    rename_i a' acc' t' e' r' _
    have : lastAt (acc' ++ [t']) (acc' ++ [t']).length = (t'.at_ : Int) := by simp [lastAt]
    rw [this]
    omega
theorem comes_pos {l : List UInt8} {T : List Tok} (h : Comes_ l (.toks T)) : PosOk l T := by
  rcases h with ⟨_, h⟩ | ⟨_, h⟩
  · cases h
  · exact h.pos T rfl (fun k hk => absurd hk (by simp)) (by simp [lastAt])
theorem Lexes.count {l : List UInt8} {a : Nat} {acc : List Tok} {r : Res} (h : Lexes l a acc r) : ∀ T, r = .toks T → acc.length ≤ a → a ≤ l.length → T.length ≤ l.length := by
  induction h with
  | fin h => intro T e h1 h2; cases e; omega
  | skip h hb _ ih => intro T e h1 h2; exact ih T e (by omega) (by omega)
  | err h hb hs => intro T e; cases e
  | tok h hb hs _ ih =>
    intro T e h1 h2
    have he := scanAt_end h hs
    exact ih T e (by simp; omega) (by omega)
theorem comes_count {l : List UInt8} {T : List Tok} (h : Comes_ l (.toks T)) : T.length ≤ 65536 := by
  rcases h with ⟨_, h⟩ | ⟨h0, h⟩
  · cases h
  · exact Nat.le_trans (h.count T rfl (by simp) (by omega)) h0
theorem textGo_err (a : Nat) (r : List UInt8) (i : Nat) (out : List UInt8) {c : Nat} (h : textGo a r i out = .err c) : c ≠ 0 := by
  induction r, i, out using textGo.induct with
  | case1 i out => simp [textGo] at h; omega
  | case2 i out => simp [textGo, textEnd] at h; split at h <;> cases h; decide
  | case3 i out r ih => simp [textGo] at h; exact ih h
  | case4 i out d r hd => simp [textGo, textEnd, hd] at h; split at h <;> cases h; decide
  | case5 i out c r hc hb => unfold textGo at h; rw [if_neg hc, if_pos hb] at h; cases h; decide
  | case6 i out c r hc hb ih => unfold textGo at h; rw [if_neg hc, if_neg hb] at h; exact ih h
theorem scanAt_err {l : List UInt8} {a : Nat} {x : UInt8} {c : Nat} (h : scanAt l a x = .err c) : c ≠ 0 := by
  unfold scanAt at h
  split at h
  · unfold wordScan at h
    split at h
    · cases h
    · split at h
      · cases h; decide
      · split at h
        · cases h; decide
        · cases h
  · split at h
    · unfold numberScan at h
      split at h
      · cases h; decide
      · split at h
        · cases h; decide
        · cases h
    · split at h
      · exact textGo_err _ _ _ _ h
      · unfold symScan at h
        split at h
        · cases h
        · split at h
          · split at h
            · cases h
            · cases h; decide
          · cases h; decide
theorem Lexes.code {l : List UInt8} {a : Nat} {acc : List Tok} {r : Res} (h : Lexes l a acc r) : ∀ i c, r = .err i c → c ≠ 0 := by
  induction h with
  | fin h => intro i c e; cases e
  | skip h hb _ ih => exact ih
  | err h hb hs => intro i c e; cases e; exact scanAt_err hs
  | tok h hb hs _ ih => exact ih
theorem comes_code {l : List UInt8} {i c : Nat} (h : Comes_ l (.err i c)) : c ≠ 0 := by
  rcases h with ⟨_, h⟩ | ⟨_, h⟩
  · cases h; decide
  · exact h.code i c rfl
def PosRel (T : List Tok) (last i : Value) : Prop := ∃ k : Nat, k ≤ T.length ∧ i = .int .i64 k ∧ last = .int .i64 (lastAt T k)
theorem flat_at : ∀ (T : List Tok) (k : Nat) (hk : k < T.length) (j : Nat), j < 4 → (T.flatMap tokL)[k * 4 + j]? = (tokL T[k])[j]?
  | t :: T, 0, _, j, hj => by
    rw [List.flatMap_cons, List.getElem?_append_left (by simp [tokL]; omega)]
    simp
  | t :: T, k + 1, hk, j, hj => by
    have hl : (tokL t).length = 4 := rfl
    rw [List.flatMap_cons, List.getElem?_append_right (by omega), hl]
    have e : (k + 1) * 4 + j - 4 = k * 4 + j := by omega
    rw [e, flat_at T k (by simpa using hk) j hj]
    simp
theorem tok_cells {w : World} {base : Nat} {v : Value} {T : List Tok} (ho : w.ownsRow base 30 4 v T.length (T.flatMap tokL)) {g : Nat} (hg : v.ownBlock = some g) {k : Nat} (hk : k < T.length) :
    w.cell? ⟨g, k * 4, none⟩ = some (.int .i64 (T[k].kind : Int)) ∧ w.cell? ⟨g, k * 4 + 1, none⟩ = some (.string ⟨T[k].text.toArray⟩) ∧ w.cell? ⟨g, k * 4 + 2, none⟩ = some (.int .i64 (T[k].int : Int)) ∧ w.cell? ⟨g, k * 4 + 3, none⟩ = some (.int .i64 (T[k].at_ : Int)) := by
  have hc := ho.cells hg
  have hx : ∀ j (hj : j < 4), (T.flatMap tokL)[k * 4 + j]? = (tokL T[k])[j]? := by
    intro j hj
    exact flat_at T k hk j hj
  have ha : ∀ j, (⟨g, 0, none⟩ : Addr).add j = ⟨g, j, none⟩ := fun j => by unfold Addr.add; split <;> simp_all
  refine ⟨?_, ?_, ?_, ?_⟩
  · rw [← ha]; exact hc _ _ (hx 0 (by omega))
  · rw [← ha]; exact hc _ _ (hx 1 (by omega))
  · rw [← ha]; exact hc _ _ (hx 2 (by omega))
  · rw [← ha]; exact hc _ _ (hx 3 (by omega))
theorem own_len {w : World} {base : Nat} {e : TypeId} {size n m c : Nat} {A : Option Addr} {xs : List Value} (h : w.ownsRow base e size (.slice A m c) n xs) : m = n := by
  rcases h.2 with ⟨h0, h1⟩ | ⟨g, cap, cur, hv, _⟩
  · injection h0 with _ h2; rw [h2, h1]
  · injection hv
theorem own_addr {w : World} {base : Nat} {e : TypeId} {size n m c : Nat} {A : Option Addr} {xs : List Value} (h : w.ownsRow base e size (.slice A m c) n xs) (hn : 0 < n) : ∃ g, A = some ⟨g, 0, none⟩ := by
  rcases h.2 with ⟨_, h1⟩ | ⟨g, cap, cur, hv, _⟩
  · omega
  · injection hv with hv; exact ⟨g, hv⟩
def TruePost (w : World) (e : Ending) (w' : World) : Prop := e = .returned (.bool true) ∧ Below w.heap.size w w'
theorem awake_from {w w1 : World} (hb : Below w.heap.size w w1) (ht : Tab w1) : Calls Tryd.prog 10 #[] w1 (TruePost w) :=
  (awake_call w1 ht).mono fun _ _ h => ⟨h.1, hb.trans (h.2.mono hb.size)⟩
set_option maxHeartbeats 2000000 in
set_option maxRecDepth 100000 in
theorem positions_walk (s : ByteArray) (w : World) (ht : Tab w) : Calls Tryd.prog 4 #[.string s] w (TruePost w) := by
  have HT := Lib.hid ht
  clear ht
  go_enter Tryd.func4, Tryd.ntmps4
  go_wp2_with fail
  refine (tokens_call s w HT.out).mono ?_
  rintro e w1 ⟨r, hcm, hout⟩
  rcases r with ⟨i, c⟩ | T
  · obtain ⟨rfl, hb1⟩ := hout
    have hc0 := comes_code hcm
    have c1 : ((c : Int) != 0) = true := by rw [bne_iff_ne]; omega
    have HA := Lib.hid (awake_from hb1 (HT.out.below hb1))
    clear hcm hb1 HT
    go_wp2_with fail
    refine HA.out.mono ?_
    rintro e w2 ⟨rfl, hb2⟩
    go_wp2_with fail
    go_ret
    exact ⟨rfl, hb2⟩
  · obtain ⟨v, rfl, ho, hb1⟩ := hout
    have ho : w1.ownsRow w.heap.size 30 4 v T.length (T.flatMap tokL) := ho
    have HP := Lib.hid (comes_pos hcm)
    have HA := Lib.hid (awake_from hb1 (HT.out.below hb1))
    have hTn := comes_count hcm
    obtain ⟨A, n, cp, rfl⟩ := own_slice ho
    obtain rfl : n = T.length := own_len ho
    have HO := Lib.hid ho
    clear ho hcm hb1 HT
    go_wp2_with fail
    go_loop [6, 19] (fun last i => PosRel T last i) (fun _ i => T.length - (intOf i).toNat)
    case atStart => exact ⟨0, Nat.zero_le _, rfl, rfl⟩
    case round =>
      obtain ⟨k, hk, rfl, rfl⟩ := hrel
      by_cases hlt : k < T.length
      · obtain ⟨g, rfl⟩ : ∃ g, A = some ⟨g, 0, none⟩ := own_addr HO.out (by omega)
        have hc := (tok_cells HO.out (g := g) rfl hlt).2.2.2
        obtain ⟨hp1, hp2, hp3⟩ := HP.out k hlt
        have hp2' : T[k].at_ < s.size := by simpa using hp2
        have HBL : Hid (∀ W : World, Calls Tryd.prog 11 #[.int .u8 (s[T[k].at_].toNat : Int)] W fun e w' => e = .returned (.bool false) ∧ W = w') := Lib.hid (fun W => (refBlank_any s[T[k].at_].toNat W s[T[k].at_].toNat_lt).mono fun _ _ h => ⟨h.1.trans (ret_bool hp3), h.2⟩)
        have HLA : Hid (lastAt T (k + 1) = (T[k].at_ : Int)) := Lib.hid (by simp [lastAt, List.getElem?_eq_getElem hlt])
        clear hp3 hp2
        generalize lastAt T k = la at hp1 ⊢
        generalize T[k].at_ = p at hc hp1 hp2' HBL HLA
        have a1 : (p : Int) < (s.size : Int) := by omega
        have a0 : (0 : Int) ≤ (p : Int) := by omega
        go_wp2_with fail
        refine (HBL.out _).mono ?_
        rintro e w' ⟨rfl, rfl⟩
        go_wp2_with fail
        go_round
        case rel => exact ⟨k + 1, by omega, by go_num, by rw [HLA.out]⟩
        case measure => simp [intOf]; omega
      · go_wp2_with fail
        refine HA.out.mono ?_
        rintro e w2 ⟨rfl, hb2⟩
        go_wp2_with fail
        go_ret
        exact ⟨rfl, hb2⟩
end Go.Proofs.YtlbmamcchomecaaDoor
