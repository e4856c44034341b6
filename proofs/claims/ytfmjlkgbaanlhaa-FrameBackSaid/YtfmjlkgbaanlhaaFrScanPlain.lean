/-
  Which frames follow each other from the beginning of some bytes (plain), and words for slices of slices of bytes in memory.
-/
import Derived.Test.YtfmjlkgbaanlhaaFrLaws
namespace Go.Proofs.Ytfmjlkgbaanlhaa
open Go.RowKit
set_option linter.unusedVariables false
set_option linter.unusedSimpArgs false

/-- an intact frame: where it ends -/
theorem nextF_ok (bs : List UInt8) (a : Nat) (h : (nextF bs a).2.2 = 0) :
    (nextF bs a).2.1 = ((a + 8 + (nextF bs a).1.length : Nat) : Int) ∧ a + 8 + (nextF bs a).1.length ≤ bs.length := by
  unfold nextF at h ⊢
  by_cases h1 : ((a : Int) < 0 ∨ (bs.length : Int) < a)
  · rw [if_pos h1] at h; simp at h
  · rw [if_neg h1] at h ⊢
    simp only [Int.toNat_natCast] at h ⊢
    by_cases h2 : (bs.drop a).length < 8
    · rw [if_pos h2] at h; simp at h
    · rw [if_neg h2] at h ⊢
      by_cases h3 : 1048576 < beNum (bs.drop a)
      · rw [if_pos h3] at h; simp at h
      · rw [if_neg h3] at h ⊢
        by_cases h4 : (bs.drop a).length < 8 + beNum (bs.drop a)
        · rw [if_pos h4] at h; simp at h
        · rw [if_neg h4] at h ⊢
          by_cases h5 : beNum ((bs.drop a).drop 4) ≠ sumF ((bs.drop a).take 4 ++ ((bs.drop a).drop 8).take (beNum (bs.drop a)))
          · rw [if_pos h5] at h; simp at h
          · rw [if_neg h5]
            rw [List.length_drop] at h4 h2
            generalize beNum (bs.drop a) = N at *
            have hl : (((bs.drop a).drop 8).take N).length = N := by simp; omega
            simp only [hl]
            omega

/-- the bodies of the first k frames, and where they end -/
def steps (bs : List UInt8) : Nat → Option (List (List UInt8) × Nat)
  | 0 => some ([], 0)
  | k + 1 => match steps bs k with
    | some (l, a) => if (nextF bs a).2.2 = 0 then some (l ++ [(nextF bs a).1], (nextF bs a).2.1.toNat) else none
    | none => none
theorem steps_succ (bs : List UInt8) (k : Nat) (l : List (List UInt8)) (a : Nat) (h : steps bs k = some (l, a)) (he : (nextF bs a).2.2 = 0) : steps bs (k + 1) = some (l ++ [(nextF bs a).1], (nextF bs a).2.1.toNat) := by
  simp only [steps, h, if_pos he]
theorem steps_end (bs : List UInt8) (k : Nat) (l : List (List UInt8)) (a : Nat) (h : steps bs k = some (l, a)) (he : (nextF bs a).2.2 ≠ 0) : ∀ j, k < j → steps bs j = none := by
  intro j hj
  obtain ⟨d, rfl⟩ : ∃ d, j = k + 1 + d := ⟨j - (k + 1), by omega⟩
  clear hj
  induction d with
  | zero => simp only [Nat.add_zero, steps, h, if_neg he]
  | succ d ih => rw [← Nat.add_assoc]; simp only [steps, ih]
theorem steps_le (bs : List UInt8) : ∀ (k : Nat) (l : List (List UInt8)) (a : Nat), steps bs k = some (l, a) → a ≤ bs.length ∧ 8 * k ≤ a ∧ l.length = k
  | 0, l, a, h => by simp [steps] at h; obtain ⟨rfl, rfl⟩ := h; simp
  | k + 1, l, a, h => by
    simp only [steps] at h
    rcases hs : steps bs k with _ | ⟨l', a'⟩
    · rw [hs] at h; cases h
    · rw [hs] at h
      simp only at h
      by_cases he : (nextF bs a').2.2 = 0
      · rw [if_pos he] at h
        have hok := nextF_ok bs a' he
        have ih := steps_le bs k l' a' hs
        injection h with h
        injection h with h1 h2
        subst h1
        rw [hok.1, Int.toNat_natCast] at h2
        subst h2
        simp
        omega
      · rw [if_neg he] at h; cases h
/-- l are the bodies of the intact frames from the beginning on, a the offset of the first one that is not -/
def Scanned (bs : List UInt8) (l : List (List UInt8)) (a : Nat) : Prop := (∃ k, steps bs k = some (l, a)) ∧ (nextF bs a).2.2 ≠ 0
theorem Scanned.unique {bs : List UInt8} {l l' : List (List UInt8)} {a a' : Nat} (h : Scanned bs l a) (h' : Scanned bs l' a') : l = l' ∧ a = a' := by
  obtain ⟨⟨k, hk⟩, he⟩ := h
  obtain ⟨⟨k', hk'⟩, he'⟩ := h'
  rcases Nat.lt_trichotomy k k' with hlt | rfl | hlt
  · rw [steps_end bs k l a hk he k' hlt] at hk'; cases hk'
  · rw [hk] at hk'; injection hk' with h1; injection h1 with h1 h2; exact ⟨h1, h2⟩
  · rw [steps_end bs k' l' a' hk' he' k hlt] at hk; cases hk

/-! ### Slices of slices of bytes -/
/-- the slice value '.slice A n c' holds slices that hold the bytes l, all below block B -/
structure Lists (w : World) (B : Nat) (A : Option Addr) (n : Nat) (l : List (List UInt8)) : Prop where
  len : l.length = n
  at_ : 0 < n → ∃ b off, A = some ⟨b, off, none⟩ ∧ b < B ∧ ∀ (j : Nat) (h : j < l.length), ∃ A' c', w.cell? ⟨b, off + j, none⟩ = some (.slice A' l[j].length c') ∧ l[j].length ≤ c' ∧ Bytes w B A' l[j].length l[j]
theorem Lists.nil (w : World) (B : Nat) (A : Option Addr) : Lists w B A 0 [] := ⟨rfl, fun h => absurd h (by omega)⟩
theorem Lists.keep {w w' : World} {B n : Nat} {A : Option Addr} {l : List (List UInt8)} (h : Lists w B A n l) (hk : ∀ p : Addr, p.block < B → w'.cell? p = w.cell? p) : Lists w' B A n l :=
  ⟨h.len, fun hn => by
    obtain ⟨b, off, e, hb, hc⟩ := h.at_ hn
    refine ⟨b, off, e, hb, fun j hj => ?_⟩
    obtain ⟨A', c', h1, h2, h3⟩ := hc j hj
    exact ⟨A', c', (hk _ hb).trans h1, h2, h3.keep hk⟩⟩
theorem Lists.more {w : World} {B B' n : Nat} {A : Option Addr} {l : List (List UInt8)} (h : Lists w B A n l) (hB : B ≤ B') : Lists w B' A n l :=
  ⟨h.len, fun hn => by
    obtain ⟨b, off, e, hb, hc⟩ := h.at_ hn
    refine ⟨b, off, e, by omega, fun j hj => ?_⟩
    obtain ⟨A', c', h1, h2, h3⟩ := hc j hj
    exact ⟨A', c', h1, h2, h3.more hB⟩⟩
theorem Lists.below {w w' : World} {B n : Nat} {A : Option Addr} {l : List (List UInt8)} (h : Lists w B A n l) (hb : Below B w w') : Lists w' B A n l := h.keep fun _ hp => hb.cell hp

theorem info_bytes : (Try.prog.info? 22).map (fun i => (i.zero, i.size, i.bytes)) = some (some (.slice none 0 0), 1, 24) := by kernel_rfl

/-- v is a slice of the call's own whose elements are the slices vs; these hold the bytes l and lie in other blocks of the call's own -/
def OwnE (w : World) (base : Nat) (row : Option Nat) (vs : List Value) (l : List (List UInt8)) : Prop :=
  ∀ (j : Nat) (h : j < l.length), ∃ A c, vs[j]? = some (.slice A l[j].length c) ∧ l[j].length ≤ c ∧ Bytes w w.heap.size A l[j].length l[j] ∧ (0 < l[j].length → ∀ ad, A = some ad → base ≤ ad.block ∧ row ≠ some ad.block)
def OwnL (w : World) (base : Nat) (v : Value) (l : List (List UInt8)) : Prop :=
  ∃ vs : List Value, w.ownsRow base 22 1 v l.length vs ∧ (∀ u ∈ vs, u.oneCell' = true) ∧ OwnE w base v.ownBlock vs l
theorem OwnL.nil (w : World) (base : Nat) : OwnL w base (.slice none 0 0) [] := ⟨[], ⟨rfl, .inl ⟨rfl, rfl⟩⟩, (fun u h => nomatch h), fun j h => absurd h (Nat.not_lt_zero _)⟩
theorem OwnL.form {w : World} {base : Nat} {v : Value} {l : List (List UInt8)} (h : OwnL w base v l) : ∃ A c, v = .slice A l.length c ∧ l.length ≤ c ∧ Lists w w.heap.size A l.length l := by
  obtain ⟨vs, ho, h1, hc⟩ := h
  rcases ho.2 with ⟨rfl, hl⟩ | ⟨g, cap, cur, rfl, hb, hh, hnc, hcm, hcs, ht⟩
  · obtain rfl : l = [] := List.eq_nil_of_length_eq_zero hl
    exact ⟨none, 0, rfl, Nat.le_refl _, Lists.nil _ _ _⟩
  · refine ⟨_, cap, rfl, hnc, rfl, fun hp => ⟨g, 0, rfl, ?_, fun j hj => ?_⟩⟩
    · rcases Nat.lt_or_ge g w.heap.size with h | h
      · exact h
      · rw [Array.getElem?_eq_none h] at hh; cases hh
    · obtain ⟨A, c, hv, hlc, hby, _⟩ := hc j hj
      refine ⟨A, c, ?_, hlc, hby⟩
      rw [Nat.zero_add, cell_of_row w g j _ _ (0, 0) hh]
      rw [← ht, List.getElem?_take, if_pos (by omega)] at hv
      simpa using hv
/-- nothing that was there has changed -/
theorem OwnL.below {w w' : World} {base : Nat} {v : Value} {l : List (List UInt8)} (h : OwnL w base v l) (hb : Below w.heap.size w w') : OwnL w' base v l := by
  obtain ⟨vs, ho, h1, hc⟩ := h
  have hg : w.grownBy w' none := ⟨hb.os, hb.tape, hb.output, hb.size, fun i hi _ => hb.block i hi⟩
  refine ⟨vs, ho.kept hg ?_, h1, fun j hj => ?_⟩
  · rcases hv : v.ownBlock with _ | x
    · exact .inl rfl
    · exact .inr (by simp)
  · obtain ⟨A, c, e, hlc, hby, hd⟩ := hc j hj
    exact ⟨A, c, e, hlc, (hby.below hb).more hb.size, hd⟩
/-- one body more -/
theorem OwnL.snoc {w w' : World} {base : Nat} {v v' : Value} {l : List (List UInt8)} {A : Option Addr} {c : Nat} {body : List UInt8} {vs : List Value}
    (hc : OwnE w base v.ownBlock vs l) (hlv : vs.length = l.length) (h1 : ∀ u ∈ vs, u.oneCell' = true)
    (hA : Bytes w w.heap.size A body.length body) (hlc : body.length ≤ c) (hf : 0 < body.length → ∀ ad, A = some ad → base ≤ ad.block ∧ v.ownBlock ≠ some ad.block)
    (ho : w'.ownsRow base 22 1 v' (l.length + 1) (vs ++ [.slice A body.length c])) (hg : w.grownBy w' v.ownBlock) (hat : v'.ownBlock = v.ownBlock ∨ v'.ownBlock = some w.heap.size) : OwnL w' base v' (l ++ [body]) := by
  have keep : ∀ (A0 : Option Addr) (bs : List UInt8), (0 < bs.length → ∀ ad, A0 = some ad → base ≤ ad.block ∧ v.ownBlock ≠ some ad.block) → Bytes w w.heap.size A0 bs.length bs →
      Bytes w' w'.heap.size A0 bs.length bs ∧ (0 < bs.length → ∀ ad, A0 = some ad → base ≤ ad.block ∧ v'.ownBlock ≠ some ad.block) := by
    intro A0 bs hne hby
    refine ⟨⟨hby.len, fun hp => ?_⟩, fun hp ad e => ⟨(hne hp ad e).1, ?_⟩⟩
    · obtain ⟨b, off, e, hb, hcell⟩ := hby.at_ hp
      refine ⟨b, off, e, Nat.lt_of_lt_of_le hb hg.size, fun j hj => ?_⟩
      rw [← hcell j hj]
      exact World.cell?_of_block (hg.block b hb (fun e2 => (hne hp _ e).2 e2.symm))
    · obtain ⟨b, off, e', hb, _⟩ := hby.at_ hp
      rw [e] at e'
      cases e'
      rcases hat with hh | hh
      · rw [hh]; exact (hne hp _ e).2
      · rw [hh]
        intro h3
        injection h3 with h3
        simp only at h3
        omega
  refine ⟨vs ++ [.slice A body.length c], by simpa using ho, ?_, fun j hj => ?_⟩
  · intro u hu
    rcases List.mem_append.1 hu with h | h
    · exact h1 u h
    · obtain rfl := List.mem_singleton.1 h; rfl
  · by_cases hjl : j < l.length
    · obtain ⟨A0, c0, e, hl0, hby, hd⟩ := hc j hjl
      have e1 : (l ++ [body])[j] = l[j] := List.getElem_append_left hjl
      simp only [e1]
      obtain ⟨k1, k2⟩ := keep A0 _ hd hby
      exact ⟨A0, c0, by rw [List.getElem?_append_left (by omega)]; exact e, hl0, k1, k2⟩
    · have hje : j = l.length := by simp at hj; omega
      subst hje
      have e1 : (l ++ [body])[l.length] = body := by simp
      simp only [e1]
      obtain ⟨k1, k2⟩ := keep A _ hf hA
      exact ⟨A, c, by rw [List.getElem?_append_right (by omega), hlv]; simp, hlc, k1, k2⟩
end Go.Proofs.Ytfmjlkgbaanlhaa
