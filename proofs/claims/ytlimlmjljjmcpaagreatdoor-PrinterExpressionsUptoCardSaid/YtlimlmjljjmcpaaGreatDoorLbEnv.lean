/-
  What the library's variables hold; strconv.Itoa; slices that a walk owns.
-/
import Derived.Test.YtlimlmjljjmcpaaGreatDoorLbQuote
import Derived.Test.YtlimlmjljjmcpaaGreatDoorLrM
import Derived.Test.YtlimlmjljjmcpaaGreatDoorShelf2
import Derived.WalkSmall
namespace Go.Proofs.YtlimlmjljjmcpaaGreatDoor
open Go.RowKit
set_option linter.unusedVariables false
set_option linter.unusedSimpArgs false

/-- what the library's variables hold -/
structure Env (w : World) : Prop where
  tab : Tab w
  pow : Lib.TabIs Tryz.prog w "internal/strconv.uint64pow10" .u64 Lib.pow10Tab
  maxl : ∃ m, w.cell? ⟨0, 0, none⟩ = some (.int .i64 m)
theorem gPow : Tryz.prog.globalNamed "internal/strconv.uint64pow10" = some 1 := by kernel_rfl
theorem lt_of_cell {w : World} {b o : Nat} {v : Value} (h : w.cell? ⟨b, o, none⟩ = some v) : b < w.heap.size := by
  rcases Nat.lt_or_ge b w.heap.size with hlt | hge
  · exact hlt
  · simp [World.cell?, Array.getElem?_eq_none hge] at h
theorem Env.below {w w' : World} (h : Env w) (hb : Below w.heap.size w w') : Env w' := by
  refine ⟨h.tab.below hb, ?_, ?_⟩
  · have hc := h.pow.cell gPow 0 (by decide)
    exact var?_below hb gPow (lt_of_cell hc) h.pow
  · obtain ⟨m, hm⟩ := h.maxl
    exact ⟨m, (hb.cell (p := ⟨_, 0, none⟩) (lt_of_cell hm)).trans hm⟩
theorem Env.alloc {w : World} (h : Env w) (o : Obj) : Env (w.alloc o) := h.below ((Below.refl _ _).alloc (Nat.le_refl _) _)
theorem dec_len (n : Nat) : ∀ k, n < 10 ^ (k + 1) → (Lib.decDigits n).length ≤ k + 1 := by
  induction n using Nat.strongRecOn with
  | ind n ih =>
    intro k hk
    unfold Lib.decDigits
    split
    · simp
    · rename_i h
      rcases k with _ | k
      · simp at hk; omega
      · have := ih (n / 10) (by omega) k (by rw [Nat.pow_succ] at hk; omega)
        simp
        omega
theorem below_grow (w : World) (k : Nat) (os : Array Obj) : Below w.heap.size w (Go.Sort.grow (w.drewN k) os) := by
  refine ⟨rfl, rfl, rfl, ?_, fun i hi => ?_⟩
  · simp [Go.Sort.grow, World.drewN]
  · simp only [Go.Sort.grow]
    exact Array.getElem?_append_left hi
theorem itoa_call (n : Nat) (w : World) (hn : n ≤ 1125899906842624) (h : Env w) : Calls Tryz.prog 119 #[.int .i64 (n : Int)] w fun e w' => e = .returned (.string ⟨(Lib.decDigits n).toArray⟩) ∧ Below w.heap.size w w' :=
  (Tryz.strconv_Itoa (n : Int) (by omega) (by omega) w h.pow).mono fun e w' ⟨h1, k, os, h2⟩ => by
    refine ⟨?_, ?_⟩
    · rw [h1]
      have : Lib.itoa (n : Int) = Lib.decDigits n := by unfold Lib.itoa; rw [if_neg (by omega)]; rfl
      rw [this]
    · rw [h2]
      exact below_grow w k os
theorem cell_lit1' (w : World) (u : Value) (e : TypeId) (n : Nat) (hn : w.heap.size = n) : ∀ j x, [u][j]? = some x → (w.alloc (.cells #[u] e)).cell? ((⟨n, 0, none⟩ : Addr).add j) = some x := by
  subst hn
  exact cell_lit1 w u e
theorem own_cap {w : World} {base : Nat} {e : TypeId} {size n m c : Nat} {A : Option Addr} {xs : List Value} (h : w.ownsRow base e size (.slice A m c) n xs) : n ≤ c := by
  rcases h.2 with ⟨h0, h1⟩ | ⟨g, cap, cur, hv, _, _, hc, _⟩
  · omega
  · injection hv with _ _ e3; omega
theorem kept_below {w w' : World} {base : Nat} {e : TypeId} {size n : Nat} {v : Value} {xs : List Value} (h : w.ownsRow base e size v n xs) (hb : Below w.heap.size w w') : w'.ownsRow base e size v n xs :=
  h.kept (w' := w') (row := none) ⟨hb.os, hb.tape, hb.output, hb.size, fun i hi _ => hb.block i hi⟩ (by rcases v.ownBlock with _ | g; exact .inl rfl; exact .inr (by simp))
theorem kept_old {B : Nat} {w w' : World} {base : Nat} {e : TypeId} {size n : Nat} {v : Value} {xs : List Value} (h : w.ownsRow base e size v n xs) (hb : Below w.heap.size w w') : w'.ownsRow base e size v n xs := kept_below h hb
end Go.Proofs.YtlimlmjljjmcpaaGreatDoor
