/-
  The reference's Upper, Words and Word.
-/
import Derived.Test.YtlbmamcchomecaaDoorLxPos
import Derived.Deep.RegionHeld3
import Derived.Laws.IdiomStrings
namespace Go.Proofs.YtlbmamcchomecaaDoor
open Go.RowKit
set_option linter.unusedVariables false
set_option linter.unusedSimpArgs false

theorem info_u8 : (Tryd.prog.info? 5).map (fun i => (i.zero, i.size, i.bytes)) = some (some (.int .u8 0), 1, 1) := by kernel_rfl
theorem info_str : (Tryd.prog.info? 9).map (fun i => (i.zero, i.size, i.bytes)) = some (some (.string ⟨#[]⟩), 1, 16) := by kernel_rfl
theorem cell_lit1 (w : World) (u : Value) (e : TypeId) : ∀ j x, [u][j]? = some x → (w.alloc (.cells #[u] e)).cell? ((⟨w.heap.size, 0, none⟩ : Addr).add j) = some x := by
  intro j x hx
  have e1 : (⟨w.heap.size, 0, none⟩ : Addr).add j = ⟨w.heap.size, j, none⟩ := by unfold Addr.add; split <;> simp_all
  rw [e1, cell_of_row _ w.heap.size j _ e (0, 0) (heap_alloc_new w _)]
  simpa using hx
theorem own_empty (w : World) (e : TypeId) (base : Nat) (hb : base ≤ w.heap.size) : (w.alloc (.cells #[] e)).ownsRow base e 1 (.slice (some ⟨w.heap.size, 0, none⟩) 0 0) 0 [] :=
  ⟨by simp, .inr ⟨w.heap.size, 0, #[], rfl, hb, heap_alloc_new w _, Nat.le_refl _, by unfold maxLen; omega, by simp, by simp⟩⟩
theorem upC_yes {c : UInt8} (h : 97 ≤ c.toNat ∧ c.toNat ≤ 122) : ((upC c).toNat : Int) = (c.toNat : Int) - 97 + 65 := by
  unfold upC
  rw [if_pos h, UInt8.toNat_ofNat_of_lt' (by show _ < 256; omega)]
  omega
theorem upC_no {c : UInt8} (h : ¬ (97 ≤ c.toNat ∧ c.toNat ≤ 122)) : upC c = c := by unfold upC; rw [if_neg h]
theorem upL_snoc (l : List UInt8) (c : UInt8) : upL (l ++ [c]) = upL l ++ [upC c] := by simp [upL]
def UpRel (w : World) (s : ByteArray) (v i : Value) (wr : World) : Prop :=
  ∃ k : Nat, k ≤ s.size ∧ i = .int .i64 k ∧ wr.ownsRow w.heap.size 5 1 v k (Lib.byteCells (upL (s.data.toList.take k))) ∧ Below w.heap.size w wr
def StrPost (w : World) (l : List UInt8) (e : Ending) (w' : World) : Prop := e = .returned (.string ⟨l.toArray⟩) ∧ Below w.heap.size w w'
set_option maxRecDepth 100000 in
theorem own_bytes {w : World} {base : Nat} {A : Option Addr} {n c : Nat} {l : List UInt8} (h : w.ownsRow base 5 1 (.slice A n c) n (Lib.byteCells l)) :
    (convert 52 9 (.slice A n c)).run Tryd.prog w = .ok (.string ⟨l.toArray⟩) w := by
  have hl : l.length = n := by have := h.1; rw [Lib.byteCells_length] at this; omega
  rcases h.2 with ⟨h0, h1⟩ | ⟨g, cap, cur, hv, _⟩
  · subst h1
    obtain rfl : l = [] := List.eq_nil_of_length_eq_zero hl
    injection h0 with a b d
    subst a d
    rw [run_convert_bytes_string w _ _ 5 none 0 0 Tryd.underlying52 Tryd.underlying5 Tryd.underlying9]
    rfl
  · injection hv with a b d
    subst a
    subst hl
    refine run_convert_bytes_back w _ _ 5 _ c l Tryd.underlying52 Tryd.underlying5 Tryd.underlying9 ?_
    intro j hj
    exact h.cells (g := g) rfl j _ (by simp [Lib.byteCells, hj])
set_option maxHeartbeats 1000000 in
set_option maxRecDepth 100000 in
theorem upper_ref (s : ByteArray) (w : World) (hs : s.size ≤ 140737488351232) : Calls Tryd.prog 29 #[.string s] w (StrPost w (upL s.data.toList)) := by
  obtain ⟨i0, hi0, hz0, hz1, hz2⟩ := info_parts info_u8
  go_enter Tryd.func29, Tryd.ntmps29
  go_wp2_with fail
  go_loopw [3, 4] (fun v i wr => UpRel w s v i wr) (fun _ i _ => s.size - (intOf i).toNat)
  case atStart => exact ⟨0, Nat.zero_le _, rfl, own_empty w _ _ (Nat.le_refl _), (Below.refl _ _).alloc (Nat.le_refl _) _⟩
  case round =>
    obtain ⟨k, hk, rfl, ho, hb⟩ := hrel
    by_cases hlt : k < s.size
    · have HS := Lib.hid (show upL (s.data.toList.take (k + 1)) = upL (s.data.toList.take k) ++ [upC s[k]] by rw [take_snoc s k hlt, upL_snoc])
      have hc8 : s[k].toNat < 256 := s[k].toNat_lt
      have hlt2 : ∀ g, u3.ownBlock = some g → w.heap.size ≤ g := fun g e => (ho.lt g e).1
      by_cases hc : 97 ≤ s[k].toNat ∧ s[k].toNat ≤ 122
      · have HU := Lib.hid (upC_yes hc)
        obtain ⟨hc1, hc2⟩ := hc
        have c1 : (97 : Int) ≤ (s[k].toNat : Int) := by omega
        have c2 : (s[k].toNat : Int) ≤ 122 := by omega
        go_wp2_with (at_builtin; refine wpList_append_own_at _ rfl (.tmp 25) (.tmp 27) 52 rfl w.heap.size 5 i0 _ 1 1 Tryd.underlying52 hi0 hz0 hz1 hz2 rfl (by omega) u3 k _ rfl (ho.alloc _) ⟨wr.heap.size, 0, none⟩ 1 1 [.int .u8 ((s[k].toNat : Int) - 97 + 65)] rfl rfl (cell_lit1 _ _ _) ?one ?c3 ?c4 ?c5 ?_)
        case one => intro u hu; obtain rfl := List.mem_singleton.1 hu; rfl
        case c3 => unfold maxLen; omega
        case c4 => omega
        case c5 => exact Nat.le_trans hb.size (by simp)
        intro v3 w3 hown3 hg3 _ hat3
        have hb3 : Below w.heap.size w w3 := (hb.alloc hb.size _).grown hg3 (Nat.le_trans hb.size (by simp)) hlt2
        have HO3 : Hid (w3.ownsRow w.heap.size 5 1 v3 (k + 1) (Lib.byteCells (upL (s.data.toList.take (k + 1))))) := Lib.hid (by rw [HS.out, byteCells_snoc, HU.out]; exact hown3)
        clear hown3 hg3 hat3
        go_wp2_with fail
        go_roundw
        case rel => exact ⟨k + 1, by omega, by go_num, HO3.out, hb3⟩
        case measure => simp [intOf]; omega
      · have HU := Lib.hid (upC_no hc)
        have cc : (s[k].toNat : Int) < 97 ∨ (97 ≤ (s[k].toNat : Int) ∧ 122 < (s[k].toNat : Int)) := by omega
        clear hc
        rcases cc with c1 | ⟨c1, c2⟩
        all_goals
          go_wp2_with (at_builtin; refine wpList_append_own_at _ rfl (.tmp 25) (.tmp 27) 52 rfl w.heap.size 5 i0 _ 1 1 Tryd.underlying52 hi0 hz0 hz1 hz2 rfl (by omega) u3 k _ rfl (ho.alloc _) ⟨wr.heap.size, 0, none⟩ 1 1 [.int .u8 (s[k].toNat : Int)] rfl rfl (cell_lit1 _ _ _) (fun u hu => by obtain rfl := List.mem_singleton.1 hu; rfl) (by unfold maxLen; omega) (by omega) (Nat.le_trans hb.size (by simp)) ?_)
          intro v3 w3 hown3 hg3 _ hat3
          have hb3 : Below w.heap.size w w3 := (hb.alloc hb.size _).grown hg3 (Nat.le_trans hb.size (by simp)) hlt2
          have HO3 : Hid (w3.ownsRow w.heap.size 5 1 v3 (k + 1) (Lib.byteCells (upL (s.data.toList.take (k + 1))))) := Lib.hid (by rw [HS.out, byteCells_snoc, HU.out]; exact hown3)
          clear hown3 hg3 hat3
          go_wp2_with fail
          go_roundw
          case rel => exact ⟨k + 1, by omega, by go_num, HO3.out, hb3⟩
          case measure => simp [intOf]; omega
    · obtain rfl : k = s.size := by omega
      have ho2 : wr.ownsRow w.heap.size 5 1 u3 s.size (Lib.byteCells (upL s.data.toList)) := by have := ho; rw [take_all] at this; exact this
      obtain ⟨A, n, cp, rfl⟩ := own_slice ho2
      obtain rfl := own_len ho2
      have hcv := own_bytes ho2
      clear ho ho2
      go_wp2_with fail
      go_ret
      exact ⟨rfl, hb⟩
end Go.Proofs.YtlbmamcchomecaaDoor
