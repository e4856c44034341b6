/-
  lexer.Tokens: the tokens, or the place and the code of the first error.
-/
import Derived.Test.YtpmncgbpbcgfaaaGreatDoorLxAll
import Derived.Defers
import Derived.Recover
import Derived.RegionTactic
namespace Go.Proofs.YtpmncgbpbcgfaaaGreatDoor
open Go.RowKit
set_option linter.unusedVariables false
set_option linter.unusedSimpArgs false

theorem assert_fail (v : Value) (w : World) : (Instr.typeAssert (.iface 118 v) 20 118 true).run Tryz.prog w = .ok (.tuple #[v, .bool true]) w := by
  simp [Instr.typeAssert, run_underlying Tryz.underlying118]
/-- what the deferred function leaves where it caught a failure -/
def Caught (w : World) (p i c : Nat) (w' : World) : Prop :=
  w'.cell? ⟨p, 0, none⟩ = some (.slice none 0 0) ∧ w'.cell? ⟨p + 1, 0, none⟩ = some (.int .i64 (i : Int)) ∧ w'.cell? ⟨p + 2, 0, none⟩ = some (.int .i64 (c : Int)) ∧ Below p w w'
theorem caught_mk {w w1 : World} {p i c : Nat} {v0 v1 v2 : Value} (k0 : w1.cell? ⟨p, 0, none⟩ = some v0) (k1 : w1.cell? ⟨p + 1, 0, none⟩ = some v1) (k2 : w1.cell? ⟨p + 2, 0, none⟩ = some v2) (hb : Below p w w1) :
    Caught w p i c ((((w1.setCell ⟨p, 0, none⟩ (.slice none 0 0)).setCell ⟨p + 1, 0, none⟩ (.int .i64 (i : Int))).setCell ⟨p + 2, 0, none⟩ (.int .i64 (c : Int))).drew) := by
  have a01 : (⟨p + 1, 0, none⟩ : Addr) ≠ ⟨p, 0, none⟩ := by simp
  have a02 : (⟨p + 2, 0, none⟩ : Addr) ≠ ⟨p, 0, none⟩ := by simp
  have a12 : (⟨p + 2, 0, none⟩ : Addr) ≠ ⟨p + 1, 0, none⟩ := by simp
  have b1 : (w1.setCell ⟨p, 0, none⟩ (.slice none 0 0)).cell? ⟨p + 1, 0, none⟩ = some v1 := (World.cell?_setCell_other _ _ _ _ (Ne.symm a01)).trans k1
  have b2 : ((w1.setCell ⟨p, 0, none⟩ (.slice none 0 0)).setCell ⟨p + 1, 0, none⟩ (.int .i64 (i : Int))).cell? ⟨p + 2, 0, none⟩ = some v2 := (World.cell?_setCell_other _ _ _ _ (Ne.symm a12)).trans ((World.cell?_setCell_other _ _ _ _ (Ne.symm a02)).trans k2)
  refine ⟨?_, ?_, ?_, ?_⟩
  · exact (World.cell?_setCell_other _ _ _ _ a02).trans ((World.cell?_setCell_other _ _ _ _ a01).trans (World.cell?_setCell_same _ _ _ k0))
  · exact (World.cell?_setCell_other _ _ _ _ a12).trans (World.cell?_setCell_same _ _ _ b1)
  · exact World.cell?_setCell_same _ _ _ b2
  · exact (((hb.setCell (Nat.le_refl _) _).setCell (by show p ≤ p + 1; omega) _).setCell (by show p ≤ p + 2; omega) _).drew
theorem frame21 (a b c x : Value) : (#[a, b, c] ++ ((Array.replicate 18 undef).setIfInBounds 3 x).setIfInBounds 0 x : Array Value) = #[a, b, c, x, undef, undef, x, undef, undef, undef, undef, undef, undef, undef, undef, undef, undef, undef, undef, undef, undef] := by
  apply Array.ext'
  simp [List.replicate]
set_option maxHeartbeats 1000000 in
set_option maxRecDepth 100000 in
theorem catch_panicking (p : Nat) (v0 v1 v2 : Value) (i c : Nat) (w : World) (k0 : w.cell? ⟨p, 0, none⟩ = some v0) (k1 : w.cell? ⟨p + 1, 0, none⟩ = some v1) (k2 : w.cell? ⟨p + 2, 0, none⟩ = some v2)
    (z0 : w.frozen? ⟨p, 0, none⟩ = false) (z1 : w.frozen? ⟨p + 1, 0, none⟩ = false) (z2 : w.frozen? ⟨p + 2, 0, none⟩ = false) (hp : p + 2 < w.heap.size) :
    CallsD Tryz.prog 44 #[.pointer (some ⟨p, 0, none⟩), .pointer (some ⟨p + 1, 0, none⟩), .pointer (some ⟨p + 2, 0, none⟩)] (.panicking [{ v := failV i c, recovered := false }]) w fun e u' w' =>
      e = .returned (.tuple #[]) ∧ u' = .panicking [{ v := failV i c, recovered := true }] ∧ Caught w p i c w' := by
  unfold failV
  have hta := assert_fail
  have hnot : ∀ (x : Bool) (w : World), (Op.unary .not (.bool x)).run Tryz.prog w = .ok (.bool (!x)) w := fun _ _ => rfl
  refine callsD_of_wpS Tryz.func44 rfl fun c₀ cs hu => ?_
  apply wpS_seq
  apply wpS_region
  simp [wpOpsS, go_sem, recoverD, hu, Tryz.ntmps44, Exit.thenS]
  rw [frame21]
  refine wpS_of_wp ?_
  go_wp2_with fail
  have g0 : (w.alloc (.cells #[.int .i64 (i : Int), .int .i64 (c : Int)] 118)).cell? ⟨w.heap.size, 0, none⟩ = some (.int .i64 (i : Int)) := by rw [cell_of_row _ w.heap.size 0 _ _ (0, 0) (heap_alloc_new w _)]; rfl
  have g1 : (w.alloc (.cells #[.int .i64 (i : Int), .int .i64 (c : Int)] 118)).cell? ⟨w.heap.size, 1, none⟩ = some (.int .i64 (c : Int)) := by rw [cell_of_row _ w.heap.size 1 _ _ (0, 0) (heap_alloc_new w _)]; rfl
  have hb1 : Below p w (w.alloc (.cells #[.int .i64 (i : Int), .int .i64 (c : Int)] 118)) := (Below.refl _ _).alloc (by omega) _
  replace k0 := (World.cell?_alloc_lt w (.cells #[.int .i64 (i : Int), .int .i64 (c : Int)] 118) ⟨p, 0, none⟩ (by show p < _; omega)).trans k0
  replace k1 := (World.cell?_alloc_lt w (.cells #[.int .i64 (i : Int), .int .i64 (c : Int)] 118) ⟨p + 1, 0, none⟩ (by show p + 1 < _; omega)).trans k1
  replace k2 := (World.cell?_alloc_lt w (.cells #[.int .i64 (i : Int), .int .i64 (c : Int)] 118) ⟨p + 2, 0, none⟩ (by show p + 2 < _; omega)).trans k2
  have hz : ∀ q, q < w.heap.size → (w.alloc (.cells #[.int .i64 (i : Int), .int .i64 (c : Int)] 118)).frozen? ⟨q, 0, none⟩ = w.frozen? ⟨q, 0, none⟩ := fun q hq => by unfold World.frozen?; rw [Below.heap_alloc w _ q hq]
  replace z0 := (hz p (by omega)).trans z0
  replace z1 := (hz (p + 1) (by omega)).trans z1
  replace z2 := (hz (p + 2) (by omega)).trans z2
  have n0 : ¬ p = w.heap.size := by omega
  have n1 : ¬ p + 1 = w.heap.size := by omega
  have n2 : ¬ p + 2 = w.heap.size := by omega
  have m0 : ¬ w.heap.size = p := by omega
  have m1 : ¬ w.heap.size = p + 1 := by omega
  have m2 : ¬ w.heap.size = p + 2 := by omega
  clear hz hta hnot hp
  generalize w.heap.size = q at g0 g1 n0 n1 n2 m0 m1 m2 ⊢
  generalize w.alloc (.cells #[.int .i64 (i : Int), .int .i64 (c : Int)] 118) = w1 at g0 g1 hb1 k0 k1 k2 z0 z1 z2 ⊢
  go_region
  exact ⟨rfl, _, rfl, .tuple #[], by simp [results, Tryz.results44], rfl, rfl, caught_mk k0 k1 k2 hb1⟩
set_option maxHeartbeats 1000000 in
set_option maxRecDepth 100000 in
theorem catch_idle (p0 p1 p2 : Addr) (w : World) :
    CallsD Tryz.prog 44 #[.pointer (some p0), .pointer (some p1), .pointer (some p2)] .returning w fun e u' w' => e = .returned (.tuple #[]) ∧ u' = .returning ∧ w = w' := by
  refine callsD_of_wpS Tryz.func44 rfl fun c₀ cs hu => ?_
  apply wpS_seq
  apply wpS_region
  simp [wpOpsS, go_sem, recoverD, hu, Tryz.ntmps44, Exit.thenS]
  rw [frame21]
  refine wpS_of_wp ?_
  go_wp2_with fail
  refine ⟨rfl, .returning, ?_, .tuple #[], by simp [results, Tryz.results44], rfl, rfl, rfl⟩
  cases c₀
  simp_all
theorem below_of_grown {B b : Nat} {a w w' : World} (h : Below B a w) (hg : w.grownBy w' (some b)) (hb : B ≤ b) (hB : B ≤ w.heap.size) : Below B a w' :=
  h.grown hg hB (fun k e => by injection e with e; omega)
theorem own_base {w : World} {b b' : Nat} {e : TypeId} {size n : Nat} {v : Value} {xs : List Value} (h : w.ownsRow b e size v n xs) (hb : b' ≤ b) : w.ownsRow b' e size v n xs := by
  refine ⟨h.1, ?_⟩
  rcases h.2 with h0 | ⟨g, cap, cur, hv, hg, r⟩
  · exact .inl h0
  · exact .inr ⟨g, cap, cur, hv, Nat.le_trans hb hg, r⟩
theorem own_far {w : World} {b : Nat} {e : TypeId} {size n : Nat} {v : Value} {xs : List Value} (h : w.ownsRow b e size v n xs) {q : Nat} (hq : v.ownBlock ≠ some q) (j : Nat) (u : Value) : (w.setCell ⟨q, j, none⟩ u).ownsRow b e size v n xs := by
  refine ⟨h.1, ?_⟩
  rcases h.2 with h0 | ⟨g, cap, cur, rfl, hg, hh, r⟩
  · exact .inl h0
  · exact .inr ⟨g, cap, cur, rfl, hg, (Below.heap_setCell w _ u g (fun e => hq (by simp [Value.ownBlock, e]))).trans hh, r⟩
theorem own_slice {w : World} {b : Nat} {e : TypeId} {size n : Nat} {v : Value} {xs : List Value} (h : w.ownsRow b e size v n xs) : ∃ A m c, v = .slice A m c := by
  rcases h.2 with ⟨rfl, _⟩ | ⟨g, cap, cur, rfl, _⟩
  · exact ⟨_, _, _, rfl⟩
  · exact ⟨_, _, _, rfl⟩
theorem stored_mk {w w1 : World} {p : Nat} {v0 v1 v2 u0 u1 u2 : Value} (k0 : w1.cell? ⟨p, 0, none⟩ = some v0) (k1 : w1.cell? ⟨p + 1, 0, none⟩ = some v1) (k2 : w1.cell? ⟨p + 1 + 1, 0, none⟩ = some v2) (hb : Below p w w1) :
    (((w1.setCell ⟨p, 0, none⟩ u0).setCell ⟨p + 1, 0, none⟩ u1).setCell ⟨p + 1 + 1, 0, none⟩ u2).cell? ⟨p, 0, none⟩ = some u0 ∧ (((w1.setCell ⟨p, 0, none⟩ u0).setCell ⟨p + 1, 0, none⟩ u1).setCell ⟨p + 1 + 1, 0, none⟩ u2).cell? ⟨p + 1, 0, none⟩ = some u1 ∧
      (((w1.setCell ⟨p, 0, none⟩ u0).setCell ⟨p + 1, 0, none⟩ u1).setCell ⟨p + 1 + 1, 0, none⟩ u2).cell? ⟨p + 1 + 1, 0, none⟩ = some u2 ∧ Below p w (((w1.setCell ⟨p, 0, none⟩ u0).setCell ⟨p + 1, 0, none⟩ u1).setCell ⟨p + 1 + 1, 0, none⟩ u2) := by
  have a01 : (⟨p + 1, 0, none⟩ : Addr) ≠ ⟨p, 0, none⟩ := by simp
  have a02 : (⟨p + 1 + 1, 0, none⟩ : Addr) ≠ ⟨p, 0, none⟩ := by simp <;> omega
  have a12 : (⟨p + 1 + 1, 0, none⟩ : Addr) ≠ ⟨p + 1, 0, none⟩ := by simp
  have b1 : (w1.setCell ⟨p, 0, none⟩ u0).cell? ⟨p + 1, 0, none⟩ = some v1 := (World.cell?_setCell_other _ _ _ _ (Ne.symm a01)).trans k1
  have b2 : ((w1.setCell ⟨p, 0, none⟩ u0).setCell ⟨p + 1, 0, none⟩ u1).cell? ⟨p + 1 + 1, 0, none⟩ = some v2 := (World.cell?_setCell_other _ _ _ _ (Ne.symm a12)).trans ((World.cell?_setCell_other _ _ _ _ (Ne.symm a02)).trans k2)
  refine ⟨?_, ?_, ?_, ?_⟩
  · exact (World.cell?_setCell_other _ _ _ _ a02).trans ((World.cell?_setCell_other _ _ _ _ a01).trans (World.cell?_setCell_same _ _ _ k0))
  · exact (World.cell?_setCell_other _ _ _ _ a12).trans (World.cell?_setCell_same _ _ _ b1)
  · exact World.cell?_setCell_same _ _ _ b2
  · exact ((hb.setCell (Nat.le_refl _) _).setCell (by show p ≤ p + 1; omega) _).setCell (by show p ≤ p + 1 + 1; omega) _
theorem results_tok3 {fn : Func} (hr : fn.results = #[.cell 2 89, .cell 3 3, .cell 4 58]) (tmps : Array Value) {w : World} {p q r : Addr} {v0 v1 v2 : Value}
    (h2 : tmps.getD 2 undef = .pointer (some p)) (h3 : tmps.getD 3 undef = .pointer (some q)) (h4 : tmps.getD 4 undef = .pointer (some r)) (c0 : w.cell? p = some v0) (c1 : w.cell? q = some v1) (c2 : w.cell? r = some v2) :
    (results fn tmps).run Tryz.prog w = .ok (.tuple #[v0, v1, v2]) w := by
  have h2' : tmps[2]?.getD undef = .pointer (some p) := by rw [← h2, Array.getD_eq_getD_getElem?]
  have h3' : tmps[3]?.getD undef = .pointer (some q) := by rw [← h3, Array.getD_eq_getD_getElem?]
  have h4' : tmps[4]?.getD undef = .pointer (some r) := by rw [← h4, Array.getD_eq_getD_getElem?]
  simp only [results, hr]
  simp [h2', h3', h4', go_sem, c0, c1, c2]
/-- what lexer.Tokens returns -/
def TokOut (w : World) (e : Ending) (w' : World) : Res → Prop
  | .err i c => e = .returned (.tuple #[.slice none 0 0, .int .i64 (i : Int), .int .i64 (c : Int)]) ∧ Below w.heap.size w w'
  | .toks T => ∃ v, e = .returned (.tuple #[v, .int .i64 0, .int .i64 0]) ∧ w'.ownsRow w.heap.size 95 4 v T.length (T.flatMap tokL) ∧ Below w.heap.size w w'
/-- what a text comes to -/
def Comes_ (l : List UInt8) (r : Res) : Prop := (65536 < l.length ∧ r = .err 0 5) ∨ (l.length ≤ 65536 ∧ Lexes l 0 [] r)
def TokPost (w : World) (s : ByteArray) (e : Ending) (w' : World) : Prop := ∃ r, Comes_ s.data.toList r ∧ TokOut w e w' r
theorem size_list (s : ByteArray) : s.data.toList.length = s.size := by rw [Array.length_toList]; rfl
set_option maxHeartbeats 1000000 in
set_option maxRecDepth 100000 in
theorem tokens_long (s : ByteArray) (w : World) (hs : 65536 < s.size) : Calls Tryz.prog 29 #[.string s] w (TokPost w s) := by
  have h1 : (65536 : Int) < (s.size : Int) := by omega
  have HC := Lib.hid (show Comes_ s.data.toList (.err 0 5) from .inl ⟨by rw [size_list]; exact hs, rfl⟩)
  go_enter Tryz.func29, Tryz.ntmps29
  go_wp2_with fail
  exact bodyPost_ret (v := .tuple #[.slice none 0 0, .int .i64 0, .int .i64 5]) (by simp [results, Tryz.results29, go_sem]) rfl ⟨_, HC.out, rfl, (((Below.refl _ _).alloc (Nat.le_refl _) _).alloc (by simp) _).alloc (by simp; omega) _⟩
set_option maxHeartbeats 1000000 in
set_option maxRecDepth 100000 in
theorem tokens_short (s : ByteArray) (w : World) (ht : Tab w) (hs : s.size ≤ 65536) : Calls Tryz.prog 29 #[.string s] w (TokPost w s) := by
  have h1 : ¬ (65536 : Int) < (s.size : Int) := by omega
  have hmf : ∀ (fn : Fn) (first cap : Array Value) (w : World), (Instr.makeFunc fn first cap).run Tryz.prog w = .ok (.func fn first cap) w := fun _ _ _ _ => rfl
  have HT := Lib.hid ht
  clear ht
  go_enter_defers Tryz.func29, Tryz.ntmps29
  go_wp2_with fail
  have e0 : (w.alloc (.cells #[.slice none 0 0] 89)).heap.size = w.heap.size + 1 := by simp
  have e1 : ((w.alloc (.cells #[.slice none 0 0] 89)).alloc (.cells #[.int .i64 0] 3)).heap.size = w.heap.size + 1 + 1 := by simp
  have e2 : (((w.alloc (.cells #[.slice none 0 0] 89)).alloc (.cells #[.int .i64 0] 3)).alloc (.cells #[.int .i64 0] 58)).heap.size = w.heap.size + 1 + 1 + 1 := by simp
  have hB0 := heap_alloc_new w (.cells #[.slice none 0 0] 89)
  have hB1 := heap_alloc_new (w.alloc (.cells #[.slice none 0 0] 89)) (.cells #[.int .i64 0] 3)
  have hB2 := heap_alloc_new ((w.alloc (.cells #[.slice none 0 0] 89)).alloc (.cells #[.int .i64 0] 3)) (.cells #[.int .i64 0] 58)
  have hB3 := heap_alloc_new (((w.alloc (.cells #[.slice none 0 0] 89)).alloc (.cells #[.int .i64 0] 3)).alloc (.cells #[.int .i64 0] 58)) (.cells #[.string s, .int .i64 0] 122)
  rw [e0] at hB1
  rw [e1] at hB2
  rw [e2] at hB3
  replace hB0 := (Below.heap_alloc _ (.cells #[.string s, .int .i64 0] 122) _ (by rw [e2]; omega)).trans ((Below.heap_alloc _ (.cells #[.int .i64 0] 58) _ (by rw [e1]; omega)).trans ((Below.heap_alloc _ (.cells #[.int .i64 0] 3) _ (by rw [e0]; omega)).trans hB0))
  replace hB1 := (Below.heap_alloc _ (.cells #[.string s, .int .i64 0] 122) _ (by rw [e2]; omega)).trans ((Below.heap_alloc _ (.cells #[.int .i64 0] 58) _ (by rw [e1]; omega)).trans hB1)
  replace hB2 := (Below.heap_alloc _ (.cells #[.string s, .int .i64 0] 122) _ (by rw [e2]; omega)).trans hB2
  have hSc : Sc ((((w.alloc (.cells #[.slice none 0 0] 89)).alloc (.cells #[.int .i64 0] 3)).alloc (.cells #[.int .i64 0] 58)).alloc (.cells #[.string s, .int .i64 0] 122)) (w.heap.size + 1 + 1 + 1) s 0 := hB3
  have hTb := (((HT.out.alloc (.cells #[.slice none 0 0] 89)).alloc (.cells #[.int .i64 0] 3)).alloc (.cells #[.int .i64 0] 58)).alloc (.cells #[.string s, .int .i64 0] 122)
  have hbW : Below w.heap.size w ((((w.alloc (.cells #[.slice none 0 0] 89)).alloc (.cells #[.int .i64 0] 3)).alloc (.cells #[.int .i64 0] 58)).alloc (.cells #[.string s, .int .i64 0] 122)) := ((((Below.refl _ _).alloc (Nat.le_refl _) _).alloc (by simp) _).alloc (by simp; omega) _).alloc (by simp; omega) _
  have hsW : w.heap.size + 1 + 1 + 1 < ((((w.alloc (.cells #[.slice none 0 0] 89)).alloc (.cells #[.int .i64 0] 3)).alloc (.cells #[.int .i64 0] 58)).alloc (.cells #[.string s, .int .i64 0] 122)).heap.size := by simp
  clear e0 e1 e2 hB3
  generalize ((((w.alloc (.cells #[.slice none 0 0] 89)).alloc (.cells #[.int .i64 0] 3)).alloc (.cells #[.int .i64 0] 58)).alloc (.cells #[.string s, .int .i64 0] 122)) = W at hB0 hB1 hB2 hSc hTb hbW hsW ⊢
  refine (scan_all (w.heap.size + 1 + 1 + 1) s 0 W hSc hTb (by omega) hs).mono ?_
  rintro e w1 ⟨r, hlx, hout⟩
  have HC := Lib.hid (show Comes_ s.data.toList r from .inr ⟨by rw [size_list]; exact hs, hlx⟩)
  clear hlx HT hSc hTb
  rcases r with ⟨i, c⟩ | T
  · obtain ⟨rfl, hg⟩ := hout
    have hC0 := (hg.block _ (by omega) (by simp <;> omega)).trans hB0
    have hC1 := (hg.block _ (by omega) (by simp <;> omega)).trans hB1
    have hC2 := (hg.block _ (by omega) (by simp <;> omega)).trans hB2
    have hbW1 := below_of_grown hbW hg (by omega) (by omega)
    have hsz := hg.size
    clear hB0 hB1 hB2 hbW hg
    have k0 := (cell_of_row w1 w.heap.size 0 _ _ (0, 0) hC0)
    have k1 := (cell_of_row w1 (w.heap.size + 1) 0 _ _ (0, 0) hC1)
    have k2 := (cell_of_row w1 (w.heap.size + 1 + 1) 0 _ _ (0, 0) hC2)
    simp only [List.getElem?_toArray, List.getElem?_cons_zero] at k0 k1 k2
    have z0 : w1.frozen? ⟨w.heap.size, 0, none⟩ = false := by simp [World.frozen?, hC0]
    have z1 : w1.frozen? ⟨w.heap.size + 1, 0, none⟩ = false := by simp [World.frozen?, hC1]
    have z2 : w1.frozen? ⟨w.heap.size + 1 + 1, 0, none⟩ = false := by simp [World.frozen?, hC2]
    clear hC0 hC1 hC2
    refine leaves_cons (f := 44) (args := #[.pointer (some ⟨w.heap.size, 0, none⟩), .pointer (some ⟨w.heap.size + 1, 0, none⟩), .pointer (some ⟨w.heap.size + 1 + 1, 0, none⟩)]) (by simp) (by simp [go_sem]) ?_
    refine (catch_panicking w.heap.size _ _ _ i c w1 k0 k1 k2 z0 z1 z2 (by omega)).mono ?_
    rintro e u' w2 ⟨rfl, rfl, q0, q1, q2, hb⟩
    refine ⟨.tuple #[.slice none 0 0, .int .i64 (i : Int), .int .i64 (c : Int)], results_tok3 Tryz.results29 _ rfl rfl rfl q0 q1 q2, _, HC.out, rfl, ?_⟩
    exact hbW1.trans hb
  · obtain ⟨v, rfl, ho, hg⟩ := hout
    obtain ⟨A, n, cp, rfl⟩ := own_slice ho
    have hC0 := (hg.block _ (by omega) (by simp <;> omega)).trans hB0
    have hC1 := (hg.block _ (by omega) (by simp <;> omega)).trans hB1
    have hC2 := (hg.block _ (by omega) (by simp <;> omega)).trans hB2
    have hbW1 := below_of_grown hbW hg (by omega) (by omega)
    have hsz := hg.size
    have ho1 := own_base ho (Nat.le_of_lt (show w.heap.size < W.heap.size by omega))
    have hvb : ∀ q, q < W.heap.size → (Value.slice A n cp).ownBlock ≠ some q := fun q hq e => by have := (ho.lt q e).1; omega
    have HO := Lib.hid ho1
    clear hB0 hB1 hB2 hbW hg ho ho1
    have k0 := (cell_of_row w1 w.heap.size 0 _ _ (0, 0) hC0)
    have k1 := (cell_of_row w1 (w.heap.size + 1) 0 _ _ (0, 0) hC1)
    have k2 := (cell_of_row w1 (w.heap.size + 1 + 1) 0 _ _ (0, 0) hC2)
    simp only [List.getElem?_toArray, List.getElem?_cons_zero] at k0 k1 k2
    have z0 : w1.frozen? ⟨w.heap.size, 0, none⟩ = false := by simp [World.frozen?, hC0]
    have z1 : w1.frozen? ⟨w.heap.size + 1, 0, none⟩ = false := by simp [World.frozen?, hC1]
    have z2 : w1.frozen? ⟨w.heap.size + 1 + 1, 0, none⟩ = false := by simp [World.frozen?, hC2]
    clear hC0 hC1 hC2
    have HV := Lib.hid hvb
    clear hvb
    go_wp2_with fail
    refine leaves_cons (f := 44) (args := #[.pointer (some ⟨w.heap.size, 0, none⟩), .pointer (some ⟨w.heap.size + 1, 0, none⟩), .pointer (some ⟨w.heap.size + 1 + 1, 0, none⟩)]) (by simp) (by simp [go_sem]) ?_
    refine (catch_idle _ _ _ _).mono ?_
    rintro e u' w2 ⟨rfl, rfl, rfl⟩
    obtain ⟨q0, q1, q2, hb⟩ := stored_mk (w := w) (p := w.heap.size) (u0 := .slice A n cp) (u1 := .int .i64 0) (u2 := .int .i64 0) k0 k1 k2 hbW1
    refine ⟨.tuple #[.slice A n cp, .int .i64 0, .int .i64 0], results_tok3 Tryz.results29 _ rfl rfl rfl q0 q1 q2, _, HC.out, _, rfl, ?_, hb⟩
    exact own_far (own_far (own_far HO.out (HV.out _ (by omega)) _ _) (HV.out _ (by omega)) _ _) (HV.out _ (by omega)) _ _
theorem tokens_call (s : ByteArray) (w : World) (ht : Tab w) : Calls Tryz.prog 29 #[.string s] w (TokPost w s) := by
  rcases Nat.lt_or_ge 65536 s.size with h | h
  · exact tokens_long s w h
  · exact tokens_short s w ht h
end Go.Proofs.YtpmncgbpbcgfaaaGreatDoor
