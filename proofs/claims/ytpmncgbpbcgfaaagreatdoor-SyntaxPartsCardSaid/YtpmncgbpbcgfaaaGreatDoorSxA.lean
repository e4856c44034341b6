import Derived.Test.YtpmncgbpbcgfaaaGreatDoorLxTokens
import Derived.Test.YtpmncgbpbcgfaaaGreatDoorPlA
import Derived.Deep.AppendLies
import Derived.RegionDies
/-
  Memory of the parser: its block, its tokens, and what a parse leaves.
-/
namespace Go.Proofs.YtpmncgbpbcgfaaaGreatDoor
open Go.RowKit
set_option linter.unusedVariables false
set_option linter.unusedSimpArgs false

theorem own_len {w : World} {base : Nat} {e : TypeId} {size n m c : Nat} {A : Option Addr} {xs : List Value} (h : w.ownsRow base e size (.slice A m c) n xs) : m = n := by
  rcases h.2 with ⟨h0, h1⟩ | ⟨g, cap, cur, hv, _⟩
  · injection h0 with _ h2; rw [h2, h1]
  · injection hv
theorem own_addr {w : World} {base : Nat} {e : TypeId} {size n m c : Nat} {A : Option Addr} {xs : List Value} (h : w.ownsRow base e size (.slice A m c) n xs) (hn : 0 < n) : ∃ g, A = some ⟨g, 0, none⟩ := by
  rcases h.2 with ⟨_, h1⟩ | ⟨g, cap, cur, hv, _⟩
  · omega
  · injection hv with hv; exact ⟨g, hv⟩
theorem kept_below {w w' : World} {base : Nat} {e : TypeId} {size n : Nat} {v : Value} {xs : List Value} (h : w.ownsRow base e size v n xs) (hb : Below w.heap.size w w') : w'.ownsRow base e size v n xs :=
  h.kept (w' := w') (row := none) ⟨hb.os, hb.tape, hb.output, hb.size, fun i hi _ => hb.block i hi⟩ (by rcases v.ownBlock with _ | g; exact .inl rfl; exact .inr (by simp))
theorem flat_at : ∀ (T : List Tok) (k : Nat) (hk : k < T.length) (j : Nat), j < 4 → (T.flatMap tokL)[k * 4 + j]? = (tokL T[k])[j]?
  | t :: T, 0, _, j, hj => by
    rw [List.flatMap_cons, List.getElem?_append_left (by simp [tokL]; omega)]
    simp
  | t :: T, k + 1, hk, j, hj => by
    have hl : (tokL t).length = 4 := rfl
    rw [List.flatMap_cons, List.getElem?_append_right (by omega), hl]
    have e : (k + 1) * 4 + j - 4 = k * 4 + j := by omega
    rw [e, flat_at T k (by simpa using hk) j hj]
    simp
theorem tok_cells {w : World} {base : Nat} {v : Value} {T : List Tok} (ho : w.ownsRow base 95 4 v T.length (T.flatMap tokL)) {g : Nat} (hg : v.ownBlock = some g) {k : Nat} (hk : k < T.length) :
    w.cell? ⟨g, k * 4, none⟩ = some (.int .i64 (T[k].kind : Int)) ∧ w.cell? ⟨g, k * 4 + 1, none⟩ = some (.string ⟨T[k].text.toArray⟩) ∧ w.cell? ⟨g, k * 4 + 2, none⟩ = some (.int .i64 (T[k].int : Int)) ∧ w.cell? ⟨g, k * 4 + 3, none⟩ = some (.int .i64 (T[k].at_ : Int)) := by
  have hc := ho.cells hg
  have hx : ∀ j (hj : j < 4), (T.flatMap tokL)[k * 4 + j]? = (tokL T[k])[j]? := fun j hj => flat_at T k hk j hj
  have ha : ∀ j, (⟨g, 0, none⟩ : Addr).add j = ⟨g, j, none⟩ := fun j => by unfold Addr.add; split <;> simp_all
  refine ⟨?_, ?_, ?_, ?_⟩
  · rw [← ha]; exact hc _ _ (hx 0 (by omega))
  · rw [← ha]; exact hc _ _ (hx 1 (by omega))
  · rw [← ha]; exact hc _ _ (hx 2 (by omega))
  · rw [← ha]; exact hc _ _ (hx 3 (by omega))

/-- the parser in block p: its tokens' slice, the next token, the text's length, and whether something was too deep -/
def Ps (w : World) (p : Nat) (v : Value) (i n : Nat) (d : Bool) : Prop := w.heap[p]? = some (.cells #[v, .int .i64 (i : Int), .int .i64 (n : Int), .bool d] 91 (0, 0))
section
variable {w w' : World} {p : Nat} {v : Value} {i n : Nat} {d : Bool}
theorem Ps.c0 (h : Ps w p v i n d) : w.cell? ⟨p, 0, none⟩ = some v := by rw [cell_of_row w p 0 _ _ (0, 0) h]; rfl
theorem Ps.c1 (h : Ps w p v i n d) : w.cell? ⟨p, 1, none⟩ = some (.int .i64 (i : Int)) := by rw [cell_of_row w p 1 _ _ (0, 0) h]; rfl
theorem Ps.c2 (h : Ps w p v i n d) : w.cell? ⟨p, 2, none⟩ = some (.int .i64 (n : Int)) := by rw [cell_of_row w p 2 _ _ (0, 0) h]; rfl
theorem Ps.c3 (h : Ps w p v i n d) : w.cell? ⟨p, 3, none⟩ = some (.bool d) := by rw [cell_of_row w p 3 _ _ (0, 0) h]; rfl
theorem Ps.free (h : Ps w p v i n d) (j : Nat) : w.frozen? ⟨p, j, none⟩ = false := by unfold Ps at h; simp [World.frozen?, h]
theorem Ps.lt (h : Ps w p v i n d) : p < w.heap.size := by
  rcases Nat.lt_or_ge p w.heap.size with hlt | hge
  · exact hlt
  · unfold Ps at h; rw [Array.getElem?_eq_none hge] at h; cases h
theorem Ps.setAt (h : Ps w p v i n d) (k : Nat) : Ps (w.setCell ⟨p, 1, none⟩ (.int .i64 (k : Int))) p v k n d := by
  unfold Ps at h ⊢
  simp [World.setCell, Array.getElem?_modify, h]
theorem Ps.setDeep (h : Ps w p v i n d) (b : Bool) : Ps (w.setCell ⟨p, 3, none⟩ (.bool b)) p v i n b := by
  unfold Ps at h ⊢
  simp [World.setCell, Array.getElem?_modify, h]
theorem Ps.drewN (h : Ps w p v i n d) (k : Nat) : Ps (w.drewN k) p v i n d := h
theorem Ps.below (h : Ps w p v i n d) (hb : Below w.heap.size w w') : Ps w' p v i n d := (hb.block _ h.lt).trans h
theorem Ps.alloc (h : Ps w p v i n d) (o : Obj) : Ps (w.alloc o) p v i n d := (Below.heap_alloc w o _ h.lt).trans h
end
/-- a token's number and text are within the limits -/
structure TokOk (t : Tok) : Prop where
  num : t.int ≤ 1125899906842624
  len : t.text.length ≤ 200
  txt : t.kind = 4 → t.text.length ≤ 200 ∧ ∀ c ∈ t.text, badB c.toNat = false
/-- what stays while a text is parsed: the tokens, in a row of their own -/
structure Toks (w : World) (p : Nat) (v : Value) (T : List Tok) : Prop where
  own : ∃ base, w.ownsRow base 95 4 v T.length (T.flatMap tokL)
  ne : v.ownBlock ≠ some p
  len : T.length ≤ 65536
  ok : ∀ k (h : k < T.length), TokOk T[k]
theorem Toks.grown {w w' : World} {p : Nat} {v : Value} {T : List Tok} (h : Toks w p v T) (hg : w.grownBy w' (some p)) : Toks w' p v T :=
  ⟨let ⟨b, hb⟩ := h.own; ⟨b, hb.kept hg (.inr h.ne)⟩, h.ne, h.len, h.ok⟩
theorem Toks.below {w w' : World} {p : Nat} {v : Value} {T : List Tok} (h : Toks w p v T) (hb : Below w.heap.size w w') : Toks w' p v T :=
  ⟨let ⟨b, ho⟩ := h.own; ⟨b, kept_below ho hb⟩, h.ne, h.len, h.ok⟩
theorem Toks.drewN {w : World} {p : Nat} {v : Value} {T : List Tok} (h : Toks w p v T) (n : Nat) : Toks (w.drewN n) p v T := ⟨h.own, h.ne, h.len, h.ok⟩
theorem Toks.slice {w : World} {p : Nat} {v : Value} {T : List Tok} (h : Toks w p v T) : ∃ A c, v = .slice A T.length c ∧ (0 < T.length → ∃ g, A = some ⟨g, 0, none⟩ ∧ ∀ k (hk : k < T.length), w.cell? ⟨g, k * 4, none⟩ = some (.int .i64 (T[k].kind : Int)) ∧ w.cell? ⟨g, k * 4 + 1, none⟩ = some (.string ⟨T[k].text.toArray⟩) ∧ w.cell? ⟨g, k * 4 + 2, none⟩ = some (.int .i64 (T[k].int : Int)) ∧ w.cell? ⟨g, k * 4 + 3, none⟩ = some (.int .i64 (T[k].at_ : Int))) := by
  obtain ⟨b, ho⟩ := h.own
  obtain ⟨A, m, c, rfl⟩ := own_slice ho
  obtain rfl := own_len ho
  refine ⟨A, c, rfl, fun hn => ?_⟩
  obtain ⟨g, rfl⟩ := own_addr ho hn
  exact ⟨g, rfl, fun k hk => tok_cells ho (g := g) rfl hk⟩
/-- where a failure is told: at a token, or at the text's end -/
def posOf (T : List Tok) (n j : Nat) : Nat := match T[j]? with | some t => t.at_ | none => n
def failS (a c : Nat) : Value := .iface 98 (.agg #[.int .i64 (a : Int), .int .i64 (c : Int)])
def cores (T : List Tok) : List Core := T.map Tok.core
theorem cores_len (T : List Tok) : (cores T).length = T.length := by simp [cores]
theorem cores_at {T : List Tok} {i : Nat} (h : i < T.length) : (cores T)[i]? = some T[i].core := by simp [cores, h]
theorem cores_none {T : List Tok} {i : Nat} (h : T.length ≤ i) : (cores T)[i]? = none := by simp [cores, h]
/-- the parser's state: its block, its tokens, its place -/
structure St (w : World) (p : Nat) (v : Value) (T : List Tok) (i n : Nat) (d : Bool) : Prop where
  ps : Ps w p v i n d
  tk : Toks w p v T
  le : i ≤ T.length
section
variable {w w' : World} {p : Nat} {v : Value} {T : List Tok} {i n : Nat} {d : Bool}
theorem St.drewN (h : St w p v T i n d) (k : Nat) : St (w.drewN k) p v T i n d := ⟨h.ps.drewN k, h.tk.drewN k, h.le⟩
theorem St.below (h : St w p v T i n d) (hb : Below w.heap.size w w') : St w' p v T i n d := ⟨h.ps.below hb, h.tk.below hb, h.le⟩
theorem St.alloc (h : St w p v T i n d) (o : Obj) : St (w.alloc o) p v T i n d := h.below ((Below.refl _ _).alloc (Nat.le_refl _) _)
theorem St.setAt (h : St w p v T i n d) (k : Nat) (hk : k ≤ T.length) : St (w.setCell ⟨p, 1, none⟩ (.int .i64 (k : Int))) p v T k n d :=
  ⟨h.ps.setAt k, h.tk.grown (only_setCell (World.grownBy.refl _ _) 1 _), hk⟩
theorem St.setDeep (h : St w p v T i n d) (b : Bool) : St (w.setCell ⟨p, 3, none⟩ (.bool b)) p v T i n b :=
  ⟨h.ps.setDeep b, h.tk.grown (only_setCell (World.grownBy.refl _ _) 3 _), h.le⟩
/-- the cells of the parser, as the walk reads them -/
theorem St.slice (h : St w p v T i n d) : ∃ A c, v = .slice A T.length c ∧ (0 < T.length → ∃ g, A = some ⟨g, 0, none⟩) := by
  obtain ⟨A, c, hv, hc⟩ := h.tk.slice
  exact ⟨A, c, hv, fun hn => let ⟨g, hg, _⟩ := hc hn; ⟨g, hg⟩⟩
theorem St.tok {g c : Nat} {m : Nat} (h : St w p (.slice (some ⟨g, 0, none⟩) m c) T i n d) {k : Nat} (hk : k < T.length) : w.cell? ⟨g, k * 4, none⟩ = some (.int .i64 (T[k].kind : Int)) ∧ w.cell? ⟨g, k * 4 + 1, none⟩ = some (.string ⟨T[k].text.toArray⟩) ∧ w.cell? ⟨g, k * 4 + 2, none⟩ = some (.int .i64 (T[k].int : Int)) ∧ w.cell? ⟨g, k * 4 + 3, none⟩ = some (.int .i64 (T[k].at_ : Int)) := by
  obtain ⟨b, ho⟩ := h.tk.own
  exact tok_cells ho (g := g) rfl hk
end
/-- what a parse function leaves: rep: how its value reads in memory -/
def PPost {α : Type} (w : World) (p : Nat) (v : Value) (T : List Tok) (i n : Nat) (rep : World → Value → α → Prop) (r : R α) (e : Ending) (w' : World) : Prop :=
  match r with
  | .ok a j d => ∃ val, e = .returned val ∧ rep w' val a ∧ St w' p v T j n d ∧ i ≤ j ∧ w.grownBy w' (some p)
  | .fail j c => e = .panicked [{ v := failS (posOf T n j) c, recovered := false }] ∧ w.grownBy w' (some p)
theorem PPost.mkOk {α : Type} {w w' : World} {p : Nat} {v : Value} {T : List Tok} {i n j : Nat} {d : Bool} {rep : World → Value → α → Prop} {r : R α} {e : Ending} {a : α} {val : Value} (hr : r = .ok a j d) (he : e = .returned val) (hv : rep w' val a) (hs : St w' p v T j n d) (hij : i ≤ j) (hg : w.grownBy w' (some p)) : PPost w p v T i n rep r e w' := by
  subst hr
  exact ⟨val, he, hv, hs, hij, hg⟩
theorem PPost.mkFail {α : Type} {w w' : World} {p : Nat} {v : Value} {T : List Tok} {i n j c : Nat} {rep : World → Value → α → Prop} {r : R α} {e : Ending} (hr : r = .fail j c) (he : e = .panicked [{ v := failS (posOf T n j) c, recovered := false }]) (hg : w.grownBy w' (some p)) : PPost w p v T i n rep r e w' := by
  subst hr
  exact ⟨he, hg⟩
def unitR (w : World) (v : Value) (a : Unit) : Prop := v = .tuple #[]
def boolR (w : World) (v : Value) (a : Bool) : Prop := v = .bool a
def strR (w : World) (v : Value) (a : List UInt8) : Prop := v = strV a ∧ a.length ≤ 200
def natR (w : World) (v : Value) (a : Nat) : Prop := v = .int .i64 (a : Int)
end Go.Proofs.YtpmncgbpbcgfaaaGreatDoor

/-
  The parser's small steps: wrong, ahead, skip, word, symbol.
-/
namespace Go.Proofs.YtpmncgbpbcgfaaaGreatDoor
open Go.RowKit
set_option linter.unusedVariables false
set_option linter.unusedSimpArgs false

def wrongJ (T : List Tok) (i : Nat) : Nat := if T.length ≤ i then T.length else i
def wrongC (T : List Tok) (i : Nat) : Nat := if T.length ≤ i then 2 else 1
theorem pWrong_eq {α : Type} (T : List Tok) (i : Nat) (d : Bool) : (pWrong (α := α)) (cores T) i d = .fail (wrongJ T i) (wrongC T i) := by
  unfold pWrong wrongJ wrongC
  rw [cores_len]
  split <;> rfl

set_option maxHeartbeats 1000000 in
theorem wrong_call (p : Nat) (v : Value) (T : List Tok) (i n : Nat) (d : Bool) (w : World) (h : St w p v T i n d) :
    Calls Tryz.prog 32 #[.pointer (some ⟨p, 0, none⟩)] w fun e w' => e = .panicked [{ v := failS (posOf T n (wrongJ T i)) (wrongC T i), recovered := false }] ∧ w.grownBy w' (some p) := by
  obtain ⟨A, c, rfl, hA⟩ := h.slice
  have h0 := h.ps.c0
  have h1 := h.ps.c1
  have h2 := h.ps.c2
  have hl := h.tk.len
  have hle := h.le
  have hg : w.grownBy w (some p) := World.grownBy.refl _ _
  by_cases hi : T.length ≤ i
  · have c1 : (T.length : Int) ≤ (i : Int) := by omega
    have HP := Lib.hid (show posOf T n (wrongJ T i) = n by unfold posOf wrongJ; rw [if_pos hi, List.getElem?_eq_none (Nat.le_refl _)])
    have HC := Lib.hid (show wrongC T i = 2 by unfold wrongC; rw [if_pos hi])
    rw [HP.out, HC.out]
    have d1 : decide ((T.length : Int) ≤ (i : Int)) = true := decide_eq_true c1
    go_enter Tryz.func32, Tryz.ntmps32
    clear hA
    go_wp2_with fail
    go_quiet (fail)
    replace h0 := show (w.drewN nq).cell? _ = _ from h0
    replace h1 := show (w.drewN nq).cell? _ = _ from h1
    replace h2 := show (w.drewN nq).cell? _ = _ from h2
    replace h := h.drewN nq
    replace hg := only_drewN hg nq
    generalize w.drewN nq = w1 at h hg h0 h1 h2 ⊢
    go_wp2_with fail
    exact ⟨rfl, rfl, hg⟩
  · obtain ⟨g, rfl⟩ := hA (by omega)
    have hc := (h.tok (k := i) (by omega)).2.2.2
    have HP := Lib.hid (show posOf T n (wrongJ T i) = T[i].at_ by unfold posOf wrongJ; rw [if_neg hi, List.getElem?_eq_getElem (by omega)])
    have HC := Lib.hid (show wrongC T i = 1 by unfold wrongC; rw [if_neg hi])
    rw [HP.out, HC.out]
    generalize T[i].at_ = a at hc HP ⊢
    have c1 : ¬ (T.length : Int) ≤ (i : Int) := by omega
    have d1 : decide ((T.length : Int) ≤ (i : Int)) = false := decide_eq_false c1
    have c2 : (i : Int) < (T.length : Int) := by omega
    have c3 : (0 : Int) ≤ (i : Int) := by omega
    go_enter Tryz.func32, Tryz.ntmps32
    clear hA
    go_wp2_with fail
    go_quiet (fail)
    replace h0 := show (w.drewN nq).cell? _ = _ from h0
    replace h1 := show (w.drewN nq).cell? _ = _ from h1
    replace h2 := show (w.drewN nq).cell? _ = _ from h2
    replace hc := show (w.drewN nq).cell? _ = _ from hc
    replace h := h.drewN nq
    replace hg := only_drewN hg nq
    generalize w.drewN nq = w1 at h hg h0 h1 h2 hc ⊢
    go_wp2_with fail
    go_region_dies
    all_goals exact ⟨rfl, rfl, only_drewN hg 1⟩
theorem aheadB_none {T : List Tok} {i k kind : Nat} {l : List UInt8} (h : T.length ≤ i + k) : aheadB (cores T) i k kind l = false := by
  unfold aheadB
  rw [cores_none h]
theorem aheadB_some {T : List Tok} {i k kind : Nat} {l : List UInt8} (h : i + k < T.length) : aheadB (cores T) i k kind l = (decide (T[i + k].kind = kind) && decide (T[i + k].text = l)) := by
  unfold aheadB
  rw [cores_at h]
  rfl
set_option maxHeartbeats 1000000 in
theorem ahead_call (p : Nat) (v : Value) (T : List Tok) (i n : Nat) (d : Bool) (w : World) (h : St w p v T i n d) (k kind : Nat) (hk : k ≤ 1) (s : ByteArray) :
    Calls Tryz.prog 56 #[.pointer (some ⟨p, 0, none⟩), .int .i64 (k : Int), .int .i64 (kind : Int), .string s] w fun e w' => e = .returned (.bool (aheadB (cores T) i k kind s.data.toList)) ∧ St w' p v T i n d ∧ w.grownBy w' (some p) := by
  obtain ⟨A, c, rfl, hA⟩ := h.slice
  have h0 := h.ps.c0
  have h1 := h.ps.c1
  have hl := h.tk.len
  have hle := h.le
  have hg : w.grownBy w (some p) := World.grownBy.refl _ _
  have e1 : IntKind.i64.wrap ((i : Int) + (k : Int)) = ((i + k : Nat) : Int) := by rw [IntWalk.i64_in _ (by omega)]; omega
  by_cases hi : T.length ≤ i + k
  · have HB := Lib.hid (aheadB_none (kind := kind) (l := s.data.toList) hi)
    have c1 : ¬ ((i + k : Nat) : Int) < (T.length : Int) := by omega
    have d1 : decide (((i + k : Nat) : Int) < (T.length : Int)) = false := decide_eq_false c1
    rw [HB.out]
    generalize i + k = j at e1 c1 d1
    go_enter Tryz.func56, Tryz.ntmps56
    clear hA
    go_wp2_with fail
    go_ret
    exact ⟨rfl, h, hg⟩
  · obtain ⟨g, rfl⟩ := hA (by omega)
    have hc0 := (h.tok (k := i + k) (by omega)).1
    have hc1 := (h.tok (k := i + k) (by omega)).2.1
    have HB := Lib.hid (aheadB_some (kind := kind) (l := s.data.toList) (show i + k < T.length by omega))
    have c1 : ((i + k : Nat) : Int) < (T.length : Int) := by omega
    have c3 : (0 : Int) ≤ ((i + k : Nat) : Int) := by omega
    rw [HB.out]
    generalize T[i + k].kind = kd at hc0 HB ⊢
    generalize T[i + k].text = tx at hc1 HB ⊢
    generalize i + k = j at e1 c1 c3 hc0 hc1
    clear hA
    by_cases hkd : kd = kind
    · subst hkd
      have HE := Lib.hid (show (tx == s.toList) = (decide (kd = kd) && decide (tx = s.data.toList)) by rw [Lib.toList_data, decide_eq_true rfl, Bool.true_and, Bool.eq_iff_iff]; simp)
      rw [← HE.out]
      go_enter Tryz.func56, Tryz.ntmps56
      go_wp2_with fail
      go_ret
      exact ⟨rfl, h, hg⟩
    · have HE := Lib.hid (show false = (decide (kd = kind) && decide (tx = s.data.toList)) by rw [decide_eq_false hkd, Bool.false_and])
      rw [← HE.out]
      have c4 : ((kd : Int) == (kind : Int)) = false := by rw [beq_eq_false_iff_ne]; omega
      go_enter Tryz.func56, Tryz.ntmps56
      go_wp2_with fail
      go_ret
      exact ⟨rfl, h, hg⟩
end Go.Proofs.YtpmncgbpbcgfaaaGreatDoor

/-
  The parser's small steps: skip, word, symbol, need, take, name, check.
-/
namespace Go.Proofs.YtpmncgbpbcgfaaaGreatDoor
open Go.RowKit
set_option linter.unusedVariables false
set_option linter.unusedSimpArgs false

theorem ahead_lt {T : List Tok} {i k kind : Nat} {l : List UInt8} (h : aheadB (cores T) i k kind l = true) : i + k < T.length := by
  rcases Nat.lt_or_ge (i + k) T.length with hlt | hge
  · exact hlt
  · rw [aheadB_none hge] at h; cases h

set_option maxHeartbeats 1000000 in
theorem skip_call (p : Nat) (v : Value) (T : List Tok) (i n : Nat) (d : Bool) (w : World) (h : St w p v T i n d) (kind : Nat) (s : ByteArray) :
    Calls Tryz.prog 43 #[.pointer (some ⟨p, 0, none⟩), .int .i64 (kind : Int), .string s] w (PPost w p v T i n boolR (pSkip kind s.data.toList (cores T) i d)) := by
  have H := Lib.hid h
  have hl := h.tk.len
  have HA := Lib.hid (ahead_call p v T i n d w h 0 kind (by omega) s)
  unfold pSkip
  rcases hb : aheadB (cores T) i 0 kind s.data.toList with _ | _
  · rw [hb] at HA
    clear h
    go_enter Tryz.func43, Tryz.ntmps43
    go_wp2_with fail
    refine HA.out.mono ?_
    rintro e w1 ⟨rfl, hs, hg⟩
    have HS := Lib.hid hs
    clear hs
    go_wp2_with fail
    go_ret
    exact ⟨_, rfl, rfl, HS.out, Nat.le_refl _, hg⟩
  · have hlt := ahead_lt hb
    rw [hb] at HA
    clear h
    go_enter Tryz.func43, Tryz.ntmps43
    go_wp2_with fail
    refine HA.out.mono ?_
    rintro e w1 ⟨rfl, hs, hg⟩
    have h1 := hs.ps.c1
    have hf := hs.ps.free 1
    have HS := Lib.hid hs
    have e1 : IntKind.i64.wrap ((i : Int) + 1) = ((i + 1 : Nat) : Int) := by rw [IntWalk.i64_in _ (by omega)]; omega
    clear hs
    go_wp2_with fail
    go_ret
    exact ⟨_, rfl, rfl, HS.out.setAt (i + 1) (by omega), by omega, only_setCell hg 1 _⟩
set_option maxHeartbeats 1000000 in
theorem word_step (p : Nat) (v : Value) (T : List Tok) (i n : Nat) (d : Bool) (w : World) (h : St w p v T i n d) (s : ByteArray) (l : List UInt8) (hs : s.data.toList = l) :
    Calls Tryz.prog 53 #[.pointer (some ⟨p, 0, none⟩), .string s] w (PPost w p v T i n boolR (pWord l (cores T) i d)) := by
  subst hs
  have HA := Lib.hid (skip_call p v T i n d w h 2 s)
  clear h
  go_enter Tryz.func53, Tryz.ntmps53
  go_wp2_with fail
  refine HA.out.mono ?_
  intro e w1 hp
  rcases hr : pSkip 2 s.data.toList (cores T) i d with ⟨a, j, d'⟩ | ⟨j, c⟩
  · rw [hr] at hp
    obtain ⟨val, rfl, hv, hs, hij, hg⟩ := hp
    have HX := Lib.hid (And.intro hv (And.intro hs (And.intro hij hg)))
    have HR := Lib.hid hr
    clear hv hs hij hg hr
    go_wp2_with fail
    go_ret
    exact PPost.mkOk HR.out rfl HX.out.1 HX.out.2.1 HX.out.2.2.1 HX.out.2.2.2
  · exfalso
    unfold pSkip at hr
    split at hr <;> cases hr
set_option maxHeartbeats 1000000 in
theorem symbol_step (p : Nat) (v : Value) (T : List Tok) (i n : Nat) (d : Bool) (w : World) (h : St w p v T i n d) (s : ByteArray) (l : List UInt8) (hs : s.data.toList = l) :
    Calls Tryz.prog 28 #[.pointer (some ⟨p, 0, none⟩), .string s] w (PPost w p v T i n boolR (pSymbol l (cores T) i d)) := by
  subst hs
  have HA := Lib.hid (skip_call p v T i n d w h 5 s)
  clear h
  go_enter Tryz.func28, Tryz.ntmps28
  go_wp2_with fail
  refine HA.out.mono ?_
  intro e w1 hp
  rcases hr : pSkip 5 s.data.toList (cores T) i d with ⟨a, j, d'⟩ | ⟨j, c⟩
  · rw [hr] at hp
    obtain ⟨val, rfl, hv, hs, hij, hg⟩ := hp
    have HX := Lib.hid (And.intro hv (And.intro hs (And.intro hij hg)))
    have HR := Lib.hid hr
    clear hv hs hij hg hr
    go_wp2_with fail
    go_ret
    exact PPost.mkOk HR.out rfl HX.out.1 HX.out.2.1 HX.out.2.2.1 HX.out.2.2.2
  · exfalso
    unfold pSkip at hr
    split at hr <;> cases hr
end Go.Proofs.YtpmncgbpbcgfaaaGreatDoor

/-
  Steps of a walk through the parser: how a call's outcome moves the plain parse on.
-/
namespace Go.Proofs.YtpmncgbpbcgfaaaGreatDoor
open Go.RowKit
set_option linter.unusedVariables false
set_option linter.unusedSimpArgs false

section
variable {α β γ : Type} {x : P α} {f : α → P β} {C : List Core} {i j c : Nat} {d d' : Bool} {a : α} {r : R β} {l : List UInt8} {A B : P β}
theorem bind_ok (h : x C i d = .ok a j d') (hr : (x >>= f) C i d = r) : f a C j d' = r := by
  rw [← hr]
  show _ = P.bind x f C i d
  unfold P.bind
  rw [h]
theorem bind_fail (h : x C i d = .fail j c) (hr : (x >>= f) C i d = r) : r = .fail j c := by
  rw [← hr]
  show P.bind x f C i d = _
  unfold P.bind
  rw [h]
theorem bind_assoc {g : β → P γ} {s : R γ} (hr : ((x >>= f) >>= g) C i d = s) : (x >>= fun a => f a >>= g) C i d = s := by
  rw [← hr]
  show P.bind x (fun a => P.bind (f a) g) C i d = P.bind (P.bind x f) g C i d
  unfold P.bind
  rcases x C i d with ⟨a, j, d'⟩ | ⟨j, c⟩ <;> rfl
theorem pure_ok (hr : (pure a : P α) C i d = x C i d) : x C i d = .ok a i d := hr.symm
theorem pWord_yes (h : aheadB C i 0 2 l = true) : pWord l C i d = .ok true (i + 1) d := by unfold pWord pSkip; rw [if_pos h]
theorem pWord_no (h : aheadB C i 0 2 l = false) : pWord l C i d = .ok false i d := by unfold pWord pSkip; rw [if_neg (by rw [h]; decide)]
theorem pSymbol_yes (h : aheadB C i 0 5 l = true) : pSymbol l C i d = .ok true (i + 1) d := by unfold pSymbol pSkip; rw [if_pos h]
theorem pSymbol_no (h : aheadB C i 0 5 l = false) : pSymbol l C i d = .ok false i d := by unfold pSymbol pSkip; rw [if_neg (by rw [h]; decide)]
theorem P_assoc {α β γ : Type} (x : P α) (f : α → P β) (g : β → P γ) : ((x >>= f) >>= g) = (x >>= fun a => f a >>= g) := by
  funext C i d
  show P.bind (P.bind x f) g C i d = P.bind x (fun a => P.bind (f a) g) C i d
  unfold P.bind
  rcases x C i d with ⟨a, j, d'⟩ | ⟨j, c⟩ <;> rfl
theorem P_pure {α β : Type} (a : α) (f : α → P β) : ((pure a : P α) >>= f) = f a := rfl
theorem P_ite {α β : Type} (c : Prop) [Decidable c] (x y : P α) (f : α → P β) : ((if c then x else y) >>= f) = if c then x >>= f else y >>= f := by
  split <;> rfl
/-- 'if ← pWord l then A else B' -/
theorem ifWord_yes (h : aheadB C i 0 2 l = true) (hr : (pWord l >>= fun b => if b = true then A else B) C i d = r) : A C (i + 1) d = r := by
  have := bind_ok (pWord_yes h) hr
  simpa using this
theorem ifWord_no (h : aheadB C i 0 2 l = false) (hr : (pWord l >>= fun b => if b = true then A else B) C i d = r) : B C i d = r := by
  have := bind_ok (pWord_no h) hr
  simpa using this
theorem ifSymbol_yes (h : aheadB C i 0 5 l = true) (hr : (pSymbol l >>= fun b => if b = true then A else B) C i d = r) : A C (i + 1) d = r := by
  have := bind_ok (pSymbol_yes h) hr
  simpa using this
theorem ifSymbol_no (h : aheadB C i 0 5 l = false) (hr : (pSymbol l >>= fun b => if b = true then A else B) C i d = r) : B C i d = r := by
  have := bind_ok (pSymbol_no h) hr
  simpa using this
end
theorem St.step1 {w : World} {p : Nat} {v : Value} {T : List Tok} {i n : Nat} {d : Bool} (h : St w p v T i n d) (hi : i < T.length) : St (w.setCell ⟨p, 1, none⟩ (.int .i64 ((i : Int) + 1))) p v T (i + 1) n d := by
  have := h.setAt (i + 1) hi
  rwa [show ((i + 1 : Nat) : Int) = (i : Int) + 1 by omega] at this
theorem St.far {w : World} {p g : Nat} {c m : Nat} {T : List Tok} {i n : Nat} {d : Bool} (h : St w p (.slice (some ⟨g, 0, none⟩) m c) T i n d) : g ≠ p := fun e => h.tk.ne (by simp [Value.ownBlock, e])
/-- a failure, told by a panic -/
def failE (T : List Tok) (n j c : Nat) : Ending := .panicked [{ v := failS (posOf T n j) c, recovered := false }]
section
variable {α : Type} {w w0 w1 w2 w' : World} {p : Nat} {v : Value} {T : List Tok} {i i0 n : Nat} {d : Bool} {Q : Ending → World → Prop}
theorem grown_far (h1 : w0.grownBy w1 (some p)) (h2 : w1.grownBy w2 (some p)) : w0.grownBy w2 (some p) := grown_trans h1 h2
/-- a call whose contract is a parse -/
theorem PPost.use {f : FuncId} {args : Array Value} {rep : World → Value → α → Prop} {r : R α} (hc : Calls Tryz.prog f args w (PPost w p v T i n rep r))
    (hok : ∀ a j d' val w', r = .ok a j d' → rep w' val a → St w' p v T j n d' → i ≤ j → w.grownBy w' (some p) → Q (.returned val) w')
    (hfail : ∀ j c w', r = .fail j c → w.grownBy w' (some p) → Q (failE T n j c) w') : Calls Tryz.prog f args w Q := by
  refine hc.mono ?_
  intro e w' hp
  rcases r with ⟨a, j, d'⟩ | ⟨j, c⟩
  · obtain ⟨val, rfl, hv, hs, hij, hg⟩ := hp
    exact hok _ _ _ _ _ rfl hv hs hij hg
  · obtain ⟨rfl, hg⟩ := hp
    exact hfail _ _ _ rfl hg
theorem word_use (h : St w p v T i n d) (s : ByteArray) (l : List UInt8) (hs : s.data.toList = l)
    (h1 : ∀ w', aheadB (cores T) i 0 2 l = true → St w' p v T (i + 1) n d → w.grownBy w' (some p) → Q (.returned (.bool true)) w')
    (h0 : ∀ w', aheadB (cores T) i 0 2 l = false → St w' p v T i n d → w.grownBy w' (some p) → Q (.returned (.bool false)) w') :
    Calls Tryz.prog 53 #[.pointer (some ⟨p, 0, none⟩), .string s] w Q := by
  refine PPost.use (word_step p v T i n d w h s l hs) ?_ ?_
  · intro a j d' val w' hr hv hst hij hg
    rcases ha : aheadB (cores T) i 0 2 l with _ | _
    · rw [pWord_no ha] at hr
      cases hr
      cases hv
      exact h0 w' ha hst hg
    · rw [pWord_yes ha] at hr
      cases hr
      cases hv
      exact h1 w' ha hst hg
  · intro j c w' hr hg
    rcases ha : aheadB (cores T) i 0 2 l with _ | _
    · rw [pWord_no ha] at hr; cases hr
    · rw [pWord_yes ha] at hr; cases hr
theorem symbol_use (h : St w p v T i n d) (s : ByteArray) (l : List UInt8) (hs : s.data.toList = l)
    (h1 : ∀ w', aheadB (cores T) i 0 5 l = true → St w' p v T (i + 1) n d → w.grownBy w' (some p) → Q (.returned (.bool true)) w')
    (h0 : ∀ w', aheadB (cores T) i 0 5 l = false → St w' p v T i n d → w.grownBy w' (some p) → Q (.returned (.bool false)) w') :
    Calls Tryz.prog 28 #[.pointer (some ⟨p, 0, none⟩), .string s] w Q := by
  refine PPost.use (symbol_step p v T i n d w h s l hs) ?_ ?_
  · intro a j d' val w' hr hv hst hij hg
    rcases ha : aheadB (cores T) i 0 5 l with _ | _
    · rw [pSymbol_no ha] at hr
      cases hr
      cases hv
      exact h0 w' ha hst hg
    · rw [pSymbol_yes ha] at hr
      cases hr
      cases hv
      exact h1 w' ha hst hg
  · intro j c w' hr hg
    rcases ha : aheadB (cores T) i 0 5 l with _ | _
    · rw [pSymbol_no ha] at hr; cases hr
    · rw [pSymbol_yes ha] at hr; cases hr
theorem ahead_use (h : St w p v T i n d) (k kind : Nat) (hk : k ≤ 1) (s : ByteArray) (l : List UInt8) (hs : s.data.toList = l)
    (h1 : ∀ w', aheadB (cores T) i k kind l = true → St w' p v T i n d → w.grownBy w' (some p) → Q (.returned (.bool true)) w')
    (h0 : ∀ w', aheadB (cores T) i k kind l = false → St w' p v T i n d → w.grownBy w' (some p) → Q (.returned (.bool false)) w') :
    Calls Tryz.prog 56 #[.pointer (some ⟨p, 0, none⟩), .int .i64 (k : Int), .int .i64 (kind : Int), .string s] w Q := by
  subst hs
  refine (ahead_call p v T i n d w h k kind hk s).mono ?_
  rintro e w' ⟨rfl, hst, hg⟩
  rcases ha : aheadB (cores T) i k kind s.data.toList with _ | _
  · exact h0 w' ha hst hg
  · exact h1 w' ha hst hg
theorem wrong_use (h : St w p v T i n d) (hq : ∀ w', w.grownBy w' (some p) → Q (failE T n (wrongJ T i) (wrongC T i)) w') :
    Calls Tryz.prog 32 #[.pointer (some ⟨p, 0, none⟩)] w Q := by
  refine (wrong_call p v T i n d w h).mono ?_
  rintro e w' ⟨rfl, hg⟩
  exact hq w' hg
theorem PPost.failed {rep : World → Value → α → Prop} {r : R α} {j c : Nat} (hr : r = .fail j c) (hg : w.grownBy w' (some p)) : PPost w p v T i n rep r (failE T n j c) w' := PPost.mkFail hr rfl hg
theorem PPost.wrong {rep : World → Value → α → Prop} {r : R α} {k : Nat} (hr : (pWrong : P α) (cores T) k d = r) (hg : w.grownBy w' (some p)) : PPost w p v T i n rep r (failE T n (wrongJ T k) (wrongC T k)) w' :=
  PPost.mkFail (hr.symm.trans (pWrong_eq T k d)) rfl hg
end
end Go.Proofs.YtpmncgbpbcgfaaaGreatDoor
