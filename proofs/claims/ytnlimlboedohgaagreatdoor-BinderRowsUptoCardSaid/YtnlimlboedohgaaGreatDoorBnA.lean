import Derived.Test.YtnlimlboedohgaaGreatDoorPxO
import Derived.Test.YtnlimlboedohgaaGreatDoorPxP
import Derived.Test.YtnlimlboedohgaaGreatDoorLbEnv
/-
  Definitions of tables in memory: columns, keys, foreign keys, checks.
-/
set_option maxHeartbeats 8000000
set_option maxRecDepth 100000
namespace Go.Proofs.YtnlimlboedohgaaGreatDoor.Px
open Go Go.RowKit Go.Proofs.YtnlimlboedohgaaGreatDoor.Ps
set_option linter.unusedVariables false
set_option linter.unusedSimpArgs false
structure Col where
 nm : S
 kind : Int
 nul : Bool
structure Fkey where
 cols : List Int
 tb : S
structure Tbl where
 nm : S
 cols : List Col
 key : List Int
 fors : List Fkey
 checks : List X
def intC (n : Int) : C := .l (.int .i64 n)
def toCol (c : Col) : C := .a [.l (strV c.nm), .l (.int .i64 c.kind), .l (.bool c.nul)]
def toFk (f : Fkey) : C := .a [.s (f.cols.map intC), .l (strV f.tb)]
def toTb (t : Tbl) : C := .a [.l (strV t.nm), .s (t.cols.map toCol), .s (t.key.map intC), .s (t.fors.map toFk), .s (toCs t.checks)]
def CL (w : World) (l : List Col) (v : Value) : Prop := Rp Tryz.prog w 22 [v] (.s (l.map toCol))
def IL (w : World) (l : List Int) (v : Value) : Prop := Rp Tryz.prog w 23 [v] (.s (l.map intC))
def FL (w : World) (l : List Fkey) (v : Value) : Prop := Rp Tryz.prog w 24 [v] (.s (l.map toFk))
def TR (w : World) (t : Tbl) (cs : List Value) : Prop := Rp Tryz.prog w 27 cs (toTb t)
theorem CL.kept {n : Nat} {w w' : World} {l : List Col} {v : Value} (h : CL w l v) (hb : Below n w w') (hn : w.heap.size <= n) : CL w' l v := Rp.kept hb hn h
theorem IL.kept {n : Nat} {w w' : World} {l : List Int} {v : Value} (h : IL w l v) (hb : Below n w w') (hn : w.heap.size <= n) : IL w' l v := Rp.kept hb hn h
theorem FL.kept {n : Nat} {w w' : World} {l : List Fkey} {v : Value} (h : FL w l v) (hb : Below n w w') (hn : w.heap.size <= n) : FL w' l v := Rp.kept hb hn h
theorem TR.kept {n : Nat} {w w' : World} {t : Tbl} {cs : List Value} (h : TR w t cs) (hb : Below n w w') (hn : w.heap.size <= n) : TR w' t cs := Rp.kept hb hn h
theorem all_of {α : Type} {f : α -> C} {xs : List C} (h : ∀ i (hi : i < xs.length), ∃ y, xs[i] = f y) : ∃ l, xs = List.map f l := by
 induction xs with
 | nil => exact ⟨[], rfl⟩
 | cons x xs ih =>
  obtain ⟨y, hy⟩ := h 0 (by simp)
  obtain ⟨l, hl⟩ := ih (fun i hi => by have := h (i + 1) (by simp; omega); simpa using this)
  exact ⟨y :: l, by rw [List.map_cons, <- hl, <- show x = f y from hy]⟩
theorem ints_of {w : World} {v : List Value} {xs : List C} (h : Rp Tryz.prog w 23 v (.s xs)) : ∃ l, xs = List.map intC l := by
 obtain ⟨_, _, _, ys, e1, e2, _, _, _, hx⟩ := h.slice_inv Tryz.underlying23
 injection e2 with e2
 subst e2
 exact all_of fun i hi => by
  obtain ⟨_, us, _, _, hu⟩ := hx i hi
  obtain ⟨n, _, e⟩ := hu.int_inv Tryz.underlying3
  exact ⟨n, e⟩
theorem cols_of {w : World} {v : List Value} {xs : List C} (h : Rp Tryz.prog w 22 v (.s xs)) : ∃ l, xs = List.map toCol l := by
 obtain ⟨_, _, _, ys, e1, e2, _, _, _, hx⟩ := h.slice_inv Tryz.underlying22
 injection e2 with e2
 subst e2
 exact all_of fun i hi => by
  obtain ⟨_, us, _, _, hu⟩ := hx i hi
  obtain ⟨s, k, b, _, e, _⟩ := shp_Column hu
  exact ⟨⟨s.data.toList, k, b⟩, by rw [e]; unfold toCol; rw [<- str_list]⟩
theorem fors_of {w : World} {v : List Value} {xs : List C} (h : Rp Tryz.prog w 24 v (.s xs)) : ∃ l, xs = List.map toFk l := by
 obtain ⟨_, _, _, ys, e1, e2, _, _, _, hx⟩ := h.slice_inv Tryz.underlying24
 injection e2 with e2
 subst e2
 exact all_of fun i hi => by
  obtain ⟨_, us, _, _, hu⟩ := hx i hi
  obtain ⟨_, _, _, x0, s, _, e, _, hr, _⟩ := shp_Foreign hu
  obtain ⟨l, rfl⟩ := ints_of hr
  exact ⟨⟨l, s.data.toList⟩, by rw [e]; unfold toFk; rw [<- str_list]⟩
theorem exprs_of {w : World} {v : List Value} {xs : List C} (h : Rp Tryz.prog w 25 v (.s xs)) : ∃ l, xs = toCs l := by
 obtain ⟨_, _, _, ys, e1, e2, _, _, _, hx⟩ := h.slice_inv Tryz.underlying25
 injection e2 with e2
 subst e2
 obtain ⟨l, hl⟩ := all_of (f := toC) fun i hi => by
  obtain ⟨_, us, _, _, hu⟩ := hx i hi
  exact x_of _ w us _ (Nat.le_refl _) hu
 exact ⟨l, by rw [hl, toCs_map]⟩
theorem t_of {w : World} {cs : List Value} {c : C} (h : Rp Tryz.prog w 27 cs c) : ∃ t, c = toTb t := by
 obtain ⟨s, _, _, _, x1, _, _, _, x2, _, _, _, x3, _, _, _, x4, _, rfl, _, _, h1, _, h2, _, h3, _, h4⟩ := shp_Table h
 obtain ⟨l1, rfl⟩ := cols_of h1
 obtain ⟨l2, rfl⟩ := ints_of h2
 obtain ⟨l3, rfl⟩ := fors_of h3
 obtain ⟨l4, rfl⟩ := exprs_of h4
 exact ⟨⟨s.data.toList, l1, l2, l3, l4⟩, by unfold toTb; rw [<- str_list]⟩
theorem TR.lits {w : World} {t : Tbl} {cs : List Value} (h : TR w t cs) :
  ∃ a1 m1 a2 m2 a3 m3 a4 m4, cs = [.string ⟨t.nm.toArray⟩, .slice a1 t.cols.length m1, .slice a2 t.key.length m2, .slice a3 t.fors.length m3, .slice a4 t.checks.length m4] /\ t.nm.length <= maxLen /\ CL w t.cols (.slice a1 t.cols.length m1) /\ IL w t.key (.slice a2 t.key.length m2) /\ FL w t.fors (.slice a3 t.fors.length m3) /\ XL w t.checks (.slice a4 t.checks.length m4) := by
 unfold TR toTb at h
 obtain ⟨s, a1, n1, m1, x1, a2, n2, m2, x2, a3, n3, m3, x3, a4, n4, m4, x4, rfl, e, hs, l1, h1, l2, h2, l3, h3, l4, h4⟩ := shp_Table h
 injection e with e
 injection e with e0 e
 injection e with e1 e
 injection e with e2 e
 injection e with e3 e
 injection e with e4 _
 injection e0 with e0
 injection e1 with e1
 injection e2 with e2
 injection e3 with e3
 injection e4 with e4
 unfold strV at e0
 injection e0 with e0
 subst e0 e1 e2 e3 e4
 rw [List.length_map] at l1 l2 l3
 rw [toCs_map, List.length_map] at l4
 subst l1 l2 l3 l4
 exact ⟨a1, m1, a2, m2, a3, m3, a4, m4, rfl, by simpa [ByteArray.size] using hs, h1, h2, h3, h4⟩
/-- an element's cells -/
theorem el_at {w : World} {t e : TypeId} {a : Option Addr} {n m k z : Nat} {xs : List C} (hu : Tryz.prog.underlying t = some (.slice e)) (hz : Tryz.prog.cellsOf e = z) (hz0 : 0 < z) (h : Rp Tryz.prog w t [.slice a n m] (.s xs)) (hk : k < n) :
  ∃ b o us, a = some ⟨b, o, none⟩ /\ EC w b (o + k * z) us /\ ∃ hx : k < xs.length, Rp Tryz.prog w e us xs[k] := by
 obtain ⟨b, o, us, h1, h2, _, h4, hx, h5⟩ := elem_at hu hz hz0 h hk
 exact ⟨b, o, us, h1, ⟨h2, h4⟩, hx, h5⟩
theorem CL.at_ {w : World} {l : List Col} {a : Option Addr} {n m k : Nat} (h : CL w l (.slice a n m)) (hk : k < n) : ∃ g o, a = some ⟨g, o, none⟩ /\ ∃ hx : k < l.length, EC w g (o + k * 3) [.string ⟨l[k].nm.toArray⟩, .int .i64 l[k].kind, .bool l[k].nul] := by
 obtain ⟨g, o, us, e, hc, hx, hr⟩ := el_at Tryz.underlying22 zc_Column (by omega) h hk
 have hx' : k < l.length := by simpa using hx
 refine ⟨g, o, e, hx', ?_⟩
 rw [List.getElem_map] at hr
 obtain ⟨s, q, b, rfl, e2, _⟩ := shp_Column hr
 unfold toCol at e2
 injection e2 with e2
 injection e2 with e0 e2
 injection e2 with e1 e2
 injection e2 with e3 _
 injection e0 with e0
 unfold strV at e0
 injection e1 with e1
 injection e1 with _ e1
 injection e3 with e3
 injection e3 with e3
 rw [e0, e1, e3]
 exact hc
theorem IL.at_ {w : World} {l : List Int} {a : Option Addr} {n m k : Nat} (h : IL w l (.slice a n m)) (hk : k < n) : ∃ g o, a = some ⟨g, o, none⟩ /\ ∃ hx : k < l.length, EC w g (o + k * 1) [.int .i64 l[k]] := by
 obtain ⟨g, o, us, e, hc, hx, hr⟩ := el_at Tryz.underlying23 zc_int (by omega) h hk
 have hx' : k < l.length := by simpa using hx
 refine ⟨g, o, e, hx', ?_⟩
 rw [List.getElem_map] at hr
 obtain ⟨q, rfl, e2⟩ := hr.int_inv Tryz.underlying3
 unfold intC at e2
 injection e2 with e2
 injection e2 with _ e2
 rw [e2]
 exact hc
theorem FL.at_ {w : World} {l : List Fkey} {a : Option Addr} {n m k : Nat} (h : FL w l (.slice a n m)) (hk : k < n) : ∃ g o, a = some ⟨g, o, none⟩ /\ ∃ hx : k < l.length, ∃ b c, EC w g (o + k * 2) [.slice b l[k].cols.length c, .string ⟨l[k].tb.toArray⟩] /\ IL w l[k].cols (.slice b l[k].cols.length c) := by
 obtain ⟨g, o, us, e, hc, hx, hr⟩ := el_at Tryz.underlying24 zc_Foreign (by omega) h hk
 have hx' : k < l.length := by simpa using hx
 refine ⟨g, o, e, hx', ?_⟩
 rw [List.getElem_map] at hr
 obtain ⟨b, n0, c, x0, s, rfl, e2, l0, hi, _⟩ := shp_Foreign hr
 unfold toFk at e2
 injection e2 with e2
 injection e2 with e0 e2
 injection e2 with e1 _
 injection e0 with e0
 injection e1 with e1
 unfold strV at e1
 subst e0
 rw [List.length_map] at l0
 subst l0
 refine ⟨b, c, ?_, hi⟩
 rw [e1]
 exact hc
end Go.Proofs.YtnlimlboedohgaaGreatDoor.Px

/-
  Names of columns put in the place of names; the kind of an expression: in plain Lean, as the program and as the reference have it.
-/
namespace Go.Proofs.YtnlimlboedohgaaGreatDoor.Px
open Go Go.RowKit
set_option linter.unusedVariables false
set_option linter.unusedSimpArgs false
/-- an expression, or an error -/
inductive RX where
 | ok (x : X)
 | no (e : Int)
/-- the column i -/
def colX (i : Int) : X := .mk 2 i 0 0 [] [] []
/-- where a name lies in a list -/
def findN (s : S) : List S -> Nat -> Option Nat
 | [], _ => none
 | a :: l, i => if a = s then some i else findN s l (i + 1)
/-- what a name of a column refers to: cols: the names of the columns of the one source tn -/
def nameR (tn : Option S) (cols : List S) (s : S) : RX :=
 let l := if hasDot s then (if tn = some (preDot s) then findN (postDot s) cols 0 else none) else findN s cols 0
 match l with | some i => .ok (colX i) | none => .no 11
mutual
def resR (tn : Option S) (cols : List S) : X -> RX
 | .mk op int vk vi vs nm l =>
  if op = 3 then nameR tn cols nm else
  if op = 26 then .no 15 else
  if op = 25 then (if l.isEmpty then .ok (.mk 24 int 0 0 [] [] []) else .no 15) else
  match resRs tn cols l with | .inl l' => .ok (.mk op int vk vi vs nm l') | .inr e => .no e
def resRs (tn : Option S) (cols : List S) : List X -> List X ⊕ Int
 | [] => .inl []
 | x :: l => match resR tn cols x with
  | .ok y => (match resRs tn cols l with | .inl l' => .inl (y :: l') | .inr e => .inr e)
  | .no e => .inr e
end
/-! ### kinds -/
def uniF : Int -> List Int -> Option Int
 | k, [] => some k
 | k, x :: l => if x = 0 then uniF k l else if k ≠ 0 /\ k ≠ x then none else uniF x l
/-- the kind of several that must be equal -/
def uniO : Option Int -> Int × Bool
 | some k => (k, true)
 | none => (0, false)
def uniR (l : List Int) : Int × Bool := uniO (uniF 0 l)
def allK (l : List Int) (k : Int) : Bool := l.all fun x => decide (x = 0) || decide (x = k)
theorem uniF_app (m : List Int) : ∀ (l : List Int) (k : Int), uniF k (l ++ m) = match uniF k l with | some q => uniF q m | none => none
 | [], k => rfl
 | y :: l, k => by
  rw [List.cons_append, uniF, uniF]
  by_cases h0 : y = 0
  ·rw [if_pos h0, if_pos h0, uniF_app m l k]
  ·rw [if_neg h0, if_neg h0]
   by_cases h1 : k ≠ 0 /\ k ≠ y
   ·rw [if_pos h1, if_pos h1]
   ·rw [if_neg h1, if_neg h1, uniF_app m l y]
theorem uniF_snoc (x : Int) (l : List Int) (k : Int) : uniF k (l ++ [x]) = match uniF k l with | some q => (if x = 0 then some q else if q ≠ 0 /\ q ≠ x then none else some x) | none => none := uniF_app [x] l k
theorem uniF_take {l : List Int} {k : Nat} (h : k < l.length) (q : Int) : uniF q (l.take (k + 1)) = match uniF q (l.take k) with | some r => (if l[k] = 0 then some r else if r ≠ 0 /\ r ≠ l[k] then none else some l[k]) | none => none := by
 rw [List.take_succ_eq_append_getElem h, uniF_snoc]
theorem uniF_none {q : Int} {l m : List Int} (h : uniF q l = none) : uniF q (l ++ m) = none := by rw [uniF_app, h]
theorem uniF_bad {l : List Int} {k : Nat} (h : k < l.length) {q : Int} (h1 : uniF q (l.take (k + 1)) = none) : uniF q l = none := by
 have := uniF_none (m := l.drop (k + 1)) h1
 rwa [List.take_append_drop] at this
theorem uni_all : ∀ (l : List Int) (q k : Int), k ≠ 0 -> (q = 0 \/ q = k) -> (match uniF q l with | some r => r = 0 \/ r = k | none => False) \/ allK l k = false
 | [], q, k, _, hq => .inl (by unfold uniF; exact hq)
 | x :: l, q, k, hk, hq => by
  unfold uniF
  have ha : allK (x :: l) k = ((decide (x = 0) || decide (x = k)) && allK l k) := by unfold allK; rw [List.all_cons]
  by_cases h0 : x = 0
  ·rw [if_pos h0, ha, decide_eq_true h0, Bool.true_or, Bool.true_and]
   exact uni_all l q k hk hq
  ·rw [if_neg h0]
   by_cases hx : x = k
   ·subst hx
    rw [if_neg (by rintro ⟨h1, h2⟩; rcases hq with h | h; exact h1 h; exact h2 h), ha, decide_eq_true rfl, Bool.or_true, Bool.true_and]
    exact uni_all l x x hk (.inr rfl)
   ·refine .inr ?_
    rw [ha, decide_eq_false h0, decide_eq_false hx]
    rfl
theorem uni_not : ∀ (l : List Int) (q k r : Int), uniF q l = some r -> (r = 0 \/ r = k) -> (q = 0 \/ q = k) /\ allK l k = true
 | [], q, k, r, h, hr => by
  unfold uniF at h
  injection h with h
  subst h
  exact ⟨hr, rfl⟩
 | x :: l, q, k, r, h, hr => by
  have ha : allK (x :: l) k = ((decide (x = 0) || decide (x = k)) && allK l k) := by unfold allK; rw [List.all_cons]
  unfold uniF at h
  by_cases h0 : x = 0
  ·rw [if_pos h0] at h
   have := uni_not l q k r h hr
   refine ⟨this.1, ?_⟩
   rw [ha, decide_eq_true h0, this.2]
   rfl
  ·rw [if_neg h0] at h
   by_cases h1 : q ≠ 0 /\ q ≠ x
   ·rw [if_pos h1] at h; cases h
   ·rw [if_neg h1] at h
    have := uni_not l x k r h hr
    have hx : x = k := by rcases this.1 with h2 | h2; exact absurd h2 h0; exact h2
    subst hx
    refine ⟨by omega, ?_⟩
    rw [ha, decide_eq_true rfl, this.2, Bool.or_true]
    rfl
/-- the program's way to ask whether all kinds are one -/
theorem all_uni (l : List Int) (k : Int) (hk : k ≠ 0) : ((uniR (l ++ [k])).2 && decide ((uniR (l ++ [k])).1 = k)) = allK l k := by
 have hq : uniR (l ++ [k]) = uniO (uniF 0 (l ++ [k])) := rfl
 rw [uniF_snoc] at hq
 generalize uniR (l ++ [k]) = q at hq |-
 cases h : uniF 0 l with
 | none =>
  rw [h] at hq
  subst hq
  rcases uni_all l 0 k hk (.inl rfl) with h1 | h1
  ·rw [h] at h1; exact h1.elim
  ·rw [h1]; rfl
 | some r =>
  rw [h] at hq
  simp only [if_neg hk] at hq
  by_cases hr : r ≠ 0 /\ r ≠ k
  ·rw [if_pos hr] at hq
   subst hq
   rcases uni_all l 0 k hk (.inl rfl) with h1 | h1
   ·rw [h] at h1
    simp only at h1
    omega
   ·rw [h1]; rfl
  ·rw [if_neg hr] at hq
   subst hq
   rw [(uni_not l 0 k r h (by omega)).2]
   simp [uniO]
def resK (op vk : Int) (l : List Int) : Int × Bool :=
 if op = 1 then (vk, true) else
 if op = 4 \/ op = 5 \/ op = 6 then (3, allK l 3) else
 if op = 7 \/ op = 8 \/ op = 9 \/ op = 10 \/ op = 11 \/ op = 12 then (3, (uniR l).2) else
 if op = 19 then (2, allK l 2) else
 if op = 20 then (1, allK l 2) else
 if op = 21 then (3, true) else
 if op = 22 then ((uniR (l.drop 1)).1, (uniR (l.drop 1)).2 && allK (l.take 1) 3) else
 if op = 23 then uniR l else
 if op = 24 then (3, allK l 1) else (1, allK l 1)
/-- is the number of arguments right -/
def cntB (op : Int) (n : Nat) : Bool := !decide ((n : Int) < (arity op).1) && !decide ((arity op).2 < (n : Int))
def wellB (op int vk vi : Int) (vs nm : S) (n : Nat) : Bool :=
 (cntB op n && nm.isEmpty) && (if op = 1 then decide (int = 0) && validV vk vi vs else if op = 2 then nullV vk vi vs else if op = 24 then nullV vk vi vs && (decide (0 <= int) && decide (int < 13)) else decide (int = 0) && nullV vk vi vs)
def tcE (op vk : Int) : List Int ⊕ Int -> Int × Int
 | .inl kl => if (resK op vk kl).2 then ((resK op vk kl).1, 0) else (0, 7)
 | .inr e => (0, e)
mutual
def tc (ks : List Int) : X -> Int × Int
 | .mk op int vk vi vs nm l =>
  if (arity op).1 < 0 then (0, 7) else if wellB op int vk vi vs nm l.length = false then (0, 8) else
  if op = 2 then (if 0 <= int /\ int < ks.length then (ks.getD int.toNat 0, 0) else (0, 13)) else
  tcE op vk (tcs ks l)
def tcs (ks : List Int) : List X -> List Int ⊕ Int
 | [] => .inl []
 | x :: l => if (tc ks x).2 = 0 then (match tcs ks l with | .inl kl => .inl ((tc ks x).1 :: kl) | .inr e => .inr e) else .inr (tc ks x).2
end
def chk (ks : List Int) (x : X) : Int × Int := if 24 < dep x then (0, 26) else tc ks x
theorem tcs_take {ks : List Int} {l : List X} {k : Nat} {m : List Int} (h : k < l.length) (h1 : tcs ks (l.take k) = .inl m) : tcs ks (l.take (k + 1)) = if (tc ks l[k]).2 = 0 then .inl (m ++ [(tc ks l[k]).1]) else .inr (tc ks l[k]).2 := by
 induction l generalizing k m with
 | nil => simp at h
 | cons x l ih =>
  cases k with
  | zero =>
   simp only [List.take_zero, tcs] at h1
   injection h1 with h1
   subst h1
   simp only [List.take_succ_cons, List.take_zero, tcs, List.getElem_cons_zero, List.nil_append]
  | succ k =>
   rw [List.take_succ_cons, tcs] at h1
   rw [List.take_succ_cons, tcs, List.getElem_cons_succ]
   by_cases hx : (tc ks x).2 = 0
   ·rw [if_pos hx] at h1 |-
    cases hk : tcs ks (l.take k) with
    | inr e => rw [hk] at h1; cases h1
    | inl m' =>
     rw [hk] at h1
     injection h1 with h1
     subst h1
     rw [ih (by simpa using h) hk]
     have hkl : k < l.length := by simpa using h
     by_cases hz : (tc ks (l[k]'hkl)).2 = 0
     ·simp only [hz, if_true, List.cons_append]
     ·simp only [hz, if_false]
   ·rw [if_neg hx] at h1; cases h1
theorem tcs_bad {ks : List Int} {l : List X} {k : Nat} {m : List Int} (h : k < l.length) (h1 : tcs ks (l.take k) = .inl m) (h2 : (tc ks l[k]).2 ≠ 0) : tcs ks l = .inr (tc ks l[k]).2 := by
 induction l generalizing k m with
 | nil => simp at h
 | cons x l ih =>
  cases k with
  | zero => rw [tcs, if_neg (by simpa using h2)]; rfl
  | succ k =>
   rw [List.take_succ_cons, tcs] at h1
   rw [tcs]
   by_cases hx : (tc ks x).2 = 0
   ·rw [if_pos hx] at h1 |-
    cases hk : tcs ks (l.take k) with
    | inr e => rw [hk] at h1; cases h1
    | inl m' => rw [ih (by simpa using h) hk (by simpa using h2)]; rfl
   ·rw [if_neg hx] at h1; cases h1
theorem tcs_len {ks : List Int} : ∀ {l : List X} {m : List Int}, tcs ks l = .inl m -> m.length = l.length
 | [], m, h => by rw [tcs] at h; injection h with h; subst h; rfl
 | x :: l, m, h => by
  rw [tcs] at h
  split at h
  ·cases hk : tcs ks l with
   | inr e => rw [hk] at h; cases h
   | inl m' =>
    rw [hk] at h
    injection h with h
    subst h
    rw [List.length_cons, List.length_cons, tcs_len hk]
  ·cases h
end Go.Proofs.YtnlimlboedohgaaGreatDoor.Px

/-
  Lists of integers in memory; kinds that must be equal; numbers of arguments; what is well-formed: the program's and the reference's. (Printed by gen_bcint.py.)
-/
namespace Go.Proofs.YtnlimlboedohgaaGreatDoor.Px
open Go Go.RowKit Go.Proofs.YtnlimlboedohgaaGreatDoor.Ps
set_option linter.unusedVariables false
set_option linter.unusedSimpArgs false
def intV (n : Int) : Value := .int .i64 n
/-- a list of integers in memory -/
def SI (w : World) (L : List Int) (a : Option Addr) : Prop := ∀ (j : Nat) (n : Int), L[j]? = some n -> ∃ b o, a = some ⟨b, o, none⟩ /\ b < w.heap.size /\ w.cell? ⟨b, o + j, none⟩ = some (.int .i64 n)
theorem SI.at_ {w : World} {L : List Int} {a : Option Addr} (h : SI w L a) {k : Nat} (hk : k < L.length) : ∃ b o, a = some ⟨b, o, none⟩ /\ b < w.heap.size /\ w.cell? ⟨b, o + k, none⟩ = some (.int .i64 L[k]) := h k _ (List.getElem?_eq_getElem hk)
theorem SI.below {w w' : World} {L : List Int} {a : Option Addr} (h : SI w L a) (hb : Below w.heap.size w w') : SI w' L a := fun j s hs => by
 obtain ⟨b, o, e, hl, hc⟩ := h j s hs
 exact ⟨b, o, e, Nat.lt_of_lt_of_le hl hb.size, (hb.cell hl).trans hc⟩
theorem SI.drop1 {w : World} {L : List Int} {g o : Nat} (h : SI w L (some ⟨g, o, none⟩)) : SI w (L.drop 1) (some ⟨g, o + 1, none⟩) := fun j n hj => by
 rw [List.getElem?_drop] at hj
 obtain ⟨b, o', e, hl, hc⟩ := h _ n hj
 injection e with e
 injection e with e1 e2
 subst e1 e2
 exact ⟨_, _, rfl, hl, by rw [Nat.add_assoc]; exact hc⟩
theorem SI.take1 {w : World} {L : List Int} {a : Option Addr} (h : SI w L a) : SI w (L.take 1) a := fun j n hj => by
 rw [List.getElem?_take] at hj
 split at hj
 ·exact h j n hj
 ·cases hj
/-- a list of integers that a walk owns -/
def OwnI (B : Nat) (v : Value) (M : List Int) (w : World) : Prop := w.ownsRow B 3 1 v M.length (M.map intV)
theorem infoInt : (Tryz.prog.info? 3).map (fun i => (i.zero, i.size, i.bytes)) = some (some (.int .i64 0), 1, 8) := by kernel_rfl
theorem OwnI.nil (B : Nat) (w : World) : OwnI B (.slice none 0 0) [] w := World.ownsRow_nil _ _ _ _
theorem OwnI.snoc {B : Nat} {v : Value} {M : List Int} {s : Int} {w : World} (h : w.ownsRow B 3 1 v (M.length + 1) (M.map intV ++ [.int .i64 s])) : OwnI B v (M ++ [s]) w := by
 unfold OwnI
 rw [List.length_append, List.map_append]
 exact h
theorem OwnI.below {B : Nat} {v : Value} {M : List Int} {w w' : World} (h : OwnI B v M w) (hb : Below w.heap.size w w') : OwnI B v M w' := kept_below h hb
theorem OwnI.form {B : Nat} {v : Value} {M : List Int} {w : World} (h : OwnI B v M w) : ∃ a c, v = .slice a M.length c /\ SI w M a := by
 unfold OwnI at h
 by_cases h0 : M.length = 0
 ·obtain ⟨A', n', c', rfl⟩ := own_slice h
  obtain rfl := own_len h
  exact ⟨A', c', rfl, fun j s hs => by rw [List.eq_nil_of_length_eq_zero h0] at hs; cases hs⟩
 ·obtain ⟨g, cap, rfl, hg1, hg2⟩ := h.form (by omega)
  refine ⟨_, cap, rfl, fun j s hs => ⟨g, 0, rfl, hg2, ?_⟩⟩
  have e1 : (⟨g, 0, none⟩ : Addr).add j = ⟨g, 0 + j, none⟩ := by unfold Addr.add; split <;> simp_all
  rw [<- e1]
  refine h.cells (g := g) rfl j _ ?_
  rw [List.getElem?_map, hs]
  rfl
theorem OwnI.cap {B : Nat} {M : List Int} {w : World} {a : Option Addr} {n c : Nat} (h : OwnI B (.slice a n c) M w) : M.length <= c := own_cap h
def TupIB (q : Int × Bool) : Value := .tuple #[.int .i64 q.1, .bool q.2]
def TupII (q : Int × Int) : Value := .tuple #[.int .i64 q.1, .int .i64 q.2]
theorem unite_call (L : List Int) (a : Option Addr) (c : Nat) (w : World) (hn : L.length <= 1099511627776) (hv : SI w L a) : Calls Tryz.prog 266 #[.slice a L.length c] w (Ret w (TupIB (uniR L))) := by
 have HV := h_ hv
 clear hv
 go_enter Tryz.func266, Tryz.ntmps266
 go_wp2_with fail
 go_loop [4, 6, 9] (fun q _ i => ∃ (k : Nat) (r : Int), k <= L.length /\ i = .int .i64 k /\ q = .int .i64 r /\ uniF 0 (L.take k) = some r) (fun q _ i => L.length - (intOf i).toNat)
 case atStart => exact ⟨0, 0, Nat.zero_le _, rfl, rfl, rfl⟩
 case round =>
  obtain ⟨k, r, hk, rfl, rfl, hr⟩ := hrel
  by_cases hlt : k < L.length
  ·obtain ⟨g, o, rfl, hg, hc⟩ := HV.out.at_ hlt
   have k0 : (0 : Int) <= (k : Int) := by omega
   have k1 : (k : Int) < (L.length : Int) := by omega
   have hT := uniF_take hlt 0
   rw [hr] at hT
   have HT := h_ hT
   have HBD := h_ (uniF_bad hlt (q := 0))
   clear hr hT
   generalize L[k] = x at hc HT
   by_cases h0 : x = 0
   ·subst h0
    have HF : Hid (uniF 0 (L.take (k + 1)) = some r) := h_ (by rw [HT.out]; rfl)
    clear HT
    go_wp2_with fail
    go_round
    case rel => exact ⟨k + 1, r, by omega, by go_num, rfl, HF.out⟩
    case measure => simp [intOf]; omega
   ·have h0b : (x == 0) = false := by simpa using h0
    have h0n : (x != 0) = true := by simpa using h0
    by_cases h1 : r = 0
    ·subst h1
     have HF : Hid (uniF 0 (L.take (k + 1)) = some x) := h_ (by rw [HT.out]; simp only [if_neg h0]; rw [if_neg (by omega)])
     clear HT
     go_wp2_with fail
     go_round
     case rel => exact ⟨k + 1, x, by omega, by go_num, rfl, HF.out⟩
     case measure => simp [intOf]; omega
    ·have h1b : (r == 0) = false := by simpa using h1
     have h1n : (r != 0) = true := by simpa using h1
     by_cases h2 : r = x
     ·subst h2
      have HF : Hid (uniF 0 (L.take (k + 1)) = some r) := h_ (by rw [HT.out]; simp only [if_neg h0]; rw [if_neg (by omega)])
      clear HT
      go_wp2_with fail
      go_round
      case rel => exact ⟨k + 1, r, by omega, by go_num, rfl, HF.out⟩
      case measure => simp [intOf]; omega
     ·have h2b : (r == x) = false := by simpa using h2
      have h2n : (r != x) = true := by simpa using h2
      have HF : Hid (uniR L = (0, false)) := h_ (by unfold uniR; rw [HBD.out (by rw [HT.out]; simp only [if_neg h0]; rw [if_pos ⟨h1, h2⟩])]; rfl)
      clear HT
      go_wp2_with fail
      go_ret2
      exact ⟨by rw [HF.out]; rfl, Below.refl _ _⟩
  ·obtain rfl : k = L.length := by omega
   rw [List.take_length] at hr
   have HF : Hid (uniR L = (r, true)) := h_ (by unfold uniR; rw [hr]; rfl)
   have d1 : decide ((L.length : Int) < (L.length : Int)) = false := decide_eq_false (by omega)
   clear hr
   go_wp2_with fail
   go_ret2
   exact ⟨by rw [HF.out]; rfl, Below.refl _ _⟩
theorem join11_call (L : List Int) (a : Option Addr) (c : Nat) (w : World) (hn : L.length <= 1099511627776) (hv : SI w L a) : Calls Tryz.prog 245 #[.slice a L.length c] w (Ret w (TupIB (uniR L))) := by
 have HV := h_ hv
 clear hv
 go_enter Tryz.func245, Tryz.ntmps245
 go_wp2_with fail
 go_loop [4, 5] (fun q i => ∃ (k : Nat) (r : Int), k <= L.length /\ i = .int .i64 k /\ q = .int .i64 r /\ uniF 0 (L.take k) = some r) (fun q i => L.length - (intOf i).toNat)
 case atStart => exact ⟨0, 0, Nat.zero_le _, rfl, rfl, rfl⟩
 case round =>
  obtain ⟨k, r, hk, rfl, rfl, hr⟩ := hrel
  by_cases hlt : k < L.length
  ·obtain ⟨g, o, rfl, hg, hc⟩ := HV.out.at_ hlt
   have k0 : (0 : Int) <= (k : Int) := by omega
   have k1 : (k : Int) < (L.length : Int) := by omega
   have hT := uniF_take hlt 0
   rw [hr] at hT
   have HT := h_ hT
   have HBD := h_ (uniF_bad hlt (q := 0))
   clear hr hT
   generalize L[k] = x at hc HT
   by_cases h0 : x = 0
   ·subst h0
    have HF : Hid (uniF 0 (L.take (k + 1)) = some r) := h_ (by rw [HT.out]; rfl)
    clear HT
    go_wp2_with fail
    go_round
    case rel => exact ⟨k + 1, r, by omega, by go_num, rfl, HF.out⟩
    case measure => simp [intOf]; omega
   ·have h0b : (x == 0) = false := by simpa using h0
    have h0n : (x != 0) = true := by simpa using h0
    by_cases h1 : r = 0
    ·subst h1
     have HF : Hid (uniF 0 (L.take (k + 1)) = some x) := h_ (by rw [HT.out]; simp only [if_neg h0]; rw [if_neg (by omega)])
     clear HT
     go_wp2_with fail
     go_round
     case rel => exact ⟨k + 1, x, by omega, by go_num, rfl, HF.out⟩
     case measure => simp [intOf]; omega
    ·have h1b : (r == 0) = false := by simpa using h1
     have h1n : (r != 0) = true := by simpa using h1
     by_cases h2 : r = x
     ·subst h2
      have HF : Hid (uniF 0 (L.take (k + 1)) = some r) := h_ (by rw [HT.out]; simp only [if_neg h0]; rw [if_neg (by omega)])
      clear HT
      go_wp2_with fail
      go_round
      case rel => exact ⟨k + 1, r, by omega, by go_num, rfl, HF.out⟩
      case measure => simp [intOf]; omega
     ·have h2b : (r == x) = false := by simpa using h2
      have h2n : (r != x) = true := by simpa using h2
      have HF : Hid (uniR L = (0, false)) := h_ (by unfold uniR; rw [HBD.out (by rw [HT.out]; simp only [if_neg h0]; rw [if_pos ⟨h1, h2⟩])]; rfl)
      clear HT
      go_wp2_with fail
      go_ret2
      exact ⟨by rw [HF.out]; rfl, Below.refl _ _⟩
  ·obtain rfl : k = L.length := by omega
   rw [List.take_length] at hr
   have HF : Hid (uniR L = (r, true)) := h_ (by unfold uniR; rw [hr]; rfl)
   have d1 : decide ((L.length : Int) < (L.length : Int)) = false := decide_eq_false (by omega)
   clear hr
   go_wp2_with fail
   go_ret2
   exact ⟨by rw [HF.out]; rfl, Below.refl _ _⟩
theorem rall_call (L : List Int) (kind : Int) (a : Option Addr) (c : Nat) (w : World) (hn : L.length <= 1099511627776) (hv : SI w L a) : Calls Tryz.prog 244 #[.slice a L.length c, .int .i64 kind] w (Ret w (.bool (allK L kind))) := by
 have HV := h_ hv
 clear hv
 go_enter Tryz.func244, Tryz.ntmps244
 go_wp2_with fail
 go_loop [5] (fun i => ∃ k : Nat, k <= L.length /\ i = .int .i64 k /\ allK (L.take k) kind = true) (fun i => L.length - (intOf i).toNat)
 case atStart => exact ⟨0, Nat.zero_le _, rfl, rfl⟩
 case round =>
  obtain ⟨k, hk, rfl, hr⟩ := hrel
  by_cases hlt : k < L.length
  ·obtain ⟨g, o, rfl, hg, hc⟩ := HV.out.at_ hlt
   have k0 : (0 : Int) <= (k : Int) := by omega
   have k1 : (k : Int) < (L.length : Int) := by omega
   have HT : Hid (allK (L.take (k + 1)) kind = (decide (L[k] = 0) || decide (L[k] = kind))) := h_ (by
    unfold allK at hr |-
    rw [List.take_succ_eq_append_getElem hlt, List.all_append, hr, List.all_cons, List.all_nil, Bool.and_true, Bool.true_and])
   have HN : Hid ((decide (L[k] = 0) || decide (L[k] = kind)) = false -> allK L kind = false) := h_ fun h => by
    unfold allK
    exact Bool.eq_false_iff.2 fun hh => by
     have := List.all_eq_true.1 hh _ (List.getElem_mem hlt)
     rw [h] at this
     cases this
   clear hr
   generalize L[k] = x at hc HT HN
   by_cases h1 : x = kind
   ·subst h1
    have HF : Hid (allK (L.take (k + 1)) x = true) := h_ (by rw [HT.out, decide_eq_true rfl, Bool.or_true])
    clear HT HN
    go_wp2_with fail
    go_round
    case rel => exact ⟨k + 1, by omega, by go_num, HF.out⟩
    case measure => simp [intOf]; omega
   ·have h1b : (x == kind) = false := by simpa using h1
    have h1n : (x != kind) = true := by simpa using h1
    by_cases h0 : x = 0
    ·subst h0
     have HF : Hid (allK (L.take (k + 1)) kind = true) := h_ (by rw [HT.out]; rfl)
     clear HT HN
     go_wp2_with fail
     go_round
     case rel => exact ⟨k + 1, by omega, by go_num, HF.out⟩
     case measure => simp [intOf]; omega
    ·have h0b : (x == 0) = false := by simpa using h0
     have h0n : (x != 0) = true := by simpa using h0
     have HF : Hid (allK L kind = false) := h_ (HN.out (by rw [decide_eq_false h0, decide_eq_false h1]; rfl))
     clear HT HN
     go_wp2_with fail
     go_ret
     exact ⟨by rw [HF.out]; rfl, Below.refl _ _⟩
  ·obtain rfl : k = L.length := by omega
   rw [List.take_length] at hr
   have HF := h_ hr
   have d1 : decide ((L.length : Int) < (L.length : Int)) = false := decide_eq_false (by omega)
   clear hr
   go_wp2_with fail
   go_ret
   exact ⟨by rw [HF.out]; rfl, Below.refl _ _⟩
theorem own_base {w : World} {B B' : Nat} {e : TypeId} {size n : Nat} {v : Value} {xs : List Value} (h : w.ownsRow B e size v n xs) (hb : B' <= B) : w.ownsRow B' e size v n xs := by
 refine ⟨h.1, ?_⟩
 rcases h.2 with h | ⟨g, cap, cur, h1, h2, h3⟩
 ·exact .inl h
 ·exact .inr ⟨g, cap, cur, h1, by omega, h3⟩
theorem cloneI_call (L : List Int) (a : Option Addr) (c : Nat) (w : World) (hn : L.length <= 1099511627776) (hv : SI w L a) : Calls Tryz.prog 304 #[.slice a L.length c] w fun e w' => ∃ v, e = .returned v /\ OwnI w.heap.size v L w' /\ Below w.heap.size w w' := by
 have q1 : ∀ (w : World) (a : Option Addr) (n c n' c' : Nat), (binOp .eql 23 (.slice a n c) (.slice none n' c')).run Tryz.prog w = .ok (.bool a.isNone) w := fun w a n c n' c' => Lib.run_eql_slice_nil w _ _ a n c n' c' Tryz.underlying23
 obtain ⟨i0, hi, hz0, hz1, hz2⟩ := info_parts infoInt
 cases a with
 | none =>
  have hL : L = [] := by
   cases L with
   | nil => rfl
   | cons x L => obtain ⟨_, _, e, _⟩ := hv 0 x rfl; cases e
  subst hL
  go_enter Tryz.func304, Tryz.ntmps304
  go_wp2
  go_ret
  exact ⟨_, rfl, OwnI.nil _ _, Below.refl _ _⟩
 | some q =>
  obtain ⟨g, o, s⟩ := q
  have HV := h_ hv
  have hc : ∀ j u, (L.map intV)[j]? = some u -> w.cell? ((⟨g, o, s⟩ : Addr).add j) = some u /\ g < w.heap.size := fun j u hj => by
   rw [List.getElem?_map] at hj
   rcases hx : L[j]? with _ | n
   ·rw [hx] at hj; cases hj
   ·rw [hx] at hj
    obtain ⟨b, o', e, hl, hcell⟩ := HV.out j n hx
    injection e with e
    injection e with e1 e2 e3
    subst e1 e2 e3
    injection hj with hj
    subst hj
    rw [Addr.add_lit]
    exact ⟨hcell, hl⟩
  have HC := h_ hc
  clear hv hc HV
  go_enter Tryz.func304, Tryz.ntmps304
  go_wp2_with (at_builtin; refine wpList_append_own _ rfl _ _ 23 rfl w.heap.size 3 i0 _ 1 8 Tryz.underlying23 hi hz0 hz1 hz2 rfl (by decide) _ _ _ rfl (World.ownsRow_made w #[] 0 (Nat.le_refl _) (Nat.zero_le _) rfl) ⟨g, o, s⟩ L.length c (L.map intV) rfl ?qc0 ?qc2 ?qc3 ?qc4 ?qc5 ?qc6 ?_)
  case qc0 => rw [List.length_map, Nat.mul_one]
  case qc2 =>
   intro j u hj
   rw [((Below.refl w.heap.size w).alloc (Nat.le_refl _) _).cell (by rw [add_block]; exact (HC.out j u hj).2)]
   exact (HC.out j u hj).1
  case qc3 =>
   intro u hu
   obtain ⟨n, _, rfl⟩ := List.mem_map.1 hu
   rfl
  case qc4 => unfold maxLen; omega
  case qc5 => omega
  case qc6 => simp
  intro v' w1 hown hgrow hnil
  have HO : Hid (OwnI w.heap.size v' L w1) := h_ (by unfold OwnI; simpa using hown)
  have HB := h_ (((Below.refl _ w).alloc (Nat.le_refl w.heap.size) _).grown hgrow (by simp) (by intro k hk; simp [Value.ownBlock] at hk; omega))
  clear hown hgrow hnil
  go_wp2
  go_ret
  exact ⟨v', rfl, HO.out, HB.out⟩
theorem eall_call (L : List Int) (kind : Int) (a : Option Addr) (c : Nat) (w : World) (hkd : kind ≠ 0) (hn : L.length <= 1000000000) (hv : SI w L a) : Calls Tryz.prog 265 #[.slice a L.length c, .int .i64 kind] w (Ret w (.bool (allK L kind))) := by
 obtain ⟨i0, hi0, hz0, hz1, hz2⟩ := info_parts infoInt
 have HCL := h_ (cloneI_call L a c w (by omega) hv)
 have HA := h_ (all_uni L kind hkd)
 clear hv
 go_enter Tryz.func265, Tryz.ntmps265
 go_wp2_with fail
 refine HCL.out.mono ?_
 rintro e w1 ⟨v, rfl, ho, hb⟩
 have HO := h_ ho
 have HB := h_ hb
 have hlt2 : ∀ g, v.ownBlock = some g -> w.heap.size <= g := fun g e => (ho.lt g e).1
 clear ho hb HCL
 go_wp2_with (at_builtin; refine wpList_append_own_at _ rfl (.tmp 9) (.tmp 11) 23 rfl w.heap.size 3 i0 _ 1 8 Tryz.underlying23 hi0 hz0 hz1 hz2 rfl (by omega) v L.length _ rfl (World.ownsRow.alloc HO.out _) ⟨w1.heap.size, 0, none⟩ 1 1 [.int .i64 kind] rfl rfl (cell_lit1 _ _ _) (fun u hu => by obtain rfl := List.mem_singleton.1 hu; rfl) (by unfold maxLen; omega) (by omega) (Nat.le_trans HB.out.size (by simp)) ?_)
 intro v3 w3 hown3 hg3 _ hat3
 have HB3 := h_ ((HB.out.alloc HB.out.size _).grown hg3 (Nat.le_trans HB.out.size (by simp)) hlt2)
 have ho3 : OwnI w.heap.size v3 (L ++ [kind]) w3 := OwnI.snoc hown3
 obtain ⟨a3, c3, rfl, hs3⟩ := ho3.form
 have HU := h_ (Ret.at_ (unite_call (L ++ [kind]) a3 c3 w3 (by simp; omega) hs3) HB3.out)
 clear hown3 hg3 hat3 ho3 hs3 HO HB
 generalize L ++ [kind] = M at HU HA
 generalize uniR M = q at HU HA
 obtain ⟨q1, q2⟩ := q
 go_wp2_with fail
 refine HU.out.mono ?_
 rintro e w4 ⟨rfl, hw4⟩
 have HW4 := h_ hw4
 clear hw4 HU
 have HA2 : Hid (allK L kind = (q2 && decide (q1 = kind))) := h_ HA.out.symm
 clear HA
 unfold TupIB
 cases q2 with
 | false =>
  go_wp2_with fail
  go_ret
  exact ⟨by rw [HA2.out]; rfl, HW4.out⟩
 | true =>
  go_wp2_with fail
  all_goals (go_ret; refine ⟨congrArg (fun z => Ending.returned (.bool z)) ?_, HW4.out⟩; rw [HA2.out]; first | rfl | (by_cases hqk : q1 = kind <;> simp [hqk]))
theorem counts_call (op : Int) (n : Nat) (w : World) (hn : n <= 1099511627776) : Calls Tryz.prog 123 #[.int .i64 op, .int .i64 (n : Int)] w (Ret w (.tuple #[.bool (cntB op n && !decide ((arity op).1 < 0)), .bool (!decide ((arity op).1 < 0))])) := by
 go_enter Tryz.func123, Tryz.ntmps123
 go_wp2_with fail
 all_goals
  go_ret2
  refine ⟨congrArg (fun z : Bool × Bool => Ending.returned (.tuple #[.bool z.1, .bool z.2])) (?_ : (_, _) = (_, _)), Below.refl _ _⟩
  simp only [beq_iff_eq, Bool.not_eq_true, beq_eq_false_iff_ne, ne_eq] at *
  first
   | (subst_vars; refine Prod.ext ?_ ?_ <;> simp [cntB, arity] <;> (try rw [Bool.eq_iff_iff]) <;> (try simp) <;> (try omega) <;> (try (split <;> simp_all <;> omega)) <;> (try (generalize Int.decLe 2 (n : Int) = d; cases d <;> (try simp) <;> (try (split <;> simp_all <;> omega)))) <;> (try (generalize Int.decLe 1 (n : Int) = d; cases d <;> (try simp) <;> (try (split <;> simp_all <;> omega)))))
   | (have e : arity op = (-1, 0) := by (unfold arity; rw [if_neg (by omega), if_neg (by omega), if_neg (by omega), if_neg (by omega), if_neg (by omega), if_neg (by omega), if_neg (by omega)])
      rw [e]; simp [cntB])
theorem eformed_call (op int vk vi : Int) (vs nm : S) (l : List X) (cs : List Value) (w : World) (hkn : ¬ (arity op).1 < 0) (hll : l.length <= 1099511627776) (hvs : vs.length <= 140737488351232) (h : XR w (.mk op int vk vi vs nm l) cs) : Calls Tryz.prog 72 #[.agg cs.toArray] w (Ret w (.bool (wellB op int vk vi vs nm l.length))) := by
 have hem := mkE vs
 have hemn := mkE nm
 have HVS := h_ hvs
 have HCT := h_ fun w' => counts_call op l.length w' hll
 have HPK : Hid (wellB op int vk vi vs nm l.length = ((cntB op l.length && nm.isEmpty) && (if op = 1 then decide (int = 0) && validV vk vi vs else if op = 2 then nullV vk vi vs else if op = 24 then nullV vk vi vs && (decide (0 <= int) && decide (int < 13)) else decide (int = 0) && nullV vk vi vs))) := h_ rfl
 have HKN : Hid ((!decide ((arity op).1 < 0)) = true) := h_ (by rw [decide_eq_false hkn]; rfl)
 rw [HKN.out, Bool.and_true] at HCT
 generalize wellB op int vk vi vs nm l.length = ANS at HPK |-
 generalize cntB op l.length = cb at HPK HCT
 obtain ⟨a, m, rfl, hl, _, _, _⟩ := h.lits
 clear h hl hvs HKN hkn
 go_enter Tryz.func72, Tryz.ntmps72
 go_upto_region 1 with (fail)
 refine nA fun w1 hB hw1 hz1 => ?_
 have HW := h_ hw1
 have HBk := h_ hB
 have p0 := hB.cell 0 rfl
 have p6 := hB.cell 6 rfl
 clear hB hw1 hz1
 go_wp2_with fail
 refine (HCT.out w1).mono ?_
 rintro e w2 ⟨rfl, hw2⟩
 have HB2 := h_ (HBk.out.below hw2)
 have HW2 := t_ HW hw2
 clear hw2 HBk HW HCT p0 p6
 have p0 := HB2.out.cell 0 rfl
 have p1 := HB2.out.cell 1 rfl
 have p2 := HB2.out.cell 2 rfl
 have p3 := HB2.out.cell 3 rfl
 have p4 := HB2.out.cell 4 rfl
 have p5 := HB2.out.cell 5 rfl
 cases cb with
 | false =>
  have HF : Hid (ANS = false) := h_ (by rw [HPK.out]; rfl)
  clear HPK
  go_wp2_with fail
  go_ret
  exact ⟨by rw [HF.out]; rfl, HW2.out⟩
 | true =>
  cases hn : nm.isEmpty with
  | false =>
   rw [hn] at hemn
   have HF : Hid (ANS = false) := h_ (by rw [HPK.out, hn]; rfl)
   clear HPK
   go_wp2_with fail
   go_ret
   exact ⟨by rw [HF.out]; rfl, HW2.out⟩
  | true =>
   rw [hn] at hemn
   have HPK2 : Hid (ANS = (if op = 1 then decide (int = 0) && validV vk vi vs else if op = 2 then nullV vk vi vs else if op = 24 then nullV vk vi vs && (decide (0 <= int) && decide (int < 13)) else decide (int = 0) && nullV vk vi vs)) := h_ (by rw [HPK.out, hn]; rfl)
   clear HPK
   by_cases h1 : op = 1
   ·subst h1
    have HP : Hid (ANS = (decide (int = 0) && validV vk vi vs)) := h_ (by rw [HPK2.out]; rfl)
    clear HPK2
    by_cases hi0 : int = 0
    ·subst hi0
     go_wp2_with fail
     refine (valid_call vk vi vs w2 HVS.out).mono ?_
     rintro e w3 ⟨rfl, hw3⟩
     have HW3 := t_ HW2 hw3
     clear hw3
     go_wp2_with fail
     go_ret
     exact ⟨by rw [HP.out]; rfl, HW3.out⟩
    ·have hib : (int == 0) = false := by simpa using hi0
     have HF : Hid (ANS = false) := h_ (by rw [HP.out, decide_eq_false hi0]; rfl)
     clear HP
     go_wp2_with fail
     go_ret
     exact ⟨by rw [HF.out]; rfl, HW2.out⟩
   have h1b : (op == 1) = false := by simpa using h1
   by_cases h24 : op = 24
   ·subst h24
    have HP : Hid (ANS = (nullV vk vi vs && (decide (0 <= int) && decide (int < 13)))) := h_ (by rw [HPK2.out]; rfl)
    clear HPK2
    by_cases hlo : int < 0
    ·have HF : Hid (ANS = false) := h_ (by rw [HP.out, decide_eq_false (by omega : ¬ 0 <= int), Bool.false_and, Bool.and_false])
     clear HP
     go_wp2_with fail
     go_ret
     exact ⟨by rw [HF.out]; rfl, HW2.out⟩
    ·by_cases hhi : 13 <= int
     ·have HF : Hid (ANS = false) := h_ (by rw [HP.out, decide_eq_false (by omega : ¬ int < 13), Bool.and_false, Bool.and_false])
      clear HP
      go_wp2_with fail
      go_ret
      exact ⟨by rw [HF.out]; rfl, HW2.out⟩
     ·have HF : Hid (ANS = nullV vk vi vs) := h_ (by rw [HP.out, decide_eq_true (by omega : 0 <= int), decide_eq_true (by omega : int < 13), Bool.and_true, Bool.and_true])
      clear HP
      cases he : vs.isEmpty <;> rw [he] at hem <;> go_wp2_with fail
      all_goals (go_ret; refine ⟨congrArg (fun z => Ending.returned (.bool z)) ?_, HW2.out⟩; rw [HF.out]; clear HF; simp_all [nullV])
   have h24b : (op == 24) = false := by simpa using h24
   by_cases h2 : op = 2
   ·subst h2
    have HF : Hid (ANS = nullV vk vi vs) := h_ (by rw [HPK2.out]; rfl)
    clear HPK2
    cases he : vs.isEmpty <;> rw [he] at hem <;> go_wp2_with fail
    all_goals (go_ret; refine ⟨congrArg (fun z => Ending.returned (.bool z)) ?_, HW2.out⟩; rw [HF.out]; clear HF; simp_all [nullV])
   have h2b : (op == 2) = false := by simpa using h2
   have HP : Hid (ANS = (decide (int = 0) && nullV vk vi vs)) := h_ (by rw [HPK2.out, if_neg h1, if_neg h2, if_neg h24])
   clear HPK2 h1 h2 h24
   by_cases hi0 : int = 0
   ·subst hi0
    have HF : Hid (ANS = nullV vk vi vs) := h_ (by rw [HP.out]; rfl)
    clear HP
    cases he : vs.isEmpty <;> rw [he] at hem <;> go_wp2_with fail
    all_goals (go_ret; refine ⟨congrArg (fun z => Ending.returned (.bool z)) ?_, HW2.out⟩; rw [HF.out]; clear HF; simp_all [nullV])
   ·have hib : (int == 0) = false := by simpa using hi0
    have HF : Hid (ANS = false) := h_ (by rw [HP.out, decide_eq_false hi0]; rfl)
    clear HP
    go_wp2_with fail
    go_ret
    exact ⟨by rw [HF.out]; rfl, HW2.out⟩
end Go.Proofs.YtnlimlboedohgaaGreatDoor.Px

