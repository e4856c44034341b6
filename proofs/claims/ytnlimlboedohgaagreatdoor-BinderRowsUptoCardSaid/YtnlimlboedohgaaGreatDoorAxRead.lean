/-
  Operations that read memory.
-/
import Derived.Test.YtnlimlboedohgaaGreatDoorAxA
import Derived.Lib.Builder
import Derived.Lib.UnsafeStr
namespace Go.Proofs.YtnlimlboedohgaaGreatDoor.Ax
open Go.RowKit
set_option linter.unusedVariables false
set_option linter.unusedSimpArgs false

theorem rowAt_mono {P : Program} {fits : TypeId -> Bool} : ∀ {d : Nat} {e : TypeId} {c c' off n : Nat}, c <= c' -> rowAt P fits d e c off n = true -> rowAt P fits d e c' off n = true
 | 0, e, c, c', off, n, _, h => by cases h
 | d + 1, e, c, c', off, n, hc, h => by
  unfold rowAt at h |-
  dsimp only at h |-
  split at h
  ·cases h
  ·rename_i hs
   rw [if_neg hs]
   rw [Bool.or_eq_true] at h |-
   rcases h with h | h
   ·left
    simp only [Bool.and_eq_true, decide_eq_true_eq] at h |-
    exact ⟨⟨h.1.1, by omega⟩, h.2⟩
   ·right
    rw [Bool.and_eq_true] at h |-
    refine ⟨?_, h.2⟩
    simp only [decide_eq_true_eq] at h |-
    omega
theorem liesAt_mono {P : Program} : ∀ {d : Nat} {e : TypeId} {c c' off : Nat} {u : TypeId} {n : Nat}, c <= c' -> liesAt P d e c off u n = true -> liesAt P d e c' off u n = true
 | 0, e, c, c', off, u, n, _, h => by cases h
 | d + 1, e, c, c', off, u, n, hc, h => by
  unfold liesAt at h |-
  rw [Bool.or_eq_true] at h |-
  rcases h with h | h
  ·exact .inl (rowAt_mono hc h)
  ·right
   split at h
   ·exact liesAt_mono hc h
   ·cases h
theorem byteL_some {β : Type} : ∀ {l : List RV} {k : List Nat -> Option β} {y : β}, byteL l k = some y -> ∃ b, k b = some y /\ l = b.map (fun n => .lit (.int .u8 (.ofNat n))) /\ ∀ x ∈ b, x < 256
 | [], k, y, h => ⟨[], h, rfl, fun x hx => by cases hx⟩
 | r :: l, k, y, h => by
  unfold byteL at h
  split at h <;> try cases h
  ·rename_i e
   cases e
  ·rename_i n l' e
   cases e
   cases hb : Nat.ble (n + 1) 256 with
   | false => rw [hb] at h; cases h
   | true =>
    rw [hb, cond_true] at h
    obtain ⟨b, h1, h2, h3⟩ := byteL_some h
    refine ⟨n :: b, h1, by rw [h2]; rfl, fun x hx => ?_⟩
    rcases List.mem_cons.1 hx with rfl | hx
    ·exact Nat.le_of_ble_eq_true hb
    ·exact h3 x hx
theorem bytes_vals {g : Gm} {env : Nat -> Value} : ∀ {b : List Nat} {vs : List Value}, RL g env (b.map fun n => .lit (.int .u8 (.ofNat n))) vs -> vs = byteVals b
 | [], vs, h => List.eq_nil_of_length_eq_zero (by rw [<- h.len]; rfl)
 | n :: b, [], h => by have := h.len; simp at this
 | n :: b, v :: vs, h => by
  obtain ⟨h1, h2⟩ := h.tail
  cases h1
  rw [bytes_vals h2]
  rfl
theorem push_bytes : ∀ (b : List Nat) (s : ByteArray), (b.map Int.ofNat).foldl (fun r n => r.push (UInt8.ofNat n.toNat)) s = ⟨(s.data.toList ++ b.map UInt8.ofNat).toArray⟩
 | [], s => by simp
 | n :: b, s => by
  rw [List.map_cons, List.foldl_cons, push_bytes b]
  simp [ByteArray.push]
section
variable {P : Program} {c : Cx} {g : Gm} {h : Hp} {nx nx' : Nat} {w w' : World} {t : Tr RV} {ρ : Operand -> Value}
theorem Lies.shape {env : Nat -> Value} {q n : Nat} {elem : TypeId} {z : Bool} {cs : List RV} (hl : Lies g env w q n elem z cs) : w.shape? q = some (elem, n) := by
 obtain ⟨arr, fz, h1, _, h0, _⟩ := hl
 simp [World.shape?, h1, h0]
theorem bytes_does {r r' : RV} {v : Value} (hf : bytesR h r = some r') (hr : R g c.env r v) (hw : RW c g h nx w) : Does P c c g (Conv.bytesToString v) w r' h nx := by
 unfold bytesR at hf
 split at hf <;> try cases hf
 ·rename_i G e off n
  split at hf <;> try cases hf
  rename_i el z nxe cs hc
  rw [dropR_eq] at hf
  obtain ⟨h1, h2⟩ := takeO_some hf
  obtain ⟨b, h3, h4, h5⟩ := byteL_some h2
  cases h3
  cases hr with
  | sl hq hcap hn =>
   rename_i q nq cap
   have hl := (hw.at_ hc hq).2.1
   rw [List.length_drop] at h1
   by_cases h0 : n = 0
   ·subst h0
    have hb : b = [] := by
     have := congrArg List.length h4
     simp at this
     exact List.eq_nil_of_length_eq_zero this.symm
    subst hb
    refine ⟨g, .string (ofCodes []), w, ?_, .str (fun x hx => by cases hx), Ext.refl g, hw⟩
    simp [Conv.bytesToString, loadCells, loadCellsFrom]
    rfl
   obtain ⟨vs, hrange, hlen, hrl⟩ := hl.range (off := off) (n := n) (by omega)
   rw [h4] at hrl
   have hvs := bytes_vals hrl
   refine ⟨g, .string (ofCodes b), w, ?_, .str h5, Ext.refl g, hw⟩
   have hload : (loadCells ⟨q, off, none⟩ n).run P w = .ok ((b.map Int.ofNat).map (Value.int .u8)).toArray w := by
    have e : (b.map Int.ofNat).map (Value.int .u8) = vs := by rw [hvs]; simp [byteVals]
    rw [e, <- hlen]
    exact run_loadCells_list w ⟨q, off, none⟩ vs fun j v hj => by rw [add_off]; exact hrange j v hj
   rw [run_bytesToString w _ n cap _ hload, push_bytes]
   rfl
 ·cases hr with
  | s0 hq =>
   refine ⟨g, .string (ofCodes []), w, ?_, .str (fun x hx => by cases hx), Ext.refl g, hw⟩
   simp [Conv.bytesToString, loadCells, loadCellsFrom]
   rfl
 ·cases hr with
  | se a cap =>
   refine ⟨g, .string (ofCodes []), w, ?_, .str (fun x hx => by cases hx), Ext.refl g, hw⟩
   simp [Conv.bytesToString, loadCells, loadCellsFrom]
   rfl
 ·cases hr
  refine ⟨g, .string (ofCodes []), w, ?_, .str (fun x hx => by cases hx), Ext.refl g, hw⟩
  simp [Conv.bytesToString]
  rfl
theorem unsafe_does {src dst : TypeId} {r r' : RV} {v : Value} (hf : unsafeR P h src dst r = some r') (hr : R g c.env r v) (hw : RW c g h nx w) : Does P c c g (convert src dst v) w r' h nx := by
 unfold unsafeR at hf
 split at hf <;> try cases hf
 ·rename_i el G e off hs hd
  split at hf <;> try cases hf
  rename_i i el' z nxe cs hi hc
  split at hf <;> try cases hf
  rename_i r0 hn
  rw [nthR_eq] at hn
  have hlt := (List.getElem?_eq_some_iff.1 hn).1
  cases hb : Nat.ble 1 i.size with
  | false => rw [hb] at hf; cases hf
  | true =>
   rw [hb, cond_true] at hf
   cases hf
   have h1 := Nat.le_of_ble_eq_true hb
   cases hr with
   | ptr hq =>
    rename_i q n
    have hl := (hw.at_ hc hq).2.1
    have hle : cs.length <= n := by obtain ⟨_, _, _, _, _, h2, _⟩ := hl; exact h2
    exact ⟨g, _, w, Lib.run_to_unsafe w ⟨q, off, none⟩ hs hd hi (by omega) hl.shape (by show off < n; omega), .ptr hq, Ext.refl g, hw⟩
 ·rename_i u G e off hs hd
  split at hf <;> try cases hf
  rename_i i el z nxe cs hi hc
  cases hb : liesAt P P.depth el (cs.length / P.cellsOf el) off u 1 with
  | false => rw [hb] at hf; cases hf
  | true =>
   rw [hb, cond_true] at hf
   cases hf
   cases hr with
   | ptr hq =>
    rename_i q n
    have hl := (hw.at_ hc hq).2.1
    have hle : cs.length <= n := by obtain ⟨_, _, _, _, _, h2, _⟩ := hl; exact h2
    exact ⟨g, _, w, Lib.run_from_unsafe w ⟨q, off, none⟩ hs hd hi hl.shape (liesAt_mono (Nat.div_le_div_right hle) hb), .ptr hq, Ext.refl g, hw⟩
 ·rename_i hs hd
  cases hr
  refine ⟨g, .pointer none, w, ?_, .lit _, Ext.refl g, hw⟩
  simp [convert, run_underlying hs, run_underlying hd, Conv.unsafePointer]
 ·rename_i hs hd
  cases hr
  refine ⟨g, .pointer none, w, ?_, .lit _, Ext.refl g, hw⟩
  simp [convert, run_underlying hs, run_underlying hd, Conv.unsafePointer]
/-! ### maps -/
theorem bytes_beq2 (a b : ByteArray) : (a == b) = true ↔ a = b := by
 obtain ⟨x⟩ := a
 obtain ⟨y⟩ := b
 constructor
 ·intro h
  have e : x = y := by simpa using (show (x == y) = true from h)
  rw [e]
 ·intro h
  cases h
  show (x == x) = true
  simp
theorem beq_codes {l m : List Nat} (h1 : ∀ x ∈ l, x < 256) (h2 : ∀ x ∈ m, x < 256) : (ofCodes l == ofCodes m) = eqLN l m := by
 rw [Bool.eq_iff_iff, bytes_beq2, eqLN_iff]
 constructor
 ·intro e2
  refine map_ofNat_inj h1 h2 ?_
  have := congrArg ByteArray.toList e2
  rw [toList_ofCodes, toList_ofCodes] at this
  exact this
 ·intro e
  rw [e]
theorem keyEq_same {env : Nat -> Value} {d : TypeDesc} {x k : RV} {u v : Value} {q : Bool} (hk : keyEq x k = some q) (hd : flatKey d x = true) (hx : R g env x u) (hv : R g env k v) : Instr.sameNow d u v = some q := by
 unfold keyEq at hk
 split at hk <;> try cases hk
 ·cases hx with
  | str h1 =>
   cases hv with
   | str h2 =>
    cases d <;> try cases hd
    simp only [Instr.sameNow, beq_codes h1 h2]
 ·rename_i j a k b
  cases hx
  cases hv
  cases d <;> try cases hd
  split at hk <;> cases hk
  rename_i e
  subst e
  have e4 : Nat.beq a b = decide (a = b) := by
   rw [Bool.eq_iff_iff, Nat.beq_eq, decide_eq_true_iff]
  rw [e4]
  simp [Instr.sameNow]
  by_cases hab : a = b
  ·simp [hab]
  ·rw [decide_eq_false hab]
   exact beq_eq_false_iff_ne.2 fun hh => hab (by have := hh; omega)
 ·cases hx
  cases hv
  cases d <;> try cases hd
  simp [Instr.sameNow]
/-- the entries of a map -/
def ES (g : Gm) (env : Nat -> Value) (es : List (RV × RV × Nat)) (l : List MapEntry) : Prop :=
 es.length = l.length /\ ∀ j (h1 : j < es.length) (h2 : j < l.length), R g env es[j].1 l[j].key /\ R g env es[j].2.1 l[j].val /\ l[j].born = es[j].2.2
theorem ES.tail {env : Nat -> Value} {x : RV × RV × Nat} {es : List (RV × RV × Nat)} {y : MapEntry} {l : List MapEntry} (hh : ES g env (x :: es) (y :: l)) : (R g env x.1 y.key /\ R g env x.2.1 y.val /\ y.born = x.2.2) /\ ES g env es l :=
 ⟨hh.2 0 (by simp) (by simp), by have := hh.1; simpa using this, fun j h1 h2 => hh.2 (j + 1) (by simpa using h1) (by simpa using h2)⟩
theorem findE_now {env : Nat -> Value} {d : TypeDesc} {x : RV} {u : Value} (hd : flatKey d x = true) (hx : R g env x u) : ∀ {es : List (RV × RV × Nat)} {l : List MapEntry} {r : Option RV} (i : Nat), findE es x = some r -> ES g env es l -> (r = none /\ Instr.findNow d u l i = some none) \/ ∃ r' j v, r = some r' /\ Instr.findNow d u l i = some (some (j, v)) /\ R g env r' v
 | [], l, r, i, hf, hl => by
  cases hf
  have : l = [] := List.eq_nil_of_length_eq_zero (by rw [<- hl.1]; rfl)
  subst this
  exact .inl ⟨rfl, rfl⟩
 | (k, v, b) :: es, [], r, i, hf, hl => by have := hl.1; simp at this
 | (k, v, b) :: es, y :: l, r, i, hf, hl => by
  obtain ⟨⟨h1, h2, h3⟩, h4⟩ := hl.tail
  unfold findE at hf
  split at hf <;> try cases hf
  ·rename_i hk
   have := keyEq_same hk hd hx h1
   exact .inr ⟨v, i, y.val, rfl, by simp [Instr.findNow, this], h2⟩
  ·rename_i hk
   have := keyEq_same hk hd hx h1
   rcases findE_now hd hx (i + 1) hf h4 with ⟨a, e⟩ | ⟨r', j, v', a, e, f⟩
   ·exact .inl ⟨a, by simp [Instr.findNow, this, e]⟩
   ·exact .inr ⟨r', j, v', a, by simp [Instr.findNow, this, e], f⟩
theorem run_checkKey {kt : TypeId} {d : TypeDesc} {x : RV} {u : Value} {env : Nat -> Value} (hu : P.underlying kt = some d) (hd : flatKey d x = true) (hx : R g env x u) (b : Bool) (w : World) : (Instr.checkKey b 10000 kt u).run P w = .ok () w := by
 have : ∀ n, (Instr.checkKey b (n + 1) kt u).run P w = .ok () w := fun n => by
  unfold Instr.checkKey
  rw [Sem.run_bind, run_underlying hu w]
  cases d <;> (try cases hd) <;> rfl
 exact this 9999
theorem zero1_val {et : TypeId} {z : RV} (hz : zero1 P et = some z) : ∃ v, (∀ w, (zeroValue et).run P w = .ok v w) /\ z = ofV v := by
 unfold zero1 at hz
 split at hz <;> try cases hz
 rename_i i hi
 split at hz <;> try cases hz
 rename_i v hv
 rw [forceV_eq] at hz
 cases hz
 exact ⟨v, fun w => by simp [zeroValue, typeInfo, hi, hv], rfl⟩
theorem lookup_does {ty : TypeId} {m k r : RV} {ok : Bool} {vm vk : Value} (hf : lookupR P h ty m k ok = some r) (hm : R g c.env m vm) (hk : R g c.env k vk) (hw : RW c g h nx w) : Does P c c g (Instr.lookup ty vm vk ok) w r h nx := by
 unfold lookupR at hf
 split at hf <;> try cases hf
 rename_i kt et hu
 split at hf <;> try cases hf
 rename_i d z hd hz
 obtain ⟨zv, hzr, rfl⟩ := zero1_val hz
 cases hfk : flatKey d k with
 | false => rw [hfk] at hf; cases hf
 | true =>
  rw [hfk, cond_true] at hf
  have hck := fun b w => run_checkKey (P := P) hd hfk hk b w
  split at hf <;> try cases hf
  rename_i es hes
  split at hf <;> try cases hf
  rename_i r' hfe
  have fk : ∀ (l : List MapEntry), ES g c.env es l -> (r' = none /\ (Instr.findKey kt vk l).run P w = .ok none w) \/ ∃ r'' j v, r' = some r'' /\ (Instr.findKey kt vk l).run P w = .ok (some (j, v)) w /\ R g c.env r'' v := fun l hl => by
   rcases findE_now hfk hk 0 hfe hl with ⟨e, h3⟩ | ⟨r'', j, v, e, h3, h4⟩
   ·exact .inl ⟨e, by simp [Instr.findKey, run_underlying hd, h3]⟩
   ·exact .inr ⟨r'', j, v, e, by simp [Instr.findKey, run_underlying hd, h3], h4⟩
  have two : ∀ {x y : RV} {u v : Value}, R g c.env x u -> R g c.env y v -> R g c.env (.tup [x, y]) (.tuple #[u, v]) := fun a b => .tup rfl fun i k1 k2 => by
   rcases i with _ | _ | i
   ·exact a
   ·exact b
   ·simp at k1
    omega
  unfold entriesR at hes
  split at hes <;> try cases hes
  ·rename_i G
   split at hes <;> try cases hes
   rename_i ck hg
   obtain ⟨_, q, arr, h1, h2, h3, h4, h5⟩ := hw.ok G _ hg
   cases hm with
   | mp hq =>
    rename_i q' n'
    rw [h1] at hq
    cases hq
    rcases fk arr.toList ⟨by simpa using h4.symm, fun j a b => by simpa using h5 j a (by simpa using b)⟩ with ⟨rfl, hf⟩ | ⟨r'', j, v, rfl, hf, hv⟩ <;> cases ok
    ·exact ⟨g, zv, w, by simp [Instr.lookup, run_underlying hu, getObj, Sem.run, h3, hck, hf, hzr], ofV_R _ _ _, Ext.refl g, hw⟩
    ·exact ⟨g, .tuple #[zv, .bool false], w, by simp [Instr.lookup, run_underlying hu, getObj, Sem.run, h3, hck, hf, hzr], two (ofV_R _ _ _) (.lit _), Ext.refl g, hw⟩
    ·exact ⟨g, v, w, by simp [Instr.lookup, run_underlying hu, getObj, Sem.run, h3, hck, hf, hzr], hv, Ext.refl g, hw⟩
    ·exact ⟨g, .tuple #[v, .bool true], w, by simp [Instr.lookup, run_underlying hu, getObj, Sem.run, h3, hck, hf, hzr], two hv (.lit _), Ext.refl g, hw⟩
  ·cases hm
   rcases fk [] ⟨rfl, fun j a => absurd a (by simp)⟩ with ⟨rfl, hf⟩ | ⟨r'', j, v, rfl, hf, hv⟩ <;> cases ok
   ·exact ⟨g, zv, w, by simp [Instr.lookup, run_underlying hu, hck, hf, hzr], ofV_R _ _ _, Ext.refl g, hw⟩
   ·exact ⟨g, .tuple #[zv, .bool false], w, by simp [Instr.lookup, run_underlying hu, hck, hf, hzr], two (ofV_R _ _ _) (.lit _), Ext.refl g, hw⟩
   ·exact ⟨g, v, w, by simp [Instr.lookup, run_underlying hu, hck, hf, hzr], hv, Ext.refl g, hw⟩
   ·exact ⟨g, .tuple #[v, .bool true], w, by simp [Instr.lookup, run_underlying hu, hck, hf, hzr], two hv (.lit _), Ext.refl g, hw⟩
theorem lenMap_does {G q n ck : Nat} {es : List (RV × RV × Nat)} {ty tt : TypeId} {kt et : TypeId} (hu : P.underlying ty = some (.map kt et)) (hg : h.get G = some (.mp es ck)) (hq : g G 0 = some (q, n)) (hw : RW c g h nx w) : (Builtin.len_ #[ty] tt #[.map (some q)]).run P w = .ok (goInt es.length) w := by
 obtain ⟨_, q', arr, h1, h2, h3, h4, h5⟩ := hw.ok G _ hg
 rw [h1] at hq
 cases hq
 simp [Builtin.len_, run_underlying hu, getObj, Sem.run, h3, h4]
theorem read_sound {o : Oper} {r : RV} (ha : readR P t h o = some r) (hρ : ∀ x ∈ o.op.operands, R g c.env (evalR t x) (ρ x)) (hw : RW c g h nx w) : DoesN P c c g (execOp ρ o) w r h nx := by
 obtain ⟨dst, op, type, pos, after, guard⟩ := o
 unfold readR at ha
 simp only at ha hρ
 split at ha <;> try cases ha
 ·exact (does_load ha (hρ _ (by simp [Op.operands])) hw).next
 ·rename_i src dst' x
  split at ha
  ·rename_i e hs hd
   split at ha <;> try cases ha
   rename_i hu8
   obtain ⟨g', v, w', h1, h2⟩ := bytes_does (P := P) ha (hρ x (by simp [Op.operands])) hw
   refine (Does.next ⟨g', v, w', ?_, h2⟩)
   rw [<- h1]
   have hsl : ∀ {rx : RV} {xv : Value}, bytesR h rx = some r -> R g c.env rx xv -> ∃ a n k, xv = .slice a n k := fun {rx xv} ha hx => by
    unfold bytesR at ha
    split at ha <;> try cases ha
    all_goals (cases hx; exact ⟨_, _, _, rfl⟩)
   obtain ⟨a, n, k, hsl⟩ := hsl ha (hρ x (by simp [Op.operands]))
   rw [hsl]
   simp [convert, run_underlying hs, run_underlying hd, run_underlying hu8]
  ·exact (unsafe_does ha (hρ x (by simp [Op.operands])) hw).next
 ·rename_i ty m k ok
  exact (lookup_does ha (hρ m (by simp [Op.operands])) (hρ k (by simp [Op.operands])) hw).next
 ·rename_i args argTypes
  have hargs : ∀ x ∈ args, R g c.env (evalR t x) (ρ x) := fun x hx => hρ x (by simp [Op.operands, Call.operands, hx])
  split at ha <;> try cases ha
  rename_i x e1
  have ea : args = #[x] := by rw [<- Array.toArray_toList (xs := args), e1]
  subst ea
  have hx := hargs x (by simp)
  split at ha <;> try cases ha
  rename_i ty e2
  have et : argTypes = #[ty] := by rw [<- Array.toArray_toList (xs := argTypes), e2]
  subst et
  split at ha <;> try cases ha
  rename_i kt et hu
  split at ha <;> try cases ha
  ·rename_i G ex
   split at ha <;> try cases ha
   rename_i es ck hg
   rw [forceN_eq] at ha
   cases ha
   rw [ex] at hx
   generalize hxv : ρ x = xv at hx
   cases hx with
   | mp hq =>
    have h1 := lenMap_does (P := P) (tt := type) hu hg hq hw
    refine ⟨g, goInt es.length, w, ?_, .lit _, Ext.refl g, hw⟩
    simp [execOp, resolve, invoke, builtin, hxv, h1]
  ·rename_i ex
   rw [ex] at hx
   generalize hxv : ρ x = xv at hx
   cases hx
   refine ⟨g, goInt 0, w, ?_, .lit _, Ext.refl g, hw⟩
   simp [execOp, resolve, invoke, builtin, hxv, Builtin.len_, run_underlying hu]
end
end Go.Proofs.YtnlimlboedohgaaGreatDoor.Ax
