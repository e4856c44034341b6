/-
  Oracles out of the shelf: strings.ToUpper and strings.ToLower on ASCII texts, strings.Fields on one known text.
-/
import Derived.Test.YtnlimlboedohgaaGreatDoorAxOrc
import Derived.Lib.Case
import Derived.Lib.ItoaNum
set_option linter.unusedVariables false
namespace Go.Proofs.YtnlimlboedohgaaGreatDoor.Ax
open Go Go.RowKit
def asciiN : List Nat -> Bool
 | [] => true
 | x :: l => bif Nat.ble x 127 then asciiN l else false
theorem asciiN_spec : ∀ {l : List Nat}, asciiN l = true -> ∀ x ∈ l, x < 128
 | [], _, x, hx => by cases hx
 | y :: l, h, x, hx => by
  unfold asciiN at h
  cases hb : Nat.ble y 127 with
  | false => rw [hb] at h; cases h
  | true =>
   rw [hb, cond_true] at h
   rcases List.mem_cons.1 hx with rfl | hx
   ·have := Nat.le_of_ble_eq_true hb
    omega
   ·exact asciiN_spec h x hx
def up1 (x : Nat) : Nat := bif Nat.ble 97 x && Nat.ble x 122 then x - 32 else x
def low1 (x : Nat) : Nat := bif Nat.ble 65 x && Nat.ble x 90 then x + 32 else x
theorem up1_eq : ∀ x, x < 128 -> Lib.upperB (UInt8.ofNat x) = UInt8.ofNat (up1 x) /\ up1 x < 256 := by decide +kernel
theorem low1_eq : ∀ x, x < 128 -> Lib.lowerB (UInt8.ofNat x) = UInt8.ofNat (low1 x) /\ low1 x < 256 := by decide +kernel
/-- what a text function does, byte for byte -/
def TextLaw (P : Program) (f : FuncId) (m : UInt8 -> UInt8) : Prop := ∀ (s : ByteArray) (w : World), s.size <= 140737488355328 -> (∀ (j : Nat) (b : UInt8), s.data.toList[j]? = some b -> b.toNat < 128) -> Calls P f #[.string s] w fun e w' => e = .returned (.string ⟨(s.data.toList.map m).toArray⟩) /\ Below w.heap.size w w'
def textO (f0 : FuncId) (m : Nat -> Nat) : CallR := fun who args h nx =>
 match who, args with
 | .fn f, [.str l] => bif Nat.beq f f0 then (bif asciiN l && Nat.ble l.length 1000000 then forceL (l.map m) fun r => some (.ret (.str r), h, nx) else none) else none
 | _, _ => none
theorem ofCodes_list (l : List Nat) : (ofCodes l).data.toList = l.map UInt8.ofNat := by
 unfold ofCodes
 simp
theorem textO_ok {P : Program} {f0 : FuncId} {m : Nat -> Nat} {mB : UInt8 -> UInt8} (hm : ∀ x, x < 128 -> mB (UInt8.ofNat x) = UInt8.ofNat (m x) /\ m x < 256) (hr : Runs P f0) (hlaw : TextLaw P f0 mB) : CallOK P (textO f0 m) := by
 refine ⟨fun f args h nx re h2 nx2 hc => ?_, fun G args h nx re h2 nx2 hc => by cases hc⟩
 unfold textO at hc
 split at hc
 case h_2 => cases hc
 rename_i f l ea
 cases ea
 cases hb : Nat.beq f f0 with
 | false => rw [hb] at hc; cases hc
 | true =>
  rw [hb, cond_true] at hc
  cases hb2 : asciiN l && Nat.ble l.length 1000000 with
  | false => rw [hb2] at hc; cases hc
  | true =>
   rw [hb2, cond_true, forceL_eq] at hc
   cases hc
   rw [Bool.and_eq_true] at hb2
   have e1 := Nat.eq_of_beq_eq_true hb
   subst e1
   have ha := asciiN_spec hb2.1
   have hlen := Nat.le_of_ble_eq_true hb2.2
   refine ⟨hr, fun c g w vs hv hw K hK => ?_⟩
   obtain ⟨v, rfl⟩ : ∃ v, vs = [v] := by
    have := hv.len
    match vs, this with
    | [v], _ => exact ⟨v, rfl⟩
   have hv0 := hv.at_ 0 (by simp) (by simp)
   simp only [List.getElem_cons_zero] at hv0
   cases hv0
   refine (hlaw (ofCodes l) w ?_ ?_).mono fun e w' ⟨he, hbel⟩ => ?_
   ·have : (ofCodes l).size = l.length := by
     have h1 : (ofCodes l).size = (ofCodes l).data.toList.length := by rw [Array.length_toList]; rfl
     rw [h1, ofCodes_list, List.length_map]
    omega
   ·intro j b hj
    rw [ofCodes_list] at hj
    obtain ⟨x, hx, rfl⟩ := List.mem_map.1 (List.mem_of_getElem? hj)
    have := ha x hx
    rw [UInt8.toNat_ofNat']
    omega
   ·subst he
    refine hK g _ w' ?_ (Ext.refl g) (hw.under hbel)
    rw [ofCodes_list, List.map_map]
    have e2 : (l.map (mB ∘ UInt8.ofNat)) = (l.map m).map UInt8.ofNat := by
     rw [List.map_map]
     exact List.map_congr_left fun x hx => (hm x (ha x hx)).1
    rw [e2]
    exact .str fun x hx => by
     obtain ⟨y, hy, rfl⟩ := List.mem_map.1 hx
     exact (hm y (ha y hy)).2
/-- strings.Fields of one text -/
def FieldsLaw (P : Program) (f : FuncId) (ty : TypeId) (T : List Nat) (L : List (List Nat)) : Prop := ∀ (s : ByteArray) (w : World), TabW w -> s.data.toList = T.map UInt8.ofNat -> Calls P f #[.string s] w fun e w' => e = .returned (.slice (some ⟨w.heap.size, 0, none⟩) L.length L.length) /\ w' = w.alloc (.cells (L.map fun l => Value.string (ofCodes l)).toArray ty)
def fieldsO (f0 : FuncId) (ty : TypeId) (T : List Nat) (L : List RV) (n : Nat) : CallR := fun who args h nx =>
 match who, args with
 | .fn f, [.str l] => bif Nat.beq f f0 then (bif eqLN l T then forceN (nx + 1) fun nx' => putT h nx (.cells ty false 1 [(0, L)]) fun h' => some (.ret (.sl nx 0 0 n 1), h', nx') else none) else none
 | _, _ => none
theorem fieldsO_ok {P : Program} {f0 : FuncId} {ty : TypeId} {T : List Nat} {L : List (List Nat)} (hL : ∀ l ∈ L, ∀ x ∈ l, x < 256) (hr : Runs P f0) (hlaw : FieldsLaw P f0 ty T L) : CallOK P (fieldsO f0 ty T (L.map .str) L.length) := by
 refine ⟨fun f args h nx re h2 nx2 hc => ?_, fun G args h nx re h2 nx2 hc => by cases hc⟩
 unfold fieldsO at hc
 split at hc
 case h_2 => cases hc
 rename_i f l ea
 cases ea
 cases hb : Nat.beq f f0 with
 | false => rw [hb] at hc; cases hc
 | true =>
  rw [hb, cond_true] at hc
  cases hb2 : eqLN l T with
  | false => rw [hb2] at hc; cases hc
  | true =>
   rw [hb2, cond_true, forceN_eq, putT_eq] at hc
   cases hc
   have e1 := Nat.eq_of_beq_eq_true hb
   have e2 := eqLN_iff.1 hb2
   subst e1 e2
   refine ⟨hr, fun c g w vs hv hw K hK => ?_⟩
   obtain ⟨v, rfl⟩ : ∃ v, vs = [v] := by
    have := hv.len
    match vs, this with
    | [v], _ => exact ⟨v, rfl⟩
   have hv0 := hv.at_ 0 (by simp) (by simp)
   simp only [List.getElem_cons_zero] at hv0
   cases hv0
   have ht : TabW w := fun b l hb => by
    obtain ⟨t, f, h1⟩ := c.tab b l hb
    exact ⟨t, f, hw.keep b _ h1⟩
   refine (hlaw (ofCodes l) w ht (ofCodes_list l)).mono fun e w' ⟨he, hw'⟩ => ?_
   subst he hw'
   have hrw := hw.alloc (G := nx) (nx' := nx + 1) (F' := c.F) (fun e => hw.free nx e (Nat.le_refl _)) (fun x f hx => ⟨hx, by have := (hw.res x f hx).1; omega⟩) (Nat.le_succ _) (Nat.lt_succ_self _) (vs := (L.map fun l => Value.string (ofCodes l)).toArray) (elem := ty) (cs := L.map .str) (by simp) fun j h1 h2 => by
    simp only [List.getElem_map, List.getElem_toArray]
    exact .str (hL _ (List.getElem_mem (by simpa using h1)))
   refine hK _ _ _ (.sl (q := w.heap.size) (n := (L.map fun l => Value.string (ofCodes l)).toArray.size) ?_ (Nat.le_refl _) ?_) (gSet_ext (hw.free _ _ (Nat.le_refl _))) hrw
   ·unfold gSet
    simp
   ·simp
/-- strconv.Itoa of some known numbers -/
def ItoaLaw (P : Program) (f : FuncId) : Prop := ∀ (n : Int) (w : World), -9223372036854775808 <= n -> n <= 9223372036854775807 -> TabW w -> Calls P f #[.int .i64 n] w fun e w' => e = .returned (.string ⟨(Lib.itoa n).toArray⟩) /\ Below w.heap.size w w'
def findI : List (Value × List Nat) -> Value -> Option (List Nat)
 | [], _ => none
 | (u, l) :: r, v => bif eqV u v then some l else findI r v
theorem findI_mem : ∀ {L : List (Value × List Nat)} {v : Value} {l : List Nat}, findI L v = some l -> (v, l) ∈ L
 | [], v, l, h => by cases h
 | (u, l0) :: r, v, l, h => by
  unfold findI at h
  cases e : eqV u v with
  | true =>
   rw [e, cond_true] at h
   cases h
   rw [eqV_eq e]
   exact List.mem_cons_self
  | false =>
   rw [e, cond_false] at h
   exact List.mem_cons_of_mem _ (findI_mem h)
def itoaO (f0 : FuncId) (L : List (Value × List Nat)) : CallR := fun who args h nx =>
 match who, args with
 | .fn f, [.lit v] => bif Nat.beq f f0 then (match findI L v with
  | some l => some (.ret (.str l), h, nx)
  | none => none) else none
 | _, _ => none
theorem itoaO_ok {P : Program} {f0 : FuncId} {L : List (Value × List Nat)} (hL : ∀ p ∈ L, ∃ n : Int, p.1 = .int .i64 n /\ -9223372036854775808 <= n /\ n <= 9223372036854775807 /\ Lib.itoa n = p.2.map UInt8.ofNat /\ ∀ x ∈ p.2, x < 256) (hr : Runs P f0) (hlaw : ItoaLaw P f0) : CallOK P (itoaO f0 L) := by
 refine ⟨fun f args h nx re h2 nx2 hc => ?_, fun G args h nx re h2 nx2 hc => by cases hc⟩
 unfold itoaO at hc
 split at hc
 case h_2 => cases hc
 rename_i f v0 ea
 cases ea
 cases hb : Nat.beq f f0 with
 | false => rw [hb] at hc; cases hc
 | true =>
  rw [hb, cond_true] at hc
  split at hc <;> cases hc
  rename_i l hl
  have e1 := Nat.eq_of_beq_eq_true hb
  subst e1
  obtain ⟨n, hn, h1, h2, h3, h4⟩ := hL _ (findI_mem hl)
  simp only at hn h3 h4
  subst hn
  refine ⟨hr, fun c g w vs hv hw K hK => ?_⟩
  obtain ⟨v, rfl⟩ : ∃ v, vs = [v] := by
   have := hv.len
   match vs, this with
   | [v], _ => exact ⟨v, rfl⟩
  have hv0 := hv.at_ 0 (by simp) (by simp)
  simp only [List.getElem_cons_zero] at hv0
  cases hv0
  have ht : TabW w := fun b l hb => by
   obtain ⟨t, f, h1⟩ := c.tab b l hb
   exact ⟨t, f, hw.keep b _ h1⟩
  refine (hlaw n w h1 h2 ht).mono fun e w' ⟨he, hbel⟩ => ?_
  subst he
  refine hK g _ w' ?_ (Ext.refl g) (hw.under hbel)
  rw [h3]
  exact .str h4
end Go.Proofs.YtnlimlboedohgaaGreatDoor.Ax
