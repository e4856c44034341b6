/-
  What a call of a function that only makes new memory yields; an expression's cells for a walk.
-/
import Derived.Test.YtlimlmjljjmcpaaGreatDoorPxRep
import Derived.Test.YtlimlmjljjmcpaaGreatDoorPxP
import Derived.Test.YtlimlmjljjmcpaaGreatDoorPsB
import Derived.Test.YtlimlmjljjmcpaaGreatDoorGrA
namespace Go.Proofs.YtlimlmjljjmcpaaGreatDoor.Px
open Go Go.RowKit Go.Proofs.YtlimlmjljjmcpaaGreatDoor.Ps
set_option linter.unusedVariables false
set_option linter.unusedSimpArgs false
/-- the call yields this value and leaves the old memory -/
def Ret (w : World) (v : Value) (e : Ending) (w' : World) : Prop := e = .returned v ∧ Below w.heap.size w w'
theorem Ret.at_ {w w1 : World} {v : Value} {F : FuncId} {args : Array Value} (h : Calls Tryz.prog F args w1 (Ret w1 v)) (hb : Below w.heap.size w w1) : Calls Tryz.prog F args w1 (Ret w v) :=
  h.mono fun e w' ⟨h1, h2⟩ => ⟨h1, hb.trans (h2.mono hb.size)⟩
/-- for a region's family of worlds -/
theorem Ret.fam {w w1 : World} {v : Value} {F : FuncId} {args : Array Value} (h : Calls Tryz.prog F args w1 (Ret w1 v)) (hb : Below w.heap.size w w1) : Calls Tryz.prog F args w1 (fun e w' => e = .returned v ∧ Below w.heap.size w w') :=
  h.mono fun e w' ⟨h1, h2⟩ => ⟨h1, hb.trans (h2.mono hb.size)⟩
theorem XR.lits {w : World} {op int vk vi : Int} {vs nm : S} {l : List X} {cs : List Value} (h : XR w (.mk op int vk vi vs nm l) cs) :
    ∃ a m, cs = [.int .i64 op, .int .i64 int, .int .i64 vk, .int .i64 vi, .string ⟨vs.toArray⟩, .string ⟨nm.toArray⟩, .slice a l.length m] ∧ XL w l (.slice a l.length m) ∧ vs.length ≤ maxLen ∧ nm.length ≤ maxLen ∧ l.length ≤ 140737488351232 := by
  obtain ⟨a, m, e, hl, h1, h2⟩ := h.cells
  refine ⟨a, m, e, hl, h1, h2, ?_⟩
  have := (slice_len Tryz.underlying24 (by kernel_rfl : Tryz.prog.bytesOf 26 = 88) (by decide) hl).2
  omega
end Go.Proofs.YtlimlmjljjmcpaaGreatDoor.Px
