import Derived.Test.YtlimlmjljjmcpaaGreatDoorAxB
set_option linter.unusedVariables false
set_option maxRecDepth 100000
namespace Go.Proofs.YtlimlmjljjmcpaaGreatDoor.Ax
open Go Go.RowKit
theorem b1G{P:Program}{orc:Q_}(horc:a0c P orc){d:Nat}{f:FuncId}{args:List RV}(hr:a3z (a0y P orc (a0E P) d (.fn f) args .leaf 0)=true)(env:Nat->Value)(vs:List Value)(hv:RL (fun _ _=>none) env args vs)(w:World)(ht:a0O w)(he:b2i (fun q=>w.heap[q]?) env) :
  Calls P f vs.toArray w fun e w'=>e=.returned (.bool true)/\Below w.heap.size w w':=by
 obtain⟨h',nx',hx⟩:=a7K hr
 refine a4r horc hx env vs hv w ht he _ fun g v w' k1 _ k3=>?_
 cases k1
 exact⟨rfl,k3⟩
theorem b5j:a3z (a0y Tryz.prog c2Q (a0E Tryz.prog) 100 (.fn 9) [] .leaf 0)=true:=by kernel_rfl
theorem b4E(w:World)(ht:a0O w):Calls Tryz.prog 9 #[] w fun e w'=>e=.returned (.bool true)/\Below w.heap.size w w':=
 b1G c0q b5j (fun _=>.tuple #[]) [] b1n w ht trivial
end Go.Proofs.YtlimlmjljjmcpaaGreatDoor.Ax
