import Derived.Test.YtlimlmjljjmcpaaGreatDoorTbmF1
import Derived.Test.YtlimlmjljjmcpaaGreatDoorTbmF2
import Derived.Test.YtlimlmjljjmcpaaGreatDoorTbmF3
import Derived.Test.YtlimlmjljjmcpaaGreatDoorTbmF4
import Derived.Test.YtlimlmjljjmcpaaGreatDoorRows
import Derived.Test.YtlimlmjljjmcpaaGreatDoorCards
import Derived.ProofKit
import Derived.SevenTiedAt
set_option maxHeartbeats 0
set_option maxRecDepth 100000
namespace Go.Proofs.YtlimlmjljjmcpaaGreatDoor.printerTables
open Go
theorem c3b{a b:Bool}(h:a=true)(k:b=true):(a&&b)=true:=by rw[h,k];rfl
theorem closed:joinedFacts Tryz.pinned.checked.prog 7 Tryz.f7 (Rows.OpenSpec.upto Rows.printerTablesSpec).bare Rows.printerTablesUptoRow=true:=by
 unfold joinedFacts
 repeat' with_reducible apply c3b
 any_goals with_reducible exact b2c
 any_goals with_reducible exact a8c
 any_goals with_reducible exact b0s
 any_goals with_reducible exact b5w
 all_goals as_aux_lemma=>kernel_rfl
set_option maxRecDepth 100000
theorem c0i:Tryz.pinned.checked.prog.mainIs=some (Rows.printerTablesUptoCard.stood.harness.1,Rows.printerTablesUptoCard.stood.harness.2.toList):=by kernel_rfl
theorem b6X:true=Tryz.pinned.checked.prog.looks []:=by kernel_rfl
theorem b6Y{P:Program}(h:P.funcs.any Func.goes=false)(f:FuncId):P.goes f=false:=by
 have h1:∀x∈P.funcs,Func.goes x=false:=fun x hx=>by
  cases hg:Func.goes x with
  |false=>rfl
  |true=>
   have:P.funcs.any Func.goes=true:=Array.any_eq_true'.2 ⟨x,hx,hg⟩
   rw[h] at this
   cases this
 unfold Program.goes
 rw[h,Bool.and_false,Bool.or_false,List.any_eq_false]
 intro g _
 cases hf:P.funcs[g]? with
 |none=>simp
 |some fn=>simp[h1 fn (Array.mem_of_getElem? hf)]
theorem b2h:Tryz.pinned.checked.prog.funcs.any Func.goes=false:=by kernel_rfl
theorem b9I:false=Rows.printerTablesUptoRow.goesBy Tryz.pinned.checked.prog:=by
 unfold OpenClaim.goesBy Program.goesAt Program.goesFrom
 cases h:Tryz.pinned.checked.prog.funcNamed Rows.printerTablesUptoRow.func with
 |none=>rfl
 |some f=>
  rw[Option.any_some,b6Y b2h f]
  rfl
end Go.Proofs.YtlimlmjljjmcpaaGreatDoor.printerTables
