import Derived.Test.YtlimlmjljjmcpaaGreatDoorRows
import Derived.ProofKit
import Derived.JoinedOf
set_option maxRecDepth 100000
namespace Go.Proofs.YtlimlmjljjmcpaaGreatDoor.printerTables
open Go
theorem b2c:(Rows.printerTablesUptoRow.inPlace==Tryz.pinned.checked.prog.inPlace 7)=true:=by kernel_rfl
end Go.Proofs.YtlimlmjljjmcpaaGreatDoor.printerTables
