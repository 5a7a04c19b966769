/- The statement 'ShareBlocks': the Go fun -/
import Derived.Test.YtegpiomkmfhadaaGreatRows
import Derived.Test.YtegpiomkmfhadaaGreatChecked
import Derived.JoinedOf
import Derived.WalkKit
import Derived.ProofKit
import Derived.OpenShut
import Derived.ShutString
import Derived.ChangeOld
import Derived.Below
set_option linter.all false
set_option maxRecDepth 100000
set_option maxHeartbeats 20000000
namespace Go.Proofs.YtegpiomkmfhadaaGreat.shareBlocks
open Go.ChangeShapes Go.WideShapes Go.ChangeAt Go.RowKit
open Go.ChangeMaps (open_string shut_string)
theorem joined:joinedFacts Tryz.pinned.checked.prog 3 Tryz.f3 Rows.shareBlocksSpec Rows.shareBlocksRow=true:=by kernel_rfl
end Go.Proofs.YtegpiomkmfhadaaGreat.shareBlocks
