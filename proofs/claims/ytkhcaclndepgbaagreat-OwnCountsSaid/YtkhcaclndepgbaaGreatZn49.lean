/- The statement 'OwnCounts': the Go function returns true at every input, and leaves what came in as it was. No condition. -/
import Derived.Test.YtkhcaclndepgbaaGreatRows
import Derived.Test.YtkhcaclndepgbaaGreatChecked
import Derived.JoinedOf
import Derived.WalkKit
import Derived.ProofKit
import Derived.OpenShut
import Derived.ShutString
import Derived.ChangeOld
import Derived.Below
set_option linter.unusedVariables false
set_option linter.unusedSimpArgs false
set_option maxRecDepth 100000
set_option maxHeartbeats 20000000
namespace Go.Proofs.YtkhcaclndepgbaaGreat.ownCounts
open Go.ChangeShapes Go.WideShapes Go.ChangeAt Go.RowKit
open Go.ChangeMaps (open_string shut_string)
theorem joined:joinedFacts Tryz.pinned.checked.prog 14 Tryz.f14 Rows.ownCountsSpec Rows.ownCountsRow=true:=by kernel_rfl
end Go.Proofs.YtkhcaclndepgbaaGreat.ownCounts
