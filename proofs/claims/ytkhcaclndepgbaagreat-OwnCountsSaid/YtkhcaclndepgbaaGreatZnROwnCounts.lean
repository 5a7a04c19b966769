/- The statement 'OwnCounts': the Go function returns true at every input, and leaves what came in as it was. No condition. -/
import Derived.Test.YtkhcaclndepgbaaGreatZn48
import Derived.Test.YtkhcaclndepgbaaGreatZn49
set_option linter.unusedVariables false
set_option linter.unusedSimpArgs false
set_option maxRecDepth 100000
set_option maxHeartbeats 20000000
namespace Go.Proofs.YtkhcaclndepgbaaGreat.ownCounts
open Go.ChangeShapes Go.WideShapes Go.ChangeAt Go.RowKit
open Go.ChangeMaps (open_string shut_string)
theorem over:Rows.ownCountsRow.holds Tryz.pinned (OpenSpec.ofChange Rows.ownCountsSpec) :=
 OpenClaim.holds_of_wide 14 Tryz.f14 rfl rfl rfl rfl rfl rfl rfl ⟨rfl,rfl,rfl,rfl,rfl⟩ rfl rfl rfl rfl rfl (by kernel_rfl) Tryz.func14 joined
  (of_decide_eq_true (by kernel_rfl)) (by unfold Func.isWrapper;first | (rw [if_pos (by decide +kernel)];kernel_rfl) | (rw [if_neg (by decide +kernel)];exact ⟨rfl,rfl⟩))
  (fun os started H enc _=>lifted os started H enc)
theorem proved:Rows.OwnCountsSaid:=over
#print axioms proved
end Go.Proofs.YtkhcaclndepgbaaGreat.ownCounts
