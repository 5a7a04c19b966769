/- The statement 'ShareBlocks': the Go fun -/
import Derived.Test.YtegpiomkmfhadaaGreatZo43
import Derived.Test.YtegpiomkmfhadaaGreatZo44
set_option linter.all false
set_option maxRecDepth 100000
set_option maxHeartbeats 20000000
namespace Go.Proofs.YtegpiomkmfhadaaGreat.shareBlocks
open Go.ChangeShapes Go.WideShapes Go.ChangeAt Go.RowKit
open Go.ChangeMaps (open_string shut_string)
theorem over:Rows.shareBlocksRow.holds Tryz.pinned (OpenSpec.ofChange Rows.shareBlocksSpec) :=
 OpenClaim.holds_of_wide 3 Tryz.f3 rfl rfl rfl rfl rfl rfl rfl ⟨rfl,rfl,rfl,rfl,rfl⟩ rfl rfl rfl rfl rfl zab Tryz.func3 joined
  (of_decide_eq_true zab) (by unfold Func.isWrapper;first | (rw [if_pos (by decide +kernel)];kernel_rfl) | (rw [if_neg (by decide +kernel)];exact ⟨rfl,rfl⟩))
  (fun os GZ H enc _=>lifted os GZ H enc)
theorem proved:Rows.ShareBlocksSaid:=over
#print axioms proved
end Go.Proofs.YtegpiomkmfhadaaGreat.shareBlocks
