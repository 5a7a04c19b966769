/- What the reference's tally leans on. -/
import Derived.Test.YtnhabpbdpjgiiaaBackW
import Derived.Test.YtnhabpbdpjgiiaaApp
import Derived.Test.YtnhabpbdpjgiiaaQ
import Derived.Deep.DeepCutAuto
import Derived.Deep.CutBlock
import Derived.Deep.LoopGhost
namespace Go.Proofs.Ytnhabpbdpjgiiaa
open Go.RowKit

theorem infoInt8 : (Try.prog.info? 3).map (fun i => (i.zero, i.size, i.bytes)) = some (some (.int .i64 0), 1, 8) := by kernel_rfl
theorem getV_nat {T : Tal} {k : Nat} (hk : k < T.n) : getV T (k : Int) = T.now k := by
  have : hasB T (k : Int) = true := (hasB_iff T k).2 (by omega)
  simp [getV, this]
end Go.Proofs.Ytnhabpbdpjgiiaa
