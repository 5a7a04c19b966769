/- The reference's pick: Ask, Done. -/
import Derived.Test.YtnhabpbdpjgiiaaRef9
import Derived.Test.YtnhabpbdpjgiiaaPickP
namespace Go.Proofs.Ytnhabpbdpjgiiaa
open Go.RowKit
set_option linter.unusedVariables false
set_option linter.unusedSimpArgs false

/-- The value of the reference's pick. -/
def pv (v1 v2 : Value) (K : Pk) : Value := .agg #[v1, v2, .int .i64 (K.first : Int), .int .i64 (K.next : Int), .int .i64 (K.asked : Int)]

end Go.Proofs.Ytnhabpbdpjgiiaa
