/- Contracts of library functions, laid over this program. -/
import Derived.Shelf.SlMaps.Clone
import Derived.Shelf.SlMaps.Equal
import Derived.Ground.SlmcProg
import Derived.Ground.SlmeProg
import Derived.Test.YtbejcmbdaoakbaaProg
namespace Go.Proofs.Ytbejcmbdaoakbaa
open Go.Shelf
set_option maxRecDepth 100000
def Try.cloneA_ren : Go.Shelf.Ren := ⟨fun | 5 => 29 | 7 => 45 | n => n, fun | 23 => 68 | 25 => 23 | 3 => 71 | 4 => 4 | 20 => 20 | n => n, fun | n => n⟩
theorem Try.cloneA : Go.Proofs.SlLaysW.n5 Try.prog Try.cloneA_ren := {
  mixed := by kernel_rfl
  f5 := ⟨Try.f29.name, by decide, Try.func29.trans (congrArg some (by kernel_rfl))⟩
  f7 := Try.func45.trans (congrArg some (by kernel_rfl))
  t4 := Try.underlying4
  a4 := Try.isAgg4
  z4 := Try.sizeOf4
  v4 := Try.zeroValue4
  t20 := Try.underlying20
  a20 := Try.isAgg20
  z20 := Try.sizeOf20
  v20 := Try.zeroValue20
  t23 := Try.underlying68
  a23 := Try.isAgg68
  z23 := Try.sizeOf68
  v23 := Try.zeroValue68 }
def Try.equalFA_ren : Go.Shelf.Ren := ⟨fun | 7 => 34 | n => n, fun | 23 => 62 | 29 => 62 | 26 => 23 | 27 => 68 | 31 => 68 | 32 => 78 | 4 => 4 | 3 => 3 | 0 => 0 | 37 => 98 | n => n, fun | n => n⟩
theorem Try.equalFA : Go.Proofs.SlLaysEq.n7 Try.prog Try.equalFA_ren := {
  mixed := by kernel_rfl
  f7 := ⟨Try.f34.name, by decide, Try.func34.trans (congrArg some (by kernel_rfl))⟩
  t0 := Try.underlying0
  a0 := Try.isAgg0
  z0 := Try.sizeOf0
  v0 := Try.zeroValue0
  t3 := Try.underlying3
  a3 := Try.isAgg3
  z3 := Try.sizeOf3
  v3 := Try.zeroValue3
  t4 := Try.underlying4
  a4 := Try.isAgg4
  z4 := Try.sizeOf4
  v4 := Try.zeroValue4
  t23 := Try.underlying62
  a23 := Try.isAgg62
  z23 := Try.sizeOf62
  v23 := Try.zeroValue62
  a26 := Try.isAgg23
  z26 := Try.sizeOf23
  a27 := Try.isAgg68
  z27 := Try.sizeOf68
  t29 := Try.underlying62
  a29 := Try.isAgg62
  z29 := Try.sizeOf62
  v29 := Try.zeroValue62
  a31 := Try.isAgg68
  z31 := Try.sizeOf68
  t32 := Try.underlying78
  a32 := Try.isAgg78
  z32 := Try.sizeOf78
  v32 := Try.zeroValue78
  t37 := Try.underlying98
  a37 := Try.isAgg98
  z37 := Try.sizeOf98 }
end Go.Proofs.Ytbejcmbdaoakbaa
