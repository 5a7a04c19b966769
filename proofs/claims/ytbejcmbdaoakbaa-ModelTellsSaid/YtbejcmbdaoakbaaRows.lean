/-
  No cell of these rows narrows 'for every input' (looked for: loops, veiled, ifaces, maps, wideKeys, modest, calm, conditions, laid).
  DERIVED. THE GIVEN ROWS OF THIS SEAT. 7 by the template 'for every input the law returns true; each argument reads behind the call as it read before'; 0 by the template 'total and deterministic' (their statements: YtbejcmbdaoakbaaTotals.lean).
  GIVEN WITH THE SEED: the statements are not yours to turn. If you find one false, say at which input.
  Laid BY PROGRAM, IN A SANDBOX (cutbox-rows.mjs): the forced cells as the released guide's own fill.sh prints them over the translation b1e2784b3977a6aa… (all of the seat's roots in one cut). By AI agents, Wed Nov 11 2026. No macro, syntax, notation, axiom, sorry.
-/
import Derived.Test.YtbejcmbdaoakbaaChecked
import GoSem.Claim
import GoSem.ClaimJoined
import GoSem.ClaimMapViews
import Derived.JoinedTies
import Derived.KernelRfl
namespace Go.Proofs.Ytbejcmbdaoakbaa
/- THE CELL 'sum', in the pinned program and in every row, IS THE sha256 OF THE DUMP (.gsa) THAT YtbejcmbdaoakbaaProg.lean LOADS. Nothing in Lean hashes anything: it is a label: what it is worth is what the hold of that sum in a sandbox is worth. -/
noncomputable def Try.pinned : Pinned := { name := "ytbejcmbdaoakbaa", sum := "b1e2784b3977a6aacfcca9e028b4e6edff614fb3b85be7948198f90fa6a4d4f6", checked := Try.checked }
namespace Rows
def none {H : Type} : Left H := { results := [], args := [] }

/-- 'catchmentlaw24.ModelRefused': WHATEVER THE INPUT: true; the input reads as it did. -/
def modelRefusedSpec : ChangeSpec := { name := "modelRefused", fn := fun _ => fun
  | [d1, d2, d3] => { results := [.lit (.bool true)], args := [d1, d2, d3] }
  | _ => none }
def modelRefusedRow : OpenClaim := { program := "ytbejcmbdaoakbaa", sum := "b1e2784b3977a6aacfcca9e028b4e6edff614fb3b85be7948198f90fa6a4d4f6", func := "catchment/catchmentlaw24.ModelRefused", spec := "modelRefused", inPlace := ["maps.clone"], unfollowed := true, recurses := true, apart := false }
def ModelRefusedSaid : Prop := modelRefusedRow.holds Try.pinned (OpenSpec.ofChange modelRefusedSpec)

/-- ITS FALSE NEIGHBOUR: 'it returns false'. Refute it at one input. -/
def modelRefusedWrong : ChangeSpec := { name := "modelRefused", fn := fun _ => fun
  | [d1, d2, d3] => { results := [.lit (.bool false)], args := [d1, d2, d3] }
  | _ => none }
def ModelRefusedWrongFalsely : Prop := modelRefusedRow.holds Try.pinned (OpenSpec.ofChange modelRefusedWrong)

/-- 'catchmentlaw24.ModelCopy': WHATEVER THE INPUT: true; the input reads as it did. -/
def modelCopySpec : ChangeSpec := { name := "modelCopy", fn := fun _ => fun
  | [d1, d2, d3] => { results := [.lit (.bool true)], args := [d1, d2, d3] }
  | _ => none }
def modelCopyRow : OpenClaim := { program := "ytbejcmbdaoakbaa", sum := "b1e2784b3977a6aacfcca9e028b4e6edff614fb3b85be7948198f90fa6a4d4f6", func := "catchment/catchmentlaw24.ModelCopy", spec := "modelCopy", inPlace := ["maps.clone"], unfollowed := true, recurses := true, apart := false }
def ModelCopySaid : Prop := modelCopyRow.holds Try.pinned (OpenSpec.ofChange modelCopySpec)

/-- ITS FALSE NEIGHBOUR: 'it returns false'. Refute it at one input. -/
def modelCopyWrong : ChangeSpec := { name := "modelCopy", fn := fun _ => fun
  | [d1, d2, d3] => { results := [.lit (.bool false)], args := [d1, d2, d3] }
  | _ => none }
def ModelCopyWrongFalsely : Prop := modelCopyRow.holds Try.pinned (OpenSpec.ofChange modelCopyWrong)

/-- 'catchmentlaw24.ModelTells': WHATEVER THE INPUT: true; the input reads as it did. -/
def modelTellsSpec : ChangeSpec := { name := "modelTells", fn := fun _ => fun
  | [d1, d2] => { results := [.lit (.bool true)], args := [d1, d2] }
  | _ => none }
def modelTellsRow : OpenClaim := { program := "ytbejcmbdaoakbaa", sum := "b1e2784b3977a6aacfcca9e028b4e6edff614fb3b85be7948198f90fa6a4d4f6", func := "catchment/catchmentlaw24.ModelTells", spec := "modelTells", inPlace := ["maps.clone"], unfollowed := true, recurses := true, apart := false }
def ModelTellsSaid : Prop := modelTellsRow.holds Try.pinned (OpenSpec.ofChange modelTellsSpec)

/-- ITS FALSE NEIGHBOUR: 'it returns false'. Refute it at one input. -/
def modelTellsWrong : ChangeSpec := { name := "modelTells", fn := fun _ => fun
  | [d1, d2] => { results := [.lit (.bool false)], args := [d1, d2] }
  | _ => none }
def ModelTellsWrongFalsely : Prop := modelTellsRow.holds Try.pinned (OpenSpec.ofChange modelTellsWrong)

/-- 'catchmentlaw24.ModelSnap': WHATEVER THE INPUT: true; the input reads as it did. -/
def modelSnapSpec : ChangeSpec := { name := "modelSnap", fn := fun _ => fun
  | [d1, d2, d3, d4] => { results := [.lit (.bool true)], args := [d1, d2, d3, d4] }
  | _ => none }
def modelSnapRow : OpenClaim := { program := "ytbejcmbdaoakbaa", sum := "b1e2784b3977a6aacfcca9e028b4e6edff614fb3b85be7948198f90fa6a4d4f6", func := "catchment/catchmentlaw24.ModelSnap", spec := "modelSnap", inPlace := ["maps.clone"], unfollowed := true, recurses := true, apart := false }
def ModelSnapSaid : Prop := modelSnapRow.holds Try.pinned (OpenSpec.ofChange modelSnapSpec)

/-- ITS FALSE NEIGHBOUR: 'it returns false'. Refute it at one input. -/
def modelSnapWrong : ChangeSpec := { name := "modelSnap", fn := fun _ => fun
  | [d1, d2, d3, d4] => { results := [.lit (.bool false)], args := [d1, d2, d3, d4] }
  | _ => none }
def ModelSnapWrongFalsely : Prop := modelSnapRow.holds Try.pinned (OpenSpec.ofChange modelSnapWrong)

/-- 'catchmentlaw24.ModelWrites': WHATEVER THE INPUT: true; the input reads as it did. -/
def modelWritesSpec : ChangeSpec := { name := "modelWrites", fn := fun _ => fun
  | [d1, d2, d3, d4, d5] => { results := [.lit (.bool true)], args := [d1, d2, d3, d4, d5] }
  | _ => none }
def modelWritesRow : OpenClaim := { program := "ytbejcmbdaoakbaa", sum := "b1e2784b3977a6aacfcca9e028b4e6edff614fb3b85be7948198f90fa6a4d4f6", func := "catchment/catchmentlaw24.ModelWrites", spec := "modelWrites", inPlace := ["maps.clone"], unfollowed := true, recurses := true, apart := false }
def ModelWritesSaid : Prop := modelWritesRow.holds Try.pinned (OpenSpec.ofChange modelWritesSpec)

/-- ITS FALSE NEIGHBOUR: 'it returns false'. Refute it at one input. -/
def modelWritesWrong : ChangeSpec := { name := "modelWrites", fn := fun _ => fun
  | [d1, d2, d3, d4, d5] => { results := [.lit (.bool false)], args := [d1, d2, d3, d4, d5] }
  | _ => none }
def ModelWritesWrongFalsely : Prop := modelWritesRow.holds Try.pinned (OpenSpec.ofChange modelWritesWrong)

/-- 'catchmentlaw24.ModelTrim': WHATEVER THE INPUT: true; the input reads as it did. -/
def modelTrimSpec : ChangeSpec := { name := "modelTrim", fn := fun _ => fun
  | [d1, d2, d3, d4, d5] => { results := [.lit (.bool true)], args := [d1, d2, d3, d4, d5] }
  | _ => none }
def modelTrimRow : OpenClaim := { program := "ytbejcmbdaoakbaa", sum := "b1e2784b3977a6aacfcca9e028b4e6edff614fb3b85be7948198f90fa6a4d4f6", func := "catchment/catchmentlaw24.ModelTrim", spec := "modelTrim", inPlace := ["maps.clone"], unfollowed := true, recurses := true, apart := false }
def ModelTrimSaid : Prop := modelTrimRow.holds Try.pinned (OpenSpec.ofChange modelTrimSpec)

/-- ITS FALSE NEIGHBOUR: 'it returns false'. Refute it at one input. -/
def modelTrimWrong : ChangeSpec := { name := "modelTrim", fn := fun _ => fun
  | [d1, d2, d3, d4, d5] => { results := [.lit (.bool false)], args := [d1, d2, d3, d4, d5] }
  | _ => none }
def ModelTrimWrongFalsely : Prop := modelTrimRow.holds Try.pinned (OpenSpec.ofChange modelTrimWrong)

/-- 'catchmentlaw24.ModelNone': WHATEVER THE INPUT: true; the input reads as it did. -/
def modelNoneSpec : ChangeSpec := { name := "modelNone", fn := fun _ => fun
  | [d1, d2] => { results := [.lit (.bool true)], args := [d1, d2] }
  | _ => none }
def modelNoneRow : OpenClaim := { program := "ytbejcmbdaoakbaa", sum := "b1e2784b3977a6aacfcca9e028b4e6edff614fb3b85be7948198f90fa6a4d4f6", func := "catchment/catchmentlaw24.ModelNone", spec := "modelNone", inPlace := ["maps.clone"], unfollowed := true, recurses := true, apart := false }
def ModelNoneSaid : Prop := modelNoneRow.holds Try.pinned (OpenSpec.ofChange modelNoneSpec)

/-- ITS FALSE NEIGHBOUR: 'it returns false'. Refute it at one input. -/
def modelNoneWrong : ChangeSpec := { name := "modelNone", fn := fun _ => fun
  | [d1, d2] => { results := [.lit (.bool false)], args := [d1, d2] }
  | _ => none }
def ModelNoneWrongFalsely : Prop := modelNoneRow.holds Try.pinned (OpenSpec.ofChange modelNoneWrong)

/- THE SECOND FORM. 'bulk': how many values and letters a reading holds, each counted each time it is reached (what is shared counts as often as it is met; a slice's spare places count too). A statement '..UptoSaid' is the law's where the arguments, and the package variables that the reading takes, are together of bulk at most 1048576: NARROWER than '..Said'. Prove '..Said' where nothing that the law and all that it calls make is longer than what came in: it says more and counts as full. Else prove '..UptoSaid'. A law counts once. -/
mutual
def uptoBulk {H : Type} : DataW H → Nat
  | .lit (.string bytes) => bytes.length + 1
  | .lit _ => 1
  | .nil => 1
  | .ptr d => uptoBulk d + 1
  | .slice elems spare => uptoBulkAll elems + uptoBulkAll spare + 1
  | .agg parts => uptoBulkAll parts + 1
  | .iface _ d => uptoBulk d + 1
  | .map entries => uptoBulkEntries entries + 1
  | .held _ => 1
def uptoBulkAll {H : Type} : List (DataW H) → Nat
  | [] => 0
  | d :: r => uptoBulk d + uptoBulkAll r
def uptoBulkEntries {H : Type} : List (Lit × DataW H) → Nat
  | [] => 0
  | x :: r => uptoBulkEntry x + uptoBulkEntries r
def uptoBulkEntry {H : Type} : Lit × DataW H → Nat
  | (.string bytes, d) => bytes.length + uptoBulk d + 1
  | (_, d) => uptoBulk d + 1
 end
def uptoSmall : (H : Type) → List (DataW H) → Bool := fun _ ds => decide (uptoBulkAll ds ≤ 1048576)
def OpenSpec.upto (s : _root_.Go.ChangeSpec) : _root_.Go.OpenSpec := { _root_.Go.OpenSpec.ofChange s with cond := some uptoSmall }

/-- 'catchmentlaw24.ModelRefused', WHERE WHAT IT READS IS OF BULK AT MOST 1048576: true; the input reads as it did. -/
def modelRefusedUptoRow : OpenClaim := { program := "ytbejcmbdaoakbaa", sum := "b1e2784b3977a6aacfcca9e028b4e6edff614fb3b85be7948198f90fa6a4d4f6", func := "catchment/catchmentlaw24.ModelRefused", spec := "modelRefused", inPlace := ["maps.clone"], unfollowed := true, recurses := true, apart := false, narrowed := true }
def ModelRefusedUptoSaid : Prop := modelRefusedUptoRow.holds Try.pinned (OpenSpec.upto modelRefusedSpec)

/-- 'catchmentlaw24.ModelCopy', WHERE WHAT IT READS IS OF BULK AT MOST 1048576: true; the input reads as it did. -/
def modelCopyUptoRow : OpenClaim := { program := "ytbejcmbdaoakbaa", sum := "b1e2784b3977a6aacfcca9e028b4e6edff614fb3b85be7948198f90fa6a4d4f6", func := "catchment/catchmentlaw24.ModelCopy", spec := "modelCopy", inPlace := ["maps.clone"], unfollowed := true, recurses := true, apart := false, narrowed := true }
def ModelCopyUptoSaid : Prop := modelCopyUptoRow.holds Try.pinned (OpenSpec.upto modelCopySpec)

/-- 'catchmentlaw24.ModelTells', WHERE WHAT IT READS IS OF BULK AT MOST 1048576: true; the input reads as it did. -/
def modelTellsUptoRow : OpenClaim := { program := "ytbejcmbdaoakbaa", sum := "b1e2784b3977a6aacfcca9e028b4e6edff614fb3b85be7948198f90fa6a4d4f6", func := "catchment/catchmentlaw24.ModelTells", spec := "modelTells", inPlace := ["maps.clone"], unfollowed := true, recurses := true, apart := false, narrowed := true }
def ModelTellsUptoSaid : Prop := modelTellsUptoRow.holds Try.pinned (OpenSpec.upto modelTellsSpec)

/-- 'catchmentlaw24.ModelSnap', WHERE WHAT IT READS IS OF BULK AT MOST 1048576: true; the input reads as it did. -/
def modelSnapUptoRow : OpenClaim := { program := "ytbejcmbdaoakbaa", sum := "b1e2784b3977a6aacfcca9e028b4e6edff614fb3b85be7948198f90fa6a4d4f6", func := "catchment/catchmentlaw24.ModelSnap", spec := "modelSnap", inPlace := ["maps.clone"], unfollowed := true, recurses := true, apart := false, narrowed := true }
def ModelSnapUptoSaid : Prop := modelSnapUptoRow.holds Try.pinned (OpenSpec.upto modelSnapSpec)

/-- 'catchmentlaw24.ModelWrites', WHERE WHAT IT READS IS OF BULK AT MOST 1048576: true; the input reads as it did. -/
def modelWritesUptoRow : OpenClaim := { program := "ytbejcmbdaoakbaa", sum := "b1e2784b3977a6aacfcca9e028b4e6edff614fb3b85be7948198f90fa6a4d4f6", func := "catchment/catchmentlaw24.ModelWrites", spec := "modelWrites", inPlace := ["maps.clone"], unfollowed := true, recurses := true, apart := false, narrowed := true }
def ModelWritesUptoSaid : Prop := modelWritesUptoRow.holds Try.pinned (OpenSpec.upto modelWritesSpec)

/-- 'catchmentlaw24.ModelTrim', WHERE WHAT IT READS IS OF BULK AT MOST 1048576: true; the input reads as it did. -/
def modelTrimUptoRow : OpenClaim := { program := "ytbejcmbdaoakbaa", sum := "b1e2784b3977a6aacfcca9e028b4e6edff614fb3b85be7948198f90fa6a4d4f6", func := "catchment/catchmentlaw24.ModelTrim", spec := "modelTrim", inPlace := ["maps.clone"], unfollowed := true, recurses := true, apart := false, narrowed := true }
def ModelTrimUptoSaid : Prop := modelTrimUptoRow.holds Try.pinned (OpenSpec.upto modelTrimSpec)

/-- 'catchmentlaw24.ModelNone', WHERE WHAT IT READS IS OF BULK AT MOST 1048576: true; the input reads as it did. -/
def modelNoneUptoRow : OpenClaim := { program := "ytbejcmbdaoakbaa", sum := "b1e2784b3977a6aacfcca9e028b4e6edff614fb3b85be7948198f90fa6a4d4f6", func := "catchment/catchmentlaw24.ModelNone", spec := "modelNone", inPlace := ["maps.clone"], unfollowed := true, recurses := true, apart := false, narrowed := true }
def ModelNoneUptoSaid : Prop := modelNoneUptoRow.holds Try.pinned (OpenSpec.upto modelNoneSpec)

end Rows
end Go.Proofs.Ytbejcmbdaoakbaa
