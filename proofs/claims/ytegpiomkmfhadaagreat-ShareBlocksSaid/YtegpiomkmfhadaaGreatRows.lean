/-
  No cell of these rows narrows 'for every input' (looked for: loops, veiled, ifaces, maps, wideKeys, modest, calm, conditions, laid).
  DERIVED. THE GIVEN ROWS OF THIS SEAT. 6 by the template 'for every input the law returns true; each argument reads behind the call as it read before'; 0 by the template 'total and deterministic' (their statements: YtegpiomkmfhadaaGreatTotals.lean).
  GIVEN WITH THE SEED: the statements are not yours to turn. If you find one false, say at which input.
  Laid BY PROGRAM, IN A SANDBOX (cutbox-rows.mjs): the forced cells as the released guide's own fill.sh prints them over the translation abd14010e4063982… (all of the seat's roots in one cut). By AI agents, Wed Nov 11 2026. No macro, syntax, notation, axiom, sorry.
-/
import Derived.Test.YtegpiomkmfhadaaGreatChecked
import GoSem.Claim
import GoSem.ClaimJoined
import GoSem.ClaimMapViews
import Derived.JoinedTies
import Derived.KernelRfl
namespace Go.Proofs.YtegpiomkmfhadaaGreat
/- THE CELL 'sum', in the pinned program and in every row, IS THE sha256 OF THE DUMP (.gsa) THAT YtegpiomkmfhadaaGreatProg.lean LOADS. Nothing in Lean hashes anything: it is a label: what it is worth is what the hold of that sum in a sandbox is worth. -/
noncomputable def Tryz.pinned : Pinned := { name := "ytegpiomkmfhadaagreat", sum := "abd14010e40639822ba076eaa1e49abef693094def735d9268af68a7a6c5c34b", checked := Tryz.checked }
namespace Rows
def none {H : Type} : Left H := { results := [], args := [] }

/-- 'catchmentlaw16.ShareBlocks': WHATEVER THE INPUT: true; the input reads as it did. -/
def shareBlocksSpec : ChangeSpec := { name := "shareBlocks", fn := fun _ => fun
  | [d1, d2, d3] => { results := [.lit (.bool true)], args := [d1, d2, d3] }
  | _ => none }
def shareBlocksRow : OpenClaim := { program := "ytegpiomkmfhadaagreat", sum := "abd14010e40639822ba076eaa1e49abef693094def735d9268af68a7a6c5c34b", func := "catchment/catchmentlaw16.ShareBlocks", spec := "shareBlocks", unfollowed := true, recurses := true, apart := false }
def ShareBlocksSaid : Prop := shareBlocksRow.holds Tryz.pinned (OpenSpec.ofChange shareBlocksSpec)

/-- ITS FALSE NEIGHBOUR: 'it returns false'. Refute it at one input. -/
def shareBlocksWrong : ChangeSpec := { name := "shareBlocks", fn := fun _ => fun
  | [d1, d2, d3] => { results := [.lit (.bool false)], args := [d1, d2, d3] }
  | _ => none }
def ShareBlocksWrongFalsely : Prop := shareBlocksRow.holds Tryz.pinned (OpenSpec.ofChange shareBlocksWrong)

/-- 'catchmentlaw16.ShareNone': WHATEVER THE INPUT: true; the input reads as it did. -/
def shareNoneSpec : ChangeSpec := { name := "shareNone", fn := fun _ => fun
  | [d] => { results := [.lit (.bool true)], args := [d] }
  | _ => none }
def shareNoneRow : OpenClaim := { program := "ytegpiomkmfhadaagreat", sum := "abd14010e40639822ba076eaa1e49abef693094def735d9268af68a7a6c5c34b", func := "catchment/catchmentlaw16.ShareNone", spec := "shareNone", unfollowed := true, recurses := true, apart := false }
def ShareNoneSaid : Prop := shareNoneRow.holds Tryz.pinned (OpenSpec.ofChange shareNoneSpec)

/-- ITS FALSE NEIGHBOUR: 'it returns false'. Refute it at one input. -/
def shareNoneWrong : ChangeSpec := { name := "shareNone", fn := fun _ => fun
  | [d] => { results := [.lit (.bool false)], args := [d] }
  | _ => none }
def ShareNoneWrongFalsely : Prop := shareNoneRow.holds Tryz.pinned (OpenSpec.ofChange shareNoneWrong)

/-- 'catchmentlaw16.ShareTells': WHATEVER THE INPUT: true; the input reads as it did. -/
def shareTellsSpec : ChangeSpec := { name := "shareTells", fn := fun _ => fun
  | [d1, d2, d3, d4, d5] => { results := [.lit (.bool true)], args := [d1, d2, d3, d4, d5] }
  | _ => none }
def shareTellsRow : OpenClaim := { program := "ytegpiomkmfhadaagreat", sum := "abd14010e40639822ba076eaa1e49abef693094def735d9268af68a7a6c5c34b", func := "catchment/catchmentlaw16.ShareTells", spec := "shareTells", unfollowed := true, recurses := true, apart := false }
def ShareTellsSaid : Prop := shareTellsRow.holds Tryz.pinned (OpenSpec.ofChange shareTellsSpec)

/-- ITS FALSE NEIGHBOUR: 'it returns false'. Refute it at one input. -/
def shareTellsWrong : ChangeSpec := { name := "shareTells", fn := fun _ => fun
  | [d1, d2, d3, d4, d5] => { results := [.lit (.bool false)], args := [d1, d2, d3, d4, d5] }
  | _ => none }
def ShareTellsWrongFalsely : Prop := shareTellsRow.holds Tryz.pinned (OpenSpec.ofChange shareTellsWrong)

/-- 'catchmentlaw16.ShareCuts': WHATEVER THE INPUT: true; the input reads as it did. -/
def shareCutsSpec : ChangeSpec := { name := "shareCuts", fn := fun _ => fun
  | [d1, d2] => { results := [.lit (.bool true)], args := [d1, d2] }
  | _ => none }
def shareCutsRow : OpenClaim := { program := "ytegpiomkmfhadaagreat", sum := "abd14010e40639822ba076eaa1e49abef693094def735d9268af68a7a6c5c34b", func := "catchment/catchmentlaw16.ShareCuts", spec := "shareCuts", unfollowed := true, recurses := true, apart := false }
def ShareCutsSaid : Prop := shareCutsRow.holds Tryz.pinned (OpenSpec.ofChange shareCutsSpec)

/-- ITS FALSE NEIGHBOUR: 'it returns false'. Refute it at one input. -/
def shareCutsWrong : ChangeSpec := { name := "shareCuts", fn := fun _ => fun
  | [d1, d2] => { results := [.lit (.bool false)], args := [d1, d2] }
  | _ => none }
def ShareCutsWrongFalsely : Prop := shareCutsRow.holds Tryz.pinned (OpenSpec.ofChange shareCutsWrong)

/-- 'catchmentlaw16.ShareFull': WHATEVER THE INPUT: true; the input reads as it did. -/
def shareFullSpec : ChangeSpec := { name := "shareFull", fn := fun _ => fun
  | [d1, d2] => { results := [.lit (.bool true)], args := [d1, d2] }
  | _ => none }
def shareFullRow : OpenClaim := { program := "ytegpiomkmfhadaagreat", sum := "abd14010e40639822ba076eaa1e49abef693094def735d9268af68a7a6c5c34b", func := "catchment/catchmentlaw16.ShareFull", spec := "shareFull", unfollowed := true, recurses := true, apart := false }
def ShareFullSaid : Prop := shareFullRow.holds Tryz.pinned (OpenSpec.ofChange shareFullSpec)

/-- ITS FALSE NEIGHBOUR: 'it returns false'. Refute it at one input. -/
def shareFullWrong : ChangeSpec := { name := "shareFull", fn := fun _ => fun
  | [d1, d2] => { results := [.lit (.bool false)], args := [d1, d2] }
  | _ => none }
def ShareFullWrongFalsely : Prop := shareFullRow.holds Tryz.pinned (OpenSpec.ofChange shareFullWrong)

/-- 'catchmentlaw16.ShareDiff': WHATEVER THE INPUT: true; the input reads as it did. -/
def shareDiffSpec : ChangeSpec := { name := "shareDiff", fn := fun _ => fun
  | [d1, d2, d3] => { results := [.lit (.bool true)], args := [d1, d2, d3] }
  | _ => none }
def shareDiffRow : OpenClaim := { program := "ytegpiomkmfhadaagreat", sum := "abd14010e40639822ba076eaa1e49abef693094def735d9268af68a7a6c5c34b", func := "catchment/catchmentlaw16.ShareDiff", spec := "shareDiff", inPlace := ["slices.overlaps[uint64]"], unfollowed := true, recurses := true, apart := false }
def ShareDiffSaid : Prop := shareDiffRow.holds Tryz.pinned (OpenSpec.ofChange shareDiffSpec)

/-- ITS FALSE NEIGHBOUR: 'it returns false'. Refute it at one input. -/
def shareDiffWrong : ChangeSpec := { name := "shareDiff", fn := fun _ => fun
  | [d1, d2, d3] => { results := [.lit (.bool false)], args := [d1, d2, d3] }
  | _ => none }
def ShareDiffWrongFalsely : Prop := shareDiffRow.holds Tryz.pinned (OpenSpec.ofChange shareDiffWrong)

/- THE SECOND FORM. 'bulk': how many values and letters a reading holds, each counted each time it is reached (what is shared counts as often as it is met; a slice's spare places count too). A statement '..UptoSaid' is the law's where the arguments, and the package variables that the reading takes, are together of bulk at most 1048576: NARROWER than '..Said'. Prove '..Said' where nothing that the law and all that it calls make is longer than what came in: it says more and counts as full. Else prove '..UptoSaid'. A law counts once. -/
mutual
def uptoBulk {H : Type} : DataW H → Nat
  | .lit (.string bytes) => bytes.length + 1
  | .lit _ => 1
  | .nil => 1
  | .ptr d => uptoBulk d + 1
  | .slice elems spare => uptoBulkAll elems + uptoBulkAll spare + 1
  | .agg parts => uptoBulkAll parts + 1
  | .iface _ d => uptoBulk d + 1
  | .map entries => uptoBulkEntries entries + 1
  | .held _ => 1
def uptoBulkAll {H : Type} : List (DataW H) → Nat
  | [] => 0
  | d :: r => uptoBulk d + uptoBulkAll r
def uptoBulkEntries {H : Type} : List (Lit × DataW H) → Nat
  | [] => 0
  | x :: r => uptoBulkEntry x + uptoBulkEntries r
def uptoBulkEntry {H : Type} : Lit × DataW H → Nat
  | (.string bytes, d) => bytes.length + uptoBulk d + 1
  | (_, d) => uptoBulk d + 1
 end
def uptoSmall : (H : Type) → List (DataW H) → Bool := fun _ ds => decide (uptoBulkAll ds ≤ 1048576)
def OpenSpec.upto (s : _root_.Go.ChangeSpec) : _root_.Go.OpenSpec := { _root_.Go.OpenSpec.ofChange s with cond := some uptoSmall }

/-- 'catchmentlaw16.ShareBlocks', WHERE WHAT IT READS IS OF BULK AT MOST 1048576: true; the input reads as it did. -/
def shareBlocksUptoRow : OpenClaim := { program := "ytegpiomkmfhadaagreat", sum := "abd14010e40639822ba076eaa1e49abef693094def735d9268af68a7a6c5c34b", func := "catchment/catchmentlaw16.ShareBlocks", spec := "shareBlocks", unfollowed := true, recurses := true, apart := false, narrowed := true }
def ShareBlocksUptoSaid : Prop := shareBlocksUptoRow.holds Tryz.pinned (OpenSpec.upto shareBlocksSpec)

/-- 'catchmentlaw16.ShareNone', WHERE WHAT IT READS IS OF BULK AT MOST 1048576: true; the input reads as it did. -/
def shareNoneUptoRow : OpenClaim := { program := "ytegpiomkmfhadaagreat", sum := "abd14010e40639822ba076eaa1e49abef693094def735d9268af68a7a6c5c34b", func := "catchment/catchmentlaw16.ShareNone", spec := "shareNone", unfollowed := true, recurses := true, apart := false, narrowed := true }
def ShareNoneUptoSaid : Prop := shareNoneUptoRow.holds Tryz.pinned (OpenSpec.upto shareNoneSpec)

/-- 'catchmentlaw16.ShareTells', WHERE WHAT IT READS IS OF BULK AT MOST 1048576: true; the input reads as it did. -/
def shareTellsUptoRow : OpenClaim := { program := "ytegpiomkmfhadaagreat", sum := "abd14010e40639822ba076eaa1e49abef693094def735d9268af68a7a6c5c34b", func := "catchment/catchmentlaw16.ShareTells", spec := "shareTells", unfollowed := true, recurses := true, apart := false, narrowed := true }
def ShareTellsUptoSaid : Prop := shareTellsUptoRow.holds Tryz.pinned (OpenSpec.upto shareTellsSpec)

/-- 'catchmentlaw16.ShareCuts', WHERE WHAT IT READS IS OF BULK AT MOST 1048576: true; the input reads as it did. -/
def shareCutsUptoRow : OpenClaim := { program := "ytegpiomkmfhadaagreat", sum := "abd14010e40639822ba076eaa1e49abef693094def735d9268af68a7a6c5c34b", func := "catchment/catchmentlaw16.ShareCuts", spec := "shareCuts", unfollowed := true, recurses := true, apart := false, narrowed := true }
def ShareCutsUptoSaid : Prop := shareCutsUptoRow.holds Tryz.pinned (OpenSpec.upto shareCutsSpec)

/-- 'catchmentlaw16.ShareFull', WHERE WHAT IT READS IS OF BULK AT MOST 1048576: true; the input reads as it did. -/
def shareFullUptoRow : OpenClaim := { program := "ytegpiomkmfhadaagreat", sum := "abd14010e40639822ba076eaa1e49abef693094def735d9268af68a7a6c5c34b", func := "catchment/catchmentlaw16.ShareFull", spec := "shareFull", unfollowed := true, recurses := true, apart := false, narrowed := true }
def ShareFullUptoSaid : Prop := shareFullUptoRow.holds Tryz.pinned (OpenSpec.upto shareFullSpec)

/-- 'catchmentlaw16.ShareDiff', WHERE WHAT IT READS IS OF BULK AT MOST 1048576: true; the input reads as it did. -/
def shareDiffUptoRow : OpenClaim := { program := "ytegpiomkmfhadaagreat", sum := "abd14010e40639822ba076eaa1e49abef693094def735d9268af68a7a6c5c34b", func := "catchment/catchmentlaw16.ShareDiff", spec := "shareDiff", inPlace := ["slices.overlaps[uint64]"], unfollowed := true, recurses := true, apart := false, narrowed := true }
def ShareDiffUptoSaid : Prop := shareDiffUptoRow.holds Tryz.pinned (OpenSpec.upto shareDiffSpec)

end Rows
end Go.Proofs.YtegpiomkmfhadaaGreat
