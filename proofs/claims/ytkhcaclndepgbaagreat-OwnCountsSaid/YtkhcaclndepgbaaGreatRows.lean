/-
  No cell of these rows narrows 'for every input' (looked for: loops, veiled, ifaces, maps, wideKeys, modest, calm, conditions, laid).
  DERIVED. THE GIVEN ROWS OF THIS SEAT. 12 by the template 'for every input the law returns true; each argument reads behind the call as it read before'; 0 by the template 'total and deterministic' (their statements: YtkhcaclndepgbaaGreatTotals.lean).
  GIVEN WITH THE SEED: the statements are not yours to turn. If you find one false, say at which input.
  Laid BY PROGRAM, IN A SANDBOX (cutbox-rows.mjs): the forced cells as the released guide's own fill.sh prints them over the translation 459bb094b323ffc5… (all of the seat's roots in one cut). By AI agents, Wed Nov 11 2026. No macro, syntax, notation, axiom, sorry.
-/
import Derived.Test.YtkhcaclndepgbaaGreatChecked
import GoSem.Claim
import GoSem.ClaimJoined
import GoSem.ClaimMapViews
import Derived.JoinedTies
import Derived.KernelRfl
namespace Go.Proofs.YtkhcaclndepgbaaGreat
/- THE CELL 'sum', in the pinned program and in every row, IS THE sha256 OF THE DUMP (.gsa) THAT YtkhcaclndepgbaaGreatProg.lean LOADS. Nothing in Lean hashes anything: it is a label: what it is worth is what the hold of that sum in a sandbox is worth. -/
noncomputable def Tryz.pinned : Pinned := { name := "ytkhcaclndepgbaagreat", sum := "459bb094b323ffc55fea1c7fb8b9731b0724af1c79746bf4ea31a7b093333771", checked := Tryz.checked }
namespace Rows
def none {H : Type} : Left H := { results := [], args := [] }

/-- 'catchmentlaw11.BaseRoom': WHATEVER THE INPUT: true; the input reads as it did. -/
def baseRoomSpec : ChangeSpec := { name := "baseRoom", fn := fun _ => fun
  | [d1, d2] => { results := [.lit (.bool true)], args := [d1, d2] }
  | _ => none }
def baseRoomRow : OpenClaim := { program := "ytkhcaclndepgbaagreat", sum := "459bb094b323ffc55fea1c7fb8b9731b0724af1c79746bf4ea31a7b093333771", func := "catchment/catchmentlaw11.BaseRoom", spec := "baseRoom", unfollowed := true, recurses := true, apart := false }
def BaseRoomSaid : Prop := baseRoomRow.holds Tryz.pinned (OpenSpec.ofChange baseRoomSpec)

/-- ITS FALSE NEIGHBOUR: 'it returns false'. Refute it at one input. -/
def baseRoomWrong : ChangeSpec := { name := "baseRoom", fn := fun _ => fun
  | [d1, d2] => { results := [.lit (.bool false)], args := [d1, d2] }
  | _ => none }
def BaseRoomWrongFalsely : Prop := baseRoomRow.holds Tryz.pinned (OpenSpec.ofChange baseRoomWrong)

/-- 'catchmentlaw11.BaseNone': WHATEVER THE INPUT: true; the input reads as it did. -/
def baseNoneSpec : ChangeSpec := { name := "baseNone", fn := fun _ => fun
  | [d1, d2, d3] => { results := [.lit (.bool true)], args := [d1, d2, d3] }
  | _ => none }
def baseNoneRow : OpenClaim := { program := "ytkhcaclndepgbaagreat", sum := "459bb094b323ffc55fea1c7fb8b9731b0724af1c79746bf4ea31a7b093333771", func := "catchment/catchmentlaw11.BaseNone", spec := "baseNone", unfollowed := true, recurses := true, apart := false }
def BaseNoneSaid : Prop := baseNoneRow.holds Tryz.pinned (OpenSpec.ofChange baseNoneSpec)

/-- ITS FALSE NEIGHBOUR: 'it returns false'. Refute it at one input. -/
def baseNoneWrong : ChangeSpec := { name := "baseNone", fn := fun _ => fun
  | [d1, d2, d3] => { results := [.lit (.bool false)], args := [d1, d2, d3] }
  | _ => none }
def BaseNoneWrongFalsely : Prop := baseNoneRow.holds Tryz.pinned (OpenSpec.ofChange baseNoneWrong)

/-- 'catchmentlaw11.BaseNever': WHATEVER THE INPUT: true; the input reads as it did. -/
def baseNeverSpec : ChangeSpec := { name := "baseNever", fn := fun _ => fun
  | [d1, d2] => { results := [.lit (.bool true)], args := [d1, d2] }
  | _ => none }
def baseNeverRow : OpenClaim := { program := "ytkhcaclndepgbaagreat", sum := "459bb094b323ffc55fea1c7fb8b9731b0724af1c79746bf4ea31a7b093333771", func := "catchment/catchmentlaw11.BaseNever", spec := "baseNever", unfollowed := true, recurses := true, apart := false }
def BaseNeverSaid : Prop := baseNeverRow.holds Tryz.pinned (OpenSpec.ofChange baseNeverSpec)

/-- ITS FALSE NEIGHBOUR: 'it returns false'. Refute it at one input. -/
def baseNeverWrong : ChangeSpec := { name := "baseNever", fn := fun _ => fun
  | [d1, d2] => { results := [.lit (.bool false)], args := [d1, d2] }
  | _ => none }
def BaseNeverWrongFalsely : Prop := baseNeverRow.holds Tryz.pinned (OpenSpec.ofChange baseNeverWrong)

/-- 'catchmentlaw11.BaseBack': WHATEVER THE INPUT: true; the input reads as it did. -/
def baseBackSpec : ChangeSpec := { name := "baseBack", fn := fun _ => fun
  | [d1, d2, d3] => { results := [.lit (.bool true)], args := [d1, d2, d3] }
  | _ => none }
def baseBackRow : OpenClaim := { program := "ytkhcaclndepgbaagreat", sum := "459bb094b323ffc55fea1c7fb8b9731b0724af1c79746bf4ea31a7b093333771", func := "catchment/catchmentlaw11.BaseBack", spec := "baseBack", unfollowed := true, recurses := true, apart := false }
def BaseBackSaid : Prop := baseBackRow.holds Tryz.pinned (OpenSpec.ofChange baseBackSpec)

/-- ITS FALSE NEIGHBOUR: 'it returns false'. Refute it at one input. -/
def baseBackWrong : ChangeSpec := { name := "baseBack", fn := fun _ => fun
  | [d1, d2, d3] => { results := [.lit (.bool false)], args := [d1, d2, d3] }
  | _ => none }
def BaseBackWrongFalsely : Prop := baseBackRow.holds Tryz.pinned (OpenSpec.ofChange baseBackWrong)

/-- 'catchmentlaw13.FindTells': WHATEVER THE INPUT: true; the input reads as it did. -/
def findTellsSpec : ChangeSpec := { name := "findTells", fn := fun _ => fun
  | [d1, d2, d3, d4, d5] => { results := [.lit (.bool true)], args := [d1, d2, d3, d4, d5] }
  | _ => none }
def findTellsRow : OpenClaim := { program := "ytkhcaclndepgbaagreat", sum := "459bb094b323ffc55fea1c7fb8b9731b0724af1c79746bf4ea31a7b093333771", func := "catchment/catchmentlaw13.FindTells", spec := "findTells", unfollowed := true, recurses := true, apart := false }
def FindTellsSaid : Prop := findTellsRow.holds Tryz.pinned (OpenSpec.ofChange findTellsSpec)

/-- ITS FALSE NEIGHBOUR: 'it returns false'. Refute it at one input. -/
def findTellsWrong : ChangeSpec := { name := "findTells", fn := fun _ => fun
  | [d1, d2, d3, d4, d5] => { results := [.lit (.bool false)], args := [d1, d2, d3, d4, d5] }
  | _ => none }
def FindTellsWrongFalsely : Prop := findTellsRow.holds Tryz.pinned (OpenSpec.ofChange findTellsWrong)

/-- 'catchmentlaw13.FindWalks': WHATEVER THE INPUT: true; the input reads as it did. -/
def findWalksSpec : ChangeSpec := { name := "findWalks", fn := fun _ => fun
  | [d1, d2, d3, d4, d5] => { results := [.lit (.bool true)], args := [d1, d2, d3, d4, d5] }
  | _ => none }
def findWalksRow : OpenClaim := { program := "ytkhcaclndepgbaagreat", sum := "459bb094b323ffc55fea1c7fb8b9731b0724af1c79746bf4ea31a7b093333771", func := "catchment/catchmentlaw13.FindWalks", spec := "findWalks", unfollowed := true, recurses := true, apart := false }
def FindWalksSaid : Prop := findWalksRow.holds Tryz.pinned (OpenSpec.ofChange findWalksSpec)

/-- ITS FALSE NEIGHBOUR: 'it returns false'. Refute it at one input. -/
def findWalksWrong : ChangeSpec := { name := "findWalks", fn := fun _ => fun
  | [d1, d2, d3, d4, d5] => { results := [.lit (.bool false)], args := [d1, d2, d3, d4, d5] }
  | _ => none }
def FindWalksWrongFalsely : Prop := findWalksRow.holds Tryz.pinned (OpenSpec.ofChange findWalksWrong)

/-- 'catchmentlaw13.FindNone': WHATEVER THE INPUT: true; the input reads as it did. -/
def findNoneSpec : ChangeSpec := { name := "findNone", fn := fun _ => fun
  | [d1, d2] => { results := [.lit (.bool true)], args := [d1, d2] }
  | _ => none }
def findNoneRow : OpenClaim := { program := "ytkhcaclndepgbaagreat", sum := "459bb094b323ffc55fea1c7fb8b9731b0724af1c79746bf4ea31a7b093333771", func := "catchment/catchmentlaw13.FindNone", spec := "findNone", unfollowed := true, recurses := true, apart := false }
def FindNoneSaid : Prop := findNoneRow.holds Tryz.pinned (OpenSpec.ofChange findNoneSpec)

/-- ITS FALSE NEIGHBOUR: 'it returns false'. Refute it at one input. -/
def findNoneWrong : ChangeSpec := { name := "findNone", fn := fun _ => fun
  | [d1, d2] => { results := [.lit (.bool false)], args := [d1, d2] }
  | _ => none }
def FindNoneWrongFalsely : Prop := findNoneRow.holds Tryz.pinned (OpenSpec.ofChange findNoneWrong)

/-- 'catchmentlaw13.FindWrong': WHATEVER THE INPUT: true; the input reads as it did. -/
def findWrongSpec : ChangeSpec := { name := "findWrong", fn := fun _ => fun
  | [d1, d2, d3] => { results := [.lit (.bool true)], args := [d1, d2, d3] }
  | _ => none }
def findWrongRow : OpenClaim := { program := "ytkhcaclndepgbaagreat", sum := "459bb094b323ffc55fea1c7fb8b9731b0724af1c79746bf4ea31a7b093333771", func := "catchment/catchmentlaw13.FindWrong", spec := "findWrong", unfollowed := true, recurses := true, apart := false }
def FindWrongSaid : Prop := findWrongRow.holds Tryz.pinned (OpenSpec.ofChange findWrongSpec)

/-- ITS FALSE NEIGHBOUR: 'it returns false'. Refute it at one input. -/
def findWrongWrong : ChangeSpec := { name := "findWrong", fn := fun _ => fun
  | [d1, d2, d3] => { results := [.lit (.bool false)], args := [d1, d2, d3] }
  | _ => none }
def FindWrongWrongFalsely : Prop := findWrongRow.holds Tryz.pinned (OpenSpec.ofChange findWrongWrong)

/-- 'catchmentlaw14.OwnOnce': WHATEVER THE INPUT: true; the input reads as it did. -/
def ownOnceSpec : ChangeSpec := { name := "ownOnce", fn := fun _ => fun
  | [d] => { results := [.lit (.bool true)], args := [d] }
  | _ => none }
def ownOnceRow : OpenClaim := { program := "ytkhcaclndepgbaagreat", sum := "459bb094b323ffc55fea1c7fb8b9731b0724af1c79746bf4ea31a7b093333771", func := "catchment/catchmentlaw14.OwnOnce", spec := "ownOnce", unfollowed := true, recurses := true, apart := false }
def OwnOnceSaid : Prop := ownOnceRow.holds Tryz.pinned (OpenSpec.ofChange ownOnceSpec)

/-- ITS FALSE NEIGHBOUR: 'it returns false'. Refute it at one input. -/
def ownOnceWrong : ChangeSpec := { name := "ownOnce", fn := fun _ => fun
  | [d] => { results := [.lit (.bool false)], args := [d] }
  | _ => none }
def OwnOnceWrongFalsely : Prop := ownOnceRow.holds Tryz.pinned (OpenSpec.ofChange ownOnceWrong)

/-- 'catchmentlaw14.OwnAll': WHATEVER THE INPUT: true; the input reads as it did. -/
def ownAllSpec : ChangeSpec := { name := "ownAll", fn := fun _ => fun
  | [d1, d2] => { results := [.lit (.bool true)], args := [d1, d2] }
  | _ => none }
def ownAllRow : OpenClaim := { program := "ytkhcaclndepgbaagreat", sum := "459bb094b323ffc55fea1c7fb8b9731b0724af1c79746bf4ea31a7b093333771", func := "catchment/catchmentlaw14.OwnAll", spec := "ownAll", unfollowed := true, recurses := true, apart := false }
def OwnAllSaid : Prop := ownAllRow.holds Tryz.pinned (OpenSpec.ofChange ownAllSpec)

/-- ITS FALSE NEIGHBOUR: 'it returns false'. Refute it at one input. -/
def ownAllWrong : ChangeSpec := { name := "ownAll", fn := fun _ => fun
  | [d1, d2] => { results := [.lit (.bool false)], args := [d1, d2] }
  | _ => none }
def OwnAllWrongFalsely : Prop := ownAllRow.holds Tryz.pinned (OpenSpec.ofChange ownAllWrong)

/-- 'catchmentlaw14.OwnPuts': WHATEVER THE INPUT: true; the input reads as it did. -/
def ownPutsSpec : ChangeSpec := { name := "ownPuts", fn := fun _ => fun
  | [d1, d2, d3] => { results := [.lit (.bool true)], args := [d1, d2, d3] }
  | _ => none }
def ownPutsRow : OpenClaim := { program := "ytkhcaclndepgbaagreat", sum := "459bb094b323ffc55fea1c7fb8b9731b0724af1c79746bf4ea31a7b093333771", func := "catchment/catchmentlaw14.OwnPuts", spec := "ownPuts", unfollowed := true, recurses := true, apart := false }
def OwnPutsSaid : Prop := ownPutsRow.holds Tryz.pinned (OpenSpec.ofChange ownPutsSpec)

/-- ITS FALSE NEIGHBOUR: 'it returns false'. Refute it at one input. -/
def ownPutsWrong : ChangeSpec := { name := "ownPuts", fn := fun _ => fun
  | [d1, d2, d3] => { results := [.lit (.bool false)], args := [d1, d2, d3] }
  | _ => none }
def OwnPutsWrongFalsely : Prop := ownPutsRow.holds Tryz.pinned (OpenSpec.ofChange ownPutsWrong)

/-- 'catchmentlaw14.OwnCounts': WHATEVER THE INPUT: true; the input reads as it did. -/
def ownCountsSpec : ChangeSpec := { name := "ownCounts", fn := fun _ => fun
  | [d1, d2] => { results := [.lit (.bool true)], args := [d1, d2] }
  | _ => none }
def ownCountsRow : OpenClaim := { program := "ytkhcaclndepgbaagreat", sum := "459bb094b323ffc55fea1c7fb8b9731b0724af1c79746bf4ea31a7b093333771", func := "catchment/catchmentlaw14.OwnCounts", spec := "ownCounts", unfollowed := true, recurses := true, apart := false }
def OwnCountsSaid : Prop := ownCountsRow.holds Tryz.pinned (OpenSpec.ofChange ownCountsSpec)

/-- ITS FALSE NEIGHBOUR: 'it returns false'. Refute it at one input. -/
def ownCountsWrong : ChangeSpec := { name := "ownCounts", fn := fun _ => fun
  | [d1, d2] => { results := [.lit (.bool false)], args := [d1, d2] }
  | _ => none }
def OwnCountsWrongFalsely : Prop := ownCountsRow.holds Tryz.pinned (OpenSpec.ofChange ownCountsWrong)

/- THE SECOND FORM. 'bulk': how many values and letters a reading holds, each counted each time it is reached (what is shared counts as often as it is met; a slice's spare places count too). A statement '..UptoSaid' is the law's where the arguments, and the package variables that the reading takes, are together of bulk at most 1048576: NARROWER than '..Said'. Prove '..Said' where nothing that the law and all that it calls make is longer than what came in: it says more and counts as full. Else prove '..UptoSaid'. A law counts once. -/
mutual
def uptoBulk {H : Type} : DataW H → Nat
  | .lit (.string bytes) => bytes.length + 1
  | .lit _ => 1
  | .nil => 1
  | .ptr d => uptoBulk d + 1
  | .slice elems spare => uptoBulkAll elems + uptoBulkAll spare + 1
  | .agg parts => uptoBulkAll parts + 1
  | .iface _ d => uptoBulk d + 1
  | .map entries => uptoBulkEntries entries + 1
  | .held _ => 1
def uptoBulkAll {H : Type} : List (DataW H) → Nat
  | [] => 0
  | d :: r => uptoBulk d + uptoBulkAll r
def uptoBulkEntries {H : Type} : List (Lit × DataW H) → Nat
  | [] => 0
  | x :: r => uptoBulkEntry x + uptoBulkEntries r
def uptoBulkEntry {H : Type} : Lit × DataW H → Nat
  | (.string bytes, d) => bytes.length + uptoBulk d + 1
  | (_, d) => uptoBulk d + 1
 end
def uptoSmall : (H : Type) → List (DataW H) → Bool := fun _ ds => decide (uptoBulkAll ds ≤ 1048576)
def OpenSpec.upto (s : _root_.Go.ChangeSpec) : _root_.Go.OpenSpec := { _root_.Go.OpenSpec.ofChange s with cond := some uptoSmall }

/-- 'catchmentlaw11.BaseRoom', WHERE WHAT IT READS IS OF BULK AT MOST 1048576: true; the input reads as it did. -/
def baseRoomUptoRow : OpenClaim := { program := "ytkhcaclndepgbaagreat", sum := "459bb094b323ffc55fea1c7fb8b9731b0724af1c79746bf4ea31a7b093333771", func := "catchment/catchmentlaw11.BaseRoom", spec := "baseRoom", unfollowed := true, recurses := true, apart := false, narrowed := true }
def BaseRoomUptoSaid : Prop := baseRoomUptoRow.holds Tryz.pinned (OpenSpec.upto baseRoomSpec)

/-- 'catchmentlaw11.BaseNone', WHERE WHAT IT READS IS OF BULK AT MOST 1048576: true; the input reads as it did. -/
def baseNoneUptoRow : OpenClaim := { program := "ytkhcaclndepgbaagreat", sum := "459bb094b323ffc55fea1c7fb8b9731b0724af1c79746bf4ea31a7b093333771", func := "catchment/catchmentlaw11.BaseNone", spec := "baseNone", unfollowed := true, recurses := true, apart := false, narrowed := true }
def BaseNoneUptoSaid : Prop := baseNoneUptoRow.holds Tryz.pinned (OpenSpec.upto baseNoneSpec)

/-- 'catchmentlaw11.BaseNever', WHERE WHAT IT READS IS OF BULK AT MOST 1048576: true; the input reads as it did. -/
def baseNeverUptoRow : OpenClaim := { program := "ytkhcaclndepgbaagreat", sum := "459bb094b323ffc55fea1c7fb8b9731b0724af1c79746bf4ea31a7b093333771", func := "catchment/catchmentlaw11.BaseNever", spec := "baseNever", unfollowed := true, recurses := true, apart := false, narrowed := true }
def BaseNeverUptoSaid : Prop := baseNeverUptoRow.holds Tryz.pinned (OpenSpec.upto baseNeverSpec)

/-- 'catchmentlaw11.BaseBack', WHERE WHAT IT READS IS OF BULK AT MOST 1048576: true; the input reads as it did. -/
def baseBackUptoRow : OpenClaim := { program := "ytkhcaclndepgbaagreat", sum := "459bb094b323ffc55fea1c7fb8b9731b0724af1c79746bf4ea31a7b093333771", func := "catchment/catchmentlaw11.BaseBack", spec := "baseBack", unfollowed := true, recurses := true, apart := false, narrowed := true }
def BaseBackUptoSaid : Prop := baseBackUptoRow.holds Tryz.pinned (OpenSpec.upto baseBackSpec)

/-- 'catchmentlaw13.FindTells', WHERE WHAT IT READS IS OF BULK AT MOST 1048576: true; the input reads as it did. -/
def findTellsUptoRow : OpenClaim := { program := "ytkhcaclndepgbaagreat", sum := "459bb094b323ffc55fea1c7fb8b9731b0724af1c79746bf4ea31a7b093333771", func := "catchment/catchmentlaw13.FindTells", spec := "findTells", unfollowed := true, recurses := true, apart := false, narrowed := true }
def FindTellsUptoSaid : Prop := findTellsUptoRow.holds Tryz.pinned (OpenSpec.upto findTellsSpec)

/-- 'catchmentlaw13.FindWalks', WHERE WHAT IT READS IS OF BULK AT MOST 1048576: true; the input reads as it did. -/
def findWalksUptoRow : OpenClaim := { program := "ytkhcaclndepgbaagreat", sum := "459bb094b323ffc55fea1c7fb8b9731b0724af1c79746bf4ea31a7b093333771", func := "catchment/catchmentlaw13.FindWalks", spec := "findWalks", unfollowed := true, recurses := true, apart := false, narrowed := true }
def FindWalksUptoSaid : Prop := findWalksUptoRow.holds Tryz.pinned (OpenSpec.upto findWalksSpec)

/-- 'catchmentlaw13.FindNone', WHERE WHAT IT READS IS OF BULK AT MOST 1048576: true; the input reads as it did. -/
def findNoneUptoRow : OpenClaim := { program := "ytkhcaclndepgbaagreat", sum := "459bb094b323ffc55fea1c7fb8b9731b0724af1c79746bf4ea31a7b093333771", func := "catchment/catchmentlaw13.FindNone", spec := "findNone", unfollowed := true, recurses := true, apart := false, narrowed := true }
def FindNoneUptoSaid : Prop := findNoneUptoRow.holds Tryz.pinned (OpenSpec.upto findNoneSpec)

/-- 'catchmentlaw13.FindWrong', WHERE WHAT IT READS IS OF BULK AT MOST 1048576: true; the input reads as it did. -/
def findWrongUptoRow : OpenClaim := { program := "ytkhcaclndepgbaagreat", sum := "459bb094b323ffc55fea1c7fb8b9731b0724af1c79746bf4ea31a7b093333771", func := "catchment/catchmentlaw13.FindWrong", spec := "findWrong", unfollowed := true, recurses := true, apart := false, narrowed := true }
def FindWrongUptoSaid : Prop := findWrongUptoRow.holds Tryz.pinned (OpenSpec.upto findWrongSpec)

/-- 'catchmentlaw14.OwnOnce', WHERE WHAT IT READS IS OF BULK AT MOST 1048576: true; the input reads as it did. -/
def ownOnceUptoRow : OpenClaim := { program := "ytkhcaclndepgbaagreat", sum := "459bb094b323ffc55fea1c7fb8b9731b0724af1c79746bf4ea31a7b093333771", func := "catchment/catchmentlaw14.OwnOnce", spec := "ownOnce", unfollowed := true, recurses := true, apart := false, narrowed := true }
def OwnOnceUptoSaid : Prop := ownOnceUptoRow.holds Tryz.pinned (OpenSpec.upto ownOnceSpec)

/-- 'catchmentlaw14.OwnAll', WHERE WHAT IT READS IS OF BULK AT MOST 1048576: true; the input reads as it did. -/
def ownAllUptoRow : OpenClaim := { program := "ytkhcaclndepgbaagreat", sum := "459bb094b323ffc55fea1c7fb8b9731b0724af1c79746bf4ea31a7b093333771", func := "catchment/catchmentlaw14.OwnAll", spec := "ownAll", unfollowed := true, recurses := true, apart := false, narrowed := true }
def OwnAllUptoSaid : Prop := ownAllUptoRow.holds Tryz.pinned (OpenSpec.upto ownAllSpec)

/-- 'catchmentlaw14.OwnPuts', WHERE WHAT IT READS IS OF BULK AT MOST 1048576: true; the input reads as it did. -/
def ownPutsUptoRow : OpenClaim := { program := "ytkhcaclndepgbaagreat", sum := "459bb094b323ffc55fea1c7fb8b9731b0724af1c79746bf4ea31a7b093333771", func := "catchment/catchmentlaw14.OwnPuts", spec := "ownPuts", unfollowed := true, recurses := true, apart := false, narrowed := true }
def OwnPutsUptoSaid : Prop := ownPutsUptoRow.holds Tryz.pinned (OpenSpec.upto ownPutsSpec)

/-- 'catchmentlaw14.OwnCounts', WHERE WHAT IT READS IS OF BULK AT MOST 1048576: true; the input reads as it did. -/
def ownCountsUptoRow : OpenClaim := { program := "ytkhcaclndepgbaagreat", sum := "459bb094b323ffc55fea1c7fb8b9731b0724af1c79746bf4ea31a7b093333771", func := "catchment/catchmentlaw14.OwnCounts", spec := "ownCounts", unfollowed := true, recurses := true, apart := false, narrowed := true }
def OwnCountsUptoSaid : Prop := ownCountsUptoRow.holds Tryz.pinned (OpenSpec.upto ownCountsSpec)

end Rows
end Go.Proofs.YtkhcaclndepgbaaGreat
