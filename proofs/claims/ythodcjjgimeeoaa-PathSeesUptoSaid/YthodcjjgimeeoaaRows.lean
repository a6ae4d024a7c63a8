/-
  No cell of these rows narrows 'for every input' (looked for: loops, veiled, ifaces, maps, wideKeys, modest, calm, conditions, laid).
  DERIVED. THE GIVEN ROWS OF THIS SEAT. 16 by the template 'for every input the law returns true; each argument reads behind the call as it read before'; 0 by the template 'total and deterministic' (their statements: YthodcjjgimeeoaaTotals.lean).
  GIVEN WITH THE SEED: the statements are not yours to turn. If you find one false, say at which input.
  Laid BY PROGRAM, IN A SANDBOX (cutbox-rows.mjs): the forced cells as the released guide's own fill.sh prints them over the translation fe285cf268f4e251… (all of the seat's roots in one cut). By AI agents, Wed Nov 11 2026. No macro, syntax, notation, axiom, sorry.
-/
import Derived.Test.YthodcjjgimeeoaaChecked
import GoSem.Claim
import GoSem.ClaimJoined
import GoSem.ClaimMapViews
import Derived.JoinedTies
import Derived.KernelRfl
namespace Go.Proofs.Ythodcjjgimeeoaa
/- THE CELL 'sum', in the pinned program and in every row, IS THE sha256 OF THE DUMP (.gsa) THAT YthodcjjgimeeoaaProg.lean LOADS. Nothing in Lean hashes anything: it is a label: what it is worth is what the hold of that sum in a sandbox is worth. -/
noncomputable def Try.pinned : Pinned := { name := "ythodcjjgimeeoaa", sum := "fe285cf268f4e251f82e7da4cf1b5b3d940997c1b0146af48e9d524fd83d7e17", checked := Try.checked }
namespace Rows
def none {H : Type} : Left H := { results := [], args := [] }

/-- 'canopylaw13.WalkSteps': WHATEVER THE INPUT: true; the input reads as it did. -/
def walkStepsSpec : ChangeSpec := { name := "walkSteps", fn := fun _ => fun
  | [d1, d2, d3] => { results := [.lit (.bool true)], args := [d1, d2, d3] }
  | _ => none }
def walkStepsRow : OpenClaim := { program := "ythodcjjgimeeoaa", sum := "fe285cf268f4e251f82e7da4cf1b5b3d940997c1b0146af48e9d524fd83d7e17", func := "canopy/canopylaw13.WalkSteps", spec := "walkSteps", unfollowed := true, recurses := true, plainKeys := false, apart := false }
def WalkStepsSaid : Prop := walkStepsRow.holds Try.pinned (OpenSpec.ofChange walkStepsSpec)

/-- ITS FALSE NEIGHBOUR: 'it returns false'. Refute it at one input. -/
def walkStepsWrong : ChangeSpec := { name := "walkSteps", fn := fun _ => fun
  | [d1, d2, d3] => { results := [.lit (.bool false)], args := [d1, d2, d3] }
  | _ => none }
def WalkStepsWrongFalsely : Prop := walkStepsRow.holds Try.pinned (OpenSpec.ofChange walkStepsWrong)

/-- 'canopylaw13.WalkAlls': WHATEVER THE INPUT: true; the input reads as it did. -/
def walkAllsSpec : ChangeSpec := { name := "walkAlls", fn := fun _ => fun
  | [d1, d2, d3] => { results := [.lit (.bool true)], args := [d1, d2, d3] }
  | _ => none }
def walkAllsRow : OpenClaim := { program := "ythodcjjgimeeoaa", sum := "fe285cf268f4e251f82e7da4cf1b5b3d940997c1b0146af48e9d524fd83d7e17", func := "canopy/canopylaw13.WalkAlls", spec := "walkAlls", unfollowed := true, recurses := true, plainKeys := false, apart := false }
def WalkAllsSaid : Prop := walkAllsRow.holds Try.pinned (OpenSpec.ofChange walkAllsSpec)

/-- ITS FALSE NEIGHBOUR: 'it returns false'. Refute it at one input. -/
def walkAllsWrong : ChangeSpec := { name := "walkAlls", fn := fun _ => fun
  | [d1, d2, d3] => { results := [.lit (.bool false)], args := [d1, d2, d3] }
  | _ => none }
def WalkAllsWrongFalsely : Prop := walkAllsRow.holds Try.pinned (OpenSpec.ofChange walkAllsWrong)

/-- 'canopylaw13.WalkShown': WHATEVER THE INPUT: true; the input reads as it did. -/
def walkShownSpec : ChangeSpec := { name := "walkShown", fn := fun _ => fun
  | [d1, d2, d3] => { results := [.lit (.bool true)], args := [d1, d2, d3] }
  | _ => none }
def walkShownRow : OpenClaim := { program := "ythodcjjgimeeoaa", sum := "fe285cf268f4e251f82e7da4cf1b5b3d940997c1b0146af48e9d524fd83d7e17", func := "canopy/canopylaw13.WalkShown", spec := "walkShown", unfollowed := true, recurses := true, plainKeys := false, apart := false }
def WalkShownSaid : Prop := walkShownRow.holds Try.pinned (OpenSpec.ofChange walkShownSpec)

/-- ITS FALSE NEIGHBOUR: 'it returns false'. Refute it at one input. -/
def walkShownWrong : ChangeSpec := { name := "walkShown", fn := fun _ => fun
  | [d1, d2, d3] => { results := [.lit (.bool false)], args := [d1, d2, d3] }
  | _ => none }
def WalkShownWrongFalsely : Prop := walkShownRow.holds Try.pinned (OpenSpec.ofChange walkShownWrong)

/-- 'canopylaw13.WalkBack': WHATEVER THE INPUT: true; the input reads as it did. -/
def walkBackSpec : ChangeSpec := { name := "walkBack", fn := fun _ => fun
  | [d1, d2, d3] => { results := [.lit (.bool true)], args := [d1, d2, d3] }
  | _ => none }
def walkBackRow : OpenClaim := { program := "ythodcjjgimeeoaa", sum := "fe285cf268f4e251f82e7da4cf1b5b3d940997c1b0146af48e9d524fd83d7e17", func := "canopy/canopylaw13.WalkBack", spec := "walkBack", unfollowed := true, recurses := true, plainKeys := false, apart := false }
def WalkBackSaid : Prop := walkBackRow.holds Try.pinned (OpenSpec.ofChange walkBackSpec)

/-- ITS FALSE NEIGHBOUR: 'it returns false'. Refute it at one input. -/
def walkBackWrong : ChangeSpec := { name := "walkBack", fn := fun _ => fun
  | [d1, d2, d3] => { results := [.lit (.bool false)], args := [d1, d2, d3] }
  | _ => none }
def WalkBackWrongFalsely : Prop := walkBackRow.holds Try.pinned (OpenSpec.ofChange walkBackWrong)

/-- 'canopylaw13.WalkWithin': WHATEVER THE INPUT: true; the input reads as it did. -/
def walkWithinSpec : ChangeSpec := { name := "walkWithin", fn := fun _ => fun
  | [d1, d2, d3] => { results := [.lit (.bool true)], args := [d1, d2, d3] }
  | _ => none }
def walkWithinRow : OpenClaim := { program := "ythodcjjgimeeoaa", sum := "fe285cf268f4e251f82e7da4cf1b5b3d940997c1b0146af48e9d524fd83d7e17", func := "canopy/canopylaw13.WalkWithin", spec := "walkWithin", unfollowed := true, recurses := true, plainKeys := false, apart := false }
def WalkWithinSaid : Prop := walkWithinRow.holds Try.pinned (OpenSpec.ofChange walkWithinSpec)

/-- ITS FALSE NEIGHBOUR: 'it returns false'. Refute it at one input. -/
def walkWithinWrong : ChangeSpec := { name := "walkWithin", fn := fun _ => fun
  | [d1, d2, d3] => { results := [.lit (.bool false)], args := [d1, d2, d3] }
  | _ => none }
def WalkWithinWrongFalsely : Prop := walkWithinRow.holds Try.pinned (OpenSpec.ofChange walkWithinWrong)

/-- 'canopylaw13.WalkOwn': WHATEVER THE INPUT: true; the input reads as it did. -/
def walkOwnSpec : ChangeSpec := { name := "walkOwn", fn := fun _ => fun
  | [d1, d2, d3] => { results := [.lit (.bool true)], args := [d1, d2, d3] }
  | _ => none }
def walkOwnRow : OpenClaim := { program := "ythodcjjgimeeoaa", sum := "fe285cf268f4e251f82e7da4cf1b5b3d940997c1b0146af48e9d524fd83d7e17", func := "canopy/canopylaw13.WalkOwn", spec := "walkOwn", unfollowed := true, recurses := true, plainKeys := false, apart := false }
def WalkOwnSaid : Prop := walkOwnRow.holds Try.pinned (OpenSpec.ofChange walkOwnSpec)

/-- ITS FALSE NEIGHBOUR: 'it returns false'. Refute it at one input. -/
def walkOwnWrong : ChangeSpec := { name := "walkOwn", fn := fun _ => fun
  | [d1, d2, d3] => { results := [.lit (.bool false)], args := [d1, d2, d3] }
  | _ => none }
def WalkOwnWrongFalsely : Prop := walkOwnRow.holds Try.pinned (OpenSpec.ofChange walkOwnWrong)

/-- 'canopylaw13.WalkAccepts': WHATEVER THE INPUT: true; the input reads as it did. -/
def walkAcceptsSpec : ChangeSpec := { name := "walkAccepts", fn := fun _ => fun
  | [d1, d2, d3] => { results := [.lit (.bool true)], args := [d1, d2, d3] }
  | _ => none }
def walkAcceptsRow : OpenClaim := { program := "ythodcjjgimeeoaa", sum := "fe285cf268f4e251f82e7da4cf1b5b3d940997c1b0146af48e9d524fd83d7e17", func := "canopy/canopylaw13.WalkAccepts", spec := "walkAccepts", unfollowed := true, recurses := true, plainKeys := false, apart := false }
def WalkAcceptsSaid : Prop := walkAcceptsRow.holds Try.pinned (OpenSpec.ofChange walkAcceptsSpec)

/-- ITS FALSE NEIGHBOUR: 'it returns false'. Refute it at one input. -/
def walkAcceptsWrong : ChangeSpec := { name := "walkAccepts", fn := fun _ => fun
  | [d1, d2, d3] => { results := [.lit (.bool false)], args := [d1, d2, d3] }
  | _ => none }
def WalkAcceptsWrongFalsely : Prop := walkAcceptsRow.holds Try.pinned (OpenSpec.ofChange walkAcceptsWrong)

/-- 'canopylaw20.PathSees': WHATEVER THE INPUT: true; the input reads as it did. -/
def pathSeesSpec : ChangeSpec := { name := "pathSees", fn := fun _ => fun
  | [d1, d2, d3] => { results := [.lit (.bool true)], args := [d1, d2, d3] }
  | _ => none }
def pathSeesRow : OpenClaim := { program := "ythodcjjgimeeoaa", sum := "fe285cf268f4e251f82e7da4cf1b5b3d940997c1b0146af48e9d524fd83d7e17", func := "canopy/canopylaw20.PathSees", spec := "pathSees", unfollowed := true, recurses := true, plainKeys := false, apart := false }
def PathSeesSaid : Prop := pathSeesRow.holds Try.pinned (OpenSpec.ofChange pathSeesSpec)

/-- ITS FALSE NEIGHBOUR: 'it returns false'. Refute it at one input. -/
def pathSeesWrong : ChangeSpec := { name := "pathSees", fn := fun _ => fun
  | [d1, d2, d3] => { results := [.lit (.bool false)], args := [d1, d2, d3] }
  | _ => none }
def PathSeesWrongFalsely : Prop := pathSeesRow.holds Try.pinned (OpenSpec.ofChange pathSeesWrong)

/-- 'canopylaw20.PathOnce': WHATEVER THE INPUT: true; the input reads as it did. -/
def pathOnceSpec : ChangeSpec := { name := "pathOnce", fn := fun _ => fun
  | [d1, d2, d3, d4, d5] => { results := [.lit (.bool true)], args := [d1, d2, d3, d4, d5] }
  | _ => none }
def pathOnceRow : OpenClaim := { program := "ythodcjjgimeeoaa", sum := "fe285cf268f4e251f82e7da4cf1b5b3d940997c1b0146af48e9d524fd83d7e17", func := "canopy/canopylaw20.PathOnce", spec := "pathOnce", unfollowed := true, recurses := true, plainKeys := false, apart := false }
def PathOnceSaid : Prop := pathOnceRow.holds Try.pinned (OpenSpec.ofChange pathOnceSpec)

/-- ITS FALSE NEIGHBOUR: 'it returns false'. Refute it at one input. -/
def pathOnceWrong : ChangeSpec := { name := "pathOnce", fn := fun _ => fun
  | [d1, d2, d3, d4, d5] => { results := [.lit (.bool false)], args := [d1, d2, d3, d4, d5] }
  | _ => none }
def PathOnceWrongFalsely : Prop := pathOnceRow.holds Try.pinned (OpenSpec.ofChange pathOnceWrong)

/-- 'canopylaw20.PathOpen': WHATEVER THE INPUT: true; the input reads as it did. -/
def pathOpenSpec : ChangeSpec := { name := "pathOpen", fn := fun _ => fun
  | [d1, d2] => { results := [.lit (.bool true)], args := [d1, d2] }
  | _ => none }
def pathOpenRow : OpenClaim := { program := "ythodcjjgimeeoaa", sum := "fe285cf268f4e251f82e7da4cf1b5b3d940997c1b0146af48e9d524fd83d7e17", func := "canopy/canopylaw20.PathOpen", spec := "pathOpen", unfollowed := true, recurses := true, plainKeys := false, apart := false }
def PathOpenSaid : Prop := pathOpenRow.holds Try.pinned (OpenSpec.ofChange pathOpenSpec)

/-- ITS FALSE NEIGHBOUR: 'it returns false'. Refute it at one input. -/
def pathOpenWrong : ChangeSpec := { name := "pathOpen", fn := fun _ => fun
  | [d1, d2] => { results := [.lit (.bool false)], args := [d1, d2] }
  | _ => none }
def PathOpenWrongFalsely : Prop := pathOpenRow.holds Try.pinned (OpenSpec.ofChange pathOpenWrong)

/-- 'canopylaw20.PathHides': WHATEVER THE INPUT: true; the input reads as it did. -/
def pathHidesSpec : ChangeSpec := { name := "pathHides", fn := fun _ => fun
  | [d1, d2, d3, d4, d5] => { results := [.lit (.bool true)], args := [d1, d2, d3, d4, d5] }
  | _ => none }
def pathHidesRow : OpenClaim := { program := "ythodcjjgimeeoaa", sum := "fe285cf268f4e251f82e7da4cf1b5b3d940997c1b0146af48e9d524fd83d7e17", func := "canopy/canopylaw20.PathHides", spec := "pathHides", unfollowed := true, recurses := true, plainKeys := false, apart := false }
def PathHidesSaid : Prop := pathHidesRow.holds Try.pinned (OpenSpec.ofChange pathHidesSpec)

/-- ITS FALSE NEIGHBOUR: 'it returns false'. Refute it at one input. -/
def pathHidesWrong : ChangeSpec := { name := "pathHides", fn := fun _ => fun
  | [d1, d2, d3, d4, d5] => { results := [.lit (.bool false)], args := [d1, d2, d3, d4, d5] }
  | _ => none }
def PathHidesWrongFalsely : Prop := pathHidesRow.holds Try.pinned (OpenSpec.ofChange pathHidesWrong)

/-- 'canopylaw20.PathStays': WHATEVER THE INPUT: true; the input reads as it did. -/
def pathStaysSpec : ChangeSpec := { name := "pathStays", fn := fun _ => fun
  | [d1, d2, d3, d4] => { results := [.lit (.bool true)], args := [d1, d2, d3, d4] }
  | _ => none }
def pathStaysRow : OpenClaim := { program := "ythodcjjgimeeoaa", sum := "fe285cf268f4e251f82e7da4cf1b5b3d940997c1b0146af48e9d524fd83d7e17", func := "canopy/canopylaw20.PathStays", spec := "pathStays", unfollowed := true, recurses := true, plainKeys := false, apart := false }
def PathStaysSaid : Prop := pathStaysRow.holds Try.pinned (OpenSpec.ofChange pathStaysSpec)

/-- ITS FALSE NEIGHBOUR: 'it returns false'. Refute it at one input. -/
def pathStaysWrong : ChangeSpec := { name := "pathStays", fn := fun _ => fun
  | [d1, d2, d3, d4] => { results := [.lit (.bool false)], args := [d1, d2, d3, d4] }
  | _ => none }
def PathStaysWrongFalsely : Prop := pathStaysRow.holds Try.pinned (OpenSpec.ofChange pathStaysWrong)

/-- 'canopylaw19.FlatTargets': WHATEVER THE INPUT: true; the input reads as it did. -/
def flatTargetsSpec : ChangeSpec := { name := "flatTargets", fn := fun _ => fun
  | [d1, d2, d3] => { results := [.lit (.bool true)], args := [d1, d2, d3] }
  | _ => none }
def flatTargetsRow : OpenClaim := { program := "ythodcjjgimeeoaa", sum := "fe285cf268f4e251f82e7da4cf1b5b3d940997c1b0146af48e9d524fd83d7e17", func := "canopy/canopylaw19.FlatTargets", spec := "flatTargets", unfollowed := true, recurses := true, plainKeys := false, apart := false }
def FlatTargetsSaid : Prop := flatTargetsRow.holds Try.pinned (OpenSpec.ofChange flatTargetsSpec)

/-- ITS FALSE NEIGHBOUR: 'it returns false'. Refute it at one input. -/
def flatTargetsWrong : ChangeSpec := { name := "flatTargets", fn := fun _ => fun
  | [d1, d2, d3] => { results := [.lit (.bool false)], args := [d1, d2, d3] }
  | _ => none }
def FlatTargetsWrongFalsely : Prop := flatTargetsRow.holds Try.pinned (OpenSpec.ofChange flatTargetsWrong)

/-- 'canopylaw19.FlatSeen': WHATEVER THE INPUT: true; the input reads as it did. -/
def flatSeenSpec : ChangeSpec := { name := "flatSeen", fn := fun _ => fun
  | [d1, d2, d3] => { results := [.lit (.bool true)], args := [d1, d2, d3] }
  | _ => none }
def flatSeenRow : OpenClaim := { program := "ythodcjjgimeeoaa", sum := "fe285cf268f4e251f82e7da4cf1b5b3d940997c1b0146af48e9d524fd83d7e17", func := "canopy/canopylaw19.FlatSeen", spec := "flatSeen", unfollowed := true, recurses := true, plainKeys := false, apart := false }
def FlatSeenSaid : Prop := flatSeenRow.holds Try.pinned (OpenSpec.ofChange flatSeenSpec)

/-- ITS FALSE NEIGHBOUR: 'it returns false'. Refute it at one input. -/
def flatSeenWrong : ChangeSpec := { name := "flatSeen", fn := fun _ => fun
  | [d1, d2, d3] => { results := [.lit (.bool false)], args := [d1, d2, d3] }
  | _ => none }
def FlatSeenWrongFalsely : Prop := flatSeenRow.holds Try.pinned (OpenSpec.ofChange flatSeenWrong)

/-- 'canopylaw19.FlatOne': WHATEVER THE INPUT: true; the input reads as it did. -/
def flatOneSpec : ChangeSpec := { name := "flatOne", fn := fun _ => fun
  | [d1, d2, d3] => { results := [.lit (.bool true)], args := [d1, d2, d3] }
  | _ => none }
def flatOneRow : OpenClaim := { program := "ythodcjjgimeeoaa", sum := "fe285cf268f4e251f82e7da4cf1b5b3d940997c1b0146af48e9d524fd83d7e17", func := "canopy/canopylaw19.FlatOne", spec := "flatOne", unfollowed := true, recurses := true, plainKeys := false, apart := false }
def FlatOneSaid : Prop := flatOneRow.holds Try.pinned (OpenSpec.ofChange flatOneSpec)

/-- ITS FALSE NEIGHBOUR: 'it returns false'. Refute it at one input. -/
def flatOneWrong : ChangeSpec := { name := "flatOne", fn := fun _ => fun
  | [d1, d2, d3] => { results := [.lit (.bool false)], args := [d1, d2, d3] }
  | _ => none }
def FlatOneWrongFalsely : Prop := flatOneRow.holds Try.pinned (OpenSpec.ofChange flatOneWrong)

/-- 'canopylaw19.FlatThrough': WHATEVER THE INPUT: true; the input reads as it did. -/
def flatThroughSpec : ChangeSpec := { name := "flatThrough", fn := fun _ => fun
  | [d1, d2, d3] => { results := [.lit (.bool true)], args := [d1, d2, d3] }
  | _ => none }
def flatThroughRow : OpenClaim := { program := "ythodcjjgimeeoaa", sum := "fe285cf268f4e251f82e7da4cf1b5b3d940997c1b0146af48e9d524fd83d7e17", func := "canopy/canopylaw19.FlatThrough", spec := "flatThrough", unfollowed := true, recurses := true, plainKeys := false, apart := false }
def FlatThroughSaid : Prop := flatThroughRow.holds Try.pinned (OpenSpec.ofChange flatThroughSpec)

/-- ITS FALSE NEIGHBOUR: 'it returns false'. Refute it at one input. -/
def flatThroughWrong : ChangeSpec := { name := "flatThrough", fn := fun _ => fun
  | [d1, d2, d3] => { results := [.lit (.bool false)], args := [d1, d2, d3] }
  | _ => none }
def FlatThroughWrongFalsely : Prop := flatThroughRow.holds Try.pinned (OpenSpec.ofChange flatThroughWrong)

/- THE SECOND FORM. 'bulk': how many values and letters a reading holds, each counted each time it is reached (what is shared counts as often as it is met; a slice's spare places count too). A statement '..UptoSaid' is the law's where the arguments, and the package variables that the reading takes, are together of bulk at most 1048576: NARROWER than '..Said'. Prove '..Said' where nothing that the law and all that it calls make is longer than what came in: it says more and counts as full. Else prove '..UptoSaid'. A law counts once. -/
mutual
def uptoBulk {H : Type} : DataW H → Nat
  | .lit (.string bytes) => bytes.length + 1
  | .lit _ => 1
  | .nil => 1
  | .ptr d => uptoBulk d + 1
  | .slice elems spare => uptoBulkAll elems + uptoBulkAll spare + 1
  | .agg parts => uptoBulkAll parts + 1
  | .iface _ d => uptoBulk d + 1
  | .map entries => uptoBulkEntries entries + 1
  | .held _ => 1
def uptoBulkAll {H : Type} : List (DataW H) → Nat
  | [] => 0
  | d :: r => uptoBulk d + uptoBulkAll r
def uptoBulkEntries {H : Type} : List (Lit × DataW H) → Nat
  | [] => 0
  | x :: r => uptoBulkEntry x + uptoBulkEntries r
def uptoBulkEntry {H : Type} : Lit × DataW H → Nat
  | (.string bytes, d) => bytes.length + uptoBulk d + 1
  | (_, d) => uptoBulk d + 1
 end
def uptoSmall : (H : Type) → List (DataW H) → Bool := fun _ ds => decide (uptoBulkAll ds ≤ 1048576)
def OpenSpec.upto (s : _root_.Go.ChangeSpec) : _root_.Go.OpenSpec := { _root_.Go.OpenSpec.ofChange s with cond := some uptoSmall }

/-- 'canopylaw13.WalkSteps', WHERE WHAT IT READS IS OF BULK AT MOST 1048576: true; the input reads as it did. -/
def walkStepsUptoRow : OpenClaim := { program := "ythodcjjgimeeoaa", sum := "fe285cf268f4e251f82e7da4cf1b5b3d940997c1b0146af48e9d524fd83d7e17", func := "canopy/canopylaw13.WalkSteps", spec := "walkSteps", unfollowed := true, recurses := true, plainKeys := false, apart := false, narrowed := true }
def WalkStepsUptoSaid : Prop := walkStepsUptoRow.holds Try.pinned (OpenSpec.upto walkStepsSpec)

/-- 'canopylaw13.WalkAlls', WHERE WHAT IT READS IS OF BULK AT MOST 1048576: true; the input reads as it did. -/
def walkAllsUptoRow : OpenClaim := { program := "ythodcjjgimeeoaa", sum := "fe285cf268f4e251f82e7da4cf1b5b3d940997c1b0146af48e9d524fd83d7e17", func := "canopy/canopylaw13.WalkAlls", spec := "walkAlls", unfollowed := true, recurses := true, plainKeys := false, apart := false, narrowed := true }
def WalkAllsUptoSaid : Prop := walkAllsUptoRow.holds Try.pinned (OpenSpec.upto walkAllsSpec)

/-- 'canopylaw13.WalkShown', WHERE WHAT IT READS IS OF BULK AT MOST 1048576: true; the input reads as it did. -/
def walkShownUptoRow : OpenClaim := { program := "ythodcjjgimeeoaa", sum := "fe285cf268f4e251f82e7da4cf1b5b3d940997c1b0146af48e9d524fd83d7e17", func := "canopy/canopylaw13.WalkShown", spec := "walkShown", unfollowed := true, recurses := true, plainKeys := false, apart := false, narrowed := true }
def WalkShownUptoSaid : Prop := walkShownUptoRow.holds Try.pinned (OpenSpec.upto walkShownSpec)

/-- 'canopylaw13.WalkBack', WHERE WHAT IT READS IS OF BULK AT MOST 1048576: true; the input reads as it did. -/
def walkBackUptoRow : OpenClaim := { program := "ythodcjjgimeeoaa", sum := "fe285cf268f4e251f82e7da4cf1b5b3d940997c1b0146af48e9d524fd83d7e17", func := "canopy/canopylaw13.WalkBack", spec := "walkBack", unfollowed := true, recurses := true, plainKeys := false, apart := false, narrowed := true }
def WalkBackUptoSaid : Prop := walkBackUptoRow.holds Try.pinned (OpenSpec.upto walkBackSpec)

/-- 'canopylaw13.WalkWithin', WHERE WHAT IT READS IS OF BULK AT MOST 1048576: true; the input reads as it did. -/
def walkWithinUptoRow : OpenClaim := { program := "ythodcjjgimeeoaa", sum := "fe285cf268f4e251f82e7da4cf1b5b3d940997c1b0146af48e9d524fd83d7e17", func := "canopy/canopylaw13.WalkWithin", spec := "walkWithin", unfollowed := true, recurses := true, plainKeys := false, apart := false, narrowed := true }
def WalkWithinUptoSaid : Prop := walkWithinUptoRow.holds Try.pinned (OpenSpec.upto walkWithinSpec)

/-- 'canopylaw13.WalkOwn', WHERE WHAT IT READS IS OF BULK AT MOST 1048576: true; the input reads as it did. -/
def walkOwnUptoRow : OpenClaim := { program := "ythodcjjgimeeoaa", sum := "fe285cf268f4e251f82e7da4cf1b5b3d940997c1b0146af48e9d524fd83d7e17", func := "canopy/canopylaw13.WalkOwn", spec := "walkOwn", unfollowed := true, recurses := true, plainKeys := false, apart := false, narrowed := true }
def WalkOwnUptoSaid : Prop := walkOwnUptoRow.holds Try.pinned (OpenSpec.upto walkOwnSpec)

/-- 'canopylaw13.WalkAccepts', WHERE WHAT IT READS IS OF BULK AT MOST 1048576: true; the input reads as it did. -/
def walkAcceptsUptoRow : OpenClaim := { program := "ythodcjjgimeeoaa", sum := "fe285cf268f4e251f82e7da4cf1b5b3d940997c1b0146af48e9d524fd83d7e17", func := "canopy/canopylaw13.WalkAccepts", spec := "walkAccepts", unfollowed := true, recurses := true, plainKeys := false, apart := false, narrowed := true }
def WalkAcceptsUptoSaid : Prop := walkAcceptsUptoRow.holds Try.pinned (OpenSpec.upto walkAcceptsSpec)

/-- 'canopylaw20.PathSees', WHERE WHAT IT READS IS OF BULK AT MOST 1048576: true; the input reads as it did. -/
def pathSeesUptoRow : OpenClaim := { program := "ythodcjjgimeeoaa", sum := "fe285cf268f4e251f82e7da4cf1b5b3d940997c1b0146af48e9d524fd83d7e17", func := "canopy/canopylaw20.PathSees", spec := "pathSees", unfollowed := true, recurses := true, plainKeys := false, apart := false, narrowed := true }
def PathSeesUptoSaid : Prop := pathSeesUptoRow.holds Try.pinned (OpenSpec.upto pathSeesSpec)

/-- 'canopylaw20.PathOnce', WHERE WHAT IT READS IS OF BULK AT MOST 1048576: true; the input reads as it did. -/
def pathOnceUptoRow : OpenClaim := { program := "ythodcjjgimeeoaa", sum := "fe285cf268f4e251f82e7da4cf1b5b3d940997c1b0146af48e9d524fd83d7e17", func := "canopy/canopylaw20.PathOnce", spec := "pathOnce", unfollowed := true, recurses := true, plainKeys := false, apart := false, narrowed := true }
def PathOnceUptoSaid : Prop := pathOnceUptoRow.holds Try.pinned (OpenSpec.upto pathOnceSpec)

/-- 'canopylaw20.PathOpen', WHERE WHAT IT READS IS OF BULK AT MOST 1048576: true; the input reads as it did. -/
def pathOpenUptoRow : OpenClaim := { program := "ythodcjjgimeeoaa", sum := "fe285cf268f4e251f82e7da4cf1b5b3d940997c1b0146af48e9d524fd83d7e17", func := "canopy/canopylaw20.PathOpen", spec := "pathOpen", unfollowed := true, recurses := true, plainKeys := false, apart := false, narrowed := true }
def PathOpenUptoSaid : Prop := pathOpenUptoRow.holds Try.pinned (OpenSpec.upto pathOpenSpec)

/-- 'canopylaw20.PathHides', WHERE WHAT IT READS IS OF BULK AT MOST 1048576: true; the input reads as it did. -/
def pathHidesUptoRow : OpenClaim := { program := "ythodcjjgimeeoaa", sum := "fe285cf268f4e251f82e7da4cf1b5b3d940997c1b0146af48e9d524fd83d7e17", func := "canopy/canopylaw20.PathHides", spec := "pathHides", unfollowed := true, recurses := true, plainKeys := false, apart := false, narrowed := true }
def PathHidesUptoSaid : Prop := pathHidesUptoRow.holds Try.pinned (OpenSpec.upto pathHidesSpec)

/-- 'canopylaw20.PathStays', WHERE WHAT IT READS IS OF BULK AT MOST 1048576: true; the input reads as it did. -/
def pathStaysUptoRow : OpenClaim := { program := "ythodcjjgimeeoaa", sum := "fe285cf268f4e251f82e7da4cf1b5b3d940997c1b0146af48e9d524fd83d7e17", func := "canopy/canopylaw20.PathStays", spec := "pathStays", unfollowed := true, recurses := true, plainKeys := false, apart := false, narrowed := true }
def PathStaysUptoSaid : Prop := pathStaysUptoRow.holds Try.pinned (OpenSpec.upto pathStaysSpec)

/-- 'canopylaw19.FlatTargets', WHERE WHAT IT READS IS OF BULK AT MOST 1048576: true; the input reads as it did. -/
def flatTargetsUptoRow : OpenClaim := { program := "ythodcjjgimeeoaa", sum := "fe285cf268f4e251f82e7da4cf1b5b3d940997c1b0146af48e9d524fd83d7e17", func := "canopy/canopylaw19.FlatTargets", spec := "flatTargets", unfollowed := true, recurses := true, plainKeys := false, apart := false, narrowed := true }
def FlatTargetsUptoSaid : Prop := flatTargetsUptoRow.holds Try.pinned (OpenSpec.upto flatTargetsSpec)

/-- 'canopylaw19.FlatSeen', WHERE WHAT IT READS IS OF BULK AT MOST 1048576: true; the input reads as it did. -/
def flatSeenUptoRow : OpenClaim := { program := "ythodcjjgimeeoaa", sum := "fe285cf268f4e251f82e7da4cf1b5b3d940997c1b0146af48e9d524fd83d7e17", func := "canopy/canopylaw19.FlatSeen", spec := "flatSeen", unfollowed := true, recurses := true, plainKeys := false, apart := false, narrowed := true }
def FlatSeenUptoSaid : Prop := flatSeenUptoRow.holds Try.pinned (OpenSpec.upto flatSeenSpec)

/-- 'canopylaw19.FlatOne', WHERE WHAT IT READS IS OF BULK AT MOST 1048576: true; the input reads as it did. -/
def flatOneUptoRow : OpenClaim := { program := "ythodcjjgimeeoaa", sum := "fe285cf268f4e251f82e7da4cf1b5b3d940997c1b0146af48e9d524fd83d7e17", func := "canopy/canopylaw19.FlatOne", spec := "flatOne", unfollowed := true, recurses := true, plainKeys := false, apart := false, narrowed := true }
def FlatOneUptoSaid : Prop := flatOneUptoRow.holds Try.pinned (OpenSpec.upto flatOneSpec)

/-- 'canopylaw19.FlatThrough', WHERE WHAT IT READS IS OF BULK AT MOST 1048576: true; the input reads as it did. -/
def flatThroughUptoRow : OpenClaim := { program := "ythodcjjgimeeoaa", sum := "fe285cf268f4e251f82e7da4cf1b5b3d940997c1b0146af48e9d524fd83d7e17", func := "canopy/canopylaw19.FlatThrough", spec := "flatThrough", unfollowed := true, recurses := true, plainKeys := false, apart := false, narrowed := true }
def FlatThroughUptoSaid : Prop := flatThroughUptoRow.holds Try.pinned (OpenSpec.upto flatThroughSpec)

end Rows
end Go.Proofs.Ythodcjjgimeeoaa
