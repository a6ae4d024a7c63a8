/-
  No cell of these rows narrows 'for every input' (looked for: loops, veiled, ifaces, maps, wideKeys, modest, calm, conditions, laid).
  DERIVED. THE GIVEN ROWS OF THIS SEAT. 16 by the template 'for every input the law returns true; each argument reads behind the call as it read before'; 0 by the template 'total and deterministic' (their statements: YtfleilibjdgcjaaTotals.lean).
  GIVEN WITH THE SEED: the statements are not yours to turn. If you find one false, say at which input.
  Laid BY PROGRAM, IN A SANDBOX (cutbox-rows.mjs): the forced cells as the released guide's own fill.sh prints them over the translation 6edddc5d9090cde2… (all of the seat's roots in one cut). By AI agents, Wed Nov 11 2026. No macro, syntax, notation, axiom, sorry.
-/
import Derived.Test.YtfleilibjdgcjaaChecked
import GoSem.Claim
import GoSem.ClaimJoined
import GoSem.ClaimMapViews
import Derived.JoinedTies
import Derived.KernelRfl
namespace Go.Proofs.Ytfleilibjdgcjaa
/- THE CELL 'sum', in the pinned program and in every row, IS THE sha256 OF THE DUMP (.gsa) THAT YtfleilibjdgcjaaProg.lean LOADS. Nothing in Lean hashes anything: it is a label: what it is worth is what the hold of that sum in a sandbox is worth. -/
noncomputable def Try.pinned : Pinned := { name := "ytfleilibjdgcjaa", sum := "6edddc5d9090cde218a3dcd7e7eb567ea60e6074857aeb7340e4cc34df142d51", checked := Try.checked }
namespace Rows
def none {H : Type} : Left H := { results := [], args := [] }

/-- 'canopylaw04.OrderTurned': WHATEVER THE INPUT: true; the input reads as it did. -/
def orderTurnedSpec : ChangeSpec := { name := "orderTurned", fn := fun _ => fun
  | [d1, d2, d3] => { results := [.lit (.bool true)], args := [d1, d2, d3] }
  | _ => none }
def orderTurnedRow : OpenClaim := { program := "ytfleilibjdgcjaa", sum := "6edddc5d9090cde218a3dcd7e7eb567ea60e6074857aeb7340e4cc34df142d51", func := "canopy/canopylaw04.OrderTurned", spec := "orderTurned", unfollowed := true, recurses := true, plainKeys := false, apart := false }
def OrderTurnedSaid : Prop := orderTurnedRow.holds Try.pinned (OpenSpec.ofChange orderTurnedSpec)

/-- ITS FALSE NEIGHBOUR: 'it returns false'. Refute it at one input. -/
def orderTurnedWrong : ChangeSpec := { name := "orderTurned", fn := fun _ => fun
  | [d1, d2, d3] => { results := [.lit (.bool false)], args := [d1, d2, d3] }
  | _ => none }
def OrderTurnedWrongFalsely : Prop := orderTurnedRow.holds Try.pinned (OpenSpec.ofChange orderTurnedWrong)

/-- 'canopylaw08.ValidInsert': WHATEVER THE INPUT: true; the input reads as it did. -/
def validInsertSpec : ChangeSpec := { name := "validInsert", fn := fun _ => fun
  | [d1, d2, d3, d4] => { results := [.lit (.bool true)], args := [d1, d2, d3, d4] }
  | _ => none }
def validInsertRow : OpenClaim := { program := "ytfleilibjdgcjaa", sum := "6edddc5d9090cde218a3dcd7e7eb567ea60e6074857aeb7340e4cc34df142d51", func := "canopy/canopylaw08.ValidInsert", spec := "validInsert", unfollowed := true, recurses := true, plainKeys := false, apart := false }
def ValidInsertSaid : Prop := validInsertRow.holds Try.pinned (OpenSpec.ofChange validInsertSpec)

/-- ITS FALSE NEIGHBOUR: 'it returns false'. Refute it at one input. -/
def validInsertWrong : ChangeSpec := { name := "validInsert", fn := fun _ => fun
  | [d1, d2, d3, d4] => { results := [.lit (.bool false)], args := [d1, d2, d3, d4] }
  | _ => none }
def ValidInsertWrongFalsely : Prop := validInsertRow.holds Try.pinned (OpenSpec.ofChange validInsertWrong)

/-- 'canopylaw08.ValidReplace': WHATEVER THE INPUT: true; the input reads as it did. -/
def validReplaceSpec : ChangeSpec := { name := "validReplace", fn := fun _ => fun
  | [d1, d2, d3, d4] => { results := [.lit (.bool true)], args := [d1, d2, d3, d4] }
  | _ => none }
def validReplaceRow : OpenClaim := { program := "ytfleilibjdgcjaa", sum := "6edddc5d9090cde218a3dcd7e7eb567ea60e6074857aeb7340e4cc34df142d51", func := "canopy/canopylaw08.ValidReplace", spec := "validReplace", unfollowed := true, recurses := true, plainKeys := false, apart := false }
def ValidReplaceSaid : Prop := validReplaceRow.holds Try.pinned (OpenSpec.ofChange validReplaceSpec)

/-- ITS FALSE NEIGHBOUR: 'it returns false'. Refute it at one input. -/
def validReplaceWrong : ChangeSpec := { name := "validReplace", fn := fun _ => fun
  | [d1, d2, d3, d4] => { results := [.lit (.bool false)], args := [d1, d2, d3, d4] }
  | _ => none }
def ValidReplaceWrongFalsely : Prop := validReplaceRow.holds Try.pinned (OpenSpec.ofChange validReplaceWrong)

/-- 'canopylaw08.ValidDone': WHATEVER THE INPUT: true; the input reads as it did. -/
def validDoneSpec : ChangeSpec := { name := "validDone", fn := fun _ => fun
  | [d1, d2, d3, d4] => { results := [.lit (.bool true)], args := [d1, d2, d3, d4] }
  | _ => none }
def validDoneRow : OpenClaim := { program := "ytfleilibjdgcjaa", sum := "6edddc5d9090cde218a3dcd7e7eb567ea60e6074857aeb7340e4cc34df142d51", func := "canopy/canopylaw08.ValidDone", spec := "validDone", unfollowed := true, recurses := true, plainKeys := false, apart := false }
def ValidDoneSaid : Prop := validDoneRow.holds Try.pinned (OpenSpec.ofChange validDoneSpec)

/-- ITS FALSE NEIGHBOUR: 'it returns false'. Refute it at one input. -/
def validDoneWrong : ChangeSpec := { name := "validDone", fn := fun _ => fun
  | [d1, d2, d3, d4] => { results := [.lit (.bool false)], args := [d1, d2, d3, d4] }
  | _ => none }
def ValidDoneWrongFalsely : Prop := validDoneRow.holds Try.pinned (OpenSpec.ofChange validDoneWrong)

/-- 'canopylaw08.ValidRing': WHATEVER THE INPUT: true; the input reads as it did. -/
def validRingSpec : ChangeSpec := { name := "validRing", fn := fun _ => fun
  | [d1, d2, d3, d4] => { results := [.lit (.bool true)], args := [d1, d2, d3, d4] }
  | _ => none }
def validRingRow : OpenClaim := { program := "ytfleilibjdgcjaa", sum := "6edddc5d9090cde218a3dcd7e7eb567ea60e6074857aeb7340e4cc34df142d51", func := "canopy/canopylaw08.ValidRing", spec := "validRing", unfollowed := true, recurses := true, plainKeys := false, apart := false }
def ValidRingSaid : Prop := validRingRow.holds Try.pinned (OpenSpec.ofChange validRingSpec)

/-- ITS FALSE NEIGHBOUR: 'it returns false'. Refute it at one input. -/
def validRingWrong : ChangeSpec := { name := "validRing", fn := fun _ => fun
  | [d1, d2, d3, d4] => { results := [.lit (.bool false)], args := [d1, d2, d3, d4] }
  | _ => none }
def ValidRingWrongFalsely : Prop := validRingRow.holds Try.pinned (OpenSpec.ofChange validRingWrong)

/-- 'canopylaw08.ValidElsewhere': WHATEVER THE INPUT: true; the input reads as it did. -/
def validElsewhereSpec : ChangeSpec := { name := "validElsewhere", fn := fun _ => fun
  | [d1, d2, d3] => { results := [.lit (.bool true)], args := [d1, d2, d3] }
  | _ => none }
def validElsewhereRow : OpenClaim := { program := "ytfleilibjdgcjaa", sum := "6edddc5d9090cde218a3dcd7e7eb567ea60e6074857aeb7340e4cc34df142d51", func := "canopy/canopylaw08.ValidElsewhere", spec := "validElsewhere", unfollowed := true, recurses := true, plainKeys := false, apart := false }
def ValidElsewhereSaid : Prop := validElsewhereRow.holds Try.pinned (OpenSpec.ofChange validElsewhereSpec)

/-- ITS FALSE NEIGHBOUR: 'it returns false'. Refute it at one input. -/
def validElsewhereWrong : ChangeSpec := { name := "validElsewhere", fn := fun _ => fun
  | [d1, d2, d3] => { results := [.lit (.bool false)], args := [d1, d2, d3] }
  | _ => none }
def ValidElsewhereWrongFalsely : Prop := validElsewhereRow.holds Try.pinned (OpenSpec.ofChange validElsewhereWrong)

/-- 'canopylaw04.OrderWithin': WHATEVER THE INPUT: true; the input reads as it did. -/
def orderWithinSpec : ChangeSpec := { name := "orderWithin", fn := fun _ => fun
  | [d1, d2, d3] => { results := [.lit (.bool true)], args := [d1, d2, d3] }
  | _ => none }
def orderWithinRow : OpenClaim := { program := "ytfleilibjdgcjaa", sum := "6edddc5d9090cde218a3dcd7e7eb567ea60e6074857aeb7340e4cc34df142d51", func := "canopy/canopylaw04.OrderWithin", spec := "orderWithin", unfollowed := true, recurses := true, plainKeys := false, apart := false }
def OrderWithinSaid : Prop := orderWithinRow.holds Try.pinned (OpenSpec.ofChange orderWithinSpec)

/-- ITS FALSE NEIGHBOUR: 'it returns false'. Refute it at one input. -/
def orderWithinWrong : ChangeSpec := { name := "orderWithin", fn := fun _ => fun
  | [d1, d2, d3] => { results := [.lit (.bool false)], args := [d1, d2, d3] }
  | _ => none }
def OrderWithinWrongFalsely : Prop := orderWithinRow.holds Try.pinned (OpenSpec.ofChange orderWithinWrong)

/-- 'canopylaw15.BoundsOrder': WHATEVER THE INPUT: true; the input reads as it did. -/
def boundsOrderSpec : ChangeSpec := { name := "boundsOrder", fn := fun _ => fun
  | [d1, d2, d3, d4] => { results := [.lit (.bool true)], args := [d1, d2, d3, d4] }
  | _ => none }
def boundsOrderRow : OpenClaim := { program := "ytfleilibjdgcjaa", sum := "6edddc5d9090cde218a3dcd7e7eb567ea60e6074857aeb7340e4cc34df142d51", func := "canopy/canopylaw15.BoundsOrder", spec := "boundsOrder", unfollowed := true, recurses := true, plainKeys := false, apart := false }
def BoundsOrderSaid : Prop := boundsOrderRow.holds Try.pinned (OpenSpec.ofChange boundsOrderSpec)

/-- ITS FALSE NEIGHBOUR: 'it returns false'. Refute it at one input. -/
def boundsOrderWrong : ChangeSpec := { name := "boundsOrder", fn := fun _ => fun
  | [d1, d2, d3, d4] => { results := [.lit (.bool false)], args := [d1, d2, d3, d4] }
  | _ => none }
def BoundsOrderWrongFalsely : Prop := boundsOrderRow.holds Try.pinned (OpenSpec.ofChange boundsOrderWrong)

/-- 'canopylaw15.BoundsPoints': WHATEVER THE INPUT: true; the input reads as it did. -/
def boundsPointsSpec : ChangeSpec := { name := "boundsPoints", fn := fun _ => fun
  | [d1, d2, d3] => { results := [.lit (.bool true)], args := [d1, d2, d3] }
  | _ => none }
def boundsPointsRow : OpenClaim := { program := "ytfleilibjdgcjaa", sum := "6edddc5d9090cde218a3dcd7e7eb567ea60e6074857aeb7340e4cc34df142d51", func := "canopy/canopylaw15.BoundsPoints", spec := "boundsPoints", unfollowed := true, recurses := true, plainKeys := false, apart := false }
def BoundsPointsSaid : Prop := boundsPointsRow.holds Try.pinned (OpenSpec.ofChange boundsPointsSpec)

/-- ITS FALSE NEIGHBOUR: 'it returns false'. Refute it at one input. -/
def boundsPointsWrong : ChangeSpec := { name := "boundsPoints", fn := fun _ => fun
  | [d1, d2, d3] => { results := [.lit (.bool false)], args := [d1, d2, d3] }
  | _ => none }
def BoundsPointsWrongFalsely : Prop := boundsPointsRow.holds Try.pinned (OpenSpec.ofChange boundsPointsWrong)

/-- 'canopylaw04.OrderTwos': WHATEVER THE INPUT: true; the input reads as it did. -/
def orderTwosSpec : ChangeSpec := { name := "orderTwos", fn := fun _ => fun
  | [d1, d2, d3] => { results := [.lit (.bool true)], args := [d1, d2, d3] }
  | _ => none }
def orderTwosRow : OpenClaim := { program := "ytfleilibjdgcjaa", sum := "6edddc5d9090cde218a3dcd7e7eb567ea60e6074857aeb7340e4cc34df142d51", func := "canopy/canopylaw04.OrderTwos", spec := "orderTwos", unfollowed := true, recurses := true, plainKeys := false, apart := false }
def OrderTwosSaid : Prop := orderTwosRow.holds Try.pinned (OpenSpec.ofChange orderTwosSpec)

/-- ITS FALSE NEIGHBOUR: 'it returns false'. Refute it at one input. -/
def orderTwosWrong : ChangeSpec := { name := "orderTwos", fn := fun _ => fun
  | [d1, d2, d3] => { results := [.lit (.bool false)], args := [d1, d2, d3] }
  | _ => none }
def OrderTwosWrongFalsely : Prop := orderTwosRow.holds Try.pinned (OpenSpec.ofChange orderTwosWrong)

/-- 'canopylaw04.OrderShadows': WHATEVER THE INPUT: true; the input reads as it did. -/
def orderShadowsSpec : ChangeSpec := { name := "orderShadows", fn := fun _ => fun
  | [d1, d2, d3, d4] => { results := [.lit (.bool true)], args := [d1, d2, d3, d4] }
  | _ => none }
def orderShadowsRow : OpenClaim := { program := "ytfleilibjdgcjaa", sum := "6edddc5d9090cde218a3dcd7e7eb567ea60e6074857aeb7340e4cc34df142d51", func := "canopy/canopylaw04.OrderShadows", spec := "orderShadows", unfollowed := true, recurses := true, plainKeys := false, apart := false }
def OrderShadowsSaid : Prop := orderShadowsRow.holds Try.pinned (OpenSpec.ofChange orderShadowsSpec)

/-- ITS FALSE NEIGHBOUR: 'it returns false'. Refute it at one input. -/
def orderShadowsWrong : ChangeSpec := { name := "orderShadows", fn := fun _ => fun
  | [d1, d2, d3, d4] => { results := [.lit (.bool false)], args := [d1, d2, d3, d4] }
  | _ => none }
def OrderShadowsWrongFalsely : Prop := orderShadowsRow.holds Try.pinned (OpenSpec.ofChange orderShadowsWrong)

/-- 'canopylaw04.OrderTotal': WHATEVER THE INPUT: true; the input reads as it did. -/
def orderTotalSpec : ChangeSpec := { name := "orderTotal", fn := fun _ => fun
  | [d1, d2, d3, d4] => { results := [.lit (.bool true)], args := [d1, d2, d3, d4] }
  | _ => none }
def orderTotalRow : OpenClaim := { program := "ytfleilibjdgcjaa", sum := "6edddc5d9090cde218a3dcd7e7eb567ea60e6074857aeb7340e4cc34df142d51", func := "canopy/canopylaw04.OrderTotal", spec := "orderTotal", unfollowed := true, recurses := true, plainKeys := false, apart := false }
def OrderTotalSaid : Prop := orderTotalRow.holds Try.pinned (OpenSpec.ofChange orderTotalSpec)

/-- ITS FALSE NEIGHBOUR: 'it returns false'. Refute it at one input. -/
def orderTotalWrong : ChangeSpec := { name := "orderTotal", fn := fun _ => fun
  | [d1, d2, d3, d4] => { results := [.lit (.bool false)], args := [d1, d2, d3, d4] }
  | _ => none }
def OrderTotalWrongFalsely : Prop := orderTotalRow.holds Try.pinned (OpenSpec.ofChange orderTotalWrong)

/-- 'canopylaw04.OrderDeeps': WHATEVER THE INPUT: true; the input reads as it did. -/
def orderDeepsSpec : ChangeSpec := { name := "orderDeeps", fn := fun _ => fun
  | [d1, d2, d3] => { results := [.lit (.bool true)], args := [d1, d2, d3] }
  | _ => none }
def orderDeepsRow : OpenClaim := { program := "ytfleilibjdgcjaa", sum := "6edddc5d9090cde218a3dcd7e7eb567ea60e6074857aeb7340e4cc34df142d51", func := "canopy/canopylaw04.OrderDeeps", spec := "orderDeeps", unfollowed := true, recurses := true, plainKeys := false, apart := false }
def OrderDeepsSaid : Prop := orderDeepsRow.holds Try.pinned (OpenSpec.ofChange orderDeepsSpec)

/-- ITS FALSE NEIGHBOUR: 'it returns false'. Refute it at one input. -/
def orderDeepsWrong : ChangeSpec := { name := "orderDeeps", fn := fun _ => fun
  | [d1, d2, d3] => { results := [.lit (.bool false)], args := [d1, d2, d3] }
  | _ => none }
def OrderDeepsWrongFalsely : Prop := orderDeepsRow.holds Try.pinned (OpenSpec.ofChange orderDeepsWrong)

/-- 'canopylaw15.BoundsAll': WHATEVER THE INPUT: true; the input reads as it did. -/
def boundsAllSpec : ChangeSpec := { name := "boundsAll", fn := fun _ => fun
  | [d1, d2, d3, d4] => { results := [.lit (.bool true)], args := [d1, d2, d3, d4] }
  | _ => none }
def boundsAllRow : OpenClaim := { program := "ytfleilibjdgcjaa", sum := "6edddc5d9090cde218a3dcd7e7eb567ea60e6074857aeb7340e4cc34df142d51", func := "canopy/canopylaw15.BoundsAll", spec := "boundsAll", unfollowed := true, recurses := true, plainKeys := false, apart := false }
def BoundsAllSaid : Prop := boundsAllRow.holds Try.pinned (OpenSpec.ofChange boundsAllSpec)

/-- ITS FALSE NEIGHBOUR: 'it returns false'. Refute it at one input. -/
def boundsAllWrong : ChangeSpec := { name := "boundsAll", fn := fun _ => fun
  | [d1, d2, d3, d4] => { results := [.lit (.bool false)], args := [d1, d2, d3, d4] }
  | _ => none }
def BoundsAllWrongFalsely : Prop := boundsAllRow.holds Try.pinned (OpenSpec.ofChange boundsAllWrong)

/-- 'canopylaw15.BoundsParts': WHATEVER THE INPUT: true; the input reads as it did. -/
def boundsPartsSpec : ChangeSpec := { name := "boundsParts", fn := fun _ => fun
  | [d1, d2, d3] => { results := [.lit (.bool true)], args := [d1, d2, d3] }
  | _ => none }
def boundsPartsRow : OpenClaim := { program := "ytfleilibjdgcjaa", sum := "6edddc5d9090cde218a3dcd7e7eb567ea60e6074857aeb7340e4cc34df142d51", func := "canopy/canopylaw15.BoundsParts", spec := "boundsParts", unfollowed := true, recurses := true, plainKeys := false, apart := false }
def BoundsPartsSaid : Prop := boundsPartsRow.holds Try.pinned (OpenSpec.ofChange boundsPartsSpec)

/-- ITS FALSE NEIGHBOUR: 'it returns false'. Refute it at one input. -/
def boundsPartsWrong : ChangeSpec := { name := "boundsParts", fn := fun _ => fun
  | [d1, d2, d3] => { results := [.lit (.bool false)], args := [d1, d2, d3] }
  | _ => none }
def BoundsPartsWrongFalsely : Prop := boundsPartsRow.holds Try.pinned (OpenSpec.ofChange boundsPartsWrong)

/-- 'canopylaw15.BoundsRanges': WHATEVER THE INPUT: true; the input reads as it did. -/
def boundsRangesSpec : ChangeSpec := { name := "boundsRanges", fn := fun _ => fun
  | [d1, d2, d3, d4] => { results := [.lit (.bool true)], args := [d1, d2, d3, d4] }
  | _ => none }
def boundsRangesRow : OpenClaim := { program := "ytfleilibjdgcjaa", sum := "6edddc5d9090cde218a3dcd7e7eb567ea60e6074857aeb7340e4cc34df142d51", func := "canopy/canopylaw15.BoundsRanges", spec := "boundsRanges", unfollowed := true, recurses := true, plainKeys := false, apart := false }
def BoundsRangesSaid : Prop := boundsRangesRow.holds Try.pinned (OpenSpec.ofChange boundsRangesSpec)

/-- ITS FALSE NEIGHBOUR: 'it returns false'. Refute it at one input. -/
def boundsRangesWrong : ChangeSpec := { name := "boundsRanges", fn := fun _ => fun
  | [d1, d2, d3, d4] => { results := [.lit (.bool false)], args := [d1, d2, d3, d4] }
  | _ => none }
def BoundsRangesWrongFalsely : Prop := boundsRangesRow.holds Try.pinned (OpenSpec.ofChange boundsRangesWrong)

/- THE SECOND FORM. 'bulk': how many values and letters a reading holds, each counted each time it is reached (what is shared counts as often as it is met; a slice's spare places count too). A statement '..UptoSaid' is the law's where the arguments, and the package variables that the reading takes, are together of bulk at most 1048576: NARROWER than '..Said'. Prove '..Said' where nothing that the law and all that it calls make is longer than what came in: it says more and counts as full. Else prove '..UptoSaid'. A law counts once. -/
mutual
def uptoBulk {H : Type} : DataW H → Nat
  | .lit (.string bytes) => bytes.length + 1
  | .lit _ => 1
  | .nil => 1
  | .ptr d => uptoBulk d + 1
  | .slice elems spare => uptoBulkAll elems + uptoBulkAll spare + 1
  | .agg parts => uptoBulkAll parts + 1
  | .iface _ d => uptoBulk d + 1
  | .map entries => uptoBulkEntries entries + 1
  | .held _ => 1
def uptoBulkAll {H : Type} : List (DataW H) → Nat
  | [] => 0
  | d :: r => uptoBulk d + uptoBulkAll r
def uptoBulkEntries {H : Type} : List (Lit × DataW H) → Nat
  | [] => 0
  | x :: r => uptoBulkEntry x + uptoBulkEntries r
def uptoBulkEntry {H : Type} : Lit × DataW H → Nat
  | (.string bytes, d) => bytes.length + uptoBulk d + 1
  | (_, d) => uptoBulk d + 1
 end
def uptoSmall : (H : Type) → List (DataW H) → Bool := fun _ ds => decide (uptoBulkAll ds ≤ 1048576)
def OpenSpec.upto (s : _root_.Go.ChangeSpec) : _root_.Go.OpenSpec := { _root_.Go.OpenSpec.ofChange s with cond := some uptoSmall }

/-- 'canopylaw04.OrderTurned', WHERE WHAT IT READS IS OF BULK AT MOST 1048576: true; the input reads as it did. -/
def orderTurnedUptoRow : OpenClaim := { program := "ytfleilibjdgcjaa", sum := "6edddc5d9090cde218a3dcd7e7eb567ea60e6074857aeb7340e4cc34df142d51", func := "canopy/canopylaw04.OrderTurned", spec := "orderTurned", unfollowed := true, recurses := true, plainKeys := false, apart := false, narrowed := true }
def OrderTurnedUptoSaid : Prop := orderTurnedUptoRow.holds Try.pinned (OpenSpec.upto orderTurnedSpec)

/-- 'canopylaw08.ValidInsert', WHERE WHAT IT READS IS OF BULK AT MOST 1048576: true; the input reads as it did. -/
def validInsertUptoRow : OpenClaim := { program := "ytfleilibjdgcjaa", sum := "6edddc5d9090cde218a3dcd7e7eb567ea60e6074857aeb7340e4cc34df142d51", func := "canopy/canopylaw08.ValidInsert", spec := "validInsert", unfollowed := true, recurses := true, plainKeys := false, apart := false, narrowed := true }
def ValidInsertUptoSaid : Prop := validInsertUptoRow.holds Try.pinned (OpenSpec.upto validInsertSpec)

/-- 'canopylaw08.ValidReplace', WHERE WHAT IT READS IS OF BULK AT MOST 1048576: true; the input reads as it did. -/
def validReplaceUptoRow : OpenClaim := { program := "ytfleilibjdgcjaa", sum := "6edddc5d9090cde218a3dcd7e7eb567ea60e6074857aeb7340e4cc34df142d51", func := "canopy/canopylaw08.ValidReplace", spec := "validReplace", unfollowed := true, recurses := true, plainKeys := false, apart := false, narrowed := true }
def ValidReplaceUptoSaid : Prop := validReplaceUptoRow.holds Try.pinned (OpenSpec.upto validReplaceSpec)

/-- 'canopylaw08.ValidDone', WHERE WHAT IT READS IS OF BULK AT MOST 1048576: true; the input reads as it did. -/
def validDoneUptoRow : OpenClaim := { program := "ytfleilibjdgcjaa", sum := "6edddc5d9090cde218a3dcd7e7eb567ea60e6074857aeb7340e4cc34df142d51", func := "canopy/canopylaw08.ValidDone", spec := "validDone", unfollowed := true, recurses := true, plainKeys := false, apart := false, narrowed := true }
def ValidDoneUptoSaid : Prop := validDoneUptoRow.holds Try.pinned (OpenSpec.upto validDoneSpec)

/-- 'canopylaw08.ValidRing', WHERE WHAT IT READS IS OF BULK AT MOST 1048576: true; the input reads as it did. -/
def validRingUptoRow : OpenClaim := { program := "ytfleilibjdgcjaa", sum := "6edddc5d9090cde218a3dcd7e7eb567ea60e6074857aeb7340e4cc34df142d51", func := "canopy/canopylaw08.ValidRing", spec := "validRing", unfollowed := true, recurses := true, plainKeys := false, apart := false, narrowed := true }
def ValidRingUptoSaid : Prop := validRingUptoRow.holds Try.pinned (OpenSpec.upto validRingSpec)

/-- 'canopylaw08.ValidElsewhere', WHERE WHAT IT READS IS OF BULK AT MOST 1048576: true; the input reads as it did. -/
def validElsewhereUptoRow : OpenClaim := { program := "ytfleilibjdgcjaa", sum := "6edddc5d9090cde218a3dcd7e7eb567ea60e6074857aeb7340e4cc34df142d51", func := "canopy/canopylaw08.ValidElsewhere", spec := "validElsewhere", unfollowed := true, recurses := true, plainKeys := false, apart := false, narrowed := true }
def ValidElsewhereUptoSaid : Prop := validElsewhereUptoRow.holds Try.pinned (OpenSpec.upto validElsewhereSpec)

/-- 'canopylaw04.OrderWithin', WHERE WHAT IT READS IS OF BULK AT MOST 1048576: true; the input reads as it did. -/
def orderWithinUptoRow : OpenClaim := { program := "ytfleilibjdgcjaa", sum := "6edddc5d9090cde218a3dcd7e7eb567ea60e6074857aeb7340e4cc34df142d51", func := "canopy/canopylaw04.OrderWithin", spec := "orderWithin", unfollowed := true, recurses := true, plainKeys := false, apart := false, narrowed := true }
def OrderWithinUptoSaid : Prop := orderWithinUptoRow.holds Try.pinned (OpenSpec.upto orderWithinSpec)

/-- 'canopylaw15.BoundsOrder', WHERE WHAT IT READS IS OF BULK AT MOST 1048576: true; the input reads as it did. -/
def boundsOrderUptoRow : OpenClaim := { program := "ytfleilibjdgcjaa", sum := "6edddc5d9090cde218a3dcd7e7eb567ea60e6074857aeb7340e4cc34df142d51", func := "canopy/canopylaw15.BoundsOrder", spec := "boundsOrder", unfollowed := true, recurses := true, plainKeys := false, apart := false, narrowed := true }
def BoundsOrderUptoSaid : Prop := boundsOrderUptoRow.holds Try.pinned (OpenSpec.upto boundsOrderSpec)

/-- 'canopylaw15.BoundsPoints', WHERE WHAT IT READS IS OF BULK AT MOST 1048576: true; the input reads as it did. -/
def boundsPointsUptoRow : OpenClaim := { program := "ytfleilibjdgcjaa", sum := "6edddc5d9090cde218a3dcd7e7eb567ea60e6074857aeb7340e4cc34df142d51", func := "canopy/canopylaw15.BoundsPoints", spec := "boundsPoints", unfollowed := true, recurses := true, plainKeys := false, apart := false, narrowed := true }
def BoundsPointsUptoSaid : Prop := boundsPointsUptoRow.holds Try.pinned (OpenSpec.upto boundsPointsSpec)

/-- 'canopylaw04.OrderTwos', WHERE WHAT IT READS IS OF BULK AT MOST 1048576: true; the input reads as it did. -/
def orderTwosUptoRow : OpenClaim := { program := "ytfleilibjdgcjaa", sum := "6edddc5d9090cde218a3dcd7e7eb567ea60e6074857aeb7340e4cc34df142d51", func := "canopy/canopylaw04.OrderTwos", spec := "orderTwos", unfollowed := true, recurses := true, plainKeys := false, apart := false, narrowed := true }
def OrderTwosUptoSaid : Prop := orderTwosUptoRow.holds Try.pinned (OpenSpec.upto orderTwosSpec)

/-- 'canopylaw04.OrderShadows', WHERE WHAT IT READS IS OF BULK AT MOST 1048576: true; the input reads as it did. -/
def orderShadowsUptoRow : OpenClaim := { program := "ytfleilibjdgcjaa", sum := "6edddc5d9090cde218a3dcd7e7eb567ea60e6074857aeb7340e4cc34df142d51", func := "canopy/canopylaw04.OrderShadows", spec := "orderShadows", unfollowed := true, recurses := true, plainKeys := false, apart := false, narrowed := true }
def OrderShadowsUptoSaid : Prop := orderShadowsUptoRow.holds Try.pinned (OpenSpec.upto orderShadowsSpec)

/-- 'canopylaw04.OrderTotal', WHERE WHAT IT READS IS OF BULK AT MOST 1048576: true; the input reads as it did. -/
def orderTotalUptoRow : OpenClaim := { program := "ytfleilibjdgcjaa", sum := "6edddc5d9090cde218a3dcd7e7eb567ea60e6074857aeb7340e4cc34df142d51", func := "canopy/canopylaw04.OrderTotal", spec := "orderTotal", unfollowed := true, recurses := true, plainKeys := false, apart := false, narrowed := true }
def OrderTotalUptoSaid : Prop := orderTotalUptoRow.holds Try.pinned (OpenSpec.upto orderTotalSpec)

/-- 'canopylaw04.OrderDeeps', WHERE WHAT IT READS IS OF BULK AT MOST 1048576: true; the input reads as it did. -/
def orderDeepsUptoRow : OpenClaim := { program := "ytfleilibjdgcjaa", sum := "6edddc5d9090cde218a3dcd7e7eb567ea60e6074857aeb7340e4cc34df142d51", func := "canopy/canopylaw04.OrderDeeps", spec := "orderDeeps", unfollowed := true, recurses := true, plainKeys := false, apart := false, narrowed := true }
def OrderDeepsUptoSaid : Prop := orderDeepsUptoRow.holds Try.pinned (OpenSpec.upto orderDeepsSpec)

/-- 'canopylaw15.BoundsAll', WHERE WHAT IT READS IS OF BULK AT MOST 1048576: true; the input reads as it did. -/
def boundsAllUptoRow : OpenClaim := { program := "ytfleilibjdgcjaa", sum := "6edddc5d9090cde218a3dcd7e7eb567ea60e6074857aeb7340e4cc34df142d51", func := "canopy/canopylaw15.BoundsAll", spec := "boundsAll", unfollowed := true, recurses := true, plainKeys := false, apart := false, narrowed := true }
def BoundsAllUptoSaid : Prop := boundsAllUptoRow.holds Try.pinned (OpenSpec.upto boundsAllSpec)

/-- 'canopylaw15.BoundsParts', WHERE WHAT IT READS IS OF BULK AT MOST 1048576: true; the input reads as it did. -/
def boundsPartsUptoRow : OpenClaim := { program := "ytfleilibjdgcjaa", sum := "6edddc5d9090cde218a3dcd7e7eb567ea60e6074857aeb7340e4cc34df142d51", func := "canopy/canopylaw15.BoundsParts", spec := "boundsParts", unfollowed := true, recurses := true, plainKeys := false, apart := false, narrowed := true }
def BoundsPartsUptoSaid : Prop := boundsPartsUptoRow.holds Try.pinned (OpenSpec.upto boundsPartsSpec)

/-- 'canopylaw15.BoundsRanges', WHERE WHAT IT READS IS OF BULK AT MOST 1048576: true; the input reads as it did. -/
def boundsRangesUptoRow : OpenClaim := { program := "ytfleilibjdgcjaa", sum := "6edddc5d9090cde218a3dcd7e7eb567ea60e6074857aeb7340e4cc34df142d51", func := "canopy/canopylaw15.BoundsRanges", spec := "boundsRanges", unfollowed := true, recurses := true, plainKeys := false, apart := false, narrowed := true }
def BoundsRangesUptoSaid : Prop := boundsRangesUptoRow.holds Try.pinned (OpenSpec.upto boundsRangesSpec)

end Rows
end Go.Proofs.Ytfleilibjdgcjaa
