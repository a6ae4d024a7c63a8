/-
  No cell of these rows narrows 'for every input' (looked for: loops, veiled, ifaces, maps, wideKeys, modest, calm, conditions, laid).
  DERIVED. THE GIVEN ROWS OF THIS SEAT. 3 by the template 'for every input the law returns true; each argument reads behind the call as it read before'; 0 by the template 'total and deterministic' (their statements: YthodcjjgimeeoaaGreatTotals.lean).
  GIVEN WITH THE SEED: the statements are not yours to turn. If you find one false, say at which input.
  Laid BY PROGRAM, IN A SANDBOX (cutbox-rows.mjs): the forced cells as the released guide's own fill.sh prints them over the translation 539d83e2dee62ca6… (all of the seat's roots in one cut). By AI agents, Wed Nov 11 2026. No macro, syntax, notation, axiom, sorry.
-/
import Derived.Test.YthodcjjgimeeoaaGreatChecked
import GoSem.Claim
import GoSem.ClaimJoined
import GoSem.ClaimMapViews
import Derived.JoinedTies
import Derived.KernelRfl
namespace Go.Proofs.YthodcjjgimeeoaaGreat
/- THE CELL 'sum', in the pinned program and in every row, IS THE sha256 OF THE DUMP (.gsa) THAT YthodcjjgimeeoaaGreatProg.lean LOADS. Nothing in Lean hashes anything: it is a label: what it is worth is what the hold of that sum in a sandbox is worth. -/
noncomputable def Tryz.pinned : Pinned := { name := "ythodcjjgimeeoaagreat", sum := "539d83e2dee62ca671d59148dd7de1cd4e0741cb2372ddd626ff29e720610e3e", checked := Tryz.checked }
namespace Rows
def none {H : Type} : Left H := { results := [], args := [] }

/-- 'canopylaw20.PathBuilds': WHATEVER THE INPUT: true; the input reads as it did. -/
def pathBuildsSpec : ChangeSpec := { name := "pathBuilds", fn := fun _ => fun
  | [d1, d2, d3, d4, d5] => { results := [.lit (.bool true)], args := [d1, d2, d3, d4, d5] }
  | _ => none }
def pathBuildsRow : OpenClaim := { program := "ythodcjjgimeeoaagreat", sum := "539d83e2dee62ca671d59148dd7de1cd4e0741cb2372ddd626ff29e720610e3e", func := "canopy/canopylaw20.PathBuilds", spec := "pathBuilds", unfollowed := true, recurses := true, plainKeys := false, apart := false }
def PathBuildsSaid : Prop := pathBuildsRow.holds Tryz.pinned (OpenSpec.ofChange pathBuildsSpec)

/-- ITS FALSE NEIGHBOUR: 'it returns false'. Refute it at one input. -/
def pathBuildsWrong : ChangeSpec := { name := "pathBuilds", fn := fun _ => fun
  | [d1, d2, d3, d4, d5] => { results := [.lit (.bool false)], args := [d1, d2, d3, d4, d5] }
  | _ => none }
def PathBuildsWrongFalsely : Prop := pathBuildsRow.holds Tryz.pinned (OpenSpec.ofChange pathBuildsWrong)

/-- 'canopylaw19.FlatSlots': WHATEVER THE INPUT: true; the input reads as it did. -/
def flatSlotsSpec : ChangeSpec := { name := "flatSlots", fn := fun _ => fun
  | [d1, d2, d3, d4] => { results := [.lit (.bool true)], args := [d1, d2, d3, d4] }
  | _ => none }
def flatSlotsRow : OpenClaim := { program := "ythodcjjgimeeoaagreat", sum := "539d83e2dee62ca671d59148dd7de1cd4e0741cb2372ddd626ff29e720610e3e", func := "canopy/canopylaw19.FlatSlots", spec := "flatSlots", unfollowed := true, recurses := true, plainKeys := false, apart := false }
def FlatSlotsSaid : Prop := flatSlotsRow.holds Tryz.pinned (OpenSpec.ofChange flatSlotsSpec)

/-- ITS FALSE NEIGHBOUR: 'it returns false'. Refute it at one input. -/
def flatSlotsWrong : ChangeSpec := { name := "flatSlots", fn := fun _ => fun
  | [d1, d2, d3, d4] => { results := [.lit (.bool false)], args := [d1, d2, d3, d4] }
  | _ => none }
def FlatSlotsWrongFalsely : Prop := flatSlotsRow.holds Tryz.pinned (OpenSpec.ofChange flatSlotsWrong)

/-- 'canopylaw19.FlatTrees': WHATEVER THE INPUT: true; the input reads as it did. -/
def flatTreesSpec : ChangeSpec := { name := "flatTrees", fn := fun _ => fun
  | [d1, d2, d3] => { results := [.lit (.bool true)], args := [d1, d2, d3] }
  | _ => none }
def flatTreesRow : OpenClaim := { program := "ythodcjjgimeeoaagreat", sum := "539d83e2dee62ca671d59148dd7de1cd4e0741cb2372ddd626ff29e720610e3e", func := "canopy/canopylaw19.FlatTrees", spec := "flatTrees", unfollowed := true, recurses := true, plainKeys := false, apart := false }
def FlatTreesSaid : Prop := flatTreesRow.holds Tryz.pinned (OpenSpec.ofChange flatTreesSpec)

/-- ITS FALSE NEIGHBOUR: 'it returns false'. Refute it at one input. -/
def flatTreesWrong : ChangeSpec := { name := "flatTrees", fn := fun _ => fun
  | [d1, d2, d3] => { results := [.lit (.bool false)], args := [d1, d2, d3] }
  | _ => none }
def FlatTreesWrongFalsely : Prop := flatTreesRow.holds Tryz.pinned (OpenSpec.ofChange flatTreesWrong)

/- THE SECOND FORM. 'bulk': how many values and letters a reading holds, each counted each time it is reached (what is shared counts as often as it is met; a slice's spare places count too). A statement '..UptoSaid' is the law's where the arguments, and the package variables that the reading takes, are together of bulk at most 1048576: NARROWER than '..Said'. Prove '..Said' where nothing that the law and all that it calls make is longer than what came in: it says more and counts as full. Else prove '..UptoSaid'. A law counts once. -/
mutual
def uptoBulk {H : Type} : DataW H → Nat
  | .lit (.string bytes) => bytes.length + 1
  | .lit _ => 1
  | .nil => 1
  | .ptr d => uptoBulk d + 1
  | .slice elems spare => uptoBulkAll elems + uptoBulkAll spare + 1
  | .agg parts => uptoBulkAll parts + 1
  | .iface _ d => uptoBulk d + 1
  | .map entries => uptoBulkEntries entries + 1
  | .held _ => 1
def uptoBulkAll {H : Type} : List (DataW H) → Nat
  | [] => 0
  | d :: r => uptoBulk d + uptoBulkAll r
def uptoBulkEntries {H : Type} : List (Lit × DataW H) → Nat
  | [] => 0
  | x :: r => uptoBulkEntry x + uptoBulkEntries r
def uptoBulkEntry {H : Type} : Lit × DataW H → Nat
  | (.string bytes, d) => bytes.length + uptoBulk d + 1
  | (_, d) => uptoBulk d + 1
 end
def uptoSmall : (H : Type) → List (DataW H) → Bool := fun _ ds => decide (uptoBulkAll ds ≤ 1048576)
def OpenSpec.upto (s : _root_.Go.ChangeSpec) : _root_.Go.OpenSpec := { _root_.Go.OpenSpec.ofChange s with cond := some uptoSmall }

/-- 'canopylaw20.PathBuilds', WHERE WHAT IT READS IS OF BULK AT MOST 1048576: true; the input reads as it did. -/
def pathBuildsUptoRow : OpenClaim := { program := "ythodcjjgimeeoaagreat", sum := "539d83e2dee62ca671d59148dd7de1cd4e0741cb2372ddd626ff29e720610e3e", func := "canopy/canopylaw20.PathBuilds", spec := "pathBuilds", unfollowed := true, recurses := true, plainKeys := false, apart := false, narrowed := true }
def PathBuildsUptoSaid : Prop := pathBuildsUptoRow.holds Tryz.pinned (OpenSpec.upto pathBuildsSpec)

/-- 'canopylaw19.FlatSlots', WHERE WHAT IT READS IS OF BULK AT MOST 1048576: true; the input reads as it did. -/
def flatSlotsUptoRow : OpenClaim := { program := "ythodcjjgimeeoaagreat", sum := "539d83e2dee62ca671d59148dd7de1cd4e0741cb2372ddd626ff29e720610e3e", func := "canopy/canopylaw19.FlatSlots", spec := "flatSlots", unfollowed := true, recurses := true, plainKeys := false, apart := false, narrowed := true }
def FlatSlotsUptoSaid : Prop := flatSlotsUptoRow.holds Tryz.pinned (OpenSpec.upto flatSlotsSpec)

/-- 'canopylaw19.FlatTrees', WHERE WHAT IT READS IS OF BULK AT MOST 1048576: true; the input reads as it did. -/
def flatTreesUptoRow : OpenClaim := { program := "ythodcjjgimeeoaagreat", sum := "539d83e2dee62ca671d59148dd7de1cd4e0741cb2372ddd626ff29e720610e3e", func := "canopy/canopylaw19.FlatTrees", spec := "flatTrees", unfollowed := true, recurses := true, plainKeys := false, apart := false, narrowed := true }
def FlatTreesUptoSaid : Prop := flatTreesUptoRow.holds Tryz.pinned (OpenSpec.upto flatTreesSpec)

end Rows
end Go.Proofs.YthodcjjgimeeoaaGreat
